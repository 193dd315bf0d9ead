/- Helper facts for the statements of this seat; no statement itself. -/
import Derived.Test.YtgdcgmnfgbdiiaaD
import Derived.Deep.DeepCutAuto
import Derived.Outline
namespace Go.Proofs.Ytgdcgmnfgbdiiaa
open Go.RowKit
set_option linter.unusedSimpArgs false
set_option linter.unusedVariables false
set_option linter.unnecessarySimpa false

/-- No process and no slot. -/
def zSt : St := ⟨zB 9, zB 256⟩
theorem zSt_wf : zSt.Wf := ⟨zB_len 9, zB_len 256⟩
theorem zero70 (w : World) : Sem.run Try.prog (zeroValue 70) w = .ok (.agg (stC zSt)) w := by kernel_rfl
section
variable {ops : Array Oper} {rest : List Oper} {o : Oper} {a : Act} {w : World} {Q : Exit → Act → World → Prop}
/-- A whole state loaded, stored, stored into the block that was made last. -/
theorem ld70 (hgd : o.guard = none) (x : Operand) (ho : o.op = .load 70 x) (g : Nat) (hx : a.eval x = .pointer (some ⟨g, 0, none⟩)) (t : St) (ty : TypeId) (hg : Hid (w.heap[g]? = some (.cells (stC t) ty (0, 0)))) (hw : Hid t.Wf)
    (h : wpList Try.prog ops Q rest (a.put o.dst (.agg (stC t))) w) : wpList Try.prog ops Q (o :: rest) a w :=
  wpList_load_row hgd 70 x ho g hx ty (stC t) (0, 0) _ hg.out Try.underlying70 rfl (by rw [size70, stC_size hw.out]) h
theorem st70 (hgd : o.guard = none) (x y : Operand) (ho : o.op = .store 70 x y) (g : Nat) (t t' : St) (ty : TypeId) (hx : a.eval x = .pointer (some ⟨g, 0, none⟩)) (hy : a.eval y = .agg (stC t')) (hg : Hid (w.heap[g]? = some (.cells (stC t) ty (0, 0)))) (hw : Hid t.Wf) (hw' : Hid t'.Wf)
    (h : wpList Try.prog ops Q rest (a.put o.dst undef) (w.setRow g (stC t'))) : wpList Try.prog ops Q (o :: rest) a w :=
  wpList_store_row hgd 70 x y ho g (stC t') hx hy ty (stC t) hg.out (by rw [size70, stC_size hw'.out]) (by rw [stC_size hw.out, stC_size hw'.out]) (stC_one t') h
theorem st70n {W : World} {ty : TypeId} (hgd : o.guard = none) (x y : Operand) (ho : o.op = .store 70 x y) (t t' : St) (hx : a.eval x = .pointer (some ⟨W.heap.size, 0, none⟩)) (hy : a.eval y = .agg (stC t')) (hw : Hid t.Wf) (hw' : Hid t'.Wf)
    (h : wpList Try.prog ops Q rest (a.put o.dst undef) (W.alloc (.cells (stC t') ty))) : wpList Try.prog ops Q (o :: rest) a (W.alloc (.cells (stC t) ty)) :=
  st70 hgd x y ho W.heap.size t t' ty hx hy (h1_0 _ _) hw hw' (by rw [World.setRow_alloc_new]; exact h)
end
theorem res70 {fn : Func} {p : Tmp} (h : fn.results = #[.cell p 70]) (tmps : Array Value) (w : World) (g : Nat) (ty : TypeId) (t : St) (hw : t.Wf) (hp : tmps.getD p undef = .pointer (some ⟨g, 0, none⟩)) (hg : w.heap[g]? = some (.cells (stC t) ty (0, 0))) :
    (results fn tmps).run Try.prog w = .ok (.agg (stC t)) w := results_cell_row h tmps w g ty (stC t) (0, 0) _ hp hg Try.underlying70 rfl (by rw [size70, stC_size hw])

set_option maxRecDepth 100000 in
set_option maxHeartbeats 1000000 in
theorem owes_any (t : St) (w : World) (hw : t.Wf) : Calls Try.prog 50 #[.agg (stC t)] w fun e w' => e = .returned (.agg (stC (ows t))) ∧ Below w.heap.size w w' := by
  have HA := Lib.hid hw.1
  have HW := Lib.hid hw
  have HO : Hid (ows t).Wf := Wf_ows hw
  have HZ := Lib.hid zSt_wf
  clear hw
  have hz := zero70
  have c0 : ((w.alloc (.cells (stC t) 70)).alloc (.cells (stC zSt) 70)).cell? ⟨w.heap.size, 0, none⟩ = some (.int .u16 (enc t.a)) := stC_0 (h2_0 _ _ _)
  have f0 : ((w.alloc (.cells (stC t) 70)).alloc (.cells (stC zSt) 70)).frozen? ⟨w.heap.size, 0, none⟩ = false := fr (h2_0 _ _ _)
  go_enter Try.func50, Try.ntmps50
  go_wp2_with fail
  refine (with_any t.a 0 _ HA.out (by omega) (by omega)).mono ?_
  rintro e w1 ⟨rfl, rfl⟩
  have X1 : Hid (((w.alloc (.cells (stC t) 70)).alloc (.cells (stC zSt) 70)).heap[w.heap.size]? = some (.cells (stC t) 70 (0, 0)) ∧ ((w.alloc (.cells (stC t) 70)).alloc (.cells (stC zSt) 70)).heap[w.heap.size + 1]? = some (.cells (stC zSt) 70 (0, 0))) := ⟨h2_0 _ _ _, h2_1 _ _ _⟩
  have B1 : Hid (Below w.heap.size w ((w.alloc (.cells (stC t) 70)).alloc (.cells (stC zSt) 70))) := (((Below.refl _ _).alloc (Nat.le_refl _) _).alloc (by simp only [World.size_alloc] <;> omega) _)
  obtain ⟨g, hg⟩ : ∃ g, g = w.heap.size := ⟨_, rfl⟩
  rw [← hg] at X1 c0 f0 ⊢
  have hgw : w.heap.size ≤ g := by omega
  clear hg
  generalize (w.alloc (.cells (stC t) 70)).alloc (.cells (stC zSt) 70) = W1 at *
  go_upto_region 2 with fail
  rw [show W1.setCell ⟨g, 0, none⟩ (.int .u16 (enc (t.a.set 0 true))) = W1.setRow g (stC (ows t)) from stC_put0 X1.out.1 _]
  have X2 : Hid ((W1.setRow g (stC (ows t))).heap[g]? = some (.cells (stC (ows t)) 70 (0, 0))) := setRow_heap _ _ _ _ _ _ X1.out.1
  have Y2 : Hid ((W1.setRow g (stC (ows t))).heap[g + 1]? = some (.cells (stC zSt) 70 (0, 0))) := (setRow_other _ _ _ _ (by omega)).trans X1.out.2
  have B2 : Hid (Below w.heap.size w (W1.setRow g (stC (ows t)))) := below_setRow B1.out hgw _
  clear c0 f0 X1 B1
  generalize W1.setRow g (stC (ows t)) = W2 at *
  go_wp2_with (first | ((with_reducible refine ld70 ?a1 (.tmp 1) ?a2 g ?a3 (ows t) 70 X2 HO ?_); (case a1 => rfl); (case a2 => rfl); (case a3 => rfl)) | ((with_reducible refine st70 ?b1 (.tmp 2) (.tmp 7) ?b2 (g + 1) zSt (ows t) 70 ?b3 ?b4 Y2 HZ HO ?_); (case b1 => rfl); (case b2 => rfl); (case b3 => rfl); (case b4 => rfl)))
  exact bodyPost_ret (v := .agg (stC (ows t))) (res70 (fn := Try.f50) (p := 2) rfl _ _ (g + 1) 70 (ows t) HO.out rfl (setRow_heap _ _ _ _ _ _ Y2.out)) rfl ⟨rfl, below_setRow B2.out (by omega) _⟩
end Go.Proofs.Ytgdcgmnfgbdiiaa
