/- Helper facts for the statements of this seat; no statement itself. -/
import Derived.Test.YtgdcgmnfgbdiiaaB
import Derived.ChangeKeysEq
import Derived.Laws.StructEq
import Derived.Outline
namespace Go.Proofs.Ytgdcgmnfgbdiiaa
open Go.RowKit
set_option linter.unusedSimpArgs false
set_option linter.unusedVariables false
set_option linter.unnecessarySimpa false

def zB (n : Nat) : List Bool := List.replicate n false
theorem zB_len (n : Nat) : (zB n).length = n := List.length_replicate
theorem zB_get (n i : Nat) : (zB n).getD i false = false := by unfold zB; simp only [List.getD, List.getElem?_replicate]; split <;> rfl
/-- Cells of bools. -/
def bC (A : List Bool) : Array Value := (A.map Value.bool).toArray
theorem bC_get? (A : List Bool) (k : Nat) (h : k < A.length) : (bC A)[k]? = some (.bool (A.getD k false)) := by simp [bC, List.getD, h]
/-- An array, or a struct, loaded from the middle of a block. -/
theorem run_loadVar_mid {P : Program} (w : World) (g off : Nat) (ty : TypeId) (vs : List Value) (d : TypeDesc) (hc : ∀ j v, vs[j]? = some v → w.cell? ⟨g, off + j, none⟩ = some v)
    (hu : P.underlying ty = some d) (hd : (match d with | .struct _ | .array _ _ => true | _ => false) = true) (hi : (P.info? ty).map (·.size) = some vs.length) :
    (loadVar ty ⟨g, off, none⟩).run P w = .ok (.agg vs.toArray) w := by
  have hl : (loadCells ⟨g, off, none⟩ vs.length).run P w = .ok vs.toArray w :=
    run_loadCells_list (P := P) w ⟨g, off, none⟩ vs (fun j v hv => by
      have hadd : (⟨g, off, none⟩ : Addr).add j = ⟨g, off + j, none⟩ := by unfold Addr.add; split <;> simp_all
      rw [hadd]; exact hc j v hv)
  cases hq : P.info? ty with
  | none => simp [hq] at hi
  | some i =>
    have hs : i.size = vs.length := by simpa [hq] using hi
    have hagg : (isAgg ty).run P w = .ok true w := by
      unfold isAgg
      rw [Sem.run_bind, run_underlying hu w]
      cases d <;> simp_all
    simp [loadVar, Sem.run_bind, hagg, sizeOf, typeInfo, hq, hs, hl]
section
variable {ops : Array Oper} {rest : List Oper} {o : Oper} {a : Act} {w : World} {Q : Exit → Act → World → Prop}
theorem size68 : (Try.prog.info? 68).map (·.size) = some 256 := by kernel_rfl
theorem size70 : (Try.prog.info? 70).map (·.size) = some 257 := by kernel_rfl
theorem ld68 (hw : Region.wanted o (yielded ops a.tmps) = true) (x : Operand) (ho : o.op = .load 68 x) (g : Nat) (hx : a.eval x = .pointer (some ⟨g, 1, none⟩)) (t : St) (ty : Nat) (hg : Hid (w.heap[g]? = some (.cells (stC t) ty (0, 0)))) (hl : Hid (t.s.length = 256))
    (h : wpList Try.prog ops Q rest (a.put o.dst (.agg (bC t.s))) w) : wpList Try.prog ops Q (o :: rest) a w :=
  wpList_step fun K hK => by
    rw [if_pos hw]
    unfold Oper.wp execOp
    have hrun := run_loadVar_mid (P := Try.prog) w g 1 68 (t.s.map Value.bool) _ (fun j v hv => by
      have hj : j < t.s.length := by have := (List.getElem?_eq_some_iff.1 hv).1; simpa using this
      rw [stC_k hg.out j hj]
      simpa [List.getD, hj] using hv) Try.underlying68 rfl (by rw [size68]; simp [hl.out])
    simp only [ho, hx, Instr.loadAt, Instr.sureAddr, Sem.run_bind, Sem.run_pure, Result.andThen_ok, hrun]
    exact hK _ _ h
theorem built68 : Try.prog.built 68 [] = some (bC (zB 256)) := by kernel_rfl
theorem bd68 (hw : Region.wanted o (yielded ops a.tmps) = true) (ho : o.op = .build 68 #[]) (h : wpList Try.prog ops Q rest (a.put o.dst (.agg (bC (zB 256)))) w) : wpList Try.prog ops Q (o :: rest) a w :=
  wpList_step fun K hK => by
    rw [if_pos hw]
    refine wp_build 68 #[] ho (by simp only [Array.map_empty]; show (Try.prog.built 68 []).isSome = true; rw [built68]; rfl) (hK _ _ ?_)
    simp only [Array.map_empty]
    show wpList Try.prog ops Q rest (a.put o.dst (.agg ((Try.prog.built 68 []).getD #[]))) w
    rw [built68]
    exact h
end
theorem agg4 (w : World) : (isAgg 4).run Try.prog w = .ok false w := by kernel_rfl
theorem run_itemsB (d : Nat) (c e : List Bool) (w : World) : ∀ is : List Nat, (∀ i ∈ is, i < c.length ∧ i < e.length) →
    (Op.eqItems (d + 1) 4 1 (bC c) (bC e) is).run Try.prog w = .ok (is.all fun i => c.getD i false == e.getD i false) w
  | [], _ => by simp [Op.eqItems]
  | i :: is, h => by
    have hi := h i (by simp)
    have ih := run_itemsB d c e w is (fun j hj => h j (by simp [hj]))
    have p1 : (part 4 (bC c) i).run Try.prog w = .ok (.bool (c.getD i false)) w := by
      simp [part, Sem.run_bind, agg4, bC_get? c i hi.1]
    have p2 : (part 4 (bC e) i).run Try.prog w = .ok (.bool (e.getD i false)) w := by
      simp [part, Sem.run_bind, agg4, bC_get? e i hi.2]
    have p3 : (Op.equalIn (d + 1) 4 (.bool (c.getD i false)) (.bool (e.getD i false))).run Try.prog w = .ok (c.getD i false == e.getD i false) w := by
      generalize c.getD i false = x at *
      generalize e.getD i false = y at *
      exact run_equalIn_bool' w d 4 x y Try.underlying4
    simp only [Op.eqItems, Sem.run_bind, Nat.mul_one, p1, p2, p3, Result.andThen_ok, List.all_cons]
    by_cases hb : (c.getD i false == e.getD i false) = true
    · simp only [hb, Bool.not_true, Bool.false_eq_true, if_false, ih, Bool.true_and]
    · simp only [Bool.not_eq_true] at hb
      simp only [hb, Bool.not_false, if_true, Sem.run_pure, Bool.false_and]
theorem cells4 : Try.prog.cellsOf 4 = 1 := by kernel_rfl
theorem none_all (s : List Bool) (h : s.length = 256) : ((List.range 256).all fun i => s.getD i false == (zB 256).getD i false) = !(s.any id) := by
  rw [Bool.eq_iff_iff]
  simp only [List.all_eq_true, List.mem_range, beq_iff_eq, Bool.not_eq_true', List.any_eq_false, id]
  constructor
  · intro hh x hx hx2
    obtain ⟨i, hi, rfl⟩ := List.getElem_of_mem hx
    have := hh i (by omega)
    rw [zB_get] at this
    simp only [List.getD, List.getElem?_eq_getElem hi, Option.getD_some] at this
    rw [this] at hx2; cases hx2
  · intro hh i hi
    have h1 : s.getD i false = s[i]'(by omega) := by simp [List.getD, show i < s.length by omega]
    have h2 := zB_get 256 i
    rw [h1, h2]
    have := hh (s[i]'(by omega)) (List.getElem_mem _)
    cases hv : s[i]'(by omega)
    · rfl
    · exact absurd hv this
theorem eq68 (s : List Bool) (h : s.length = 256) (w : World) : (Op.equalIn 10000 68 (.agg (bC s)) (.agg (bC (zB 256)))).run Try.prog w = .ok (!(s.any id)) w := by
  obtain ⟨i, hi⟩ : ∃ i, Try.prog.info? 4 = some i := by
    cases hq : Try.prog.info? 4 with
    | none =>
      have : (Try.prog.info? 4).map (·.size) = some 1 := by kernel_rfl
      simp [hq] at this
    | some i => exact ⟨i, rfl⟩
  show (Op.equalIn (9998 + 1 + 1) 68 _ _).run Try.prog w = _
  rw [run_equalIn_array w (9998 + 1) _ _ Try.underlying68 hi, cells4, run_itemsB 9998 s _ w _ (fun i h' => by rw [zB_len, h]; exact ⟨List.mem_range.1 h', List.mem_range.1 h'⟩), none_all s h]

set_option maxRecDepth 100000 in
set_option maxHeartbeats 1000000 in
theorem none_any (t : St) (g ty : Nat) (w : World) (hw : t.Wf) (hg : w.heap[g]? = some (.cells (stC t) ty (0, 0))) : Calls Try.prog 52 #[.pointer (some ⟨g, 0, none⟩)] w fun e w' => e = .returned (.bool (nonB t)) ∧ w = w' := by
  have HG := Lib.hid hg
  have HZ := Lib.hid (enc_zero hw.1)
  have HS : Hid (t.s.length = 256) := hw.2
  have HN : Hid (nonB t = (!(t.a.any id) && !(t.s.any id))) := rfl
  have hq := eq68 t.s hw.2
  have c0 := stC_0 hg
  have hgd : Try.prog.eqGuardType Try.prog.depth 68 = false := by kernel_rfl
  clear hg hw
  generalize nonB t = r at *
  cases ha : (t.a.any id) with
  | true =>
    rw [ha] at HZ HN
    have hz : (enc t.a == 0) = false := HZ.out
    have HN2 : Hid (r = false) := HN.out
    clear HZ HN hq ha
    go_enter Try.func52, Try.ntmps52
    go_wp2_with fail
    go_ret
    exact ⟨by rw [HN2.out]; rfl, rfl⟩
  | false =>
    rw [ha] at HZ HN
    have hz : (enc t.a == 0) = true := HZ.out
    have HN2 : Hid (r = !(t.s.any id)) := by show _ = _; rw [HN.out]; rfl
    clear HZ HN ha
    generalize (!(t.s.any id)) = q at *
    go_enter Try.func52, Try.ntmps52
    go_wp2_with (first | ((with_reducible refine ld68 ?a1 (.tmp 11) ?a2 g ?a3 t ty HG HS ?_); (case a1 => rfl); (case a2 => rfl); (case a3 => rfl)) | ((with_reducible refine bd68 ?b1 ?b2 ?_); (case b1 => rfl); (case b2 => rfl)))
    go_ret
    exact ⟨by rw [HN2.out]; rfl, rfl⟩
end Go.Proofs.Ytgdcgmnfgbdiiaa
