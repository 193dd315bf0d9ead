/- Helper facts for the statements of this seat; no statement itself. -/
import Derived.Test.YtgdcgmnfgbdiiaaRV
import Derived.Test.YtgdcgmnfgbdiiaaAR
import Derived.Test.YtgdcgmnfgbdiiaaR
import Derived.Deep.RegionHeld3
import Derived.Test.YtgdcgmnfgbdiiaaPG
import Derived.Deep.DeepCutAuto
import Derived.Outline
namespace Go.Proofs.Ytgdcgmnfgbdiiaa
open Go.RowKit
set_option linter.unusedSimpArgs false
set_option linter.unusedVariables false
set_option linter.unnecessarySimpa false

section
variable {ops : Array Oper} {rest : List Oper} {o : Oper} {a : Act} {w : World} {Q : Exit → Act → World → Prop}
theorem ld82 (hgd : o.guard = none) (x : Operand) (ho : o.op = .load 82 x) (g : Nat) (hx : a.eval x = .pointer (some ⟨g, 0, none⟩)) (va vp : Value) (ty : TypeId) (hg : Hid (w.heap[g]? = some (.cells #[va, vp] ty (0, 0))))
    (h : wpList Try.prog ops Q rest (a.put o.dst (.agg #[va, vp])) w) : wpList Try.prog ops Q (o :: rest) a w :=
  wpList_load_row hgd 82 x ho g hx ty #[va, vp] (0, 0) _ hg.out Try.underlying82 rfl (by kernel_rfl) h
theorem st82 (hgd : o.guard = none) (x y : Operand) (ho : o.op = .store 82 x y) (g : Nat) (va vp v1 v2 : Value) (ty : TypeId) (hx : a.eval x = .pointer (some ⟨g, 0, none⟩)) (hy : a.eval y = .agg #[v1, v2]) (hg : Hid (w.heap[g]? = some (.cells #[va, vp] ty (0, 0)))) (h1 : #[v1, v2].all (·.oneCell') = true)
    (h : wpList Try.prog ops Q rest (a.put o.dst undef) (w.setRow g #[v1, v2])) : wpList Try.prog ops Q (o :: rest) a w :=
  wpList_store_row hgd 82 x y ho g #[v1, v2] hx hy ty #[va, vp] hg.out (by kernel_rfl) rfl h1 h
end
theorem res82 {fn : Func} {p : Tmp} (h : fn.results = #[.cell p 82]) (tmps : Array Value) (w : World) (g : Nat) (ty : TypeId) (va vp : Value) (hp : tmps.getD p undef = .pointer (some ⟨g, 0, none⟩)) (hg : w.heap[g]? = some (.cells #[va, vp] ty (0, 0))) :
    (results fn tmps).run Try.prog w = .ok (.agg #[va, vp]) w := results_cell_row h tmps w g ty #[va, vp] (0, 0) _ hp hg Try.underlying82 rfl (by kernel_rfl)
def Pai (va0 vp0 : Value) (D : St) (k x : Int) (w : World) (e : Ending) (w' : World) : Prop := ∃ va vp, e = .returned (.agg #[va, vp]) ∧ IsS w' va vp (pyS D k x) ∧ Below w.heap.size w w' ∧ (va = va0 ∨ Frh w va) ∧ (vp = vp0 ∨ Frh w vp)
def Owe (t : St) (w : World) (e : Ending) (w' : World) : Prop := ∃ va vp, e = .returned (.agg #[va, vp]) ∧ IsS w' va vp (ows t) ∧ Below w.heap.size w w' ∧ Frh w va ∧ Frh w vp
set_option maxRecDepth 100000 in
set_option maxHeartbeats 2000000 in
theorem paid_1 (va vp : Value) (D : St) (j : Nat) (w : World) (hw : D.Wf) (hm : IsS w va vp D) : Calls Try.prog 60 #[.agg #[va, vp], .agg #[.int .i64 1, .int .i64 (j : Int)]] w (Pai va vp D 1 (j : Int) w) := by
  obtain ⟨aa, na, ca, rfl⟩ := hm.1.1.slice
  obtain ⟨ap, np, cp, rfl⟩ := hm.1.2.slice
  have HM := Lib.hid hm
  have HE : Hid (pyS D 1 (j : Int) = ⟨D.a.set j false, D.s⟩) := by show _ = _; unfold pyS; rw [if_pos (.inl rfl), Int.toNat_natCast]
  have HS : Hid (delL (j : Int) (idx D.a) = idx (D.a.set j false)) := del_idx _ _
  clear hm
  have R0 : Hid ((((w.alloc (.cells #[.slice aa na ca, .slice ap np cp] 82)).alloc (.cells #[.int .i64 1, .int .i64 (j : Int)] 37)).alloc (.cells #[.slice none 0 0, .slice none 0 0] 82)).heap[w.heap.size]? = some (.cells #[.slice aa na ca, .slice ap np cp] 82 (0, 0))) := h3_0 _ _ _ _
  have R1 : Hid ((((w.alloc (.cells #[.slice aa na ca, .slice ap np cp] 82)).alloc (.cells #[.int .i64 1, .int .i64 (j : Int)] 37)).alloc (.cells #[.slice none 0 0, .slice none 0 0] 82)).heap[w.heap.size + 1]? = some (.cells #[.int .i64 1, .int .i64 (j : Int)] 37 (0, 0))) := h3_1 _ _ _ _
  have R2 : Hid ((((w.alloc (.cells #[.slice aa na ca, .slice ap np cp] 82)).alloc (.cells #[.int .i64 1, .int .i64 (j : Int)] 37)).alloc (.cells #[.slice none 0 0, .slice none 0 0] 82)).heap[w.heap.size + 1 + 1]? = some (.cells #[.slice none 0 0, .slice none 0 0] 82 (0, 0))) := h3_2 _ _ _ _
  have B0 : Hid (Below w.heap.size w (((w.alloc (.cells #[.slice aa na ca, .slice ap np cp] 82)).alloc (.cells #[.int .i64 1, .int .i64 (j : Int)] 37)).alloc (.cells #[.slice none 0 0, .slice none 0 0] 82))) := ((((Below.refl _ _).alloc (Nat.le_refl _) _).alloc (by simp only [World.size_alloc] <;> omega) _).alloc (by simp only [World.size_alloc] <;> omega) _)
  go_enter Try.func60, Try.ntmps60
  go_upto_region 1 with fail
  generalize ((w.alloc (.cells #[.slice aa na ca, .slice ap np cp] 82)).alloc (.cells #[.int .i64 1, .int .i64 (j : Int)] 37)).alloc (.cells #[.slice none 0 0, .slice none 0 0] 82) = W0 at *
  obtain ⟨g, hg⟩ : ∃ g, g = w.heap.size := ⟨_, rfl⟩
  rw [← hg] at R0 R1 R2 ⊢
  have hgw : w.heap.size ≤ g := by omega
  clear hg
  have hg2 : g + 1 + 1 < W0.heap.size := lt_of_some R2.out
  obtain ⟨d0, d1⟩ := c2 R1.out
  obtain ⟨q0, q1⟩ := c2 R0.out
  go_wp2_with fail
  refine (rwithout_any _ (idx D.a) (j : Int) _ (HM.out.1.1.keep B0.out)).mono ?_
  rintro e w1 ⟨v1, rfl, ho1, hb1⟩
  rw [HS.out] at ho1
  have hi1 := ho1.ints (by have := idx_len (D.a.set j false); rw [List.length_set, hw.1] at this; omega)
  have hc1 := ho1.cap
  have HF1 : Hid (Frh w v1) := fun b hb => by have h1 := (World.ownsRow.lt ho1 b hb).1; have h2 := B0.out.size; omega
  obtain ⟨a1, n1, c1, rfl⟩ := hi1.slice
  have S0 := Lib.hid (bkeep hb1 R0.out)
  have S2 := Lib.hid (bkeep hb1 R2.out)
  have B1 : Hid (Below w.heap.size w w1) := btrans B0.out hb1
  have HI1 := Lib.hid hi1
  have HC1 := Lib.hid hc1
  clear hb1 ho1 hi1 hc1 d0 d1 q0 q1 R0 R1 R2
  obtain ⟨q0, q1⟩ := c2 S0.out
  have f0 := fr (j := 0) S0.out
  go_upto_region 7 with fail
  rw [setCell0 S0.out]
  have T0 : Hid ((w1.setRow g #[.slice a1 n1 c1, .slice ap np cp]).heap[g]? = some (.cells #[.slice a1 n1 c1, .slice ap np cp] 82 (0, 0))) := setRow_heap _ _ _ _ _ _ S0.out
  have T2 : Hid ((w1.setRow g #[.slice a1 n1 c1, .slice ap np cp]).heap[g + 1 + 1]? = some (.cells #[.slice none 0 0, .slice none 0 0] 82 (0, 0))) := (setRow_other _ _ _ _ (by omega)).trans S2.out
  have B2 : Hid (Below w.heap.size w (w1.setRow g #[.slice a1 n1 c1, .slice ap np cp])) := below_setRow B1.out hgw _
  have HI2 : Hid (IsInts (w1.setRow g #[.slice a1 n1 c1, .slice ap np cp]) (.slice a1 n1 c1) (idx (D.a.set j false))) := ints_setRow HI1.out S0.out _
  generalize w1.setRow g #[.slice a1 n1 c1, .slice ap np cp] = w2 at *
  clear q0 q1 f0 S0 S2 B1 HI1
  go_wp2_with (first | ((with_reducible refine ld82 ?a1 (.tmp 2) ?a2 g ?a3 _ _ 82 T0 ?_); (case a1 => rfl); (case a2 => rfl); (case a3 => rfl)) | ((with_reducible refine st82 ?a4 (.tmp 4) (.tmp 24) ?a5 (g + 1 + 1) (.slice none 0 0) (.slice none 0 0) (.slice a1 n1 c1) (.slice ap np cp) 82 ?a6 ?a7 T2 ?a8 ?_); (case a4 => rfl); (case a5 => rfl); (case a6 => rfl); (case a7 => rfl); (case a8 => exact one2 _ _ _ _ _ _)))
  exact bodyPost_ret (v := .agg #[.slice a1 n1 c1, .slice ap np cp]) (res82 (fn := Try.f60) (p := 4) rfl _ _ (g + 1 + 1) 82 (.slice a1 n1 c1) (.slice ap np cp) rfl (setRow_heap _ _ _ _ _ _ T2.out)) rfl ⟨_, _, rfl, by rw [HE.out]; exact ⟨⟨ints_setRow HI2.out T2.out _, HM.out.1.2.keep (below_setRow B2.out (by omega) _)⟩, HC1.out, HM.out.2.2⟩, below_setRow B2.out (by omega) _, .inr HF1.out, .inl rfl⟩
set_option maxRecDepth 100000 in
set_option maxHeartbeats 2000000 in
theorem paid_3 (va vp : Value) (D : St) (j : Nat) (w : World) (hw : D.Wf) (hm : IsS w va vp D) : Calls Try.prog 60 #[.agg #[va, vp], .agg #[.int .i64 3, .int .i64 (j : Int)]] w (Pai va vp D 3 (j : Int) w) := by
  obtain ⟨aa, na, ca, rfl⟩ := hm.1.1.slice
  obtain ⟨ap, np, cp, rfl⟩ := hm.1.2.slice
  have HM := Lib.hid hm
  have HE : Hid (pyS D 3 (j : Int) = ⟨D.a.set j false, D.s⟩) := by show _ = _; unfold pyS; rw [if_pos (.inr rfl), Int.toNat_natCast]
  have HS : Hid (delL (j : Int) (idx D.a) = idx (D.a.set j false)) := del_idx _ _
  clear hm
  have R0 : Hid ((((w.alloc (.cells #[.slice aa na ca, .slice ap np cp] 82)).alloc (.cells #[.int .i64 3, .int .i64 (j : Int)] 37)).alloc (.cells #[.slice none 0 0, .slice none 0 0] 82)).heap[w.heap.size]? = some (.cells #[.slice aa na ca, .slice ap np cp] 82 (0, 0))) := h3_0 _ _ _ _
  have R1 : Hid ((((w.alloc (.cells #[.slice aa na ca, .slice ap np cp] 82)).alloc (.cells #[.int .i64 3, .int .i64 (j : Int)] 37)).alloc (.cells #[.slice none 0 0, .slice none 0 0] 82)).heap[w.heap.size + 1]? = some (.cells #[.int .i64 3, .int .i64 (j : Int)] 37 (0, 0))) := h3_1 _ _ _ _
  have R2 : Hid ((((w.alloc (.cells #[.slice aa na ca, .slice ap np cp] 82)).alloc (.cells #[.int .i64 3, .int .i64 (j : Int)] 37)).alloc (.cells #[.slice none 0 0, .slice none 0 0] 82)).heap[w.heap.size + 1 + 1]? = some (.cells #[.slice none 0 0, .slice none 0 0] 82 (0, 0))) := h3_2 _ _ _ _
  have B0 : Hid (Below w.heap.size w (((w.alloc (.cells #[.slice aa na ca, .slice ap np cp] 82)).alloc (.cells #[.int .i64 3, .int .i64 (j : Int)] 37)).alloc (.cells #[.slice none 0 0, .slice none 0 0] 82))) := ((((Below.refl _ _).alloc (Nat.le_refl _) _).alloc (by simp only [World.size_alloc] <;> omega) _).alloc (by simp only [World.size_alloc] <;> omega) _)
  go_enter Try.func60, Try.ntmps60
  go_upto_region 1 with fail
  generalize ((w.alloc (.cells #[.slice aa na ca, .slice ap np cp] 82)).alloc (.cells #[.int .i64 3, .int .i64 (j : Int)] 37)).alloc (.cells #[.slice none 0 0, .slice none 0 0] 82) = W0 at *
  obtain ⟨g, hg⟩ : ∃ g, g = w.heap.size := ⟨_, rfl⟩
  rw [← hg] at R0 R1 R2 ⊢
  have hgw : w.heap.size ≤ g := by omega
  clear hg
  have hg2 : g + 1 + 1 < W0.heap.size := lt_of_some R2.out
  obtain ⟨d0, d1⟩ := c2 R1.out
  obtain ⟨q0, q1⟩ := c2 R0.out
  go_wp2_with fail
  refine (rwithout_any _ (idx D.a) (j : Int) _ (HM.out.1.1.keep B0.out)).mono ?_
  rintro e w1 ⟨v1, rfl, ho1, hb1⟩
  rw [HS.out] at ho1
  have hi1 := ho1.ints (by have := idx_len (D.a.set j false); rw [List.length_set, hw.1] at this; omega)
  have hc1 := ho1.cap
  have HF1 : Hid (Frh w v1) := fun b hb => by have h1 := (World.ownsRow.lt ho1 b hb).1; have h2 := B0.out.size; omega
  obtain ⟨a1, n1, c1, rfl⟩ := hi1.slice
  have S0 := Lib.hid (bkeep hb1 R0.out)
  have S2 := Lib.hid (bkeep hb1 R2.out)
  have B1 : Hid (Below w.heap.size w w1) := btrans B0.out hb1
  have HI1 := Lib.hid hi1
  have HC1 := Lib.hid hc1
  clear hb1 ho1 hi1 hc1 d0 d1 q0 q1 R0 R1 R2
  obtain ⟨q0, q1⟩ := c2 S0.out
  have f0 := fr (j := 0) S0.out
  go_upto_region 7 with fail
  rw [setCell0 S0.out]
  have T0 : Hid ((w1.setRow g #[.slice a1 n1 c1, .slice ap np cp]).heap[g]? = some (.cells #[.slice a1 n1 c1, .slice ap np cp] 82 (0, 0))) := setRow_heap _ _ _ _ _ _ S0.out
  have T2 : Hid ((w1.setRow g #[.slice a1 n1 c1, .slice ap np cp]).heap[g + 1 + 1]? = some (.cells #[.slice none 0 0, .slice none 0 0] 82 (0, 0))) := (setRow_other _ _ _ _ (by omega)).trans S2.out
  have B2 : Hid (Below w.heap.size w (w1.setRow g #[.slice a1 n1 c1, .slice ap np cp])) := below_setRow B1.out hgw _
  have HI2 : Hid (IsInts (w1.setRow g #[.slice a1 n1 c1, .slice ap np cp]) (.slice a1 n1 c1) (idx (D.a.set j false))) := ints_setRow HI1.out S0.out _
  generalize w1.setRow g #[.slice a1 n1 c1, .slice ap np cp] = w2 at *
  clear q0 q1 f0 S0 S2 B1 HI1
  go_wp2_with (first | ((with_reducible refine ld82 ?a1 (.tmp 2) ?a2 g ?a3 _ _ 82 T0 ?_); (case a1 => rfl); (case a2 => rfl); (case a3 => rfl)) | ((with_reducible refine st82 ?a4 (.tmp 4) (.tmp 24) ?a5 (g + 1 + 1) (.slice none 0 0) (.slice none 0 0) (.slice a1 n1 c1) (.slice ap np cp) 82 ?a6 ?a7 T2 ?a8 ?_); (case a4 => rfl); (case a5 => rfl); (case a6 => rfl); (case a7 => rfl); (case a8 => exact one2 _ _ _ _ _ _)))
  exact bodyPost_ret (v := .agg #[.slice a1 n1 c1, .slice ap np cp]) (res82 (fn := Try.f60) (p := 4) rfl _ _ (g + 1 + 1) 82 (.slice a1 n1 c1) (.slice ap np cp) rfl (setRow_heap _ _ _ _ _ _ T2.out)) rfl ⟨_, _, rfl, by rw [HE.out]; exact ⟨⟨ints_setRow HI2.out T2.out _, HM.out.1.2.keep (below_setRow B2.out (by omega) _)⟩, HC1.out, HM.out.2.2⟩, below_setRow B2.out (by omega) _, .inr HF1.out, .inl rfl⟩
set_option maxRecDepth 100000 in
set_option maxHeartbeats 2000000 in
theorem paid_5 (va vp : Value) (D : St) (j : Nat) (w : World) (hw : D.Wf) (hm : IsS w va vp D) : Calls Try.prog 60 #[.agg #[va, vp], .agg #[.int .i64 5, .int .i64 (j : Int)]] w (Pai va vp D 5 (j : Int) w) := by
  obtain ⟨aa, na, ca, rfl⟩ := hm.1.1.slice
  obtain ⟨ap, np, cp, rfl⟩ := hm.1.2.slice
  have HM := Lib.hid hm
  have HE : Hid (pyS D 5 (j : Int) = ⟨D.a, D.s.set j false⟩) := by show _ = _; unfold pyS; rw [if_neg (by decide), if_pos rfl, Int.toNat_natCast]
  have HS : Hid (delL (j : Int) (idx D.s) = idx (D.s.set j false)) := del_idx _ _
  clear hm
  have R0 : Hid ((((w.alloc (.cells #[.slice aa na ca, .slice ap np cp] 82)).alloc (.cells #[.int .i64 5, .int .i64 (j : Int)] 37)).alloc (.cells #[.slice none 0 0, .slice none 0 0] 82)).heap[w.heap.size]? = some (.cells #[.slice aa na ca, .slice ap np cp] 82 (0, 0))) := h3_0 _ _ _ _
  have R1 : Hid ((((w.alloc (.cells #[.slice aa na ca, .slice ap np cp] 82)).alloc (.cells #[.int .i64 5, .int .i64 (j : Int)] 37)).alloc (.cells #[.slice none 0 0, .slice none 0 0] 82)).heap[w.heap.size + 1]? = some (.cells #[.int .i64 5, .int .i64 (j : Int)] 37 (0, 0))) := h3_1 _ _ _ _
  have R2 : Hid ((((w.alloc (.cells #[.slice aa na ca, .slice ap np cp] 82)).alloc (.cells #[.int .i64 5, .int .i64 (j : Int)] 37)).alloc (.cells #[.slice none 0 0, .slice none 0 0] 82)).heap[w.heap.size + 1 + 1]? = some (.cells #[.slice none 0 0, .slice none 0 0] 82 (0, 0))) := h3_2 _ _ _ _
  have B0 : Hid (Below w.heap.size w (((w.alloc (.cells #[.slice aa na ca, .slice ap np cp] 82)).alloc (.cells #[.int .i64 5, .int .i64 (j : Int)] 37)).alloc (.cells #[.slice none 0 0, .slice none 0 0] 82))) := ((((Below.refl _ _).alloc (Nat.le_refl _) _).alloc (by simp only [World.size_alloc] <;> omega) _).alloc (by simp only [World.size_alloc] <;> omega) _)
  go_enter Try.func60, Try.ntmps60
  go_upto_region 1 with fail
  generalize ((w.alloc (.cells #[.slice aa na ca, .slice ap np cp] 82)).alloc (.cells #[.int .i64 5, .int .i64 (j : Int)] 37)).alloc (.cells #[.slice none 0 0, .slice none 0 0] 82) = W0 at *
  obtain ⟨g, hg⟩ : ∃ g, g = w.heap.size := ⟨_, rfl⟩
  rw [← hg] at R0 R1 R2 ⊢
  have hgw : w.heap.size ≤ g := by omega
  clear hg
  have hg2 : g + 1 + 1 < W0.heap.size := lt_of_some R2.out
  obtain ⟨d0, d1⟩ := c2 R1.out
  obtain ⟨q0, q1⟩ := c2 R0.out
  go_wp2_with fail
  refine (rwithout_any _ (idx D.s) (j : Int) _ (HM.out.1.2.keep B0.out)).mono ?_
  rintro e w1 ⟨v1, rfl, ho1, hb1⟩
  rw [HS.out] at ho1
  have hi1 := ho1.ints (by have := idx_len (D.s.set j false); rw [List.length_set, hw.2] at this; omega)
  have hc1 := ho1.cap
  have HF1 : Hid (Frh w v1) := fun b hb => by have h1 := (World.ownsRow.lt ho1 b hb).1; have h2 := B0.out.size; omega
  obtain ⟨a1, n1, c1, rfl⟩ := hi1.slice
  have S0 := Lib.hid (bkeep hb1 R0.out)
  have S2 := Lib.hid (bkeep hb1 R2.out)
  have B1 : Hid (Below w.heap.size w w1) := btrans B0.out hb1
  have HI1 := Lib.hid hi1
  have HC1 := Lib.hid hc1
  clear hb1 ho1 hi1 hc1 d0 d1 q0 q1 R0 R1 R2
  obtain ⟨q0, q1⟩ := c2 S0.out
  have f0 := fr (j := 1) S0.out
  go_upto_region 7 with fail
  rw [setCell1 S0.out]
  have T0 : Hid ((w1.setRow g #[.slice aa na ca, .slice a1 n1 c1]).heap[g]? = some (.cells #[.slice aa na ca, .slice a1 n1 c1] 82 (0, 0))) := setRow_heap _ _ _ _ _ _ S0.out
  have T2 : Hid ((w1.setRow g #[.slice aa na ca, .slice a1 n1 c1]).heap[g + 1 + 1]? = some (.cells #[.slice none 0 0, .slice none 0 0] 82 (0, 0))) := (setRow_other _ _ _ _ (by omega)).trans S2.out
  have B2 : Hid (Below w.heap.size w (w1.setRow g #[.slice aa na ca, .slice a1 n1 c1])) := below_setRow B1.out hgw _
  have HI2 : Hid (IsInts (w1.setRow g #[.slice aa na ca, .slice a1 n1 c1]) (.slice a1 n1 c1) (idx (D.s.set j false))) := ints_setRow HI1.out S0.out _
  generalize w1.setRow g #[.slice aa na ca, .slice a1 n1 c1] = w2 at *
  clear q0 q1 f0 S0 S2 B1 HI1
  go_wp2_with (first | ((with_reducible refine ld82 ?a1 (.tmp 2) ?a2 g ?a3 _ _ 82 T0 ?_); (case a1 => rfl); (case a2 => rfl); (case a3 => rfl)) | ((with_reducible refine st82 ?a4 (.tmp 4) (.tmp 24) ?a5 (g + 1 + 1) (.slice none 0 0) (.slice none 0 0) (.slice aa na ca) (.slice a1 n1 c1) 82 ?a6 ?a7 T2 ?a8 ?_); (case a4 => rfl); (case a5 => rfl); (case a6 => rfl); (case a7 => rfl); (case a8 => exact one2 _ _ _ _ _ _)))
  exact bodyPost_ret (v := .agg #[.slice aa na ca, .slice a1 n1 c1]) (res82 (fn := Try.f60) (p := 4) rfl _ _ (g + 1 + 1) 82 (.slice aa na ca) (.slice a1 n1 c1) rfl (setRow_heap _ _ _ _ _ _ T2.out)) rfl ⟨_, _, rfl, by rw [HE.out]; exact ⟨⟨HM.out.1.1.keep (below_setRow B2.out (by omega) _), ints_setRow HI2.out T2.out _⟩, HM.out.2.1, HC1.out⟩, below_setRow B2.out (by omega) _, .inl rfl, .inr HF1.out⟩
set_option maxRecDepth 100000 in
set_option maxHeartbeats 2000000 in
theorem paid_2 (va vp : Value) (D : St) (x : Int) (w : World) (hw : D.Wf) (hm : IsS w va vp D) : Calls Try.prog 60 #[.agg #[va, vp], .agg #[.int .i64 2, .int .i64 x]] w (Pai va vp D 2 x w) := by
  obtain ⟨aa, na, ca, rfl⟩ := hm.1.1.slice
  obtain ⟨ap, np, cp, rfl⟩ := hm.1.2.slice
  have HM := Lib.hid hm
  have HE : Hid (pyS D 2 x = D) := by show _ = _; unfold pyS; rw [if_neg (by decide), if_neg (by decide)]
  clear hm
  have R0 : Hid ((((w.alloc (.cells #[.slice aa na ca, .slice ap np cp] 82)).alloc (.cells #[.int .i64 2, .int .i64 x] 37)).alloc (.cells #[.slice none 0 0, .slice none 0 0] 82)).heap[w.heap.size]? = some (.cells #[.slice aa na ca, .slice ap np cp] 82 (0, 0))) := h3_0 _ _ _ _
  have R1 : Hid ((((w.alloc (.cells #[.slice aa na ca, .slice ap np cp] 82)).alloc (.cells #[.int .i64 2, .int .i64 x] 37)).alloc (.cells #[.slice none 0 0, .slice none 0 0] 82)).heap[w.heap.size + 1]? = some (.cells #[.int .i64 2, .int .i64 x] 37 (0, 0))) := h3_1 _ _ _ _
  have R2 : Hid ((((w.alloc (.cells #[.slice aa na ca, .slice ap np cp] 82)).alloc (.cells #[.int .i64 2, .int .i64 x] 37)).alloc (.cells #[.slice none 0 0, .slice none 0 0] 82)).heap[w.heap.size + 1 + 1]? = some (.cells #[.slice none 0 0, .slice none 0 0] 82 (0, 0))) := h3_2 _ _ _ _
  have B0 : Hid (Below w.heap.size w (((w.alloc (.cells #[.slice aa na ca, .slice ap np cp] 82)).alloc (.cells #[.int .i64 2, .int .i64 x] 37)).alloc (.cells #[.slice none 0 0, .slice none 0 0] 82))) := ((((Below.refl _ _).alloc (Nat.le_refl _) _).alloc (by simp only [World.size_alloc] <;> omega) _).alloc (by simp only [World.size_alloc] <;> omega) _)
  go_enter Try.func60, Try.ntmps60
  go_upto_region 1 with fail
  generalize ((w.alloc (.cells #[.slice aa na ca, .slice ap np cp] 82)).alloc (.cells #[.int .i64 2, .int .i64 x] 37)).alloc (.cells #[.slice none 0 0, .slice none 0 0] 82) = W0 at *
  obtain ⟨g, hg⟩ : ∃ g, g = w.heap.size := ⟨_, rfl⟩
  rw [← hg] at R0 R1 R2 ⊢
  have hgw : w.heap.size ≤ g := by omega
  clear hg
  have hg2 : g + 1 + 1 < W0.heap.size := lt_of_some R2.out
  obtain ⟨d0, d1⟩ := c2 R1.out
  obtain ⟨q0, q1⟩ := c2 R0.out
  go_wp2_with (first | ((with_reducible refine ld82 ?a1 (.tmp 2) ?a2 g ?a3 _ _ 82 R0 ?_); (case a1 => rfl); (case a2 => rfl); (case a3 => rfl)) | ((with_reducible refine st82 ?a4 (.tmp 4) (.tmp 24) ?a5 (g + 1 + 1) (.slice none 0 0) (.slice none 0 0) (.slice aa na ca) (.slice ap np cp) 82 ?a6 ?a7 R2 ?a8 ?_); (case a4 => rfl); (case a5 => rfl); (case a6 => rfl); (case a7 => rfl); (case a8 => exact one2 _ _ _ _ _ _)))
  exact bodyPost_ret (v := .agg #[.slice aa na ca, .slice ap np cp]) (res82 (fn := Try.f60) (p := 4) rfl _ _ (g + 1 + 1) 82 (.slice aa na ca) (.slice ap np cp) rfl (setRow_heap _ _ _ _ _ _ R2.out)) rfl ⟨_, _, rfl, by rw [HE.out]; exact HM.out.keep (below_setRow B0.out (by omega) _), below_setRow B0.out (by omega) _, .inl rfl, .inl rfl⟩
set_option maxRecDepth 100000 in
set_option maxHeartbeats 2000000 in
theorem paid_4 (va vp : Value) (D : St) (x : Int) (w : World) (hw : D.Wf) (hm : IsS w va vp D) : Calls Try.prog 60 #[.agg #[va, vp], .agg #[.int .i64 4, .int .i64 x]] w (Pai va vp D 4 x w) := by
  obtain ⟨aa, na, ca, rfl⟩ := hm.1.1.slice
  obtain ⟨ap, np, cp, rfl⟩ := hm.1.2.slice
  have HM := Lib.hid hm
  have HE : Hid (pyS D 4 x = D) := by show _ = _; unfold pyS; rw [if_neg (by decide), if_neg (by decide)]
  clear hm
  have R0 : Hid ((((w.alloc (.cells #[.slice aa na ca, .slice ap np cp] 82)).alloc (.cells #[.int .i64 4, .int .i64 x] 37)).alloc (.cells #[.slice none 0 0, .slice none 0 0] 82)).heap[w.heap.size]? = some (.cells #[.slice aa na ca, .slice ap np cp] 82 (0, 0))) := h3_0 _ _ _ _
  have R1 : Hid ((((w.alloc (.cells #[.slice aa na ca, .slice ap np cp] 82)).alloc (.cells #[.int .i64 4, .int .i64 x] 37)).alloc (.cells #[.slice none 0 0, .slice none 0 0] 82)).heap[w.heap.size + 1]? = some (.cells #[.int .i64 4, .int .i64 x] 37 (0, 0))) := h3_1 _ _ _ _
  have R2 : Hid ((((w.alloc (.cells #[.slice aa na ca, .slice ap np cp] 82)).alloc (.cells #[.int .i64 4, .int .i64 x] 37)).alloc (.cells #[.slice none 0 0, .slice none 0 0] 82)).heap[w.heap.size + 1 + 1]? = some (.cells #[.slice none 0 0, .slice none 0 0] 82 (0, 0))) := h3_2 _ _ _ _
  have B0 : Hid (Below w.heap.size w (((w.alloc (.cells #[.slice aa na ca, .slice ap np cp] 82)).alloc (.cells #[.int .i64 4, .int .i64 x] 37)).alloc (.cells #[.slice none 0 0, .slice none 0 0] 82))) := ((((Below.refl _ _).alloc (Nat.le_refl _) _).alloc (by simp only [World.size_alloc] <;> omega) _).alloc (by simp only [World.size_alloc] <;> omega) _)
  go_enter Try.func60, Try.ntmps60
  go_upto_region 1 with fail
  generalize ((w.alloc (.cells #[.slice aa na ca, .slice ap np cp] 82)).alloc (.cells #[.int .i64 4, .int .i64 x] 37)).alloc (.cells #[.slice none 0 0, .slice none 0 0] 82) = W0 at *
  obtain ⟨g, hg⟩ : ∃ g, g = w.heap.size := ⟨_, rfl⟩
  rw [← hg] at R0 R1 R2 ⊢
  have hgw : w.heap.size ≤ g := by omega
  clear hg
  have hg2 : g + 1 + 1 < W0.heap.size := lt_of_some R2.out
  obtain ⟨d0, d1⟩ := c2 R1.out
  obtain ⟨q0, q1⟩ := c2 R0.out
  go_wp2_with (first | ((with_reducible refine ld82 ?a1 (.tmp 2) ?a2 g ?a3 _ _ 82 R0 ?_); (case a1 => rfl); (case a2 => rfl); (case a3 => rfl)) | ((with_reducible refine st82 ?a4 (.tmp 4) (.tmp 24) ?a5 (g + 1 + 1) (.slice none 0 0) (.slice none 0 0) (.slice aa na ca) (.slice ap np cp) 82 ?a6 ?a7 R2 ?a8 ?_); (case a4 => rfl); (case a5 => rfl); (case a6 => rfl); (case a7 => rfl); (case a8 => exact one2 _ _ _ _ _ _)))
  exact bodyPost_ret (v := .agg #[.slice aa na ca, .slice ap np cp]) (res82 (fn := Try.f60) (p := 4) rfl _ _ (g + 1 + 1) 82 (.slice aa na ca) (.slice ap np cp) rfl (setRow_heap _ _ _ _ _ _ R2.out)) rfl ⟨_, _, rfl, by rw [HE.out]; exact HM.out.keep (below_setRow B0.out (by omega) _), below_setRow B0.out (by omega) _, .inl rfl, .inl rfl⟩
theorem paid_any (va vp : Value) (D t : St) (k x : Int) (w : World) (hw : D.Wf) (hm : IsS w va vp D) (he : apE t k x = 0) : Calls Try.prog 60 #[.agg #[va, vp], .agg #[.int .i64 k, .int .i64 x]] w (Pai va vp D k x w) := by
  unfold apE at he
  by_cases k1 : k = 1
  · subst k1
    rw [if_pos rfl] at he
    by_cases hx : 0 ≤ x ∧ x ≤ 8
    · obtain ⟨j, rfl⟩ := Int.eq_ofNat_of_zero_le hx.1
      exact paid_1 va vp D j w hw hm
    · rw [if_neg hx] at he; omega
  rw [if_neg k1] at he
  by_cases k23 : k = 2 ∨ k = 3
  · rw [if_pos k23] at he
    by_cases hx : 1 ≤ x ∧ x ≤ 8
    · rcases k23 with rfl | rfl
      · exact paid_2 va vp D x w hw hm
      · obtain ⟨j, rfl⟩ := Int.eq_ofNat_of_zero_le (show 0 ≤ x by omega)
        exact paid_3 va vp D j w hw hm
    · rw [if_neg hx] at he; omega
  rw [if_neg k23] at he
  by_cases k45 : k = 4 ∨ k = 5
  · rw [if_pos k45] at he
    by_cases hx : 0 ≤ x ∧ x ≤ 255
    · rcases k45 with rfl | rfl
      · exact paid_4 va vp D x w hw hm
      · obtain ⟨j, rfl⟩ := Int.eq_ofNat_of_zero_le hx.1
        exact paid_5 va vp D j w hw hm
    · rw [if_neg hx] at he; omega
  rw [if_neg k45] at he
  omega

set_option maxRecDepth 100000 in
set_option maxHeartbeats 4000000 in
theorem rowed_any (va vp : Value) (t : St) (w : World) (hw : t.Wf) (h0 : t.a.getD 0 false = false) (hm : IsS w va vp t) : Calls Try.prog 59 #[.agg #[va, vp]] w (Owe t w) := by
  obtain ⟨a1, n1, k1, rfl⟩ := hm.1.1.slice
  obtain ⟨a2, n2, k2, rfl⟩ := hm.1.2.slice
  have HM := Lib.hid hm
  have HE : Hid (moS (ows t) = ⟨[0] ++ idx t.a, idx t.s⟩) := by show _ = _; unfold moS; rw [idx_ows hw h0]; rfl
  have l1 := idx_len t.a
  have l2 := idx_len t.s
  rw [hw.1] at l1
  rw [hw.2] at l2
  have HN : Hid (([0] : List Int).length + (idx t.a).length < 4294967296 ∧ ([] : List Int).length + (idx t.s).length < 4294967296) := by constructor <;> (first | omega | (simp; omega))
  have HN2 : Hid (([0] ++ idx t.a : List Int).length ≤ 4294967296 ∧ (idx t.s).length ≤ 4294967296) := by constructor <;> (first | omega | (simp; omega))
  clear hm l1 l2
  have HX : Hid (((w.alloc (.cells #[.slice a1 n1 k1, .slice a2 n2 k2] 25)).alloc (.cells #[.slice none 0 0, .slice none 0 0] 82)).heap[w.heap.size]? = some (.cells #[.slice a1 n1 k1, .slice a2 n2 k2] 25 (0, 0))) := h2_0 _ _ _
  have HY : Hid (((w.alloc (.cells #[.slice a1 n1 k1, .slice a2 n2 k2] 25)).alloc (.cells #[.slice none 0 0, .slice none 0 0] 82)).heap[w.heap.size + 1]? = some (.cells #[.slice none 0 0, .slice none 0 0] 82 (0, 0))) := h2_1 _ _ _
  have HB : Hid (Below w.heap.size w ((w.alloc (.cells #[.slice a1 n1 k1, .slice a2 n2 k2] 25)).alloc (.cells #[.slice none 0 0, .slice none 0 0] 82))) := (((Below.refl _ _).alloc (Nat.le_refl _) _).alloc (by simp only [World.size_alloc] <;> omega) _)
  go_enter Try.func59, Try.ntmps59
  go_upto_region 1 with fail
  generalize (w.alloc (.cells #[.slice a1 n1 k1, .slice a2 n2 k2] 25)).alloc (.cells #[.slice none 0 0, .slice none 0 0] 82) = wr at *
  obtain ⟨g, hg⟩ : ∃ g, g = w.heap.size := ⟨_, rfl⟩
  rw [← hg] at HX HY ⊢
  have hgw : w.heap.size ≤ g := by omega
  clear hg
  have hgs : g + 1 < wr.heap.size := lt_of_some HY.out
  have HS := Lib.hid (HM.out.keep HB.out)
  obtain ⟨c0, c1⟩ := c2 HX.out
  have BA : Hid (Below wr.heap.size wr (wr.drew.alloc (.cells #[.int .i64 0] 3))) := balloc (Below.drew (Below.refl _ _)) _
  have BB : Hid (Below wr.heap.size wr ((wr.drew.alloc (.cells #[.int .i64 0] 3)).alloc (.cells #[] 3))) := balloc (balloc (Below.drew (Below.refl _ _)) _) _
  have BC : Hid (Below wr.heap.size wr ((wr.drew.alloc (.cells #[] 3)).alloc (.cells #[.int .i64 0] 3))) := balloc (balloc (Below.drew (Below.refl _ _)) _) _
  have OA : Hid (Own (wr.drew.alloc (.cells #[.int .i64 0] 3)) wr.heap.size (.slice (some ⟨wr.heap.size, 0, none⟩) 1 1) [0]) := Own.lit wr.drew [0] wr.heap.size (Nat.le_refl _) (by decide)
  have OB : Hid (Own ((wr.drew.alloc (.cells #[.int .i64 0] 3)).alloc (.cells #[] 3)) wr.heap.size (.slice (some ⟨wr.heap.size, 0, none⟩) 1 1) [0]) := Own.alloc OA.out _
  have PB : Hid (Own ((wr.drew.alloc (.cells #[.int .i64 0] 3)).alloc (.cells #[] 3)) wr.heap.size (.slice (some ⟨wr.heap.size + 1, 0, none⟩) 0 0) []) := by
    have := Own.lit (wr.drew.alloc (.cells #[.int .i64 0] 3)) [] wr.heap.size (by simp only [World.size_alloc, heapD]; omega) (by decide)
    simp only [World.size_alloc, heapD] at this
    exact this
  have OC : Hid (Own ((wr.drew.alloc (.cells #[] 3)).alloc (.cells #[.int .i64 0] 3)) wr.heap.size (.slice (some ⟨wr.heap.size + 1, 0, none⟩) 1 1) [0]) := by
    have := Own.lit (wr.drew.alloc (.cells #[] 3)) [0] wr.heap.size (by simp only [World.size_alloc, heapD]; omega) (by decide)
    simp only [World.size_alloc, heapD] at this
    exact this
  have PC : Hid (Own ((wr.drew.alloc (.cells #[] 3)).alloc (.cells #[.int .i64 0] 3)) wr.heap.size (.slice (some ⟨wr.heap.size, 0, none⟩) 0 0) []) := Own.alloc (Own.lit wr.drew [] wr.heap.size (Nat.le_refl _) (by decide)) _
  have IA : Hid (IsInts (wr.drew.alloc (.cells #[.int .i64 0] 3)) (.slice a1 n1 k1) (idx t.a)) := IsInts.keep HS.out.1.1 BA.out
  have IB : Hid (IsInts ((wr.drew.alloc (.cells #[.int .i64 0] 3)).alloc (.cells #[] 3)) (.slice a1 n1 k1) (idx t.a)) := IsInts.keep HS.out.1.1 BB.out
  have IC : Hid (IsInts ((wr.drew.alloc (.cells #[] 3)).alloc (.cells #[.int .i64 0] 3)) (.slice a1 n1 k1) (idx t.a)) := IsInts.keep HS.out.1.1 BC.out
  have I2 : Hid (IsInts wr (.slice a2 n2 k2) (idx t.s)) := HS.out.1.2
  go_region_held3 (fun w' => w'.cell? ⟨g, 0, none⟩ = some (.slice a1 n1 k1) ∧ w'.cell? ⟨g, 1, none⟩ = some (.slice a2 n2 k2))
    (refine ⟨?_, ?_⟩ <;> (with_reducible repeat (first | exact c0 | exact c1 | exact cellB BB2.out c0 | exact cellB BB2.out c1 | exact cellB BB0.out c0 | exact cellB BB0.out c1 | refine cellD ?_ | refine cellA ?_ _ | (refine cellS ?_ _ _ (by simp only []; omega)))))
    (first | ((with_reducible refine step_append_isJ ?ya1 (.tmp 3) (.tmp 5) ?ya2 wr.heap.size (.slice (some ⟨wr.heap.size, 0, none⟩) 1 1) (.slice a1 n1 k1) [0] (idx t.a) ?ya3 ?ya4 ?ya5 ?ya6 ?ya7 ?ya8 ?_); (case ya1 => rfl); (case ya2 => rfl); (case ya3 => rfl); (case ya4 => rfl); (case ya5 => exact OA); (case ya6 => exact IA); (case ya7 => exact HN.out.1); (case ya8 => exact BA.out.size); intro v1 w1 ho1 hb1 hg1 hl1; have BB0 : Hid (Below wr.heap.size wr w1) := BA.out.trans hb1.out; have BB1 : Hid (Below wr.heap.size wr (w1.alloc (.cells #[] 3))) := balloc BB0.out _; have P1 : Hid (Own (w1.alloc (.cells #[] 3)) wr.heap.size v1 ([0] ++ (idx t.a))) := Own.alloc ho1.out _; have Q1 : Hid (Own (w1.alloc (.cells #[] 3)) wr.heap.size (.slice (some ⟨w1.heap.size, 0, none⟩) 0 0) []) := Own.lit w1 [] wr.heap.size BB0.out.size (by decide); have S1 : Hid (IsInts (w1.alloc (.cells #[] 3)) (.slice a2 n2 k2) (idx t.s)) := I2.out.keep BB1.out; have E1 : Hid (v1.ownBlock ≠ some w1.heap.size) := own_far ho1.out) | ((with_reducible refine step_append_isJ ?yb1 (.tmp 3) (.tmp 5) ?yb2 wr.heap.size (.slice (some ⟨wr.heap.size, 0, none⟩) 1 1) (.slice a1 n1 k1) [0] (idx t.a) ?yb3 ?yb4 ?yb5 ?yb6 ?yb7 ?yb8 ?_); (case yb1 => rfl); (case yb2 => rfl); (case yb3 => rfl); (case yb4 => rfl); (case yb5 => exact OB); (case yb6 => exact IB); (case yb7 => exact HN.out.1); (case yb8 => exact BB.out.size); intro v1 w1 ho1 hb1 hg1 hl1; have BB0 : Hid (Below wr.heap.size wr w1) := BB.out.trans hb1.out; have BB1 : Hid (Below wr.heap.size wr w1) := BB0; have P1 : Hid (Own w1 wr.heap.size v1 ([0] ++ (idx t.a))) := ho1; have Q1 : Hid (Own w1 wr.heap.size (.slice (some ⟨wr.heap.size + 1, 0, none⟩) 0 0) []) := own_kept PB.out hg1.out (by simp [Value.ownBlock]); have S1 : Hid (IsInts w1 (.slice a2 n2 k2) (idx t.s)) := I2.out.keep BB1.out; have E1 : Hid (v1.ownBlock ≠ some (wr.heap.size + 1)) := far1 (by have hq := hl1.out; simp only [World.size_alloc, heapD, Value.ownBlock] at hq; exact hq)) | ((with_reducible refine step_append_isJ ?yc1 (.tmp 3) (.tmp 5) ?yc2 wr.heap.size (.slice (some ⟨wr.heap.size + 1, 0, none⟩) 1 1) (.slice a1 n1 k1) [0] (idx t.a) ?yc3 ?yc4 ?yc5 ?yc6 ?yc7 ?yc8 ?_); (case yc1 => rfl); (case yc2 => rfl); (case yc3 => rfl); (case yc4 => rfl); (case yc5 => exact OC); (case yc6 => exact IC); (case yc7 => exact HN.out.1); (case yc8 => exact BC.out.size); intro v1 w1 ho1 hb1 hg1 hl1; have BB0 : Hid (Below wr.heap.size wr w1) := BC.out.trans hb1.out; have BB1 : Hid (Below wr.heap.size wr w1) := BB0; have P1 : Hid (Own w1 wr.heap.size v1 ([0] ++ (idx t.a))) := ho1; have Q1 : Hid (Own w1 wr.heap.size (.slice (some ⟨wr.heap.size, 0, none⟩) 0 0) []) := own_kept PC.out hg1.out (by simp [Value.ownBlock]); have S1 : Hid (IsInts w1 (.slice a2 n2 k2) (idx t.s)) := I2.out.keep BB1.out; have E1 : Hid (v1.ownBlock ≠ some wr.heap.size) := far0 (by have hq := hl1.out; simp only [World.size_alloc, heapD, Value.ownBlock] at hq; exact hq)) | ((with_reducible refine step_append_isJ ?yd1 (.tmp 7) (.tmp 9) ?yd2 wr.heap.size (.slice (some ⟨w1.heap.size, 0, none⟩) 0 0) (.slice a2 n2 k2) [] (idx t.s) ?yd3 ?yd4 ?yd5 ?yd6 ?yd7 ?yd8 ?_); (case yd1 => rfl); (case yd2 => rfl); (case yd3 => rfl); (case yd4 => rfl); (case yd5 => exact Q1); (case yd6 => exact S1); (case yd7 => exact HN.out.2); (case yd8 => exact BB1.out.size); intro v2 w2 ho2 hb2 hg2 _; have BB2 : Hid (Below wr.heap.size wr w2) := BB1.out.trans hb2.out; have P2 : Hid (Own w2 wr.heap.size v1 ([0] ++ (idx t.a))) := own_kept P1.out hg2.out E1.out; have Q2 : Hid (Own w2 wr.heap.size v2 (idx t.s)) := ho2; have F1 : Hid (Frh w v1) := fun b hb => Nat.le_trans HB.out.size (World.ownsRow.lt P2.out b hb).1; have F2 : Hid (Frh w v2) := fun b hb => Nat.le_trans HB.out.size (World.ownsRow.lt Q2.out b hb).1; have z1 := P2.out.ints HN2.out.1; have z2 := Q2.out.ints HN2.out.2; have y1 := P2.out.cap; have y2 := Q2.out.cap; obtain ⟨b1, m1, e1, rfl⟩ := z1.slice; obtain ⟨b2, m2, e2, rfl⟩ := z2.slice; have Z1 := Lib.hid z1; have Z2 := Lib.hid z2; have Y1 := Lib.hid y1; have Y2 := Lib.hid y2; have T2 := Lib.hid (bkeep BB2.out HY.out); obtain ⟨t0, t1⟩ := c2 T2.out; have f0 := fr (j := 0) T2.out; have f1 := fr (j := 1) T2.out; clear z1 z2 y1 y2) | ((with_reducible refine step_append_isJ ?ye1 (.tmp 7) (.tmp 9) ?ye2 wr.heap.size (.slice (some ⟨wr.heap.size + 1, 0, none⟩) 0 0) (.slice a2 n2 k2) [] (idx t.s) ?ye3 ?ye4 ?ye5 ?ye6 ?ye7 ?ye8 ?_); (case ye1 => rfl); (case ye2 => rfl); (case ye3 => rfl); (case ye4 => rfl); (case ye5 => exact Q1); (case ye6 => exact S1); (case ye7 => exact HN.out.2); (case ye8 => exact BB1.out.size); intro v2 w2 ho2 hb2 hg2 _; have BB2 : Hid (Below wr.heap.size wr w2) := BB1.out.trans hb2.out; have P2 : Hid (Own w2 wr.heap.size v1 ([0] ++ (idx t.a))) := own_kept P1.out hg2.out E1.out; have Q2 : Hid (Own w2 wr.heap.size v2 (idx t.s)) := ho2; have F1 : Hid (Frh w v1) := fun b hb => Nat.le_trans HB.out.size (World.ownsRow.lt P2.out b hb).1; have F2 : Hid (Frh w v2) := fun b hb => Nat.le_trans HB.out.size (World.ownsRow.lt Q2.out b hb).1; have z1 := P2.out.ints HN2.out.1; have z2 := Q2.out.ints HN2.out.2; have y1 := P2.out.cap; have y2 := Q2.out.cap; obtain ⟨b1, m1, e1, rfl⟩ := z1.slice; obtain ⟨b2, m2, e2, rfl⟩ := z2.slice; have Z1 := Lib.hid z1; have Z2 := Lib.hid z2; have Y1 := Lib.hid y1; have Y2 := Lib.hid y2; have T2 := Lib.hid (bkeep BB2.out HY.out); obtain ⟨t0, t1⟩ := c2 T2.out; have f0 := fr (j := 0) T2.out; have f1 := fr (j := 1) T2.out; clear z1 z2 y1 y2) | ((with_reducible refine step_append_isJ ?yf1 (.tmp 7) (.tmp 9) ?yf2 wr.heap.size (.slice (some ⟨wr.heap.size, 0, none⟩) 0 0) (.slice a2 n2 k2) [] (idx t.s) ?yf3 ?yf4 ?yf5 ?yf6 ?yf7 ?yf8 ?_); (case yf1 => rfl); (case yf2 => rfl); (case yf3 => rfl); (case yf4 => rfl); (case yf5 => exact Q1); (case yf6 => exact S1); (case yf7 => exact HN.out.2); (case yf8 => exact BB1.out.size); intro v2 w2 ho2 hb2 hg2 _; have BB2 : Hid (Below wr.heap.size wr w2) := BB1.out.trans hb2.out; have P2 : Hid (Own w2 wr.heap.size v1 ([0] ++ (idx t.a))) := own_kept P1.out hg2.out E1.out; have Q2 : Hid (Own w2 wr.heap.size v2 (idx t.s)) := ho2; have F1 : Hid (Frh w v1) := fun b hb => Nat.le_trans HB.out.size (World.ownsRow.lt P2.out b hb).1; have F2 : Hid (Frh w v2) := fun b hb => Nat.le_trans HB.out.size (World.ownsRow.lt Q2.out b hb).1; have z1 := P2.out.ints HN2.out.1; have z2 := Q2.out.ints HN2.out.2; have y1 := P2.out.cap; have y2 := Q2.out.cap; obtain ⟨b1, m1, e1, rfl⟩ := z1.slice; obtain ⟨b2, m2, e2, rfl⟩ := z2.slice; have Z1 := Lib.hid z1; have Z2 := Lib.hid z2; have Y1 := Lib.hid y1; have Y2 := Lib.hid y2; have T2 := Lib.hid (bkeep BB2.out HY.out); obtain ⟨t0, t1⟩ := c2 T2.out; have f0 := fr (j := 0) T2.out; have f1 := fr (j := 1) T2.out; clear z1 z2 y1 y2) | fail)
  all_goals
    rw [set2 T2.out]
    go_wp2_with fail
    exact bodyPost_ret (v := .agg #[.slice b1 m1 e1, .slice b2 m2 e2]) (res82 (fn := Try.f59) (p := 2) rfl _ _ (g + 1) 82 (.slice b1 m1 e1) (.slice b2 m2 e2) rfl (setRow_heap _ _ _ _ _ _ T2.out)) rfl ⟨_, _, rfl, ⟨by rw [HE.out]; exact ⟨ints_setRow Z1.out T2.out _, ints_setRow Z2.out T2.out _⟩, Y1.out, Y2.out⟩, below_setRow (btrans HB.out BB2.out) (by omega) _, F1.out, F2.out⟩
/-- A slice that does not lie where another grows. -/
def Apz (v u : Value) : Prop := ∀ a n c, v = .slice a n c → n ≠ 0 → ∀ b, v.ownBlock = some b → u.ownBlock ≠ some b
theorem Apz.fresh {w : World} {v u : Value} (h : Frh w v) (hu : ∀ b, u.ownBlock = some b → b < w.heap.size) : Apz v u := fun a n c _ _ b hb e => by
  have h1 := h b hb
  have h2 := hu b e
  omega
theorem Apz.or {w : World} {va v u : Value} (h : v = va ∨ Frh w v) (ha : Apz va u) (hu : ∀ b, u.ownBlock = some b → b < w.heap.size) : Apz v u := by
  rcases h with rfl | h
  · exact ha
  · exact Apz.fresh h hu
theorem ints_blk {W : World} {a : Option Addr} {n c : Nat} {l : List Int} (h : IsInts W (.slice a n c) l) (hn : n ≠ 0) : ∃ b off, a = some ⟨b, off, none⟩ ∧ b < W.heap.size := by
  obtain ⟨rfl, _⟩ := h.len
  obtain ⟨b, off, e, hc⟩ := h.at 0 (by omega)
  exact ⟨b, off, e, cell_lt hc⟩
theorem ints_grown {W W' : World} {v u : Value} {l : List Int} (h : IsInts W v l) (hg : W.grownBy W' u.ownBlock) (ha : Apz v u) : IsInts W' v l := by
  obtain ⟨a, n, c, rfl, h1, h2, h3⟩ := h
  refine ⟨a, n, c, rfl, h1, h2, ?_⟩
  rcases h3 with h3 | ⟨b, off, rfl, hc⟩
  · exact .inl h3
  · by_cases h0 : l = []
    · exact .inl h0
    · refine .inr ⟨b, off, rfl, fun k hk => hg.cell (hc k hk) (fun e => ?_)⟩
      exact ha _ _ _ rfl (by rw [h1]; intro e2; exact h0 (List.length_eq_zero_iff.1 e2)) b rfl e.symm
theorem Apz.turn {W : World} {v u u' : Value} {l : List Int} {n : Nat} (h : Apz v u) (hi : IsInts W v l) (ht : u'.ownBlock = u.ownBlock ∨ u'.ownBlock = some n) (hn : W.heap.size ≤ n) : Apz v u' := fun a m c e h0 b hb => by
  rcases ht with ht | ht
  · rw [ht]; exact h a m c e h0 b hb
  · rw [ht]
    intro e2
    subst e
    obtain ⟨b', off, rfl, hlt⟩ := ints_blk hi h0
    simp only [Value.ownBlock, Option.some.injEq] at hb e2
    omega
theorem Apz.none (v : Value) (n c : Nat) : Apz v (.slice none n c) := fun _ _ _ _ _ _ _ e => by cases e
/-- The moment in a block, as a state, apart from a slice that grows. -/
def AtX (w : World) (g : Nat) (ty : TypeId) (t : St) (u : Value) : Prop := ∃ a n c a' n' c', w.heap[g]? = some (.cells #[.slice a n c, .slice a' n' c'] ty (0, 0)) ∧ IsS w (.slice a n c) (.slice a' n' c') t ∧ Apz (.slice a n c) u ∧ Apz (.slice a' n' c') u
theorem AtX.keep {w w' : World} {g : Nat} {ty : TypeId} {t : St} {u : Value} (h : AtX w g ty t u) (hb : Below w.heap.size w w') : AtX w' g ty t u := by
  obtain ⟨a, n, c, a', n', c', h1, h2, h3⟩ := h
  exact ⟨a, n, c, a', n', c', bkeep hb h1, h2.keep hb, h3⟩
theorem AtX.row {w : World} {g q : Nat} {ty ty' : TypeId} {t : St} {u : Value} {a1 a2 : Option Addr} {n1 n2 c1 c2 : Nat} (h : AtX w g ty t u) (hq : w.heap[q]? = some (.cells #[.slice a1 n1 c1, .slice a2 n2 c2] ty' (0, 0))) (hne : g ≠ q) (cs : Array Value) : AtX (w.setRow q cs) g ty t u := by
  obtain ⟨a, n, c, a', n', c', h1, h2, h3⟩ := h
  exact ⟨a, n, c, a', n', c', (setRow_other _ _ _ _ hne).trans h1, h2.row hq _, h3⟩
theorem AtX.grow {w w' : World} {g n0 : Nat} {ty : TypeId} {t : St} {u u' : Value} (h : AtX w g ty t u) (hg : w.grownBy w' u.ownBlock) (hgu : some g ≠ u.ownBlock) (ht : u'.ownBlock = u.ownBlock ∨ u'.ownBlock = some n0) (hn : w.heap.size ≤ n0) : AtX w' g ty t u' := by
  obtain ⟨a, n, c, a', n', c', h1, h2, h3, h4⟩ := h
  exact ⟨a, n, c, a', n', c', (hg.block g (lt_of_some h1) hgu).trans h1, ⟨⟨ints_grown h2.1.1 hg h3, ints_grown h2.1.2 hg h4⟩, h2.2⟩, h3.turn h2.1.1 ht hn, h4.turn h2.1.2 ht hn⟩
theorem own_row {W : World} {b gb : Nat} {v : Value} {l : List Int} (h : Own W b v l) (hb : gb < b) (cs : Array Value) : Own (W.setRow gb cs) b v l := by
  obtain ⟨h1, h2 | ⟨g, cap, cur, hv, h3, hg, h4⟩⟩ := h
  · exact ⟨h1, .inl h2⟩
  · exact ⟨h1, .inr ⟨g, cap, cur, hv, h3, (setRow_other W gb g cs (by omega)).trans hg, h4⟩⟩
/-- append of one integer, and where the new slice lies. -/
theorem append_inty {ops : Array Oper} {rest : List Oper} {o : Oper} {a : Act} {W : World} {Q : Exit → Act → World → Prop} (hgd : o.guard = none) (s x : Operand)
    (ho : o.op = .call { callee := .builtin .append, args := #[s, x], argTypes := #[22, 22] }) (base : Nat) (v : Value) (l : List Int) (y : Int) (ty : TypeId) (z : Nat) (hzz : W.heap.size = z)
    (hs : a.eval s = v) (hx : a.eval x = .slice (some ⟨z, 0, none⟩) 1 1) (hown : Hid (Own W base v l)) (hl : l.length < 4294967296) (hbase : base ≤ W.heap.size)
    (h : ∀ v' w', Hid (Own w' base v' (l ++ [y])) → Hid (Below base W w') → Hid ((W.alloc (.cells #[.int .i64 y] ty)).grownBy w' v.ownBlock) → Hid (v'.ownBlock = v.ownBlock ∨ v'.ownBlock = some (W.heap.size + 1)) → wpList Try.prog ops Q rest (a.put o.dst v') w') : wpList Try.prog ops Q (o :: rest) a (W.alloc (.cells #[.int .i64 y] ty)) := by
  subst hzz
  obtain ⟨i, hi, hz, hs1, hby⟩ := info_parts infoInt
  refine wpList_append_own_at (W.alloc (.cells #[.int .i64 y] ty)) hgd s x 22 ho base 3 i (.int .i64 0) 1 8 Try.underlying22 hi hz hs1 hby rfl (by decide) v l.length (l.map (Value.int .i64)) hs (World.ownsRow.alloc hown.out _)
    ⟨W.heap.size, 0, none⟩ 1 1 [.int .i64 y] hx rfl ?_ ?_ ?_ ?_ ?_ ?_
  · intro j u hj
    have : j = 0 := by
      have := (List.getElem?_eq_some_iff.1 hj).1
      simp at this; omega
    subst this
    simp at hj; subst hj
    exact setRow_cell (t := ty) (h1_0 W _) rfl
  · intro u hu; simp at hu; subst hu; rfl
  · simp only [maxLen]; omega
  · omega
  · simp only [World.size_alloc] <;> omega
  · intro v' w' h1 h2 _ h4
    refine h v' w' ?_ ?_ h2 (by simp only [World.size_alloc] at h4; exact h4)
    · show w'.ownsRow _ _ _ _ _ _
      simpa using h1
    · exact Below.grown (Below.alloc (Below.refl _ _) hbase _) h2 (by simp only [World.size_alloc] <;> omega) (fun k hk => (World.ownsRow.lt hown.out k hk).1)
theorem results_tc {fn : Func} {p u : Tmp} {ty : TypeId} (h : fn.results = #[.tmp u, .cell p ty]) (tmps : Array Value) (P : Program) (w : World) :
    (results fn tmps).run P w =
      ((asAddr (tmps.getD p undef)).run P w).andThen fun a w₁ => ((loadVar ty a).run P w₁).andThen fun v w₂ => .ok (.tuple #[tmps.getD u undef, v]) w₂ := by
  simp only [results, h]
  simp [Sem.run_bind, Result.andThen]
theorem res_tc {fn : Func} {p u : Tmp} (h : fn.results = #[.tmp u, .cell p 82]) (tmps : Array Value) (w : World) (g : Nat) (ty : TypeId) (va vp x : Value) (hp : tmps.getD p undef = .pointer (some ⟨g, 0, none⟩)) (hu : tmps.getD u undef = x) (hg : w.heap[g]? = some (.cells #[va, vp] ty (0, 0))) :
    (results fn tmps).run Try.prog w = .ok (.tuple #[x, .agg #[va, vp]]) w := by
  rw [results_tc h, hp, hu]
  simp only [asAddr, Sem.run_pure, Result.andThen_ok]
  rw [run_loadVar_row (P := Try.prog) w g ty 82 #[va, vp] (0, 0) _ hg Try.underlying82 rfl (by kernel_rfl)]
  rfl
def Cutt (t : St) (l : List En) (w : World) (e : Ending) (w' : World) : Prop := ∃ v da dp, e = .returned (.tuple #[v, .agg #[da, dp]]) ∧ IsInts w' v (enN t l l.length) ∧ IsS w' da dp (owN t l l.length) ∧ Below w.heap.size w w'
theorem a0_py {D : St} {k x : Int} (h : ∀ i, D.a.getD i false = false) : ∀ i, (pyS D k x).a.getD i false = false := fun i => by
  unfold pyS
  split
  · show (D.a.set _ false).getD i false = false
    rw [getD_set]; split
    · rfl
    · exact h i
  · split <;> exact h i

set_option maxRecDepth 100000 in
set_option maxHeartbeats 4000000 in
theorem rcut_any (va vp vl : Value) (t : St) (l : List En) (w : World) (hw : t.Wf) (h0 : t.a.getD 0 false = false) (hm : IsS w va vp t) (hl : IsLog w vl l) (hv : ∀ j, j < l.length → erN t l j = 0) (h5 : l.length ≤ 5000) : Calls Try.prog 48 #[.agg #[va, vp], vl] w (Cutt t l w) := by
  obtain ⟨aa, na, ca, rfl⟩ := hm.1.1.slice
  obtain ⟨ap, np, cp, rfl⟩ := hm.1.2.slice
  obtain ⟨al, nl, cl, rfl⟩ := hl.slice
  obtain ⟨rfl, hln⟩ := hl.len
  have HM := Lib.hid hm
  have HL := Lib.hid hl
  have HV := Lib.hid hv
  have HW := Lib.hid hw
  have H0 := Lib.hid h0
  clear hm hl hv hw h0
  have X0 : Hid (((w.alloc (.cells #[.slice aa na ca, .slice ap np cp] 25)).alloc (.cells #[.slice none 0 0, .slice none 0 0] 82)).heap[w.heap.size]? = some (.cells #[.slice aa na ca, .slice ap np cp] 25 (0, 0))) := h2_0 _ _ _
  have Y0 : Hid (((w.alloc (.cells #[.slice aa na ca, .slice ap np cp] 25)).alloc (.cells #[.slice none 0 0, .slice none 0 0] 82)).heap[w.heap.size + 1]? = some (.cells #[.slice none 0 0, .slice none 0 0] 82 (0, 0))) := h2_1 _ _ _
  have B0 : Hid (Below w.heap.size w ((w.alloc (.cells #[.slice aa na ca, .slice ap np cp] 25)).alloc (.cells #[.slice none 0 0, .slice none 0 0] 82))) := (((Below.refl _ _).alloc (Nat.le_refl _) _).alloc (by simp only [World.size_alloc] <;> omega) _)
  go_enter Try.func48, Try.ntmps48
  go_upto_region 2 with fail
  generalize (w.alloc (.cells #[.slice aa na ca, .slice ap np cp] 25)).alloc (.cells #[.slice none 0 0, .slice none 0 0] 82) = w0 at *
  obtain ⟨g, hg⟩ : ∃ g, g = w.heap.size := ⟨_, rfl⟩
  rw [← hg] at X0 Y0 ⊢
  have hgw : w.heap.size ≤ g := by omega
  clear hg
  go_wp2_with (((with_reducible refine ld25 ?a1 (.tmp 2) ?a2 g ?a3 _ _ 25 X0 ?_); (case a1 => rfl); (case a2 => rfl); (case a3 => rfl)))
  refine (rowed_any _ _ t _ HW.out H0.out (HM.out.keep B0.out)).mono ?_
  rintro e w1 ⟨da, dp, rfl, hsd, hb, hfa, hfp⟩
  obtain ⟨a1, n1, e1, rfl⟩ := hsd.1.1.slice
  obtain ⟨a2, n2, e2, rfl⟩ := hsd.1.2.slice
  have B1 : Hid (Below w.heap.size w (w1.alloc (.cells #[.slice a1 n1 e1, .slice a2 n2 e2] 82))) := balloc (btrans B0.out hb) _
  have A1 : Hid (AtX (w1.alloc (.cells #[.slice a1 n1 e1, .slice a2 n2 e2] 82)) g 25 (stN t l 0) (.slice none 0 0)) := ⟨_, _, _, _, _, _, hold1 (bkeep hb X0.out) _, ((HM.out.keep B0.out).keep hb).keep ((Below.refl _ _).alloc (Nat.le_refl _) _), Apz.none _ _ _, Apz.none _ _ _⟩
  have D1 : Hid (AtX (w1.alloc (.cells #[.slice a1 n1 e1, .slice a2 n2 e2] 82)) w1.heap.size 82 (owN t l 0) (.slice none 0 0)) := ⟨_, _, _, _, _, _, h1_0 _ _, hsd.keep ((Below.refl _ _).alloc (Nat.le_refl _) _), Apz.none _ _ _, Apz.none _ _ _⟩
  have Y1 : Hid ((w1.alloc (.cells #[.slice a1 n1 e1, .slice a2 n2 e2] 82)).heap[g + 1]? = some (.cells #[.slice none 0 0, .slice none 0 0] 82 (0, 0))) := hold1 (bkeep hb Y0.out) _
  have hg7 : g + 1 < w1.heap.size := lt_of_some (bkeep hb Y0.out)
  have hs7 : (w1.alloc (.cells #[.slice a1 n1 e1, .slice a2 n2 e2] 82)).heap.size = w1.heap.size + 1 := by simp only [World.size_alloc]
  clear hb hsd hfa hfp X0 Y0 B0
  go_upto_region 3 with fail
  generalize w1.alloc (.cells #[.slice a1 n1 e1, .slice a2 n2 e2] 82) = W at *
  generalize w1.heap.size = g7 at *
  go_wp2_with fail
  go_loopw [6, 8] (fun u i wr => ∃ k : Nat, k ≤ l.length ∧ i = .int .i64 k ∧ Hid (Own wr W.heap.size u (enN t l k)) ∧ Hid (AtX wr g 25 (stN t l k) u) ∧ Hid (AtX wr g7 82 (owN t l k) u) ∧ Hid (wr.heap[g + 1]? = some (.cells #[.slice none 0 0, .slice none 0 0] 82 (0, 0))) ∧ Hid (Below w.heap.size w wr) ∧ W.heap.size ≤ wr.heap.size) (fun _ i _ => l.length - (intOf i).toNat)
  case atStart => exact ⟨0, by omega, rfl, Own.nil _ _, A1, D1, Y1, B1, Nat.le_refl _⟩
  case round =>
    obtain ⟨k, hk, rfl, ho, ha, hd, hy, hb, hsz⟩ := hrel
    clear A1 D1 Y1 B1
    by_cases hlt : k < l.length
    · obtain ⟨bb, off, rfl, c0, c1⟩ := (HL.out.keep hb.out).at k hlt
      obtain ⟨a1, n1, k1, a2, n2, k2, hx, hs, p1, p2⟩ := ha.out
      obtain ⟨q0, q1⟩ := c2 hx
      have HX := Lib.hid hx
      have HS := Lib.hid hs
      have i1 : (0 : Int) ≤ (k : Int) := by omega
      have i2 : (k : Int) < (l.length : Int) := by omega
      have i3 : (k : Int) < 5000 := by omega
      have HT : Hid (stN t l (k + 1) = apS (stN t l k) (l.getD k (0, 0)).1 (l.getD k (0, 0)).2) := rfl
      have HR : Hid (apE (stN t l k) (l.getD k (0, 0)).1 (l.getD k (0, 0)).2 = 0) := HV.out k hlt
      have HWF := Lib.hid (Wf_stN HW.out l k)
      have HWD := Lib.hid (Wf_owN HW.out l k)
      have HEN : Hid (enN t l (k + 1) = if nonB (pyS (owN t l k) (l.getD k (0, 0)).1 (l.getD k (0, 0)).2) = true then enN t l k ++ [(k : Int) + 1] else enN t l k) := rfl
      have HOW : Hid (owN t l (k + 1) = if nonB (pyS (owN t l k) (l.getD k (0, 0)).1 (l.getD k (0, 0)).2) = true then ows (stN t l (k + 1)) else pyS (owN t l k) (l.getD k (0, 0)).1 (l.getD k (0, 0)).2) := rfl
      have HA0 : Hid ((stN t l (k + 1)).a.getD 0 false = false) := a0_stN H0.out (k + 1) (fun j hj => HV.out j (by omega))
      have HW1 := Lib.hid (Wf_stN HW.out l (k + 1))
      have HLT := Lib.hid (fun b hb => (World.ownsRow.lt ho.out b hb).2)
      have P1 := Lib.hid p1
      have P2 := Lib.hid p2
      have hel := enN_len t l k
      have HCC : Hid (∀ W', Below w.heap.size w W' → W'.cell? ⟨bb, off + k * 2, none⟩ = some (.int .i64 (l.getD k (0, 0)).1) ∧ W'.cell? ⟨bb, off + k * 2 + 1, none⟩ = some (.int .i64 (l.getD k (0, 0)).2)) := fun W' hb' => by
        obtain ⟨_, _, e9, x0, x1⟩ := (HL.out.keep hb').at k hlt
        cases e9
        exact ⟨x0, x1⟩
      clear hx hs ha p1 p2
      generalize (l.getD k (0, 0)).1 = kk at *
      generalize (l.getD k (0, 0)).2 = xx at *
      go_upto_region 6 with fail
      go_cut [25] (fun s wx => Hid (Own wx W.heap.size u6 (enN t l k)) ∧ Hid (AtX wx g 25 (stN t l (k + 1)) u6) ∧ Hid (AtX wx g7 82 (owN t l k) u6) ∧ Hid (wx.heap[g + 1]? = some (.cells #[.slice none 0 0, .slice none 0 0] 82 (0, 0))) ∧ Hid (Below wr.heap.size wr wx ∨ True) ∧ Hid (Below w.heap.size w wx) ∧ W.heap.size ≤ wx.heap.size)
      case first =>
        go_region_law (first | (go_simp; go_at_call 46; (with_reducible refine (next_any _ _ (stN t l k) kk xx _ ?k1 ?k2).mono ?_); (case k1 => exact HWF.out); (case k2 => exact HS.out); rintro e w5 ⟨va5, vp5, rfl, hs5, hb5, f5, f6⟩; obtain ⟨a5, n5, k5, rfl⟩ := hs5.1.1.slice; obtain ⟨a6, n6, k6, rfl⟩ := hs5.1.2.slice; have B5 : Hid (Below wr.heap.size wr w5) := btrans (w := wr) (Below.drew (Below.refl _ _)) hb5; have X5 := Lib.hid (bkeep B5.out HX.out); have S5 := Lib.hid hs5; have F5 := Lib.hid (Apz.or f5 P1.out HLT.out); have F6 := Lib.hid (Apz.or f6 P2.out HLT.out); obtain ⟨s0, s1⟩ := c2 X5.out; have f0 := fr (j := 0) X5.out; have f1 := fr (j := 1) X5.out; clear hb5 hs5 f5 f6) | fail)
        all_goals
          rw [set2 X5.out]
          go_wp2_with fail
          go_meet
          exact ⟨own_row (ho.out.keep B5.out) (by omega) _, ⟨_, _, _, _, _, _, setRow_heap _ _ _ _ _ _ X5.out, by rw [HT.out]; exact S5.out.row X5.out _, F5.out, F6.out⟩, (hd.out.keep B5.out).row X5.out (by omega) _, (setRow_other _ _ _ _ (by omega)).trans (bkeep B5.out hy.out), .inr trivial, below_setRow (btrans hb.out B5.out) hgw _, by have := B5.out.size; simp; omega⟩
      case rest =>
        obtain ⟨ho2, ha2, hd2, hy2, _, hb2, hs2⟩ := hcut
        obtain ⟨w6, hw6⟩ : ∃ x, x = wc := ⟨_, rfl⟩
        rw [← hw6] at ho2 ha2 hd2 hy2 hb2 hs2 ⊢
        clear hw6 ho hd hy hb hsz HX HS q0 q1 c0 c1 HLT P1 P2 HWF HT
        obtain ⟨c0, c1⟩ := HCC.out w6 hb2.out
        obtain ⟨a3, n3, k3, a4, n4, k4, hx, hs, p1, p2⟩ := hd2.out
        obtain ⟨q0, q1⟩ := c2 hx
        have HX := Lib.hid hx
        have HS := Lib.hid hs
        have P1 := Lib.hid p1
        have P2 := Lib.hid p2
        have HLT := Lib.hid (fun b hb => (World.ownsRow.lt ho2.out b hb).2)
        clear hx hs hd2 p1 p2
        have HWP : Hid (pyS (owN t l k) kk xx).Wf := Wf_pyS HWD.out _ _
        go_upto_region 7 with fail
        go_cut [31] (fun s wx => Hid (Own wx W.heap.size u6 (enN t l k)) ∧ Hid (AtX wx g 25 (stN t l (k + 1)) u6) ∧ Hid (AtX wx g7 82 (pyS (owN t l k) kk xx) u6) ∧ Hid (wx.heap[g + 1]? = some (.cells #[.slice none 0 0, .slice none 0 0] 82 (0, 0))) ∧ Hid (Below w.heap.size w wx) ∧ W.heap.size ≤ wx.heap.size)
        case first =>
          go_region_law (first | (go_simp; go_at_call 60; (with_reducible refine (paid_any _ _ (owN t l k) (stN t l k) kk xx _ ?k1 ?k2 ?k3).mono ?_); (case k1 => exact HWD.out); (case k2 => exact HS.out); (case k3 => exact HR.out); rintro e w7 ⟨va7, vp7, rfl, hs7, hb7, f7, f8⟩; obtain ⟨a5, n5, k5, rfl⟩ := hs7.1.1.slice; obtain ⟨a6, n6, k6, rfl⟩ := hs7.1.2.slice; have B5 : Hid (Below w6.heap.size w6 w7) := btrans (w := w6) (Below.drew (Below.refl _ _)) hb7; have X5 := Lib.hid (bkeep B5.out HX.out); have S5 := Lib.hid hs7; have F5 := Lib.hid (Apz.or f7 P1.out HLT.out); have F6 := Lib.hid (Apz.or f8 P2.out HLT.out); obtain ⟨s0, s1⟩ := c2 X5.out; have f0 := fr (j := 0) X5.out; have f1 := fr (j := 1) X5.out; clear hb7 hs7 f7 f8) | fail)
          all_goals
            rw [set2 X5.out]
            go_wp2_with fail
            go_meet
            exact ⟨own_row (ho2.out.keep B5.out) (by omega) _, (ha2.out.keep B5.out).row X5.out (by omega) _, ⟨_, _, _, _, _, _, setRow_heap _ _ _ _ _ _ X5.out, S5.out.row X5.out _, F5.out, F6.out⟩, (setRow_other _ _ _ _ (by omega)).trans (bkeep B5.out hy2.out), below_setRow (btrans hb2.out B5.out) (by omega) _, by have := B5.out.size; simp; omega⟩
        case rest =>
          obtain ⟨ho3, ha3, hd3, hy3, hb3, hs3⟩ := hcut
          obtain ⟨w8, hw8⟩ : ∃ x, x = wc := ⟨_, rfl⟩
          rw [← hw8] at ho3 ha3 hd3 hy3 hb3 hs3 ⊢
          clear hw8 ho2 ha2 hy2 hb2 hs2 HX HS q0 q1 c0 c1 HLT P1 P2 HWD HR HCC
          obtain ⟨a5, n5, k5, a6, n6, k6, hx, hs, _, _⟩ := hd3.out
          obtain ⟨rfl, _⟩ := hs.1.1.len
          obtain ⟨rfl, _⟩ := hs.1.2.len
          have N1 := Lib.hid (idx_none (b := (pyS (owN t l k) kk xx).a))
          have N2 := Lib.hid (idx_none (b := (pyS (owN t l k) kk xx).s))
          have HX := Lib.hid hx
          clear hs
          by_cases hnb : nonB (pyS (owN t l k) kk xx) = true
          · rw [if_pos hnb] at HEN HOW
            have z1 : (moS (pyS (owN t l k) kk xx)).b.length = 0 := N1.out.2 (any_false.2 (nonB_iff.1 hnb).1)
            have z2 : (moS (pyS (owN t l k) kk xx)).p.length = 0 := N2.out.2 (any_false.2 (nonB_iff.1 hnb).2)
            rw [z1, z2] at hx
            obtain ⟨q0, q1⟩ := c2 hx
            clear hnb N1 N2 z1 z2 hx
            go_upto_region 10 with (((with_reducible refine append_inty ?b1 (.tmp 42) (.tmp 45) ?b2 W.heap.size u6 (enN t l k) ((k : Int) + 1) 3 w8.heap.size ?b3 ?b4 ?b5 ho3 ?b6 ?b7 ?_); (case b1 => rfl); (case b2 => rfl); (case b3 => rfl); (case b4 => rfl); (case b5 => rfl); (case b6 => omega); (case b7 => omega)); intro v9 w9 ho9 hb9 hg9 hl9)
            have hne : ∀ j, j < W.heap.size → some j ≠ u6.ownBlock := fun j hj e => by have := (World.ownsRow.lt ho3.out j e.symm).1; omega
            have ha9 : Hid (AtX w9 g 25 (stN t l (k + 1)) v9) := (ha3.out.keep ((Below.refl _ _).alloc (Nat.le_refl _) _)).grow hg9.out (hne g (by omega)) hl9.out (by simp only [World.size_alloc]; omega)
            have hx9 : Hid (∃ r1 r2 r3 r4 r5 r6, w9.heap[g7]? = some (.cells #[.slice r1 r2 r3, .slice r4 r5 r6] 82 (0, 0))) := ⟨_, _, _, _, _, _, (hb9.out.block g7 (by omega)).trans HX.out⟩
            have hy9 : Hid (w9.heap[g + 1]? = some (.cells #[.slice none 0 0, .slice none 0 0] 82 (0, 0))) := (hb9.out.block (g + 1) (by omega)).trans hy3.out
            have B9 : Hid (Below w.heap.size w w9) := hb3.out.trans (hb9.out.mono (by have := hb3.out.size; omega))
            have hs9 : W.heap.size ≤ w9.heap.size := by have := hb9.out.size; omega
            clear hne ha3 hd3 hy3 hb3 hs3 hb9 hg9 hl9 q0 q1 ho3 HX
            obtain ⟨r1, r2, r3, r4, r5, r6, hx9⟩ := hx9.out
            have HX9 := Lib.hid hx9
            obtain ⟨a7, n7, k7, a8, n8, k8, hxa, hsa, pa1, pa2⟩ := ha9.out
            have HXA := Lib.hid hxa
            clear hx9 hxa
            go_wp2_with (((with_reducible refine ld25 ?c1 (.tmp 2) ?c2 g ?c3 _ _ 25 HXA ?_); (case c1 => rfl); (case c2 => rfl); (case c3 => rfl)))
            refine (rowed_any _ _ (stN t l (k + 1)) _ HW1.out HA0.out hsa).mono ?_
            rintro e wa ⟨da, dp, rfl, hsd, hba, hfa, hfp⟩
            obtain ⟨e1, m1, j1, rfl⟩ := hsd.1.1.slice
            obtain ⟨e2, m2, j2, rfl⟩ := hsd.1.2.slice
            have HXB := Lib.hid (bkeep hba HX9.out)
            have HSD := Lib.hid hsd
            have BA := Lib.hid hba
            have hu : ∀ b, v9.ownBlock = some b → b < w9.heap.size := fun b hb => (World.ownsRow.lt ho9.out b hb).2
            have F1 := Lib.hid (Apz.fresh hfa hu)
            have F2 := Lib.hid (Apz.fresh hfp hu)
            clear hsd hba hfa hfp hu hsa pa1 pa2
            go_wp2_with (((with_reducible refine st82 ?d1 (.tmp 7) (.tmp 48) ?d2 g7 (.slice r1 r2 r3) (.slice r4 r5 r6) (.slice e1 m1 j1) (.slice e2 m2 j2) 82 ?d3 ?d4 HXB ?d5 ?_); (case d1 => rfl); (case d2 => rfl); (case d3 => rfl); (case d4 => rfl); (case d5 => exact one2 _ _ _ _ _ _)))
            go_roundw
            case rel => exact ⟨k + 1, by omega, by go_num, by rw [HEN.out]; exact own_row (ho9.out.keep BA.out) (by omega) _, (ha9.out.keep BA.out).row HXB.out (by omega) _, ⟨_, _, _, _, _, _, setRow_heap _ _ _ _ _ _ HXB.out, by rw [HOW.out]; exact HSD.out.row HXB.out _, F1.out, F2.out⟩, (setRow_other _ _ _ _ (by omega)).trans (bkeep BA.out hy9.out), below_setRow (btrans B9.out BA.out) (by omega) _, by have := BA.out.size; simp; omega⟩
            case measure => simp [intOf]; omega
          · rw [if_neg hnb] at HEN HOW
            have hz : (((moS (pyS (owN t l k) kk xx)).b.length : Int) == 0) = false ∨ ((((moS (pyS (owN t l k) kk xx)).b.length : Int) == 0) = true ∧ (((moS (pyS (owN t l k) kk xx)).p.length : Int) == 0) = false) := by
              by_cases z1 : (moS (pyS (owN t l k) kk xx)).b.length = 0
              · refine .inr ⟨by simpa using z1, ?_⟩
                by_cases z2 : (moS (pyS (owN t l k) kk xx)).p.length = 0
                · exact absurd (nonB_iff.2 ⟨any_false.1 (N1.out.1 z1), any_false.1 (N2.out.1 z2)⟩) hnb
                · simpa using z2
              · exact .inl (by simpa using z1)
            obtain ⟨q0, q1⟩ := c2 hx
            generalize (moS (pyS (owN t l k) kk xx)).b.length = x1 at *
            generalize (moS (pyS (owN t l k) kk xx)).p.length = x2 at *
            clear hnb N1 N2 hx HX
            rcases hz with z1 | ⟨z1, z2⟩
            all_goals
              go_wp2_with fail
              go_roundw
              case rel => exact ⟨k + 1, by omega, by go_num, by rw [HEN.out]; exact ho3, ha3, by rw [HOW.out]; exact hd3, hy3, hb3, hs3⟩
              case measure => simp [intOf]; omega
    · obtain rfl : k = l.length := by omega
      obtain ⟨a3, n3, k3, a4, n4, k4, hx, hs, _, _⟩ := hd.out
      obtain ⟨q0, q1⟩ := c2 hx
      obtain ⟨t0, t1⟩ := c2 hy.out
      have HS := Lib.hid hs
      have f0 := fr (j := 0) hy.out
      have f1 := fr (j := 1) hy.out
      have hiv := ho.out.ints (by have := enN_len t l l.length; omega)
      have HIV := Lib.hid hiv
      have hg7w : g7 < wr.heap.size := lt_of_some hx
      have i2 : (l.length : Int) ≤ (l.length : Int) := by omega
      clear hs hx hiv ha hd
      go_upto_region 11 with fail
      go_region_held3 (fun w' => w'.cell? ⟨g7, 0, none⟩ = some (.slice a3 n3 k3) ∧ w'.cell? ⟨g7, 1, none⟩ = some (.slice a4 n4 k4))
        (refine ⟨?_, ?_⟩ <;> (with_reducible repeat (first | exact q0 | exact q1 | refine cellD ?_ | (refine cellS ?_ _ _ (by simp only []; omega)))))
        (first | fail)
      all_goals
        rw [set2 hy.out]
        go_wp2_with fail
        exact bodyPost_ret (v := .tuple #[u6, .agg #[.slice a3 n3 k3, .slice a4 n4 k4]]) (res_tc (fn := Try.f48) (p := 5) (u := 4) rfl _ _ (g + 1) 82 (.slice a3 n3 k3) (.slice a4 n4 k4) u6 rfl rfl (setRow_heap wr _ _ _ _ _ hy.out)) rfl ⟨u6, _, _, rfl, IsInts.keep (w := wr.setRow (g + 1) #[.slice a3 n3 k3, .slice a4 n4 k4]) (ints_setRow HIV.out hy.out _) (Below.drew (Below.refl _ _)), IsS.keep (w := wr.setRow (g + 1) #[.slice a3 n3 k3, .slice a4 n4 k4]) (HS.out.row hy.out _) (Below.drew (Below.refl _ _)), Below.drew (below_setRow hb.out (by omega) _)⟩
end Go.Proofs.Ytgdcgmnfgbdiiaa
