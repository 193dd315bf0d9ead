/- Helper facts for the statements of this seat; no statement itself. -/
import Derived.Test.YtgdcgmnfgbdiiaaRW
import Derived.Test.YtgdcgmnfgbdiiaaR
import Derived.Outline
namespace Go.Proofs.Ytgdcgmnfgbdiiaa
open Go.RowKit
set_option linter.unusedSimpArgs false
set_option linter.unusedVariables false
set_option linter.unnecessarySimpa false

/-- A moment's value reads as this state. -/
def IsS (w : World) (va vp : Value) (t : St) : Prop := IsM w va vp (moS t) ∧ CapI va ∧ CapI vp
theorem IsS.keep {w w' : World} {va vp : Value} {t : St} (h : IsS w va vp t) (hb : Below w.heap.size w w') : IsS w' va vp t := ⟨h.1.keep hb, h.2⟩
/-- A slice of the call's own making. -/
def Frh (w : World) (v : Value) : Prop := ∀ b, v.ownBlock = some b → w.heap.size ≤ b
def Nxt (va0 vp0 : Value) (t : St) (k x : Int) (w : World) (e : Ending) (w' : World) : Prop := ∃ va vp, e = .returned (.tuple #[.agg #[va, vp], .int .i64 (apE t k x)]) ∧ IsS w' va vp (apS t k x) ∧ Below w.heap.size w w' ∧ (va = va0 ∨ Frh w va) ∧ (vp = vp0 ∨ Frh w vp)
theorem setCell0 {w : World} {g : Nat} {ty : TypeId} {a b : Value} (h : w.heap[g]? = some (.cells #[a, b] ty (0, 0))) (v : Value) : w.setCell ⟨g, 0, none⟩ v = w.setRow g #[v, b] := by
  rw [setCell_eq_setRow w g 0 _ ty (0, 0) _ h]; rfl
theorem setCell1 {w : World} {g : Nat} {ty : TypeId} {a b : Value} (h : w.heap[g]? = some (.cells #[a, b] ty (0, 0))) (v : Value) : w.setCell ⟨g, 1, none⟩ v = w.setRow g #[a, v] := by
  rw [setCell_eq_setRow w g 1 _ ty (0, 0) _ h]; rfl
theorem apS_err {t : St} {k x : Int} (h : apE t k x ≠ 0) : apS t k x = t := if_neg h
set_option maxRecDepth 100000 in
set_option maxHeartbeats 2000000 in
theorem next_pick (va vp : Value) (t : St) (x : Int) (h0 : 0 ≤ x) (h8 : x ≤ 8) (w : World) (hw : t.Wf) (hm : IsS w va vp t) : Calls Try.prog 46 #[.agg #[va, vp], .agg #[.int .i64 1, .int .i64 x]] w (Nxt va vp t 1 x w) := by
  obtain ⟨aa, na, ca, rfl⟩ := hm.1.1.slice
  obtain ⟨ap, np, cp, rfl⟩ := hm.1.2.slice
  have HM := Lib.hid hm
  clear hm
  have HE : Hid (apE t 1 x = 0 ∧ apS t 1 x = t) := by
    have e : apE t 1 x = 0 := by
      unfold apE
      rw [if_pos rfl, if_pos ⟨h0, h8⟩]
    exact ⟨e, by unfold apS; rw [if_pos e, if_neg (by decide), if_neg (by decide)]⟩
  have R0 : Hid ((((w.alloc (.cells #[.slice aa na ca, .slice ap np cp] 25)).alloc (.cells #[.int .i64 1, .int .i64 x] 37)).alloc (.cells #[.slice none 0 0, .slice none 0 0] 25)).heap[w.heap.size]? = some (.cells #[.slice aa na ca, .slice ap np cp] 25 (0, 0))) := h3_0 _ _ _ _
  have R1 : Hid ((((w.alloc (.cells #[.slice aa na ca, .slice ap np cp] 25)).alloc (.cells #[.int .i64 1, .int .i64 x] 37)).alloc (.cells #[.slice none 0 0, .slice none 0 0] 25)).heap[w.heap.size + 1]? = some (.cells #[.int .i64 1, .int .i64 x] 37 (0, 0))) := h3_1 _ _ _ _
  have R2 : Hid ((((w.alloc (.cells #[.slice aa na ca, .slice ap np cp] 25)).alloc (.cells #[.int .i64 1, .int .i64 x] 37)).alloc (.cells #[.slice none 0 0, .slice none 0 0] 25)).heap[w.heap.size + 1 + 1]? = some (.cells #[.slice none 0 0, .slice none 0 0] 25 (0, 0))) := h3_2 _ _ _ _
  have B0 : Hid (Below w.heap.size w (((w.alloc (.cells #[.slice aa na ca, .slice ap np cp] 25)).alloc (.cells #[.int .i64 1, .int .i64 x] 37)).alloc (.cells #[.slice none 0 0, .slice none 0 0] 25))) := ((((Below.refl _ _).alloc (Nat.le_refl _) _).alloc (by simp only [World.size_alloc] <;> omega) _).alloc (by simp only [World.size_alloc] <;> omega) _)
  go_enter Try.func46, Try.ntmps46
  go_upto_region 2 with fail
  generalize ((w.alloc (.cells #[.slice aa na ca, .slice ap np cp] 25)).alloc (.cells #[.int .i64 1, .int .i64 x] 37)).alloc (.cells #[.slice none 0 0, .slice none 0 0] 25) = W0 at *
  obtain ⟨g, hg⟩ : ∃ g, g = w.heap.size := ⟨_, rfl⟩
  rw [← hg] at R0 R1 R2 ⊢
  have hgw : w.heap.size ≤ g := by omega
  clear hg
  have hg2 : g + 1 + 1 < W0.heap.size := lt_of_some R2.out
  obtain ⟨d0, d1⟩ := c2 R1.out
  obtain ⟨q0, q1⟩ := c2 R0.out
  go_wp2_with (first | ((with_reducible refine ld25 ?a1 (.tmp 2) ?a2 g ?a3 _ _ 25 R0 ?_); (case a1 => rfl); (case a2 => rfl); (case a3 => rfl)) | ((with_reducible refine st25 ?a4 (.tmp 4) (.tmp 90) ?a5 (g + 1 + 1) (.slice none 0 0) (.slice none 0 0) (.slice aa na ca) (.slice ap np cp) 25 ?a6 ?a7 R2 ?a8 ?_); (case a4 => rfl); (case a5 => rfl); (case a6 => rfl); (case a7 => rfl); (case a8 => exact one2 _ _ _ _ _ _)))
  exact bodyPost_ret (v := .tuple #[.agg #[.slice aa na ca, .slice ap np cp], .int .i64 0]) (res25 (fn := Try.f46) (p := 4) (u := 5) rfl _ _ (g + 1 + 1) 25 (.slice aa na ca) (.slice ap np cp) (.int .i64 0) rfl rfl (setRow_heap _ _ _ _ _ _ R2.out)) rfl ⟨_, _, by rw [HE.out.1], by rw [HE.out.2]; exact HM.out.keep (below_setRow B0.out (by omega) _), below_setRow B0.out (by omega) _, .inl rfl, .inl rfl⟩
set_option maxRecDepth 100000 in
set_option maxHeartbeats 2000000 in
theorem next_low1 (va vp : Value) (t : St) (x : Int) (h0 : x < 0) (w : World) (hw : t.Wf) (hm : IsS w va vp t) : Calls Try.prog 46 #[.agg #[va, vp], .agg #[.int .i64 1, .int .i64 x]] w (Nxt va vp t 1 x w) := by
  obtain ⟨aa, na, ca, rfl⟩ := hm.1.1.slice
  obtain ⟨ap, np, cp, rfl⟩ := hm.1.2.slice
  have HM := Lib.hid hm
  clear hm
  have HE : Hid (apE t 1 x = 2 ∧ apS t 1 x = t) := by
    have e : apE t 1 x = 2 := by
      unfold apE
      rw [if_pos rfl, if_neg (by omega)]
    exact ⟨e, apS_err (by rw [e]; decide)⟩
  have R0 : Hid ((((w.alloc (.cells #[.slice aa na ca, .slice ap np cp] 25)).alloc (.cells #[.int .i64 1, .int .i64 x] 37)).alloc (.cells #[.slice none 0 0, .slice none 0 0] 25)).heap[w.heap.size]? = some (.cells #[.slice aa na ca, .slice ap np cp] 25 (0, 0))) := h3_0 _ _ _ _
  have R1 : Hid ((((w.alloc (.cells #[.slice aa na ca, .slice ap np cp] 25)).alloc (.cells #[.int .i64 1, .int .i64 x] 37)).alloc (.cells #[.slice none 0 0, .slice none 0 0] 25)).heap[w.heap.size + 1]? = some (.cells #[.int .i64 1, .int .i64 x] 37 (0, 0))) := h3_1 _ _ _ _
  have R2 : Hid ((((w.alloc (.cells #[.slice aa na ca, .slice ap np cp] 25)).alloc (.cells #[.int .i64 1, .int .i64 x] 37)).alloc (.cells #[.slice none 0 0, .slice none 0 0] 25)).heap[w.heap.size + 1 + 1]? = some (.cells #[.slice none 0 0, .slice none 0 0] 25 (0, 0))) := h3_2 _ _ _ _
  have B0 : Hid (Below w.heap.size w (((w.alloc (.cells #[.slice aa na ca, .slice ap np cp] 25)).alloc (.cells #[.int .i64 1, .int .i64 x] 37)).alloc (.cells #[.slice none 0 0, .slice none 0 0] 25))) := ((((Below.refl _ _).alloc (Nat.le_refl _) _).alloc (by simp only [World.size_alloc] <;> omega) _).alloc (by simp only [World.size_alloc] <;> omega) _)
  go_enter Try.func46, Try.ntmps46
  go_upto_region 2 with fail
  generalize ((w.alloc (.cells #[.slice aa na ca, .slice ap np cp] 25)).alloc (.cells #[.int .i64 1, .int .i64 x] 37)).alloc (.cells #[.slice none 0 0, .slice none 0 0] 25) = W0 at *
  obtain ⟨g, hg⟩ : ∃ g, g = w.heap.size := ⟨_, rfl⟩
  rw [← hg] at R0 R1 R2 ⊢
  have hgw : w.heap.size ≤ g := by omega
  clear hg
  have hg2 : g + 1 + 1 < W0.heap.size := lt_of_some R2.out
  obtain ⟨d0, d1⟩ := c2 R1.out
  obtain ⟨q0, q1⟩ := c2 R0.out
  go_wp2_with (first | ((with_reducible refine ld25 ?a1 (.tmp 2) ?a2 g ?a3 _ _ 25 R0 ?_); (case a1 => rfl); (case a2 => rfl); (case a3 => rfl)) | ((with_reducible refine st25 ?a4 (.tmp 4) (.tmp 29) ?a5 (g + 1 + 1) (.slice none 0 0) (.slice none 0 0) (.slice aa na ca) (.slice ap np cp) 25 ?a6 ?a7 R2 ?a8 ?_); (case a4 => rfl); (case a5 => rfl); (case a6 => rfl); (case a7 => rfl); (case a8 => exact one2 _ _ _ _ _ _)))
  exact bodyPost_ret (v := .tuple #[.agg #[.slice aa na ca, .slice ap np cp], .int .i64 2]) (res25 (fn := Try.f46) (p := 4) (u := 5) rfl _ _ (g + 1 + 1) 25 (.slice aa na ca) (.slice ap np cp) (.int .i64 2) rfl rfl (setRow_heap _ _ _ _ _ _ R2.out)) rfl ⟨_, _, by rw [HE.out.1], by rw [HE.out.2]; exact HM.out.keep (below_setRow B0.out (by omega) _), below_setRow B0.out (by omega) _, .inl rfl, .inl rfl⟩
set_option maxRecDepth 100000 in
set_option maxHeartbeats 2000000 in
theorem next_high1 (va vp : Value) (t : St) (x : Int) (h0 : 8 < x) (w : World) (hw : t.Wf) (hm : IsS w va vp t) : Calls Try.prog 46 #[.agg #[va, vp], .agg #[.int .i64 1, .int .i64 x]] w (Nxt va vp t 1 x w) := by
  obtain ⟨aa, na, ca, rfl⟩ := hm.1.1.slice
  obtain ⟨ap, np, cp, rfl⟩ := hm.1.2.slice
  have HM := Lib.hid hm
  clear hm
  have HE : Hid (apE t 1 x = 2 ∧ apS t 1 x = t) := by
    have e : apE t 1 x = 2 := by
      unfold apE
      rw [if_pos rfl, if_neg (by omega)]
    exact ⟨e, apS_err (by rw [e]; decide)⟩
  have h1 : 0 ≤ x := by omega
  have R0 : Hid ((((w.alloc (.cells #[.slice aa na ca, .slice ap np cp] 25)).alloc (.cells #[.int .i64 1, .int .i64 x] 37)).alloc (.cells #[.slice none 0 0, .slice none 0 0] 25)).heap[w.heap.size]? = some (.cells #[.slice aa na ca, .slice ap np cp] 25 (0, 0))) := h3_0 _ _ _ _
  have R1 : Hid ((((w.alloc (.cells #[.slice aa na ca, .slice ap np cp] 25)).alloc (.cells #[.int .i64 1, .int .i64 x] 37)).alloc (.cells #[.slice none 0 0, .slice none 0 0] 25)).heap[w.heap.size + 1]? = some (.cells #[.int .i64 1, .int .i64 x] 37 (0, 0))) := h3_1 _ _ _ _
  have R2 : Hid ((((w.alloc (.cells #[.slice aa na ca, .slice ap np cp] 25)).alloc (.cells #[.int .i64 1, .int .i64 x] 37)).alloc (.cells #[.slice none 0 0, .slice none 0 0] 25)).heap[w.heap.size + 1 + 1]? = some (.cells #[.slice none 0 0, .slice none 0 0] 25 (0, 0))) := h3_2 _ _ _ _
  have B0 : Hid (Below w.heap.size w (((w.alloc (.cells #[.slice aa na ca, .slice ap np cp] 25)).alloc (.cells #[.int .i64 1, .int .i64 x] 37)).alloc (.cells #[.slice none 0 0, .slice none 0 0] 25))) := ((((Below.refl _ _).alloc (Nat.le_refl _) _).alloc (by simp only [World.size_alloc] <;> omega) _).alloc (by simp only [World.size_alloc] <;> omega) _)
  go_enter Try.func46, Try.ntmps46
  go_upto_region 2 with fail
  generalize ((w.alloc (.cells #[.slice aa na ca, .slice ap np cp] 25)).alloc (.cells #[.int .i64 1, .int .i64 x] 37)).alloc (.cells #[.slice none 0 0, .slice none 0 0] 25) = W0 at *
  obtain ⟨g, hg⟩ : ∃ g, g = w.heap.size := ⟨_, rfl⟩
  rw [← hg] at R0 R1 R2 ⊢
  have hgw : w.heap.size ≤ g := by omega
  clear hg
  have hg2 : g + 1 + 1 < W0.heap.size := lt_of_some R2.out
  obtain ⟨d0, d1⟩ := c2 R1.out
  obtain ⟨q0, q1⟩ := c2 R0.out
  go_wp2_with (first | ((with_reducible refine ld25 ?a1 (.tmp 2) ?a2 g ?a3 _ _ 25 R0 ?_); (case a1 => rfl); (case a2 => rfl); (case a3 => rfl)) | ((with_reducible refine st25 ?a4 (.tmp 4) (.tmp 29) ?a5 (g + 1 + 1) (.slice none 0 0) (.slice none 0 0) (.slice aa na ca) (.slice ap np cp) 25 ?a6 ?a7 R2 ?a8 ?_); (case a4 => rfl); (case a5 => rfl); (case a6 => rfl); (case a7 => rfl); (case a8 => exact one2 _ _ _ _ _ _)))
  exact bodyPost_ret (v := .tuple #[.agg #[.slice aa na ca, .slice ap np cp], .int .i64 2]) (res25 (fn := Try.f46) (p := 4) (u := 5) rfl _ _ (g + 1 + 1) 25 (.slice aa na ca) (.slice ap np cp) (.int .i64 2) rfl rfl (setRow_heap _ _ _ _ _ _ R2.out)) rfl ⟨_, _, by rw [HE.out.1], by rw [HE.out.2]; exact HM.out.keep (below_setRow B0.out (by omega) _), below_setRow B0.out (by omega) _, .inl rfl, .inl rfl⟩
set_option maxRecDepth 100000 in
set_option maxHeartbeats 2000000 in
theorem next_low2 (va vp : Value) (t : St) (x : Int) (h0 : x < 1) (w : World) (hw : t.Wf) (hm : IsS w va vp t) : Calls Try.prog 46 #[.agg #[va, vp], .agg #[.int .i64 2, .int .i64 x]] w (Nxt va vp t 2 x w) := by
  obtain ⟨aa, na, ca, rfl⟩ := hm.1.1.slice
  obtain ⟨ap, np, cp, rfl⟩ := hm.1.2.slice
  have HM := Lib.hid hm
  clear hm
  have HE : Hid (apE t 2 x = 2 ∧ apS t 2 x = t) := by
    have e : apE t 2 x = 2 := by
      unfold apE
      rw [if_neg (by decide), if_pos (by decide), if_neg (by omega)]
    exact ⟨e, apS_err (by rw [e]; decide)⟩
  have R0 : Hid ((((w.alloc (.cells #[.slice aa na ca, .slice ap np cp] 25)).alloc (.cells #[.int .i64 2, .int .i64 x] 37)).alloc (.cells #[.slice none 0 0, .slice none 0 0] 25)).heap[w.heap.size]? = some (.cells #[.slice aa na ca, .slice ap np cp] 25 (0, 0))) := h3_0 _ _ _ _
  have R1 : Hid ((((w.alloc (.cells #[.slice aa na ca, .slice ap np cp] 25)).alloc (.cells #[.int .i64 2, .int .i64 x] 37)).alloc (.cells #[.slice none 0 0, .slice none 0 0] 25)).heap[w.heap.size + 1]? = some (.cells #[.int .i64 2, .int .i64 x] 37 (0, 0))) := h3_1 _ _ _ _
  have R2 : Hid ((((w.alloc (.cells #[.slice aa na ca, .slice ap np cp] 25)).alloc (.cells #[.int .i64 2, .int .i64 x] 37)).alloc (.cells #[.slice none 0 0, .slice none 0 0] 25)).heap[w.heap.size + 1 + 1]? = some (.cells #[.slice none 0 0, .slice none 0 0] 25 (0, 0))) := h3_2 _ _ _ _
  have B0 : Hid (Below w.heap.size w (((w.alloc (.cells #[.slice aa na ca, .slice ap np cp] 25)).alloc (.cells #[.int .i64 2, .int .i64 x] 37)).alloc (.cells #[.slice none 0 0, .slice none 0 0] 25))) := ((((Below.refl _ _).alloc (Nat.le_refl _) _).alloc (by simp only [World.size_alloc] <;> omega) _).alloc (by simp only [World.size_alloc] <;> omega) _)
  go_enter Try.func46, Try.ntmps46
  go_upto_region 2 with fail
  generalize ((w.alloc (.cells #[.slice aa na ca, .slice ap np cp] 25)).alloc (.cells #[.int .i64 2, .int .i64 x] 37)).alloc (.cells #[.slice none 0 0, .slice none 0 0] 25) = W0 at *
  obtain ⟨g, hg⟩ : ∃ g, g = w.heap.size := ⟨_, rfl⟩
  rw [← hg] at R0 R1 R2 ⊢
  have hgw : w.heap.size ≤ g := by omega
  clear hg
  have hg2 : g + 1 + 1 < W0.heap.size := lt_of_some R2.out
  obtain ⟨d0, d1⟩ := c2 R1.out
  obtain ⟨q0, q1⟩ := c2 R0.out
  go_wp2_with (first | ((with_reducible refine ld25 ?a1 (.tmp 2) ?a2 g ?a3 _ _ 25 R0 ?_); (case a1 => rfl); (case a2 => rfl); (case a3 => rfl)) | ((with_reducible refine st25 ?a4 (.tmp 4) (.tmp 29) ?a5 (g + 1 + 1) (.slice none 0 0) (.slice none 0 0) (.slice aa na ca) (.slice ap np cp) 25 ?a6 ?a7 R2 ?a8 ?_); (case a4 => rfl); (case a5 => rfl); (case a6 => rfl); (case a7 => rfl); (case a8 => exact one2 _ _ _ _ _ _)))
  exact bodyPost_ret (v := .tuple #[.agg #[.slice aa na ca, .slice ap np cp], .int .i64 2]) (res25 (fn := Try.f46) (p := 4) (u := 5) rfl _ _ (g + 1 + 1) 25 (.slice aa na ca) (.slice ap np cp) (.int .i64 2) rfl rfl (setRow_heap _ _ _ _ _ _ R2.out)) rfl ⟨_, _, by rw [HE.out.1], by rw [HE.out.2]; exact HM.out.keep (below_setRow B0.out (by omega) _), below_setRow B0.out (by omega) _, .inl rfl, .inl rfl⟩
set_option maxRecDepth 100000 in
set_option maxHeartbeats 2000000 in
theorem next_high2 (va vp : Value) (t : St) (x : Int) (h0 : 8 < x) (w : World) (hw : t.Wf) (hm : IsS w va vp t) : Calls Try.prog 46 #[.agg #[va, vp], .agg #[.int .i64 2, .int .i64 x]] w (Nxt va vp t 2 x w) := by
  obtain ⟨aa, na, ca, rfl⟩ := hm.1.1.slice
  obtain ⟨ap, np, cp, rfl⟩ := hm.1.2.slice
  have HM := Lib.hid hm
  clear hm
  have HE : Hid (apE t 2 x = 2 ∧ apS t 2 x = t) := by
    have e : apE t 2 x = 2 := by
      unfold apE
      rw [if_neg (by decide), if_pos (by decide), if_neg (by omega)]
    exact ⟨e, apS_err (by rw [e]; decide)⟩
  have h1 : 1 ≤ x := by omega
  have R0 : Hid ((((w.alloc (.cells #[.slice aa na ca, .slice ap np cp] 25)).alloc (.cells #[.int .i64 2, .int .i64 x] 37)).alloc (.cells #[.slice none 0 0, .slice none 0 0] 25)).heap[w.heap.size]? = some (.cells #[.slice aa na ca, .slice ap np cp] 25 (0, 0))) := h3_0 _ _ _ _
  have R1 : Hid ((((w.alloc (.cells #[.slice aa na ca, .slice ap np cp] 25)).alloc (.cells #[.int .i64 2, .int .i64 x] 37)).alloc (.cells #[.slice none 0 0, .slice none 0 0] 25)).heap[w.heap.size + 1]? = some (.cells #[.int .i64 2, .int .i64 x] 37 (0, 0))) := h3_1 _ _ _ _
  have R2 : Hid ((((w.alloc (.cells #[.slice aa na ca, .slice ap np cp] 25)).alloc (.cells #[.int .i64 2, .int .i64 x] 37)).alloc (.cells #[.slice none 0 0, .slice none 0 0] 25)).heap[w.heap.size + 1 + 1]? = some (.cells #[.slice none 0 0, .slice none 0 0] 25 (0, 0))) := h3_2 _ _ _ _
  have B0 : Hid (Below w.heap.size w (((w.alloc (.cells #[.slice aa na ca, .slice ap np cp] 25)).alloc (.cells #[.int .i64 2, .int .i64 x] 37)).alloc (.cells #[.slice none 0 0, .slice none 0 0] 25))) := ((((Below.refl _ _).alloc (Nat.le_refl _) _).alloc (by simp only [World.size_alloc] <;> omega) _).alloc (by simp only [World.size_alloc] <;> omega) _)
  go_enter Try.func46, Try.ntmps46
  go_upto_region 2 with fail
  generalize ((w.alloc (.cells #[.slice aa na ca, .slice ap np cp] 25)).alloc (.cells #[.int .i64 2, .int .i64 x] 37)).alloc (.cells #[.slice none 0 0, .slice none 0 0] 25) = W0 at *
  obtain ⟨g, hg⟩ : ∃ g, g = w.heap.size := ⟨_, rfl⟩
  rw [← hg] at R0 R1 R2 ⊢
  have hgw : w.heap.size ≤ g := by omega
  clear hg
  have hg2 : g + 1 + 1 < W0.heap.size := lt_of_some R2.out
  obtain ⟨d0, d1⟩ := c2 R1.out
  obtain ⟨q0, q1⟩ := c2 R0.out
  go_wp2_with (first | ((with_reducible refine ld25 ?a1 (.tmp 2) ?a2 g ?a3 _ _ 25 R0 ?_); (case a1 => rfl); (case a2 => rfl); (case a3 => rfl)) | ((with_reducible refine st25 ?a4 (.tmp 4) (.tmp 29) ?a5 (g + 1 + 1) (.slice none 0 0) (.slice none 0 0) (.slice aa na ca) (.slice ap np cp) 25 ?a6 ?a7 R2 ?a8 ?_); (case a4 => rfl); (case a5 => rfl); (case a6 => rfl); (case a7 => rfl); (case a8 => exact one2 _ _ _ _ _ _)))
  exact bodyPost_ret (v := .tuple #[.agg #[.slice aa na ca, .slice ap np cp], .int .i64 2]) (res25 (fn := Try.f46) (p := 4) (u := 5) rfl _ _ (g + 1 + 1) 25 (.slice aa na ca) (.slice ap np cp) (.int .i64 2) rfl rfl (setRow_heap _ _ _ _ _ _ R2.out)) rfl ⟨_, _, by rw [HE.out.1], by rw [HE.out.2]; exact HM.out.keep (below_setRow B0.out (by omega) _), below_setRow B0.out (by omega) _, .inl rfl, .inl rfl⟩
set_option maxRecDepth 100000 in
set_option maxHeartbeats 2000000 in
theorem next_low3 (va vp : Value) (t : St) (x : Int) (h0 : x < 1) (w : World) (hw : t.Wf) (hm : IsS w va vp t) : Calls Try.prog 46 #[.agg #[va, vp], .agg #[.int .i64 3, .int .i64 x]] w (Nxt va vp t 3 x w) := by
  obtain ⟨aa, na, ca, rfl⟩ := hm.1.1.slice
  obtain ⟨ap, np, cp, rfl⟩ := hm.1.2.slice
  have HM := Lib.hid hm
  clear hm
  have HE : Hid (apE t 3 x = 2 ∧ apS t 3 x = t) := by
    have e : apE t 3 x = 2 := by
      unfold apE
      rw [if_neg (by decide), if_pos (by decide), if_neg (by omega)]
    exact ⟨e, apS_err (by rw [e]; decide)⟩
  have R0 : Hid ((((w.alloc (.cells #[.slice aa na ca, .slice ap np cp] 25)).alloc (.cells #[.int .i64 3, .int .i64 x] 37)).alloc (.cells #[.slice none 0 0, .slice none 0 0] 25)).heap[w.heap.size]? = some (.cells #[.slice aa na ca, .slice ap np cp] 25 (0, 0))) := h3_0 _ _ _ _
  have R1 : Hid ((((w.alloc (.cells #[.slice aa na ca, .slice ap np cp] 25)).alloc (.cells #[.int .i64 3, .int .i64 x] 37)).alloc (.cells #[.slice none 0 0, .slice none 0 0] 25)).heap[w.heap.size + 1]? = some (.cells #[.int .i64 3, .int .i64 x] 37 (0, 0))) := h3_1 _ _ _ _
  have R2 : Hid ((((w.alloc (.cells #[.slice aa na ca, .slice ap np cp] 25)).alloc (.cells #[.int .i64 3, .int .i64 x] 37)).alloc (.cells #[.slice none 0 0, .slice none 0 0] 25)).heap[w.heap.size + 1 + 1]? = some (.cells #[.slice none 0 0, .slice none 0 0] 25 (0, 0))) := h3_2 _ _ _ _
  have B0 : Hid (Below w.heap.size w (((w.alloc (.cells #[.slice aa na ca, .slice ap np cp] 25)).alloc (.cells #[.int .i64 3, .int .i64 x] 37)).alloc (.cells #[.slice none 0 0, .slice none 0 0] 25))) := ((((Below.refl _ _).alloc (Nat.le_refl _) _).alloc (by simp only [World.size_alloc] <;> omega) _).alloc (by simp only [World.size_alloc] <;> omega) _)
  go_enter Try.func46, Try.ntmps46
  go_upto_region 2 with fail
  generalize ((w.alloc (.cells #[.slice aa na ca, .slice ap np cp] 25)).alloc (.cells #[.int .i64 3, .int .i64 x] 37)).alloc (.cells #[.slice none 0 0, .slice none 0 0] 25) = W0 at *
  obtain ⟨g, hg⟩ : ∃ g, g = w.heap.size := ⟨_, rfl⟩
  rw [← hg] at R0 R1 R2 ⊢
  have hgw : w.heap.size ≤ g := by omega
  clear hg
  have hg2 : g + 1 + 1 < W0.heap.size := lt_of_some R2.out
  obtain ⟨d0, d1⟩ := c2 R1.out
  obtain ⟨q0, q1⟩ := c2 R0.out
  go_wp2_with (first | ((with_reducible refine ld25 ?a1 (.tmp 2) ?a2 g ?a3 _ _ 25 R0 ?_); (case a1 => rfl); (case a2 => rfl); (case a3 => rfl)) | ((with_reducible refine st25 ?a4 (.tmp 4) (.tmp 29) ?a5 (g + 1 + 1) (.slice none 0 0) (.slice none 0 0) (.slice aa na ca) (.slice ap np cp) 25 ?a6 ?a7 R2 ?a8 ?_); (case a4 => rfl); (case a5 => rfl); (case a6 => rfl); (case a7 => rfl); (case a8 => exact one2 _ _ _ _ _ _)))
  exact bodyPost_ret (v := .tuple #[.agg #[.slice aa na ca, .slice ap np cp], .int .i64 2]) (res25 (fn := Try.f46) (p := 4) (u := 5) rfl _ _ (g + 1 + 1) 25 (.slice aa na ca) (.slice ap np cp) (.int .i64 2) rfl rfl (setRow_heap _ _ _ _ _ _ R2.out)) rfl ⟨_, _, by rw [HE.out.1], by rw [HE.out.2]; exact HM.out.keep (below_setRow B0.out (by omega) _), below_setRow B0.out (by omega) _, .inl rfl, .inl rfl⟩
set_option maxRecDepth 100000 in
set_option maxHeartbeats 2000000 in
theorem next_high3 (va vp : Value) (t : St) (x : Int) (h0 : 8 < x) (w : World) (hw : t.Wf) (hm : IsS w va vp t) : Calls Try.prog 46 #[.agg #[va, vp], .agg #[.int .i64 3, .int .i64 x]] w (Nxt va vp t 3 x w) := by
  obtain ⟨aa, na, ca, rfl⟩ := hm.1.1.slice
  obtain ⟨ap, np, cp, rfl⟩ := hm.1.2.slice
  have HM := Lib.hid hm
  clear hm
  have HE : Hid (apE t 3 x = 2 ∧ apS t 3 x = t) := by
    have e : apE t 3 x = 2 := by
      unfold apE
      rw [if_neg (by decide), if_pos (by decide), if_neg (by omega)]
    exact ⟨e, apS_err (by rw [e]; decide)⟩
  have h1 : 1 ≤ x := by omega
  have R0 : Hid ((((w.alloc (.cells #[.slice aa na ca, .slice ap np cp] 25)).alloc (.cells #[.int .i64 3, .int .i64 x] 37)).alloc (.cells #[.slice none 0 0, .slice none 0 0] 25)).heap[w.heap.size]? = some (.cells #[.slice aa na ca, .slice ap np cp] 25 (0, 0))) := h3_0 _ _ _ _
  have R1 : Hid ((((w.alloc (.cells #[.slice aa na ca, .slice ap np cp] 25)).alloc (.cells #[.int .i64 3, .int .i64 x] 37)).alloc (.cells #[.slice none 0 0, .slice none 0 0] 25)).heap[w.heap.size + 1]? = some (.cells #[.int .i64 3, .int .i64 x] 37 (0, 0))) := h3_1 _ _ _ _
  have R2 : Hid ((((w.alloc (.cells #[.slice aa na ca, .slice ap np cp] 25)).alloc (.cells #[.int .i64 3, .int .i64 x] 37)).alloc (.cells #[.slice none 0 0, .slice none 0 0] 25)).heap[w.heap.size + 1 + 1]? = some (.cells #[.slice none 0 0, .slice none 0 0] 25 (0, 0))) := h3_2 _ _ _ _
  have B0 : Hid (Below w.heap.size w (((w.alloc (.cells #[.slice aa na ca, .slice ap np cp] 25)).alloc (.cells #[.int .i64 3, .int .i64 x] 37)).alloc (.cells #[.slice none 0 0, .slice none 0 0] 25))) := ((((Below.refl _ _).alloc (Nat.le_refl _) _).alloc (by simp only [World.size_alloc] <;> omega) _).alloc (by simp only [World.size_alloc] <;> omega) _)
  go_enter Try.func46, Try.ntmps46
  go_upto_region 2 with fail
  generalize ((w.alloc (.cells #[.slice aa na ca, .slice ap np cp] 25)).alloc (.cells #[.int .i64 3, .int .i64 x] 37)).alloc (.cells #[.slice none 0 0, .slice none 0 0] 25) = W0 at *
  obtain ⟨g, hg⟩ : ∃ g, g = w.heap.size := ⟨_, rfl⟩
  rw [← hg] at R0 R1 R2 ⊢
  have hgw : w.heap.size ≤ g := by omega
  clear hg
  have hg2 : g + 1 + 1 < W0.heap.size := lt_of_some R2.out
  obtain ⟨d0, d1⟩ := c2 R1.out
  obtain ⟨q0, q1⟩ := c2 R0.out
  go_wp2_with (first | ((with_reducible refine ld25 ?a1 (.tmp 2) ?a2 g ?a3 _ _ 25 R0 ?_); (case a1 => rfl); (case a2 => rfl); (case a3 => rfl)) | ((with_reducible refine st25 ?a4 (.tmp 4) (.tmp 29) ?a5 (g + 1 + 1) (.slice none 0 0) (.slice none 0 0) (.slice aa na ca) (.slice ap np cp) 25 ?a6 ?a7 R2 ?a8 ?_); (case a4 => rfl); (case a5 => rfl); (case a6 => rfl); (case a7 => rfl); (case a8 => exact one2 _ _ _ _ _ _)))
  exact bodyPost_ret (v := .tuple #[.agg #[.slice aa na ca, .slice ap np cp], .int .i64 2]) (res25 (fn := Try.f46) (p := 4) (u := 5) rfl _ _ (g + 1 + 1) 25 (.slice aa na ca) (.slice ap np cp) (.int .i64 2) rfl rfl (setRow_heap _ _ _ _ _ _ R2.out)) rfl ⟨_, _, by rw [HE.out.1], by rw [HE.out.2]; exact HM.out.keep (below_setRow B0.out (by omega) _), below_setRow B0.out (by omega) _, .inl rfl, .inl rfl⟩
set_option maxRecDepth 100000 in
set_option maxHeartbeats 2000000 in
theorem next_low4 (va vp : Value) (t : St) (x : Int) (h0 : x < 0) (w : World) (hw : t.Wf) (hm : IsS w va vp t) : Calls Try.prog 46 #[.agg #[va, vp], .agg #[.int .i64 4, .int .i64 x]] w (Nxt va vp t 4 x w) := by
  obtain ⟨aa, na, ca, rfl⟩ := hm.1.1.slice
  obtain ⟨ap, np, cp, rfl⟩ := hm.1.2.slice
  have HM := Lib.hid hm
  clear hm
  have HE : Hid (apE t 4 x = 2 ∧ apS t 4 x = t) := by
    have e : apE t 4 x = 2 := by
      unfold apE
      rw [if_neg (by decide), if_neg (by decide), if_pos (by decide), if_neg (by omega)]
    exact ⟨e, apS_err (by rw [e]; decide)⟩
  have R0 : Hid ((((w.alloc (.cells #[.slice aa na ca, .slice ap np cp] 25)).alloc (.cells #[.int .i64 4, .int .i64 x] 37)).alloc (.cells #[.slice none 0 0, .slice none 0 0] 25)).heap[w.heap.size]? = some (.cells #[.slice aa na ca, .slice ap np cp] 25 (0, 0))) := h3_0 _ _ _ _
  have R1 : Hid ((((w.alloc (.cells #[.slice aa na ca, .slice ap np cp] 25)).alloc (.cells #[.int .i64 4, .int .i64 x] 37)).alloc (.cells #[.slice none 0 0, .slice none 0 0] 25)).heap[w.heap.size + 1]? = some (.cells #[.int .i64 4, .int .i64 x] 37 (0, 0))) := h3_1 _ _ _ _
  have R2 : Hid ((((w.alloc (.cells #[.slice aa na ca, .slice ap np cp] 25)).alloc (.cells #[.int .i64 4, .int .i64 x] 37)).alloc (.cells #[.slice none 0 0, .slice none 0 0] 25)).heap[w.heap.size + 1 + 1]? = some (.cells #[.slice none 0 0, .slice none 0 0] 25 (0, 0))) := h3_2 _ _ _ _
  have B0 : Hid (Below w.heap.size w (((w.alloc (.cells #[.slice aa na ca, .slice ap np cp] 25)).alloc (.cells #[.int .i64 4, .int .i64 x] 37)).alloc (.cells #[.slice none 0 0, .slice none 0 0] 25))) := ((((Below.refl _ _).alloc (Nat.le_refl _) _).alloc (by simp only [World.size_alloc] <;> omega) _).alloc (by simp only [World.size_alloc] <;> omega) _)
  go_enter Try.func46, Try.ntmps46
  go_upto_region 2 with fail
  generalize ((w.alloc (.cells #[.slice aa na ca, .slice ap np cp] 25)).alloc (.cells #[.int .i64 4, .int .i64 x] 37)).alloc (.cells #[.slice none 0 0, .slice none 0 0] 25) = W0 at *
  obtain ⟨g, hg⟩ : ∃ g, g = w.heap.size := ⟨_, rfl⟩
  rw [← hg] at R0 R1 R2 ⊢
  have hgw : w.heap.size ≤ g := by omega
  clear hg
  have hg2 : g + 1 + 1 < W0.heap.size := lt_of_some R2.out
  obtain ⟨d0, d1⟩ := c2 R1.out
  obtain ⟨q0, q1⟩ := c2 R0.out
  go_wp2_with (first | ((with_reducible refine ld25 ?a1 (.tmp 2) ?a2 g ?a3 _ _ 25 R0 ?_); (case a1 => rfl); (case a2 => rfl); (case a3 => rfl)) | ((with_reducible refine st25 ?a4 (.tmp 4) (.tmp 29) ?a5 (g + 1 + 1) (.slice none 0 0) (.slice none 0 0) (.slice aa na ca) (.slice ap np cp) 25 ?a6 ?a7 R2 ?a8 ?_); (case a4 => rfl); (case a5 => rfl); (case a6 => rfl); (case a7 => rfl); (case a8 => exact one2 _ _ _ _ _ _)))
  exact bodyPost_ret (v := .tuple #[.agg #[.slice aa na ca, .slice ap np cp], .int .i64 2]) (res25 (fn := Try.f46) (p := 4) (u := 5) rfl _ _ (g + 1 + 1) 25 (.slice aa na ca) (.slice ap np cp) (.int .i64 2) rfl rfl (setRow_heap _ _ _ _ _ _ R2.out)) rfl ⟨_, _, by rw [HE.out.1], by rw [HE.out.2]; exact HM.out.keep (below_setRow B0.out (by omega) _), below_setRow B0.out (by omega) _, .inl rfl, .inl rfl⟩
set_option maxRecDepth 100000 in
set_option maxHeartbeats 2000000 in
theorem next_high4 (va vp : Value) (t : St) (x : Int) (h0 : 255 < x) (w : World) (hw : t.Wf) (hm : IsS w va vp t) : Calls Try.prog 46 #[.agg #[va, vp], .agg #[.int .i64 4, .int .i64 x]] w (Nxt va vp t 4 x w) := by
  obtain ⟨aa, na, ca, rfl⟩ := hm.1.1.slice
  obtain ⟨ap, np, cp, rfl⟩ := hm.1.2.slice
  have HM := Lib.hid hm
  clear hm
  have HE : Hid (apE t 4 x = 2 ∧ apS t 4 x = t) := by
    have e : apE t 4 x = 2 := by
      unfold apE
      rw [if_neg (by decide), if_neg (by decide), if_pos (by decide), if_neg (by omega)]
    exact ⟨e, apS_err (by rw [e]; decide)⟩
  have h1 : 0 ≤ x := by omega
  have R0 : Hid ((((w.alloc (.cells #[.slice aa na ca, .slice ap np cp] 25)).alloc (.cells #[.int .i64 4, .int .i64 x] 37)).alloc (.cells #[.slice none 0 0, .slice none 0 0] 25)).heap[w.heap.size]? = some (.cells #[.slice aa na ca, .slice ap np cp] 25 (0, 0))) := h3_0 _ _ _ _
  have R1 : Hid ((((w.alloc (.cells #[.slice aa na ca, .slice ap np cp] 25)).alloc (.cells #[.int .i64 4, .int .i64 x] 37)).alloc (.cells #[.slice none 0 0, .slice none 0 0] 25)).heap[w.heap.size + 1]? = some (.cells #[.int .i64 4, .int .i64 x] 37 (0, 0))) := h3_1 _ _ _ _
  have R2 : Hid ((((w.alloc (.cells #[.slice aa na ca, .slice ap np cp] 25)).alloc (.cells #[.int .i64 4, .int .i64 x] 37)).alloc (.cells #[.slice none 0 0, .slice none 0 0] 25)).heap[w.heap.size + 1 + 1]? = some (.cells #[.slice none 0 0, .slice none 0 0] 25 (0, 0))) := h3_2 _ _ _ _
  have B0 : Hid (Below w.heap.size w (((w.alloc (.cells #[.slice aa na ca, .slice ap np cp] 25)).alloc (.cells #[.int .i64 4, .int .i64 x] 37)).alloc (.cells #[.slice none 0 0, .slice none 0 0] 25))) := ((((Below.refl _ _).alloc (Nat.le_refl _) _).alloc (by simp only [World.size_alloc] <;> omega) _).alloc (by simp only [World.size_alloc] <;> omega) _)
  go_enter Try.func46, Try.ntmps46
  go_upto_region 2 with fail
  generalize ((w.alloc (.cells #[.slice aa na ca, .slice ap np cp] 25)).alloc (.cells #[.int .i64 4, .int .i64 x] 37)).alloc (.cells #[.slice none 0 0, .slice none 0 0] 25) = W0 at *
  obtain ⟨g, hg⟩ : ∃ g, g = w.heap.size := ⟨_, rfl⟩
  rw [← hg] at R0 R1 R2 ⊢
  have hgw : w.heap.size ≤ g := by omega
  clear hg
  have hg2 : g + 1 + 1 < W0.heap.size := lt_of_some R2.out
  obtain ⟨d0, d1⟩ := c2 R1.out
  obtain ⟨q0, q1⟩ := c2 R0.out
  go_wp2_with (first | ((with_reducible refine ld25 ?a1 (.tmp 2) ?a2 g ?a3 _ _ 25 R0 ?_); (case a1 => rfl); (case a2 => rfl); (case a3 => rfl)) | ((with_reducible refine st25 ?a4 (.tmp 4) (.tmp 29) ?a5 (g + 1 + 1) (.slice none 0 0) (.slice none 0 0) (.slice aa na ca) (.slice ap np cp) 25 ?a6 ?a7 R2 ?a8 ?_); (case a4 => rfl); (case a5 => rfl); (case a6 => rfl); (case a7 => rfl); (case a8 => exact one2 _ _ _ _ _ _)))
  exact bodyPost_ret (v := .tuple #[.agg #[.slice aa na ca, .slice ap np cp], .int .i64 2]) (res25 (fn := Try.f46) (p := 4) (u := 5) rfl _ _ (g + 1 + 1) 25 (.slice aa na ca) (.slice ap np cp) (.int .i64 2) rfl rfl (setRow_heap _ _ _ _ _ _ R2.out)) rfl ⟨_, _, by rw [HE.out.1], by rw [HE.out.2]; exact HM.out.keep (below_setRow B0.out (by omega) _), below_setRow B0.out (by omega) _, .inl rfl, .inl rfl⟩
set_option maxRecDepth 100000 in
set_option maxHeartbeats 2000000 in
theorem next_low5 (va vp : Value) (t : St) (x : Int) (h0 : x < 0) (w : World) (hw : t.Wf) (hm : IsS w va vp t) : Calls Try.prog 46 #[.agg #[va, vp], .agg #[.int .i64 5, .int .i64 x]] w (Nxt va vp t 5 x w) := by
  obtain ⟨aa, na, ca, rfl⟩ := hm.1.1.slice
  obtain ⟨ap, np, cp, rfl⟩ := hm.1.2.slice
  have HM := Lib.hid hm
  clear hm
  have HE : Hid (apE t 5 x = 2 ∧ apS t 5 x = t) := by
    have e : apE t 5 x = 2 := by
      unfold apE
      rw [if_neg (by decide), if_neg (by decide), if_pos (by decide), if_neg (by omega)]
    exact ⟨e, apS_err (by rw [e]; decide)⟩
  have R0 : Hid ((((w.alloc (.cells #[.slice aa na ca, .slice ap np cp] 25)).alloc (.cells #[.int .i64 5, .int .i64 x] 37)).alloc (.cells #[.slice none 0 0, .slice none 0 0] 25)).heap[w.heap.size]? = some (.cells #[.slice aa na ca, .slice ap np cp] 25 (0, 0))) := h3_0 _ _ _ _
  have R1 : Hid ((((w.alloc (.cells #[.slice aa na ca, .slice ap np cp] 25)).alloc (.cells #[.int .i64 5, .int .i64 x] 37)).alloc (.cells #[.slice none 0 0, .slice none 0 0] 25)).heap[w.heap.size + 1]? = some (.cells #[.int .i64 5, .int .i64 x] 37 (0, 0))) := h3_1 _ _ _ _
  have R2 : Hid ((((w.alloc (.cells #[.slice aa na ca, .slice ap np cp] 25)).alloc (.cells #[.int .i64 5, .int .i64 x] 37)).alloc (.cells #[.slice none 0 0, .slice none 0 0] 25)).heap[w.heap.size + 1 + 1]? = some (.cells #[.slice none 0 0, .slice none 0 0] 25 (0, 0))) := h3_2 _ _ _ _
  have B0 : Hid (Below w.heap.size w (((w.alloc (.cells #[.slice aa na ca, .slice ap np cp] 25)).alloc (.cells #[.int .i64 5, .int .i64 x] 37)).alloc (.cells #[.slice none 0 0, .slice none 0 0] 25))) := ((((Below.refl _ _).alloc (Nat.le_refl _) _).alloc (by simp only [World.size_alloc] <;> omega) _).alloc (by simp only [World.size_alloc] <;> omega) _)
  go_enter Try.func46, Try.ntmps46
  go_upto_region 2 with fail
  generalize ((w.alloc (.cells #[.slice aa na ca, .slice ap np cp] 25)).alloc (.cells #[.int .i64 5, .int .i64 x] 37)).alloc (.cells #[.slice none 0 0, .slice none 0 0] 25) = W0 at *
  obtain ⟨g, hg⟩ : ∃ g, g = w.heap.size := ⟨_, rfl⟩
  rw [← hg] at R0 R1 R2 ⊢
  have hgw : w.heap.size ≤ g := by omega
  clear hg
  have hg2 : g + 1 + 1 < W0.heap.size := lt_of_some R2.out
  obtain ⟨d0, d1⟩ := c2 R1.out
  obtain ⟨q0, q1⟩ := c2 R0.out
  go_wp2_with (first | ((with_reducible refine ld25 ?a1 (.tmp 2) ?a2 g ?a3 _ _ 25 R0 ?_); (case a1 => rfl); (case a2 => rfl); (case a3 => rfl)) | ((with_reducible refine st25 ?a4 (.tmp 4) (.tmp 29) ?a5 (g + 1 + 1) (.slice none 0 0) (.slice none 0 0) (.slice aa na ca) (.slice ap np cp) 25 ?a6 ?a7 R2 ?a8 ?_); (case a4 => rfl); (case a5 => rfl); (case a6 => rfl); (case a7 => rfl); (case a8 => exact one2 _ _ _ _ _ _)))
  exact bodyPost_ret (v := .tuple #[.agg #[.slice aa na ca, .slice ap np cp], .int .i64 2]) (res25 (fn := Try.f46) (p := 4) (u := 5) rfl _ _ (g + 1 + 1) 25 (.slice aa na ca) (.slice ap np cp) (.int .i64 2) rfl rfl (setRow_heap _ _ _ _ _ _ R2.out)) rfl ⟨_, _, by rw [HE.out.1], by rw [HE.out.2]; exact HM.out.keep (below_setRow B0.out (by omega) _), below_setRow B0.out (by omega) _, .inl rfl, .inl rfl⟩
set_option maxRecDepth 100000 in
set_option maxHeartbeats 2000000 in
theorem next_high5 (va vp : Value) (t : St) (x : Int) (h0 : 255 < x) (w : World) (hw : t.Wf) (hm : IsS w va vp t) : Calls Try.prog 46 #[.agg #[va, vp], .agg #[.int .i64 5, .int .i64 x]] w (Nxt va vp t 5 x w) := by
  obtain ⟨aa, na, ca, rfl⟩ := hm.1.1.slice
  obtain ⟨ap, np, cp, rfl⟩ := hm.1.2.slice
  have HM := Lib.hid hm
  clear hm
  have HE : Hid (apE t 5 x = 2 ∧ apS t 5 x = t) := by
    have e : apE t 5 x = 2 := by
      unfold apE
      rw [if_neg (by decide), if_neg (by decide), if_pos (by decide), if_neg (by omega)]
    exact ⟨e, apS_err (by rw [e]; decide)⟩
  have h1 : 0 ≤ x := by omega
  have R0 : Hid ((((w.alloc (.cells #[.slice aa na ca, .slice ap np cp] 25)).alloc (.cells #[.int .i64 5, .int .i64 x] 37)).alloc (.cells #[.slice none 0 0, .slice none 0 0] 25)).heap[w.heap.size]? = some (.cells #[.slice aa na ca, .slice ap np cp] 25 (0, 0))) := h3_0 _ _ _ _
  have R1 : Hid ((((w.alloc (.cells #[.slice aa na ca, .slice ap np cp] 25)).alloc (.cells #[.int .i64 5, .int .i64 x] 37)).alloc (.cells #[.slice none 0 0, .slice none 0 0] 25)).heap[w.heap.size + 1]? = some (.cells #[.int .i64 5, .int .i64 x] 37 (0, 0))) := h3_1 _ _ _ _
  have R2 : Hid ((((w.alloc (.cells #[.slice aa na ca, .slice ap np cp] 25)).alloc (.cells #[.int .i64 5, .int .i64 x] 37)).alloc (.cells #[.slice none 0 0, .slice none 0 0] 25)).heap[w.heap.size + 1 + 1]? = some (.cells #[.slice none 0 0, .slice none 0 0] 25 (0, 0))) := h3_2 _ _ _ _
  have B0 : Hid (Below w.heap.size w (((w.alloc (.cells #[.slice aa na ca, .slice ap np cp] 25)).alloc (.cells #[.int .i64 5, .int .i64 x] 37)).alloc (.cells #[.slice none 0 0, .slice none 0 0] 25))) := ((((Below.refl _ _).alloc (Nat.le_refl _) _).alloc (by simp only [World.size_alloc] <;> omega) _).alloc (by simp only [World.size_alloc] <;> omega) _)
  go_enter Try.func46, Try.ntmps46
  go_upto_region 2 with fail
  generalize ((w.alloc (.cells #[.slice aa na ca, .slice ap np cp] 25)).alloc (.cells #[.int .i64 5, .int .i64 x] 37)).alloc (.cells #[.slice none 0 0, .slice none 0 0] 25) = W0 at *
  obtain ⟨g, hg⟩ : ∃ g, g = w.heap.size := ⟨_, rfl⟩
  rw [← hg] at R0 R1 R2 ⊢
  have hgw : w.heap.size ≤ g := by omega
  clear hg
  have hg2 : g + 1 + 1 < W0.heap.size := lt_of_some R2.out
  obtain ⟨d0, d1⟩ := c2 R1.out
  obtain ⟨q0, q1⟩ := c2 R0.out
  go_wp2_with (first | ((with_reducible refine ld25 ?a1 (.tmp 2) ?a2 g ?a3 _ _ 25 R0 ?_); (case a1 => rfl); (case a2 => rfl); (case a3 => rfl)) | ((with_reducible refine st25 ?a4 (.tmp 4) (.tmp 29) ?a5 (g + 1 + 1) (.slice none 0 0) (.slice none 0 0) (.slice aa na ca) (.slice ap np cp) 25 ?a6 ?a7 R2 ?a8 ?_); (case a4 => rfl); (case a5 => rfl); (case a6 => rfl); (case a7 => rfl); (case a8 => exact one2 _ _ _ _ _ _)))
  exact bodyPost_ret (v := .tuple #[.agg #[.slice aa na ca, .slice ap np cp], .int .i64 2]) (res25 (fn := Try.f46) (p := 4) (u := 5) rfl _ _ (g + 1 + 1) 25 (.slice aa na ca) (.slice ap np cp) (.int .i64 2) rfl rfl (setRow_heap _ _ _ _ _ _ R2.out)) rfl ⟨_, _, by rw [HE.out.1], by rw [HE.out.2]; exact HM.out.keep (below_setRow B0.out (by omega) _), below_setRow B0.out (by omega) _, .inl rfl, .inl rfl⟩
set_option maxRecDepth 100000 in
set_option maxHeartbeats 2000000 in
theorem next_kind (va vp : Value) (t : St) (k x : Int) (h1 : k ≠ 1) (h2 : k ≠ 2) (h3 : k ≠ 3) (h4 : k ≠ 4) (h5 : k ≠ 5) (w : World) (hw : t.Wf) (hm : IsS w va vp t) : Calls Try.prog 46 #[.agg #[va, vp], .agg #[.int .i64 k, .int .i64 x]] w (Nxt va vp t k x w) := by
  obtain ⟨aa, na, ca, rfl⟩ := hm.1.1.slice
  obtain ⟨ap, np, cp, rfl⟩ := hm.1.2.slice
  have HM := Lib.hid hm
  clear hm
  have HE : Hid (apE t k x = 16 ∧ apS t k x = t) := by
    have e : apE t k x = 16 := by
      unfold apE
      rw [if_neg h1, if_neg (by omega), if_neg (by omega)]
    exact ⟨e, apS_err (by rw [e]; decide)⟩
  have e1 : (k == 1) = false := by simpa using h1
  have e2 : (k == 2) = false := by simpa using h2
  have e3 : (k == 3) = false := by simpa using h3
  have e4 : (k == 4) = false := by simpa using h4
  have e5 : (k == 5) = false := by simpa using h5
  have R0 : Hid ((((w.alloc (.cells #[.slice aa na ca, .slice ap np cp] 25)).alloc (.cells #[.int .i64 k, .int .i64 x] 37)).alloc (.cells #[.slice none 0 0, .slice none 0 0] 25)).heap[w.heap.size]? = some (.cells #[.slice aa na ca, .slice ap np cp] 25 (0, 0))) := h3_0 _ _ _ _
  have R1 : Hid ((((w.alloc (.cells #[.slice aa na ca, .slice ap np cp] 25)).alloc (.cells #[.int .i64 k, .int .i64 x] 37)).alloc (.cells #[.slice none 0 0, .slice none 0 0] 25)).heap[w.heap.size + 1]? = some (.cells #[.int .i64 k, .int .i64 x] 37 (0, 0))) := h3_1 _ _ _ _
  have R2 : Hid ((((w.alloc (.cells #[.slice aa na ca, .slice ap np cp] 25)).alloc (.cells #[.int .i64 k, .int .i64 x] 37)).alloc (.cells #[.slice none 0 0, .slice none 0 0] 25)).heap[w.heap.size + 1 + 1]? = some (.cells #[.slice none 0 0, .slice none 0 0] 25 (0, 0))) := h3_2 _ _ _ _
  have B0 : Hid (Below w.heap.size w (((w.alloc (.cells #[.slice aa na ca, .slice ap np cp] 25)).alloc (.cells #[.int .i64 k, .int .i64 x] 37)).alloc (.cells #[.slice none 0 0, .slice none 0 0] 25))) := ((((Below.refl _ _).alloc (Nat.le_refl _) _).alloc (by simp only [World.size_alloc] <;> omega) _).alloc (by simp only [World.size_alloc] <;> omega) _)
  go_enter Try.func46, Try.ntmps46
  go_upto_region 2 with fail
  generalize ((w.alloc (.cells #[.slice aa na ca, .slice ap np cp] 25)).alloc (.cells #[.int .i64 k, .int .i64 x] 37)).alloc (.cells #[.slice none 0 0, .slice none 0 0] 25) = W0 at *
  obtain ⟨g, hg⟩ : ∃ g, g = w.heap.size := ⟨_, rfl⟩
  rw [← hg] at R0 R1 R2 ⊢
  have hgw : w.heap.size ≤ g := by omega
  clear hg
  have hg2 : g + 1 + 1 < W0.heap.size := lt_of_some R2.out
  obtain ⟨d0, d1⟩ := c2 R1.out
  obtain ⟨q0, q1⟩ := c2 R0.out
  go_wp2_with (first | ((with_reducible refine ld25 ?a1 (.tmp 2) ?a2 g ?a3 _ _ 25 R0 ?_); (case a1 => rfl); (case a2 => rfl); (case a3 => rfl)) | ((with_reducible refine st25 ?a4 (.tmp 4) (.tmp 10) ?a5 (g + 1 + 1) (.slice none 0 0) (.slice none 0 0) (.slice aa na ca) (.slice ap np cp) 25 ?a6 ?a7 R2 ?a8 ?_); (case a4 => rfl); (case a5 => rfl); (case a6 => rfl); (case a7 => rfl); (case a8 => exact one2 _ _ _ _ _ _)))
  exact bodyPost_ret (v := .tuple #[.agg #[.slice aa na ca, .slice ap np cp], .int .i64 16]) (res25 (fn := Try.f46) (p := 4) (u := 5) rfl _ _ (g + 1 + 1) 25 (.slice aa na ca) (.slice ap np cp) (.int .i64 16) rfl rfl (setRow_heap _ _ _ _ _ _ R2.out)) rfl ⟨_, _, by rw [HE.out.1], by rw [HE.out.2]; exact HM.out.keep (below_setRow B0.out (by omega) _), below_setRow B0.out (by omega) _, .inl rfl, .inl rfl⟩
set_option maxRecDepth 100000 in
set_option maxHeartbeats 2000000 in
theorem next_bad2 (va vp : Value) (t : St) (j : Nat) (h0 : 1 ≤ j) (h8 : j ≤ 8) (hb : t.a.getD j false = true) (w : World) (hw : t.Wf) (hm : IsS w va vp t) : Calls Try.prog 46 #[.agg #[va, vp], .agg #[.int .i64 2, .int .i64 (j : Int)]] w (Nxt va vp t 2 (j : Int) w) := by
  obtain ⟨aa, na, ca, rfl⟩ := hm.1.1.slice
  obtain ⟨ap, np, cp, rfl⟩ := hm.1.2.slice
  have HM := Lib.hid hm
  clear hm
  have HE : Hid (apE t 2 (j : Int) = 9 ∧ apS t 2 (j : Int) = t) := by
    have e : apE t 2 (j : Int) = 9 := by
      unfold apE
      rw [if_neg (by decide), if_pos (by decide), if_pos (by omega), Int.toNat_natCast, hb]; rfl
    exact ⟨e, apS_err (by rw [e]; decide)⟩
  have HH : Hid ((idx t.a).contains (j : Int) = true) := by rw [has_idx, hb]; rfl
  have i0 : (1 : Int) ≤ (j : Int) := by omega
  have i8 : (j : Int) ≤ 8 := by omega
  have R0 : Hid ((((w.alloc (.cells #[.slice aa na ca, .slice ap np cp] 25)).alloc (.cells #[.int .i64 2, .int .i64 (j : Int)] 37)).alloc (.cells #[.slice none 0 0, .slice none 0 0] 25)).heap[w.heap.size]? = some (.cells #[.slice aa na ca, .slice ap np cp] 25 (0, 0))) := h3_0 _ _ _ _
  have R1 : Hid ((((w.alloc (.cells #[.slice aa na ca, .slice ap np cp] 25)).alloc (.cells #[.int .i64 2, .int .i64 (j : Int)] 37)).alloc (.cells #[.slice none 0 0, .slice none 0 0] 25)).heap[w.heap.size + 1]? = some (.cells #[.int .i64 2, .int .i64 (j : Int)] 37 (0, 0))) := h3_1 _ _ _ _
  have R2 : Hid ((((w.alloc (.cells #[.slice aa na ca, .slice ap np cp] 25)).alloc (.cells #[.int .i64 2, .int .i64 (j : Int)] 37)).alloc (.cells #[.slice none 0 0, .slice none 0 0] 25)).heap[w.heap.size + 1 + 1]? = some (.cells #[.slice none 0 0, .slice none 0 0] 25 (0, 0))) := h3_2 _ _ _ _
  have B0 : Hid (Below w.heap.size w (((w.alloc (.cells #[.slice aa na ca, .slice ap np cp] 25)).alloc (.cells #[.int .i64 2, .int .i64 (j : Int)] 37)).alloc (.cells #[.slice none 0 0, .slice none 0 0] 25))) := ((((Below.refl _ _).alloc (Nat.le_refl _) _).alloc (by simp only [World.size_alloc] <;> omega) _).alloc (by simp only [World.size_alloc] <;> omega) _)
  go_enter Try.func46, Try.ntmps46
  go_upto_region 2 with fail
  generalize ((w.alloc (.cells #[.slice aa na ca, .slice ap np cp] 25)).alloc (.cells #[.int .i64 2, .int .i64 (j : Int)] 37)).alloc (.cells #[.slice none 0 0, .slice none 0 0] 25) = W0 at *
  obtain ⟨g, hg⟩ : ∃ g, g = w.heap.size := ⟨_, rfl⟩
  rw [← hg] at R0 R1 R2 ⊢
  have hgw : w.heap.size ≤ g := by omega
  clear hg
  have hg2 : g + 1 + 1 < W0.heap.size := lt_of_some R2.out
  obtain ⟨d0, d1⟩ := c2 R1.out
  obtain ⟨q0, q1⟩ := c2 R0.out
  go_wp2_with fail
  refine (rhas_any _ (idx t.a) (j : Int) _ (HM.out.1.1.keep B0.out)).mono ?_
  rintro e w1 ⟨rfl, rfl⟩
  rw [HH.out]
  go_wp2_with (first | ((with_reducible refine ld25 ?a1 (.tmp 2) ?a2 g ?a3 _ _ 25 R0 ?_); (case a1 => rfl); (case a2 => rfl); (case a3 => rfl)) | ((with_reducible refine st25 ?a4 (.tmp 4) (.tmp 39) ?a5 (g + 1 + 1) (.slice none 0 0) (.slice none 0 0) (.slice aa na ca) (.slice ap np cp) 25 ?a6 ?a7 R2 ?a8 ?_); (case a4 => rfl); (case a5 => rfl); (case a6 => rfl); (case a7 => rfl); (case a8 => exact one2 _ _ _ _ _ _)))
  exact bodyPost_ret (v := .tuple #[.agg #[.slice aa na ca, .slice ap np cp], .int .i64 9]) (res25 (fn := Try.f46) (p := 4) (u := 5) rfl _ _ (g + 1 + 1) 25 (.slice aa na ca) (.slice ap np cp) (.int .i64 9) rfl rfl (setRow_heap _ _ _ _ _ _ R2.out)) rfl ⟨_, _, by rw [HE.out.1], by rw [HE.out.2]; exact HM.out.keep (below_setRow B0.out (by omega) _), below_setRow B0.out (by omega) _, .inl rfl, .inl rfl⟩
set_option maxRecDepth 100000 in
set_option maxHeartbeats 2000000 in
theorem next_do2 (va vp : Value) (t : St) (j : Nat) (h0 : 1 ≤ j) (h8 : j ≤ 8) (hb : t.a.getD j false = false) (w : World) (hw : t.Wf) (hm : IsS w va vp t) : Calls Try.prog 46 #[.agg #[va, vp], .agg #[.int .i64 2, .int .i64 (j : Int)]] w (Nxt va vp t 2 (j : Int) w) := by
  obtain ⟨aa, na, ca, rfl⟩ := hm.1.1.slice
  obtain ⟨ap, np, cp, rfl⟩ := hm.1.2.slice
  have HM := Lib.hid hm
  clear hm
  have HE : Hid (apE t 2 (j : Int) = 0 ∧ apS t 2 (j : Int) = ⟨t.a.set j true, t.s⟩) := by
    have e : apE t 2 (j : Int) = 0 := by
      unfold apE
      rw [if_neg (by decide), if_pos (by decide), if_pos (by omega), Int.toNat_natCast, hb]; rfl
    exact ⟨e, by unfold apS; rw [if_pos e, if_pos (by decide), Int.toNat_natCast]; rfl⟩
  have HH : Hid ((idx t.a).contains (j : Int) = false) := by rw [has_idx, hb]; rfl
  have HL : Hid ((idx t.a).length ≤ 256) := by show _ ≤ _; have := idx_len t.a; rw [hw.1] at this; omega
  have HS : Hid (insL (j : Int) (idx t.a) = idx (t.a.set j true)) := ins_idx (by rw [hw.1]; omega) hb
  have i0 : (1 : Int) ≤ (j : Int) := by omega
  have i8 : (j : Int) ≤ 8 := by omega
  have R0 : Hid ((((w.alloc (.cells #[.slice aa na ca, .slice ap np cp] 25)).alloc (.cells #[.int .i64 2, .int .i64 (j : Int)] 37)).alloc (.cells #[.slice none 0 0, .slice none 0 0] 25)).heap[w.heap.size]? = some (.cells #[.slice aa na ca, .slice ap np cp] 25 (0, 0))) := h3_0 _ _ _ _
  have R1 : Hid ((((w.alloc (.cells #[.slice aa na ca, .slice ap np cp] 25)).alloc (.cells #[.int .i64 2, .int .i64 (j : Int)] 37)).alloc (.cells #[.slice none 0 0, .slice none 0 0] 25)).heap[w.heap.size + 1]? = some (.cells #[.int .i64 2, .int .i64 (j : Int)] 37 (0, 0))) := h3_1 _ _ _ _
  have R2 : Hid ((((w.alloc (.cells #[.slice aa na ca, .slice ap np cp] 25)).alloc (.cells #[.int .i64 2, .int .i64 (j : Int)] 37)).alloc (.cells #[.slice none 0 0, .slice none 0 0] 25)).heap[w.heap.size + 1 + 1]? = some (.cells #[.slice none 0 0, .slice none 0 0] 25 (0, 0))) := h3_2 _ _ _ _
  have B0 : Hid (Below w.heap.size w (((w.alloc (.cells #[.slice aa na ca, .slice ap np cp] 25)).alloc (.cells #[.int .i64 2, .int .i64 (j : Int)] 37)).alloc (.cells #[.slice none 0 0, .slice none 0 0] 25))) := ((((Below.refl _ _).alloc (Nat.le_refl _) _).alloc (by simp only [World.size_alloc] <;> omega) _).alloc (by simp only [World.size_alloc] <;> omega) _)
  go_enter Try.func46, Try.ntmps46
  go_upto_region 2 with fail
  generalize ((w.alloc (.cells #[.slice aa na ca, .slice ap np cp] 25)).alloc (.cells #[.int .i64 2, .int .i64 (j : Int)] 37)).alloc (.cells #[.slice none 0 0, .slice none 0 0] 25) = W0 at *
  obtain ⟨g, hg⟩ : ∃ g, g = w.heap.size := ⟨_, rfl⟩
  rw [← hg] at R0 R1 R2 ⊢
  have hgw : w.heap.size ≤ g := by omega
  clear hg
  have hg2 : g + 1 + 1 < W0.heap.size := lt_of_some R2.out
  obtain ⟨d0, d1⟩ := c2 R1.out
  obtain ⟨q0, q1⟩ := c2 R0.out
  go_wp2_with fail
  refine (rhas_any _ (idx t.a) (j : Int) _ (HM.out.1.1.keep B0.out)).mono ?_
  rintro e w1 ⟨rfl, rfl⟩
  rw [HH.out]
  go_wp2_with fail
  refine (rwith_any _ (idx t.a) (j : Int) _ (HM.out.1.1.keep B0.out) HM.out.2.1 (by have := HL.out; omega)).mono ?_
  rintro e w1 ⟨v1, rfl, ho1, hb1⟩
  rw [HS.out] at ho1
  have hi1 := ho1.ints (by have := idx_len (t.a.set j true); rw [List.length_set, hw.1] at this; omega)
  have hc1 := ho1.cap
  have HF1 : Hid (Frh w v1) := fun b hb => by have h1 := (World.ownsRow.lt ho1 b hb).1; have h2 := B0.out.size; omega
  obtain ⟨a1, n1, c1, rfl⟩ := hi1.slice
  have S0 := Lib.hid (bkeep hb1 R0.out)
  have S2 := Lib.hid (bkeep hb1 R2.out)
  have B1 : Hid (Below w.heap.size w w1) := btrans B0.out hb1
  have HI1 := Lib.hid hi1
  have HC1 := Lib.hid hc1
  clear hb1 ho1 hi1 hc1 d0 d1 q0 q1 R0 R1 R2
  obtain ⟨q0, q1⟩ := c2 S0.out
  have f0 := fr (j := 0) S0.out
  go_upto_region 30 with fail
  rw [setCell0 S0.out]
  have T0 : Hid ((w1.setRow g #[.slice a1 n1 c1, .slice ap np cp]).heap[g]? = some (.cells #[.slice a1 n1 c1, .slice ap np cp] 25 (0, 0))) := setRow_heap _ _ _ _ _ _ S0.out
  have T2 : Hid ((w1.setRow g #[.slice a1 n1 c1, .slice ap np cp]).heap[g + 1 + 1]? = some (.cells #[.slice none 0 0, .slice none 0 0] 25 (0, 0))) := (setRow_other _ _ _ _ (by omega)).trans S2.out
  have B2 : Hid (Below w.heap.size w (w1.setRow g #[.slice a1 n1 c1, .slice ap np cp])) := below_setRow B1.out hgw _
  have HI2 : Hid (IsInts (w1.setRow g #[.slice a1 n1 c1, .slice ap np cp]) (.slice a1 n1 c1) (idx (t.a.set j true))) := ints_setRow HI1.out S0.out _
  generalize w1.setRow g #[.slice a1 n1 c1, .slice ap np cp] = w2 at *
  clear q0 q1 f0 S0 S2 B1 HI1
  go_wp2_with (first | ((with_reducible refine ld25 ?a1 (.tmp 2) ?a2 g ?a3 _ _ 25 T0 ?_); (case a1 => rfl); (case a2 => rfl); (case a3 => rfl)) | ((with_reducible refine st25 ?a4 (.tmp 4) (.tmp 90) ?a5 (g + 1 + 1) (.slice none 0 0) (.slice none 0 0) (.slice a1 n1 c1) (.slice ap np cp) 25 ?a6 ?a7 T2 ?a8 ?_); (case a4 => rfl); (case a5 => rfl); (case a6 => rfl); (case a7 => rfl); (case a8 => exact one2 _ _ _ _ _ _)))
  exact bodyPost_ret (v := .tuple #[.agg #[.slice a1 n1 c1, .slice ap np cp], .int .i64 0]) (res25 (fn := Try.f46) (p := 4) (u := 5) rfl _ _ (g + 1 + 1) 25 (.slice a1 n1 c1) (.slice ap np cp) (.int .i64 0) rfl rfl (setRow_heap _ _ _ _ _ _ T2.out)) rfl ⟨_, _, by rw [HE.out.1], by rw [HE.out.2]; exact ⟨⟨ints_setRow HI2.out T2.out _, HM.out.1.2.keep (below_setRow B2.out (by omega) _)⟩, HC1.out, HM.out.2.2⟩, below_setRow B2.out (by omega) _, .inr HF1.out, .inl rfl⟩
set_option maxRecDepth 100000 in
set_option maxHeartbeats 2000000 in
theorem next_bad3 (va vp : Value) (t : St) (j : Nat) (h0 : 1 ≤ j) (h8 : j ≤ 8) (hb : t.a.getD j false = false) (w : World) (hw : t.Wf) (hm : IsS w va vp t) : Calls Try.prog 46 #[.agg #[va, vp], .agg #[.int .i64 3, .int .i64 (j : Int)]] w (Nxt va vp t 3 (j : Int) w) := by
  obtain ⟨aa, na, ca, rfl⟩ := hm.1.1.slice
  obtain ⟨ap, np, cp, rfl⟩ := hm.1.2.slice
  have HM := Lib.hid hm
  clear hm
  have HE : Hid (apE t 3 (j : Int) = 9 ∧ apS t 3 (j : Int) = t) := by
    have e : apE t 3 (j : Int) = 9 := by
      unfold apE
      rw [if_neg (by decide), if_pos (by decide), if_pos (by omega), Int.toNat_natCast, hb]; rfl
    exact ⟨e, apS_err (by rw [e]; decide)⟩
  have HH : Hid ((idx t.a).contains (j : Int) = false) := by rw [has_idx, hb]; rfl
  have i0 : (1 : Int) ≤ (j : Int) := by omega
  have i8 : (j : Int) ≤ 8 := by omega
  have R0 : Hid ((((w.alloc (.cells #[.slice aa na ca, .slice ap np cp] 25)).alloc (.cells #[.int .i64 3, .int .i64 (j : Int)] 37)).alloc (.cells #[.slice none 0 0, .slice none 0 0] 25)).heap[w.heap.size]? = some (.cells #[.slice aa na ca, .slice ap np cp] 25 (0, 0))) := h3_0 _ _ _ _
  have R1 : Hid ((((w.alloc (.cells #[.slice aa na ca, .slice ap np cp] 25)).alloc (.cells #[.int .i64 3, .int .i64 (j : Int)] 37)).alloc (.cells #[.slice none 0 0, .slice none 0 0] 25)).heap[w.heap.size + 1]? = some (.cells #[.int .i64 3, .int .i64 (j : Int)] 37 (0, 0))) := h3_1 _ _ _ _
  have R2 : Hid ((((w.alloc (.cells #[.slice aa na ca, .slice ap np cp] 25)).alloc (.cells #[.int .i64 3, .int .i64 (j : Int)] 37)).alloc (.cells #[.slice none 0 0, .slice none 0 0] 25)).heap[w.heap.size + 1 + 1]? = some (.cells #[.slice none 0 0, .slice none 0 0] 25 (0, 0))) := h3_2 _ _ _ _
  have B0 : Hid (Below w.heap.size w (((w.alloc (.cells #[.slice aa na ca, .slice ap np cp] 25)).alloc (.cells #[.int .i64 3, .int .i64 (j : Int)] 37)).alloc (.cells #[.slice none 0 0, .slice none 0 0] 25))) := ((((Below.refl _ _).alloc (Nat.le_refl _) _).alloc (by simp only [World.size_alloc] <;> omega) _).alloc (by simp only [World.size_alloc] <;> omega) _)
  go_enter Try.func46, Try.ntmps46
  go_upto_region 2 with fail
  generalize ((w.alloc (.cells #[.slice aa na ca, .slice ap np cp] 25)).alloc (.cells #[.int .i64 3, .int .i64 (j : Int)] 37)).alloc (.cells #[.slice none 0 0, .slice none 0 0] 25) = W0 at *
  obtain ⟨g, hg⟩ : ∃ g, g = w.heap.size := ⟨_, rfl⟩
  rw [← hg] at R0 R1 R2 ⊢
  have hgw : w.heap.size ≤ g := by omega
  clear hg
  have hg2 : g + 1 + 1 < W0.heap.size := lt_of_some R2.out
  obtain ⟨d0, d1⟩ := c2 R1.out
  obtain ⟨q0, q1⟩ := c2 R0.out
  go_wp2_with fail
  refine (rhas_any _ (idx t.a) (j : Int) _ (HM.out.1.1.keep B0.out)).mono ?_
  rintro e w1 ⟨rfl, rfl⟩
  rw [HH.out]
  go_wp2_with (first | ((with_reducible refine ld25 ?a1 (.tmp 2) ?a2 g ?a3 _ _ 25 R0 ?_); (case a1 => rfl); (case a2 => rfl); (case a3 => rfl)) | ((with_reducible refine st25 ?a4 (.tmp 4) (.tmp 54) ?a5 (g + 1 + 1) (.slice none 0 0) (.slice none 0 0) (.slice aa na ca) (.slice ap np cp) 25 ?a6 ?a7 R2 ?a8 ?_); (case a4 => rfl); (case a5 => rfl); (case a6 => rfl); (case a7 => rfl); (case a8 => exact one2 _ _ _ _ _ _)))
  exact bodyPost_ret (v := .tuple #[.agg #[.slice aa na ca, .slice ap np cp], .int .i64 9]) (res25 (fn := Try.f46) (p := 4) (u := 5) rfl _ _ (g + 1 + 1) 25 (.slice aa na ca) (.slice ap np cp) (.int .i64 9) rfl rfl (setRow_heap _ _ _ _ _ _ R2.out)) rfl ⟨_, _, by rw [HE.out.1], by rw [HE.out.2]; exact HM.out.keep (below_setRow B0.out (by omega) _), below_setRow B0.out (by omega) _, .inl rfl, .inl rfl⟩
set_option maxRecDepth 100000 in
set_option maxHeartbeats 2000000 in
theorem next_do3 (va vp : Value) (t : St) (j : Nat) (h0 : 1 ≤ j) (h8 : j ≤ 8) (hb : t.a.getD j false = true) (w : World) (hw : t.Wf) (hm : IsS w va vp t) : Calls Try.prog 46 #[.agg #[va, vp], .agg #[.int .i64 3, .int .i64 (j : Int)]] w (Nxt va vp t 3 (j : Int) w) := by
  obtain ⟨aa, na, ca, rfl⟩ := hm.1.1.slice
  obtain ⟨ap, np, cp, rfl⟩ := hm.1.2.slice
  have HM := Lib.hid hm
  clear hm
  have HE : Hid (apE t 3 (j : Int) = 0 ∧ apS t 3 (j : Int) = ⟨t.a.set j false, t.s⟩) := by
    have e : apE t 3 (j : Int) = 0 := by
      unfold apE
      rw [if_neg (by decide), if_pos (by decide), if_pos (by omega), Int.toNat_natCast, hb]; rfl
    exact ⟨e, by unfold apS; rw [if_pos e, if_pos (by decide), Int.toNat_natCast]; rfl⟩
  have HH : Hid ((idx t.a).contains (j : Int) = true) := by rw [has_idx, hb]; rfl
  have HL : Hid ((idx t.a).length ≤ 256) := by show _ ≤ _; have := idx_len t.a; rw [hw.1] at this; omega
  have HS : Hid (delL (j : Int) (idx t.a) = idx (t.a.set j false)) := del_idx _ _
  have i0 : (1 : Int) ≤ (j : Int) := by omega
  have i8 : (j : Int) ≤ 8 := by omega
  have R0 : Hid ((((w.alloc (.cells #[.slice aa na ca, .slice ap np cp] 25)).alloc (.cells #[.int .i64 3, .int .i64 (j : Int)] 37)).alloc (.cells #[.slice none 0 0, .slice none 0 0] 25)).heap[w.heap.size]? = some (.cells #[.slice aa na ca, .slice ap np cp] 25 (0, 0))) := h3_0 _ _ _ _
  have R1 : Hid ((((w.alloc (.cells #[.slice aa na ca, .slice ap np cp] 25)).alloc (.cells #[.int .i64 3, .int .i64 (j : Int)] 37)).alloc (.cells #[.slice none 0 0, .slice none 0 0] 25)).heap[w.heap.size + 1]? = some (.cells #[.int .i64 3, .int .i64 (j : Int)] 37 (0, 0))) := h3_1 _ _ _ _
  have R2 : Hid ((((w.alloc (.cells #[.slice aa na ca, .slice ap np cp] 25)).alloc (.cells #[.int .i64 3, .int .i64 (j : Int)] 37)).alloc (.cells #[.slice none 0 0, .slice none 0 0] 25)).heap[w.heap.size + 1 + 1]? = some (.cells #[.slice none 0 0, .slice none 0 0] 25 (0, 0))) := h3_2 _ _ _ _
  have B0 : Hid (Below w.heap.size w (((w.alloc (.cells #[.slice aa na ca, .slice ap np cp] 25)).alloc (.cells #[.int .i64 3, .int .i64 (j : Int)] 37)).alloc (.cells #[.slice none 0 0, .slice none 0 0] 25))) := ((((Below.refl _ _).alloc (Nat.le_refl _) _).alloc (by simp only [World.size_alloc] <;> omega) _).alloc (by simp only [World.size_alloc] <;> omega) _)
  go_enter Try.func46, Try.ntmps46
  go_upto_region 2 with fail
  generalize ((w.alloc (.cells #[.slice aa na ca, .slice ap np cp] 25)).alloc (.cells #[.int .i64 3, .int .i64 (j : Int)] 37)).alloc (.cells #[.slice none 0 0, .slice none 0 0] 25) = W0 at *
  obtain ⟨g, hg⟩ : ∃ g, g = w.heap.size := ⟨_, rfl⟩
  rw [← hg] at R0 R1 R2 ⊢
  have hgw : w.heap.size ≤ g := by omega
  clear hg
  have hg2 : g + 1 + 1 < W0.heap.size := lt_of_some R2.out
  obtain ⟨d0, d1⟩ := c2 R1.out
  obtain ⟨q0, q1⟩ := c2 R0.out
  go_wp2_with fail
  refine (rhas_any _ (idx t.a) (j : Int) _ (HM.out.1.1.keep B0.out)).mono ?_
  rintro e w1 ⟨rfl, rfl⟩
  rw [HH.out]
  go_wp2_with fail
  refine (rwithout_any _ (idx t.a) (j : Int) _ (HM.out.1.1.keep B0.out)).mono ?_
  rintro e w1 ⟨v1, rfl, ho1, hb1⟩
  rw [HS.out] at ho1
  have hi1 := ho1.ints (by have := idx_len (t.a.set j false); rw [List.length_set, hw.1] at this; omega)
  have hc1 := ho1.cap
  have HF1 : Hid (Frh w v1) := fun b hb => by have h1 := (World.ownsRow.lt ho1 b hb).1; have h2 := B0.out.size; omega
  obtain ⟨a1, n1, c1, rfl⟩ := hi1.slice
  have S0 := Lib.hid (bkeep hb1 R0.out)
  have S2 := Lib.hid (bkeep hb1 R2.out)
  have B1 : Hid (Below w.heap.size w w1) := btrans B0.out hb1
  have HI1 := Lib.hid hi1
  have HC1 := Lib.hid hc1
  clear hb1 ho1 hi1 hc1 d0 d1 q0 q1 R0 R1 R2
  obtain ⟨q0, q1⟩ := c2 S0.out
  have f0 := fr (j := 0) S0.out
  go_upto_region 30 with fail
  rw [setCell0 S0.out]
  have T0 : Hid ((w1.setRow g #[.slice a1 n1 c1, .slice ap np cp]).heap[g]? = some (.cells #[.slice a1 n1 c1, .slice ap np cp] 25 (0, 0))) := setRow_heap _ _ _ _ _ _ S0.out
  have T2 : Hid ((w1.setRow g #[.slice a1 n1 c1, .slice ap np cp]).heap[g + 1 + 1]? = some (.cells #[.slice none 0 0, .slice none 0 0] 25 (0, 0))) := (setRow_other _ _ _ _ (by omega)).trans S2.out
  have B2 : Hid (Below w.heap.size w (w1.setRow g #[.slice a1 n1 c1, .slice ap np cp])) := below_setRow B1.out hgw _
  have HI2 : Hid (IsInts (w1.setRow g #[.slice a1 n1 c1, .slice ap np cp]) (.slice a1 n1 c1) (idx (t.a.set j false))) := ints_setRow HI1.out S0.out _
  generalize w1.setRow g #[.slice a1 n1 c1, .slice ap np cp] = w2 at *
  clear q0 q1 f0 S0 S2 B1 HI1
  go_wp2_with (first | ((with_reducible refine ld25 ?a1 (.tmp 2) ?a2 g ?a3 _ _ 25 T0 ?_); (case a1 => rfl); (case a2 => rfl); (case a3 => rfl)) | ((with_reducible refine st25 ?a4 (.tmp 4) (.tmp 90) ?a5 (g + 1 + 1) (.slice none 0 0) (.slice none 0 0) (.slice a1 n1 c1) (.slice ap np cp) 25 ?a6 ?a7 T2 ?a8 ?_); (case a4 => rfl); (case a5 => rfl); (case a6 => rfl); (case a7 => rfl); (case a8 => exact one2 _ _ _ _ _ _)))
  exact bodyPost_ret (v := .tuple #[.agg #[.slice a1 n1 c1, .slice ap np cp], .int .i64 0]) (res25 (fn := Try.f46) (p := 4) (u := 5) rfl _ _ (g + 1 + 1) 25 (.slice a1 n1 c1) (.slice ap np cp) (.int .i64 0) rfl rfl (setRow_heap _ _ _ _ _ _ T2.out)) rfl ⟨_, _, by rw [HE.out.1], by rw [HE.out.2]; exact ⟨⟨ints_setRow HI2.out T2.out _, HM.out.1.2.keep (below_setRow B2.out (by omega) _)⟩, HC1.out, HM.out.2.2⟩, below_setRow B2.out (by omega) _, .inr HF1.out, .inl rfl⟩
set_option maxRecDepth 100000 in
set_option maxHeartbeats 2000000 in
theorem next_bad4 (va vp : Value) (t : St) (j : Nat) (h0 : 0 ≤ j) (h8 : j ≤ 255) (hb : t.s.getD j false = true) (w : World) (hw : t.Wf) (hm : IsS w va vp t) : Calls Try.prog 46 #[.agg #[va, vp], .agg #[.int .i64 4, .int .i64 (j : Int)]] w (Nxt va vp t 4 (j : Int) w) := by
  obtain ⟨aa, na, ca, rfl⟩ := hm.1.1.slice
  obtain ⟨ap, np, cp, rfl⟩ := hm.1.2.slice
  have HM := Lib.hid hm
  clear hm
  have HE : Hid (apE t 4 (j : Int) = 9 ∧ apS t 4 (j : Int) = t) := by
    have e : apE t 4 (j : Int) = 9 := by
      unfold apE
      rw [if_neg (by decide), if_neg (by decide), if_pos (by decide), if_pos (by omega), Int.toNat_natCast, hb]; rfl
    exact ⟨e, apS_err (by rw [e]; decide)⟩
  have HH : Hid ((idx t.s).contains (j : Int) = true) := by rw [has_idx, hb]; rfl
  have i0 : (0 : Int) ≤ (j : Int) := by omega
  have i8 : (j : Int) ≤ 255 := by omega
  have R0 : Hid ((((w.alloc (.cells #[.slice aa na ca, .slice ap np cp] 25)).alloc (.cells #[.int .i64 4, .int .i64 (j : Int)] 37)).alloc (.cells #[.slice none 0 0, .slice none 0 0] 25)).heap[w.heap.size]? = some (.cells #[.slice aa na ca, .slice ap np cp] 25 (0, 0))) := h3_0 _ _ _ _
  have R1 : Hid ((((w.alloc (.cells #[.slice aa na ca, .slice ap np cp] 25)).alloc (.cells #[.int .i64 4, .int .i64 (j : Int)] 37)).alloc (.cells #[.slice none 0 0, .slice none 0 0] 25)).heap[w.heap.size + 1]? = some (.cells #[.int .i64 4, .int .i64 (j : Int)] 37 (0, 0))) := h3_1 _ _ _ _
  have R2 : Hid ((((w.alloc (.cells #[.slice aa na ca, .slice ap np cp] 25)).alloc (.cells #[.int .i64 4, .int .i64 (j : Int)] 37)).alloc (.cells #[.slice none 0 0, .slice none 0 0] 25)).heap[w.heap.size + 1 + 1]? = some (.cells #[.slice none 0 0, .slice none 0 0] 25 (0, 0))) := h3_2 _ _ _ _
  have B0 : Hid (Below w.heap.size w (((w.alloc (.cells #[.slice aa na ca, .slice ap np cp] 25)).alloc (.cells #[.int .i64 4, .int .i64 (j : Int)] 37)).alloc (.cells #[.slice none 0 0, .slice none 0 0] 25))) := ((((Below.refl _ _).alloc (Nat.le_refl _) _).alloc (by simp only [World.size_alloc] <;> omega) _).alloc (by simp only [World.size_alloc] <;> omega) _)
  go_enter Try.func46, Try.ntmps46
  go_upto_region 2 with fail
  generalize ((w.alloc (.cells #[.slice aa na ca, .slice ap np cp] 25)).alloc (.cells #[.int .i64 4, .int .i64 (j : Int)] 37)).alloc (.cells #[.slice none 0 0, .slice none 0 0] 25) = W0 at *
  obtain ⟨g, hg⟩ : ∃ g, g = w.heap.size := ⟨_, rfl⟩
  rw [← hg] at R0 R1 R2 ⊢
  have hgw : w.heap.size ≤ g := by omega
  clear hg
  have hg2 : g + 1 + 1 < W0.heap.size := lt_of_some R2.out
  obtain ⟨d0, d1⟩ := c2 R1.out
  obtain ⟨q0, q1⟩ := c2 R0.out
  go_wp2_with fail
  refine (rhas_any _ (idx t.s) (j : Int) _ (HM.out.1.2.keep B0.out)).mono ?_
  rintro e w1 ⟨rfl, rfl⟩
  rw [HH.out]
  go_wp2_with (first | ((with_reducible refine ld25 ?a1 (.tmp 2) ?a2 g ?a3 _ _ 25 R0 ?_); (case a1 => rfl); (case a2 => rfl); (case a3 => rfl)) | ((with_reducible refine st25 ?a4 (.tmp 4) (.tmp 68) ?a5 (g + 1 + 1) (.slice none 0 0) (.slice none 0 0) (.slice aa na ca) (.slice ap np cp) 25 ?a6 ?a7 R2 ?a8 ?_); (case a4 => rfl); (case a5 => rfl); (case a6 => rfl); (case a7 => rfl); (case a8 => exact one2 _ _ _ _ _ _)))
  exact bodyPost_ret (v := .tuple #[.agg #[.slice aa na ca, .slice ap np cp], .int .i64 9]) (res25 (fn := Try.f46) (p := 4) (u := 5) rfl _ _ (g + 1 + 1) 25 (.slice aa na ca) (.slice ap np cp) (.int .i64 9) rfl rfl (setRow_heap _ _ _ _ _ _ R2.out)) rfl ⟨_, _, by rw [HE.out.1], by rw [HE.out.2]; exact HM.out.keep (below_setRow B0.out (by omega) _), below_setRow B0.out (by omega) _, .inl rfl, .inl rfl⟩
set_option maxRecDepth 100000 in
set_option maxHeartbeats 2000000 in
theorem next_do4 (va vp : Value) (t : St) (j : Nat) (h0 : 0 ≤ j) (h8 : j ≤ 255) (hb : t.s.getD j false = false) (w : World) (hw : t.Wf) (hm : IsS w va vp t) : Calls Try.prog 46 #[.agg #[va, vp], .agg #[.int .i64 4, .int .i64 (j : Int)]] w (Nxt va vp t 4 (j : Int) w) := by
  obtain ⟨aa, na, ca, rfl⟩ := hm.1.1.slice
  obtain ⟨ap, np, cp, rfl⟩ := hm.1.2.slice
  have HM := Lib.hid hm
  clear hm
  have HE : Hid (apE t 4 (j : Int) = 0 ∧ apS t 4 (j : Int) = ⟨t.a, t.s.set j true⟩) := by
    have e : apE t 4 (j : Int) = 0 := by
      unfold apE
      rw [if_neg (by decide), if_neg (by decide), if_pos (by decide), if_pos (by omega), Int.toNat_natCast, hb]; rfl
    exact ⟨e, by unfold apS; rw [if_pos e, if_neg (by decide), if_pos (by decide), Int.toNat_natCast]; rfl⟩
  have HH : Hid ((idx t.s).contains (j : Int) = false) := by rw [has_idx, hb]; rfl
  have HL : Hid ((idx t.s).length ≤ 256) := by show _ ≤ _; have := idx_len t.s; rw [hw.2] at this; omega
  have HS : Hid (insL (j : Int) (idx t.s) = idx (t.s.set j true)) := ins_idx (by rw [hw.2]; omega) hb
  have i0 : (0 : Int) ≤ (j : Int) := by omega
  have i8 : (j : Int) ≤ 255 := by omega
  have R0 : Hid ((((w.alloc (.cells #[.slice aa na ca, .slice ap np cp] 25)).alloc (.cells #[.int .i64 4, .int .i64 (j : Int)] 37)).alloc (.cells #[.slice none 0 0, .slice none 0 0] 25)).heap[w.heap.size]? = some (.cells #[.slice aa na ca, .slice ap np cp] 25 (0, 0))) := h3_0 _ _ _ _
  have R1 : Hid ((((w.alloc (.cells #[.slice aa na ca, .slice ap np cp] 25)).alloc (.cells #[.int .i64 4, .int .i64 (j : Int)] 37)).alloc (.cells #[.slice none 0 0, .slice none 0 0] 25)).heap[w.heap.size + 1]? = some (.cells #[.int .i64 4, .int .i64 (j : Int)] 37 (0, 0))) := h3_1 _ _ _ _
  have R2 : Hid ((((w.alloc (.cells #[.slice aa na ca, .slice ap np cp] 25)).alloc (.cells #[.int .i64 4, .int .i64 (j : Int)] 37)).alloc (.cells #[.slice none 0 0, .slice none 0 0] 25)).heap[w.heap.size + 1 + 1]? = some (.cells #[.slice none 0 0, .slice none 0 0] 25 (0, 0))) := h3_2 _ _ _ _
  have B0 : Hid (Below w.heap.size w (((w.alloc (.cells #[.slice aa na ca, .slice ap np cp] 25)).alloc (.cells #[.int .i64 4, .int .i64 (j : Int)] 37)).alloc (.cells #[.slice none 0 0, .slice none 0 0] 25))) := ((((Below.refl _ _).alloc (Nat.le_refl _) _).alloc (by simp only [World.size_alloc] <;> omega) _).alloc (by simp only [World.size_alloc] <;> omega) _)
  go_enter Try.func46, Try.ntmps46
  go_upto_region 2 with fail
  generalize ((w.alloc (.cells #[.slice aa na ca, .slice ap np cp] 25)).alloc (.cells #[.int .i64 4, .int .i64 (j : Int)] 37)).alloc (.cells #[.slice none 0 0, .slice none 0 0] 25) = W0 at *
  obtain ⟨g, hg⟩ : ∃ g, g = w.heap.size := ⟨_, rfl⟩
  rw [← hg] at R0 R1 R2 ⊢
  have hgw : w.heap.size ≤ g := by omega
  clear hg
  have hg2 : g + 1 + 1 < W0.heap.size := lt_of_some R2.out
  obtain ⟨d0, d1⟩ := c2 R1.out
  obtain ⟨q0, q1⟩ := c2 R0.out
  go_wp2_with fail
  refine (rhas_any _ (idx t.s) (j : Int) _ (HM.out.1.2.keep B0.out)).mono ?_
  rintro e w1 ⟨rfl, rfl⟩
  rw [HH.out]
  go_wp2_with fail
  refine (rwith_any _ (idx t.s) (j : Int) _ (HM.out.1.2.keep B0.out) HM.out.2.2 (by have := HL.out; omega)).mono ?_
  rintro e w1 ⟨v1, rfl, ho1, hb1⟩
  rw [HS.out] at ho1
  have hi1 := ho1.ints (by have := idx_len (t.s.set j true); rw [List.length_set, hw.2] at this; omega)
  have hc1 := ho1.cap
  have HF1 : Hid (Frh w v1) := fun b hb => by have h1 := (World.ownsRow.lt ho1 b hb).1; have h2 := B0.out.size; omega
  obtain ⟨a1, n1, c1, rfl⟩ := hi1.slice
  have S0 := Lib.hid (bkeep hb1 R0.out)
  have S2 := Lib.hid (bkeep hb1 R2.out)
  have B1 : Hid (Below w.heap.size w w1) := btrans B0.out hb1
  have HI1 := Lib.hid hi1
  have HC1 := Lib.hid hc1
  clear hb1 ho1 hi1 hc1 d0 d1 q0 q1 R0 R1 R2
  obtain ⟨q0, q1⟩ := c2 S0.out
  have f0 := fr (j := 1) S0.out
  go_upto_region 30 with fail
  rw [setCell1 S0.out]
  have T0 : Hid ((w1.setRow g #[.slice aa na ca, .slice a1 n1 c1]).heap[g]? = some (.cells #[.slice aa na ca, .slice a1 n1 c1] 25 (0, 0))) := setRow_heap _ _ _ _ _ _ S0.out
  have T2 : Hid ((w1.setRow g #[.slice aa na ca, .slice a1 n1 c1]).heap[g + 1 + 1]? = some (.cells #[.slice none 0 0, .slice none 0 0] 25 (0, 0))) := (setRow_other _ _ _ _ (by omega)).trans S2.out
  have B2 : Hid (Below w.heap.size w (w1.setRow g #[.slice aa na ca, .slice a1 n1 c1])) := below_setRow B1.out hgw _
  have HI2 : Hid (IsInts (w1.setRow g #[.slice aa na ca, .slice a1 n1 c1]) (.slice a1 n1 c1) (idx (t.s.set j true))) := ints_setRow HI1.out S0.out _
  generalize w1.setRow g #[.slice aa na ca, .slice a1 n1 c1] = w2 at *
  clear q0 q1 f0 S0 S2 B1 HI1
  go_wp2_with (first | ((with_reducible refine ld25 ?a1 (.tmp 2) ?a2 g ?a3 _ _ 25 T0 ?_); (case a1 => rfl); (case a2 => rfl); (case a3 => rfl)) | ((with_reducible refine st25 ?a4 (.tmp 4) (.tmp 90) ?a5 (g + 1 + 1) (.slice none 0 0) (.slice none 0 0) (.slice aa na ca) (.slice a1 n1 c1) 25 ?a6 ?a7 T2 ?a8 ?_); (case a4 => rfl); (case a5 => rfl); (case a6 => rfl); (case a7 => rfl); (case a8 => exact one2 _ _ _ _ _ _)))
  exact bodyPost_ret (v := .tuple #[.agg #[.slice aa na ca, .slice a1 n1 c1], .int .i64 0]) (res25 (fn := Try.f46) (p := 4) (u := 5) rfl _ _ (g + 1 + 1) 25 (.slice aa na ca) (.slice a1 n1 c1) (.int .i64 0) rfl rfl (setRow_heap _ _ _ _ _ _ T2.out)) rfl ⟨_, _, by rw [HE.out.1], by rw [HE.out.2]; exact ⟨⟨HM.out.1.1.keep (below_setRow B2.out (by omega) _), ints_setRow HI2.out T2.out _⟩, HM.out.2.1, HC1.out⟩, below_setRow B2.out (by omega) _, .inl rfl, .inr HF1.out⟩
set_option maxRecDepth 100000 in
set_option maxHeartbeats 2000000 in
theorem next_bad5 (va vp : Value) (t : St) (j : Nat) (h0 : 0 ≤ j) (h8 : j ≤ 255) (hb : t.s.getD j false = false) (w : World) (hw : t.Wf) (hm : IsS w va vp t) : Calls Try.prog 46 #[.agg #[va, vp], .agg #[.int .i64 5, .int .i64 (j : Int)]] w (Nxt va vp t 5 (j : Int) w) := by
  obtain ⟨aa, na, ca, rfl⟩ := hm.1.1.slice
  obtain ⟨ap, np, cp, rfl⟩ := hm.1.2.slice
  have HM := Lib.hid hm
  clear hm
  have HE : Hid (apE t 5 (j : Int) = 9 ∧ apS t 5 (j : Int) = t) := by
    have e : apE t 5 (j : Int) = 9 := by
      unfold apE
      rw [if_neg (by decide), if_neg (by decide), if_pos (by decide), if_pos (by omega), Int.toNat_natCast, hb]; rfl
    exact ⟨e, apS_err (by rw [e]; decide)⟩
  have HH : Hid ((idx t.s).contains (j : Int) = false) := by rw [has_idx, hb]; rfl
  have i0 : (0 : Int) ≤ (j : Int) := by omega
  have i8 : (j : Int) ≤ 255 := by omega
  have R0 : Hid ((((w.alloc (.cells #[.slice aa na ca, .slice ap np cp] 25)).alloc (.cells #[.int .i64 5, .int .i64 (j : Int)] 37)).alloc (.cells #[.slice none 0 0, .slice none 0 0] 25)).heap[w.heap.size]? = some (.cells #[.slice aa na ca, .slice ap np cp] 25 (0, 0))) := h3_0 _ _ _ _
  have R1 : Hid ((((w.alloc (.cells #[.slice aa na ca, .slice ap np cp] 25)).alloc (.cells #[.int .i64 5, .int .i64 (j : Int)] 37)).alloc (.cells #[.slice none 0 0, .slice none 0 0] 25)).heap[w.heap.size + 1]? = some (.cells #[.int .i64 5, .int .i64 (j : Int)] 37 (0, 0))) := h3_1 _ _ _ _
  have R2 : Hid ((((w.alloc (.cells #[.slice aa na ca, .slice ap np cp] 25)).alloc (.cells #[.int .i64 5, .int .i64 (j : Int)] 37)).alloc (.cells #[.slice none 0 0, .slice none 0 0] 25)).heap[w.heap.size + 1 + 1]? = some (.cells #[.slice none 0 0, .slice none 0 0] 25 (0, 0))) := h3_2 _ _ _ _
  have B0 : Hid (Below w.heap.size w (((w.alloc (.cells #[.slice aa na ca, .slice ap np cp] 25)).alloc (.cells #[.int .i64 5, .int .i64 (j : Int)] 37)).alloc (.cells #[.slice none 0 0, .slice none 0 0] 25))) := ((((Below.refl _ _).alloc (Nat.le_refl _) _).alloc (by simp only [World.size_alloc] <;> omega) _).alloc (by simp only [World.size_alloc] <;> omega) _)
  go_enter Try.func46, Try.ntmps46
  go_upto_region 2 with fail
  generalize ((w.alloc (.cells #[.slice aa na ca, .slice ap np cp] 25)).alloc (.cells #[.int .i64 5, .int .i64 (j : Int)] 37)).alloc (.cells #[.slice none 0 0, .slice none 0 0] 25) = W0 at *
  obtain ⟨g, hg⟩ : ∃ g, g = w.heap.size := ⟨_, rfl⟩
  rw [← hg] at R0 R1 R2 ⊢
  have hgw : w.heap.size ≤ g := by omega
  clear hg
  have hg2 : g + 1 + 1 < W0.heap.size := lt_of_some R2.out
  obtain ⟨d0, d1⟩ := c2 R1.out
  obtain ⟨q0, q1⟩ := c2 R0.out
  go_wp2_with fail
  refine (rhas_any _ (idx t.s) (j : Int) _ (HM.out.1.2.keep B0.out)).mono ?_
  rintro e w1 ⟨rfl, rfl⟩
  rw [HH.out]
  go_wp2_with (first | ((with_reducible refine ld25 ?a1 (.tmp 2) ?a2 g ?a3 _ _ 25 R0 ?_); (case a1 => rfl); (case a2 => rfl); (case a3 => rfl)) | ((with_reducible refine st25 ?a4 (.tmp 4) (.tmp 83) ?a5 (g + 1 + 1) (.slice none 0 0) (.slice none 0 0) (.slice aa na ca) (.slice ap np cp) 25 ?a6 ?a7 R2 ?a8 ?_); (case a4 => rfl); (case a5 => rfl); (case a6 => rfl); (case a7 => rfl); (case a8 => exact one2 _ _ _ _ _ _)))
  exact bodyPost_ret (v := .tuple #[.agg #[.slice aa na ca, .slice ap np cp], .int .i64 9]) (res25 (fn := Try.f46) (p := 4) (u := 5) rfl _ _ (g + 1 + 1) 25 (.slice aa na ca) (.slice ap np cp) (.int .i64 9) rfl rfl (setRow_heap _ _ _ _ _ _ R2.out)) rfl ⟨_, _, by rw [HE.out.1], by rw [HE.out.2]; exact HM.out.keep (below_setRow B0.out (by omega) _), below_setRow B0.out (by omega) _, .inl rfl, .inl rfl⟩
set_option maxRecDepth 100000 in
set_option maxHeartbeats 2000000 in
theorem next_do5 (va vp : Value) (t : St) (j : Nat) (h0 : 0 ≤ j) (h8 : j ≤ 255) (hb : t.s.getD j false = true) (w : World) (hw : t.Wf) (hm : IsS w va vp t) : Calls Try.prog 46 #[.agg #[va, vp], .agg #[.int .i64 5, .int .i64 (j : Int)]] w (Nxt va vp t 5 (j : Int) w) := by
  obtain ⟨aa, na, ca, rfl⟩ := hm.1.1.slice
  obtain ⟨ap, np, cp, rfl⟩ := hm.1.2.slice
  have HM := Lib.hid hm
  clear hm
  have HE : Hid (apE t 5 (j : Int) = 0 ∧ apS t 5 (j : Int) = ⟨t.a, t.s.set j false⟩) := by
    have e : apE t 5 (j : Int) = 0 := by
      unfold apE
      rw [if_neg (by decide), if_neg (by decide), if_pos (by decide), if_pos (by omega), Int.toNat_natCast, hb]; rfl
    exact ⟨e, by unfold apS; rw [if_pos e, if_neg (by decide), if_pos (by decide), Int.toNat_natCast]; rfl⟩
  have HH : Hid ((idx t.s).contains (j : Int) = true) := by rw [has_idx, hb]; rfl
  have HL : Hid ((idx t.s).length ≤ 256) := by show _ ≤ _; have := idx_len t.s; rw [hw.2] at this; omega
  have HS : Hid (delL (j : Int) (idx t.s) = idx (t.s.set j false)) := del_idx _ _
  have i0 : (0 : Int) ≤ (j : Int) := by omega
  have i8 : (j : Int) ≤ 255 := by omega
  have R0 : Hid ((((w.alloc (.cells #[.slice aa na ca, .slice ap np cp] 25)).alloc (.cells #[.int .i64 5, .int .i64 (j : Int)] 37)).alloc (.cells #[.slice none 0 0, .slice none 0 0] 25)).heap[w.heap.size]? = some (.cells #[.slice aa na ca, .slice ap np cp] 25 (0, 0))) := h3_0 _ _ _ _
  have R1 : Hid ((((w.alloc (.cells #[.slice aa na ca, .slice ap np cp] 25)).alloc (.cells #[.int .i64 5, .int .i64 (j : Int)] 37)).alloc (.cells #[.slice none 0 0, .slice none 0 0] 25)).heap[w.heap.size + 1]? = some (.cells #[.int .i64 5, .int .i64 (j : Int)] 37 (0, 0))) := h3_1 _ _ _ _
  have R2 : Hid ((((w.alloc (.cells #[.slice aa na ca, .slice ap np cp] 25)).alloc (.cells #[.int .i64 5, .int .i64 (j : Int)] 37)).alloc (.cells #[.slice none 0 0, .slice none 0 0] 25)).heap[w.heap.size + 1 + 1]? = some (.cells #[.slice none 0 0, .slice none 0 0] 25 (0, 0))) := h3_2 _ _ _ _
  have B0 : Hid (Below w.heap.size w (((w.alloc (.cells #[.slice aa na ca, .slice ap np cp] 25)).alloc (.cells #[.int .i64 5, .int .i64 (j : Int)] 37)).alloc (.cells #[.slice none 0 0, .slice none 0 0] 25))) := ((((Below.refl _ _).alloc (Nat.le_refl _) _).alloc (by simp only [World.size_alloc] <;> omega) _).alloc (by simp only [World.size_alloc] <;> omega) _)
  go_enter Try.func46, Try.ntmps46
  go_upto_region 2 with fail
  generalize ((w.alloc (.cells #[.slice aa na ca, .slice ap np cp] 25)).alloc (.cells #[.int .i64 5, .int .i64 (j : Int)] 37)).alloc (.cells #[.slice none 0 0, .slice none 0 0] 25) = W0 at *
  obtain ⟨g, hg⟩ : ∃ g, g = w.heap.size := ⟨_, rfl⟩
  rw [← hg] at R0 R1 R2 ⊢
  have hgw : w.heap.size ≤ g := by omega
  clear hg
  have hg2 : g + 1 + 1 < W0.heap.size := lt_of_some R2.out
  obtain ⟨d0, d1⟩ := c2 R1.out
  obtain ⟨q0, q1⟩ := c2 R0.out
  go_wp2_with fail
  refine (rhas_any _ (idx t.s) (j : Int) _ (HM.out.1.2.keep B0.out)).mono ?_
  rintro e w1 ⟨rfl, rfl⟩
  rw [HH.out]
  go_wp2_with fail
  refine (rwithout_any _ (idx t.s) (j : Int) _ (HM.out.1.2.keep B0.out)).mono ?_
  rintro e w1 ⟨v1, rfl, ho1, hb1⟩
  rw [HS.out] at ho1
  have hi1 := ho1.ints (by have := idx_len (t.s.set j false); rw [List.length_set, hw.2] at this; omega)
  have hc1 := ho1.cap
  have HF1 : Hid (Frh w v1) := fun b hb => by have h1 := (World.ownsRow.lt ho1 b hb).1; have h2 := B0.out.size; omega
  obtain ⟨a1, n1, c1, rfl⟩ := hi1.slice
  have S0 := Lib.hid (bkeep hb1 R0.out)
  have S2 := Lib.hid (bkeep hb1 R2.out)
  have B1 : Hid (Below w.heap.size w w1) := btrans B0.out hb1
  have HI1 := Lib.hid hi1
  have HC1 := Lib.hid hc1
  clear hb1 ho1 hi1 hc1 d0 d1 q0 q1 R0 R1 R2
  obtain ⟨q0, q1⟩ := c2 S0.out
  have f0 := fr (j := 1) S0.out
  go_upto_region 30 with fail
  rw [setCell1 S0.out]
  have T0 : Hid ((w1.setRow g #[.slice aa na ca, .slice a1 n1 c1]).heap[g]? = some (.cells #[.slice aa na ca, .slice a1 n1 c1] 25 (0, 0))) := setRow_heap _ _ _ _ _ _ S0.out
  have T2 : Hid ((w1.setRow g #[.slice aa na ca, .slice a1 n1 c1]).heap[g + 1 + 1]? = some (.cells #[.slice none 0 0, .slice none 0 0] 25 (0, 0))) := (setRow_other _ _ _ _ (by omega)).trans S2.out
  have B2 : Hid (Below w.heap.size w (w1.setRow g #[.slice aa na ca, .slice a1 n1 c1])) := below_setRow B1.out hgw _
  have HI2 : Hid (IsInts (w1.setRow g #[.slice aa na ca, .slice a1 n1 c1]) (.slice a1 n1 c1) (idx (t.s.set j false))) := ints_setRow HI1.out S0.out _
  generalize w1.setRow g #[.slice aa na ca, .slice a1 n1 c1] = w2 at *
  clear q0 q1 f0 S0 S2 B1 HI1
  go_wp2_with (first | ((with_reducible refine ld25 ?a1 (.tmp 2) ?a2 g ?a3 _ _ 25 T0 ?_); (case a1 => rfl); (case a2 => rfl); (case a3 => rfl)) | ((with_reducible refine st25 ?a4 (.tmp 4) (.tmp 90) ?a5 (g + 1 + 1) (.slice none 0 0) (.slice none 0 0) (.slice aa na ca) (.slice a1 n1 c1) 25 ?a6 ?a7 T2 ?a8 ?_); (case a4 => rfl); (case a5 => rfl); (case a6 => rfl); (case a7 => rfl); (case a8 => exact one2 _ _ _ _ _ _)))
  exact bodyPost_ret (v := .tuple #[.agg #[.slice aa na ca, .slice a1 n1 c1], .int .i64 0]) (res25 (fn := Try.f46) (p := 4) (u := 5) rfl _ _ (g + 1 + 1) 25 (.slice aa na ca) (.slice a1 n1 c1) (.int .i64 0) rfl rfl (setRow_heap _ _ _ _ _ _ T2.out)) rfl ⟨_, _, by rw [HE.out.1], by rw [HE.out.2]; exact ⟨⟨HM.out.1.1.keep (below_setRow B2.out (by omega) _), ints_setRow HI2.out T2.out _⟩, HM.out.2.1, HC1.out⟩, below_setRow B2.out (by omega) _, .inl rfl, .inr HF1.out⟩
theorem next_any (va vp : Value) (t : St) (k x : Int) (w : World) (hw : t.Wf) (hm : IsS w va vp t) : Calls Try.prog 46 #[.agg #[va, vp], .agg #[.int .i64 k, .int .i64 x]] w (Nxt va vp t k x w) := by
  by_cases k1 : k = 1
  · subst k1
    by_cases h0 : x < 0
    · exact next_low1 va vp t x h0 w hw hm
    by_cases h8 : 8 < x
    · exact next_high1 va vp t x h8 w hw hm
    exact next_pick va vp t x (by omega) (by omega) w hw hm
  by_cases k2 : k = 2
  · subst k2
    by_cases h0 : x < 1
    · exact next_low2 va vp t x h0 w hw hm
    by_cases h8 : 8 < x
    · exact next_high2 va vp t x h8 w hw hm
    obtain ⟨j, rfl⟩ := Int.eq_ofNat_of_zero_le (show 0 ≤ x by omega)
    cases hb : t.a.getD j false with
    | false => exact next_do2 va vp t j (by omega) (by omega) hb w hw hm
    | true => exact next_bad2 va vp t j (by omega) (by omega) hb w hw hm
  by_cases k3 : k = 3
  · subst k3
    by_cases h0 : x < 1
    · exact next_low3 va vp t x h0 w hw hm
    by_cases h8 : 8 < x
    · exact next_high3 va vp t x h8 w hw hm
    obtain ⟨j, rfl⟩ := Int.eq_ofNat_of_zero_le (show 0 ≤ x by omega)
    cases hb : t.a.getD j false with
    | false => exact next_bad3 va vp t j (by omega) (by omega) hb w hw hm
    | true => exact next_do3 va vp t j (by omega) (by omega) hb w hw hm
  by_cases k4 : k = 4
  · subst k4
    by_cases h0 : x < 0
    · exact next_low4 va vp t x h0 w hw hm
    by_cases h8 : 255 < x
    · exact next_high4 va vp t x h8 w hw hm
    obtain ⟨j, rfl⟩ := Int.eq_ofNat_of_zero_le (show 0 ≤ x by omega)
    cases hb : t.s.getD j false with
    | false => exact next_do4 va vp t j (by omega) (by omega) hb w hw hm
    | true => exact next_bad4 va vp t j (by omega) (by omega) hb w hw hm
  by_cases k5 : k = 5
  · subst k5
    by_cases h0 : x < 0
    · exact next_low5 va vp t x h0 w hw hm
    by_cases h8 : 255 < x
    · exact next_high5 va vp t x h8 w hw hm
    obtain ⟨j, rfl⟩ := Int.eq_ofNat_of_zero_le (show 0 ≤ x by omega)
    cases hb : t.s.getD j false with
    | false => exact next_bad5 va vp t j (by omega) (by omega) hb w hw hm
    | true => exact next_do5 va vp t j (by omega) (by omega) hb w hw hm
  exact next_kind va vp t k x k1 k2 k3 k4 k5 w hw hm
end Go.Proofs.Ytgdcgmnfgbdiiaa
