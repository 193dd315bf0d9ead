/- Helper facts for the statements of this seat; no statement itself. -/
import Derived.Test.YtfploaaelfjadaaM
import Derived.Outline
namespace Go.Proofs.Ytfploaaelfjadaa
open Go.RowKit
set_option linter.unusedSimpArgs false
set_option linter.unusedVariables false
set_option linter.unnecessarySimpa false

theorem set_aw {w : World} {g ty : Nat} {t : T} (b : Bool) (h : w.heap[g]? = some (.cells (tC t) ty (0, 0))) : w.setCell ⟨g, 4, none⟩ (.bool b) = w.setRow g (tC { t with aw := b }) := by
  rw [setCell_eq_setRow w g 4 _ ty (0, 0) _ h]; rfl
def shA : T := { shT with aw := true }
theorem shT_facts : chk shT = 0 ∧ dir shT = 4 ∧ bgd shT = 0 ∧ wks shT = true ∧ bgd shA = 4 ∧ chk shA = 0 := by decide +kernel
theorem stpL_shT : stpL shT = 2 := by
  have := stpL_eq (chk_ok shT_facts.1)
  have e : sh shT + wt shT = 2 := by decide +kernel
  omega

set_option maxRecDepth 100000 in
set_option maxHeartbeats 2000000 in
theorem awake_any (w : World) : Calls Try.prog 22 #[] w fun e w' => e = .returned (.bool true) ∧ Below w.heap.size w w' := by
  have HF := Lib.hid shT_facts
  have HW : Hid (wkL shT = true ∧ spL shT = 2) := ⟨by unfold wkL; rw [if_pos HF.out.1]; exact HF.out.2.2.2.1, by unfold spL; rw [if_pos HF.out.1, stpL_shT]; rfl⟩
  go_enter Try.func22, Try.ntmps22
  go_wp2_with fail
  refine (shown_any _).mono ?_
  rintro e w1 ⟨rfl, hb⟩
  have B1 := Lib.hid hb
  clear hb
  go_wp2_with (((with_reducible refine stTn ?a1 (.tmp 1) (.tmp 6) ?a2 shT ?a3 ?a4 ?a5 ?_); (case a1 => rfl); (case a2 => rfl); (case a3 => rfl); (case a4 => rfl); (case a5 => rfl)))
  have H1 : Hid ((w1.alloc (.cells (tC shT) 23)).heap[w1.heap.size]? = some (.cells (tC shT) 23 (0, 0)) ∧ Below w.heap.size w (w1.alloc (.cells (tC shT) 23))) := ⟨h1_0 _ _, balloc B1.out _⟩
  have hgw := B1.out.size
  refine (pWakes_any shT _ (okS HF.out.1)).mono ?_
  generalize w1.heap.size = g at *
  generalize w1.alloc (.cells (tC shT) 23) = W1 at *
  rintro e w2 ⟨rfl, hb⟩
  rw [HW.out.1, HF.out.1]
  have H2 : Hid (w2.heap[g]? = some (.cells (tC shT) 23 (0, 0))) := bkeep hb H1.out.1
  have B2 : Hid (Below w.heap.size w w2) := btrans H1.out.2 hb
  clear hb H1 B1
  go_wp2_with (((with_reducible refine ldT ?c1 (.tmp 1) ?c2 g ?c3 shT 23 H2 ?_); (case c1 => rfl); (case c2 => rfl); (case c3 => rfl)))
  refine (pSteps_any shT _ (okS HF.out.1)).mono ?_
  rintro e w3 ⟨rfl, hb⟩
  rw [HW.out.2, HF.out.1]
  have H3 : Hid (w3.heap[g]? = some (.cells (tC shT) 23 (0, 0))) := bkeep hb H2.out
  have B3 : Hid (Below w.heap.size w w3) := btrans B2.out hb
  clear hb H2 B2
  have q4 : w3.cell? ⟨g, 4, none⟩ = some (.bool false) := setRow_cell H3.out rfl
  have f4 := fr (j := 4) H3.out
  go_wp2_with fail
  rw [set_aw true H3.out]
  refine (shown_any _).mono ?_
  have H4 : Hid ((w3.setRow g (tC { shT with aw := true })).heap[g]? = some (.cells (tC shA) 23 (0, 0))) := setRow_heap _ _ _ _ _ _ H3.out
  have B4 : Hid (Below w.heap.size w (w3.setRow g (tC { shT with aw := true }))) := below_setRow B3.out (by omega) _
  generalize w3.setRow g (tC { shT with aw := true }) = W4 at *
  clear q4 f4 H3 B3
  rintro e w5 ⟨rfl, hb⟩
  have H5 : Hid (w5.heap[g]? = some (.cells (tC shA) 23 (0, 0))) := bkeep hb H4.out
  have B5 : Hid (Below w.heap.size w w5) := btrans B4.out hb
  clear hb H4 B4
  go_wp2_with fail
  refine (direct_yes shT 4 _ HF.out.1 HF.out.2.1).mono ?_
  rintro e w6 ⟨rfl, hb⟩
  have H6 : Hid (w6.heap[g]? = some (.cells (tC shA) 23 (0, 0))) := bkeep hb H5.out
  have B6 : Hid (Below w.heap.size w w6) := btrans B5.out hb
  clear hb H5 B5
  go_wp2_with fail
  refine (shown_any _).mono ?_
  rintro e w7 ⟨rfl, hb⟩
  have H7 : Hid (w7.heap[g]? = some (.cells (tC shA) 23 (0, 0))) := bkeep hb H6.out
  have B7 : Hid (Below w.heap.size w w7) := btrans B6.out hb
  clear hb H6 B6
  go_wp2_with fail
  refine (back_yes shT 0 _ HF.out.1 HF.out.2.2.1).mono ?_
  rintro e w8 ⟨rfl, hb⟩
  have H8 : Hid (w8.heap[g]? = some (.cells (tC shA) 23 (0, 0))) := bkeep hb H7.out
  have B8 : Hid (Below w.heap.size w w8) := btrans B7.out hb
  clear hb H7 B7
  obtain ⟨q0, q1, q2, q3, q4, q5, q6, q7, q8, q9, q10, q11, q12, q13, q14⟩ := t15 H8.out
  go_wp2_with fail
  refine (back_yes shA 4 _ HF.out.2.2.2.2.2 HF.out.2.2.2.2.1).mono ?_
  rintro e w9 ⟨rfl, hb⟩
  have B9 : Hid (Below w.heap.size w w9) := btrans B8.out hb
  clear hb H8 B8 q0 q1 q2 q3 q4 q5 q6 q7 q8 q9 q10 q11 q12 q13 q14
  go_wp2_with fail
  go_ret
  exact ⟨rfl, B9.out⟩
end Go.Proofs.Ytfploaaelfjadaa
