/- Helper facts for the statements of this seat; no statement itself. -/
import Derived.Test.YtfploaaelfjadaaS
import Derived.Test.YtfploaaelfjadaaMA
import Derived.Outline
namespace Go.Proofs.Ytfploaaelfjadaa
open Go.RowKit
set_option linter.unusedSimpArgs false
set_option linter.unusedVariables false
set_option linter.unnecessarySimpa false

theorem back_law {t : T} (h : Ok t) : (bgd t = 0 ∨ bgd t = 1 ∨ bgd t = 2 ∨ bgd t = 3 ∨ bgd t = 4) ∧ (t.aw = false → bgd t = 0) ∧ (bgd t = 4 → dir t = 4) ∧ (bgd t = 1 → dir t = 1) := by
  unfold bgd dir
  refine ⟨?_, ?_, ?_, ?_⟩
  · repeat' split
    all_goals omega
  · intro e; rw [if_pos e]
  · intro e
    revert e
    repeat' split
    all_goals first | (intro e; omega) | (intro e; simp_all; done) | trace_state
  · intro e
    revert e
    repeat' split
    all_goals first | (intro e; omega) | (intro e; simp_all; done) | trace_state

set_option maxRecDepth 100000 in
set_option maxHeartbeats 2000000 in
theorem reclaimBackground_walk (ad : Option Addr) (n cap : Nat) (w : World) (hn : n ≤ 9223372036854775807) (hl : SomeInts w ad n) : Calls Try.prog 8 #[.slice ad n cap] w fun e w' => e = .returned (.bool true) ∧ Below w.heap.size w w' := by
  have HL := Lib.hid hl
  clear hl
  go_enter Try.func8, Try.ntmps8
  go_wp2_with fail
  refine (reclaimKnown_walk _).mono ?_
  rintro e w1 ⟨rfl, hb⟩
  have L1 := Lib.hid (HL.out.keep hb)
  have B1 := Lib.hid hb
  clear hb HL
  go_wp2_with fail
  refine (made_any ad n cap _ hn L1.out).mono ?_
  rintro e w2 ⟨t, hm, rfl, hb⟩
  have HM := Lib.hid hm
  have B2 := Lib.hid (btrans B1.out hb)
  clear hb hm L1 B1
  have HE : Hid (chk t = 0 ∧ bgL t = bgd t ∧ drL t = dir t ∧ W64 t) := by
    have e := ok_chk HM.out.1
    exact ⟨e, if_pos e, if_pos e, w64_of HM.out.1⟩
  have H2 : Hid ((w2.alloc (.cells (tC t) 23)).heap[w2.heap.size]? = some (.cells (tC t) 23 (0, 0))) := h1_0 _ _
  go_wp2_with (first | ((with_reducible refine stTn ?a1 (.tmp 4) (.tmp 11) ?a2 t ?a3 ?a4 ?a5 ?_); (case a1 => rfl); (case a2 => rfl); (case a3 => rfl); (case a4 => rfl); (case a5 => rfl)) | ((with_reducible refine ldT ?b1 (.tmp 4) ?b2 w2.heap.size ?b3 t 23 H2 ?_); (case b1 => rfl); (case b2 => rfl); (case b3 => rfl)))
  refine (pBack_any t _ HE.out.2.2.2).mono ?_
  rintro e w3 ⟨rfl, hb⟩
  rw [HE.out.1, HE.out.2.1]
  have H3 : Hid (w3.heap[w2.heap.size]? = some (.cells (tC t) 23 (0, 0))) := bkeep hb H2.out
  have B3 := Lib.hid (btrans (balloc B2.out _) hb)
  clear hb H2 B2
  go_wp2_with (((with_reducible refine ldT ?c1 (.tmp 4) ?c2 w2.heap.size ?c3 t 23 H3 ?_); (case c1 => rfl); (case c2 => rfl); (case c3 => rfl)))
  refine (pDirect_any t _ HE.out.2.2.2).mono ?_
  rintro e w4 ⟨rfl, hb⟩
  rw [HE.out.1, HE.out.2.2.1]
  have H4 : Hid (w4.heap[w2.heap.size]? = some (.cells (tC t) 23 (0, 0))) := bkeep hb H3.out
  have B4 := Lib.hid (btrans B3.out hb)
  have q4 : w4.cell? ⟨w2.heap.size, 4, none⟩ = some (.bool t.aw) := setRow_cell H4.out rfl
  clear hb H3 B3
  obtain ⟨k1, k2, k3, k4⟩ := back_law HM.out.1
  generalize t.aw = aw at *
  generalize bgd t = b at *
  generalize dir t = d at *
  clear HE
  have e5 : (b == 5) = false := by rw [beq_eq_false_iff_ne]; omega
  have e6 : (b == 6) = false := by rw [beq_eq_false_iff_ne]; omega
  by_cases h4 : b = 4
  · obtain rfl := k3 h4
    subst h4
    cases aw with
    | false => exact absurd (k2 rfl) (by omega)
    | true =>
      clear k1 k2 k3 k4
      go_wp2_with fail
      go_ret
      exact ⟨rfl, B4.out⟩
  · by_cases h1 : b = 1
    · obtain rfl := k4 h1
      subst h1
      cases aw with
      | false => exact absurd (k2 rfl) (by omega)
      | true =>
        clear k1 k2 k3 k4
        go_wp2_with fail
        go_ret
        exact ⟨rfl, B4.out⟩
    · have n4 : (b != 4) = true := by rw [bne_iff_ne]; exact h4
      have n1 : (b != 1) = true := by rw [bne_iff_ne]; exact h1
      cases aw with
      | false =>
        obtain rfl := k2 rfl
        clear k1 k2 k3 k4 h4 h1
        go_wp2_with fail
        go_ret
        exact ⟨rfl, B4.out⟩
      | true =>
        clear k1 k2 k3 k4 h4 h1
        go_wp2_with fail
        go_ret
        exact ⟨rfl, B4.out⟩
end Go.Proofs.Ytfploaaelfjadaa
