/- Helper facts for the statements of this seat; no statement itself. -/
import Derived.Test.YtfploaaelfjadaaF
import Derived.Outline
namespace Go.Proofs.Ytfploaaelfjadaa
open Go.RowKit
set_option linter.unusedSimpArgs false
set_option linter.unusedVariables false
set_option linter.unnecessarySimpa false


set_option maxHeartbeats 1000000 in
theorem refMay_ok (t : T) (w : World) (hc : chk t = 0) : Calls Try.prog 39 #[TV t] w fun e w' => e = .returned (.bool (mayB t)) ∧ Below w.heap.size w w' := by
  rw [← hnd_may t]
  have hl := hnd_len t
  have HC := Lib.hid hc
  clear hc
  go_enter Try.func39, Try.ntmps39
  go_wp2_with fail
  refine (refHinders_ok t _ HC.out).mono ?_
  rintro e w1 ⟨v, rfl, hi, hb⟩
  obtain ⟨a, len, cap, rfl, rfl, _, _⟩ := hi
  have B1 := Lib.hid (bfirst _ _ hb).2
  clear hb
  go_wp2_with fail
  go_ret
  exact ⟨rfl, B1.out⟩
set_option maxHeartbeats 1000000 in
theorem refDir_ok (t : T) (w : World) (hc : chk t = 0) : Calls Try.prog 36 #[TV t] w fun e w' => e = .returned (.int .i64 (dir t)) ∧ Below w.heap.size w w' := by
  have HC := Lib.hid hc
  clear hc
  by_cases h1 : 0 < t.ob
  · have HD : Hid (dir t = 1) := if_pos h1
    go_enter Try.func36, Try.ntmps36
    go_wp2_with fail
    go_ret
    exact ⟨by rw [HD.out]; rfl, ((Below.refl _ _).alloc (Nat.le_refl _) _)⟩
  · have HM := Lib.hid (refMay_ok t)
    have HD : Hid (dir t = if mayB t = true then 4 else if (decide (0 < t.wr) || decide (0 < t.op)) = true then 5 else 6) := if_neg h1
    generalize dir t = d at *
    generalize mayB t = m at *
    cases m with
    | true =>
      have HD2 : Hid (d = 4) := HD.out.trans (if_pos rfl)
      clear HD
      go_enter Try.func36, Try.ntmps36
      go_wp2_with fail
      refine (HM.out _ HC.out).mono ?_
      rintro e w1 ⟨rfl, hb⟩
      have B1 := Lib.hid (bfirst _ _ hb).2
      clear hb
      go_wp2_with fail
      go_ret
      exact ⟨by rw [HD2.out]; rfl, B1.out⟩
    | false =>
      have HD2 : Hid (d = if (decide (0 < t.wr) || decide (0 < t.op)) = true then 5 else 6) := HD.out.trans (if_neg (by decide))
      clear HD
      go_enter Try.func36, Try.ntmps36
      go_wp2_with fail
      refine (HM.out _ HC.out).mono ?_
      rintro e w1 ⟨rfl, hb⟩
      have B1 := Lib.hid (bfirst _ _ hb)
      obtain ⟨q0, q1, q2, q3, q4, q5, q6, q7, q8, q9, q10, q11, q12, q13, q14⟩ := t15 B1.out.1
      clear hb
      go_wp2_with fail
      all_goals
        go_ret
        refine ⟨ret_int ?_, B1.out.2⟩
        rw [HD2.out]
        clear HD2
        first | (rw [if_pos (by simp; omega)]; done) | (rw [if_neg (by simp; omega)]; done) | trace_state

set_option maxRecDepth 100000 in
set_option maxHeartbeats 1000000 in
theorem rDirect_bad (t : T) (w : World) (hc : chk t ≠ 0) : Calls Try.prog 10 #[TV t] w fun e w' => e = .returned (.tuple #[.int .i64 (drL t), .int .i64 (chk t)]) ∧ Below w.heap.size w w' := by
  have hz : (chk t != 0) = true := by simpa using hc
  have HE : Hid (drL t = 0) := if_neg hc
  clear hc
  go_enter Try.func10, Try.ntmps10
  go_wp2_with fail
  refine (refCheck_any t _).mono ?_
  rintro e w1 ⟨rfl, hb⟩
  have B1 := Lib.hid (bfirst _ _ hb).2
  clear hb
  go_wp2_with fail
  go_ret2
  exact ⟨by rw [HE.out]; rfl, B1.out⟩
set_option maxRecDepth 100000 in
set_option maxHeartbeats 1000000 in
theorem rDirect_any (t : T) (w : World) : Calls Try.prog 10 #[TV t] w fun e w' => e = .returned (.tuple #[.int .i64 (drL t), .int .i64 (chk t)]) ∧ Below w.heap.size w w' := by
  by_cases hc : chk t = 0
  case neg => exact rDirect_bad t w hc
  have HE : Hid (drL t = dir t) := if_pos hc
  have HC := Lib.hid hc
  clear hc
  rw [HC.out, HE.out]
  go_enter Try.func10, Try.ntmps10
  go_wp2_with fail
  refine (refCheck_any t _).mono ?_
  rintro e w1 ⟨rfl, hb⟩
  rw [HC.out]
  have B1 := Lib.hid (bfirst _ _ hb)
  obtain ⟨q0, q1, q2, q3, q4, q5, q6, q7, q8, q9, q10, q11, q12, q13, q14⟩ := t15 B1.out.1
  clear hb
  go_wp2_with fail
  refine (refDir_ok t _ HC.out).mono ?_
  rintro e w2 ⟨rfl, hb⟩
  have B2 := Lib.hid (btrans B1.out.2 hb)
  clear hb
  go_wp2_with fail
  go_ret2
  exact ⟨rfl, B2.out⟩
end Go.Proofs.Ytfploaaelfjadaa
