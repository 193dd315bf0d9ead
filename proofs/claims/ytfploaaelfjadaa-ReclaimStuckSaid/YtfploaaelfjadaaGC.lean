/- Helper facts for the statements of this seat; no statement itself. -/
import Derived.Test.YtfploaaelfjadaaD
import Derived.Test.YtfploaaelfjadaaF
import Derived.Outline
namespace Go.Proofs.Ytfploaaelfjadaa
open Go.RowKit
set_option linter.unusedSimpArgs false
set_option linter.unusedVariables false
set_option linter.unnecessarySimpa false


set_option maxRecDepth 100000 in
set_option maxHeartbeats 1000000 in
theorem pWakes_bad (t : T) (w : World) (h : W64 t) (hc : chk t ≠ 0) : Calls Try.prog 18 #[TV t] w fun e w' => e = .returned (.tuple #[.bool (wkL t), .int .i64 (chk t)]) ∧ Below w.heap.size w w' := by
  have hz : (chk t != 0) = true := by simpa using hc
  have HE : Hid (wkL t = false) := if_neg hc
  have HW := Lib.hid h
  clear h
  clear hc
  go_enter Try.func18, Try.ntmps18
  go_wp2_with fail
  refine (check_any t _ HW.out).mono ?_
  rintro e w1 ⟨rfl, hb⟩
  have B1 := Lib.hid (bfirst _ _ hb).2
  clear hb
  go_wp2_with fail
  go_ret2
  exact ⟨by rw [HE.out]; rfl, B1.out⟩
set_option maxRecDepth 100000 in
set_option maxHeartbeats 1000000 in
theorem pWakes_any (t : T) (w : World) (h : W64 t) : Calls Try.prog 18 #[TV t] w fun e w' => e = .returned (.tuple #[.bool (wkL t), .int .i64 (chk t)]) ∧ Below w.heap.size w w' := by
  by_cases hc : chk t = 0
  case neg => exact pWakes_bad t w h hc
  have HE : Hid (wkL t = wks t) := if_pos hc
  have HC := Lib.hid hc
  have HW := Lib.hid h
  clear h
  clear hc
  rw [HC.out, HE.out]
  go_enter Try.func18, Try.ntmps18
  go_wp2_with fail
  refine (check_any t _ HW.out).mono ?_
  rintro e w1 ⟨rfl, hb⟩
  rw [HC.out]
  have B1 := Lib.hid (bfirst _ _ hb)
  obtain ⟨q0, q1, q2, q3, q4, q5, q6, q7, q8, q9, q10, q11, q12, q13, q14⟩ := t15 B1.out.1
  clear hb
  go_wp2_with fail
  all_goals
    go_ret2
    refine ⟨?_, B1.out.2⟩
    show Ending.returned (.tuple #[.bool _, .int .i64 0]) = _
    congr 4
    unfold wks
    clear q0 q1 q2 q3 q4 q5 q6 q7 q8 q9 q10 q11 q12 q13 q14
    first | (rw [decide_eq_false (show ¬ t.fr < t.hi by omega), Bool.false_and, Bool.or_false]; done) | (simp [*]; done) | trace_state

set_option maxRecDepth 100000 in
set_option maxHeartbeats 1000000 in
theorem rWakes_bad (t : T) (w : World) (hc : chk t ≠ 0) : Calls Try.prog 19 #[TV t] w fun e w' => e = .returned (.tuple #[.bool (wkL t), .int .i64 (chk t)]) ∧ Below w.heap.size w w' := by
  have hz : (chk t != 0) = true := by simpa using hc
  have HE : Hid (wkL t = false) := if_neg hc
  clear hc
  go_enter Try.func19, Try.ntmps19
  go_wp2_with fail
  refine (refCheck_any t _).mono ?_
  rintro e w1 ⟨rfl, hb⟩
  have B1 := Lib.hid (bfirst _ _ hb).2
  clear hb
  go_wp2_with fail
  go_ret2
  exact ⟨by rw [HE.out]; rfl, B1.out⟩
set_option maxRecDepth 100000 in
set_option maxHeartbeats 1000000 in
theorem rWakes_any (t : T) (w : World) : Calls Try.prog 19 #[TV t] w fun e w' => e = .returned (.tuple #[.bool (wkL t), .int .i64 (chk t)]) ∧ Below w.heap.size w w' := by
  by_cases hc : chk t = 0
  case neg => exact rWakes_bad t w hc
  have HE : Hid (wkL t = wks t) := if_pos hc
  have HC := Lib.hid hc
  clear hc
  rw [HC.out, HE.out]
  go_enter Try.func19, Try.ntmps19
  go_wp2_with fail
  refine (refCheck_any t _).mono ?_
  rintro e w1 ⟨rfl, hb⟩
  rw [HC.out]
  have B1 := Lib.hid (bfirst _ _ hb)
  obtain ⟨q0, q1, q2, q3, q4, q5, q6, q7, q8, q9, q10, q11, q12, q13, q14⟩ := t15 B1.out.1
  clear hb
  go_wp2_with fail
  all_goals
    go_ret2
    refine ⟨?_, B1.out.2⟩
    show Ending.returned (.tuple #[.bool _, .int .i64 0]) = _
    congr 4
    unfold wks
    clear q0 q1 q2 q3 q4 q5 q6 q7 q8 q9 q10 q11 q12 q13 q14
    first | (rw [decide_eq_false (show ¬ t.fr < t.hi by omega), Bool.false_and, Bool.or_false]; done) | (simp [*]; done) | trace_state
end Go.Proofs.Ytfploaaelfjadaa
