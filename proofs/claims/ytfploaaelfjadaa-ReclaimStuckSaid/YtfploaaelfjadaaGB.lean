/- Helper facts for the statements of this seat; no statement itself. -/
import Derived.Test.YtfploaaelfjadaaC
import Derived.Test.YtfploaaelfjadaaD
import Derived.Test.YtfploaaelfjadaaF
import Derived.Outline
namespace Go.Proofs.Ytfploaaelfjadaa
open Go.RowKit
set_option linter.unusedSimpArgs false
set_option linter.unusedVariables false
set_option linter.unnecessarySimpa false


set_option maxRecDepth 100000 in
set_option maxHeartbeats 1000000 in
theorem pDirect_bad (t : T) (w : World) (h : W64 t) (hc : chk t ≠ 0) : Calls Try.prog 9 #[TV t] w fun e w' => e = .returned (.tuple #[.int .i64 (drL t), .int .i64 (chk t)]) ∧ Below w.heap.size w w' := by
  have hz : (chk t != 0) = true := by simpa using hc
  have HE : Hid (drL t = 0) := if_neg hc
  have HW := Lib.hid h
  clear h
  clear hc
  go_enter Try.func9, Try.ntmps9
  go_wp2_with fail
  refine (check_any t _ HW.out).mono ?_
  rintro e w1 ⟨rfl, hb⟩
  have B1 := Lib.hid (bfirst _ _ hb).2
  clear hb
  go_wp2_with fail
  go_ret2
  exact ⟨by rw [HE.out]; rfl, B1.out⟩
set_option maxRecDepth 100000 in
set_option maxHeartbeats 1000000 in
theorem pDirect_any (t : T) (w : World) (h : W64 t) : Calls Try.prog 9 #[TV t] w fun e w' => e = .returned (.tuple #[.int .i64 (drL t), .int .i64 (chk t)]) ∧ Below w.heap.size w w' := by
  by_cases hc : chk t = 0
  case neg => exact pDirect_bad t w h hc
  have HE : Hid (drL t = dir t) := if_pos hc
  have HC := Lib.hid hc
  have HW := Lib.hid h
  clear h
  clear hc
  rw [HC.out, HE.out]
  go_enter Try.func9, Try.ntmps9
  go_wp2_with fail
  refine (check_any t _ HW.out).mono ?_
  rintro e w1 ⟨rfl, hb⟩
  rw [HC.out]
  have B1 := Lib.hid (bfirst _ _ hb)
  obtain ⟨q0, q1, q2, q3, q4, q5, q6, q7, q8, q9, q10, q11, q12, q13, q14⟩ := t15 B1.out.1
  clear hb
  go_wp2_with fail
  refine (direct_any t _).mono ?_
  rintro e w2 ⟨rfl, hb⟩
  have B2 := Lib.hid (btrans B1.out.2 hb)
  clear hb
  go_wp2_with fail
  go_ret2
  exact ⟨rfl, B2.out⟩

set_option maxRecDepth 100000 in
set_option maxHeartbeats 1000000 in
theorem pBack_bad (t : T) (w : World) (h : W64 t) (hc : chk t ≠ 0) : Calls Try.prog 13 #[TV t] w fun e w' => e = .returned (.tuple #[.int .i64 (bgL t), .int .i64 (chk t)]) ∧ Below w.heap.size w w' := by
  have hz : (chk t != 0) = true := by simpa using hc
  have HE : Hid (bgL t = 0) := if_neg hc
  have HW := Lib.hid h
  clear h
  clear hc
  go_enter Try.func13, Try.ntmps13
  go_wp2_with fail
  refine (check_any t _ HW.out).mono ?_
  rintro e w1 ⟨rfl, hb⟩
  have B1 := Lib.hid (bfirst _ _ hb).2
  clear hb
  go_wp2_with fail
  go_ret2
  exact ⟨by rw [HE.out]; rfl, B1.out⟩
set_option maxRecDepth 100000 in
set_option maxHeartbeats 1000000 in
theorem pBack_any (t : T) (w : World) (h : W64 t) : Calls Try.prog 13 #[TV t] w fun e w' => e = .returned (.tuple #[.int .i64 (bgL t), .int .i64 (chk t)]) ∧ Below w.heap.size w w' := by
  by_cases hc : chk t = 0
  case neg => exact pBack_bad t w h hc
  have HE : Hid (bgL t = bgd t) := if_pos hc
  have HC := Lib.hid hc
  have HW := Lib.hid h
  clear h
  clear hc
  rw [HC.out, HE.out]
  go_enter Try.func13, Try.ntmps13
  go_wp2_with fail
  refine (check_any t _ HW.out).mono ?_
  rintro e w1 ⟨rfl, hb⟩
  rw [HC.out]
  have B1 := Lib.hid (bfirst _ _ hb)
  obtain ⟨q0, q1, q2, q3, q4, q5, q6, q7, q8, q9, q10, q11, q12, q13, q14⟩ := t15 B1.out.1
  clear hb
  go_wp2_with fail
  refine (background_any t _).mono ?_
  rintro e w2 ⟨rfl, hb⟩
  have B2 := Lib.hid (btrans B1.out.2 hb)
  clear hb
  go_wp2_with fail
  go_ret2
  exact ⟨rfl, B2.out⟩
end Go.Proofs.Ytfploaaelfjadaa
