/- Helper facts for the statements of this seat; no statement itself. -/
import Derived.Test.YtcicgccllhkolaaDoorG
namespace Go.Proofs.YtcicgccllhkolaaDoor
open Go.RowKit
set_option linter.unusedSimpArgs false
set_option linter.unusedVariables false
set_option linter.unnecessarySimpa false

theorem ret3_bb {a b a' b' : Bool} {x y : Int} (h1 : a = a') (h2 : b = b') (h3 : x = y) : Ending.returned (.tuple #[.bool a, .bool b, .int .i64 x]) = .returned (.tuple #[.bool a', .bool b', .int .i64 y]) := by rw [h1, h2, h3]

set_option maxHeartbeats 1000000 in
theorem slot_any (s r c : Int) (w : World) :
    Calls Tryd.prog 11 #[WV s r c] w fun e w' => e = .returned (.tuple #[.bool (freeR s r c), .bool (busyR s r c), .int .i64 (chk s r c)]) ∧ Below w.heap.size w w' := by
  by_cases hv : chk s r c = 0
  · have HV := Lib.hid hv
    clear hv
    go_enter Tryd.func11, Tryd.ntmps11
    go_wp2_with fail
    refine (check_any s r c _).mono ?_
    rintro e w1 ⟨rfl, hb⟩
    rw [HV.out]
    obtain ⟨g0, b0⟩ := bfirst _ _ hb
    obtain ⟨q0, q1, q2⟩ := wcells g0
    have B1 := Lib.hid b0
    clear hb g0 b0
    go_wp2
    all_goals
      go_ret3
      refine ⟨ret3_bb ?_ ?_ HV.out.symm, B1.out⟩
      all_goals
        first | unfold freeR | unfold busyR
        rw [HV.out]
        simp_all <;> (try (rw [Bool.eq_iff_iff]; simp))
  · have h' : (chk s r c != 0) = true := by simpa using hv
    have HF : Hid (freeR s r c = false ∧ busyR s r c = false) := ⟨by simp [freeR, hv], by simp [busyR, hv]⟩
    clear hv
    go_enter Tryd.func11, Tryd.ntmps11
    go_wp2_with fail
    refine (check_any s r c _).mono ?_
    rintro e w1 ⟨rfl, hb⟩
    have B1 := Lib.hid (bfirst _ _ hb)
    clear hb
    go_wp2
    go_ret3
    exact ⟨by rw [HF.out.1, HF.out.2]; rfl, B1.out.2⟩

set_option maxHeartbeats 1000000 in
theorem rslot_any (s r c : Int) (w : World) :
    Calls Tryd.prog 24 #[WV s r c] w fun e w' => e = .returned (.tuple #[.bool (freeR s r c), .bool (busyR s r c), .int .i64 (chk s r c)]) ∧ Below w.heap.size w w' := by
  by_cases hv : chk s r c = 0
  · have HV := Lib.hid hv
    clear hv
    go_enter Tryd.func24, Tryd.ntmps24
    go_wp2_with fail
    refine (rcheck_any s r c _).mono ?_
    rintro e w1 ⟨rfl, hb⟩
    rw [HV.out]
    obtain ⟨g0, b0⟩ := bfirst _ _ hb
    obtain ⟨q0, q1, q2⟩ := wcells g0
    have B1 := Lib.hid b0
    clear hb g0 b0
    go_wp2
    all_goals
      go_ret3
      refine ⟨ret3_bb ?_ ?_ HV.out.symm, B1.out⟩
      all_goals
        first | unfold freeR | unfold busyR
        rw [HV.out]
        simp_all <;> (try (rw [Bool.eq_iff_iff]; simp))
  · have h' : (chk s r c != 0) = true := by simpa using hv
    have HF : Hid (freeR s r c = false ∧ busyR s r c = false) := ⟨by simp [freeR, hv], by simp [busyR, hv]⟩
    clear hv
    go_enter Tryd.func24, Tryd.ntmps24
    go_wp2_with fail
    refine (rcheck_any s r c _).mono ?_
    rintro e w1 ⟨rfl, hb⟩
    have B1 := Lib.hid (bfirst _ _ hb)
    clear hb
    go_wp2
    go_ret3
    exact ⟨by rw [HF.out.1, HF.out.2]; rfl, B1.out.2⟩

end Go.Proofs.YtcicgccllhkolaaDoor
