/- Helper facts for the statements of this seat; no statement itself. -/
import Derived.Test.YtcicgccllhkolaaDoorF
namespace Go.Proofs.YtcicgccllhkolaaDoor
open Go.RowKit
set_option linter.unusedSimpArgs false
set_option linter.unusedVariables false
set_option linter.unnecessarySimpa false

/-- The role of the frame, and whether the slot is free, busy. -/
def roleR (s r c : Int) : Int := if chk s r c = 0 then (if s = 1 ∨ s = 5 then 4 else if s = 2 ∨ s = 3 then 5 else 0) else 0
def freeR (s r c : Int) : Bool := decide (chk s r c = 0) && (decide (s = 1) || decide (s = 6) || (!decide (s = 2) && !decide (s = 3) && decide (r = 0)))
def busyR (s r c : Int) : Bool := decide (chk s r c = 0) && (decide (s = 2) || decide (s = 3))

set_option maxHeartbeats 1000000 in
theorem role_any (s r c : Int) (w : World) :
    Calls Tryd.prog 10 #[WV s r c] w fun e w' => e = .returned (.tuple #[.int .i64 (roleR s r c), .int .i64 (chk s r c)]) ∧ Below w.heap.size w w' := by
  by_cases hv : chk s r c = 0
  · have HR : Hid (roleR s r c = if s = 1 ∨ s = 5 then 4 else if s = 2 ∨ s = 3 then 5 else 0) := by show _ = _; unfold roleR; rw [if_pos hv]
    have HV := Lib.hid hv
    clear hv
    go_enter Tryd.func10, Tryd.ntmps10
    go_wp2_with fail
    refine (check_any s r c _).mono ?_
    rintro e w1 ⟨rfl, hb⟩
    rw [HV.out]
    obtain ⟨g0, b0⟩ := bfirst _ _ hb
    obtain ⟨q0, q1, q2⟩ := wcells g0
    have B1 := Lib.hid b0
    clear hb g0 b0
    go_wp2
    all_goals
      go_ret2
      refine ⟨?_, B1.out⟩
      rw [HR.out, HV.out]
      refine ret2_int ?_
      (try simp only [beq_iff_eq, beq_eq_false_iff_ne, bne_iff_ne, bne_eq_false_iff_eq, ne_eq] at *)
      repeat' split
      all_goals first | rfl | omega
  · have HR : Hid (roleR s r c = 0) := by show _ = _; unfold roleR; rw [if_neg hv]
    have h' : (chk s r c != 0) = true := by simpa using hv
    clear hv
    go_enter Tryd.func10, Tryd.ntmps10
    go_wp2_with fail
    refine (check_any s r c _).mono ?_
    rintro e w1 ⟨rfl, hb⟩
    have B1 := Lib.hid (bfirst _ _ hb)
    clear hb
    go_wp2
    go_ret2
    exact ⟨by rw [HR.out]; rfl, B1.out.2⟩

set_option maxHeartbeats 1000000 in
theorem rrole_any (s r c : Int) (w : World) :
    Calls Tryd.prog 23 #[WV s r c] w fun e w' => e = .returned (.tuple #[.int .i64 (roleR s r c), .int .i64 (chk s r c)]) ∧ Below w.heap.size w w' := by
  by_cases hv : chk s r c = 0
  · have HR : Hid (roleR s r c = if s = 1 ∨ s = 5 then 4 else if s = 2 ∨ s = 3 then 5 else 0) := by show _ = _; unfold roleR; rw [if_pos hv]
    have HV := Lib.hid hv
    clear hv
    go_enter Tryd.func23, Tryd.ntmps23
    go_wp2_with fail
    refine (rcheck_any s r c _).mono ?_
    rintro e w1 ⟨rfl, hb⟩
    rw [HV.out]
    obtain ⟨g0, b0⟩ := bfirst _ _ hb
    obtain ⟨q0, q1, q2⟩ := wcells g0
    have B1 := Lib.hid b0
    clear hb g0 b0
    go_wp2
    all_goals
      go_ret2
      refine ⟨?_, B1.out⟩
      rw [HR.out, HV.out]
      refine ret2_int ?_
      (try simp only [beq_iff_eq, beq_eq_false_iff_ne, bne_iff_ne, bne_eq_false_iff_eq, ne_eq] at *)
      repeat' split
      all_goals first | rfl | omega
  · have HR : Hid (roleR s r c = 0) := by show _ = _; unfold roleR; rw [if_neg hv]
    have h' : (chk s r c != 0) = true := by simpa using hv
    clear hv
    go_enter Tryd.func23, Tryd.ntmps23
    go_wp2_with fail
    refine (rcheck_any s r c _).mono ?_
    rintro e w1 ⟨rfl, hb⟩
    have B1 := Lib.hid (bfirst _ _ hb)
    clear hb
    go_wp2
    go_ret2
    exact ⟨by rw [HR.out]; rfl, B1.out.2⟩

end Go.Proofs.YtcicgccllhkolaaDoor
