/- Helper facts for the statements of this seat; no statement itself. -/
import Derived.Test.YtfploaaelfjadaaGA
import Derived.Test.YtfploaaelfjadaaGB
import Derived.Outline
namespace Go.Proofs.Ytfploaaelfjadaa
open Go.RowKit
set_option linter.unusedSimpArgs false
set_option linter.unusedVariables false
set_option linter.unnecessarySimpa false


set_option maxRecDepth 100000 in
set_option maxHeartbeats 1000000 in
theorem pHind_bad (t : T) (w : World) (h : W64 t) (hc : chk t ≠ 0) : Calls Try.prog 15 #[TV t] w fun e w' => ∃ v, e = .returned (.tuple #[v, .int .i64 (chk t)]) ∧ IsInts w' v (hnL t) ∧ Below w.heap.size w w' := by
  have hz : (chk t != 0) = true := by simpa using hc
  have HE : Hid (hnL t = []) := if_neg hc
  have HW := Lib.hid h
  clear h
  clear hc
  go_enter Try.func15, Try.ntmps15
  go_wp2_with fail
  refine (check_any t _ HW.out).mono ?_
  rintro e w1 ⟨rfl, hb⟩
  have B1 := Lib.hid (bfirst _ _ hb).2
  clear hb
  go_wp2_with fail
  go_ret2
  exact ⟨_, rfl, by rw [HE.out]; exact IsInts.nil _ _ _, B1.out⟩
set_option maxRecDepth 100000 in
set_option maxHeartbeats 1000000 in
theorem pHind_any (t : T) (w : World) (h : W64 t) : Calls Try.prog 15 #[TV t] w fun e w' => ∃ v, e = .returned (.tuple #[v, .int .i64 (chk t)]) ∧ IsInts w' v (hnL t) ∧ Below w.heap.size w w' := by
  by_cases hc : chk t = 0
  case neg => exact pHind_bad t w h hc
  have HE : Hid (hnL t = hnd t) := if_pos hc
  have HC := Lib.hid hc
  have HW := Lib.hid h
  clear h hc
  rw [HC.out, HE.out]
  go_enter Try.func15, Try.ntmps15
  go_wp2_with fail
  refine (check_any t _ HW.out).mono ?_
  rintro e w1 ⟨rfl, hb⟩
  rw [HC.out]
  have B1 := Lib.hid (bfirst _ _ hb)
  obtain ⟨q0, q1, q2, q3, q4, q5, q6, q7, q8, q9, q10, q11, q12, q13, q14⟩ := t15 B1.out.1
  clear hb
  go_wp2_with fail
  refine (hinders_any t _).mono ?_
  rintro e w2 ⟨v, rfl, hi, hb⟩
  have HI := Lib.hid hi
  have B2 := Lib.hid (btrans B1.out.2 hb)
  clear hb hi
  go_wp2_with fail
  go_ret2
  exact ⟨_, rfl, HI.out, B2.out⟩

set_option maxRecDepth 100000 in
set_option maxHeartbeats 1000000 in
theorem rHind_bad (t : T) (w : World) (hc : chk t ≠ 0) : Calls Try.prog 16 #[TV t] w fun e w' => ∃ v, e = .returned (.tuple #[v, .int .i64 (chk t)]) ∧ IsInts w' v (hnL t) ∧ Below w.heap.size w w' := by
  have hz : (chk t != 0) = true := by simpa using hc
  have HE : Hid (hnL t = []) := if_neg hc
  clear hc
  go_enter Try.func16, Try.ntmps16
  go_wp2_with fail
  refine (refCheck_any t _).mono ?_
  rintro e w1 ⟨rfl, hb⟩
  have B1 := Lib.hid (bfirst _ _ hb).2
  clear hb
  go_wp2_with fail
  go_ret2
  exact ⟨_, rfl, by rw [HE.out]; exact IsInts.nil _ _ _, B1.out⟩
theorem rHind_any (t : T) (w : World) : Calls Try.prog 16 #[TV t] w fun e w' => ∃ v, e = .returned (.tuple #[v, .int .i64 (chk t)]) ∧ IsInts w' v (hnL t) ∧ Below w.heap.size w w' := by
  by_cases hc : chk t = 0
  case neg => exact rHind_bad t w hc
  have HE : hnL t = hnd t := if_pos hc
  rw [hc, HE]
  exact refHinders_ok t w hc
set_option maxRecDepth 100000 in
set_option maxHeartbeats 1000000 in
theorem pStuck_any (t : T) (w : World) (h : W64 t) : Calls Try.prog 20 #[TV t] w fun e w' => e = .returned (.tuple #[.bool (skL t), .int .i64 (chk t)]) ∧ Below w.heap.size w w' := by
  have HW := Lib.hid h
  clear h
  by_cases hc : chk t = 0
  · have HC := Lib.hid hc
    have HE : Hid (skL t = (dir t == 6)) := if_pos hc
    have HD : Hid (drL t = dir t) := if_pos hc
    clear hc
    rw [HC.out, HE.out]
    go_enter Try.func20, Try.ntmps20
    go_wp2_with fail
    refine (pDirect_any t _ HW.out).mono ?_
    rintro e w1 ⟨rfl, hb⟩
    rw [HC.out, HD.out]
    have B1 := Lib.hid (bfirst _ _ hb).2
    clear hb
    go_wp2_with fail
    go_ret2
    exact ⟨rfl, B1.out⟩
  · have hz : (chk t != 0) = true := by simpa using hc
    have hz2 : (chk t == 0) = false := by simpa using hc
    have HE : Hid (skL t = false) := if_neg hc
    clear hc
    rw [HE.out]
    go_enter Try.func20, Try.ntmps20
    go_wp2_with fail
    refine (pDirect_any t _ HW.out).mono ?_
    rintro e w1 ⟨rfl, hb⟩
    have B1 := Lib.hid (bfirst _ _ hb).2
    clear hb
    go_wp2_with fail
    go_ret2
    exact ⟨rfl, B1.out⟩
set_option maxRecDepth 100000 in
set_option maxHeartbeats 1000000 in
theorem rStuck_any (t : T) (w : World) : Calls Try.prog 21 #[TV t] w fun e w' => e = .returned (.tuple #[.bool (skL t), .int .i64 (chk t)]) ∧ Below w.heap.size w w' := by
  by_cases hc : chk t = 0
  · have HC := Lib.hid hc
    have HE : Hid (skL t = (dir t == 6)) := if_pos hc
    have HD : Hid (drL t = dir t) := if_pos hc
    clear hc
    rw [HC.out, HE.out]
    go_enter Try.func21, Try.ntmps21
    go_wp2_with fail
    refine (rDirect_any t _).mono ?_
    rintro e w1 ⟨rfl, hb⟩
    rw [HC.out, HD.out]
    have B1 := Lib.hid (bfirst _ _ hb).2
    clear hb
    go_wp2_with fail
    go_ret2
    exact ⟨rfl, B1.out⟩
  · have hz : (chk t != 0) = true := by simpa using hc
    have hz2 : (chk t == 0) = false := by simpa using hc
    have HE : Hid (skL t = false) := if_neg hc
    clear hc
    rw [HE.out]
    go_enter Try.func21, Try.ntmps21
    go_wp2_with fail
    refine (rDirect_any t _).mono ?_
    rintro e w1 ⟨rfl, hb⟩
    have B1 := Lib.hid (bfirst _ _ hb).2
    clear hb
    go_wp2_with fail
    go_ret2
    exact ⟨rfl, B1.out⟩

set_option maxRecDepth 100000 in
set_option maxHeartbeats 1000000 in
theorem rBack_bad (t : T) (w : World) (hc : chk t ≠ 0) : Calls Try.prog 14 #[TV t] w fun e w' => e = .returned (.tuple #[.int .i64 (bgL t), .int .i64 (chk t)]) ∧ Below w.heap.size w w' := by
  have hz : (chk t != 0) = true := by simpa using hc
  have HE : Hid (bgL t = 0) := if_neg hc
  clear hc
  go_enter Try.func14, Try.ntmps14
  go_wp2_with fail
  refine (refCheck_any t _).mono ?_
  rintro e w1 ⟨rfl, hb⟩
  have B1 := Lib.hid (bfirst _ _ hb).2
  clear hb
  go_wp2_with fail
  go_ret2
  exact ⟨by rw [HE.out]; rfl, B1.out⟩
set_option maxRecDepth 100000 in
set_option maxHeartbeats 2000000 in
theorem rBack_any (t : T) (w : World) : Calls Try.prog 14 #[TV t] w fun e w' => e = .returned (.tuple #[.int .i64 (bgL t), .int .i64 (chk t)]) ∧ Below w.heap.size w w' := by
  by_cases hc : chk t = 0
  case neg => exact rBack_bad t w hc
  have HE : Hid (bgL t = bgd t) := if_pos hc
  have HC := Lib.hid hc
  clear hc
  rw [HC.out, HE.out]
  have HM := Lib.hid (fun w => refMay_ok t w HC.out)
  have HK := Lib.hid (fun w => refCheck_any t w)
  rw [HC.out] at HK
  have HD : Hid (bgd t = if t.aw = false then 0 else if 0 < t.ob then 1 else if (decide (t.ia < t.tg) && decide (0 < t.ac)) = true then 2 else if (decide (0 < t.ia) && t.rf) = true then 3 else if (decide (0 < t.ia) && mayB t) = true then 4 else 0) := rfl
  generalize bgd t = d at *
  generalize mayB t = m at *
  clear HE HC
  have HT15 : Hid (∀ (w : World) (g : Nat), w.heap[g]? = some (.cells (tC t) 23 (0, 0)) → _) := fun w g => t15 (w := w) (g := g) (ty := 23) (t := t)
  obtain ⟨fr, mn, lo, hi, aw, ob, ac, ia, tg, rf, wr, cp, op, rm, sl⟩ := t
  cases aw <;> cases rf
  all_goals
    go_enter Try.func14, Try.ntmps14
    go_wp2_with fail
    refine (HK.out _).mono ?_
    rintro e w1 ⟨rfl, hb⟩
    have B1 := Lib.hid (bfirst _ _ hb)
    obtain ⟨q0, q1, q2, q3, q4, q5, q6, q7, q8, q9, q10, q11, q12, q13, q14⟩ := HT15.out _ _ B1.out.1
    clear hb HT15
    go_wp2_with (((with_reducible refine (HM.out w1).mono ?_); rintro e w2 ⟨rfl, hb⟩; have B2 := Lib.hid (btrans B1.out.2 hb); clear hb; cases m))
    all_goals
      go_ret2
      refine ⟨?_, by first | exact B2.out | exact B1.out.2⟩
      show Ending.returned (.tuple #[.int .i64 _, .int .i64 0]) = _
      congr 4
      rw [HD.out]
      clear q0 q1 q2 q3 q4 q5 q6 q7 q8 q9 q10 q11 q12 q13 q14 HD HM HK
      first | rfl | (simp [*]; done) | (simp_all; done) | (simp_all; omega) | trace_state
end Go.Proofs.Ytfploaaelfjadaa
