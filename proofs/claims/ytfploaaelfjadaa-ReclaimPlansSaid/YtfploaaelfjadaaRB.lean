/- Helper facts for the statements of this seat; no statement itself. -/
import Derived.Test.YtfploaaelfjadaaRA
import Derived.Outline
namespace Go.Proofs.Ytfploaaelfjadaa
open Go.RowKit
set_option linter.unusedSimpArgs false
set_option linter.unusedVariables false
set_option linter.unnecessarySimpa false

set_option maxRecDepth 100000 in
set_option maxHeartbeats 1000000 in
theorem rplan_bad1 (t : T) (n : Int) (w : World) (hc : chk t ≠ 0) : Calls Try.prog 26 #[TV t, .int .i64 n] w (Planned t n w) := by
  have HE : Hid (plE t n = chk t ∧ plL t n = []) := ⟨by unfold plE; rw [if_neg hc], by unfold plL; rw [if_neg (fun h => hc h.1)]⟩
  have hz : (chk t != 0) = true := by simpa using hc
  clear hc
  go_enter Try.func26, Try.ntmps26
  go_wp2_with fail
  refine (refCheck_any t _).mono ?_
  rintro e w1 ⟨rfl, hb⟩
  have H1 := Lib.hid (bfirst _ _ hb).2
  clear hb
  go_wp2_with fail
  go_ret2
  exact ⟨_, by rw [HE.out.1]; rfl, by rw [HE.out.2]; exact IsInts.nil _ _ _, H1.out⟩
set_option maxRecDepth 100000 in
set_option maxHeartbeats 1000000 in
theorem rplan_bad2 (t : T) (n : Int) (w : World) (hc : chk t = 0) (hn : ¬ (0 ≤ n ∧ n ≤ 1000)) : Calls Try.prog 26 #[TV t, .int .i64 n] w (Planned t n w) := by
  have HE : Hid (plE t n = 2 ∧ plL t n = []) := ⟨by unfold plE; rw [if_pos hc, if_neg hn], by unfold plL; rw [if_neg (fun h => hn h.2)]⟩
  have HC := Lib.hid hc
  clear hc
  have hn2 : n < 0 ∨ (0 ≤ n ∧ 1000 < n) := by omega
  clear hn
  rcases hn2 with hn2 | ⟨hn1, hn2⟩
  all_goals
    go_enter Try.func26, Try.ntmps26
    go_wp2_with fail
    refine (refCheck_any t _).mono ?_
    rintro e w1 ⟨rfl, hb⟩
    rw [HC.out]
    have H1 := Lib.hid (bfirst _ _ hb).2
    clear hb
    go_wp2_with fail
    go_ret2
    exact ⟨_, by rw [HE.out.1]; rfl, by rw [HE.out.2]; exact IsInts.nil _ _ _, H1.out⟩
theorem rPlan_any (t : T) (n : Int) (w : World) : Calls Try.prog 26 #[TV t, .int .i64 n] w (Planned t n w) := by
  by_cases hc : chk t = 0
  · by_cases hn : 0 ≤ n ∧ n ≤ 1000
    · obtain ⟨N, rfl⟩ := Int.eq_ofNat_of_zero_le hn.1
      exact rplan_good t N w hc (by omega)
    · exact rplan_bad2 t n w hc hn
  · exact rplan_bad1 t n w hc

set_option maxRecDepth 100000 in
set_option maxHeartbeats 2000000 in
theorem rSteps_any (t : T) (w : World) : Calls Try.prog 28 #[TV t] w fun e w' => e = .returned (.tuple #[.int .i64 (spL t), .int .i64 (chk t)]) ∧ Below w.heap.size w w' := by
  by_cases hc : chk t = 0
  · have HE : Hid (plE t 1000 = 0 ∧ plL t 1000 = planL t 1000) := ⟨by unfold plE; rw [if_pos hc, if_pos (by omega)], by unfold plL; rw [if_pos ⟨hc, by omega⟩]; rfl⟩
    have HS : Hid (spL t = (((planL t 1000).takeWhile goes).length : Int)) := if_pos hc
    have HC := Lib.hid hc
    clear hc
    rw [HC.out, HS.out]
    have HL := Lib.hid (planL_len t 1000)
    generalize planL t 1000 = l at *
    go_enter Try.func28, Try.ntmps28
    go_wp2_with fail
    refine (rPlan_any t 1000 _).mono ?_
    rintro e w1 ⟨v, rfl, hi, hb⟩
    rw [HE.out.1]
    rw [HE.out.2] at hi
    have B1 := Lib.hid (bfirst _ _ hb).2
    clear hb
    obtain ⟨ad, len, cap, rfl, rfl, _, hcell⟩ := hi
    have HCELL := Lib.hid hcell
    clear hcell
    have h1000 : l.length ≤ 1000 := HL.out
    go_wp2_with fail
    go_loopw [6] (fun i wr => ∃ k : Nat, k ≤ l.length ∧ i = .int .i64 k ∧ Hid (∀ j, j < k → goes (l.getD j 5) = true) ∧ wr = w1) (fun i _ => l.length - (intOf i).toNat)
    case atStart => exact ⟨0, by omega, rfl, fun j hj => by omega, rfl⟩
    case round =>
      obtain ⟨k, hk, rfl, hp, rfl⟩ := hrel
      by_cases hlt : k < l.length
      · rcases HCELL.out with h0 | ⟨b, off, rfl, hcc⟩
        · rw [h0] at hlt; simp at hlt
        have c0 := hcc k hlt
        have e0 : l.getD k 0 = l.getD k 5 := by simp [List.getD, hlt]
        rw [e0] at c0
        have HX : Hid (goes (l.getD k 5) = true → ∀ j, j < k + 1 → goes (l.getD j 5) = true) := fun h j hj => by
          by_cases e : j = k
          · subst e; exact h
          · exact hp.out j (by omega)
        have HF : Hid (goes (l.getD k 5) = false → (l.takeWhile goes).length = k) := fun h => takeWhile_stop hp.out (by omega) (.inr h)
        clear hcc HCELL e0
        generalize l.getD k 5 = x at *
        have i1 : (0 : Int) ≤ (k : Int) := by omega
        have i2 : (k : Int) < (l.length : Int) := by omega
        by_cases h5 : x = 5
        · have HF2 := Lib.hid (HF.out (by rw [h5]; rfl))
          have n5 : (x != 5) = false := by rw [h5]; rfl
          clear h5 HF HX
          go_wp2_with fail
          go_ret2
          exact ⟨by rw [HF2.out]; rfl, B1.out⟩
        · have n5 : (x != 5) = true := by simpa using h5
          by_cases h6 : x = 6
          · have HF2 := Lib.hid (HF.out (by rw [h6]; rfl))
            have n6 : (x != 6) = false := by rw [h6]; rfl
            clear h5 h6 HF HX
            go_wp2_with fail
            go_ret2
            exact ⟨by rw [HF2.out]; rfl, B1.out⟩
          · have n6 : (x != 6) = true := by simpa using h6
            have HX2 := Lib.hid (HX.out (by unfold goes; rw [n5, n6]; rfl))
            clear h5 h6 HF HX
            go_wp2_with fail
            go_roundw
            case rel => exact ⟨k + 1, by omega, by go_num, HX2, by first | rfl | trivial⟩
            case measure => simp [intOf]; omega
      · have hle : l.length ≤ k := by omega
        have HF2 : Hid ((l.takeWhile goes).length = k) := takeWhile_stop hp.out (by omega) (.inl (by omega))
        go_wp2_with fail
        go_ret2
        exact ⟨by rw [HF2.out]; rfl, B1.out⟩
  · have HE : Hid (plE t 1000 = chk t ∧ spL t = 0) := ⟨by unfold plE; rw [if_neg hc], if_neg hc⟩
    have hz : (chk t != 0) = true := by simpa using hc
    clear hc
    rw [HE.out.2]
    go_enter Try.func28, Try.ntmps28
    go_wp2_with fail
    refine (rPlan_any t 1000 _).mono ?_
    rintro e w1 ⟨v, rfl, hi, hb⟩
    rw [HE.out.1]
    have B1 := Lib.hid (bfirst _ _ hb).2
    clear hb hi
    go_wp2_with fail
    go_ret2
    exact ⟨rfl, B1.out⟩
end Go.Proofs.Ytfploaaelfjadaa
