/- Helper facts for the statements of this seat; no statement itself. -/
import Derived.Test.YtcicgccllhkolaaDoorD
namespace Go.Proofs.YtcicgccllhkolaaDoor
open Go.RowKit
set_option linter.unusedSimpArgs false
set_option linter.unusedVariables false
set_option linter.unnecessarySimpa false

theorem chk_ok {s r c : Int} (h : chk s r c = 0) : 1 ≤ s ∧ s ≤ 6 ∧ 0 ≤ r ∧ r ≤ 512 := by
  unfold chk leastR mostR at h
  repeat' split at h
  all_goals omega
theorem evk_ok {k p : Int} (h : evk k p = 0) : 1 ≤ k ∧ k ≤ 6 := by
  unfold evk at h
  split at h <;> omega
theorem psb_eq (s r k : Int) (hr : 0 ≤ r) (hk1 : 1 ≤ k) (hk2 : k ≤ 6) : psb s r k = if msk s k = true then 9 else if cnt s r k = true then 0 else 15 := by
  rcases six hk1 hk2 with rfl | rfl | rfl | rfl | rfl | rfl <;> simp only [psb, msk, cnt] <;> simp <;> (repeat' split) <;> omega

/-- The error of an event of a valid page, and the page after it. -/
def nE (s r k p : Int) : Int := if evk k p = 0 then psb s r k else evk k p
def nS (s r k p : Int) : Int := if nE s r k p = 0 then aS s r k else 0
def nR (s r k p : Int) : Int := if nE s r k p = 0 then aR s r k else 0
def nC (s r c k p : Int) : Int := if nE s r k p = 0 then aC s c k p else 0

theorem next_any (s r c k p : Int) (w : World) (hv : chk s r c = 0) :
    Calls Tryd.prog 33 #[WV s r c, EV k p] w fun e w' => e = .returned (.tuple #[WV (nS s r k p) (nR s r k p) (nC s r c k p), .int .i64 (nE s r k p)]) ∧ Below w.heap.size w w' := by
  obtain ⟨hs1, hs2, hr, hr2⟩ := chk_ok hv
  by_cases he : evk k p = 0
  · obtain ⟨hk1, hk2⟩ := evk_ok he
    have hp := psb_eq s r k hr hk1 hk2
    by_cases hm : msk s k = true
    · have e9 : nE s r k p = 9 := by unfold nE; rw [if_pos he, hp, if_pos hm]
      unfold nS nR nC
      rw [e9]
      exact next_state s r c k p w he hs1 hs2 hk1 hk2 hm
    · have hm' : msk s k = false := by simpa using hm
      by_cases hc : cnt s r k = true
      · have e0 : nE s r k p = 0 := by unfold nE; rw [if_pos he, hp, if_neg hm, if_pos hc]
        unfold nS nR nC
        rw [e0]
        exact next_ok s r c k p w he hs1 hs2 hk1 hk2 hr hr2 hm' hc
      · have hc' : cnt s r k = false := by simpa using hc
        have e15 : nE s r k p = 15 := by unfold nE; rw [if_pos he, hp, if_neg hm, if_neg hc]
        unfold nS nR nC
        rw [e15]
        exact next_count s r c k p w he hs1 hs2 hk1 hk2 hm' hc'
  · have ee : nE s r k p = evk k p := by unfold nE; rw [if_neg he]
    unfold nS nR nC
    rw [ee, if_neg he, if_neg he, if_neg he]
    exact next_bad s r c k p w he

end Go.Proofs.YtcicgccllhkolaaDoor
