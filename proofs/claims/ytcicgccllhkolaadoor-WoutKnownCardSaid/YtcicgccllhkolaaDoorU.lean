/- Helper facts for the statements of this seat; no statement itself. -/
import Derived.Test.YtcicgccllhkolaaDoorT
namespace Go.Proofs.YtcicgccllhkolaaDoor
open Go.RowKit
set_option linter.unusedSimpArgs false
set_option linter.unusedVariables false
set_option linter.unnecessarySimpa false

theorem chk_cases {s r c : Int} (h : chk s r c = 0) :
    (s = 1 ∧ c = 0 ∧ 1 ≤ r ∧ r ≤ 512) ∨ (s = 2 ∧ c = 0 ∧ r = 0) ∨ (s = 2 ∧ c = 0 ∧ 1 ≤ r ∧ r ≤ 512) ∨ (s = 3 ∧ 1 ≤ c ∧ c ≤ 8 ∧ 1 ≤ r ∧ r ≤ 512) ∨ (s = 4 ∧ c = 0 ∧ 1 ≤ r ∧ r ≤ 512) ∨ (s = 5 ∧ c = 0 ∧ r = 0) ∨ (s = 5 ∧ c = 0 ∧ 1 ≤ r ∧ r ≤ 512) ∨ (s = 6 ∧ c = 0 ∧ r = 0) := by
  obtain ⟨hs1, hs2, hr, hr2⟩ := chk_ok h
  rcases six hs1 hs2 with rfl | rfl | rfl | rfl | rfl | rfl <;> simp [chk, leastR, mostR] at h ⊢ <;> (repeat' split at h) <;> omega

set_option maxHeartbeats 4000000 in
theorem woutOne_walk (m : Int) (a : Option Addr) (n cap : Nat) (w : World) (hc : CL w) (hn : n ≤ 9223372036854775807)
    (hl : n = 0 ∨ ∃ bb off, ∃ zs : List Int, a = some ⟨bb, off, none⟩ ∧ ∀ k, k < n → w.cell? ⟨bb, off + k, none⟩ = some (.int .i64 (zs.getD k 0))) :
    Calls Tryd.prog 8 #[.int .i64 m, .slice a n cap] w fun e w' => e = .returned (.bool true) ∧ Below w.heap.size w w' := by
  have HC := Lib.hid hc
  have HL := Lib.hid hl
  clear hc hl
  go_enter Tryd.func8, Tryd.ntmps8
  go_wp2_with fail
  refine (made_walk m a n cap _ hn HL.out).mono ?_
  rintro e w1 ⟨s, r, c, hv, rfl, hb⟩
  have HV := Lib.hid hv
  have B1 := Lib.hid hb
  have hh := Lib.hid (HB.push (L := []) (W := w1) trivial (pgC s r c) 23)
  obtain ⟨w2, hw2⟩ : ∃ x, x = w1.alloc (.cells (pgC s r c) 23) := ⟨_, rfl⟩
  have B2 : Hid (Below w.heap.size w w2) := by rw [hw2]; exact balloc B1.out _
  rw [← hw2] at hh
  clear hb HL
  rcases chk_cases hv with ⟨rfl, rfl, h1, h2⟩ | ⟨rfl, rfl, rfl⟩ | ⟨rfl, rfl, h1, h2⟩ | ⟨rfl, h3, h4, h1, h2⟩ | ⟨rfl, rfl, h1, h2⟩ | ⟨rfl, rfl, rfl⟩ | ⟨rfl, rfl, h1, h2⟩ | ⟨rfl, rfl, rfl⟩
  · have hR : Hid (roleR 1 r 0 = 4) := by show _ = _; unfold roleR; rw [if_pos hv]; simp
    have hF : Hid (freeR 1 r 0 = true) := by show _ = _; unfold freeR; rw [hv]; simp
    have hB : Hid (busyR 1 r 0 = false) := by show _ = _; unfold busyR; rw [hv]; simp
    clear hv
    have r0 : 0 < r := by omega
    go_wp2_with fail
    rw [← hw2]
    obtain ⟨q0, q1, q2⟩ := c3 hh.out.1
    clear hw2
    refine (role_any 1 r 0 _).mono ?_
    rintro e w3 ⟨rfl, hb⟩
    have h3x := Lib.hid (hh.out.keep hb)
    have B3 := Lib.hid (btrans B2.out hb)
    clear hb q0 q1 q2
    obtain ⟨q0, q1, q2⟩ := c3 h3x.out.1
    rw [HV.out, hR.out]
    go_wp2_with fail
    refine (slot_any 1 r 0 _).mono ?_
    rintro e w4 ⟨rfl, hb⟩
    have h4x := Lib.hid (h3x.out.keep hb)
    have B4 := Lib.hid (btrans B3.out hb)
    clear hb q0 q1 q2
    obtain ⟨q0, q1, q2⟩ := c3 h4x.out.1
    rw [HV.out, hF.out, hB.out]
    go_wp2_with fail
    refine (awake_cl _ (HC.out.below B4.out)).mono ?_
    rintro e w5 ⟨rfl, hb⟩
    have B5 := Lib.hid (btrans B4.out hb)
    clear hb q0 q1 q2
    go_wp2_with fail
    go_ret
    exact ⟨rfl, B5.out⟩
  · have hR : Hid (roleR 2 0 0 = 5) := by show _ = _; unfold roleR; rw [if_pos hv]; simp
    have hF : Hid (freeR 2 0 0 = false) := by show _ = _; unfold freeR; rw [hv]; simp
    have hB : Hid (busyR 2 0 0 = true) := by show _ = _; unfold busyR; rw [hv]; simp
    clear hv
    skip
    go_wp2_with fail
    rw [← hw2]
    obtain ⟨q0, q1, q2⟩ := c3 hh.out.1
    clear hw2
    refine (role_any 2 0 0 _).mono ?_
    rintro e w3 ⟨rfl, hb⟩
    have h3x := Lib.hid (hh.out.keep hb)
    have B3 := Lib.hid (btrans B2.out hb)
    clear hb q0 q1 q2
    obtain ⟨q0, q1, q2⟩ := c3 h3x.out.1
    rw [HV.out, hR.out]
    go_wp2_with fail
    refine (slot_any 2 0 0 _).mono ?_
    rintro e w4 ⟨rfl, hb⟩
    have h4x := Lib.hid (h3x.out.keep hb)
    have B4 := Lib.hid (btrans B3.out hb)
    clear hb q0 q1 q2
    obtain ⟨q0, q1, q2⟩ := c3 h4x.out.1
    rw [HV.out, hF.out, hB.out]
    go_wp2_with fail
    refine (awake_cl _ (HC.out.below B4.out)).mono ?_
    rintro e w5 ⟨rfl, hb⟩
    have B5 := Lib.hid (btrans B4.out hb)
    clear hb q0 q1 q2
    go_wp2_with fail
    go_ret
    exact ⟨rfl, B5.out⟩
  · have hR : Hid (roleR 2 r 0 = 5) := by show _ = _; unfold roleR; rw [if_pos hv]; simp
    have hF : Hid (freeR 2 r 0 = false) := by show _ = _; unfold freeR; rw [hv]; simp
    have hB : Hid (busyR 2 r 0 = true) := by show _ = _; unfold busyR; rw [hv]; simp
    clear hv
    have r0 : 0 < r := by omega
    go_wp2_with fail
    rw [← hw2]
    obtain ⟨q0, q1, q2⟩ := c3 hh.out.1
    clear hw2
    refine (role_any 2 r 0 _).mono ?_
    rintro e w3 ⟨rfl, hb⟩
    have h3x := Lib.hid (hh.out.keep hb)
    have B3 := Lib.hid (btrans B2.out hb)
    clear hb q0 q1 q2
    obtain ⟨q0, q1, q2⟩ := c3 h3x.out.1
    rw [HV.out, hR.out]
    go_wp2_with fail
    refine (slot_any 2 r 0 _).mono ?_
    rintro e w4 ⟨rfl, hb⟩
    have h4x := Lib.hid (h3x.out.keep hb)
    have B4 := Lib.hid (btrans B3.out hb)
    clear hb q0 q1 q2
    obtain ⟨q0, q1, q2⟩ := c3 h4x.out.1
    rw [HV.out, hF.out, hB.out]
    go_wp2_with fail
    refine (awake_cl _ (HC.out.below B4.out)).mono ?_
    rintro e w5 ⟨rfl, hb⟩
    have B5 := Lib.hid (btrans B4.out hb)
    clear hb q0 q1 q2
    go_wp2_with fail
    go_ret
    exact ⟨rfl, B5.out⟩
  · have hR : Hid (roleR 3 r c = 5) := by show _ = _; unfold roleR; rw [if_pos hv]; simp
    have hF : Hid (freeR 3 r c = false) := by show _ = _; unfold freeR; rw [hv]; simp
    have hB : Hid (busyR 3 r c = true) := by show _ = _; unfold busyR; rw [hv]; simp
    clear hv
    have r0 : 0 < r := by omega
    go_wp2_with fail
    rw [← hw2]
    obtain ⟨q0, q1, q2⟩ := c3 hh.out.1
    clear hw2
    refine (role_any 3 r c _).mono ?_
    rintro e w3 ⟨rfl, hb⟩
    have h3x := Lib.hid (hh.out.keep hb)
    have B3 := Lib.hid (btrans B2.out hb)
    clear hb q0 q1 q2
    obtain ⟨q0, q1, q2⟩ := c3 h3x.out.1
    rw [HV.out, hR.out]
    go_wp2_with fail
    refine (slot_any 3 r c _).mono ?_
    rintro e w4 ⟨rfl, hb⟩
    have h4x := Lib.hid (h3x.out.keep hb)
    have B4 := Lib.hid (btrans B3.out hb)
    clear hb q0 q1 q2
    obtain ⟨q0, q1, q2⟩ := c3 h4x.out.1
    rw [HV.out, hF.out, hB.out]
    go_wp2_with fail
    refine (awake_cl _ (HC.out.below B4.out)).mono ?_
    rintro e w5 ⟨rfl, hb⟩
    have B5 := Lib.hid (btrans B4.out hb)
    clear hb q0 q1 q2
    go_wp2_with fail
    go_ret
    exact ⟨rfl, B5.out⟩
  · have hR : Hid (roleR 4 r 0 = 0) := by show _ = _; unfold roleR; rw [if_pos hv]; simp
    have hF : Hid (freeR 4 r 0 = false) := by show _ = _; unfold freeR; rw [hv]; simp; omega
    have hB : Hid (busyR 4 r 0 = false) := by show _ = _; unfold busyR; rw [hv]; simp
    clear hv
    have r0 : 0 < r := by omega
    go_wp2_with fail
    rw [← hw2]
    obtain ⟨q0, q1, q2⟩ := c3 hh.out.1
    clear hw2
    refine (role_any 4 r 0 _).mono ?_
    rintro e w3 ⟨rfl, hb⟩
    have h3x := Lib.hid (hh.out.keep hb)
    have B3 := Lib.hid (btrans B2.out hb)
    clear hb q0 q1 q2
    obtain ⟨q0, q1, q2⟩ := c3 h3x.out.1
    rw [HV.out, hR.out]
    go_wp2_with fail
    refine (slot_any 4 r 0 _).mono ?_
    rintro e w4 ⟨rfl, hb⟩
    have h4x := Lib.hid (h3x.out.keep hb)
    have B4 := Lib.hid (btrans B3.out hb)
    clear hb q0 q1 q2
    obtain ⟨q0, q1, q2⟩ := c3 h4x.out.1
    rw [HV.out, hF.out, hB.out]
    go_wp2_with fail
    refine (awake_cl _ (HC.out.below B4.out)).mono ?_
    rintro e w5 ⟨rfl, hb⟩
    have B5 := Lib.hid (btrans B4.out hb)
    clear hb q0 q1 q2
    go_wp2_with fail
    go_ret
    exact ⟨rfl, B5.out⟩
  · have hR : Hid (roleR 5 0 0 = 4) := by show _ = _; unfold roleR; rw [if_pos hv]; simp
    have hF : Hid (freeR 5 0 0 = true) := by show _ = _; unfold freeR; rw [hv]; simp
    have hB : Hid (busyR 5 0 0 = false) := by show _ = _; unfold busyR; rw [hv]; simp
    clear hv
    skip
    go_wp2_with fail
    rw [← hw2]
    obtain ⟨q0, q1, q2⟩ := c3 hh.out.1
    clear hw2
    refine (role_any 5 0 0 _).mono ?_
    rintro e w3 ⟨rfl, hb⟩
    have h3x := Lib.hid (hh.out.keep hb)
    have B3 := Lib.hid (btrans B2.out hb)
    clear hb q0 q1 q2
    obtain ⟨q0, q1, q2⟩ := c3 h3x.out.1
    rw [HV.out, hR.out]
    go_wp2_with fail
    refine (slot_any 5 0 0 _).mono ?_
    rintro e w4 ⟨rfl, hb⟩
    have h4x := Lib.hid (h3x.out.keep hb)
    have B4 := Lib.hid (btrans B3.out hb)
    clear hb q0 q1 q2
    obtain ⟨q0, q1, q2⟩ := c3 h4x.out.1
    rw [HV.out, hF.out, hB.out]
    go_wp2_with fail
    refine (awake_cl _ (HC.out.below B4.out)).mono ?_
    rintro e w5 ⟨rfl, hb⟩
    have B5 := Lib.hid (btrans B4.out hb)
    clear hb q0 q1 q2
    go_wp2_with fail
    go_ret
    exact ⟨rfl, B5.out⟩
  · have hR : Hid (roleR 5 r 0 = 4) := by show _ = _; unfold roleR; rw [if_pos hv]; simp
    have hF : Hid (freeR 5 r 0 = false) := by show _ = _; unfold freeR; rw [hv]; simp; omega
    have hB : Hid (busyR 5 r 0 = false) := by show _ = _; unfold busyR; rw [hv]; simp
    clear hv
    have r0 : 0 < r := by omega
    go_wp2_with fail
    rw [← hw2]
    obtain ⟨q0, q1, q2⟩ := c3 hh.out.1
    clear hw2
    refine (role_any 5 r 0 _).mono ?_
    rintro e w3 ⟨rfl, hb⟩
    have h3x := Lib.hid (hh.out.keep hb)
    have B3 := Lib.hid (btrans B2.out hb)
    clear hb q0 q1 q2
    obtain ⟨q0, q1, q2⟩ := c3 h3x.out.1
    rw [HV.out, hR.out]
    go_wp2_with fail
    refine (slot_any 5 r 0 _).mono ?_
    rintro e w4 ⟨rfl, hb⟩
    have h4x := Lib.hid (h3x.out.keep hb)
    have B4 := Lib.hid (btrans B3.out hb)
    clear hb q0 q1 q2
    obtain ⟨q0, q1, q2⟩ := c3 h4x.out.1
    rw [HV.out, hF.out, hB.out]
    go_wp2_with fail
    refine (awake_cl _ (HC.out.below B4.out)).mono ?_
    rintro e w5 ⟨rfl, hb⟩
    have B5 := Lib.hid (btrans B4.out hb)
    clear hb q0 q1 q2
    go_wp2_with fail
    go_ret
    exact ⟨rfl, B5.out⟩
  · have hR : Hid (roleR 6 0 0 = 0) := by show _ = _; unfold roleR; rw [if_pos hv]; simp
    have hF : Hid (freeR 6 0 0 = true) := by show _ = _; unfold freeR; rw [hv]; simp
    have hB : Hid (busyR 6 0 0 = false) := by show _ = _; unfold busyR; rw [hv]; simp
    clear hv
    skip
    go_wp2_with fail
    rw [← hw2]
    obtain ⟨q0, q1, q2⟩ := c3 hh.out.1
    clear hw2
    refine (role_any 6 0 0 _).mono ?_
    rintro e w3 ⟨rfl, hb⟩
    have h3x := Lib.hid (hh.out.keep hb)
    have B3 := Lib.hid (btrans B2.out hb)
    clear hb q0 q1 q2
    obtain ⟨q0, q1, q2⟩ := c3 h3x.out.1
    rw [HV.out, hR.out]
    go_wp2_with fail
    refine (slot_any 6 0 0 _).mono ?_
    rintro e w4 ⟨rfl, hb⟩
    have h4x := Lib.hid (h3x.out.keep hb)
    have B4 := Lib.hid (btrans B3.out hb)
    clear hb q0 q1 q2
    obtain ⟨q0, q1, q2⟩ := c3 h4x.out.1
    rw [HV.out, hF.out, hB.out]
    go_wp2_with fail
    refine (awake_cl _ (HC.out.below B4.out)).mono ?_
    rintro e w5 ⟨rfl, hb⟩
    have B5 := Lib.hid (btrans B4.out hb)
    clear hb q0 q1 q2
    go_wp2_with fail
    go_ret
    exact ⟨rfl, B5.out⟩
end Go.Proofs.YtcicgccllhkolaaDoor
