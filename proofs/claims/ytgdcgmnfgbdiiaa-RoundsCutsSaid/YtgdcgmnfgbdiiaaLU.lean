/- Helper facts for the statements of this seat; no statement itself. -/
import Derived.Test.YtgdcgmnfgbdiiaaRO
import Derived.Test.YtgdcgmnfgbdiiaaRA
import Derived.Test.YtgdcgmnfgbdiiaaLH
import Derived.Test.YtgdcgmnfgbdiiaaY
import Derived.Test.YtgdcgmnfgbdiiaaT
import Derived.Test.YtgdcgmnfgbdiiaaTK
import Derived.Test.YtgdcgmnfgbdiiaaOpenC
import Derived.Deep.RegionHeld3
import Derived.Deep.DeepCutAuto
import Derived.Outline
namespace Go.Proofs.Ytgdcgmnfgbdiiaa
open Go.RowKit
set_option linter.unusedSimpArgs false
set_option linter.unusedVariables false
set_option linter.unnecessarySimpa false

set_option maxRecDepth 100000 in
set_option maxHeartbeats 2000000 in
theorem rends_any (va vp vl : Value) (m : Mo) (l : List En) (w : World) (hm : IsM w va vp m) (hca : CapI va) (hcp : CapI vp) (hl : IsLog w vl l) : Calls Try.prog 35 #[.agg #[va, vp], vl] w (Ended m l w) := by
  obtain ⟨aa, na, ca, rfl⟩ := hm.1.slice
  obtain ⟨ap, np, cp, rfl⟩ := hm.2.slice
  have HM := Lib.hid hm
  have HL := Lib.hid hl
  have HCA := Lib.hid hca
  have HCP := Lib.hid hcp
  clear hm hl hca hcp
  by_cases hc : (vldL m l).1 = 0
  · have HC := Lib.hid hc
    have HE : Hid (enL m l = enN (st0 m) l l.length) := if_pos hc
    have HV := Lib.hid (vld_none hc)
    have HMO := Lib.hid (moS_st0 HV.out.1)
    clear hc
    go_enter Try.func35, Try.ntmps35
    go_wp2_with fail
    refine (rvalid_any _ _ _ m l _ (HM.out.keep ((Below.refl _ _).alloc (Nat.le_refl _) _)) HCA.out HCP.out (HL.out.keep ((Below.refl _ _).alloc (Nat.le_refl _) _))).mono ?_
    rintro e w1 ⟨rfl, hb⟩
    rw [HC.out]
    have X1 := Lib.hid (bfirst _ _ hb).1
    have B1 := Lib.hid (bfirst _ _ hb).2
    clear hb
    go_wp2_with (((with_reducible refine ld25 ?a1 (.tmp 2) ?a2 w.heap.size ?a3 _ _ 25 X1 ?_); (case a1 => rfl); (case a2 => rfl); (case a3 => rfl)))
    refine (rcut_any _ _ _ (st0 m) l _ (Wf_st0 m) (a0_st0 HV.out.1) ⟨by rw [HMO.out]; exact HM.out.keep B1.out, HCA.out, HCP.out⟩ (HL.out.keep B1.out) HV.out.2.2 HV.out.2.1).mono ?_
    rintro e w2 ⟨v, da, dp, rfl, hv, hs, hb⟩
    obtain ⟨a1, n1, e1, rfl⟩ := hs.1.1.slice
    obtain ⟨a2, n2, e2, rfl⟩ := hs.1.2.slice
    have B2 := Lib.hid (btrans B1.out hb)
    have HI := Lib.hid hv
    clear hb hv hs
    go_wp2_with fail
    go_ret2
    exact ⟨v, by rw [HC.out]; rfl, by rw [HE.out]; exact HI.out.keep ((Below.refl _ _).alloc (Nat.le_refl _) _), balloc B2.out _⟩
  · have HE : Hid (enL m l = []) := if_neg hc
    have hz : ((vldL m l).1 != 0) = true := by simpa using hc
    clear hc
    go_enter Try.func35, Try.ntmps35
    go_wp2_with fail
    refine (rvalid_any _ _ _ m l _ (HM.out.keep ((Below.refl _ _).alloc (Nat.le_refl _) _)) HCA.out HCP.out (HL.out.keep ((Below.refl _ _).alloc (Nat.le_refl _) _))).mono ?_
    rintro e w1 ⟨rfl, hb⟩
    have B1 := Lib.hid (bfirst _ _ hb).2
    clear hb
    go_wp2_with fail
    go_ret2
    exact ⟨_, rfl, by rw [HE.out]; exact IsInts.nil _ _ _, B1.out⟩

set_option maxRecDepth 100000 in
set_option maxHeartbeats 2000000 in
theorem rowing_any (va vp vl : Value) (m : Mo) (l : List En) (w : World) (hm : IsM w va vp m) (hca : CapI va) (hcp : CapI vp) (hl : IsLog w vl l) : Calls Try.prog 36 #[.agg #[va, vp], vl] w (Owing m l w) := by
  obtain ⟨aa, na, ca, rfl⟩ := hm.1.slice
  obtain ⟨ap, np, cp, rfl⟩ := hm.2.slice
  have HM := Lib.hid hm
  have HL := Lib.hid hl
  have HCA := Lib.hid hca
  have HCP := Lib.hid hcp
  clear hm hl hca hcp
  by_cases hc : (vldL m l).1 = 0
  · have HC := Lib.hid hc
    have HE : Hid (owA m l = idx (owN (st0 m) l l.length).a ∧ owB m l = idx (owN (st0 m) l l.length).s) := ⟨if_pos hc, if_pos hc⟩
    have HV := Lib.hid (vld_none hc)
    have HMO := Lib.hid (moS_st0 HV.out.1)
    clear hc
    go_enter Try.func36, Try.ntmps36
    go_wp2_with fail
    refine (rvalid_any _ _ _ m l _ (HM.out.keep ((Below.refl _ _).alloc (Nat.le_refl _) _)) HCA.out HCP.out (HL.out.keep ((Below.refl _ _).alloc (Nat.le_refl _) _))).mono ?_
    rintro e w1 ⟨rfl, hb⟩
    rw [HC.out]
    have X1 := Lib.hid (bfirst _ _ hb).1
    have B1 := Lib.hid (bfirst _ _ hb).2
    clear hb
    go_wp2_with (((with_reducible refine ld25 ?a1 (.tmp 2) ?a2 w.heap.size ?a3 _ _ 25 X1 ?_); (case a1 => rfl); (case a2 => rfl); (case a3 => rfl)))
    refine (rcut_any _ _ _ (st0 m) l _ (Wf_st0 m) (a0_st0 HV.out.1) ⟨by rw [HMO.out]; exact HM.out.keep B1.out, HCA.out, HCP.out⟩ (HL.out.keep B1.out) HV.out.2.2 HV.out.2.1).mono ?_
    rintro e w2 ⟨v, da, dp, rfl, hv, hs, hb⟩
    obtain ⟨a1, n1, e1, rfl⟩ := hs.1.1.slice
    obtain ⟨a2, n2, e2, rfl⟩ := hs.1.2.slice
    have B3 : Hid (Below w.heap.size w (w2.alloc (.cells #[.slice a1 n1 e1, .slice a2 n2 e2] 82))) := balloc (btrans B1.out hb) _
    have HS : Hid (IsS (w2.alloc (.cells #[.slice a1 n1 e1, .slice a2 n2 e2] 82)) (.slice a1 n1 e1) (.slice a2 n2 e2) (owN (st0 m) l l.length)) := hs.keep ((Below.refl _ _).alloc (Nat.le_refl _) _)
    have X3 : Hid ((w2.alloc (.cells #[.slice a1 n1 e1, .slice a2 n2 e2] 82)).heap[w2.heap.size]? = some (.cells #[.slice a1 n1 e1, .slice a2 n2 e2] 82 (0, 0))) := h1_0 _ _
    clear hb hv hs
    go_upto_region 5 with fail
    generalize w2.alloc (.cells #[.slice a1 n1 e1, .slice a2 n2 e2] 82) = w3 at *
    generalize w2.heap.size = g at *
    obtain ⟨q0, q1⟩ := c2 X3.out
    go_quiet (fail)
    go_wp2_with fail
    refine bodyPost_ret (v := .tuple #[.slice a1 n1 e1, .slice a2 n2 e2, .int .i64 0]) (results_tmp3 (fn := Try.f36) (t := 4) (u := 5) (v := 6) rfl _ _ _) rfl ⟨_, _, by rw [HC.out], ?_, ?_, bdrewN B3.out _⟩
    · rw [HE.out.1]; exact HS.out.1.1
    · rw [HE.out.2]; exact HS.out.1.2
  · have HE : Hid (owA m l = [] ∧ owB m l = []) := ⟨if_neg hc, if_neg hc⟩
    have hz : ((vldL m l).1 != 0) = true := by simpa using hc
    clear hc
    go_enter Try.func36, Try.ntmps36
    go_wp2_with fail
    refine (rvalid_any _ _ _ m l _ (HM.out.keep ((Below.refl _ _).alloc (Nat.le_refl _) _)) HCA.out HCP.out (HL.out.keep ((Below.refl _ _).alloc (Nat.le_refl _) _))).mono ?_
    rintro e w1 ⟨rfl, hb⟩
    have B1 := Lib.hid (bfirst _ _ hb).2
    clear hb
    go_wp2_with fail
    exact bodyPost_ret (v := .tuple #[.slice none 0 0, .slice none 0 0, .int .i64 (vldL m l).1]) (results_tmp3 (fn := Try.f36) (t := 4) (u := 5) (v := 6) rfl _ _ _) rfl ⟨_, _, rfl, by rw [HE.out.1]; exact IsInts.nil _ _ _, by rw [HE.out.2]; exact IsInts.nil _ _ _, B1.out⟩

set_option maxRecDepth 100000 in
set_option maxHeartbeats 2000000 in
theorem ris_any (va vp vl : Value) (m : Mo) (l : List En) (w : World) (hm : IsM w va vp m) (hca : CapI va) (hcp : CapI vp) (hl : IsLog w vl l) : Calls Try.prog 37 #[.agg #[va, vp], vl] w fun e w' => e = .returned (.tuple #[.bool (isB m l), .int .i64 (vldL m l).1]) ∧ Below w.heap.size w w' := by
  obtain ⟨aa, na, ca, rfl⟩ := hm.1.slice
  obtain ⟨ap, np, cp, rfl⟩ := hm.2.slice
  obtain ⟨al, nl, cl, rfl⟩ := hl.slice
  obtain ⟨rfl, hln⟩ := hl.len
  have HM := Lib.hid hm
  have HL := Lib.hid hl
  have HCA := Lib.hid hca
  have HCP := Lib.hid hcp
  have HI : Hid (isB m l = (decide ((vldL m l).1 = 0) && (decide ((enL m l).length = 1) && decide ((enL m l).getD 0 0 = (l.length : Int))))) := rfl
  clear hm hl hca hcp
  go_enter Try.func37, Try.ntmps37
  go_wp2_with fail
  refine (rends_any _ _ _ m l _ (HM.out.keep ((Below.refl _ _).alloc (Nat.le_refl _) _)) HCA.out HCP.out (HL.out.keep ((Below.refl _ _).alloc (Nat.le_refl _) _))).mono ?_
  rintro e w1 ⟨v, rfl, hv, hb⟩
  obtain ⟨av, nv, cv, rfl⟩ := hv.slice
  obtain ⟨rfl, hlv⟩ := hv.len
  have B1 := Lib.hid (bfirst _ _ hb).2
  have HV := Lib.hid hv
  clear hb hv
  by_cases h1 : (enL m l).length = 1
  · have hc : (vldL m l).1 = 0 := by
      by_cases hc : (vldL m l).1 = 0
      · exact hc
      · have e : enL m l = [] := if_neg hc
        rw [e] at h1; simp at h1
    obtain ⟨bb, off, rfl, c0⟩ := HV.out.at 0 (by omega)
    have HC := Lib.hid hc
    have HR : Hid (isB m l = ((enL m l).getD 0 0 == (l.length : Int))) := by rw [HI.out, HC.out]; simp only [h1, decide_true, Bool.true_and]; rfl
    simp only [Nat.add_zero] at c0
    rw [h1]
    generalize (enL m l).getD 0 0 = y at *
    clear HI hc
    go_wp2_with fail
    go_ret2
    exact ⟨by rw [HR.out]; rfl, B1.out⟩
  · have HR : Hid (isB m l = false) := by rw [HI.out]; simp [h1, Lib.hid]
    have h2 : (((enL m l).length : Int) == 1) = false := by simp; omega
    have h3 : (((enL m l).length : Int) = 1) = False := by simp; omega
    clear HI
    go_wp2_with fail
    go_ret2
    exact ⟨by rw [HR.out]; rfl, B1.out⟩

theorem stN_take (t : St) (l : List En) (n : Nat) (h : n ≤ l.length) : stN t (l.take n) n = stN t l n := by
  have := stN_app t (l.take n) (l.drop n) n (by simp; omega)
  rw [List.take_append_drop] at this
  exact this.symm
set_option maxRecDepth 100000 in
set_option maxHeartbeats 4000000 in
theorem rwithin_good (va vp vl : Value) (m : Mo) (l : List En) (f t : Nat) (w : World) (hm : IsM w va vp m) (hca : CapI va) (hcp : CapI vp) (hl : IsLog w vl l) (hlc : ∀ a n c, vl = .slice a n c → n ≤ c) (hc : (vldL m l).1 = 0) (h1 : f ≤ t) (h2 : t ≤ l.length) : Calls Try.prog 38 #[.agg #[va, vp], vl, .int .i64 f, .int .i64 t] w (Wit m l f t w) := by
  obtain ⟨aa, na, ca, rfl⟩ := hm.1.slice
  obtain ⟨ap, np, cp, rfl⟩ := hm.2.slice
  obtain ⟨al, nl, cl, rfl⟩ := hl.slice
  obtain ⟨rfl, hln⟩ := hl.len
  have hcl := hlc _ _ _ rfl
  have HM := Lib.hid hm
  have HL := Lib.hid hl
  have HCA := Lib.hid hca
  have HCP := Lib.hid hcp
  have HC := Lib.hid hc
  have HV := Lib.hid (vld_none hc)
  have HE : Hid (wiE m l f t = 0) := by show _ = _; unfold wiE; rw [if_pos hc, if_neg (by omega)]
  have HN : Hid (wiN m l f t = ((enN (stN (st0 m) l f) (subL l f t) (subL l f t).length).length : Int)) := by show _ = _; unfold wiN; rw [if_pos HE.out]; rfl
  have HV2 : Hid ((vldL m (l.take f)).1 = 0) := by
    show _ = _
    unfold vldL
    rw [if_pos HV.out.1, if_neg (by have := HV.out.2.1; simp; omega), vlF_ok (fun j hj => by rw [List.length_take] at hj; rw [erN_take _ _ _ _ (show f ≤ l.length by omega) (by omega)]; exact HV.out.2.2 j (by omega))]
  have HAF : Hid (afM m (l.take f) = moS (stN (st0 m) l f)) := by
    show _ = _
    unfold afM
    rw [if_pos HV2.out, List.length_take, Nat.min_eq_left (show f ≤ l.length by omega), stN_take _ _ _ (show f ≤ l.length by omega)]
    rfl
  have HWF := Lib.hid (Wf_stN (Wf_st0 m) l f)
  have HA0 : Hid ((stN (st0 m) l f).a.getD 0 false = false) := a0_stN (a0_st0 HV.out.1) f (fun j hj => HV.out.2.2 j (by omega))
  have HLE := Lib.hid (subL_len l f t h2)
  have HVS : Hid (∀ j, j < (subL l f t).length → erN (stN (st0 m) l f) (subL l f t) j = 0) := fun j hj => by
    rw [HLE.out] at hj
    rw [erN_sub _ _ _ _ _ (by omega)]
    exact HV.out.2.2 _ (by omega)
  have HL5 : Hid ((subL l f t).length ≤ 5000) := by show _ ≤ _; rw [HLE.out]; have := HV.out.2.1; omega
  have HSL : Hid (IsLog w (subV al cl f t) (subL l f t)) := HL.out.sub h1 h2 hcl
  have HTK : Hid (IsLog w (.slice al f cl) (l.take f)) := HL.out.take f (by omega)
  have i0 : (0 : Int) ≤ (f : Int) := by omega
  have i1 : (f : Int) ≤ (t : Int) := by omega
  have i2 : (t : Int) ≤ (l.length : Int) := by omega
  have i3 : (f : Int) ≤ (cl : Int) := by omega
  have i4 : (t : Int) ≤ (cl : Int) := by omega
  clear hm hl hca hcp hc hlc
  go_enter Try.func38, Try.ntmps38
  go_wp2_with fail
  refine (rvalid_any _ _ _ m l _ (HM.out.keep ((Below.refl _ _).alloc (Nat.le_refl _) _)) HCA.out HCP.out (HL.out.keep ((Below.refl _ _).alloc (Nat.le_refl _) _))).mono ?_
  rintro e w1 ⟨rfl, hb⟩
  rw [HC.out]
  have X1 := Lib.hid (bfirst _ _ hb).1
  have B1 := Lib.hid (bfirst _ _ hb).2
  clear hb
  have hgw : w.heap.size < w1.heap.size := lt_of_some X1.out
  go_upto_region 6 with fail
  go_cut [12] (fun s12 wx => ∃ h : Nat, s12 = .pointer (some ⟨h, 0, none⟩) ∧ Hid (AtS wx h 25 (stN (st0 m) l f)) ∧ Hid (Below w1.heap.size w1 wx))
  case first =>
    obtain ⟨q0, q1⟩ := c2 X1.out
    have MA : Hid (IsM (w1.drew.alloc (.cells #[.slice none 0 0, .slice none 0 0] 25)) (.slice aa na ca) (.slice ap np cp) m) := IsM.keep (w := w) HM.out (balloc (Below.drew B1.out) _)
    have LA : Hid (IsLog (w1.drew.alloc (.cells #[.slice none 0 0, .slice none 0 0] 25)) (.slice al f cl) (l.take f)) := IsLog.keep (w := w) HTK.out (balloc (Below.drew B1.out) _)
    have MB : Hid (IsM w1.drew (.slice aa na ca) (.slice ap np cp) m) := IsM.keep (w := w) HM.out (Below.drew B1.out)
    have LB : Hid (IsLog w1.drew (.slice al f cl) (l.take f)) := IsLog.keep (w := w) HTK.out (Below.drew B1.out)
    go_region_held3 (fun w' => w'.cell? ⟨w.heap.size, 0, none⟩ = some (.slice aa na ca) ∧ w'.cell? ⟨w.heap.size, 1, none⟩ = some (.slice ap np cp))
      (refine ⟨?_, ?_⟩ <;> (with_reducible repeat (first | exact q0 | exact q1 | exact cellB B2.out q0 | exact cellB B2.out q1 | refine cellD ?_ | refine cellA ?_ _ | (refine cellS ?_ _ _ (by simp only []; omega)))))
      (first | (go_at_call 28; (with_reducible refine (rafter_any _ _ _ m (l.take f) _ ?k1 ?k2 ?k3 ?k4).mono ?_); (case k1 => exact MA.out); (case k2 => exact HCA.out); (case k3 => exact HCP.out); (case k4 => exact LA.out); rintro e w2 ⟨vg, vh, rfl, hmg, hcg, hch, hb2⟩; rw [HAF.out] at hmg; obtain ⟨a5, n5, c5, rfl⟩ := hmg.1.slice; obtain ⟨a6, n6, c6, rfl⟩ := hmg.2.slice; have B2 : Hid (Below w1.heap.size w1 w2) := btrans (w := w1) (by with_reducible repeat (first | exact Below.refl _ _ | refine balloc ?_ _ | refine Below.drew ?_)) hb2; have S2 : Hid (IsS w2 (.slice a5 n5 c5) (.slice a6 n6 c6) (stN (st0 m) l f)) := ⟨hmg, hcg, hch⟩; have T2 : Hid (w2.heap[w1.heap.size]? = some (.cells #[.slice none 0 0, .slice none 0 0] 25 (0, 0))) := bkeep hb2 (h1_0 w1.drew (.cells #[.slice none 0 0, .slice none 0 0] 25)); obtain ⟨t0, t1⟩ := c2 T2.out; have f0 := fr (j := 0) T2.out; have f1 := fr (j := 1) T2.out; have ZZ : Hid (∀ w3, w3 = w2.setRow w1.heap.size #[.slice a5 n5 c5, .slice a6 n6 c6] → AtS w3 w1.heap.size 25 (stN (st0 m) l f) ∧ Below w1.heap.size w1 w3) := (fun w3 e3 => by subst e3; exact ⟨⟨_, _, _, _, _, _, setRow_heap _ _ _ _ _ _ T2.out, S2.out.row T2.out _⟩, below_setRow B2.out (Nat.le_refl _) _⟩); clear hb2 hmg hcg hch) | (go_at_call 28; (with_reducible refine (rafter_any _ _ _ m (l.take f) _ ?l1 ?l2 ?l3 ?l4).mono ?_); (case l1 => exact MB.out); (case l2 => exact HCA.out); (case l3 => exact HCP.out); (case l4 => exact LB.out); rintro e w2 ⟨vg, vh, rfl, hmg, hcg, hch, hb2⟩; rw [HAF.out] at hmg; obtain ⟨a5, n5, c5, rfl⟩ := hmg.1.slice; obtain ⟨a6, n6, c6, rfl⟩ := hmg.2.slice; have B2 : Hid (Below w1.heap.size w1 w2) := btrans (w := w1) (by with_reducible repeat (first | exact Below.refl _ _ | refine balloc ?_ _ | refine Below.drew ?_)) hb2; have S2 : Hid (IsS w2 (.slice a5 n5 c5) (.slice a6 n6 c6) (stN (st0 m) l f)) := ⟨hmg, hcg, hch⟩; clear hb2 hmg hcg hch) | fail)
    all_goals
      first
      | (rw [set2 T2.out]; go_wp2_with fail; go_meet; exact ⟨w1.heap.size, rfl, (ZZ.out _ rfl).1, (ZZ.out _ rfl).2⟩)
      | (go_wp2_with fail; go_meet; exact ⟨w2.heap.size, rfl, ⟨_, _, _, _, _, _, h1_0 _ _, S2.out.keep ((Below.refl _ _).alloc (Nat.le_refl _) _)⟩, balloc B2.out _⟩)
  case rest =>
    obtain ⟨h, rfl, hat, hbx⟩ := hcut
    obtain ⟨w3, hw3⟩ : ∃ x, x = wc := ⟨_, rfl⟩
    rw [← hw3] at hat hbx ⊢
    clear hw3
    obtain ⟨a5, n5, c5, a6, n6, c6, hx5, hs5⟩ := hat.out
    have B3 : Hid (Below w.heap.size w w3) := btrans B1.out hbx.out
    obtain ⟨r0, r1⟩ := c2 hx5
    have hh3 : h < w3.heap.size := lt_of_some hx5
    have SA : Hid (IsS (w3.drew.alloc (.cells #[.slice none 0 0, .slice none 0 0] 82)) (.slice a5 n5 c5) (.slice a6 n6 c6) (stN (st0 m) l f)) := IsS.keep (w := w3) hs5 (balloc (Below.drew (Below.refl _ _)) _)
    have SB : Hid (IsS w3.drew (.slice a5 n5 c5) (.slice a6 n6 c6) (stN (st0 m) l f)) := IsS.keep (w := w3) hs5 (Below.drew (Below.refl _ _))
    have KS := Lib.hid (HSL.out.keep B3.out)
    clear hat hbx hx5 hs5 X1 B1
    go_upto_region 7 with fail
    go_cut [14] (fun s14 wx => ∃ a c, s14 = .slice a (enN (stN (st0 m) l f) (subL l f t) (subL l f t).length).length c ∧ Hid (Below w3.heap.size w3 wx))
    case first =>
      by_cases hck : cl = f
      · subst hck
        have KV : Hid (IsLog w3 (.slice al (t - cl) 0) (subL l cl t)) := by
          have := KS.out
          rw [show subV al cl cl t = .slice al (t - cl) 0 by simp [subV]] at this
          exact this
        have KA : Hid (IsLog (w3.drew.alloc (.cells #[.slice none 0 0, .slice none 0 0] 82)) (.slice al (t - cl) 0) (subL l cl t)) := IsLog.keep (w := w3) KV.out (balloc (Below.drew (Below.refl _ _)) _)
        have KB : Hid (IsLog w3.drew (.slice al (t - cl) 0) (subL l cl t)) := KV.out
        go_region_held3 (fun w' => w'.cell? ⟨h, 0, none⟩ = some (.slice a5 n5 c5) ∧ w'.cell? ⟨h, 1, none⟩ = some (.slice a6 n6 c6))
          (refine ⟨?_, ?_⟩ <;> (with_reducible repeat (first | exact r0 | exact r1 | exact cellB B7.out r0 | exact cellB B7.out r1 | refine cellD ?_ | refine cellA ?_ _ | (refine cellS ?_ _ _ (by simp only []; omega)))))
          (first | (go_at_call 48; (with_reducible refine (rcut_any _ _ _ (stN (st0 m) l cl) (subL l cl t) _ ?n1 ?n2 ?n3 ?n4 ?n5 ?n6).mono ?_); (case n1 => exact HWF.out); (case n2 => exact HA0.out); (case n3 => exact SA.out); (case n4 => exact KA.out); (case n5 => exact HVS.out); (case n6 => exact HL5.out); rintro e w7 ⟨v7, da, dp, rfl, hv7, hs7, hb7⟩; obtain ⟨b1, m1, j1, rfl⟩ := hs7.1.1.slice; obtain ⟨b2, m2, j2, rfl⟩ := hs7.1.2.slice; obtain ⟨b3, m3, j3, rfl⟩ := hv7.slice; obtain ⟨rfl, _⟩ := hv7.len; have B7 : Hid (Below w3.heap.size w3 w7) := btrans (w := w3) (by with_reducible repeat (first | exact Below.refl _ _ | refine balloc ?_ _ | refine Below.drew ?_)) hb7; have T7 : Hid (w7.heap[w3.heap.size]? = some (.cells #[.slice none 0 0, .slice none 0 0] 82 (0, 0))) := bkeep hb7 (h1_0 w3.drew (.cells #[.slice none 0 0, .slice none 0 0] 82)); obtain ⟨t0, t1⟩ := c2 T7.out; have f0 := fr (j := 0) T7.out; have f1 := fr (j := 1) T7.out; clear hb7 hv7 hs7) | (go_at_call 48; (with_reducible refine (rcut_any _ _ _ (stN (st0 m) l cl) (subL l cl t) _ ?na ?nb ?nc ?nd ?ne ?nf).mono ?_); (case na => exact HWF.out); (case nb => exact HA0.out); (case nc => exact SB.out); (case nd => exact KB.out); (case ne => exact HVS.out); (case nf => exact HL5.out); rintro e w7 ⟨v7, da, dp, rfl, hv7, hs7, hb7⟩; obtain ⟨b1, m1, j1, rfl⟩ := hs7.1.1.slice; obtain ⟨b2, m2, j2, rfl⟩ := hs7.1.2.slice; obtain ⟨b3, m3, j3, rfl⟩ := hv7.slice; obtain ⟨rfl, _⟩ := hv7.len; have B7 : Hid (Below w3.heap.size w3 w7) := btrans (w := w3) (by with_reducible repeat (first | exact Below.refl _ _ | refine balloc ?_ _ | refine Below.drew ?_)) hb7; clear hb7 hv7 hs7) | fail)
        all_goals
          go_wp2_with fail
          go_meet
          exact ⟨_, _, rfl, by refine Lib.hid ?_; with_reducible repeat (first | exact B7.out | refine balloc ?_ _ | refine Below.drew ?_ | (refine Below.setCell ?_ (by simp only []; omega) _))⟩
      · have KV : Hid (IsLog w3 (.slice (Option.map (fun x => x.add (f * 2)) al) (t - f) (cl - f)) (subL l f t)) := by
          have := KS.out
          rw [show subV al cl f t = .slice (Option.map (fun x => x.add (f * 2)) al) (t - f) (cl - f) by simp [subV, hck]] at this
          exact this
        have KA : Hid (IsLog (w3.drew.alloc (.cells #[.slice none 0 0, .slice none 0 0] 82)) (.slice (Option.map (fun x => x.add (f * 2)) al) (t - f) (cl - f)) (subL l f t)) := IsLog.keep (w := w3) KV.out (balloc (Below.drew (Below.refl _ _)) _)
        have KB : Hid (IsLog w3.drew (.slice (Option.map (fun x => x.add (f * 2)) al) (t - f) (cl - f)) (subL l f t)) := KV.out
        go_region_held3 (fun w' => w'.cell? ⟨h, 0, none⟩ = some (.slice a5 n5 c5) ∧ w'.cell? ⟨h, 1, none⟩ = some (.slice a6 n6 c6))
          (refine ⟨?_, ?_⟩ <;> (with_reducible repeat (first | exact r0 | exact r1 | exact cellB B7.out r0 | exact cellB B7.out r1 | refine cellD ?_ | refine cellA ?_ _ | (refine cellS ?_ _ _ (by simp only []; omega)))))
          (first | (go_at_call 48; (with_reducible refine (rcut_any _ _ _ (stN (st0 m) l f) (subL l f t) _ ?o1 ?o2 ?o3 ?o4 ?o5 ?o6).mono ?_); (case o1 => exact HWF.out); (case o2 => exact HA0.out); (case o3 => exact SA.out); (case o4 => exact KA.out); (case o5 => exact HVS.out); (case o6 => exact HL5.out); rintro e w7 ⟨v7, da, dp, rfl, hv7, hs7, hb7⟩; obtain ⟨b1, m1, j1, rfl⟩ := hs7.1.1.slice; obtain ⟨b2, m2, j2, rfl⟩ := hs7.1.2.slice; obtain ⟨b3, m3, j3, rfl⟩ := hv7.slice; obtain ⟨rfl, _⟩ := hv7.len; have B7 : Hid (Below w3.heap.size w3 w7) := btrans (w := w3) (by with_reducible repeat (first | exact Below.refl _ _ | refine balloc ?_ _ | refine Below.drew ?_)) hb7; have T7 : Hid (w7.heap[w3.heap.size]? = some (.cells #[.slice none 0 0, .slice none 0 0] 82 (0, 0))) := bkeep hb7 (h1_0 w3.drew (.cells #[.slice none 0 0, .slice none 0 0] 82)); obtain ⟨t0, t1⟩ := c2 T7.out; have f0 := fr (j := 0) T7.out; have f1 := fr (j := 1) T7.out; clear hb7 hv7 hs7) | (go_at_call 48; (with_reducible refine (rcut_any _ _ _ (stN (st0 m) l f) (subL l f t) _ ?oa ?ob ?oc ?od ?oe ?of).mono ?_); (case oa => exact HWF.out); (case ob => exact HA0.out); (case oc => exact SB.out); (case od => exact KB.out); (case oe => exact HVS.out); (case of => exact HL5.out); rintro e w7 ⟨v7, da, dp, rfl, hv7, hs7, hb7⟩; obtain ⟨b1, m1, j1, rfl⟩ := hs7.1.1.slice; obtain ⟨b2, m2, j2, rfl⟩ := hs7.1.2.slice; obtain ⟨b3, m3, j3, rfl⟩ := hv7.slice; obtain ⟨rfl, _⟩ := hv7.len; have B7 : Hid (Below w3.heap.size w3 w7) := btrans (w := w3) (by with_reducible repeat (first | exact Below.refl _ _ | refine balloc ?_ _ | refine Below.drew ?_)) hb7; clear hb7 hv7 hs7) | fail)
        all_goals
          go_wp2_with fail
          go_meet
          exact ⟨_, _, rfl, by refine Lib.hid ?_; with_reducible repeat (first | exact B7.out | refine balloc ?_ _ | refine Below.drew ?_ | (refine Below.setCell ?_ (by simp only []; omega) _))⟩
    case rest =>
      obtain ⟨a7, c7, rfl, hbx⟩ := hcut
      go_wp2_with fail
      go_ret2
      exact ⟨by rw [HN.out, HE.out]; rfl, btrans B3.out hbx.out⟩
set_option maxRecDepth 100000 in
set_option maxHeartbeats 2000000 in
theorem rwithin_bad1 (va vp vl : Value) (m : Mo) (l : List En) (f t : Int) (w : World) (hm : IsM w va vp m) (hca : CapI va) (hcp : CapI vp) (hl : IsLog w vl l) (hc : (vldL m l).1 ≠ 0) : Calls Try.prog 38 #[.agg #[va, vp], vl, .int .i64 f, .int .i64 t] w (Wit m l f t w) := by
  obtain ⟨aa, na, ca, rfl⟩ := hm.1.slice
  obtain ⟨ap, np, cp, rfl⟩ := hm.2.slice
  have HM := Lib.hid hm
  have HL := Lib.hid hl
  have HCA := Lib.hid hca
  have HCP := Lib.hid hcp
  have HE : Hid (wiE m l f t = (vldL m l).1 ∧ wiN m l f t = 0) := by
    have e : wiE m l f t = (vldL m l).1 := by unfold wiE; rw [if_neg hc]
    exact ⟨e, by unfold wiN; rw [e, if_neg hc]⟩
  have hz : ((vldL m l).1 != 0) = true := by simpa using hc
  clear hm hl hc hca hcp
  go_enter Try.func38, Try.ntmps38
  go_wp2_with fail
  refine (rvalid_any _ _ _ m l _ (HM.out.keep ((Below.refl _ _).alloc (Nat.le_refl _) _)) HCA.out HCP.out (HL.out.keep ((Below.refl _ _).alloc (Nat.le_refl _) _))).mono ?_
  rintro e w1 ⟨rfl, hb⟩
  have B1 := Lib.hid (bfirst _ _ hb).2
  clear hb
  go_wp2_with fail
  go_ret2
  exact ⟨by rw [HE.out.1, HE.out.2]; rfl, B1.out⟩
set_option maxRecDepth 100000 in
set_option maxHeartbeats 2000000 in
theorem rwithin_bad2 (va vp vl : Value) (m : Mo) (l : List En) (f t : Int) (w : World) (hm : IsM w va vp m) (hca : CapI va) (hcp : CapI vp) (hl : IsLog w vl l) (hc : (vldL m l).1 = 0) (hn : f < 0 ∨ t < f ∨ (l.length : Int) < t) : Calls Try.prog 38 #[.agg #[va, vp], vl, .int .i64 f, .int .i64 t] w (Wit m l f t w) := by
  obtain ⟨aa, na, ca, rfl⟩ := hm.1.slice
  obtain ⟨ap, np, cp, rfl⟩ := hm.2.slice
  obtain ⟨al, nl, cl, rfl⟩ := hl.slice
  obtain ⟨rfl, hln⟩ := hl.len
  have HM := Lib.hid hm
  have HL := Lib.hid hl
  have HCA := Lib.hid hca
  have HCP := Lib.hid hcp
  have HC := Lib.hid hc
  have HE : Hid (wiE m l f t = 2 ∧ wiN m l f t = 0) := by
    have e : wiE m l f t = 2 := by unfold wiE; rw [if_pos hc, if_pos hn]
    exact ⟨e, by unfold wiN; rw [e, if_neg (by decide)]⟩
  clear hm hl hc hca hcp
  have hn2 : f < 0 ∨ (0 ≤ f ∧ t < f) ∨ (0 ≤ f ∧ f ≤ t ∧ (l.length : Int) < t) := by omega
  clear hn
  rcases hn2 with hn | ⟨h0, hn⟩ | ⟨h0, h1, hn⟩
  all_goals
    go_enter Try.func38, Try.ntmps38
    go_wp2_with fail
    refine (rvalid_any _ _ _ m l _ (HM.out.keep ((Below.refl _ _).alloc (Nat.le_refl _) _)) HCA.out HCP.out (HL.out.keep ((Below.refl _ _).alloc (Nat.le_refl _) _))).mono ?_
    rintro e w1 ⟨rfl, hb⟩
    rw [HC.out]
    have B1 := Lib.hid (bfirst _ _ hb).2
    clear hb
    go_wp2_with fail
    go_ret2
    exact ⟨by rw [HE.out.1, HE.out.2]; rfl, B1.out⟩
theorem rwithin_any (va vp vl : Value) (m : Mo) (l : List En) (f t : Int) (w : World) (hm : IsM w va vp m) (hca : CapI va) (hcp : CapI vp) (hl : IsLog w vl l) (hlc : ∀ a n c, vl = .slice a n c → n ≤ c) : Calls Try.prog 38 #[.agg #[va, vp], vl, .int .i64 f, .int .i64 t] w (Wit m l f t w) := by
  by_cases hc : (vldL m l).1 = 0
  · by_cases hn : f < 0 ∨ t < f ∨ (l.length : Int) < t
    · exact rwithin_bad2 va vp vl m l f t w hm hca hcp hl hc hn
    · obtain ⟨f', rfl⟩ := Int.eq_ofNat_of_zero_le (a := f) (by omega)
      obtain ⟨t', rfl⟩ := Int.eq_ofNat_of_zero_le (a := t) (by omega)
      exact rwithin_good va vp vl m l f' t' w hm hca hcp hl hlc hc (by omega) (by omega)
  · exact rwithin_bad1 va vp vl m l f t w hm hca hcp hl hc
theorem litB_le {n m k : Nat} (h : litB n m k = true) : n ≤ 20 ∧ m ≤ 300 ∧ k ≤ 5010 := by
  unfold litB at h
  simp at h
  omega

set_option maxRecDepth 100000 in
set_option maxHeartbeats 4000000 in
theorem roundsCuts_walk (a b al : Option Addr) (n m nl c k cl : Nat) (f t : Int) (w : World) (ia : Ints? w a n c) (ib : Ints? w b m k) (hc : n ≤ c) (hk : m ≤ k) (x1 : nl ≤ 9223372036854775807) (y1 : nl ≤ cl) (il : nl ≤ 4294967296 → ∃ l, l.length = nl ∧ IsLog w (.slice al nl cl) l) : Calls Try.prog 8 #[.agg #[.slice a n c, .slice b m k], .slice al nl cl, .int .i64 f, .int .i64 t] w fun e w' => e = .returned (.bool true) ∧ Below w.heap.size w w' := by
  obtain ⟨hn, ia⟩ := ia
  obtain ⟨hm, ib⟩ := ib
  cases hlit : litB n m nl with
  | false =>
    have HB := Lib.hid hlit
    clear hlit ia ib il
    go_enter Try.func8, Try.ntmps8
    go_wp2_with fail
    refine (light_any a b al n m nl c k cl _ hn hm x1).mono ?_
    rintro e w1 ⟨rfl, hb⟩
    rw [HB.out]
    have B1 := Lib.hid (bfirst _ _ hb).2
    clear hb
    go_wp2_with fail
    refine (awake_any _).mono ?_
    rintro e w2 ⟨rfl, hb⟩
    have B2 := Lib.hid (btrans B1.out hb)
    clear hb
    go_wp2_with fail
    go_ret
    exact ⟨rfl, B2.out⟩
  | true =>
    have hle := litB_le hlit
    obtain ⟨LB, hLB, hB⟩ := ia (by omega)
    obtain ⟨LP, hLP, hP⟩ := ib (by omega)
    obtain ⟨l, hll, hl⟩ := il (by omega)
    obtain ⟨mo, hmo⟩ : ∃ mo : Mo, mo = ⟨LB, LP⟩ := ⟨_, rfl⟩
    have HM : Hid (IsM w (.slice a n c) (.slice b m k) mo) := by rw [hmo]; exact ⟨hB, hP⟩
    have HL := Lib.hid hl
    have hb1 : mo.b.length ≤ 20 := by rw [hmo]; show LB.length ≤ 20; omega
    have hp1 : mo.p.length ≤ 300 := by rw [hmo]; show LP.length ≤ 300; omega
    have hl1 : l.length ≤ 5010 := by omega
    have HB := Lib.hid hlit
    have HCA : Hid (CapI (.slice a n c)) := fun a n c e => by cases e; exact hc
    have HCP : Hid (CapI (.slice b m k)) := fun a n c e => by cases e; exact hk
    have HCL : Hid (∀ a' n' c', Value.slice al nl cl = .slice a' n' c' → n' ≤ c') := fun a n c e => by cases e; exact y1
    clear hlit ia ib il hB hP hl hmo hLB hLP
    go_enter Try.func8, Try.ntmps8
    go_wp2_with fail
    refine (light_any a b al n m nl c k cl _ hn hm x1).mono ?_
    rintro e w1 ⟨rfl, hb⟩
    rw [HB.out]
    have X1 := Lib.hid (bfirst _ _ hb).1
    have B1 := Lib.hid (bfirst _ _ hb).2
    clear hb
    go_wp2_with (((with_reducible refine ld25 ?a1 (.tmp 4) ?a2 w.heap.size ?a3 _ _ 25 X1 ?_); (case a1 => rfl); (case a2 => rfl); (case a3 => rfl)))
    refine (own_any _ _ mo _ (HM.out.keep B1.out) (by omega) (by omega)).mono ?_
    rintro e w2 ⟨va, vp, rfl, hmv, hca, hcp, hb⟩
    obtain ⟨aa, na, ca, rfl⟩ := hmv.1.slice
    obtain ⟨ap, np, cp, rfl⟩ := hmv.2.slice
    have B2 := Lib.hid (btrans B1.out hb)
    have X2 := Lib.hid (bkeep hb X1.out)
    have V2 := Lib.hid hmv
    clear hb hmv X1 B1
    go_wp2_with fail
    refine (log_any _ l _ (HL.out.keep B2.out) (by omega)).mono ?_
    rintro e w3 ⟨vl, rfl, ho, hb⟩
    have hlo := ho.log (by omega)
    have HLC := Lib.hid ho.cap
    have HO3 := Lib.hid hlo
    have B3 := Lib.hid (btrans B2.out hb)
    have X3 := Lib.hid (bkeep hb X2.out)
    have V3 := Lib.hid (V2.out.keep hb)
    clear hb ho hlo X2 B2 V2
    have G5 : Hid ((w3.alloc (.cells #[.slice aa na ca, .slice ap np cp] 25)).heap[w3.heap.size]? = some (.cells #[.slice aa na ca, .slice ap np cp] 25 (0, 0))) := h1_0 _ _
    have G2 : Hid ((w3.alloc (.cells #[.slice aa na ca, .slice ap np cp] 25)).heap[w.heap.size]? = some (.cells #[.slice a n c, .slice b m k] 25 (0, 0))) := hold1 X3.out _
    have B4 : Hid (Below w.heap.size w (w3.alloc (.cells #[.slice aa na ca, .slice ap np cp] 25))) := balloc B3.out _
    have MO : Hid (IsM (w3.alloc (.cells #[.slice aa na ca, .slice ap np cp] 25)) (.slice aa na ca) (.slice ap np cp) mo) := V3.out.keep ((Below.refl _ _).alloc (Nat.le_refl _) _)
    have LO : Hid (IsLog (w3.alloc (.cells #[.slice aa na ca, .slice ap np cp] 25)) vl l) := HO3.out.keep ((Below.refl _ _).alloc (Nat.le_refl _) _)
    go_upto_region 4 with fail
    generalize w3.alloc (.cells #[.slice aa na ca, .slice ap np cp] 25) = W at *
    generalize w3.heap.size = g5 at *
    obtain ⟨g2, hg2⟩ : ∃ g, g = w.heap.size := ⟨_, rfl⟩
    rw [← hg2] at G2 ⊢
    clear hg2 X3 V3 HO3 B3
    have MM := Lib.hid (HM.out.keep B4.out)
    have LL := Lib.hid (HL.out.keep B4.out)
    clear HM HL
    obtain ⟨E, hE⟩ : ∃ E, E = (vldL mo l).1 := ⟨_, rfl⟩
    have HE := Lib.hid hE
    have eE : (E != E) = false := by simp
    have eE2 : (E == E) = true := by simp
    clear hE
    go_wp2_with (((with_reducible refine ld25 ?b1 (.tmp 9) ?b2 g5 ?b3 _ _ 25 G5 ?_); (case b1 => rfl); (case b2 => rfl); (case b3 => rfl)))
    refine (ends_any _ _ _ mo l _ MO.out LO.out).mono ?_
    rintro e w5 ⟨v5, rfl, hv5, hb⟩
    rw [← HE.out]
    have B5 := Lib.hid hb
    have V5 := Lib.hid hv5
    clear hb hv5
    have K5 := Lib.hid (bkeep B5.out G2.out)
    go_wp2_with (((with_reducible refine ld25 ?c1 (.tmp 4) ?c2 g2 ?c3 _ _ 25 K5 ?_); (case c1 => rfl); (case c2 => rfl); (case c3 => rfl)))
    refine (rends_any _ _ _ mo l _ (MM.out.keep B5.out) HCA.out HCP.out (LL.out.keep B5.out)).mono ?_
    rintro e w6 ⟨v6, rfl, hv6, hb⟩
    rw [← HE.out]
    have B6 : Hid (Below W.heap.size W w6) := btrans B5.out hb
    have V6 := Lib.hid (V5.out.keep hb)
    have U6 := Lib.hid hv6
    clear hb hv6 B5 V5 K5
    go_wp2_with fail
    refine (sameInts_any _ _ (enL mo l) (enL mo l) _ V6.out U6.out).mono ?_
    rintro e w7 ⟨rfl, hb⟩
    rw [show (enL mo l == enL mo l) = true from by simp]
    have B7 : Hid (Below W.heap.size W w7) := btrans B6.out hb
    clear hb B6 V6 U6
    have K7 := Lib.hid (bkeep B7.out G5.out)
    go_wp2_with (((with_reducible refine ld25 ?d1 (.tmp 9) ?d2 g5 ?d3 _ _ 25 K7 ?_); (case d1 => rfl); (case d2 => rfl); (case d3 => rfl)))
    refine (owed_any _ _ _ mo l _ (MO.out.keep B7.out) (LO.out.keep B7.out)).mono ?_
    rintro e w8 ⟨v8, x8, rfl, hv8, hx8, hb⟩
    rw [← HE.out]
    have B8 : Hid (Below W.heap.size W w8) := btrans B7.out hb
    have V8 := Lib.hid hv8
    have X8 := Lib.hid hx8
    clear hb hv8 hx8 B7 K7
    have K8 := Lib.hid (bkeep B8.out G2.out)
    go_wp2_with (((with_reducible refine ld25 ?e1 (.tmp 4) ?e2 g2 ?e3 _ _ 25 K8 ?_); (case e1 => rfl); (case e2 => rfl); (case e3 => rfl)))
    refine (rowing_any _ _ _ mo l _ (MM.out.keep B8.out) HCA.out HCP.out (LL.out.keep B8.out)).mono ?_
    rintro e w9 ⟨v9, x9, rfl, hv9, hx9, hb⟩
    rw [← HE.out]
    have B9 : Hid (Below W.heap.size W w9) := btrans B8.out hb
    have V9 := Lib.hid (V8.out.keep hb)
    have X9 := Lib.hid (X8.out.keep hb)
    have U9 := Lib.hid hv9
    have Y9 := Lib.hid hx9
    clear hb hv9 hx9 B8 K8 V8 X8
    go_wp2_with fail
    refine (sameInts_any _ _ (owA mo l) (owA mo l) _ V9.out U9.out).mono ?_
    rintro e wa ⟨rfl, hb⟩
    rw [show (owA mo l == owA mo l) = true from by simp]
    have Ba : Hid (Below W.heap.size W wa) := btrans B9.out hb
    have Xa := Lib.hid (X9.out.keep hb)
    have Ya := Lib.hid (Y9.out.keep hb)
    clear hb B9 V9 U9 X9 Y9
    go_wp2_with fail
    refine (sameInts_any _ _ (owB mo l) (owB mo l) _ Xa.out Ya.out).mono ?_
    rintro e wb ⟨rfl, hb⟩
    rw [show (owB mo l == owB mo l) = true from by simp]
    have Bb : Hid (Below W.heap.size W wb) := btrans Ba.out hb
    clear hb Ba Xa Ya
    have Kb := Lib.hid (bkeep Bb.out G5.out)
    go_wp2_with (((with_reducible refine ld25 ?f1 (.tmp 9) ?f2 g5 ?f3 _ _ 25 Kb ?_); (case f1 => rfl); (case f2 => rfl); (case f3 => rfl)))
    refine (is_any _ _ _ mo l _ (MO.out.keep Bb.out) (LO.out.keep Bb.out)).mono ?_
    rintro e wd ⟨rfl, hb⟩
    rw [← HE.out]
    have Bd : Hid (Below W.heap.size W wd) := btrans Bb.out hb
    clear hb Bb Kb
    have Kd := Lib.hid (bkeep Bd.out G2.out)
    go_wp2_with (((with_reducible refine ld25 ?h1 (.tmp 4) ?h2 g2 ?h3 _ _ 25 Kd ?_); (case h1 => rfl); (case h2 => rfl); (case h3 => rfl)))
    refine (ris_any _ _ _ mo l _ (MM.out.keep Bd.out) HCA.out HCP.out (LL.out.keep Bd.out)).mono ?_
    rintro e we ⟨rfl, hb⟩
    rw [← HE.out]
    have Be : Hid (Below W.heap.size W we) := btrans Bd.out hb
    clear hb Bd Kd
    have Ke := Lib.hid (bkeep Be.out G5.out)
    go_wp2_with (((with_reducible refine ld25 ?i1 (.tmp 9) ?i2 g5 ?i3 _ _ 25 Ke ?_); (case i1 => rfl); (case i2 => rfl); (case i3 => rfl)))
    refine (within_any _ _ _ mo l f t _ (MO.out.keep Be.out) (LO.out.keep Be.out) HLC.out).mono ?_
    rintro e wf ⟨rfl, hb⟩
    have Bf : Hid (Below W.heap.size W wf) := btrans Be.out hb
    clear hb Be Ke
    have Kf := Lib.hid (bkeep Bf.out G2.out)
    go_wp2_with (((with_reducible refine ld25 ?j1 (.tmp 4) ?j2 g2 ?j3 _ _ 25 Kf ?_); (case j1 => rfl); (case j2 => rfl); (case j3 => rfl)))
    refine (rwithin_any _ _ _ mo l f t _ (MM.out.keep Bf.out) HCA.out HCP.out (LL.out.keep Bf.out) HCL.out).mono ?_
    rintro e wg ⟨rfl, hb⟩
    have Bg : Hid (Below W.heap.size W wg) := btrans Bf.out hb
    clear hb Bf Kf
    generalize wiN mo l f t = N at *
    generalize wiE mo l f t = R at *
    generalize isB mo l = J at *
    have eN : (N == N) = true := by simp
    have eR : (R == R) = true := by simp
    have eJ : (J == J) = true := by simp
    obtain ⟨j0, j1⟩ := c2 (bkeep Bg.out G5.out)
    obtain ⟨k0, k1⟩ := c2 (bkeep Bg.out G2.out)
    go_wp2_with fail
    refine (same_any _ _ _ _ mo _ (MO.out.keep Bg.out) (MM.out.keep Bg.out)).mono ?_
    rintro e wh ⟨rfl, hb⟩
    have Bh : Hid (Below W.heap.size W wh) := btrans Bg.out hb
    clear hb j0 j1 k0 k1 Bg
    go_wp2_with fail
    refine (unchanged_any _ _ l _ (LO.out.keep Bh.out) (LL.out.keep Bh.out)).mono ?_
    rintro e wi ⟨rfl, hb⟩
    have Bi : Hid (Below W.heap.size W wi) := btrans Bh.out hb
    clear hb Bh
    go_wp2_with fail
    refine (awake_any _).mono ?_
    rintro e wj ⟨rfl, hb⟩
    have Bj : Hid (Below W.heap.size W wj) := btrans Bi.out hb
    clear hb Bi
    go_wp2_with fail
    go_ret
    exact ⟨rfl, btrans B4.out Bj.out⟩
end Go.Proofs.Ytgdcgmnfgbdiiaa
