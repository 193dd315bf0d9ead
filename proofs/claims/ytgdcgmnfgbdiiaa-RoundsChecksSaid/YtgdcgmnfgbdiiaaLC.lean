/- Helper facts for the statements of this seat; no statement itself. -/
import Derived.Test.YtgdcgmnfgbdiiaaLH
import Derived.Test.YtgdcgmnfgbdiiaaRA
import Derived.Test.YtgdcgmnfgbdiiaaW
import Derived.Test.YtgdcgmnfgbdiiaaY
import Derived.Test.YtgdcgmnfgbdiiaaOpenC
import Derived.Deep.RegionHeld3
import Derived.Deep.DeepCutAuto
import Derived.Outline
namespace Go.Proofs.Ytgdcgmnfgbdiiaa
open Go.RowKit
set_option linter.unusedSimpArgs false
set_option linter.unusedVariables false
set_option linter.unnecessarySimpa false

theorem litB_le {n m k : Nat} (h : litB n m k = true) : n ≤ 20 ∧ m ≤ 300 ∧ k ≤ 5010 := by
  unfold litB at h
  simp at h
  omega

set_option maxRecDepth 100000 in
set_option maxHeartbeats 4000000 in
theorem roundsChecks_walk (a b al : Option Addr) (n m nl c k cl : Nat) (w : World) (ia : Ints? w a n c) (ib : Ints? w b m k) (hc : n ≤ c) (hk : m ≤ k) (x1 : nl ≤ 9223372036854775807) (y1 : nl ≤ cl) (il : nl ≤ 4294967296 → ∃ l, l.length = nl ∧ IsLog w (.slice al nl cl) l) : Calls Try.prog 5 #[.agg #[.slice a n c, .slice b m k], .slice al nl cl] w fun e w' => e = .returned (.bool true) ∧ Below w.heap.size w w' := by
  obtain ⟨hn, ia⟩ := ia
  obtain ⟨hm, ib⟩ := ib
  cases hlit : litB n m nl with
  | false =>
    have HB := Lib.hid hlit
    clear hlit ia ib il
    go_enter Try.func5, Try.ntmps5
    go_wp2_with fail
    refine (light_any a b al n m nl c k cl _ hn hm x1).mono ?_
    rintro e w1 ⟨rfl, hb⟩
    rw [HB.out]
    have B1 := Lib.hid (bfirst _ _ hb).2
    clear hb
    go_wp2_with fail
    refine (awake_any _).mono ?_
    rintro e w2 ⟨rfl, hb⟩
    have B2 := Lib.hid (btrans B1.out hb)
    clear hb
    go_wp2_with fail
    go_ret
    exact ⟨rfl, B2.out⟩
  | true =>
    have hle := litB_le hlit
    obtain ⟨LB, hLB, hB⟩ := ia (by omega)
    obtain ⟨LP, hLP, hP⟩ := ib (by omega)
    obtain ⟨l, hll, hl⟩ := il (by omega)
    obtain ⟨mo, hmo⟩ : ∃ mo : Mo, mo = ⟨LB, LP⟩ := ⟨_, rfl⟩
    have HM : Hid (IsM w (.slice a n c) (.slice b m k) mo) := by rw [hmo]; exact ⟨hB, hP⟩
    have HL := Lib.hid hl
    have hb1 : mo.b.length ≤ 20 := by rw [hmo]; show LB.length ≤ 20; omega
    have hp1 : mo.p.length ≤ 300 := by rw [hmo]; show LP.length ≤ 300; omega
    have hl1 : l.length ≤ 5010 := by omega
    have HB := Lib.hid hlit
    have HCA : Hid (CapI (.slice a n c)) := fun a n c e => by cases e; exact hc
    have HCP : Hid (CapI (.slice b m k)) := fun a n c e => by cases e; exact hk
    clear hlit ia ib il hB hP hl hmo hLB hLP
    go_enter Try.func5, Try.ntmps5
    go_wp2_with fail
    refine (light_any a b al n m nl c k cl _ hn hm x1).mono ?_
    rintro e w1 ⟨rfl, hb⟩
    rw [HB.out]
    have X1 := Lib.hid (bfirst _ _ hb).1
    have B1 := Lib.hid (bfirst _ _ hb).2
    clear hb
    go_wp2_with (((with_reducible refine ld25 ?a1 (.tmp 2) ?a2 w.heap.size ?a3 _ _ 25 X1 ?_); (case a1 => rfl); (case a2 => rfl); (case a3 => rfl)))
    refine (own_any _ _ mo _ (HM.out.keep B1.out) (by omega) (by omega)).mono ?_
    rintro e w2 ⟨va, vp, rfl, hmv, hca, hcp, hb⟩
    obtain ⟨aa, na, ca, rfl⟩ := hmv.1.slice
    obtain ⟨ap, np, cp, rfl⟩ := hmv.2.slice
    have B2 := Lib.hid (btrans B1.out hb)
    have X2 := Lib.hid (bkeep hb X1.out)
    have V2 := Lib.hid hmv
    clear hb hmv X1 B1
    go_wp2_with fail
    refine (log_any _ l _ (HL.out.keep B2.out) (by omega)).mono ?_
    rintro e w3 ⟨vl, rfl, ho, hb⟩
    have hlo := ho.log (by omega)
    have HO3 := Lib.hid hlo
    have B3 := Lib.hid (btrans B2.out hb)
    have X3 := Lib.hid (bkeep hb X2.out)
    have V3 := Lib.hid (V2.out.keep hb)
    clear hb ho hlo X2 B2 V2
    have G5 : Hid ((w3.alloc (.cells #[.slice aa na ca, .slice ap np cp] 25)).heap[w3.heap.size]? = some (.cells #[.slice aa na ca, .slice ap np cp] 25 (0, 0))) := h1_0 _ _
    have G2 : Hid ((w3.alloc (.cells #[.slice aa na ca, .slice ap np cp] 25)).heap[w.heap.size]? = some (.cells #[.slice a n c, .slice b m k] 25 (0, 0))) := hold1 X3.out _
    have B4 : Hid (Below w.heap.size w (w3.alloc (.cells #[.slice aa na ca, .slice ap np cp] 25))) := balloc B3.out _
    have MO : Hid (IsM (w3.alloc (.cells #[.slice aa na ca, .slice ap np cp] 25)) (.slice aa na ca) (.slice ap np cp) mo) := V3.out.keep ((Below.refl _ _).alloc (Nat.le_refl _) _)
    have LO : Hid (IsLog (w3.alloc (.cells #[.slice aa na ca, .slice ap np cp] 25)) vl l) := HO3.out.keep ((Below.refl _ _).alloc (Nat.le_refl _) _)
    go_upto_region 4 with fail
    generalize w3.alloc (.cells #[.slice aa na ca, .slice ap np cp] 25) = W at *
    generalize w3.heap.size = g5 at *
    obtain ⟨g2, hg2⟩ : ∃ g, g = w.heap.size := ⟨_, rfl⟩
    rw [← hg2] at G2 ⊢
    clear hg2 X3 V3 HO3 B3
    have MM := Lib.hid (HM.out.keep B4.out)
    have LL := Lib.hid (HL.out.keep B4.out)
    clear HM HL
    go_wp2_with (((with_reducible refine ld25 ?b1 (.tmp 5) ?b2 g5 ?b3 _ _ 25 G5 ?_); (case b1 => rfl); (case b2 => rfl); (case b3 => rfl)))
    refine (valid_any _ _ _ mo l _ MO.out LO.out).mono ?_
    rintro e w5 ⟨rfl, hb⟩
    have B5 := Lib.hid hb
    have H2 := Lib.hid (bkeep hb G2.out)
    clear hb
    go_wp2_with (((with_reducible refine ld25 ?c1 (.tmp 2) ?c2 g2 ?c3 _ _ 25 H2 ?_); (case c1 => rfl); (case c2 => rfl); (case c3 => rfl)))
    refine (rvalid_any _ _ _ mo l _ (MM.out.keep B5.out) HCA.out HCP.out (LL.out.keep B5.out)).mono ?_
    rintro e w6 ⟨rfl, hb⟩
    have B6 : Hid (Below W.heap.size W w6) := btrans B5.out hb
    clear hb B5 H2
    obtain ⟨E, hE⟩ : ∃ E, E = (vldL mo l).1 := ⟨_, rfl⟩
    obtain ⟨I, hI⟩ : ∃ I, I = (vldL mo l).2 := ⟨_, rfl⟩
    rw [← hE, ← hI]
    have HE := Lib.hid hE
    have eE : (E != E) = false := by simp
    have eI : (I != I) = false := by simp
    clear hE hI
    go_upto_region 6 with fail
    go_cut [51] (fun s51 wx => s51 = .bool false ∧ Hid (Below W.heap.size W wx))
    case first =>
      obtain ⟨p0, p1⟩ := c2 (bkeep B6.out G5.out)
      obtain ⟨q0, q1⟩ := c2 (bkeep B6.out G2.out)
      have eC : (ckM mo != ckM mo) = false := by simp
      have BB : Hid (Below w6.heap.size w6 w6) := Below.refl _ _
      go_region_held3 (fun w' => w'.cell? ⟨g5, 0, none⟩ = some (.slice aa na ca) ∧ w'.cell? ⟨g5, 1, none⟩ = some (.slice ap np cp) ∧ w'.cell? ⟨g2, 0, none⟩ = some (.slice a n c) ∧ w'.cell? ⟨g2, 1, none⟩ = some (.slice b m k))
        (refine ⟨?_, ?_, ?_, ?_⟩ <;> (with_reducible repeat (first | exact cellB BB.out p0 | exact cellB BB.out p1 | exact cellB BB.out q0 | exact cellB BB.out q1 | refine cellD ?_)))
        (first | (go_at_call 20; (with_reducible refine (check_any _ _ mo _ ?k1).mono ?_); (case k1 => exact MO.out.keep (btrans B6.out (btrans BB.out (Below.drew (Below.refl _ _))))); rintro e w7 ⟨rfl, hb⟩; have BB : Hid (Below w6.heap.size w6 w7) := btrans (w := w6) (btrans BB.out (Below.drew (Below.refl _ _))) hb; clear hb) | (go_at_call 26; (with_reducible refine (rcheck_any _ _ mo _ ?k2).mono ?_); (case k2 => exact MM.out.keep (btrans B6.out BB.out)); rintro e w8 ⟨rfl, hb⟩; have BB : Hid (Below w6.heap.size w6 w8) := btrans (w := w6) BB.out hb; clear hb) | fail)
      all_goals
        go_wp2_with fail
        go_meet
        exact ⟨by first | rfl | simp, btrans B6.out BB.out⟩
    case rest =>
      obtain ⟨rfl, hbx⟩ := hcut
      obtain ⟨w7, hw7⟩ : ∃ x, x = wc := ⟨_, rfl⟩
      rw [← hw7] at hbx ⊢
      have B7 := Lib.hid hbx.out
      clear hw7 hbx B6
      have K7 := Lib.hid (bkeep B7.out G5.out)
      go_upto_region 8 with fail
      go_wp2_with (((with_reducible refine ld25 ?d1 (.tmp 5) ?d2 g5 ?d3 _ _ 25 K7 ?_); (case d1 => rfl); (case d2 => rfl); (case d3 => rfl)))
      refine (after_any _ _ _ mo l _ (MO.out.keep B7.out) (LO.out.keep B7.out)).mono ?_
      rintro e w8 ⟨ve, vf, rfl, hme, hb⟩
      obtain ⟨ae, ne, ce, rfl⟩ := hme.1.slice
      obtain ⟨af, nf, cf, rfl⟩ := hme.2.slice
      rw [← HE.out]
      have B8 : Hid (Below W.heap.size W (w8.alloc (.cells #[.slice ae ne ce, .slice af nf cf] 25))) := balloc (btrans B7.out hb) _
      have N8 : Hid (IsM (w8.alloc (.cells #[.slice ae ne ce, .slice af nf cf] 25)) (.slice ae ne ce) (.slice af nf cf) (afM mo l)) := hme.keep ((Below.refl _ _).alloc (Nat.le_refl _) _)
      have J8 : Hid ((w8.alloc (.cells #[.slice ae ne ce, .slice af nf cf] 25)).heap[w8.heap.size]? = some (.cells #[.slice ae ne ce, .slice af nf cf] 25 (0, 0))) := h1_0 _ _
      clear hb hme B7 K7
      go_upto_region 9 with fail
      generalize w8.alloc (.cells #[.slice ae ne ce, .slice af nf cf] 25) = w9 at *
      generalize w8.heap.size = g11 at *
      have K9 := Lib.hid (bkeep B8.out G2.out)
      go_wp2_with (((with_reducible refine ld25 ?e1 (.tmp 2) ?e2 g2 ?e3 _ _ 25 K9 ?_); (case e1 => rfl); (case e2 => rfl); (case e3 => rfl)))
      refine (rafter_any _ _ _ mo l _ (MM.out.keep B8.out) HCA.out HCP.out (LL.out.keep B8.out)).mono ?_
      rintro e wa ⟨vg, vh, rfl, hmg, _, _, hb⟩
      obtain ⟨ag, ng, cg, rfl⟩ := hmg.1.slice
      obtain ⟨ah, nh, ch, rfl⟩ := hmg.2.slice
      rw [← HE.out]
      have Ba : Hid (Below W.heap.size W (wa.alloc (.cells #[.slice ag ng cg, .slice ah nh ch] 25))) := balloc (btrans B8.out hb) _
      have Na : Hid (IsM (wa.alloc (.cells #[.slice ag ng cg, .slice ah nh ch] 25)) (.slice ae ne ce) (.slice af nf cf) (afM mo l)) := (N8.out.keep hb).keep ((Below.refl _ _).alloc (Nat.le_refl _) _)
      have Oa : Hid (IsM (wa.alloc (.cells #[.slice ag ng cg, .slice ah nh ch] 25)) (.slice ag ng cg) (.slice ah nh ch) (afM mo l)) := hmg.keep ((Below.refl _ _).alloc (Nat.le_refl _) _)
      have Ja : Hid ((wa.alloc (.cells #[.slice ag ng cg, .slice ah nh ch] 25)).heap[g11]? = some (.cells #[.slice ae ne ce, .slice af nf cf] 25 (0, 0))) := hold1 (bkeep hb J8.out) _
      have Ka : Hid ((wa.alloc (.cells #[.slice ag ng cg, .slice ah nh ch] 25)).heap[wa.heap.size]? = some (.cells #[.slice ag ng cg, .slice ah nh ch] 25 (0, 0))) := h1_0 _ _
      clear hb hmg B8 N8 J8 K9
      go_upto_region 10 with fail
      generalize wa.alloc (.cells #[.slice ag ng cg, .slice ah nh ch] 25) = wb at *
      generalize wa.heap.size = g12 at *
      obtain ⟨j0, j1⟩ := c2 Ja.out
      obtain ⟨k0, k1⟩ := c2 Ka.out
      go_wp2_with fail
      refine (same_any _ _ _ _ (afM mo l) _ Na.out Oa.out).mono ?_
      rintro e wd ⟨rfl, hb⟩
      have Bd : Hid (Below W.heap.size W wd) := btrans Ba.out hb
      clear hb Ba Na Oa Ja Ka j0 j1 k0 k1
      have Kd := Lib.hid (bkeep Bd.out G5.out)
      go_wp2_with (((with_reducible refine ld25 ?f1 (.tmp 5) ?f2 g5 ?f3 _ _ 25 Kd ?_); (case f1 => rfl); (case f2 => rfl); (case f3 => rfl)))
      refine (fair_any _ _ mo _ (MO.out.keep Bd.out)).mono ?_
      rintro e we ⟨v1, rfl, hv1, hb⟩
      obtain ⟨af1, nf1, cf1, rfl⟩ := hv1.slice
      obtain ⟨rfl, hfl⟩ := hv1.len
      have Be : Hid (Below W.heap.size W we) := btrans Bd.out hb
      have Ve := Lib.hid hv1
      clear hb hv1 Bd Kd
      have Ke := Lib.hid (bkeep Be.out G2.out)
      go_wp2_with (((with_reducible refine ld25 ?h1 (.tmp 2) ?h2 g2 ?h3 _ _ 25 Ke ?_); (case h1 => rfl); (case h2 => rfl); (case h3 => rfl)))
      refine (rfair_any _ _ mo _ (MM.out.keep Be.out)).mono ?_
      rintro e wf ⟨v2, rfl, hv2, hb⟩
      obtain ⟨af2, nf2, cf2, rfl⟩ := hv2.slice
      obtain ⟨rfl, _⟩ := hv2.len
      have Bf : Hid (Below W.heap.size W wf) := btrans Be.out hb
      have Vf := Lib.hid (Ve.out.keep hb)
      have Uf := Lib.hid hv2
      clear hb hv2 Be Ke Ve
      generalize faL mo = FA at *
      have eC : (ckM mo != ckM mo) = false := by simp
      have eF : ((FA.length : Int) != (FA.length : Int)) = false := by simp
      go_wp2_with fail
      go_loopw [15] (fun i wr => ∃ q : Nat, q ≤ FA.length ∧ i = .int .i64 q ∧ Hid (Below wf.heap.size wf wr)) (fun i _ => FA.length - (intOf i).toNat)
      case atStart => exact ⟨0, by omega, rfl, Below.refl _ _⟩
      case round =>
        obtain ⟨q, hq, rfl, hb⟩ := hrel
        by_cases hlt : q < FA.length
        · obtain ⟨bb, off, rfl, x0, x1, x2, x3, x4⟩ := (Vf.out.keep hb.out).at q hlt
          obtain ⟨bc, ofc, rfl, y0, y1, y2, y3, y4⟩ := (Uf.out.keep hb.out).at q hlt
          have i1 : (0 : Int) ≤ (q : Int) := by omega
          have i2 : (q : Int) < (FA.length : Int) := by omega
          generalize (FA.getD q (0, 0)).1 = kk at *
          generalize (FA.getD q (0, 0)).2 = xx at *
          have e1 : (kk == kk) = true := by simp
          have e2 : (xx == xx) = true := by simp
          go_upto_region 19 with fail
          go_quiet (fail)
          go_wp2_with fail
          go_roundw
          case rel => exact ⟨q + 1, by omega, by go_num, bdrewN hb.out _⟩
          case measure => simp [intOf]; omega
        · have i2 : (FA.length : Int) ≤ (q : Int) := by omega
          have Bg : Hid (Below W.heap.size W wr) := btrans Bf.out hb.out
          clear hb
          obtain ⟨j0, j1⟩ := c2 (bkeep Bg.out G5.out)
          obtain ⟨k0, k1⟩ := c2 (bkeep Bg.out G2.out)
          go_wp2_with fail
          refine (same_any _ _ _ _ mo _ (MO.out.keep Bg.out) (MM.out.keep Bg.out)).mono ?_
          rintro e wh ⟨rfl, hb⟩
          have Bh : Hid (Below W.heap.size W wh) := btrans Bg.out hb
          clear hb j0 j1 k0 k1 Bg
          go_wp2_with fail
          refine (unchanged_any _ _ l _ (LO.out.keep Bh.out) (LL.out.keep Bh.out)).mono ?_
          rintro e wi ⟨rfl, hb⟩
          have Bi : Hid (Below W.heap.size W wi) := btrans Bh.out hb
          clear hb Bh
          go_wp2_with fail
          refine (awake_any _).mono ?_
          rintro e wj ⟨rfl, hb⟩
          have Bj : Hid (Below W.heap.size W wj) := btrans Bi.out hb
          clear hb Bi
          go_wp2_with fail
          go_ret
          exact ⟨rfl, btrans B4.out Bj.out⟩
end Go.Proofs.Ytgdcgmnfgbdiiaa
