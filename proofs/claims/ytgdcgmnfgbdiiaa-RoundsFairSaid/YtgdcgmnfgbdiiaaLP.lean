/- Helper facts for the statements of this seat; no statement itself. -/
import Derived.Test.YtgdcgmnfgbdiiaaLA
import Derived.Test.YtgdcgmnfgbdiiaaPE
import Derived.Test.YtgdcgmnfgbdiiaaOC
import Derived.Test.YtgdcgmnfgbdiiaaHS
import Derived.Test.YtgdcgmnfgbdiiaaR
import Derived.Deep.RegionHeld3
import Derived.Deep.DeepCutAuto
import Derived.Outline
namespace Go.Proofs.Ytgdcgmnfgbdiiaa
open Go.RowKit
set_option linter.unusedSimpArgs false
set_option linter.unusedVariables false
set_option linter.unnecessarySimpa false

theorem IsLog.take {w : World} {a : Option Addr} {n cap : Nat} {l : List En} (h : IsLog w (.slice a n cap) l) (k : Nat) (hk : k ≤ l.length) : IsLog w (.slice a k cap) (l.take k) := by
  obtain ⟨a', n', c', e, h1, h2, h3⟩ := h
  cases e
  refine ⟨_, _, _, rfl, by simp; omega, by simp; omega, ?_⟩
  rcases h3 with rfl | ⟨b, off, rfl, hc⟩
  · left; simp
  · right
    refine ⟨b, off, rfl, fun j hj => ?_⟩
    have hj2 : j < k := by simp at hj; omega
    have e : (l.take k).getD j (0, 0) = l.getD j (0, 0) := by simp [List.getD, List.getElem?_take, hj2]
    rw [e]
    exact hc j (by omega)
theorem IsInts.take {w : World} {a : Option Addr} {n cap : Nat} {l : List Int} (h : IsInts w (.slice a n cap) l) (k : Nat) (hk : k ≤ l.length) : IsInts w (.slice a k cap) (l.take k) := by
  obtain ⟨a', n', c', e, h1, h2, h3⟩ := h
  cases e
  refine ⟨_, _, _, rfl, by simp; omega, by simp; omega, ?_⟩
  rcases h3 with rfl | ⟨b, off, rfl, hc⟩
  · left; simp
  · right
    refine ⟨b, off, rfl, fun j hj => ?_⟩
    have hj2 : j < k := by simp at hj; omega
    have e : (l.take k).getD j 0 = l.getD j 0 := by simp [List.getD, List.getElem?_take, hj2]
    rw [e]
    exact hc j (by omega)
theorem bgN_succ (E : List Int) (k : Nat) (h : k < E.length) : bgN E (k + 1) = E.getD k 0 := lastB_take E k h

set_option maxRecDepth 100000 in
set_option maxHeartbeats 4000000 in
theorem roundsPrefix_walk (ad : Option Addr) (n cap : Nat) (x : Int) (w : World) (hn : n ≤ 9223372036854775807) (hl : SomeInts w ad n) : Calls Try.prog 6 #[.slice ad n cap, .int .i64 x] w fun e w' => e = .returned (.bool true) ∧ Below w.heap.size w w' := by
  have HL := Lib.hid hl
  clear hl
  go_enter Try.func6, Try.ntmps6
  go_wp2_with fail
  refine (roundsKnown_walk _).mono ?_
  rintro e w1 ⟨rfl, hb⟩
  have L1 := Lib.hid (HL.out.keep hb)
  have B1 := Lib.hid hb
  clear hb HL
  go_wp2_with fail
  refine (made_any ad n cap _ hn L1.out).mono ?_
  rintro e w2 ⟨va, vp, vl, l, t, rfl, hm, ho, hld, h60, hb⟩
  obtain ⟨aa, na, ca, rfl⟩ := hm.1.slice
  obtain ⟨ap, np, cp, rfl⟩ := hm.2.slice
  have hcp := ho.cap
  have hlg := ho.log (by omega)
  obtain ⟨al, nl, cl, rfl⟩ := hlg.slice
  obtain ⟨rfl, _⟩ := hlg.len
  have hcl := hcp _ _ _ rfl
  have B2 := Lib.hid (btrans B1.out hb)
  have HM := Lib.hid hm
  have HLG := Lib.hid hlg
  have HLD := Lib.hid hld
  clear hb hm hlg ho hld L1 B1 hcp
  have G3 : Hid ((w2.alloc (.cells #[.slice aa na ca, .slice ap np cp] 25)).heap[w2.heap.size]? = some (.cells #[.slice aa na ca, .slice ap np cp] 25 (0, 0))) := h1_0 _ _
  have M3 : Hid (IsM (w2.alloc (.cells #[.slice aa na ca, .slice ap np cp] 25)) (.slice aa na ca) (.slice ap np cp) m21) := HM.out.keep ((Below.refl _ _).alloc (Nat.le_refl _) _)
  have L3 : Hid (IsLog (w2.alloc (.cells #[.slice aa na ca, .slice ap np cp] 25)) (.slice al l.length cl) l) := HLG.out.keep ((Below.refl _ _).alloc (Nat.le_refl _) _)
  have B3 : Hid (Below w.heap.size w (w2.alloc (.cells #[.slice aa na ca, .slice ap np cp] 25))) := balloc B2.out _
  have i60 : (l.length : Int) ≤ 60 := by omega
  have i00 : (0 : Int) ≤ (l.length : Int) := by omega
  go_upto_region 3 with fail
  generalize w2.alloc (.cells #[.slice aa na ca, .slice ap np cp] 25) = w3 at *
  generalize w2.heap.size = g at *
  clear B2 HM HLG
  go_wp2_with fail
  refine (mod_any x ((l.length : Int) + 1) _ (by omega) (by omega)).mono ?_
  rintro e w4 ⟨rfl, rfl⟩
  have f0 := Int.emod_nonneg x (show ((l.length : Int) + 1) ≠ 0 by omega)
  have f1 := Int.emod_lt_of_pos x (show (0 : Int) < (l.length : Int) + 1 by omega)
  generalize x % ((l.length : Int) + 1) = y at *
  obtain ⟨f, rfl⟩ := Int.eq_ofNat_of_zero_le f0
  have hf : f ≤ l.length := by omega
  have HV := Lib.hid (HLD.out.vld ck21 (by omega))
  have HE : Hid (enL m21 l = enN (st0 m21) l l.length) := if_pos HV.out
  have HV2 : Hid ((vldL m21 (l.take f)).1 = 0) := by
    show _ = _
    unfold vldL
    rw [if_pos ck21, if_neg (by simp; omega), vlF_ok (fun j hj => by rw [List.length_take] at hj; rw [erN_take _ _ _ _ hf (by omega)]; exact HLD.out.1 j (by omega))]
  have HF : Hid (enL m21 (l.take f) = enN (st0 m21) l f) := by
    show _ = _
    unfold enL
    rw [if_pos HV2.out, List.length_take, Nat.min_eq_left hf, enN_take _ _ _ hf]
  have HP := Lib.hid (pre_facts (st0 m21) l f l.length hf)
  have HR := Lib.hid (rounds_ok (Wf_st0 m21) l.length HLD.out.1).1
  rw [← HE.out, ← HF.out] at HP
  rw [← HE.out] at HR
  have HEL : Hid ((enL m21 l).length ≤ 60) := by show _ ≤ _; rw [HE.out]; have := enN_len (st0 m21) l l.length; omega
  go_wp2_with (((with_reducible refine ld25 ?a1 (.tmp 6) ?a2 g ?a3 _ _ 25 G3 ?_); (case a1 => rfl); (case a2 => rfl); (case a3 => rfl)))
  refine (endsC_any _ _ _ m21 l _ M3.out L3.out).mono ?_
  rintro e w5 ⟨v5, rfl, hv5, hc5, hb⟩
  rw [HV.out]
  obtain ⟨a5, n5, c5, rfl⟩ := hv5.slice
  obtain ⟨rfl, _⟩ := hv5.len
  have hc5 := hc5 _ _ _ rfl
  have V5 := Lib.hid hv5
  have B5 := Lib.hid (btrans B3.out hb)
  have G5 := Lib.hid (bkeep hb G3.out)
  have M5 := Lib.hid (M3.out.keep hb)
  have L5 := Lib.hid (L3.out.keep hb)
  clear hb hv5 B3 G3 M3 L3
  go_upto_region 5 with fail
  go_cut [10, 11] (fun s10 s11 wx => ∃ a6 c6, s10 = .slice a6 (enL m21 (l.take f)).length c6 ∧ Hid (IsInts wx s10 (enL m21 (l.take f))) ∧ s11 = .int .i64 0 ∧ Hid (Below w5.heap.size w5 wx))
  case first =>
    obtain ⟨c0, c1⟩ := c2 G5.out
    have j1 : (0 : Int) ≤ (f : Int) := by omega
    have j2 : (f : Int) ≤ (cl : Int) := by omega
    have j3 : (f : Int) ≤ (l.length : Int) := by omega
    clear f0 f1 i60 i00
    go_region_held3 (fun w' => w'.cell? ⟨g, 0, none⟩ = some (.slice aa na ca) ∧ w'.cell? ⟨g, 1, none⟩ = some (.slice ap np cp))
      (refine ⟨?_, ?_⟩ <;> (with_reducible repeat (first | exact c0 | exact c1 | exact cellB B6.out c0 | exact cellB B6.out c1 | refine cellD ?_)))
      (first | (go_at_call 11; (with_reducible refine (ends_any _ _ _ m21 (l.take f) _ ?k1 ?k2).mono ?_); (case k1 => exact M5.out); (case k2 => exact L5.out.take f hf); rintro e w6 ⟨v6, rfl, hv6, hb6⟩; rw [HV2.out]; obtain ⟨a6, n6, c6, rfl⟩ := hv6.slice; obtain ⟨rfl, _⟩ := hv6.len; have V6 := Lib.hid hv6; have B6 : Hid (Below w5.heap.size w5 w6) := btrans (w := w5) (Below.drew (Below.refl _ _)) hb6; clear hb6 hv6))
    all_goals
      go_wp2_with fail
      go_meet
      exact ⟨a6, c6, rfl, V6, rfl, B6⟩
  case rest =>
    obtain ⟨w6, hw6⟩ : ∃ x, x = wc := ⟨_, rfl⟩
    rw [← hw6] at hcut ⊢
    clear hw6
    obtain ⟨a6, c6, rfl, hv6, rfl, hbx⟩ := hcut
    have V6 := Lib.hid (V5.out.keep hbx.out)
    have B6 := Lib.hid (btrans B5.out hbx.out)
    have G6 := Lib.hid (bkeep hbx.out G5.out)
    have M6 := Lib.hid (M5.out.keep hbx.out)
    have L6 := Lib.hid (L5.out.keep hbx.out)
    clear hbx V5 B5 G5 M5 L5 HE HF HV2
    generalize enL m21 (l.take f) = F at *
    generalize enL m21 l = E at *
    have e1 : (F.length : Int) ≤ (E.length : Int) := by have := HP.out.1; omega
    have e2 : (F.length : Int) ≤ (c5 : Int) := by have := HP.out.1; omega
    have e3 : (0 : Int) ≤ (F.length : Int) := by omega
    have e4 := HEL.out
    have HS := Lib.hid (V6.out.take F.length HP.out.1)
    rw [HP.out.2.1] at HS
    go_upto_region 6 with fail
    go_cut [85] (fun s85 wx => s85 = .bool false ∧ Hid (Below w6.heap.size w6 wx))
    case first =>
      go_wp2_with fail
      refine (sameInts_any _ _ F F _ hv6.out HS.out).mono ?_
      rintro e w7 ⟨rfl, hb⟩
      rw [show (F == F) = true from by simp]
      have B7 := Lib.hid hb
      have V7 := Lib.hid (V6.out.keep hb)
      clear hb
      by_cases hlt : F.length < E.length
      · obtain ⟨bb, off, rfl, c0⟩ := V7.out.at F.length hlt
        have k1 : (F.length : Int) < (E.length : Int) := by omega
        have k2 := HP.out.2.2 hlt
        generalize E.getD F.length 0 = z at *
        go_wp2_with fail
        go_meet
        exact ⟨by rw [Value.bool.injEq]; simp; omega, B7⟩
      · have k1 : (F.length : Int) = (E.length : Int) := by omega
        have k2 : (E.length : Int) ≤ (F.length : Int) := by omega
        go_wp2_with fail
        go_meet
        exact ⟨by rw [Value.bool.injEq]; simp; omega, B7⟩
    case rest =>
      obtain ⟨rfl, hbx⟩ := hcut
      have V7 := Lib.hid (V6.out.keep hbx.out)
      have B7 := Lib.hid (btrans B6.out hbx.out)
      have G7 := Lib.hid (bkeep hbx.out G6.out)
      have M7 := Lib.hid (M6.out.keep hbx.out)
      have L7 := Lib.hid (L6.out.keep hbx.out)
      clear hbx V6 B6 G6 M6 L6 hv6 HS HP e1 e2 e3
      obtain ⟨w7, hw7⟩ : ∃ x, x = wc := ⟨_, rfl⟩
      rw [← hw7] at V7 B7 G7 M7 L7 ⊢
      clear hw7
      go_wp2_with fail
      go_loopw [12, 13, 14, 15] (fun b i s q wr => ∃ k : Nat, k ≤ E.length ∧ i = .int .i64 k ∧ b = .int .i64 (bgN E k) ∧ Hid (Below w7.heap.size w7 wr)) (fun _ i _ _ _ => E.length - (intOf i).toNat)
      case atStart => exact ⟨0, by omega, rfl, rfl, Below.refl _ _⟩
      case round =>
        obtain ⟨k, hk, rfl, rfl, hb⟩ := hrel
        by_cases hlt : k < E.length
        · obtain ⟨r1, r2, r3, j, r4, r5, r6⟩ := HR.out k hlt
          have HBG := Lib.hid (bgN_succ E k hlt)
          obtain ⟨bN, hbN⟩ := Int.eq_ofNat_of_zero_le r3
          obtain ⟨eN, heN⟩ := Int.eq_ofNat_of_zero_le (show 0 ≤ E.getD k 0 by omega)
          rw [hbN, heN] at r1
          rw [heN] at r2 r5
          rw [hbN] at r4
          have RR := Lib.hid r6
          obtain ⟨be, oe, rfl, ce⟩ := (V7.out.keep hb.out).at k hlt
          rw [heN] at ce
          rw [hbN]
          have i1 : (0 : Int) ≤ (k : Int) := by omega
          have i2 : (k : Int) < (E.length : Int) := by omega
          rw [heN] at HBG
          have HEN := Lib.hid heN
          clear r3 r6 hbN heN
          go_wp2_with fail
          have RL := Lib.hid r2
          go_loopw [14, 15] (fun s v wr => ∃ (q : Nat) (b : Bool), bN ≤ q ∧ q ≤ eN ∧ s = .bool b ∧ v = .int .i64 q ∧ Hid (b = false → ∀ j : Nat, bN ≤ j → j < q → l.getD j (0, 0) ≠ (1, 0)) ∧ Hid (Below w7.heap.size w7 wr)) (fun _ v _ => eN - (intOf v).toNat)
          case atStart => exact ⟨bN, false, by omega, by omega, rfl, rfl, fun _ j h1 h2 => by omega, hb⟩
          case round =>
            obtain ⟨q, b, q1, q2, rfl, rfl, hq, hb⟩ := hrel
            clear ce
            obtain ⟨_, _, e9, ce⟩ := (V7.out.keep hb.out).at k hlt
            cases e9
            rw [HEN.out] at ce
            have j1 : (0 : Int) ≤ (q : Int) := by omega
            by_cases hqe : q < eN
            · obtain ⟨bl, ol, rfl, d0, d1⟩ := (L7.out.keep hb.out).at q (by omega)
              have j2 : (q : Int) < (eN : Int) := by omega
              have j3 : (q : Int) < (l.length : Int) := by omega
              cases b with
              | true =>
                clear d0 d1
                go_upto_region 16 with fail
                go_quiet (fail)
                go_wp2_with fail
                go_roundw
                case rel => exact ⟨q + 1, true, by omega, by omega, rfl, by go_num, (fun h => by cases h), bdrewN hb.out _⟩
                case measure => simp [intOf]; omega
              | false =>
                by_cases hent : l.getD q (0, 0) = (1, 0)
                · rw [hent] at d0 d1
                  simp only [] at d0 d1
                  go_upto_region 16 with fail
                  have BB : Hid (Below wr.heap.size wr wr) := Below.refl _ _
                  go_region_held3 (fun w' => w'.cell? ⟨bl, ol + q * 2, none⟩ = some (.int .i64 1) ∧ w'.cell? ⟨bl, ol + q * 2 + 1, none⟩ = some (.int .i64 0))
                    (refine ⟨?_, ?_⟩ <;> (with_reducible repeat (first | exact d0 | exact d1 | refine cellD ?_ | refine cellA ?_ _)))
                    (first | (go_at_call 13; (with_reducible refine (entry_any 1 0 _).mono ?_); rintro e w8 ⟨rfl, rfl⟩))
                  all_goals
                    go_wp2_with fail
                    go_roundw
                    case rel => exact ⟨q + 1, true, by omega, by omega, by first | rfl | trivial, by go_num, (fun h => by cases h), by refine Lib.hid ?_; with_reducible repeat (first | exact hb.out | refine balloc ?_ _ | refine Below.drew ?_)⟩
                    case measure => simp [intOf]; omega
                · have HNE : Hid (∀ j : Nat, bN ≤ j → j < q + 1 → l.getD j (0, 0) ≠ (1, 0)) := fun j h1 h2 => by
                    by_cases ej : j = q
                    · subst ej; exact hent
                    · exact hq.out rfl j h1 (by omega)
                  have hne : ((l.getD q (0, 0)).1 == 1) = false ∨ (((l.getD q (0, 0)).1 == 1) = true ∧ ((l.getD q (0, 0)).2 == 0) = false) := by
                    by_cases h1 : (l.getD q (0, 0)).1 = 1
                    · refine .inr ⟨by simpa using h1, ?_⟩
                      rw [beq_eq_false_iff_ne]
                      exact fun h2 => hent (Prod.ext h1 h2)
                    · exact .inl (by simpa using h1)
                  generalize (l.getD q (0, 0)).1 = kk at *
                  generalize (l.getD q (0, 0)).2 = xx at *
                  clear hent
                  rcases hne with h1 | ⟨h1, h2⟩
                  all_goals
                    go_upto_region 16 with fail
                    go_region_held3 (fun w' => w'.cell? ⟨bl, ol + q * 2, none⟩ = some (.int .i64 kk) ∧ w'.cell? ⟨bl, ol + q * 2 + 1, none⟩ = some (.int .i64 xx))
                      (refine ⟨?_, ?_⟩ <;> (with_reducible repeat (first | exact d0 | exact d1 | refine cellD ?_ | refine cellA ?_ _)))
                      (first | (go_at_call 13; (with_reducible refine (entry_any 1 0 _).mono ?_); rintro e w8 ⟨rfl, rfl⟩))
                    all_goals
                      go_wp2_with fail
                      go_roundw
                      case rel => exact ⟨q + 1, false, by omega, by omega, by first | rfl | trivial, by go_num, (fun _ => HNE.out), by refine Lib.hid ?_; with_reducible repeat (first | exact hb.out | refine balloc ?_ _ | refine Below.drew ?_)⟩
                      case measure => simp [intOf]; omega
            · obtain rfl : q = eN := by omega
              obtain rfl : b = true := by
                cases b with
                | true => rfl
                | false => exact absurd RR.out (hq.out rfl j (by omega) (by omega))
              have j2 := RL.out
              have j4 : (bN : Int) < (q : Int) := by omega
              go_wp2_with fail
              go_roundw
              case rel => exact ⟨k + 1, by omega, by go_num, by rw [HBG.out], hb⟩
              case measure => simp [intOf]; omega
        · obtain rfl : k = E.length := by omega
          have i2 : (E.length : Int) ≤ (E.length : Int) := by omega
          obtain ⟨w8, hw8⟩ : ∃ x, x = wr := ⟨_, rfl⟩
          rw [← hw8] at hb ⊢
          clear hw8
          have B8 := Lib.hid (btrans B7.out hb.out)
          have G8 := Lib.hid (bkeep hb.out G7.out)
          have M8 := Lib.hid (M7.out.keep hb.out)
          have L8 := Lib.hid (L7.out.keep hb.out)
          clear hb B7 G7 M7 L7 V7 HR
          have HA : Hid (owA m21 l = idx (owN (st0 m21) l l.length).a) := if_pos HV.out
          have HB : Hid (owB m21 l = idx (owN (st0 m21) l l.length).s) := if_pos HV.out
          have HC : Hid (afM m21 l = ⟨idx (stN (st0 m21) l l.length).a, idx (stN (st0 m21) l l.length).s⟩) := if_pos HV.out
          have HQ1 : Hid (∀ k, k < (owA m21 l).length → (owA m21 l).getD k 0 ≠ 0 → (afM m21 l).b.contains ((owA m21 l).getD k 0) = true) := by
            show ∀ k, _
            rw [HA.out, HC.out]
            intro k hk h0
            rw [List.contains_iff_mem]
            refine (owed_in l.length HLD.out.1).1 _ ?_ h0
            simp only [List.getD, List.getElem?_eq_getElem hk, Option.getD_some]
            exact List.getElem_mem hk
          have HQ2 : Hid (∀ k, k < (owB m21 l).length → (afM m21 l).p.contains ((owB m21 l).getD k 0) = true) := by
            show ∀ k, _
            rw [HB.out, HC.out]
            intro k hk
            rw [List.contains_iff_mem]
            refine (owed_in l.length HLD.out.1).2 _ ?_
            simp only [List.getD, List.getElem?_eq_getElem hk, Option.getD_some]
            exact List.getElem_mem hk
          have HQ3 : Hid (0 < (owA m21 l).length + (owB m21 l).length ∧ (owA m21 l).length ≤ 9 ∧ (owB m21 l).length ≤ 256) := by
            refine ⟨by rw [HA.out, HB.out]; exact owed_len (Wf_st0 m21) l l.length, ?_, ?_⟩
            · rw [HA.out]; have := idx_len (owN (st0 m21) l l.length).a; rw [(Wf_owN (Wf_st0 m21) l l.length).1] at this; exact this
            · rw [HB.out]; have := idx_len (owN (st0 m21) l l.length).s; rw [(Wf_owN (Wf_st0 m21) l l.length).2] at this; exact this
          clear HA HB HC
          go_wp2_with (((with_reducible refine ld25 ?m1 (.tmp 6) ?m2 g ?m3 _ _ 25 G8 ?_); (case m1 => rfl); (case m2 => rfl); (case m3 => rfl)))
          refine (owed_any _ _ _ m21 l _ M8.out L8.out).mono ?_
          rintro e w9 ⟨v9, x9, rfl, hv9, hx9, hb⟩
          rw [HV.out]
          have B9 := Lib.hid (btrans B8.out hb)
          have G9 := Lib.hid (bkeep hb G8.out)
          have M9 := Lib.hid (M8.out.keep hb)
          have L9 := Lib.hid (L8.out.keep hb)
          have V9 := Lib.hid hv9
          have X9 := Lib.hid hx9
          clear hb B8 G8 M8 L8 hv9 hx9
          go_wp2_with (((with_reducible refine ld25 ?n1 (.tmp 6) ?n2 g ?n3 _ _ 25 G9 ?_); (case n1 => rfl); (case n2 => rfl); (case n3 => rfl)))
          refine (after_any _ _ _ m21 l _ M9.out L9.out).mono ?_
          rintro e wa ⟨ve, vf, rfl, hme, hb⟩
          rw [HV.out]
          obtain ⟨ae, ne, ce, rfl⟩ := hme.1.slice
          obtain ⟨af, nf, cf, rfl⟩ := hme.2.slice
          have Ba := Lib.hid (btrans B9.out hb)
          have Va := Lib.hid (V9.out.keep hb)
          have Xa := Lib.hid (X9.out.keep hb)
          have Ma := Lib.hid hme
          clear hb hme B9 G9 M9 L9 V9 X9
          have Gb : Hid ((wa.alloc (.cells #[.slice ae ne ce, .slice af nf cf] 25)).heap[wa.heap.size]? = some (.cells #[.slice ae ne ce, .slice af nf cf] 25 (0, 0))) := h1_0 _ _
          have Mb : Hid (IsM (wa.alloc (.cells #[.slice ae ne ce, .slice af nf cf] 25)) (.slice ae ne ce) (.slice af nf cf) (afM m21 l)) := Ma.out.keep ((Below.refl _ _).alloc (Nat.le_refl _) _)
          have Vb : Hid (IsInts (wa.alloc (.cells #[.slice ae ne ce, .slice af nf cf] 25)) v9 (owA m21 l)) := Va.out.keep ((Below.refl _ _).alloc (Nat.le_refl _) _)
          have Xb : Hid (IsInts (wa.alloc (.cells #[.slice ae ne ce, .slice af nf cf] 25)) x9 (owB m21 l)) := Xa.out.keep ((Below.refl _ _).alloc (Nat.le_refl _) _)
          have Bb : Hid (Below w.heap.size w (wa.alloc (.cells #[.slice ae ne ce, .slice af nf cf] 25))) := balloc Ba.out _
          clear Ba Va Xa Ma
          generalize owA m21 l = P at *
          generalize owB m21 l = S at *
          generalize afM m21 l = M at *
          obtain ⟨a9, n9, c9, rfl⟩ := Vb.out.slice
          obtain ⟨rfl, _⟩ := Vb.out.len
          obtain ⟨b9, m9, d9, rfl⟩ := Xb.out.slice
          obtain ⟨rfl, _⟩ := Xb.out.len
          go_upto_region 22 with fail
          generalize wa.alloc (.cells #[.slice ae ne ce, .slice af nf cf] 25) = wb at *
          generalize wa.heap.size = h at *
          obtain ⟨p0, p9, s256⟩ := HQ3.out
          go_wp2_with fail
          go_loopw [21] (fun i wr => ∃ k : Nat, k ≤ P.length ∧ i = .int .i64 k ∧ Hid (Below wb.heap.size wb wr)) (fun i _ => P.length - (intOf i).toNat)
          case atStart => exact ⟨0, by omega, rfl, Below.refl _ _⟩
          case round =>
            obtain ⟨k, hk, rfl, hb⟩ := hrel
            by_cases hlt : k < P.length
            · obtain ⟨bp, op, rfl, cp1⟩ := (Vb.out.keep hb.out).at k hlt
              obtain ⟨q0, q1⟩ := c2 (bkeep hb.out Gb.out)
              have i3 : (0 : Int) ≤ (k : Int) := by omega
              have i4 : (k : Int) < (P.length : Int) := by omega
              by_cases hz : P.getD k 0 = 0
              · rw [hz] at cp1
                clear q0 q1
                go_upto_region 27 with fail
                go_quiet (fail)
                go_wp2_with fail
                go_roundw
                case rel => exact ⟨k + 1, by omega, by go_num, bdrewN hb.out _⟩
                case measure => simp [intOf]; omega
              · have hne : (P.getD k 0 != 0) = true := by simpa using hz
                have HH : Hid (∀ n, Calls Try.prog 32 #[.slice ae ne ce, .int .i64 (P.getD k 0)] (wr.drewN n) fun e w' => e = .returned (.bool true) ∧ wr.drewN n = w') := fun n => by
                  have := hasI_any (.slice ae ne ce) M.b (P.getD k 0) (wr.drewN n) (Mb.out.keep hb.out).1
                  rw [HQ1.out k hlt hz] at this
                  exact this
                generalize P.getD k 0 = z at *
                clear hz
                go_upto_region 27 with fail
                go_quiet ((go_at_call 32; exact quiet_same (HH.out _)))
                go_wp2_with fail
                go_roundw
                case rel => exact ⟨k + 1, by omega, by go_num, bdrewN hb.out _⟩
                case measure => simp [intOf]; omega
            · obtain rfl : k = P.length := by omega
              go_wp2_with fail
              go_loopw [22] (fun i wr => ∃ k : Nat, k ≤ S.length ∧ i = .int .i64 k ∧ Hid (Below wb.heap.size wb wr)) (fun i _ => S.length - (intOf i).toNat)
              case atStart => exact ⟨0, by omega, rfl, hb⟩
              case round =>
                obtain ⟨k, hk, rfl, hb⟩ := hrel
                by_cases hlt : k < S.length
                · obtain ⟨bp, op, rfl, cp1⟩ := (Xb.out.keep hb.out).at k hlt
                  obtain ⟨q0, q1⟩ := c2 (bkeep hb.out Gb.out)
                  have i3 : (0 : Int) ≤ (k : Int) := by omega
                  have i4 : (k : Int) < (S.length : Int) := by omega
                  have HH : Hid (∀ n, Calls Try.prog 32 #[.slice af nf cf, .int .i64 (S.getD k 0)] (wr.drewN n) fun e w' => e = .returned (.bool true) ∧ wr.drewN n = w') := fun n => by
                    have := hasI_any (.slice af nf cf) M.p (S.getD k 0) (wr.drewN n) (Mb.out.keep hb.out).2
                    rw [HQ2.out k hlt] at this
                    exact this
                  generalize S.getD k 0 = z at *
                  go_upto_region 32 with fail
                  go_quiet ((go_at_call 32; exact quiet_same (HH.out _)))
                  go_wp2_with fail
                  go_roundw
                  case rel => exact ⟨k + 1, by omega, by go_num, bdrewN hb.out _⟩
                  case measure => simp [intOf]; omega
                · have i5 : (S.length : Int) ≤ (k : Int) := by omega
                  have j5 : (0 : Int) < (P.length : Int) + (S.length : Int) := by omega
                  go_wp2_with fail
                  go_ret
                  exact ⟨by first | rfl | (rw [decide_eq_true (by omega)]; rfl), btrans Bb.out hb.out⟩
end Go.Proofs.Ytgdcgmnfgbdiiaa
