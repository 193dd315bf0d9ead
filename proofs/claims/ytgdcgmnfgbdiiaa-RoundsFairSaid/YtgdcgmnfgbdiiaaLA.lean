/- Helper facts for the statements of this seat; no statement itself. -/
import Derived.Test.YtgdcgmnfgbdiiaaZ
import Derived.Test.YtgdcgmnfgbdiiaaMD
import Derived.Test.YtgdcgmnfgbdiiaaPC
import Derived.Test.YtgdcgmnfgbdiiaaS
import Derived.Test.YtgdcgmnfgbdiiaaT
import Derived.Outline
namespace Go.Proofs.Ytgdcgmnfgbdiiaa
open Go.RowKit
set_option linter.unusedSimpArgs false
set_option linter.unusedVariables false
set_option linter.unnecessarySimpa false

theorem lsF_take (f : Int) (E : List Int) (k : Nat) (h : k < E.length) : lsF f 0 (E.take (k + 1)) = lsF f 0 (E.take k) + (if f ≤ lastB 0 (E.take k) then 1 else 0) := by
  rw [List.take_succ_eq_append_getElem h, lsF_snoc]
theorem lastB_take (E : List Int) (k : Nat) (h : k < E.length) : lastB 0 (E.take (k + 1)) = E.getD k 0 := by
  rw [List.take_succ_eq_append_getElem h, lastB_snoc]
  simp [List.getD, h]
theorem lsF_le (f b : Int) (E : List Int) : lsF f b E ≤ E.length := by
  induction E generalizing b with
  | nil => exact Nat.le_refl _
  | cons x E ih =>
    have := ih x
    simp only [lsF, List.length_cons]
    split <;> omega
theorem ck21 : ckM m21 = 0 := by decide +kernel

set_option maxRecDepth 100000 in
set_option maxHeartbeats 4000000 in
theorem roundsAnew_walk (ad : Option Addr) (n cap : Nat) (x : Int) (w : World) (hn : n ≤ 9223372036854775807) (hl : SomeInts w ad n) : Calls Try.prog 3 #[.slice ad n cap, .int .i64 x] w fun e w' => e = .returned (.bool true) ∧ Below w.heap.size w w' := by
  have HL := Lib.hid hl
  clear hl
  go_enter Try.func3, Try.ntmps3
  go_wp2_with fail
  refine (roundsKnown_walk _).mono ?_
  rintro e w1 ⟨rfl, hb⟩
  have L1 := Lib.hid (HL.out.keep hb)
  have B1 := Lib.hid hb
  clear hb HL
  go_wp2_with fail
  refine (made_any ad n cap _ hn L1.out).mono ?_
  rintro e w2 ⟨va, vp, vl, l, t, rfl, hm, ho, hld, h60, hb⟩
  obtain ⟨aa, na, ca, rfl⟩ := hm.1.slice
  obtain ⟨ap, np, cp, rfl⟩ := hm.2.slice
  have hcp := Lib.hid ho.cap
  have hlg := ho.log (by omega)
  obtain ⟨al, nl, cl, rfl⟩ := hlg.slice
  obtain ⟨rfl, _⟩ := hlg.len
  have B2 := Lib.hid (btrans B1.out hb)
  have HM := Lib.hid hm
  have HLG := Lib.hid hlg
  have HLD := Lib.hid hld
  clear hb hm hlg ho hld L1 B1
  have G3 : Hid ((w2.alloc (.cells #[.slice aa na ca, .slice ap np cp] 25)).heap[w2.heap.size]? = some (.cells #[.slice aa na ca, .slice ap np cp] 25 (0, 0))) := h1_0 _ _
  have M3 : Hid (IsM (w2.alloc (.cells #[.slice aa na ca, .slice ap np cp] 25)) (.slice aa na ca) (.slice ap np cp) m21) := HM.out.keep ((Below.refl _ _).alloc (Nat.le_refl _) _)
  have L3 : Hid (IsLog (w2.alloc (.cells #[.slice aa na ca, .slice ap np cp] 25)) (.slice al l.length cl) l) := HLG.out.keep ((Below.refl _ _).alloc (Nat.le_refl _) _)
  have B3 : Hid (Below w.heap.size w (w2.alloc (.cells #[.slice aa na ca, .slice ap np cp] 25))) := balloc B2.out _
  have i60 : (l.length : Int) ≤ 60 := by omega
  have i00 : (0 : Int) ≤ (l.length : Int) := by omega
  go_upto_region 3 with fail
  generalize w2.alloc (.cells #[.slice aa na ca, .slice ap np cp] 25) = w3 at *
  generalize w2.heap.size = g at *
  clear B2 HM HLG
  go_wp2_with fail
  refine (mod_any x ((l.length : Int) + 1) _ (by omega) (by omega)).mono ?_
  rintro e w4 ⟨rfl, rfl⟩
  have f0 := Int.emod_nonneg x (show ((l.length : Int) + 1) ≠ 0 by omega)
  have f1 := Int.emod_lt_of_pos x (show (0 : Int) < (l.length : Int) + 1 by omega)
  generalize x % ((l.length : Int) + 1) = y at *
  obtain ⟨f, rfl⟩ := Int.eq_ofNat_of_zero_le f0
  have HV := Lib.hid (HLD.out.vld ck21 (by omega))
  have HF : Hid (f ≤ l.length) := by show _ ≤ _; omega
  have HW : Hid (wiE m21 l f l.length = 0) := by show _ = _; unfold wiE; rw [if_pos HV.out, if_neg (by omega)]
  have HE : Hid (enL m21 l = enN (st0 m21) l l.length) := if_pos HV.out
  have HN : Hid (wiN m21 l f l.length = ((enN (stN (st0 m21) l f) (subL l f l.length) (subL l f l.length).length).length : Int)) := by show _ = _; unfold wiN; rw [if_pos HW.out]; rfl
  have HA := Lib.hid (anew HLD.out.1 f HF.out)
  have HEL : Hid ((enL m21 l).length ≤ 60) := by show _ ≤ _; rw [HE.out]; have := enN_len (st0 m21) l l.length; omega
  go_wp2_with (((with_reducible refine ld25 ?a1 (.tmp 6) ?a2 g ?a3 _ _ 25 G3 ?_); (case a1 => rfl); (case a2 => rfl); (case a3 => rfl)))
  refine (ends_any _ _ _ m21 l _ M3.out L3.out).mono ?_
  rintro e w5 ⟨v5, rfl, hv5, hb⟩
  rw [HV.out]
  have V5 := Lib.hid hv5
  have B5 := Lib.hid (btrans B3.out hb)
  have G5 := Lib.hid (bkeep hb G3.out)
  have M5 := Lib.hid (M3.out.keep hb)
  have L5 := Lib.hid (L3.out.keep hb)
  clear hb hv5 B3 G3 M3 L3
  go_wp2_with (((with_reducible refine ld25 ?c1 (.tmp 6) ?c2 g ?c3 _ _ 25 G5 ?_); (case c1 => rfl); (case c2 => rfl); (case c3 => rfl)))
  refine (within_any _ _ _ m21 l f l.length _ M5.out L5.out hcp.out).mono ?_
  rintro e w6 ⟨rfl, hb⟩
  rw [HW.out]
  have V6 := Lib.hid (V5.out.keep hb)
  have B6 := Lib.hid (btrans B5.out hb)
  clear hb B5 G5 M5 L5 V5
  have HQ : Hid (∃ c : Nat, wiN m21 l f l.length = c ∧ lsF f 0 (enL m21 l) ≤ c ∧ c ≤ (enL m21 l).length) := ⟨_, HN.out, by rw [HE.out]; exact HA.out.1, by rw [HE.out]; exact HA.out.2⟩
  clear HN HA HE HW HV
  generalize wiN m21 l f l.length = N at *
  generalize enL m21 l = E at *
  obtain ⟨a5, n5, c5, rfl⟩ := V6.out.slice
  obtain ⟨rfl, _⟩ := V6.out.len
  obtain ⟨c, rfl, hc1, hc2⟩ := HQ.out
  have hE := HEL.out
  clear HQ
  go_wp2_with fail
  go_loopw [12, 13, 14] (fun s b i wr => ∃ k : Nat, k ≤ E.length ∧ i = .int .i64 k ∧ s = .int .i64 (lsF f 0 (E.take k) : Nat) ∧ b = .int .i64 (lastB 0 (E.take k)) ∧ wr = w6) (fun _ _ i _ => E.length - (intOf i).toNat)
  case atStart => exact ⟨0, by omega, rfl, rfl, rfl, rfl⟩
  case round =>
    obtain ⟨k, hk, rfl, rfl, rfl, rfl⟩ := hrel
    by_cases hlt : k < E.length
    · obtain ⟨bb, off, rfl, c0⟩ := V6.out.at k hlt
      have HT := Lib.hid (lsF_take f E k hlt)
      have HB := Lib.hid (lastB_take E k hlt)
      have hs : lsF f 0 (E.take k) ≤ 60 := by have := lsF_le f 0 (E.take k); rw [List.length_take] at this; omega
      have i1 : (0 : Int) ≤ (k : Int) := by omega
      have i2 : (k : Int) < (E.length : Int) := by omega
      by_cases hge : (f : Int) ≤ lastB 0 (E.take k)
      · rw [if_pos hge] at HT
        generalize lsF f 0 (E.take k) = s at *
        generalize lastB 0 (E.take k) = b at *
        generalize E.getD k 0 = z at *
        go_wp2_with fail
        go_roundw
        case rel => exact ⟨k + 1, by omega, by go_num, by rw [HT.out]; go_num, by rw [HB.out], by first | rfl | trivial⟩
        case measure => simp [intOf]; omega
      · rw [if_neg hge] at HT
        have hge' : lastB 0 (E.take k) < (f : Int) := by omega
        generalize lsF f 0 (E.take k) = s at *
        generalize lastB 0 (E.take k) = b at *
        generalize E.getD k 0 = z at *
        go_wp2_with fail
        go_roundw
        case rel => exact ⟨k + 1, by omega, by go_num, by rw [HT.out]; rfl, by rw [HB.out], by first | rfl | trivial⟩
        case measure => simp [intOf]; omega
    · obtain rfl : k = E.length := by omega
      have e1 : E.take E.length = E := List.take_length
      rw [e1]
      have j1 : (c : Int) ≤ (E.length : Int) := by omega
      have j2 : ((lsF f 0 E : Nat) : Int) ≤ (c : Int) := by omega
      generalize lsF f 0 E = s at *
      generalize lastB 0 E = b at *
      go_wp2_with fail
      go_ret
      exact ⟨rfl, B6.out⟩
end Go.Proofs.Ytgdcgmnfgbdiiaa
