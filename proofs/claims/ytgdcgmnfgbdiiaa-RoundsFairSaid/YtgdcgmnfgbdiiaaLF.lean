/- Helper facts for the statements of this seat; no statement itself. -/
import Derived.Test.YtgdcgmnfgbdiiaaLP
import Derived.Test.YtgdcgmnfgbdiiaaPF
import Derived.Test.YtgdcgmnfgbdiiaaLG
import Derived.Test.YtgdcgmnfgbdiiaaAQ
import Derived.Deep.RegionHeld3
import Derived.Deep.DeepCutAuto
import Derived.Outline
namespace Go.Proofs.Ytgdcgmnfgbdiiaa
open Go.RowKit
set_option linter.unusedSimpArgs false
set_option linter.unusedVariables false
set_option linter.unnecessarySimpa false

theorem faL_len {m : Mo} (h : ckM m = 0) : (faL m).length = m.b.length + m.p.length + 1 := by
  unfold faL
  rw [if_pos h]
  simp [faC]
  omega
def cpL (l : List Int) : List En := l.map fun x => (5, x)
theorem cpL_take (l : List Int) (k : Nat) (h : k < l.length) : cpL (l.take (k + 1)) = cpL (l.take k) ++ [(5, l.getD k 0)] := by
  unfold cpL
  rw [List.take_succ_eq_append_getElem h, List.map_append]
  simp [List.getD, h]

theorem perm_pick {od lf : List En} {j : Nat} (h : j < lf.length) : ((od ++ [lf.getD j (0, 0)]) ++ (lf.take j ++ lf.drop (j + 1))).Perm (od ++ lf) := by
  have e : lf = lf.take j ++ (lf.getD j (0, 0) :: lf.drop (j + 1)) := by rw [← drop_cons h, List.take_append_drop]
  rw [List.append_assoc]
  refine List.Perm.append_left od ?_
  conv => rhs; rw [e]
  rw [List.singleton_append]
  exact List.perm_middle.symm

set_option maxRecDepth 100000 in
set_option maxHeartbeats 4000000 in
theorem roundsFair_walk (ad : Option Addr) (n cap : Nat) (ad2 : Option Addr) (n2 cap2 : Nat) (w : World) (hn : n ≤ 9223372036854775807) (hl : SomeInts w ad n) (hn2 : n2 ≤ 9223372036854775807) (hl2 : SomeInts w ad2 n2) : Calls Try.prog 7 #[.slice ad n cap, .slice ad2 n2 cap2] w fun e w' => e = .returned (.bool true) ∧ Below w.heap.size w w' := by
  have HL := Lib.hid hl
  have HY := Lib.hid hl2
  clear hl hl2
  go_enter Try.func7, Try.ntmps7
  go_wp2_with fail
  refine (roundsKnown_walk _).mono ?_
  rintro e w1 ⟨rfl, hb⟩
  have L1 := Lib.hid (HL.out.keep hb)
  have B1 := Lib.hid hb
  clear hb HL
  go_wp2_with fail
  refine (made_any ad n cap _ hn L1.out).mono ?_
  rintro e w2 ⟨va, vp, vl, l, t, rfl, hm, ho, hld, h60, hb⟩
  obtain ⟨aa, na, ca, rfl⟩ := hm.1.slice
  obtain ⟨ap, np, cp, rfl⟩ := hm.2.slice
  have hlg := ho.log (by omega)
  have B2 := Lib.hid (btrans B1.out hb)
  have HM := Lib.hid hm
  have HLG := Lib.hid hlg
  have HLD := Lib.hid hld
  clear hb hm hlg ho hld L1 B1
  have HV := Lib.hid (HLD.out.vld ck21 (by omega))
  have HC : Hid (afM m21 l = moS (stN (st0 m21) l l.length)) := if_pos HV.out
  have HSW : Hid (stN (st0 m21) l l.length).Wf := Wf_stN (Wf_st0 m21) l _
  have HS0 : Hid ((stN (st0 m21) l l.length).a.getD 0 false = false) := a0_stN (by decide +kernel) l.length HLD.out.1
  have G3 : Hid ((w2.alloc (.cells #[.slice aa na ca, .slice ap np cp] 25)).heap[w2.heap.size]? = some (.cells #[.slice aa na ca, .slice ap np cp] 25 (0, 0))) := h1_0 _ _
  have M3 : Hid (IsM (w2.alloc (.cells #[.slice aa na ca, .slice ap np cp] 25)) (.slice aa na ca) (.slice ap np cp) m21) := HM.out.keep ((Below.refl _ _).alloc (Nat.le_refl _) _)
  have L3 : Hid (IsLog (w2.alloc (.cells #[.slice aa na ca, .slice ap np cp] 25)) vl l) := HLG.out.keep ((Below.refl _ _).alloc (Nat.le_refl _) _)
  have B3 : Hid (Below w.heap.size w (w2.alloc (.cells #[.slice aa na ca, .slice ap np cp] 25))) := balloc B2.out _
  go_upto_region 3 with fail
  generalize w2.alloc (.cells #[.slice aa na ca, .slice ap np cp] 25) = w3 at *
  generalize w2.heap.size = g at *
  clear B2 HM HLG
  go_wp2_with (((with_reducible refine ld25 ?a1 (.tmp 6) ?a2 g ?a3 _ _ 25 G3 ?_); (case a1 => rfl); (case a2 => rfl); (case a3 => rfl)))
  refine (after_any _ _ _ m21 l _ M3.out L3.out).mono ?_
  rintro e w4 ⟨ve, vf, rfl, hme, hb⟩
  rw [HV.out]
  rw [HC.out] at hme
  clear HC HV HLD
  generalize stN (st0 m21) l l.length = S at *
  obtain ⟨ae, ne, ce, rfl⟩ := hme.1.slice
  obtain ⟨rfl, _⟩ := hme.1.len
  obtain ⟨af, nf, cf, rfl⟩ := hme.2.slice
  obtain ⟨rfl, _⟩ := hme.2.len
  have B4 := Lib.hid (btrans B3.out hb)
  have M4 := Lib.hid hme
  clear hb hme B3 G3 M3 L3
  have HK := Lib.hid (ck_moS HSW.out HS0.out)
  have HFL := Lib.hid (faL_len HK.out)
  have HBL := Lib.hid (ckM_len HK.out)
  have G5 : Hid ((w4.alloc (.cells #[.slice ae (moS S).b.length ce, .slice af (moS S).p.length cf] 25)).heap[w4.heap.size]? = some (.cells #[.slice ae (moS S).b.length ce, .slice af (moS S).p.length cf] 25 (0, 0))) := h1_0 _ _
  have M5 : Hid (IsM (w4.alloc (.cells #[.slice ae (moS S).b.length ce, .slice af (moS S).p.length cf] 25)) (.slice ae (moS S).b.length ce) (.slice af (moS S).p.length cf) (moS S)) := M4.out.keep ((Below.refl _ _).alloc (Nat.le_refl _) _)
  have B5 : Hid (Below w.heap.size w (w4.alloc (.cells #[.slice ae (moS S).b.length ce, .slice af (moS S).p.length cf] 25))) := balloc B4.out _
  go_upto_region 4 with fail
  generalize w4.alloc (.cells #[.slice ae (moS S).b.length ce, .slice af (moS S).p.length cf] 25) = w5 at *
  generalize w4.heap.size = h at *
  clear B4 M4
  have HQ : Hid (∀ o : List En, o.Perm (pkL (0 :: (moS S).b) ++ cpL (moS S).p) → (vldL (moS S) o).1 = 0 ∧ isB (moS S) o = true ∧ (vldL (moS S) (o.take (o.length - 1))).1 = 0 ∧ isB (moS S) (o.take (o.length - 1)) = false ∧ 0 < o.length ∧ o.length ≤ 300) := fun o ho => fair_round HSW.out HS0.out ho
  clear HSW HS0
  generalize moS S = M at *
  obtain ⟨b8, p256⟩ := HBL.out
  go_wp2_with (((with_reducible refine ld25 ?c1 (.tmp 8) ?c2 h ?c3 _ _ 25 G5 ?_); (case c1 => rfl); (case c2 => rfl); (case c3 => rfl)))
  refine (fair_any _ _ M _ M5.out).mono ?_
  rintro e w6 ⟨v6, rfl, hv6, hb⟩
  rw [HK.out]
  obtain ⟨a6, n6, c6, rfl⟩ := hv6.slice
  obtain ⟨rfl, _⟩ := hv6.len
  rw [HFL.out]
  have B6 := Lib.hid (btrans B5.out hb)
  have G6 := Lib.hid (bkeep hb G5.out)
  have M6 := Lib.hid (M5.out.keep hb)
  clear hb hv6 B5 G5 M5
  obtain ⟨q0, q1⟩ := c2 G6.out
  have i1 : (M.b.length : Int) ≤ 8 := by omega
  have i2 : (M.p.length : Int) ≤ 256 := by omega
  go_upto_region 7 with fail
  have O7 : Hid (Own (w6.alloc (.cells #[.int .i64 0] 3)) w6.heap.size (.slice (some ⟨w6.heap.size, 0, none⟩) 1 1) [0]) := Own.lit w6 [0] w6.heap.size (Nat.le_refl _) (by decide)
  have I7 : Hid (IsInts (w6.alloc (.cells #[.int .i64 0] 3)) (.slice ae M.b.length ce) M.b) := M6.out.1.keep ((Below.refl _ _).alloc (Nat.le_refl _) _)
  have r0 := cellA q0 (.cells #[.int .i64 0] 3)
  have B7 : Hid (Below w6.heap.size w6 (w6.alloc (.cells #[.int .i64 0] 3))) := ((Below.refl _ _).alloc (Nat.le_refl _) _)
  have hs7 : w6.heap.size ≤ (w6.alloc (.cells #[.int .i64 0] 3)).heap.size := by simp
  clear q0 q1
  go_wp2_with (((with_reducible refine append_isI ?d1 (.tmp 57) (.tmp 59) ?d2 w6.heap.size (.slice (some ⟨w6.heap.size, 0, none⟩) 1 1) (.slice ae M.b.length ce) [0] M.b ?d3 ?d4 O7 I7 ?d5 ?d6 ?_); (case d1 => rfl); (case d2 => rfl); (case d3 => rfl); (case d4 => rfl); (case d5 => simp; omega); (case d6 => exact hs7)); intro v8 w8 ho8 hb8 _)
  have B8 : Hid (Below w6.heap.size w6 w8) := B7.out.trans hb8.out
  have V8 : Hid (IsInts w8 v8 (0 :: M.b)) := ho8.out.ints (by simp; omega)
  clear ho8 hb8 r0 hs7 O7 I7 B7
  refine (picks_any _ (0 :: M.b) _ V8.out (by simp; omega)).mono ?_
  rintro e w9 ⟨v9, rfl, ho9, hb9⟩
  have B9 : Hid (Below w6.heap.size w6 w9) := btrans B8.out hb9
  have O9 : Hid (OwnSp w9 w6.heap.size v9 (pkL (0 :: M.b) ++ cpL (M.p.take 0))) := by
    have := OwnSp.mono ho9 B8.out.size
    refine Lib.hid ?_
    simpa [cpL] using this
  clear ho9 hb9 V8 B8
  go_wp2_with fail
  go_loopw [12, 13] (fun v i wr => ∃ k : Nat, k ≤ M.p.length ∧ i = .int .i64 k ∧ Hid (OwnSp wr w6.heap.size v (pkL (0 :: M.b) ++ cpL (M.p.take k))) ∧ Hid (Below w6.heap.size w6 wr)) (fun _ i _ => M.p.length - (intOf i).toNat)
  case atStart => exact ⟨0, by omega, rfl, O9, B9⟩
  case round =>
    obtain ⟨k, hk, rfl, ho, hb⟩ := hrel
    clear O9 B9
    obtain ⟨q0, q1⟩ := c2 (bkeep hb.out G6.out)
    by_cases hlt : k < M.p.length
    · obtain ⟨bb, off, rfl, c0⟩ := (M6.out.2.keep hb.out).at k hlt
      have i3 : (0 : Int) ≤ (k : Int) := by omega
      have i4 : (k : Int) < (M.p.length : Int) := by omega
      have HT := Lib.hid (cpL_take M.p k hlt)
      have hln : (pkL (0 :: M.b) ++ cpL (M.p.take k)).length ≤ 300 := by simp [pkL, cpL]; omega
      have hsz := hb.out.size
      generalize M.p.getD k 0 = y at *
      have O1 : Hid (OwnSp (wr.alloc (.cells #[.int .i64 5, .int .i64 y] 37)) w6.heap.size u12 (pkL (0 :: M.b) ++ cpL (M.p.take k))) := OwnSp.alloc ho.out _
      have B1 : Hid (Below w6.heap.size w6 (wr.alloc (.cells #[.int .i64 5, .int .i64 y] 37))) := balloc hb.out _
      go_wp2_with fail
      refine (entry_any 5 y _).mono ?_
      rintro e w2 ⟨rfl, rfl⟩
      have hz : wr.heap.size + 1 = (wr.alloc (.cells #[.int .i64 5, .int .i64 y] 37)).heap.size := by simp
      generalize wr.alloc (.cells #[.int .i64 5, .int .i64 y] 37) = w2 at *
      clear q0 q1 c0
      go_wp2_with (((with_reducible refine append_sp ?b1 (.tmp 69) (.tmp 76) ?b2 w6.heap.size u12 (pkL (0 :: M.b) ++ cpL (M.p.take k)) 5 y 37 w2.heap.size ?b3 ?b4 ?b5 O1 ?b6 ?b7 ?_); (case b1 => rfl); (case b2 => rfl); (case b3 => rfl); (case b4 => rfl); (case b5 => rfl); (case b6 => omega); (case b7 => omega)); intro v' w4 ho4 hb4 _)
      go_roundw
      case rel => exact ⟨k + 1, by omega, by go_num, by rw [HT.out, ← List.append_assoc]; exact ho4, B1.out.trans hb4.out⟩
      case measure => simp [intOf]; omega
    · obtain rfl : k = M.p.length := by omega
      go_wp2_with fail
      have O10 : Hid (OwnSp wr w6.heap.size u12 (pkL (0 :: M.b) ++ cpL M.p)) := by
        have := ho.out
        rw [List.take_length] at this
        exact this
      have B10 := Lib.hid hb.out
      clear ho hb q0 q1
      obtain ⟨Q, hQ⟩ : ∃ Q, Q = pkL (0 :: M.b) ++ cpL M.p := ⟨_, rfl⟩
      rw [← hQ] at HQ O10
      have hQl : Q.length = 1 + M.b.length + M.p.length := by rw [hQ]; simp [pkL, cpL]; omega
      clear hQ
      obtain ⟨w10, hw10⟩ : ∃ x, x = wr := ⟨_, rfl⟩
      rw [← hw10] at O10 B10 ⊢
      clear hw10
      go_loopw [12, 14, 15, 16] (fun v o i q wr => ∃ (k : Nat) (lf od : List En) (c : Nat), i = .int .i64 k ∧ Hid (od.length = k ∧ lf.length + k = Q.length ∧ (od ++ lf).Perm Q ∧ OwnSp wr c v lf ∧ OwnSp wr w6.heap.size o od ∧ (∀ b, o.ownBlock = some b → b < c) ∧ c ≤ wr.heap.size ∧ Below w6.heap.size w6 wr)) (fun _ _ i _ _ => Q.length - (intOf i).toNat)
      case atStart => exact ⟨0, Q, [], w6.heap.size, rfl, rfl, rfl, by simp, O10.out, OwnSp.nil _ _, (fun b hb => by cases hb), B10.out.size, B10.out⟩
      case round =>
        obtain ⟨k, lf, od, c, rfl, hr⟩ := hrel
        clear O10 B10
        obtain ⟨z1, z2, z3, z4, z5, z6, z7, z8⟩ := hr.out
        have hlg := z4.log (by omega)
        have hcp := z4.cap
        obtain ⟨al, nl, cl, rfl⟩ := hlg.slice
        obtain ⟨rfl, _⟩ := hlg.len
        have hcl := hcp _ _ _ rfl
        have HLG := Lib.hid hlg
        have HP := Lib.hid z3
        have HO := Lib.hid z5
        have HB := Lib.hid z8
        have HLF := Lib.hid z4
        have HD := Lib.hid z6
        clear hr hlg hcp z3 z4 z5 z6 z8
        by_cases hlt : 0 < lf.length
        · have j1 : (0 : Int) < (lf.length : Int) := by omega
          have j2 : (lf.length : Int) ≤ 300 := by omega
          go_wp2_with fail
          refine (at_any ad2 n2 cap2 k _ hn2 (by omega) (HY.out.keep (btrans B6.out HB.out))).mono ?_
          rintro e wx ⟨⟨x, rfl⟩, rfl⟩
          go_wp2_with fail
          refine (mod_any x (lf.length : Int) _ (by omega) (by omega)).mono ?_
          rintro e wx ⟨rfl, rfl⟩
          have f0 := Int.emod_nonneg x (show (lf.length : Int) ≠ 0 by omega)
          have f1 := Int.emod_lt_of_pos x j1
          generalize x % (lf.length : Int) = y at *
          obtain ⟨j, rfl⟩ := Int.eq_ofNat_of_zero_le f0
          obtain ⟨bb, off, rfl, d0, d1⟩ := HLG.out.at j (by omega)
          obtain ⟨x, hx⟩ : ∃ x, x = lf.getD j (0, 0) := ⟨_, rfl⟩
          rw [← hx] at d0 d1
          obtain ⟨kk, xx⟩ := x
          have HX := Lib.hid hx
          simp only [] at d0 d1
          clear hx
          have j3 : (j : Int) < (lf.length : Int) := by omega
          have hwz := HB.out.size
          go_upto_region 18 with (((with_reducible refine append_sp ?e1 (.tmp 89) (.tmp 94) ?e2 w6.heap.size u14 od kk xx 37 wr.heap.size ?e3 ?e4 ?e5 HO ?e6 ?e7 ?_); (case e1 => rfl); (case e2 => rfl); (case e3 => rfl); (case e4 => rfl); (case e5 => rfl); (case e6 => omega); (case e7 => omega)); intro v4 w4 ho4 hb4 hg4)
          have LF4 : Hid (OwnSp w4 c (.slice (some ⟨bb, off, none⟩) lf.length cl) lf) := by
            refine World.ownsRow.kept (World.ownsRow.alloc HLF.out _) hg4.out ?_
            refine .inr fun e => ?_
            have h1 := HD.out _ e.symm
            have h2 := (World.ownsRow.lt HLF.out _ rfl).1
            omega
          have B4 : Hid (Below w6.heap.size w6 w4) := HB.out.trans hb4.out
          have L4 := Lib.hid (LF4.out.log (by omega))
          clear HLG HLF HD HB hg4 hb4 d0 d1 HO
          have hw4 := B4.out.size
          obtain ⟨jj, hjj⟩ : ∃ jj, jj = j + 1 := ⟨_, rfl⟩
          have k0 : (0 : Int) ≤ (j : Int) := by omega
          have k1 : (j : Int) ≤ (cl : Int) := by omega
          have k3 : IntKind.i64.wrap ((j : Int) + 1) = (jj : Int) := by rw [IntWalk.i64_in _ (by omega)]; omega
          have k4 : (0 : Int) ≤ (jj : Int) := by omega
          have k5 : (jj : Int) ≤ (lf.length : Int) := by omega
          have k6 : (jj : Int) ≤ (cl : Int) := by omega
          have k7 : (lf.length : Int) ≤ (cl : Int) := by omega
          have HJ := Lib.hid hjj
          have HCL := Lib.hid hcl
          have T4 : Hid (IsLog w4 (.slice (some ⟨bb, off, none⟩) j cl) (lf.take j)) := L4.out.take j (by omega)
          have S4 : Hid (IsLog w4 (subV (some ⟨bb, off, none⟩) cl jj lf.length) (lf.drop jj)) := by
            have := L4.out.sub (show jj ≤ lf.length by omega) (Nat.le_refl _) hcl
            have e : subL lf jj lf.length = lf.drop jj := by simp [subL]
            rw [e] at this
            exact this
          have HLT : Hid ((lf.take j).length < 4294967296 ∧ (lf.take j).length + (lf.drop jj).length < 4294967296) := by constructor <;> (simp; omega)
          clear hjj hcl f0 f1 j1 j2 j3
          have HJL : Hid (j < lf.length) := by have := HJ.out; show _ < _; omega
          by_cases hck : cl = jj
          · subst hck
            have E4 : Hid (IsLog w4 (.slice (some ⟨bb, off, none⟩) (lf.length - cl) 0) (lf.drop cl)) := by
              have := S4.out
              refine Lib.hid ?_
              simpa [subV] using this
            clear S4
            go_region_law (first | ((with_reducible refine step_append_log ?ga1 (.tmp 99) (.tmp 103) ?ga2 w4.heap.size v5 (.slice (some ⟨bb, off, none⟩) (lf.length - cl) 0) (lf.take j) (lf.drop cl) ?ga3 ?ga4 HO5 HS5 ?ga5 ?ga6 ?_); (case ga1 => rfl); (case ga2 => rfl); (case ga3 => rfl); (case ga4 => rfl); (case ga5 => exact HLT.out.2); (case ga6 => exact HB5.out.size); intro v6 w7 ho6 hb6 _) | (go_simp; go_at_call 24; (with_reducible refine (log_any _ (lf.take j) _ ?fa1 ?fa2).mono ?_); (case fa1 => exact T4.out); (case fa2 => exact HLT.out.1); rintro e w5 ⟨v5, rfl, ho5, hb5⟩; have HO5 : Hid (OwnSp w5 w4.heap.size v5 (lf.take j)) := ho5; have HB5 : Hid (Below w4.heap.size w4 w5) := btrans (w := w4) (Below.drew (Below.refl _ _)) hb5; have HS5 := Lib.hid (E4.out.keep HB5.out); clear ho5 hb5))
            all_goals
              have HB7 : Hid (Below w4.heap.size w4 w7) := HB5.out.trans hb6.out
              go_wp2_with fail
              go_roundw
              case rel => exact ⟨k + 1, lf.take j ++ lf.drop cl, od ++ [(kk, xx)], w4.heap.size, by go_num, by rw [List.length_append, z1]; rfl, by have := HJ.out; simp; omega, by rw [HX.out, HJ.out]; exact (perm_pick (HJL.out)).trans HP.out, ho6.out, OwnSp.keep ho4.out HB7.out, (fun b hb => (World.ownsRow.lt ho4.out b hb).2), HB7.out.size, btrans B4.out HB7.out⟩
              case measure => simp [intOf]; omega
          · have E4 : Hid (IsLog w4 (.slice (some ⟨bb, off + jj * 2, none⟩) (lf.length - jj) (cl - jj)) (lf.drop jj)) := by
              have := S4.out
              have e : subV (some ⟨bb, off, none⟩) cl jj lf.length = .slice (some ⟨bb, off + jj * 2, none⟩) (lf.length - jj) (cl - jj) := by
                simp only [subV, hck, if_false, Option.map_some, addN]
              rw [e] at this
              exact this
            clear S4
            go_region_law (first | ((with_reducible refine step_append_log ?gb1 (.tmp 99) (.tmp 103) ?gb2 w4.heap.size v5 (.slice (some ⟨bb, off + jj * 2, none⟩) (lf.length - jj) (cl - jj)) (lf.take j) (lf.drop jj) ?gb3 ?gb4 HO5 HS5 ?gb5 ?gb6 ?_); (case gb1 => rfl); (case gb2 => rfl); (case gb3 => rfl); (case gb4 => rfl); (case gb5 => exact HLT.out.2); (case gb6 => exact HB5.out.size); intro v6 w7 ho6 hb6 _) | (go_simp; go_at_call 24; (with_reducible refine (log_any _ (lf.take j) _ ?fb1 ?fb2).mono ?_); (case fb1 => exact T4.out); (case fb2 => exact HLT.out.1); rintro e w5 ⟨v5, rfl, ho5, hb5⟩; have HO5 : Hid (OwnSp w5 w4.heap.size v5 (lf.take j)) := ho5; have HB5 : Hid (Below w4.heap.size w4 w5) := btrans (w := w4) (Below.drew (Below.refl _ _)) hb5; have HS5 := Lib.hid (E4.out.keep HB5.out); clear ho5 hb5))
            all_goals
              have HB7 : Hid (Below w4.heap.size w4 w7) := HB5.out.trans hb6.out
              go_wp2_with fail
              go_roundw
              case rel => exact ⟨k + 1, lf.take j ++ lf.drop jj, od ++ [(kk, xx)], w4.heap.size, by go_num, by rw [List.length_append, z1]; rfl, by have := HJ.out; simp; omega, by rw [HX.out, HJ.out]; exact (perm_pick (HJL.out)).trans HP.out, ho6.out, OwnSp.keep ho4.out HB7.out, (fun b hb => (World.ownsRow.lt ho4.out b hb).2), HB7.out.size, btrans B4.out HB7.out⟩
              case measure => simp [intOf]; omega
        · subst z1
          have hl0 : lf = [] := List.length_eq_zero_iff.1 (by omega)
          have HPO := Lib.hid HP.out
          rw [hl0, List.append_nil] at HPO
          obtain ⟨x1, x2, x3, x4, x5, x6⟩ := HQ.out od HPO.out
          have X1 := Lib.hid x1
          have X2 := Lib.hid x2
          have X3 := Lib.hid x3
          have X4 := Lib.hid x4
          have hlo := HO.out.log (by omega)
          have hco := HO.out.cap
          obtain ⟨ao, no, co, rfl⟩ := hlo.slice
          obtain ⟨rfl, _⟩ := hlo.len
          have hcl2 := hco _ _ _ rfl
          have HLO := Lib.hid hlo
          have GW := Lib.hid (bkeep HB.out G6.out)
          have MW := Lib.hid (M6.out.keep HB.out)
          have j0 : (lf.length : Int) = 0 := by omega
          have j1 : lf.length = 0 := by omega
          clear x1 x2 x3 x4 hlo hco HP HPO HLG HLF HD HQ HO
          go_wp2_with (((with_reducible refine ld25 ?m1 (.tmp 8) ?m2 h ?m3 _ _ 25 GW ?_); (case m1 => rfl); (case m2 => rfl); (case m3 => rfl)))
          refine (is_any _ _ _ M od _ MW.out HLO.out).mono ?_
          rintro e wb ⟨rfl, hb⟩
          rw [X1.out, X2.out]
          have Bb : Hid (Below w6.heap.size w6 wb) := btrans HB.out hb
          have Lb := Lib.hid (HLO.out.keep hb)
          have Gb := Lib.hid (bkeep hb GW.out)
          have Mb := Lib.hid (MW.out.keep hb)
          clear hb HB HLO GW MW
          obtain ⟨q0, q1⟩ := c2 Gb.out
          obtain ⟨q, hq⟩ : ∃ q, q = od.length - 1 := ⟨_, rfl⟩
          have k4 : (0 : Int) ≤ (q : Int) := by omega
          have k5 : (q : Int) ≤ (co : Int) := by omega
          have hqo : q ≤ od.length := by omega
          rw [← hq] at X3 X4
          have hk3 : IntKind.i64.wrap ((od.length : Int) - 1) = (q : Int) := by rw [IntWalk.i64_in _ (by omega)]; omega
          have K3 := Lib.hid hk3
          clear hq hk3
          go_upto_region 20 with fail
          go_cut [19, 20] (fun s19 s20 wx => s19 = .bool false ∧ s20 = .int .i64 0 ∧ Hid (Below wb.heap.size wb wx))
          case first =>
            have k3 : IntKind.i64.wrap ((od.length : Int) - 1) = (q : Int) := K3.out
            go_region_held3 (fun w' => w'.cell? ⟨h, 0, none⟩ = some (.slice ae M.b.length ce) ∧ w'.cell? ⟨h, 1, none⟩ = some (.slice af M.p.length cf))
              (refine ⟨?_, ?_⟩ <;> (with_reducible repeat (first | exact q0 | exact q1 | exact cellB Bd.out q0 | exact cellB Bd.out q1 | refine cellD ?_)))
              (first | (go_at_call 34; (with_reducible refine (is_any _ _ _ M (od.take q) _ ?k1 ?k2).mono ?_); (case k1 => exact Mb.out); (case k2 => exact Lb.out.take q hqo); rintro e wd ⟨rfl, hb⟩; rw [X3.out, X4.out]; have Bd : Hid (Below wb.heap.size wb wd) := btrans (w := wb) (Below.drew (Below.refl _ _)) hb; clear hb))
            all_goals
              go_wp2_with fail
              go_meet
              exact ⟨rfl, rfl, Bd⟩
          case rest =>
            obtain ⟨rfl, rfl, hbx⟩ := hcut
            go_wp2_with fail
            go_ret
            exact ⟨rfl, btrans (btrans B6.out Bb.out) hbx.out⟩
end Go.Proofs.Ytgdcgmnfgbdiiaa
