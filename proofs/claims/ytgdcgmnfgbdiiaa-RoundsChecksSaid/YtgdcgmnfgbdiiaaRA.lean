/- Helper facts for the statements of this seat; no statement itself. -/
import Derived.Test.YtgdcgmnfgbdiiaaRV
import Derived.Test.YtgdcgmnfgbdiiaaAR
import Derived.Test.YtgdcgmnfgbdiiaaR
import Derived.Deep.RegionHeld3
import Derived.Outline
namespace Go.Proofs.Ytgdcgmnfgbdiiaa
open Go.RowKit
set_option linter.unusedSimpArgs false
set_option linter.unusedVariables false
set_option linter.unnecessarySimpa false

def AftC (m : Mo) (l : List En) (w : World) (e : Ending) (w' : World) : Prop := ∃ va vp, e = .returned (.tuple #[.agg #[va, vp], .int .i64 (vldL m l).1]) ∧ IsM w' va vp (afM m l) ∧ CapI va ∧ CapI vp ∧ Below w.heap.size w w'

set_option maxRecDepth 100000 in
set_option maxHeartbeats 4000000 in
theorem rafter_any (va vp vl : Value) (m : Mo) (l : List En) (w : World) (hm : IsM w va vp m) (hca : CapI va) (hcp : CapI vp) (hl : IsLog w vl l) : Calls Try.prog 28 #[.agg #[va, vp], vl] w (AftC m l w) := by
  obtain ⟨aa, na, ca, rfl⟩ := hm.1.slice
  obtain ⟨ap, np, cp, rfl⟩ := hm.2.slice
  obtain ⟨al, nl, cl, rfl⟩ := hl.slice
  obtain ⟨rfl, hln⟩ := hl.len
  have HM := Lib.hid hm
  have HL := Lib.hid hl
  have HCA := Lib.hid hca
  have HCP := Lib.hid hcp
  clear hm hl hca hcp
  by_cases hc : (vldL m l).1 = 0
  · have HC := Lib.hid hc
    have HE : Hid (afM m l = ⟨idx (stN (st0 m) l l.length).a, idx (stN (st0 m) l l.length).s⟩) := if_pos hc
    have HV := Lib.hid (vld_none hc)
    have H0 := Lib.hid (Wf_st0 m)
    have HMO := Lib.hid (moS_st0 HV.out.1)
    clear hc
    go_enter Try.func28, Try.ntmps28
    go_wp2_with fail
    refine (rvalid_any _ _ _ m l _ (HM.out.keep (((Below.refl _ _).alloc (Nat.le_refl _) _).alloc (by simp only [World.size_alloc] <;> omega) _)) HCA.out HCP.out (HL.out.keep (((Below.refl _ _).alloc (Nat.le_refl _) _).alloc (by simp only [World.size_alloc] <;> omega) _))).mono ?_
    rintro e w1 ⟨rfl, hb⟩
    rw [HC.out]
    have X1 : Hid (w1.heap[w.heap.size]? = some (.cells #[.slice aa na ca, .slice ap np cp] 25 (0, 0))) := bkeep hb (h2_0 _ _ _)
    have Y1 : Hid (w1.heap[w.heap.size + 1]? = some (.cells #[.slice none 0 0, .slice none 0 0] 25 (0, 0))) := bkeep hb (h2_1 _ _ _)
    have B1 : Hid (Below w.heap.size w w1) := btrans (((Below.refl _ _).alloc (Nat.le_refl _) _).alloc (by simp only [World.size_alloc] <;> omega) _) hb
    have A1 : Hid (AtS w1 w.heap.size 25 (stN (st0 m) l 0)) := ⟨_, _, _, _, _, _, X1.out, by show IsM w1 _ _ (moS (st0 m)); rw [HMO.out]; exact HM.out.keep B1.out, HCA.out, HCP.out⟩
    clear hb X1
    obtain ⟨g, hg⟩ : ∃ g, g = w.heap.size := ⟨_, rfl⟩
    rw [← hg] at A1 Y1 ⊢
    have hgw : w.heap.size ≤ g := by omega
    clear hg
    go_wp2_with fail
    go_loopw [8] (fun i wr => ∃ k : Nat, k ≤ l.length ∧ i = .int .i64 k ∧ Hid (AtS wr g 25 (stN (st0 m) l k)) ∧ Hid (wr.heap[g + 1]? = some (.cells #[.slice none 0 0, .slice none 0 0] 25 (0, 0))) ∧ Hid (Below w.heap.size w wr)) (fun i _ => l.length - (intOf i).toNat)
    case atStart => exact ⟨0, by omega, rfl, A1, Y1, B1⟩
    case round =>
      obtain ⟨k, hk, rfl, ha, hy, hb⟩ := hrel
      clear A1 B1 Y1
      by_cases hlt : k < l.length
      · obtain ⟨bb, off, rfl, c0, c1⟩ := (HL.out.keep hb.out).at k hlt
        obtain ⟨a1, n1, k1, a2, n2, k2, hx, hs⟩ := ha.out
        obtain ⟨q0, q1⟩ := c2 hx
        have HX := Lib.hid hx
        have HS := Lib.hid hs
        have i1 : (0 : Int) ≤ (k : Int) := by omega
        have i2 : (k : Int) < (l.length : Int) := by omega
        have HT : Hid (stN (st0 m) l (k + 1) = apS (stN (st0 m) l k) (l.getD k (0, 0)).1 (l.getD k (0, 0)).2) := rfl
        have HWF := Lib.hid (Wf_stN H0.out l k)
        clear hx hs ha
        generalize (l.getD k (0, 0)).1 = kk at *
        generalize (l.getD k (0, 0)).2 = xx at *
        go_upto_region 7 with fail
        go_region_law (first | (go_simp; go_at_call 46; (with_reducible refine (next_any _ _ (stN (st0 m) l k) kk xx _ ?k1 ?k2).mono ?_); (case k1 => exact HWF.out); (case k2 => exact HS.out); rintro e w5 ⟨va5, vp5, rfl, hs5, hb5, -, -⟩; obtain ⟨a5, n5, k5, rfl⟩ := hs5.1.1.slice; obtain ⟨a6, n6, k6, rfl⟩ := hs5.1.2.slice; have B5 : Hid (Below wr.heap.size wr w5) := btrans (w := wr) (Below.drew (Below.refl _ _)) hb5; have X5 := Lib.hid (bkeep B5.out HX.out); have S5 := Lib.hid hs5; obtain ⟨s0, s1⟩ := c2 X5.out; have f0 := fr (j := 0) X5.out; have f1 := fr (j := 1) X5.out; clear hb5 hs5) | fail)
        all_goals
          rw [set2 X5.out]
          have A6 : Hid (AtS (w5.setRow g #[.slice a5 n5 k5, .slice a6 n6 k6]) g 25 (stN (st0 m) l (k + 1))) := ⟨_, _, _, _, _, _, setRow_heap _ _ _ _ _ _ X5.out, by rw [HT.out]; exact S5.out.row X5.out _⟩
          have B6 : Hid (Below w.heap.size w (w5.setRow g #[.slice a5 n5 k5, .slice a6 n6 k6])) := below_setRow (btrans hb.out B5.out) hgw _
          have Y6 : Hid ((w5.setRow g #[.slice a5 n5 k5, .slice a6 n6 k6]).heap[g + 1]? = some (.cells #[.slice none 0 0, .slice none 0 0] 25 (0, 0))) := (setRow_other _ _ _ _ (by omega)).trans (bkeep B5.out hy.out)
          generalize w5.setRow g #[.slice a5 n5 k5, .slice a6 n6 k6] = w6 at *
          clear X5 S5 s0 s1 f0 f1 B5 q0 q1 c0 c1 HX HS
          go_wp2_with fail
          go_roundw
          case rel => exact ⟨k + 1, by omega, by go_num, A6, Y6, B6⟩
          case measure => simp [intOf]; omega
      · obtain rfl : k = l.length := by omega
        have HWF := Lib.hid (Wf_stN H0.out l l.length)
        generalize stN (st0 m) l l.length = S at *
        obtain ⟨a1, n1, k1, a2, n2, k2, hx, hs⟩ := ha.out
        obtain ⟨c0, c1⟩ := c2 hx
        have HX := Lib.hid hx
        have HS := Lib.hid hs
        have HY := Lib.hid hy.out
        have HB := Lib.hid hb.out
        have l1 := idx_len S.a
        have l2 := idx_len S.s
        rw [HWF.out.1] at l1
        rw [HWF.out.2] at l2
        have HN : Hid (([] : List Int).length + (idx S.a).length < 4294967296 ∧ ([] : List Int).length + (idx S.s).length < 4294967296) := by constructor <;> (first | omega | (simp; omega))
        have HN2 : Hid (([] ++ idx S.a : List Int).length ≤ 4294967296 ∧ (idx S.s).length ≤ 4294967296) := by constructor <;> (first | omega | (simp; omega))
        have hgs : g + 1 < wr.heap.size := lt_of_some hy.out
        clear hx hs ha hy hb l1 l2
        have BA : Hid (Below wr.heap.size wr (wr.drew.alloc (.cells #[] 3))) := balloc (Below.drew (Below.refl _ _)) _
        have BB : Hid (Below wr.heap.size wr ((wr.drew.alloc (.cells #[] 3)).alloc (.cells #[] 3))) := balloc (balloc (Below.drew (Below.refl _ _)) _) _
        have BC : Hid (Below wr.heap.size wr ((wr.drew.alloc (.cells #[] 3)).alloc (.cells #[] 3))) := balloc (balloc (Below.drew (Below.refl _ _)) _) _
        have OA : Hid (Own (wr.drew.alloc (.cells #[] 3)) wr.heap.size (.slice (some ⟨wr.heap.size, 0, none⟩) 0 0) []) := Own.lit wr.drew [] wr.heap.size (Nat.le_refl _) (by decide)
        have OB : Hid (Own ((wr.drew.alloc (.cells #[] 3)).alloc (.cells #[] 3)) wr.heap.size (.slice (some ⟨wr.heap.size, 0, none⟩) 0 0) []) := Own.alloc OA.out _
        have PB : Hid (Own ((wr.drew.alloc (.cells #[] 3)).alloc (.cells #[] 3)) wr.heap.size (.slice (some ⟨wr.heap.size + 1, 0, none⟩) 0 0) []) := by
          have := Own.lit (wr.drew.alloc (.cells #[] 3)) [] wr.heap.size (by simp only [World.size_alloc, heapD]; omega) (by decide)
          simp only [World.size_alloc, heapD] at this
          exact this
        have OC : Hid (Own ((wr.drew.alloc (.cells #[] 3)).alloc (.cells #[] 3)) wr.heap.size (.slice (some ⟨wr.heap.size + 1, 0, none⟩) 0 0) []) := by
          have := Own.lit (wr.drew.alloc (.cells #[] 3)) [] wr.heap.size (by simp only [World.size_alloc, heapD]; omega) (by decide)
          simp only [World.size_alloc, heapD] at this
          exact this
        have PC : Hid (Own ((wr.drew.alloc (.cells #[] 3)).alloc (.cells #[] 3)) wr.heap.size (.slice (some ⟨wr.heap.size, 0, none⟩) 0 0) []) := Own.alloc (Own.lit wr.drew [] wr.heap.size (Nat.le_refl _) (by decide)) _
        have IA : Hid (IsInts (wr.drew.alloc (.cells #[] 3)) (.slice a1 n1 k1) (idx S.a)) := IsInts.keep HS.out.1.1 BA.out
        have IB : Hid (IsInts ((wr.drew.alloc (.cells #[] 3)).alloc (.cells #[] 3)) (.slice a1 n1 k1) (idx S.a)) := IsInts.keep HS.out.1.1 BB.out
        have IC : Hid (IsInts ((wr.drew.alloc (.cells #[] 3)).alloc (.cells #[] 3)) (.slice a1 n1 k1) (idx S.a)) := IsInts.keep HS.out.1.1 BC.out
        have I2 : Hid (IsInts wr (.slice a2 n2 k2) (idx S.s)) := HS.out.1.2
        go_upto_region 8 with fail
        go_region_held3 (fun w' => w'.cell? ⟨g, 0, none⟩ = some (.slice a1 n1 k1) ∧ w'.cell? ⟨g, 1, none⟩ = some (.slice a2 n2 k2))
          (refine ⟨?_, ?_⟩ <;> (with_reducible repeat (first | exact c0 | exact c1 | exact cellB BB2.out c0 | exact cellB BB2.out c1 | exact cellB BB0.out c0 | exact cellB BB0.out c1 | refine cellD ?_ | refine cellA ?_ _ | (refine cellS ?_ _ _ (by simp only []; omega)))))
          (first | ((with_reducible refine step_append_isJ ?ya1 (.tmp 34) (.tmp 36) ?ya2 wr.heap.size (.slice (some ⟨wr.heap.size, 0, none⟩) 0 0) (.slice a1 n1 k1) [] (idx S.a) ?ya3 ?ya4 ?ya5 ?ya6 ?ya7 ?ya8 ?_); (case ya1 => rfl); (case ya2 => rfl); (case ya3 => rfl); (case ya4 => rfl); (case ya5 => exact OA); (case ya6 => exact IA); (case ya7 => exact HN.out.1); (case ya8 => exact BA.out.size); intro v1 w1 ho1 hb1 hg1 hl1; have BB0 : Hid (Below wr.heap.size wr w1) := BA.out.trans hb1.out; have BB1 : Hid (Below wr.heap.size wr (w1.alloc (.cells #[] 3))) := balloc BB0.out _; have P1 : Hid (Own (w1.alloc (.cells #[] 3)) wr.heap.size v1 ([] ++ (idx S.a))) := Own.alloc ho1.out _; have Q1 : Hid (Own (w1.alloc (.cells #[] 3)) wr.heap.size (.slice (some ⟨w1.heap.size, 0, none⟩) 0 0) []) := Own.lit w1 [] wr.heap.size BB0.out.size (by decide); have S1 : Hid (IsInts (w1.alloc (.cells #[] 3)) (.slice a2 n2 k2) (idx S.s)) := I2.out.keep BB1.out; have E1 : Hid (v1.ownBlock ≠ some w1.heap.size) := own_far ho1.out) | ((with_reducible refine step_append_isJ ?yb1 (.tmp 34) (.tmp 36) ?yb2 wr.heap.size (.slice (some ⟨wr.heap.size, 0, none⟩) 0 0) (.slice a1 n1 k1) [] (idx S.a) ?yb3 ?yb4 ?yb5 ?yb6 ?yb7 ?yb8 ?_); (case yb1 => rfl); (case yb2 => rfl); (case yb3 => rfl); (case yb4 => rfl); (case yb5 => exact OB); (case yb6 => exact IB); (case yb7 => exact HN.out.1); (case yb8 => exact BB.out.size); intro v1 w1 ho1 hb1 hg1 hl1; have BB0 : Hid (Below wr.heap.size wr w1) := BB.out.trans hb1.out; have BB1 : Hid (Below wr.heap.size wr w1) := BB0; have P1 : Hid (Own w1 wr.heap.size v1 ([] ++ (idx S.a))) := ho1; have Q1 : Hid (Own w1 wr.heap.size (.slice (some ⟨wr.heap.size + 1, 0, none⟩) 0 0) []) := own_kept PB.out hg1.out (by simp [Value.ownBlock]); have S1 : Hid (IsInts w1 (.slice a2 n2 k2) (idx S.s)) := I2.out.keep BB1.out; have E1 : Hid (v1.ownBlock ≠ some (wr.heap.size + 1)) := far1 (by have hq := hl1.out; simp only [World.size_alloc, heapD, Value.ownBlock] at hq; exact hq)) | ((with_reducible refine step_append_isJ ?yc1 (.tmp 34) (.tmp 36) ?yc2 wr.heap.size (.slice (some ⟨wr.heap.size + 1, 0, none⟩) 0 0) (.slice a1 n1 k1) [] (idx S.a) ?yc3 ?yc4 ?yc5 ?yc6 ?yc7 ?yc8 ?_); (case yc1 => rfl); (case yc2 => rfl); (case yc3 => rfl); (case yc4 => rfl); (case yc5 => exact OC); (case yc6 => exact IC); (case yc7 => exact HN.out.1); (case yc8 => exact BC.out.size); intro v1 w1 ho1 hb1 hg1 hl1; have BB0 : Hid (Below wr.heap.size wr w1) := BC.out.trans hb1.out; have BB1 : Hid (Below wr.heap.size wr w1) := BB0; have P1 : Hid (Own w1 wr.heap.size v1 ([] ++ (idx S.a))) := ho1; have Q1 : Hid (Own w1 wr.heap.size (.slice (some ⟨wr.heap.size, 0, none⟩) 0 0) []) := own_kept PC.out hg1.out (by simp [Value.ownBlock]); have S1 : Hid (IsInts w1 (.slice a2 n2 k2) (idx S.s)) := I2.out.keep BB1.out; have E1 : Hid (v1.ownBlock ≠ some wr.heap.size) := far0 (by have hq := hl1.out; simp only [World.size_alloc, heapD, Value.ownBlock] at hq; exact hq)) | ((with_reducible refine step_append_isJ ?yd1 (.tmp 38) (.tmp 40) ?yd2 wr.heap.size (.slice (some ⟨w1.heap.size, 0, none⟩) 0 0) (.slice a2 n2 k2) [] (idx S.s) ?yd3 ?yd4 ?yd5 ?yd6 ?yd7 ?yd8 ?_); (case yd1 => rfl); (case yd2 => rfl); (case yd3 => rfl); (case yd4 => rfl); (case yd5 => exact Q1); (case yd6 => exact S1); (case yd7 => exact HN.out.2); (case yd8 => exact BB1.out.size); intro v2 w2 ho2 hb2 hg2 _; have BB2 : Hid (Below wr.heap.size wr w2) := BB1.out.trans hb2.out; have P2 : Hid (Own w2 wr.heap.size v1 ([] ++ (idx S.a))) := own_kept P1.out hg2.out E1.out; have Q2 : Hid (Own w2 wr.heap.size v2 (idx S.s)) := ho2; have z1 := P2.out.ints HN2.out.1; have z2 := Q2.out.ints HN2.out.2; have y1 := P2.out.cap; have y2 := Q2.out.cap; obtain ⟨b1, m1, e1, rfl⟩ := z1.slice; obtain ⟨b2, m2, e2, rfl⟩ := z2.slice; have Z1 := Lib.hid z1; have Z2 := Lib.hid z2; have Y1 := Lib.hid y1; have Y2 := Lib.hid y2; have T2 := Lib.hid (bkeep BB2.out HY.out); obtain ⟨t0, t1⟩ := c2 T2.out; have f0 := fr (j := 0) T2.out; have f1 := fr (j := 1) T2.out; clear z1 z2 y1 y2) | ((with_reducible refine step_append_isJ ?ye1 (.tmp 38) (.tmp 40) ?ye2 wr.heap.size (.slice (some ⟨wr.heap.size + 1, 0, none⟩) 0 0) (.slice a2 n2 k2) [] (idx S.s) ?ye3 ?ye4 ?ye5 ?ye6 ?ye7 ?ye8 ?_); (case ye1 => rfl); (case ye2 => rfl); (case ye3 => rfl); (case ye4 => rfl); (case ye5 => exact Q1); (case ye6 => exact S1); (case ye7 => exact HN.out.2); (case ye8 => exact BB1.out.size); intro v2 w2 ho2 hb2 hg2 _; have BB2 : Hid (Below wr.heap.size wr w2) := BB1.out.trans hb2.out; have P2 : Hid (Own w2 wr.heap.size v1 ([] ++ (idx S.a))) := own_kept P1.out hg2.out E1.out; have Q2 : Hid (Own w2 wr.heap.size v2 (idx S.s)) := ho2; have z1 := P2.out.ints HN2.out.1; have z2 := Q2.out.ints HN2.out.2; have y1 := P2.out.cap; have y2 := Q2.out.cap; obtain ⟨b1, m1, e1, rfl⟩ := z1.slice; obtain ⟨b2, m2, e2, rfl⟩ := z2.slice; have Z1 := Lib.hid z1; have Z2 := Lib.hid z2; have Y1 := Lib.hid y1; have Y2 := Lib.hid y2; have T2 := Lib.hid (bkeep BB2.out HY.out); obtain ⟨t0, t1⟩ := c2 T2.out; have f0 := fr (j := 0) T2.out; have f1 := fr (j := 1) T2.out; clear z1 z2 y1 y2) | ((with_reducible refine step_append_isJ ?yf1 (.tmp 38) (.tmp 40) ?yf2 wr.heap.size (.slice (some ⟨wr.heap.size, 0, none⟩) 0 0) (.slice a2 n2 k2) [] (idx S.s) ?yf3 ?yf4 ?yf5 ?yf6 ?yf7 ?yf8 ?_); (case yf1 => rfl); (case yf2 => rfl); (case yf3 => rfl); (case yf4 => rfl); (case yf5 => exact Q1); (case yf6 => exact S1); (case yf7 => exact HN.out.2); (case yf8 => exact BB1.out.size); intro v2 w2 ho2 hb2 hg2 _; have BB2 : Hid (Below wr.heap.size wr w2) := BB1.out.trans hb2.out; have P2 : Hid (Own w2 wr.heap.size v1 ([] ++ (idx S.a))) := own_kept P1.out hg2.out E1.out; have Q2 : Hid (Own w2 wr.heap.size v2 (idx S.s)) := ho2; have z1 := P2.out.ints HN2.out.1; have z2 := Q2.out.ints HN2.out.2; have y1 := P2.out.cap; have y2 := Q2.out.cap; obtain ⟨b1, m1, e1, rfl⟩ := z1.slice; obtain ⟨b2, m2, e2, rfl⟩ := z2.slice; have Z1 := Lib.hid z1; have Z2 := Lib.hid z2; have Y1 := Lib.hid y1; have Y2 := Lib.hid y2; have T2 := Lib.hid (bkeep BB2.out HY.out); obtain ⟨t0, t1⟩ := c2 T2.out; have f0 := fr (j := 0) T2.out; have f1 := fr (j := 1) T2.out; clear z1 z2 y1 y2) | fail)
        all_goals
          rw [set2 T2.out]
          go_wp2_with fail
          exact bodyPost_ret (v := .tuple #[.agg #[.slice b1 m1 e1, .slice b2 m2 e2], .int .i64 0]) (res25 (fn := Try.f28) (p := 4) (u := 5) rfl _ _ (g + 1) 25 (.slice b1 m1 e1) (.slice b2 m2 e2) (.int .i64 0) rfl rfl (setRow_heap _ _ _ _ _ _ T2.out)) rfl ⟨_, _, by rw [HC.out], by rw [HE.out]; exact ⟨ints_setRow Z1.out T2.out _, ints_setRow Z2.out T2.out _⟩, Y1.out, Y2.out, below_setRow (btrans HB.out BB2.out) (by omega) _⟩
  · have HE : Hid (afM m l = ⟨[], []⟩) := if_neg hc
    have hz : ((vldL m l).1 != 0) = true := by simpa using hc
    clear hc
    go_enter Try.func28, Try.ntmps28
    go_wp2_with fail
    refine (rvalid_any _ _ _ m l _ (HM.out.keep (((Below.refl _ _).alloc (Nat.le_refl _) _).alloc (by simp only [World.size_alloc] <;> omega) _)) HCA.out HCP.out (HL.out.keep (((Below.refl _ _).alloc (Nat.le_refl _) _).alloc (by simp only [World.size_alloc] <;> omega) _))).mono ?_
    rintro e w1 ⟨rfl, hb⟩
    have Y1 : Hid (w1.heap[w.heap.size + 1]? = some (.cells #[.slice none 0 0, .slice none 0 0] 25 (0, 0))) := bkeep hb (h2_1 _ _ _)
    have B1 : Hid (Below w.heap.size w w1) := btrans (((Below.refl _ _).alloc (Nat.le_refl _) _).alloc (by simp only [World.size_alloc] <;> omega) _) hb
    clear hb
    go_wp2_with (((with_reducible refine st25 ?b1 (.tmp 4) (.tmp 17) ?b2 (w.heap.size + 1) (.slice none 0 0) (.slice none 0 0) (.slice none 0 0) (.slice none 0 0) 25 ?b3 ?b4 Y1 ?b5 ?_); (case b1 => rfl); (case b2 => rfl); (case b3 => rfl); (case b4 => rfl); (case b5 => exact one2 _ _ _ _ _ _)))
    exact bodyPost_ret (v := .tuple #[.agg #[.slice none 0 0, .slice none 0 0], .int .i64 (vldL m l).1]) (res25 (fn := Try.f28) (p := 4) (u := 5) rfl _ _ (w.heap.size + 1) 25 (.slice none 0 0) (.slice none 0 0) (.int .i64 (vldL m l).1) rfl rfl (setRow_heap _ _ _ _ _ _ Y1.out)) rfl ⟨_, _, rfl, by rw [HE.out]; exact ⟨IsInts.nil _ _ _, IsInts.nil _ _ _⟩, (fun a n c e => by cases e; exact Nat.le_refl _), (fun a n c e => by cases e; exact Nat.le_refl _), below_setRow B1.out (by omega) _⟩
end Go.Proofs.Ytgdcgmnfgbdiiaa
