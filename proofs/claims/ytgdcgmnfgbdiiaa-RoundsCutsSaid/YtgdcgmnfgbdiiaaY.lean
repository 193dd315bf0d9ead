/- Helper facts for the statements of this seat; no statement itself. -/
import Derived.Test.YtgdcgmnfgbdiiaaXE
import Derived.Test.YtgdcgmnfgbdiiaaAP
import Derived.Test.YtgdcgmnfgbdiiaaQ
import Derived.Test.YtgdcgmnfgbdiiaaV
import Derived.Test.YtgdcgmnfgbdiiaaL
import Derived.Deep.RegionHeld3
import Derived.Outline
namespace Go.Proofs.Ytgdcgmnfgbdiiaa
open Go.RowKit
set_option linter.unusedSimpArgs false
set_option linter.unusedVariables false
set_option linter.unnecessarySimpa false

theorem owed_any (va vp vl : Value) (m : Mo) (l : List En) (w : World) (hm : IsM w va vp m) (hl : IsLog w vl l) : Calls Try.prog 14 #[.agg #[va, vp], vl] w (Owing m l w) := by
  by_cases hc : (vldL m l).1 = 0
  · exact owed_good va vp vl m l w hm hl hc
  · exact owed_bad va vp vl m l w hm hl hc
theorem isIntsL {W : World} {g : Nat} {t : TypeId} (l : List Int) (hl : l.length ≤ 4294967296) (h : W.heap[g]? = some (.cells (l.map (Value.int .i64)).toArray t (0, 0))) : IsInts W (.slice (some ⟨g, 0, none⟩) l.length l.length) l :=
  ⟨_, _, _, rfl, rfl, hl, .inr ⟨g, 0, rfl, fun k hk => by rw [Nat.zero_add]; exact setRow_cell h (by simp [List.getD, hk])⟩⟩
def m15 : Mo := ⟨[1], [5]⟩
def l15 : List En := [(1, 0), (1, 1), (5, 5)]

set_option maxRecDepth 100000 in
set_option maxHeartbeats 4000000 in
theorem awake_any (w : World) : Calls Try.prog 21 #[] w fun e w' => e = .returned (.bool true) ∧ Below w.heap.size w w' := by
  go_enter Try.func21, Try.ntmps21
  go_upto_region 2 with fail
  have HM : Hid (IsM (((w.alloc (.cells #[.int .i64 1] 3)).alloc (.cells #[.int .i64 5] 3)).alloc (.cells #[.slice (some ⟨w.heap.size, 0, none⟩) 1 1, .slice (some ⟨w.heap.size + 1, 0, none⟩) 1 1] 25)) (.slice (some ⟨w.heap.size, 0, none⟩) 1 1) (.slice (some ⟨w.heap.size + 1, 0, none⟩) 1 1) m15) := ⟨isIntsL [1] (by decide) (h3_0 _ _ _ _), isIntsL [5] (by decide) (h3_1 _ _ _ _)⟩
  have G0 : Hid ((((w.alloc (.cells #[.int .i64 1] 3)).alloc (.cells #[.int .i64 5] 3)).alloc (.cells #[.slice (some ⟨w.heap.size, 0, none⟩) 1 1, .slice (some ⟨w.heap.size + 1, 0, none⟩) 1 1] 25)).heap[w.heap.size + 1 + 1]? = some (.cells #[.slice (some ⟨w.heap.size, 0, none⟩) 1 1, .slice (some ⟨w.heap.size + 1, 0, none⟩) 1 1] 25 (0, 0))) := h3_2 _ _ _ _
  have B0 : Hid (Below w.heap.size w (((w.alloc (.cells #[.int .i64 1] 3)).alloc (.cells #[.int .i64 5] 3)).alloc (.cells #[.slice (some ⟨w.heap.size, 0, none⟩) 1 1, .slice (some ⟨w.heap.size + 1, 0, none⟩) 1 1] 25))) := ((((Below.refl _ _).alloc (Nat.le_refl _) _).alloc (by simp only [World.size_alloc] <;> omega) _).alloc (by simp only [World.size_alloc] <;> omega) _)
  generalize ((w.alloc (.cells #[.int .i64 1] 3)).alloc (.cells #[.int .i64 5] 3)).alloc (.cells #[.slice (some ⟨w.heap.size, 0, none⟩) 1 1, .slice (some ⟨w.heap.size + 1, 0, none⟩) 1 1] 25) = W0 at *
  generalize w.heap.size + 1 + 1 = g at *
  generalize (⟨w.heap.size, 0, none⟩ : Addr) = ab at *
  generalize (⟨w.heap.size + 1, 0, none⟩ : Addr) = ap at *
  go_wp2_with fail
  refine (picks_any _ [0, 1] _ (isIntsL [0, 1] (by decide) (h1_0 _ _)) (by decide)).mono ?_
  rintro e w2 ⟨v2, rfl, ho2, hb2⟩
  have B2 : Hid (Below W0.heap.size W0 w2) := btrans ((Below.refl _ _).alloc (Nat.le_refl _) _) hb2
  have O2 : Hid (OwnSp (w2.alloc (.cells #[.int .i64 5, .int .i64 5] 37)) W0.heap.size v2 (pkL [0, 1])) := OwnSp.alloc (OwnSp.mono ho2 (by simp)) _
  clear hb2 ho2
  go_wp2_with fail
  refine (entry_any 5 5 _).mono ?_
  rintro e w3 ⟨rfl, rfl⟩
  have B3 : Hid (Below W0.heap.size W0 (w2.alloc (.cells #[.int .i64 5, .int .i64 5] 37))) := balloc B2.out _
  generalize w2.alloc (.cells #[.int .i64 5, .int .i64 5] 37) = w3 at *
  clear B2
  have hs3 := B3.out.size
  go_upto_region 3 with (((with_reducible refine append_sp ?b1 (.tmp 14) (.tmp 16) ?b2 W0.heap.size v2 (pkL [0, 1]) 5 5 37 w3.heap.size ?b3 ?b4 ?b5 O2 ?b6 ?b7 ?_); (case b1 => rfl); (case b2 => rfl); (case b3 => rfl); (case b4 => rfl); (case b5 => rfl); (case b6 => decide); (case b7 => omega)); intro v4 w4 ho4 hb4 hg4)
  have B4 : Hid (Below W0.heap.size W0 w4) := B3.out.trans hb4.out
  have L4 : Hid (IsLog w4 v4 l15) := ho4.out.log (by decide)
  clear ho4 hb4 hg4 O2 B3 hs3
  have G4 := Lib.hid (bkeep B4.out G0.out)
  go_wp2_with (((with_reducible refine ld25 ?a1 (.tmp 1) ?a2 g ?a3 _ _ 25 G4 ?_); (case a1 => rfl); (case a2 => rfl); (case a3 => rfl)))
  refine (is_any _ _ _ m15 l15 _ (HM.out.keep B4.out) L4.out).mono ?_
  rintro e w5 ⟨rfl, hb⟩
  rw [show isB m15 l15 = true from by decide +kernel, show (vldL m15 l15).1 = 0 from by decide +kernel]
  have B5 : Hid (Below W0.heap.size W0 w5) := btrans B4.out hb
  have L5 : Hid (IsLog w5 v4 l15) := L4.out.keep hb
  clear hb B4 L4 G4
  go_upto_region 4 with fail
  go_cut [5, 6, 7] (fun s5 s6 s7 wx => Hid (IsInts wx s5 []) ∧ Hid (IsInts wx s6 [5]) ∧ s7 = .int .i64 0 ∧ Hid (Below w5.heap.size w5 wx))
  case first =>
    obtain ⟨c0, c1⟩ := c2 (bkeep B5.out G0.out)
    have hg5 : g < w5.heap.size := lt_of_some (bkeep B5.out G0.out)
    go_region_held3 (fun w' => w'.cell? ⟨g, 0, none⟩ = some (.slice (some ab) 1 1) ∧ w'.cell? ⟨g, 1, none⟩ = some (.slice (some ap) 1 1))
      (refine ⟨?_, ?_⟩ <;> (with_reducible repeat (first | exact c0 | exact c1 | exact d0 | exact d1 | refine cellD ?_ | refine cellA ?_ _)))
      (first | (go_at_call 15; (with_reducible refine (picks_any _ [0, 1] _ ?k1 ?k2).mono ?_); (case k1 => exact isIntsL [0, 1] (by decide) (h1_0 _ _)); (case k2 => decide); rintro e w6 ⟨v6, rfl, ho6, hb6⟩; have B6 : Hid (Below w5.heap.size w5 w6) := btrans (w := w5) (balloc (Below.drew (Below.refl _ _)) _) hb6; have O6 := Lib.hid (ho6.log (by decide)); have d0 := cellB B6.out (a := ⟨g, 0, none⟩) c0; have d1 := cellB B6.out (a := ⟨g, 1, none⟩) c1; clear hb6 ho6) | (go_at_call 14; (with_reducible refine (owed_any _ _ _ m15 (pkL [0, 1]) _ ?k3 ?k4).mono ?_); (case k3 => exact (HM.out.keep B5.out).keep B6.out); (case k4 => exact O6.out); rintro e w7 ⟨v7, v8, rfl, h7, h8, hb7⟩; rw [show owA m15 (pkL [0, 1]) = [] from by decide +kernel] at h7; rw [show owB m15 (pkL [0, 1]) = [5] from by decide +kernel] at h8; rw [show (vldL m15 (pkL [0, 1])).1 = 0 from by decide +kernel]; have d0 := cellB hb7 d0; have d1 := cellB hb7 d1; have B7 : Hid (Below w5.heap.size w5 w7) := btrans (w := w5) B6.out hb7; have H7 := Lib.hid h7; have H8 := Lib.hid h8; clear hb7 h7 h8))
    all_goals
      go_wp2_with fail
      go_meet
      exact ⟨H7, H8, rfl, B7⟩
  case rest =>
    obtain ⟨h5, h6, rfl, hbx⟩ := hcut
    have B8 : Hid (Below W0.heap.size W0 wc) := btrans B5.out hbx.out
    have L8 : Hid (IsLog wc v4 l15) := L5.out.keep hbx.out
    have G8 := Lib.hid (bkeep B8.out G0.out)
    clear hbx B5 L5
    obtain ⟨a5, n5, k5, rfl⟩ := h5.out.slice
    obtain ⟨rfl, _⟩ := h5.out.len
    go_wp2_with (((with_reducible refine ld25 ?a1 (.tmp 1) ?a2 g ?a3 _ _ 25 G8 ?_); (case a1 => rfl); (case a2 => rfl); (case a3 => rfl)))
    refine (fair_any _ _ m15 _ (HM.out.keep B8.out)).mono ?_
    rintro e w9 ⟨v9, rfl, h9, hb9⟩
    rw [show ckM m15 = 0 from by decide +kernel]
    rw [show faL m15 = [(10, 0), (9, 1), (9, 0)] from by decide +kernel] at h9
    obtain ⟨a9, n9, k9, rfl⟩ := h9.slice
    obtain ⟨rfl, _⟩ := h9.len
    have H9 := Lib.hid h9
    have B9 : Hid (Below W0.heap.size W0 w9) := btrans B8.out hb9
    have L9 : Hid (IsLog w9 v4 l15) := L8.out.keep hb9
    have S9 : Hid (IsInts w9 u6 [5]) := h6.out.keep hb9
    clear hb9 h9 h5 h6 G8 L8 B8
    go_wp2_with fail
    refine (picks_any _ [0, 0] _ (isIntsL [0, 0] (by decide) (h1_0 _ _)) (by decide)).mono ?_
    rintro e wa ⟨va, rfl, hoa, hba⟩
    have Ba : Hid (Below w9.heap.size w9 wa) := (bfirst _ _ hba).2
    have La : Hid (IsLog wa va (pkL [0, 0])) := hoa.log (by decide)
    clear hba hoa
    go_wp2_with fail
    refine (endsB_any _ _ _ _ ⟨[], []⟩ (pkL [0, 0]) [1, 2] _ ⟨IsInts.nil _ _ _, IsInts.nil _ _ _⟩ (La.out.keep ((Below.refl _ _).alloc (Nat.le_refl _) _)) (isIntsL [1, 2] (by decide) (h1_0 _ _))).mono ?_
    rintro e wb ⟨rfl, hb⟩
    rw [show edB ⟨[], []⟩ (pkL [0, 0]) [1, 2] = true from by decide +kernel]
    have Bb : Hid (Below w9.heap.size w9 wb) := btrans Ba.out (bfirst _ _ hb).2
    clear hb La Ba
    obtain ⟨c0, c1⟩ := c2 (bkeep Bb.out (bkeep B9.out G0.out))
    go_wp2_with fail
    refine (endsB_any _ _ _ _ m15 l15 [3] _ ((HM.out.keep (btrans B9.out Bb.out)).keep ((Below.refl _ _).alloc (Nat.le_refl _) _)) ((L9.out.keep Bb.out).keep ((Below.refl _ _).alloc (Nat.le_refl _) _)) (isIntsL [3] (by decide) (h1_0 _ _))).mono ?_
    rintro e wd ⟨rfl, hb⟩
    rw [show edB m15 l15 [3] = true from by decide +kernel]
    have Bd : Hid (Below w9.heap.size w9 wd) := btrans Bb.out (bfirst _ _ hb).2
    clear hb Bb c0 c1
    go_wp2_with fail
    refine (sameInts_any _ _ [5] [5] _ ((S9.out.keep Bd.out).keep ((Below.refl _ _).alloc (Nat.le_refl _) _)) (isIntsL [5] (by decide) (h1_0 _ _))).mono ?_
    rintro e we ⟨rfl, hb⟩
    rw [show (([5] : List Int) == [5]) = true from by decide]
    have Be : Hid (Below w9.heap.size w9 we) := btrans Bd.out (bfirst _ _ hb).2
    clear hb Bd
    obtain ⟨bb, off, rfl, x0, x1, x2, x3, x4⟩ := (H9.out.keep Be.out).at 0 (by decide)
    obtain ⟨_, _, e1, y0, y1, y2, y3, y4⟩ := (H9.out.keep Be.out).at 1 (by decide)
    cases e1
    obtain ⟨_, _, e2, z0, z1, z2, z3, z4⟩ := (H9.out.keep Be.out).at 2 (by decide)
    cases e2
    simp only [Nat.zero_mul, Nat.add_zero, Nat.one_mul, Nat.reduceMul, List.getD_cons_zero, List.getD_cons_succ] at x0 x1 x2 x3 x4 y0 y1 y2 y3 y4 z0 z1 z2 z3 z4
    go_wp2_with fail
    go_ret
    exact ⟨rfl, btrans (btrans B0.out B9.out) Be.out⟩
end Go.Proofs.Ytgdcgmnfgbdiiaa
