/- Helper facts for the statements of this seat; no statement itself. -/
import Derived.Test.YtgdcgmnfgbdiiaaY
import Derived.Deep.DeepCutAuto
import Derived.Outline
namespace Go.Proofs.Ytgdcgmnfgbdiiaa
open Go.RowKit
set_option linter.unusedSimpArgs false
set_option linter.unusedVariables false
set_option linter.unnecessarySimpa false

def m1 : Mo := ⟨[1], []⟩
def m0 : Mo := ⟨[], []⟩
def l2 : List En := [(2, 2), (1, 0), (3, 1)]
def l3 : List En := [(2, 1), (4, 5), (1, 0), (1, 0)]
theorem IsM0 (w : World) (a b : Option Addr) (k c : Nat) : IsM w (.slice a 0 k) (.slice b 0 c) m0 := ⟨IsInts.nil _ _ _, IsInts.nil _ _ _⟩

set_option maxRecDepth 100000 in
set_option maxHeartbeats 4000000 in
theorem roundsKnown_walk (w : World) : Calls Try.prog 4 #[] w fun e w' => e = .returned (.bool true) ∧ Below w.heap.size w w' := by
  go_enter Try.func4, Try.ntmps4
  go_upto_region 2 with fail
  have HM : Hid (IsM ((w.alloc (.cells #[.int .i64 1] 3)).alloc (.cells #[.slice (some ⟨w.heap.size, 0, none⟩) 1 1, .slice none 0 0] 25)) (.slice (some ⟨w.heap.size, 0, none⟩) 1 1) (.slice none 0 0) m1) := ⟨isIntsL [1] (by decide) (h2_0 _ _ _), IsInts.nil _ _ _⟩
  have G0 : Hid (((w.alloc (.cells #[.int .i64 1] 3)).alloc (.cells #[.slice (some ⟨w.heap.size, 0, none⟩) 1 1, .slice none 0 0] 25)).heap[w.heap.size + 1]? = some (.cells #[.slice (some ⟨w.heap.size, 0, none⟩) 1 1, .slice none 0 0] 25 (0, 0))) := h2_1 _ _ _
  have B0 : Hid (Below w.heap.size w ((w.alloc (.cells #[.int .i64 1] 3)).alloc (.cells #[.slice (some ⟨w.heap.size, 0, none⟩) 1 1, .slice none 0 0] 25))) := (((Below.refl _ _).alloc (Nat.le_refl _) _).alloc (by simp only [World.size_alloc] <;> omega) _)
  generalize (w.alloc (.cells #[.int .i64 1] 3)).alloc (.cells #[.slice (some ⟨w.heap.size, 0, none⟩) 1 1, .slice none 0 0] 25) = W0 at *
  generalize w.heap.size + 1 = g at *
  generalize (⟨w.heap.size, 0, none⟩ : Addr) = ab at *
  go_wp2_with fail
  refine (entry_any 2 2 _).mono ?_
  rintro e wx ⟨rfl, rfl⟩
  go_wp2_with fail
  refine (entry_any 1 0 _).mono ?_
  rintro e wx ⟨rfl, rfl⟩
  go_wp2_with fail
  refine (entry_any 3 1 _).mono ?_
  rintro e wx ⟨rfl, rfl⟩
  go_upto_region 3 with fail
  have B1 : Hid (Below W0.heap.size W0 ((((W0.alloc (.cells #[.int .i64 2, .int .i64 2] 37)).alloc (.cells #[.int .i64 1, .int .i64 0] 37)).alloc (.cells #[.int .i64 3, .int .i64 1] 37)).alloc (.cells #[.int .i64 2, .int .i64 2, .int .i64 1, .int .i64 0, .int .i64 3, .int .i64 1] 37))) := balloc ((((Below.refl _ _).alloc (Nat.le_refl _) _).alloc (by simp only [World.size_alloc] <;> omega) _).alloc (by simp only [World.size_alloc] <;> omega) _) _
  have L1 : Hid (IsLog ((((W0.alloc (.cells #[.int .i64 2, .int .i64 2] 37)).alloc (.cells #[.int .i64 1, .int .i64 0] 37)).alloc (.cells #[.int .i64 3, .int .i64 1] 37)).alloc (.cells #[.int .i64 2, .int .i64 2, .int .i64 1, .int .i64 0, .int .i64 3, .int .i64 1] 37)) (.slice (some ⟨W0.heap.size + 1 + 1 + 1, 0, none⟩) 3 3) l2) := isLogL l2 (by decide) (h4_3 _ _ _ _ _)
  generalize (((W0.alloc (.cells #[.int .i64 2, .int .i64 2] 37)).alloc (.cells #[.int .i64 1, .int .i64 0] 37)).alloc (.cells #[.int .i64 3, .int .i64 1] 37)).alloc (.cells #[.int .i64 2, .int .i64 2, .int .i64 1, .int .i64 0, .int .i64 3, .int .i64 1] 37) = W1 at *
  generalize (⟨W0.heap.size + 1 + 1 + 1, 0, none⟩ : Addr) = a2 at *
  have G1 := Lib.hid (bkeep B1.out G0.out)
  go_wp2_with (((with_reducible refine ld25 ?a1 (.tmp 1) ?a2 g ?a3 _ _ 25 G1 ?_); (case a1 => rfl); (case a2 => rfl); (case a3 => rfl)))
  refine (owed_any _ _ _ m1 l2 _ (HM.out.keep B1.out) L1.out).mono ?_
  rintro e W2 ⟨p, q, rfl, hp, hq, hb⟩
  rw [show (vldL m1 l2).1 = 0 from by decide +kernel]
  rw [show owA m1 l2 = [0, 2] from by decide +kernel] at hp
  rw [show owB m1 l2 = [] from by decide +kernel] at hq
  obtain ⟨aq, nq, cq, rfl⟩ := hq.slice
  obtain ⟨rfl, _⟩ := hq.len
  have B2 : Hid (Below W0.heap.size W0 W2) := btrans B1.out hb
  have L2 : Hid (IsLog W2 _ l2) := L1.out.keep hb
  have P2 := Lib.hid hp
  clear hb hp hq B1 L1 G1
  go_wp2_with fail
  refine (entry_any 2 1 _).mono ?_
  rintro e wx ⟨rfl, rfl⟩
  go_wp2_with fail
  refine (entry_any 4 5 _).mono ?_
  rintro e wx ⟨rfl, rfl⟩
  go_wp2_with fail
  have O3 : Hid (OwnSp (((W2.alloc (.cells #[.int .i64 2, .int .i64 1] 37)).alloc (.cells #[.int .i64 4, .int .i64 5] 37)).alloc (.cells #[.int .i64 2, .int .i64 1, .int .i64 4, .int .i64 5] 37)) W2.heap.size (.slice (some ⟨W2.heap.size + 1 + 1, 0, none⟩) 2 2) [(2, 1), (4, 5)]) := by have := OwnSp.lit ((W2.alloc (.cells #[.int .i64 2, .int .i64 1] 37)).alloc (.cells #[.int .i64 4, .int .i64 5] 37)) [(2, 1), (4, 5)] W2.heap.size (by simp only [World.size_alloc]; omega) (by decide); simp only [World.size_alloc] at this; exact this
  have B3 : Hid (Below W2.heap.size W2 (((W2.alloc (.cells #[.int .i64 2, .int .i64 1] 37)).alloc (.cells #[.int .i64 4, .int .i64 5] 37)).alloc (.cells #[.int .i64 2, .int .i64 1, .int .i64 4, .int .i64 5] 37))) := ((((Below.refl _ _).alloc (Nat.le_refl _) _).alloc (by simp only [World.size_alloc] <;> omega) _).alloc (by simp only [World.size_alloc] <;> omega) _)
  have hz3 : W2.heap.size + 1 + 1 + 1 = (((W2.alloc (.cells #[.int .i64 2, .int .i64 1] 37)).alloc (.cells #[.int .i64 4, .int .i64 5] 37)).alloc (.cells #[.int .i64 2, .int .i64 1, .int .i64 4, .int .i64 5] 37)).heap.size := by simp only [World.size_alloc]
  rw [hz3]
  clear hz3
  generalize ((W2.alloc (.cells #[.int .i64 2, .int .i64 1] 37)).alloc (.cells #[.int .i64 4, .int .i64 5] 37)).alloc (.cells #[.int .i64 2, .int .i64 1, .int .i64 4, .int .i64 5] 37) = W3 at *
  generalize (⟨W2.heap.size + 1 + 1, 0, none⟩ : Addr) = a3 at *
  refine (picks_any _ [0, 0] _ (isIntsL [0, 0] (by decide) (h1_0 _ _)) (by decide)).mono ?_
  rintro e W4 ⟨v4, rfl, ho4, hb4⟩
  have hs := B3.out.size
  have B4 : Hid (Below W2.heap.size W2 W4) := btrans (balloc B3.out _) hb4
  have L4 : Hid (IsLog W4 v4 (pkL [0, 0])) := ho4.log (by decide)
  have O4 : Hid (OwnSp W4 W2.heap.size (.slice (some a3) 2 2) [(2, 1), (4, 5)]) := (O3.out.alloc _).keep hb4
  clear ho4 hb4 B3 O3 hs
  have hs4 := B4.out.size
  go_upto_region 5 with (((with_reducible refine append_log ?b1 (.tmp 35) (.tmp 37) ?b2 W2.heap.size (.slice (some a3) 2 2) v4 [(2, 1), (4, 5)] (pkL [0, 0]) ?b3 ?b4 O4 L4 ?b5 ?b6 ?_); (case b1 => rfl); (case b2 => rfl); (case b3 => rfl); (case b4 => rfl); (case b5 => decide); (case b6 => omega)); intro v5 W5 ho5 hb5 hg5)
  have B5 : Hid (Below W2.heap.size W2 W5) := B4.out.trans hb5.out
  have L5 : Hid (IsLog W5 v5 l3) := ho5.out.log (by decide)
  clear ho5 hb5 hg5 O4 L4 B4 hs4
  go_wp2_with fail
  refine (owed_any _ _ _ m0 l3 _ (IsM0 _ _ _ _ _) L5.out).mono ?_
  rintro e W6 ⟨p6, q6, rfl, hp, hq, hb⟩
  rw [show (vldL m0 l3).1 = 0 from by decide +kernel]
  rw [show owA m0 l3 = [1] from by decide +kernel] at hp
  rw [show owB m0 l3 = [5] from by decide +kernel] at hq
  have B6' : Hid (Below W2.heap.size W2 W6) := btrans B5.out hb
  have B6 : Hid (Below W0.heap.size W0 W6) := btrans B2.out B6'.out
  have X1 : Hid (IsInts W6 p [0, 2]) := P2.out.keep B6'.out
  have X2 : Hid (IsLog W6 (.slice (some a2) 3 3) l2) := L2.out.keep B6'.out
  have X3 : Hid (IsLog W6 v5 l3) := L5.out.keep hb
  have X4 := Lib.hid hp
  have X5 := Lib.hid hq
  clear hb hp hq B6' B5 L5 B2 L2 P2
  go_wp2_with fail
  refine (entry_any 3 1 _).mono ?_
  rintro e wx ⟨rfl, rfl⟩
  go_wp2_with fail
  refine (valid_any _ _ _ m0 [(3, 1)] _ (IsM0 _ _ _ _ _) (isLogL [(3, 1)] (by decide) (h2_1 _ _ _))).mono ?_
  rintro e W7 ⟨rfl, hb⟩
  rw [show vldL m0 [(3, 1)] = (9, 0) from by decide +kernel]
  have B7 : Hid (Below W6.heap.size W6 W7) := btrans (((Below.refl _ _).alloc (Nat.le_refl _) _).alloc (by simp only [World.size_alloc] <;> omega) _) hb
  clear hb
  go_wp2_with fail
  refine (picks_any _ [9] _ (isIntsL [9] (by decide) (h1_0 _ _)) (by decide)).mono ?_
  rintro e W8 ⟨v8, rfl, ho, hb⟩
  have B8 : Hid (Below W6.heap.size W6 W8) := btrans (balloc B7.out _) hb
  have L8 : Hid (IsLog W8 v8 (pkL [9])) := ho.log (by decide)
  clear hb ho B7
  go_wp2_with fail
  refine (valid_any _ _ _ m0 (pkL [9]) _ (IsM0 _ _ _ _ _) L8.out).mono ?_
  rintro e W9 ⟨rfl, hb⟩
  rw [show vldL m0 (pkL [9]) = (2, 0) from by decide +kernel]
  have B9 : Hid (Below W6.heap.size W6 W9) := btrans B8.out hb
  clear hb L8 B8
  go_wp2_with fail
  refine (entry_any 4 5 _).mono ?_
  rintro e wx ⟨rfl, rfl⟩
  go_wp2_with fail
  refine (valid_any _ _ _ ⟨[], [5]⟩ [(4, 5)] _ ⟨IsInts.nil _ _ _, isIntsL [5] (by decide) (h3_0 _ _ _ _)⟩ (isLogL [(4, 5)] (by decide) (h3_2 _ _ _ _))).mono ?_
  rintro e Wa ⟨rfl, hb⟩
  rw [show vldL ⟨[], [5]⟩ [(4, 5)] = (9, 0) from by decide +kernel]
  have Ba : Hid (Below W6.heap.size W6 Wa) := btrans (balloc (balloc (balloc B9.out _) _) _) hb
  clear hb B9
  go_wp2_with fail
  refine (fair_any _ _ ⟨[1, 3], [5]⟩ _ ⟨isIntsL [1, 3] (by decide) (h2_0 _ _ _), isIntsL [5] (by decide) (h2_1 _ _ _)⟩).mono ?_
  rintro e Wb ⟨v9, rfl, h9, hb⟩
  rw [show ckM ⟨[1, 3], [5]⟩ = 0 from by decide +kernel]
  rw [show faL ⟨[1, 3], [5]⟩ = [(10, 0), (9, 1), (9, 3), (9, 0)] from by decide +kernel] at h9
  obtain ⟨a9, n9, k9, rfl⟩ := h9.slice
  obtain ⟨rfl, _⟩ := h9.len
  have Bb : Hid (Below W6.heap.size W6 Wb) := btrans (balloc (balloc Ba.out _) _) hb
  have H9 := Lib.hid h9
  clear hb h9 Ba
  go_upto_region 10 with fail
  go_cut [18] (fun s18 wx => s18 = .bool true ∧ Hid (Below Wb.heap.size Wb wx))
  case first =>
    obtain ⟨c0, c1⟩ := c2 (bkeep Bb.out (bkeep B6.out G0.out))
    have Y0 : Hid (IsM Wb (.slice (some ab) 1 1) (.slice none 0 0) m1) := (HM.out.keep B6.out).keep Bb.out
    have Y1 := Lib.hid (X1.out.keep Bb.out)
    have Y2 := Lib.hid (X2.out.keep Bb.out)
    have Y3 := Lib.hid (X3.out.keep Bb.out)
    have Y4 := Lib.hid (X4.out.keep Bb.out)
    have Y5 := Lib.hid (X5.out.keep Bb.out)
    clear X1 X2 X3 X4 X5 Bb H9 HM G0 B0 B6
    have BB : Hid (Below Wb.heap.size Wb Wb) := Below.refl _ _
    go_region_held3 (fun w' => w'.cell? ⟨g, 0, none⟩ = some (.slice (some ab) 1 1) ∧ w'.cell? ⟨g, 1, none⟩ = some (.slice none 0 0))
      (refine ⟨?_, ?_⟩ <;> (with_reducible repeat (first | exact cellB BB.out c0 | exact cellB BB.out c1 | refine cellD ?_ | refine cellA ?_ _)))
      (first | (go_at_call 15; (with_reducible refine (picks_any _ [0, 1, 0, 1, 1] _ ?k1 ?k2).mono ?_); (case k1 => exact isIntsL [0, 1, 0, 1, 1] (by decide) (by simp only [heapD, heapA, World.size_alloc]; repeat (first | rfl | rw [if_pos (by omega)] | rw [if_neg (by omega)]))); (case k2 => decide); rintro e w6 ⟨v6, rfl, ho6, hb6⟩; have O6 := Lib.hid (ho6.log (by decide)); have HB6 := Lib.hid hb6; have BB : Hid (Below Wb.heap.size Wb w6) := btrans (w := Wb) (by with_reducible repeat (first | exact BB.out | refine balloc ?_ _ | refine Below.drew ?_)) hb6; clear hb6 ho6) | (go_at_call 18; (with_reducible refine (endsB_any _ _ _ _ m1 (pkL [0, 1, 0, 1, 1]) [2, 4] _ ?p1 ?p2 ?p3).mono ?_); (case p1 => exact Y0.out.keep (by with_reducible repeat (first | exact BB.out | refine balloc ?_ _ | refine Below.drew ?_))); (case p2 => exact O6.out.keep (by with_reducible repeat (first | exact Below.refl _ _ | refine balloc ?_ _))); (case p3 => first | exact isIntsL [2, 4] (by decide) (by simp only [heapD, heapA, World.size_alloc]; repeat (first | rfl | rw [if_pos (by omega)] | rw [if_neg (by omega)])) | exact IsInts.keep (isIntsL [2, 4] (by decide) (by simp only [heapD, heapA, World.size_alloc]; repeat (first | rfl | rw [if_pos (by omega)] | rw [if_neg (by omega)]))) HB6.out); rintro e w7 ⟨rfl, hb⟩; rw [show edB m1 (pkL [0, 1, 0, 1, 1]) [2, 4] = true from by decide +kernel]; have BB : Hid (Below Wb.heap.size Wb w7) := btrans (w := Wb) (by with_reducible repeat (first | exact BB.out | refine balloc ?_ _ | refine Below.drew ?_)) hb; clear hb) | (go_at_call 18; (with_reducible refine (endsB_any _ _ _ _ m1 l2 [3] _ ?q1 ?q2 ?q3).mono ?_); (case q1 => exact Y0.out.keep (by with_reducible repeat (first | exact BB.out | refine balloc ?_ _ | refine Below.drew ?_))); (case q2 => exact Y2.out.keep (by with_reducible repeat (first | exact BB.out | refine balloc ?_ _ | refine Below.drew ?_))); (case q3 => exact isIntsL [3] (by decide) (by simp only [heapD, heapA, World.size_alloc]; repeat (first | rfl | rw [if_pos (by omega)] | rw [if_neg (by omega)]))); rintro e w7 ⟨rfl, hb⟩; rw [show edB m1 l2 [3] = true from by decide +kernel]; have BB : Hid (Below Wb.heap.size Wb w7) := btrans (w := Wb) (by with_reducible repeat (first | exact BB.out | refine balloc ?_ _ | refine Below.drew ?_)) hb; clear hb) | (go_at_call 18; (with_reducible refine (endsB_any _ _ _ _ m0 l3 [3] _ ?r1 ?r2 ?r3).mono ?_); (case r1 => exact IsM0 _ _ _ _ _); (case r2 => exact Y3.out.keep (by with_reducible repeat (first | exact BB.out | refine balloc ?_ _ | refine Below.drew ?_))); (case r3 => exact isIntsL [3] (by decide) (by simp only [heapD, heapA, World.size_alloc]; repeat (first | rfl | rw [if_pos (by omega)] | rw [if_neg (by omega)]))); rintro e w7 ⟨rfl, hb⟩; rw [show edB m0 l3 [3] = true from by decide +kernel]; have BB : Hid (Below Wb.heap.size Wb w7) := btrans (w := Wb) (by with_reducible repeat (first | exact BB.out | refine balloc ?_ _ | refine Below.drew ?_)) hb; clear hb) | (go_at_call 19; (with_reducible refine (sameInts_any _ _ [0, 2] [0, 2] _ ?s1 ?s2).mono ?_); (case s1 => exact Y1.out.keep (by with_reducible repeat (first | exact BB.out | refine balloc ?_ _ | refine Below.drew ?_))); (case s2 => exact isIntsL [0, 2] (by decide) (by simp only [heapD, heapA, World.size_alloc]; repeat (first | rfl | rw [if_pos (by omega)] | rw [if_neg (by omega)]))); rintro e w7 ⟨rfl, hb⟩; rw [show (([0, 2] : List Int) == [0, 2]) = true from by decide]; have BB : Hid (Below Wb.heap.size Wb w7) := btrans (w := Wb) (by with_reducible repeat (first | exact BB.out | refine balloc ?_ _ | refine Below.drew ?_)) hb; clear hb) | (go_at_call 19; (with_reducible refine (sameInts_any _ _ [1] [1] _ ?t1 ?t2).mono ?_); (case t1 => exact Y4.out.keep (by with_reducible repeat (first | exact BB.out | refine balloc ?_ _ | refine Below.drew ?_))); (case t2 => exact isIntsL [1] (by decide) (by simp only [heapD, heapA, World.size_alloc]; repeat (first | rfl | rw [if_pos (by omega)] | rw [if_neg (by omega)]))); rintro e w7 ⟨rfl, hb⟩; rw [show (([1] : List Int) == [1]) = true from by decide]; have BB : Hid (Below Wb.heap.size Wb w7) := btrans (w := Wb) (by with_reducible repeat (first | exact BB.out | refine balloc ?_ _ | refine Below.drew ?_)) hb; clear hb) | (go_at_call 19; (with_reducible refine (sameInts_any _ _ [5] [5] _ ?u1 ?u2).mono ?_); (case u1 => exact Y5.out.keep (by with_reducible repeat (first | exact BB.out | refine balloc ?_ _ | refine Below.drew ?_))); (case u2 => exact isIntsL [5] (by decide) (by simp only [heapD, heapA, World.size_alloc]; repeat (first | rfl | rw [if_pos (by omega)] | rw [if_neg (by omega)]))); rintro e w7 ⟨rfl, hb⟩; rw [show (([5] : List Int) == [5]) = true from by decide]; have BB : Hid (Below Wb.heap.size Wb w7) := btrans (w := Wb) (by with_reducible repeat (first | exact BB.out | refine balloc ?_ _ | refine Below.drew ?_)) hb; clear hb))
    all_goals
      go_wp2_with fail
      go_meet
      exact ⟨rfl, BB⟩
  case rest =>
    obtain ⟨rfl, hbx⟩ := hcut
    have Bc := Lib.hid (btrans Bb.out hbx.out)
    have H10 := Lib.hid (H9.out.keep hbx.out)
    clear hbx Bb H9
    go_wp2_with fail
    refine (check_any _ _ ⟨[2, 1], []⟩ _ ⟨isIntsL [2, 1] (by decide) (h1_0 _ _), IsInts.nil _ _ _⟩).mono ?_
    rintro e Wd ⟨rfl, hb⟩
    rw [show ckM ⟨[2, 1], []⟩ = 8 from by decide +kernel]
    have Bd : Hid (Below W6.heap.size W6 Wd) := btrans (balloc Bc.out _) hb
    have H11 := Lib.hid ((H10.out.keep ((Below.refl _ _).alloc (Nat.le_refl _) _)).keep hb)
    clear hb Bc H10
    go_wp2_with fail
    refine (awake_any _).mono ?_
    rintro e We ⟨rfl, hb⟩
    have Be : Hid (Below W6.heap.size W6 We) := btrans Bd.out hb
    obtain ⟨bb, off, rfl, x0, x1, x2, x3, x4⟩ := (H11.out.keep hb).at 2 (by decide)
    simp only [Nat.zero_mul, Nat.add_zero, Nat.one_mul, Nat.reduceMul, List.getD_cons_zero, List.getD_cons_succ] at x0 x1 x2 x3 x4
    clear hb Bd H11
    go_wp2_with fail
    go_ret
    exact ⟨rfl, btrans (btrans B0.out B6.out) Be.out⟩
end Go.Proofs.Ytgdcgmnfgbdiiaa
