/- Helper facts for the statements of this seat; no statement itself. -/
import Derived.Test.YtlmdfanhimhlcaaQ
import Derived.Outline
namespace Go.Proofs.Ytlmdfanhimhlcaa
open Go.RowKit
set_option linter.unusedSimpArgs false
set_option linter.unusedVariables false
set_option linter.unnecessarySimpa false

theorem isSpsL {W : World} {g : Nat} {t : TypeId} (l : List (Int × Int)) (hl : l.length ≤ 4294967296) (h : W.heap[g]? = some (.cells (spC l).toArray t (0, 0))) : IsSps W (.slice (some ⟨g, 0, none⟩) l.length l.length) l :=
  ⟨_, _, _, rfl, rfl, hl, .inr ⟨g, rfl, fun k hk => ⟨setRow_cell h (by simpa using (spC_get l k hk).1), setRow_cell h (by simpa using (spC_get l k hk).2)⟩⟩⟩
set_option maxHeartbeats 8000000 in
set_option maxRecDepth 100000 in
theorem pressureKnown_walk (w : World) : Calls Try.prog 8 #[] w fun e w' => e = .returned (.bool true) ∧ Below w.heap.size w w' := by
  have K1 : Hid (sn1 2 5 9 257 = 2) := by show _ = _; decide +kernel
  have K2 : Hid (snd 2 5 9 [9, 4, 6, 8, 9, 8, 4] = 0) := by show _ = _; decide +kernel
  have K3 : Hid (spL 2 5 9 [9, 4, 6, 8, 9, 8, 4] = [(1, 3), (6, 6)]) := by show _ = _; decide +kernel
  have K4 : Hid (woL 2 5 9 [9, 4, 2, 0] = 3 ∧ woA 2 5 9 [9, 4, 2, 0] = 2 ∧ snd 2 5 9 [9, 4, 2, 0] = 0) := by show _ ∧ _ ∧ _; decide +kernel
  have K5 : Hid (woL 2 5 9 [] = 0 ∧ woA 2 5 9 [] = -1 ∧ snd 2 5 9 [] = 0) := by show _ ∧ _ ∧ _; decide +kernel
  have K6 : Hid (chkM 2 2 9 = 8 ∧ chkM (-1) 2 9 = 2 ∧ chkM 2 5 257 = 2) := by show _ ∧ _ ∧ _; decide +kernel
  go_enter Try.func8, Try.ntmps8
  go_wp2_with fail
  refine (marks_any _).mono ?_
  rintro e wm ⟨rfl, rfl⟩
  go_wp2_with fail
  refine (level_full 2 5 9 257 _).mono ?_
  rintro e w1 ⟨rfl, hb⟩
  rw [K1.out]
  have B1 := Lib.hid (btrans (balloc (Below.refl _ _) _) hb)
  clear hb
  go_wp2_with fail
  refine (level_yes 5 1 _ (by decide +kernel) (by decide +kernel)).mono ?_
  rintro e w2 ⟨rfl, hb⟩
  have B2 := Lib.hid (btrans B1.out hb)
  clear hb
  clear B1
  go_wp2_with fail
  refine (level_yes 2 3 _ (by decide +kernel) (by decide +kernel)).mono ?_
  rintro e w3 ⟨rfl, hb⟩
  have B3 := Lib.hid (btrans B2.out hb)
  clear hb
  clear B2
  go_wp2_with fail
  refine (level_yes 0 3 _ (by decide +kernel) (by decide +kernel)).mono ?_
  rintro e w4 ⟨rfl, hb⟩
  have B4 := Lib.hid (btrans B3.out hb)
  clear hb
  clear B3
  go_wp2_with fail
  refine (next_yes false 5 false _ (by decide +kernel) (by decide +kernel)).mono ?_
  rintro e w5 ⟨rfl, hb⟩
  have B5 := Lib.hid (btrans B4.out hb)
  clear hb
  clear B4
  go_wp2_with fail
  refine (next_yes false 4 true _ (by decide +kernel) (by decide +kernel)).mono ?_
  rintro e w6 ⟨rfl, hb⟩
  have B6 := Lib.hid (btrans B5.out hb)
  clear hb
  clear B5
  go_wp2_with fail
  refine (next_yes true 9 false _ (by decide +kernel) (by decide +kernel)).mono ?_
  rintro e w7 ⟨rfl, hb⟩
  have B7 := Lib.hid (btrans B6.out hb)
  clear hb
  clear B6
  go_wp2_with fail
  refine (marks_any _).mono ?_
  rintro e wm ⟨rfl, rfl⟩
  go_wp2_with fail
  refine (spans_any 2 5 9 _ [9, 4, 6, 8, 9, 8, 4] _ ?i1).mono ?_
  case i1 => exact isIntsL [9, 4, 6, 8, 9, 8, 4] (by decide) (h2_1 _ _ _)
  rintro e w8 ⟨v, rfl, iv, hb⟩
  rw [K2.out]
  rw [K3.out] at iv
  have B8 := Lib.hid (btrans (balloc (balloc B7.out _) _) hb)
  have IV := Lib.hid iv
  clear hb iv B7
  go_wp2_with fail
  refine (marks_any _).mono ?_
  rintro e wm ⟨rfl, rfl⟩
  go_wp2_with fail
  refine (worst_any 2 5 9 _ [9, 4, 2, 0] _ ?i2).mono ?_
  case i2 => exact isIntsL [9, 4, 2, 0] (by decide) (h2_1 _ _ _)
  rintro e w9 ⟨rfl, hb⟩
  rw [K4.out.1, K4.out.2.1, K4.out.2.2]
  have B9 := Lib.hid (btrans (balloc (balloc B8.out _) _) hb)
  have IVx := Lib.hid (IV.out.keep (btrans (balloc (balloc (Below.refl _ _) _) _) hb))
  clear IV
  have IV := IVx
  clear IVx
  clear hb
  clear B8
  go_wp2_with fail
  refine (marks_any _).mono ?_
  rintro e wm ⟨rfl, rfl⟩
  go_wp2_with fail
  refine (worst_any 2 5 9 _ [] _ (IsInts.nil _ _ _)).mono ?_
  rintro e w10 ⟨rfl, hb⟩
  rw [K5.out.1, K5.out.2.1, K5.out.2.2]
  have B10 := Lib.hid (btrans (balloc B9.out _) hb)
  have IVx := Lib.hid (IV.out.keep (btrans (balloc (Below.refl _ _) _) hb))
  clear IV
  have IV := IVx
  clear IVx
  clear hb
  clear B9
  go_wp2_with fail
  refine (sameSpans_eq v _ [(1, 3), (6, 6)] _ (IV.out.keep ((Below.refl _ _).alloc (Nat.le_refl _) _)) ?i3).mono ?_
  case i3 => exact isSpsL [(1, 3), (6, 6)] (by decide) (h1_0 _ _)
  rintro e w11 ⟨rfl, hb⟩
  have B11 := Lib.hid (btrans (balloc B10.out _) hb)
  have IVx := Lib.hid (IV.out.keep (btrans (balloc (Below.refl _ _) _) hb))
  clear IV
  have IV := IVx
  clear IVx
  clear hb
  clear B10
  go_wp2_with fail
  refine (misses_yes true 6 3 _ (by decide +kernel) (by decide +kernel)).mono ?_
  rintro e w12 ⟨rfl, hb⟩
  have B12 := Lib.hid (btrans B11.out hb)
  clear hb
  clear B11
  go_wp2_with fail
  refine (misses_yes false 6 0 _ (by decide +kernel) (by decide +kernel)).mono ?_
  rintro e w13 ⟨rfl, hb⟩
  have B13 := Lib.hid (btrans B12.out hb)
  clear hb
  clear B12
  go_wp2_with fail
  refine (misses_yes false 4 5 _ (by decide +kernel) (by decide +kernel)).mono ?_
  rintro e w14 ⟨rfl, hb⟩
  have B14 := Lib.hid (btrans B13.out hb)
  clear hb
  clear B13
  go_wp2_with fail
  refine (check_any 2 2 9 _).mono ?_
  rintro e w15 ⟨rfl, hb⟩
  rw [K6.out.1]
  have B15 := Lib.hid (btrans B14.out hb)
  clear hb
  clear B14
  go_wp2_with fail
  refine (check_any (-1) 2 9 _).mono ?_
  rintro e w16 ⟨rfl, hb⟩
  rw [K6.out.2.1]
  have B16 := Lib.hid (btrans B15.out hb)
  clear hb
  clear B15
  go_wp2_with fail
  refine (check_any 2 5 257 _).mono ?_
  rintro e w17 ⟨rfl, hb⟩
  rw [K6.out.2.2]
  have B17 := Lib.hid (btrans B16.out hb)
  clear hb
  clear B16
  go_wp2_with fail
  refine (awake_any _).mono ?_
  rintro e w18 ⟨rfl, hb⟩
  have B18 := Lib.hid (btrans B17.out hb)
  clear hb
  clear B17
  go_wp2_with fail
  go_ret
  exact ⟨rfl, B18.out⟩
end Go.Proofs.Ytlmdfanhimhlcaa
