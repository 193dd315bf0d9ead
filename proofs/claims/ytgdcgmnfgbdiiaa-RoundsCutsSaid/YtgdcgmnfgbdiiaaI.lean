/- Helper facts for the statements of this seat; no statement itself. -/
import Derived.Test.YtgdcgmnfgbdiiaaH
import Derived.Outline
namespace Go.Proofs.Ytgdcgmnfgbdiiaa
open Go.RowKit
set_option linter.unusedSimpArgs false
set_option linter.unusedVariables false
set_option linter.unnecessarySimpa false

/-- A moment's value reads as this moment. -/
def IsM (w : World) (va vp : Value) (m : Mo) : Prop := IsInts w va m.b ∧ IsInts w vp m.p
theorem IsM.keep {w w' : World} {va vp : Value} {m : Mo} (h : IsM w va vp m) (hb : Below w.heap.size w w') : IsM w' va vp m := ⟨h.1.keep hb, h.2.keep hb⟩
theorem IsM.inR {m : Mo} (h : ckM m = 0) : InR 0 8 m.b ∧ InR 0 255 m.p := by
  obtain ⟨a, b⟩ := ckM_ok h
  exact ⟨fun k hk => ⟨by have := (a k hk).1; omega, (a k hk).2.1⟩, fun k hk => ⟨(b k hk).1, (b k hk).2.1⟩⟩

set_option maxHeartbeats 1000000 in
theorem check_any (va vp : Value) (m : Mo) (w : World) (hm : IsM w va vp m) : Calls Try.prog 20 #[.agg #[va, vp]] w fun e w' => e = .returned (.int .i64 (ckM m)) ∧ Below w.heap.size w w' := by
  obtain ⟨aa, na, ca, rfl⟩ := hm.1.slice
  obtain ⟨ap, np, cp, rfl⟩ := hm.2.slice
  have HM := Lib.hid hm
  clear hm
  have HE : Hid (ckM m = if ascE 1 8 m.b none = 0 then ascE 0 255 m.p none else ascE 1 8 m.b none) := rfl
  generalize ckM m = r at *
  by_cases h1 : ascE 1 8 m.b none = 0
  · have HE2 : Hid (r = ascE 0 255 m.p none) := HE.out.trans (if_pos h1)
    have H1 := Lib.hid h1
    clear HE h1
    go_enter Try.func20, Try.ntmps20
    go_wp2_with fail
    refine (ascends_any _ m.b 1 8 _ (HM.out.1.keep ((Below.refl _ _).alloc (Nat.le_refl _) _))).mono ?_
    rintro e w1 ⟨rfl, hb⟩
    rw [H1.out]
    have X1 := Lib.hid (bfirst _ _ hb)
    clear hb
    obtain ⟨d0, d1⟩ := c2 X1.out.1
    go_wp2_with fail
    refine (ascends_any _ m.p 0 255 _ (HM.out.2.keep X1.out.2)).mono ?_
    rintro e w2 ⟨rfl, hb⟩
    have B2 := Lib.hid (btrans X1.out.2 hb)
    clear hb
    rw [← HE2.out]
    go_wp2_with fail
    go_ret
    exact ⟨rfl, B2.out⟩
  · have HE2 : Hid (r = ascE 1 8 m.b none) := HE.out.trans (if_neg h1)
    have hz : (r != 0) = true := by rw [HE2.out]; simpa using h1
    clear HE h1
    go_enter Try.func20, Try.ntmps20
    go_wp2_with fail
    refine (ascends_any _ m.b 1 8 _ (HM.out.1.keep ((Below.refl _ _).alloc (Nat.le_refl _) _))).mono ?_
    rintro e w1 ⟨rfl, hb⟩
    rw [← HE2.out]
    have X1 := Lib.hid (bfirst _ _ hb).2
    clear hb
    go_wp2_with fail
    go_ret
    exact ⟨rfl, X1.out⟩
set_option maxHeartbeats 1000000 in
theorem rcheck_any (va vp : Value) (m : Mo) (w : World) (hm : IsM w va vp m) : Calls Try.prog 26 #[.agg #[va, vp]] w fun e w' => e = .returned (.int .i64 (ckM m)) ∧ Below w.heap.size w w' := by
  obtain ⟨aa, na, ca, rfl⟩ := hm.1.slice
  obtain ⟨ap, np, cp, rfl⟩ := hm.2.slice
  have HM := Lib.hid hm
  clear hm
  have HE : Hid (ckM m = if ascE 1 8 m.b none = 0 then ascE 0 255 m.p none else ascE 1 8 m.b none) := rfl
  generalize ckM m = r at *
  by_cases h1 : ascE 1 8 m.b none = 0
  · have HE2 : Hid (r = ascE 0 255 m.p none) := HE.out.trans (if_pos h1)
    have H1 := Lib.hid h1
    clear HE h1
    go_enter Try.func26, Try.ntmps26
    go_wp2_with fail
    refine (ascending_any _ m.b 1 8 _ (HM.out.1.keep ((Below.refl _ _).alloc (Nat.le_refl _) _))).mono ?_
    rintro e w1 ⟨rfl, hb⟩
    rw [H1.out]
    have X1 := Lib.hid (bfirst _ _ hb)
    clear hb
    obtain ⟨d0, d1⟩ := c2 X1.out.1
    go_wp2_with fail
    refine (ascending_any _ m.p 0 255 _ (HM.out.2.keep X1.out.2)).mono ?_
    rintro e w2 ⟨rfl, hb⟩
    have B2 := Lib.hid (btrans X1.out.2 hb)
    clear hb
    rw [← HE2.out]
    go_wp2_with fail
    go_ret
    exact ⟨rfl, B2.out⟩
  · have HE2 : Hid (r = ascE 1 8 m.b none) := HE.out.trans (if_neg h1)
    have hz : (r == 0) = false := by rw [HE2.out]; simpa using h1
    clear HE h1
    go_enter Try.func26, Try.ntmps26
    go_wp2_with fail
    refine (ascending_any _ m.b 1 8 _ (HM.out.1.keep ((Below.refl _ _).alloc (Nat.le_refl _) _))).mono ?_
    rintro e w1 ⟨rfl, hb⟩
    rw [← HE2.out]
    have X1 := Lib.hid (bfirst _ _ hb).2
    clear hb
    go_wp2_with fail
    go_ret
    exact ⟨rfl, X1.out⟩
end Go.Proofs.Ytgdcgmnfgbdiiaa
