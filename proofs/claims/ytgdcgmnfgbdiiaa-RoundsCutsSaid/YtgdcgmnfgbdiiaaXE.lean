/- Helper facts for the statements of this seat; no statement itself. -/
import Derived.Test.YtgdcgmnfgbdiiaaS
import Derived.Test.YtgdcgmnfgbdiiaaX
import Derived.Outline
namespace Go.Proofs.Ytgdcgmnfgbdiiaa
open Go.RowKit
set_option linter.unusedSimpArgs false
set_option linter.unusedVariables false
set_option linter.unnecessarySimpa false

/-- What the helper ends gives. -/
def edB (m : Mo) (l : List En) (q : List Int) : Bool := decide ((vldL m l).1 = 0) && (enL m l == q)
set_option maxRecDepth 100000 in
set_option maxHeartbeats 2000000 in
theorem endsB_any (va vp vl vq : Value) (m : Mo) (l : List En) (q : List Int) (w : World) (hm : IsM w va vp m) (hl : IsLog w vl l) (hq : IsInts w vq q) : Calls Try.prog 18 #[.agg #[va, vp], vl, vq] w fun e w' => e = .returned (.bool (edB m l q)) ∧ Below w.heap.size w w' := by
  obtain ⟨aa, na, ca, rfl⟩ := hm.1.slice
  obtain ⟨ap, np, cp, rfl⟩ := hm.2.slice
  obtain ⟨al, nl, cl, rfl⟩ := hl.slice
  have HM := Lib.hid hm
  have HL := Lib.hid hl
  have HQ := Lib.hid hq
  have HI : Hid (edB m l q = (decide ((vldL m l).1 = 0) && (enL m l == q))) := rfl
  clear hm hl hq
  generalize edB m l q = r at *
  go_enter Try.func18, Try.ntmps18
  go_wp2_with fail
  refine (ends_any _ _ _ m l _ (HM.out.keep ((Below.refl _ _).alloc (Nat.le_refl _) _)) (HL.out.keep ((Below.refl _ _).alloc (Nat.le_refl _) _))).mono ?_
  rintro e w1 ⟨v, rfl, hv, hb⟩
  have B1 := Lib.hid (bfirst _ _ hb).2
  have HV := Lib.hid hv
  clear hb hv
  by_cases hc : (vldL m l).1 = 0
  · have HR : Hid (r = (enL m l == q)) := by rw [HI.out, hc]; rfl
    rw [hc]
    clear hc HI
    go_wp2_with fail
    refine (sameInts_any _ _ (enL m l) q _ HV.out (HQ.out.keep B1.out)).mono ?_
    rintro e w2 ⟨rfl, hb⟩
    have B2 := Lib.hid (btrans B1.out hb)
    clear hb
    rw [← HR.out]
    go_wp2_with fail
    go_ret
    exact ⟨rfl, B2.out⟩
  · have HR : Hid (r = false) := by rw [HI.out]; simp only [hc, decide_false, Bool.false_and]; trivial
    have hz : ((vldL m l).1 == 0) = false := by simpa using hc
    clear HI hc
    go_wp2_with fail
    go_ret
    exact ⟨by rw [HR.out]; rfl, B1.out⟩
end Go.Proofs.Ytgdcgmnfgbdiiaa
