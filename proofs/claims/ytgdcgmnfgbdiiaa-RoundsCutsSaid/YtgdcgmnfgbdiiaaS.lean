/- Helper facts for the statements of this seat; no statement itself. -/
import Derived.Test.YtgdcgmnfgbdiiaaO
import Derived.Outline
namespace Go.Proofs.Ytgdcgmnfgbdiiaa
open Go.RowKit Go.Shelf
set_option linter.unusedSimpArgs false
set_option linter.unusedVariables false
set_option linter.unnecessarySimpa false

theorem ends_any (va vp vl : Value) (m : Mo) (l : List En) (w : World) (hm : IsM w va vp m) (hl : IsLog w vl l) : Calls Try.prog 11 #[.agg #[va, vp], vl] w (Ended m l w) := by
  by_cases hc : (vldL m l).1 = 0
  · exact ends_good va vp vl m l w hm hl hc
  · exact ends_bad va vp vl m l w hm hl hc
/-- What Is gives. -/
def isB (m : Mo) (l : List En) : Bool := decide ((vldL m l).1 = 0) && (decide ((enL m l).length = 1) && decide ((enL m l).getD 0 0 = (l.length : Int)))

set_option maxRecDepth 100000 in
set_option maxHeartbeats 2000000 in
theorem is_any (va vp vl : Value) (m : Mo) (l : List En) (w : World) (hm : IsM w va vp m) (hl : IsLog w vl l) : Calls Try.prog 34 #[.agg #[va, vp], vl] w fun e w' => e = .returned (.tuple #[.bool (isB m l), .int .i64 (vldL m l).1]) ∧ Below w.heap.size w w' := by
  obtain ⟨aa, na, ca, rfl⟩ := hm.1.slice
  obtain ⟨ap, np, cp, rfl⟩ := hm.2.slice
  obtain ⟨al, nl, cl, rfl⟩ := hl.slice
  obtain ⟨rfl, hln⟩ := hl.len
  have HM := Lib.hid hm
  have HL := Lib.hid hl
  have HI : Hid (isB m l = (decide ((vldL m l).1 = 0) && (decide ((enL m l).length = 1) && decide ((enL m l).getD 0 0 = (l.length : Int))))) := rfl
  clear hm hl
  go_enter Try.func34, Try.ntmps34
  go_wp2_with fail
  refine (ends_any _ _ _ m l _ (HM.out.keep ((Below.refl _ _).alloc (Nat.le_refl _) _)) (HL.out.keep ((Below.refl _ _).alloc (Nat.le_refl _) _))).mono ?_
  rintro e w1 ⟨v, rfl, hv, hb⟩
  obtain ⟨av, nv, cv, rfl⟩ := hv.slice
  obtain ⟨rfl, hlv⟩ := hv.len
  have B1 := Lib.hid (bfirst _ _ hb).2
  have HV := Lib.hid hv
  clear hb hv
  by_cases hc : (vldL m l).1 = 0
  · have HC := Lib.hid hc
    rw [hc]
    clear hc
    by_cases h1 : (enL m l).length = 1
    · obtain ⟨bb, off, rfl, c0⟩ := HV.out.at 0 (by omega)
      have HR : Hid (isB m l = ((enL m l).getD 0 0 == (l.length : Int))) := by rw [HI.out, HC.out]; simp only [h1, decide_true, Bool.true_and]; rfl
      simp only [Nat.add_zero] at c0
      rw [h1]
      generalize (enL m l).getD 0 0 = y at *
      clear HI
      go_wp2_with fail
      go_ret2
      exact ⟨by rw [HR.out, HC.out]; rfl, B1.out⟩
    · have HR : Hid (isB m l = false) := by rw [HI.out]; simp [h1, Lib.hid]
      have h2 : (((enL m l).length : Int) == 1) = false := by simp; omega
      have h3 : (((enL m l).length : Int) = 1) = False := by simp; omega
      clear HI
      go_wp2_with fail
      go_ret2
      exact ⟨by rw [HR.out, HC.out]; rfl, B1.out⟩
  · have HR : Hid (isB m l = false) := by rw [HI.out]; simp only [hc, decide_false, Bool.false_and]; trivial
    have hz : ((vldL m l).1 != 0) = true := by simpa using hc
    clear HI hc
    go_wp2_with fail
    go_ret2
    exact ⟨by rw [HR.out]; rfl, B1.out⟩
end Go.Proofs.Ytgdcgmnfgbdiiaa
