/- Helper facts for the statements of this seat; no statement itself. -/
import Derived.Test.YtfploaaelfjadaaN
import Derived.Test.YtfploaaelfjadaaRC
import Derived.Outline
namespace Go.Proofs.Ytfploaaelfjadaa
open Go.RowKit
set_option linter.unusedSimpArgs false
set_option linter.unusedVariables false
set_option linter.unnecessarySimpa false

set_option maxRecDepth 100000 in
set_option maxHeartbeats 1000000 in
theorem shown_x (w : World) : Calls Try.prog 29 #[] w fun e w' => e = .returned (TV shT) ∧ w.alloc (.cells (tC shT) 23) = w' := by
  go_enter Try.func29, Try.ntmps29
  go_wp2
  exact bodyPost_ret (v := TV shT) (by simp [results, Try.results29, go_sem, shT]) rfl ⟨rfl, rfl⟩

set_option maxRecDepth 100000 in
set_option maxHeartbeats 1000000 in
theorem plans_yes (t : T) (a : Option Addr) (n cap : Nat) (l : List Int) (w : World) (hc : chk t = 0) (hn : n = l.length) (h4 : n ≤ 4) (hp : planL t n = l) (hi : IsInts w (.slice a n cap) l) : Calls Try.prog 31 #[TV t, .slice a n cap] w fun e w' => e = .returned (.bool true) ∧ Below w.heap.size w w' := by
  have HE : Hid (plE t (n : Int) = 0 ∧ plL t (n : Int) = l) := ⟨by unfold plE; rw [if_pos hc, if_pos (by omega)], by unfold plL; rw [if_pos ⟨hc, by omega⟩]; exact hp⟩
  have HW := Lib.hid (okS hc)
  have HI := Lib.hid hi
  clear hc hp hi hn
  go_enter Try.func31, Try.ntmps31
  go_wp2_with fail
  refine (pPlan_any t (n : Int) _ HW.out).mono ?_
  rintro e w1 ⟨v, rfl, hv, hb⟩
  rw [HE.out.1]
  rw [HE.out.2] at hv
  have HV := Lib.hid hv
  have I1 := Lib.hid (HI.out.keep (bfirst _ _ hb).2)
  have B1 := Lib.hid (bfirst _ _ hb).2
  clear hb hv
  go_wp2_with fail
  refine (sameInts_any v _ l l _ HV.out I1.out).mono ?_
  rintro e w2 ⟨rfl, hb⟩
  rw [beq_self_eq_true]
  have B2 := Lib.hid (btrans B1.out hb)
  clear hb
  go_wp2_with fail
  go_ret
  exact ⟨rfl, B2.out⟩

set_option maxRecDepth 100000 in
set_option maxHeartbeats 1000000 in
theorem wakes_yes (n : Int) (b k : Bool) (w : World) (hc : chk { shT with fr := n, aw := b } = 0) (hk : wks { shT with fr := n, aw := b } = k) : Calls Try.prog 33 #[.int .i64 n, .bool b, .bool k] w fun e w' => e = .returned (.bool true) ∧ Below w.heap.size w w' := by
  have HE : Hid (wkL { shT with fr := n, aw := b } = k ∧ chk { shT with fr := n, aw := b } = 0 ∧ W64 { shT with fr := n, aw := b }) := ⟨by unfold wkL; rw [if_pos hc, hk], hc, okS hc⟩
  clear hc hk
  have hkk : (k == k) = true := beq_self_eq_true k
  go_enter Try.func33, Try.ntmps33
  go_wp2_with fail
  refine (shown_x _).mono ?_
  rintro e w1 ⟨rfl, rfl⟩
  go_wp2_with (((with_reducible refine stTn ?a1 (.tmp 7) (.tmp 10) ?a2 shT ?a3 ?a4 ?a5 ?_); (case a1 => rfl); (case a2 => rfl); (case a3 => exact congrArg (fun k => Value.pointer (some ⟨k, 0, none⟩)) (World.size_alloc _ _).symm); (case a4 => rfl); (case a5 => rfl)))
  refine (pWakes_any { shT with fr := n, aw := b } _ HE.out.2.2).mono ?_
  rintro e w2 ⟨rfl, hb⟩
  rw [HE.out.1, HE.out.2.1]
  have B2 := Lib.hid (btrans (((Below.refl _ _).alloc (Nat.le_refl _) _).alloc (by simp only [World.size_alloc] <;> omega) _) hb)
  clear hb
  go_wp2_with fail
  go_ret
  exact ⟨rfl, B2.out⟩
end Go.Proofs.Ytfploaaelfjadaa
