/- Helper facts for the statements of this seat; no statement itself. -/
import Derived.Test.YtgdcgmnfgbdiiaaAP
import Derived.Test.YtgdcgmnfgbdiiaaI
import Derived.Test.YtgdcgmnfgbdiiaaR
import Derived.Test.YtgdcgmnfgbdiiaaOC
import Derived.Deep.RegionHeld3
import Derived.Outline
namespace Go.Proofs.Ytgdcgmnfgbdiiaa
open Go.RowKit
set_option linter.unusedSimpArgs false
set_option linter.unusedVariables false
set_option linter.unnecessarySimpa false

set_option maxHeartbeats 1000000 in
theorem log_any (v : Value) (l : List En) (w : World) (hl : IsLog w v l) (h4 : l.length < 4294967296) : Calls Try.prog 24 #[v] w fun e w' => ∃ v', e = .returned v' ∧ OwnSp w' w.heap.size v' l ∧ Below w.heap.size w w' := by
  obtain ⟨al, nl, cl, rfl⟩ := hl.slice
  have O1 : Hid (OwnSp (w.alloc (.cells #[] 37)) w.heap.size (.slice (some ⟨w.heap.size, 0, none⟩) 0 0) []) := OwnSp.lit w [] w.heap.size (Nat.le_refl _) (by decide)
  have L1 : Hid (IsLog (w.alloc (.cells #[] 37)) (.slice al nl cl) l) := hl.keep ((Below.refl _ _).alloc (Nat.le_refl _) _)
  have B1 : Hid (Below w.heap.size w (w.alloc (.cells #[] 37))) := ((Below.refl _ _).alloc (Nat.le_refl _) _)
  clear hl
  go_enter Try.func24, Try.ntmps24
  go_wp2_with (((with_reducible refine append_log ?b1 (.tmp 3) (.tmp 4) ?b2 w.heap.size (.slice (some ⟨w.heap.size, 0, none⟩) 0 0) (.slice al nl cl) [] l ?b3 ?b4 O1 L1 ?b5 ?b6 ?_); (case b1 => rfl); (case b2 => rfl); (case b3 => rfl); (case b4 => rfl); (case b5 => simpa using h4); (case b6 => simp only [World.size_alloc]; omega)); intro v' w4 ho4 hb4 _)
  go_ret
  exact ⟨_, rfl, by simpa using ho4.out, B1.out.trans hb4.out⟩
set_option maxHeartbeats 1000000 in
theorem ownInts_any (v : Value) (l : List Int) (w : World) (hl : IsInts w v l) (h4 : l.length < 4294967296) : Calls Try.prog 45 #[v] w fun e w' => ∃ v', e = .returned v' ∧ Own w' w.heap.size v' l ∧ Below w.heap.size w w' := by
  obtain ⟨al, nl, cl, rfl⟩ := hl.slice
  have O1 : Hid (Own (w.alloc (.cells #[] 3)) w.heap.size (.slice (some ⟨w.heap.size, 0, none⟩) 0 0) []) := Own.lit w [] w.heap.size (Nat.le_refl _) (by decide)
  have L1 : Hid (IsInts (w.alloc (.cells #[] 3)) (.slice al nl cl) l) := hl.keep ((Below.refl _ _).alloc (Nat.le_refl _) _)
  have B1 : Hid (Below w.heap.size w (w.alloc (.cells #[] 3))) := ((Below.refl _ _).alloc (Nat.le_refl _) _)
  clear hl
  go_enter Try.func45, Try.ntmps45
  go_wp2_with (((with_reducible refine append_isI ?b1 (.tmp 3) (.tmp 4) ?b2 w.heap.size (.slice (some ⟨w.heap.size, 0, none⟩) 0 0) (.slice al nl cl) [] l ?b3 ?b4 O1 L1 ?b5 ?b6 ?_); (case b1 => rfl); (case b2 => rfl); (case b3 => rfl); (case b4 => rfl); (case b5 => simpa using h4); (case b6 => simp only [World.size_alloc]; omega)); intro v' w4 ho4 hb4 _)
  go_ret
  exact ⟨_, rfl, by simpa using ho4.out, B1.out.trans hb4.out⟩
end Go.Proofs.Ytgdcgmnfgbdiiaa
