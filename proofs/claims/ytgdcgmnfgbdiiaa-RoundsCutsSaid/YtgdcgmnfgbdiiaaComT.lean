/- A box that holds a slice of integers is stored into: helper facts, no statement of the seat. -/
import Derived.Test.YtgdcgmnfgbdiiaaComS
namespace Go.Proofs.Ytgdcgmnfgbdiiaa
open Go.RowKit Go.Shelf
set_option linter.unusedSimpArgs false
set_option linter.unusedVariables false
set_option linter.unnecessarySimpa false
theorem box_store {W : World} {g t b : Nat} {v v' : Value} {l : List Int} (hg : W.heap[g]? = some (.cells #[v] t (0, 0))) (hne : t ≠ 3) (ho : Own W b v' l) : BoxI (W.setCell ⟨g, 0, none⟩ v') g t b l := by
  refine ⟨v', ?_, ho.1, ?_⟩
  · rw [setCell_eq_setRow W g 0 _ t (0, 0) _ hg]
    exact setRow_heap W g _ _ t (0, 0) hg
  · rcases ho.2 with h | ⟨k, cap, cur, e, hb, hh, hr⟩
    · exact .inl h
    · refine .inr ⟨k, cap, cur, e, hb, ?_, hr⟩
      refine (heap_setCell_other _ _ _ _ ?_).trans hh
      intro e
      simp only [] at e
      subst e
      rw [hg] at hh
      cases hh
      exact hne rfl
theorem kt_setCell {W : World} {g t : Nat} {cs : Array Value} (hg : W.heap[g]? = some (.cells cs t (0, 0))) (ty : TypeId) (hne : t ≠ ty) (j : Nat) (v : Value) : KT ty W (W.setCell ⟨g, j, none⟩ v) := fun k cs fz hk => by
  refine (heap_setCell_other _ _ _ _ ?_).trans hk
  intro e
  simp only [] at e
  subst e
  rw [hg] at hk
  cases hk
  exact hne rfl
end Go.Proofs.Ytgdcgmnfgbdiiaa
