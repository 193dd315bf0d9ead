/- How a moment reads that a law is handed, and that its slices fit their room: helper facts, no statement of the seat. -/
import Derived.Test.YtgdcgmnfgbdiiaaOpen
namespace Go.Proofs.Ytgdcgmnfgbdiiaa
open Go.ChangeShapes Go.WideShapes Go.ChangeAt Go.WideMaps Go.WideElems Go.RowKit Go.Joins
set_option linter.unusedSimpArgs false
set_option linter.unusedVariables false
set_option linter.unnecessarySimpa false

section
variable {H : Type} {enc : TypeId × Value → H} {W : World} {b base : Nat} {spare : Nat → Bool} {held : Bool} {v : Value} {d : DataW H} {p : List MemPlace} {r : Reach}

theorem row_cap {fu : Nat} {a : Option Addr} {n cap : Nat} {y : DataW H × List MemPlace} (hf : DataW.trod enc Try.prog W base spare held fu 22 [.slice a n cap] = some y) : n ≤ cap := by
  rcases open_ints Try.underlying22 Try.underlying3 (by kernel_rfl) hf with ⟨h0, _⟩ | ⟨a', len, cap', zs, hcs, _, hl, hm, hz, _, hi, _⟩
  · simp only [List.cons.injEq, and_true] at h0
    cases h0
    exact Nat.le_refl _
  · simp only [List.cons.injEq, and_true] at hcs
    cases hcs
    omega
theorem open_moC (hv : Value.okWide Try.prog W r b 25 v) (h : DataW.Trod enc Try.prog W base spare held 25 v d p) :
    ∃ a n c a' n' c', v = .agg #[.slice a n c, .slice a' n' c'] ∧ Ints? W a n c ∧ Ints? W a' n' c' ∧ n ≤ c ∧ n' ≤ c' := by
  obtain ⟨c0, c1, y0, y1, m, rfl, rfl, rfl, hy0, hy1⟩ := open_agg2 Try.underlying25 (by kernel_rfl) (by kernel_rfl) hv h
  obtain ⟨a, n, c, rfl, h1, h2⟩ := open_row hy0
  obtain ⟨a', n', c', rfl, h3, h4⟩ := open_row hy1
  exact ⟨_, _, _, _, _, _, rfl, ints_of h1 h2, ints_of h3 h4, row_cap hy0, row_cap hy1⟩
end
end Go.Proofs.Ytgdcgmnfgbdiiaa
