/- Helper facts for the statements of this seat; no statement itself. -/
import Derived.Test.YtgdcgmnfgbdiiaaB
import Derived.Outline
namespace Go.Proofs.Ytgdcgmnfgbdiiaa
open Go.RowKit
set_option linter.unusedSimpArgs false
set_option linter.unusedVariables false
set_option linter.unnecessarySimpa false

theorem pay_any (t t' : St) (g ty : Nat) (k x : Int) (w : World) (hw : t.Wf) (hg : w.heap[g]? = some (.cells (stC t) ty (0, 0))) (he : apE t' k x = 0) : Calls Try.prog 51 #[.pointer (some ⟨g, 0, none⟩), .agg #[.int .i64 k, .int .i64 x]] w fun e w' => (∃ v, e = .returned v) ∧ Left g ty (pyS t k x) w w' := by
  unfold apE at he
  by_cases k1 : k = 1
  · subst k1
    rw [if_pos rfl] at he
    by_cases hx : 0 ≤ x ∧ x ≤ 8
    · rw [show pyS t 1 x = { t with a := t.a.set x.toNat false } from if_pos (.inl rfl)]
      exact pay1 t g ty x w hw hg hx.1 hx.2
    · rw [if_neg hx] at he; omega
  rw [if_neg k1] at he
  by_cases k23 : k = 2 ∨ k = 3
  · rw [if_pos k23] at he
    by_cases hx : 1 ≤ x ∧ x ≤ 8
    · rcases k23 with rfl | rfl
      · rw [show pyS t 2 x = t by unfold pyS; rw [if_neg (by omega), if_neg (by omega)]]
        exact pay2 t g ty x w hw hg
      · rw [show pyS t 3 x = { t with a := t.a.set x.toNat false } from if_pos (.inr rfl)]
        exact pay3 t g ty x w hw hg (by omega) hx.2
    · rw [if_neg hx] at he; omega
  rw [if_neg k23] at he
  by_cases k45 : k = 4 ∨ k = 5
  · rw [if_pos k45] at he
    by_cases hx : 0 ≤ x ∧ x ≤ 255
    · rcases k45 with rfl | rfl
      · rw [show pyS t 4 x = t by unfold pyS; rw [if_neg (by omega), if_neg (by omega)]]
        exact pay4 t g ty x w hw hg
      · obtain ⟨y, rfl⟩ := Int.eq_ofNat_of_zero_le hx.1
        rw [show pyS t 5 (y : Int) = { t with s := t.s.set y false } by unfold pyS; rw [if_neg (by omega), if_pos rfl, Int.toNat_natCast]]
        exact pay5 t g ty y w hw hg (by omega)
    · rw [if_neg hx] at he; omega
  rw [if_neg k45] at he
  omega
end Go.Proofs.Ytgdcgmnfgbdiiaa
