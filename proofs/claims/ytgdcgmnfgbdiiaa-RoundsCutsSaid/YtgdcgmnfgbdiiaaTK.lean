/- Helper facts for the statements of this seat; no statement itself. -/
import Derived.Test.YtgdcgmnfgbdiiaaK
import Derived.Test.YtgdcgmnfgbdiiaaF
import Derived.Outline
namespace Go.Proofs.Ytgdcgmnfgbdiiaa
open Go.RowKit
set_option linter.unusedSimpArgs false
set_option linter.unusedVariables false
set_option linter.unnecessarySimpa false

theorem isIL {W : World} {g : Nat} {t : TypeId} (l : List Int) (hl : l.length ≤ 4294967296) (h : W.heap[g]? = some (.cells (l.map (Value.int .i64)).toArray t (0, 0))) : IsInts W (.slice (some ⟨g, 0, none⟩) l.length l.length) l :=
  ⟨_, _, _, rfl, rfl, hl, .inr ⟨g, 0, rfl, fun k hk => by rw [Nat.zero_add]; exact setRow_cell h (by simp [List.getD, hk])⟩⟩
theorem IsLog.take {w : World} {a : Option Addr} {n cap : Nat} {l : List En} (h : IsLog w (.slice a n cap) l) (k : Nat) (hk : k ≤ l.length) : IsLog w (.slice a k cap) (l.take k) := by
  obtain ⟨a', n', c', e, h1, h2, h3⟩ := h
  cases e
  refine ⟨_, _, _, rfl, by simp; omega, by simp; omega, ?_⟩
  rcases h3 with rfl | ⟨b, off, rfl, hc⟩
  · left; simp
  · right
    refine ⟨b, off, rfl, fun j hj => ?_⟩
    have hj2 : j < k := by simp at hj; omega
    have e : (l.take k).getD j (0, 0) = l.getD j (0, 0) := by simp [List.getD, List.getElem?_take, hj2]
    rw [e]
    exact hc j (by omega)
theorem IsInts.take {w : World} {a : Option Addr} {n cap : Nat} {l : List Int} (h : IsInts w (.slice a n cap) l) (k : Nat) (hk : k ≤ l.length) : IsInts w (.slice a k cap) (l.take k) := by
  obtain ⟨a', n', c', e, h1, h2, h3⟩ := h
  cases e
  refine ⟨_, _, _, rfl, by simp; omega, by simp; omega, ?_⟩
  rcases h3 with rfl | ⟨b, off, rfl, hc⟩
  · left; simp
  · right
    refine ⟨b, off, rfl, fun j hj => ?_⟩
    have hj2 : j < k := by simp at hj; omega
    have e : (l.take k).getD j 0 = l.getD j 0 := by simp [List.getD, List.getElem?_take, hj2]
    rw [e]
    exact hc j (by omega)
end Go.Proofs.Ytgdcgmnfgbdiiaa
