/- Helper facts for the statements of this seat; no statement itself. -/
import Derived.Test.YtgdcgmnfgbdiiaaF
import Derived.Outline
namespace Go.Proofs.Ytgdcgmnfgbdiiaa
open Go.RowKit
set_option linter.unusedSimpArgs false
set_option linter.unusedVariables false
set_option linter.unnecessarySimpa false

theorem contains_ne {l : List Int} {x : Int} (h : ∀ j, j < l.length → l.getD j 0 ≠ x) : l.contains x = false := by
  rw [Bool.eq_false_iff]
  intro e
  rw [List.contains_iff_mem] at e
  obtain ⟨j, hj, e⟩ := List.getElem_of_mem e
  exact h j hj (by simp [List.getD, hj, e])
theorem contains_at {l : List Int} {x : Int} (k : Nat) (hk : k < l.length) (h : l.getD k 0 = x) : l.contains x = true := by
  rw [List.contains_iff_mem, ← h]
  simp only [List.getD, List.getElem?_eq_getElem hk, Option.getD_some]
  exact List.getElem_mem hk
set_option maxHeartbeats 1000000 in
theorem hasI_any (v : Value) (l : List Int) (x : Int) (w : World) (hl : IsInts w v l) : Calls Try.prog 32 #[v, .int .i64 x] w fun e w' => e = .returned (.bool (l.contains x)) ∧ w = w' := by
  obtain ⟨ad, n, cap, rfl⟩ := hl.slice
  obtain ⟨rfl, hn⟩ := hl.len
  have HL := Lib.hid hl
  clear hl
  go_enter Try.func32, Try.ntmps32
  go_wp2_with fail
  go_loopw [5] (fun i wr => ∃ k : Nat, k ≤ l.length ∧ i = .int .i64 k ∧ Hid (∀ j, j < k → l.getD j 0 ≠ x) ∧ wr = w) (fun i _ => l.length - (intOf i).toNat)
  case atStart => exact ⟨0, by omega, rfl, fun j hj => by omega, rfl⟩
  case round =>
    obtain ⟨k, hk, rfl, hp, rfl⟩ := hrel
    by_cases hlt : k < l.length
    · obtain ⟨bb, off, rfl, c0⟩ := HL.out.at k hlt
      have i1 : (0 : Int) ≤ (k : Int) := by omega
      have i2 : (k : Int) < (l.length : Int) := by omega
      by_cases e : l.getD k 0 = x
      · have HC := Lib.hid (contains_at k hlt e)
        rw [e] at c0
        have ee : (x == x) = true := by simp
        clear e
        go_wp2_with fail
        go_ret
        exact ⟨by rw [HC.out]; rfl, rfl⟩
      · have HN : Hid (∀ j, j < k + 1 → l.getD j 0 ≠ x) := fun j hj => by
          by_cases ej : j = k
          · subst ej; exact e
          · exact hp.out j (by omega)
        have ee : (l.getD k 0 == x) = false := by simpa using e
        generalize l.getD k 0 = y at *
        clear e
        go_wp2_with fail
        go_roundw
        case rel => exact ⟨k + 1, by omega, by go_num, HN, by first | rfl | trivial⟩
        case measure => simp [intOf]; omega
    · have HC := Lib.hid (contains_ne (x := x) (fun j hj => hp.out j (by omega)))
      have i2 : (l.length : Int) ≤ (k : Int) := by omega
      go_wp2_with fail
      go_ret
      exact ⟨by rw [HC.out]; rfl, rfl⟩
set_option maxHeartbeats 1000000 in
theorem rhas_any (v : Value) (l : List Int) (x : Int) (w : World) (hl : IsInts w v l) : Calls Try.prog 56 #[v, .int .i64 x] w fun e w' => e = .returned (.bool (l.contains x)) ∧ w = w' := by
  obtain ⟨ad, n, cap, rfl⟩ := hl.slice
  obtain ⟨rfl, hn⟩ := hl.len
  have HL := Lib.hid hl
  clear hl
  go_enter Try.func56, Try.ntmps56
  go_wp2_with fail
  go_loopw [5] (fun i wr => ∃ k : Nat, k ≤ l.length ∧ i = .int .i64 k ∧ Hid (∀ j, j < k → l.getD j 0 ≠ x) ∧ wr = w) (fun i _ => l.length - (intOf i).toNat)
  case atStart => exact ⟨0, by omega, rfl, fun j hj => by omega, rfl⟩
  case round =>
    obtain ⟨k, hk, rfl, hp, rfl⟩ := hrel
    by_cases hlt : k < l.length
    · obtain ⟨bb, off, rfl, c0⟩ := HL.out.at k hlt
      have i1 : (0 : Int) ≤ (k : Int) := by omega
      have i2 : (k : Int) < (l.length : Int) := by omega
      by_cases e : l.getD k 0 = x
      · have HC := Lib.hid (contains_at k hlt e)
        rw [e] at c0
        have ee : (x == x) = true := by simp
        clear e
        go_wp2_with fail
        go_ret
        exact ⟨by rw [HC.out]; rfl, rfl⟩
      · have HN : Hid (∀ j, j < k + 1 → l.getD j 0 ≠ x) := fun j hj => by
          by_cases ej : j = k
          · subst ej; exact e
          · exact hp.out j (by omega)
        have ee : (l.getD k 0 == x) = false := by simpa using e
        generalize l.getD k 0 = y at *
        clear e
        go_wp2_with fail
        go_roundw
        case rel => exact ⟨k + 1, by omega, by go_num, HN, by first | rfl | trivial⟩
        case measure => simp [intOf]; omega
    · have HC := Lib.hid (contains_ne (x := x) (fun j hj => hp.out j (by omega)))
      have i2 : (l.length : Int) ≤ (k : Int) := by omega
      go_wp2_with fail
      go_ret
      exact ⟨by rw [HC.out]; rfl, rfl⟩
end Go.Proofs.Ytgdcgmnfgbdiiaa
