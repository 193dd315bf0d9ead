/- Helper facts for the statements of this seat; no statement itself. -/
import Derived.Test.YtlmdfanhimhlcaaJ
namespace Go.Proofs.Ytlmdfanhimhlcaa
open Go.RowKit
set_option linter.unusedSimpArgs false
set_option linter.unusedVariables false
set_option linter.unnecessarySimpa false

theorem getD_take {l : List Int} {j k : Nat} (h : j < k) : (l.take k).getD j 0 = l.getD j 0 := by simp [List.getD, List.getElem?_take, h]
theorem getD_drop (l : List Int) (j k : Nat) : (l.drop k).getD j 0 = l.getD (k + j) 0 := by simp [List.getD, List.getElem?_drop]
theorem awk_take (b c : Int) (l : List Int) (k j : Nat) (h : j ≤ k) : awk b c (l.take k) j = awk b c l j := by
  induction j with
  | zero => rfl
  | succ j ih => unfold awk; rw [ih (by omega), getD_take (by omega)]
theorem runL_take (b c : Int) (l : List Int) (k : Nat) (h : k ≤ l.length) : runL b c (l.take k) = (runL b c l).take k := by
  unfold runL
  rw [List.length_take, Nat.min_eq_left h, ← List.map_take]
  have : (List.range l.length).take k = List.range k := by rw [List.take_range, Nat.min_eq_left h]
  rw [this]
  refine List.map_congr_left (fun j hj => ?_)
  exact awk_take b c l k (j + 1) (by have := List.mem_range.1 hj; omega)
theorem runL_get (b c : Int) (l : List Int) (j : Nat) (h : j < l.length) : (runL b c l).getD j false = awk b c l (j + 1) := by simp [runL, List.getD, h]
theorem runL_len (b c : Int) (l : List Int) : (runL b c l).length = l.length := by simp [runL]
theorem wsL_take (a b c : Int) (l : List Int) (k j : Nat) (h : j ≤ k) : wsL a b c (l.take k) j = wsL a b c l j := by
  induction j with
  | zero => rfl
  | succ j ih => unfold wsL; rw [ih (by omega), getD_take (by omega)]
theorem wsL_split (a b c : Int) (l : List Int) (k m : Nat) : wsL a b c l (k + m) = max (wsL a b c l k) (wsL a b c (l.drop k) m) := by
  induction m with
  | zero => show _ = max _ 0; have := wsL_b a b c l k; rw [Nat.add_zero]; omega
  | succ m ih =>
    rw [show k + (m + 1) = k + m + 1 by omega]
    rw [wsL, wsL, ih, getD_drop]
    repeat' split
    all_goals omega
theorem snd_small {a b c : Int} {l : List Int} (h : 0 ≤ a ∧ a < b ∧ b < c ∧ c ≤ 17) (hl : l.length ≤ 40) (hs : ∀ k, k < l.length → 0 ≤ l.getD k 0 ∧ l.getD k 0 < 20) : snd a b c l = 0 := by
  unfold snd
  have hv : chkM a b c = 0 := by unfold chkM; rw [if_neg (by omega), if_neg (by omega)]
  rw [if_pos hv, if_neg (by omega)]
  exact sb_no (bad_no (fun k hk => by have := hs k hk; omega))
theorem small_take {l : List Int} (k : Nat) (hs : ∀ k, k < l.length → 0 ≤ l.getD k 0 ∧ l.getD k 0 < 20) : ∀ j, j < (l.take k).length → 0 ≤ (l.take k).getD j 0 ∧ (l.take k).getD j 0 < 20 := by
  intro j hj
  rw [List.length_take] at hj
  rw [getD_take (by omega)]
  exact hs j (by omega)
theorem small_drop {l : List Int} (k : Nat) (hs : ∀ k, k < l.length → 0 ≤ l.getD k 0 ∧ l.getD k 0 < 20) : ∀ j, j < (l.drop k).length → 0 ≤ (l.drop k).getD j 0 ∧ (l.drop k).getD j 0 < 20 := by
  intro j hj
  rw [List.length_drop] at hj
  rw [getD_drop]
  exact hs (k + j) (by omega)
theorem woL_small {a b c : Int} {l : List Int} (h : snd a b c l = 0) : woL a b c l = wsL a b c l l.length := if_pos h
theorem worst_parts (a b c : Int) (l : List Int) (k : Nat) (hk : k ≤ l.length) (h1 : snd a b c l = 0) (h2 : snd a b c (l.take k) = 0) (h3 : snd a b c (l.drop k) = 0) : woL a b c l = max (woL a b c (l.take k)) (woL a b c (l.drop k)) := by
  rw [woL_small h1, woL_small h2, woL_small h3, List.length_take, List.length_drop, Nat.min_eq_left hk, wsL_take a b c l k k (Nat.le_refl _), ← wsL_split]
  congr 1
  omega
end Go.Proofs.Ytlmdfanhimhlcaa
