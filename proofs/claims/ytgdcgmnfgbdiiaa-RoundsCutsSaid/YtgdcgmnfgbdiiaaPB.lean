/- Plain facts about valid logs: longer ones, and what is owed; no program in sight. -/
import Derived.Test.YtgdcgmnfgbdiiaaPl
namespace Go.Proofs.Ytgdcgmnfgbdiiaa
set_option linter.unusedSimpArgs false
set_option linter.unusedVariables false
set_option linter.unnecessarySimpa false

theorem getD_app_l {α : Type} (l r : List α) (n : Nat) (d : α) (h : n < l.length) : (l ++ r).getD n d = l.getD n d := by
  simp only [List.getD, List.getElem?_append_left h]
theorem getD_app_0 {α : Type} (l : List α) (x d : α) : (l ++ [x]).getD l.length d = x := by
  simp [List.getD]
theorem stN_app (t : St) (l r : List En) : ∀ n, n ≤ l.length → stN t (l ++ r) n = stN t l n
  | 0, _ => rfl
  | n + 1, h => by
    show apS (stN t (l ++ r) n) ((l ++ r).getD n (0, 0)).1 ((l ++ r).getD n (0, 0)).2 = apS (stN t l n) (l.getD n (0, 0)).1 (l.getD n (0, 0)).2
    rw [stN_app t l r n (by omega), getD_app_l l r n _ (by omega)]
theorem erN_app (t : St) (l r : List En) (n : Nat) (h : n < l.length) : erN t (l ++ r) n = erN t l n := by
  unfold erN
  rw [stN_app t l r n (by omega), getD_app_l l r n _ h]
/-- A valid log, and where it leads. -/
def Lead (t0 : St) (l : List En) (t : St) : Prop := (∀ j, j < l.length → erN t0 l j = 0) ∧ stN t0 l l.length = t
theorem Lead.nil (t : St) : Lead t [] t := ⟨fun j hj => by simp at hj, rfl⟩
theorem Lead.snoc {t0 t : St} {l : List En} (h : Lead t0 l t) (k w : Int) (he : apE t k w = 0) : Lead t0 (l ++ [(k, w)]) (apS t k w) := by
  obtain ⟨h1, h2⟩ := h
  have hs : stN t0 (l ++ [(k, w)]) l.length = t := by rw [stN_app t0 l _ _ (Nat.le_refl _), h2]
  refine ⟨fun j hj => ?_, ?_⟩
  · by_cases e : j < l.length
    · rw [erN_app _ _ _ _ e]; exact h1 j e
    · obtain rfl : j = l.length := by simp at hj; omega
      unfold erN
      rw [hs, getD_app_0]; exact he
  · rw [List.length_append]
    show apS (stN t0 (l ++ [(k, w)]) l.length) ((l ++ [(k, w)]).getD l.length (0, 0)).1 ((l ++ [(k, w)]).getD l.length (0, 0)).2 = _
    rw [hs, getD_app_0]
/-- The entries that the numbers give. -/
theorem lead_block {t0 t : St} {l : List En} (h : Lead t0 l t) (p : Nat) (h1 : 1 ≤ p) (h8 : p ≤ 8) (hb : t.a.getD p false = false) : Lead t0 (l ++ [(2, (p : Int))]) ⟨t.a.set p true, t.s⟩ := by
  have he : apE t 2 (p : Int) = 0 := by unfold apE; rw [if_neg (by decide), if_pos (by decide), if_pos (by omega), Int.toNat_natCast, hb]; rfl
  have := h.snoc 2 p he
  rw [show apS t 2 (p : Int) = ⟨t.a.set p true, t.s⟩ by unfold apS; rw [if_pos he, if_pos (by decide), Int.toNat_natCast]; rfl] at this
  exact this
theorem lead_unblock {t0 t : St} {l : List En} (h : Lead t0 l t) (p : Nat) (h1 : 1 ≤ p) (h8 : p ≤ 8) (hb : t.a.getD p false = true) : Lead t0 (l ++ [(3, (p : Int))]) ⟨t.a.set p false, t.s⟩ := by
  have he : apE t 3 (p : Int) = 0 := by unfold apE; rw [if_neg (by decide), if_pos (by decide), if_pos (by omega), Int.toNat_natCast, hb]; rfl
  have := h.snoc 3 p he
  rw [show apS t 3 (p : Int) = ⟨t.a.set p false, t.s⟩ by unfold apS; rw [if_pos he, if_pos (by decide), Int.toNat_natCast]; rfl] at this
  exact this
theorem lead_submit {t0 t : St} {l : List En} (h : Lead t0 l t) (p : Nat) (h8 : p ≤ 255) (hb : t.s.getD p false = false) : Lead t0 (l ++ [(4, (p : Int))]) ⟨t.a, t.s.set p true⟩ := by
  have he : apE t 4 (p : Int) = 0 := by unfold apE; rw [if_neg (by decide), if_neg (by decide), if_pos (by decide), if_pos (by omega), Int.toNat_natCast, hb]; rfl
  have := h.snoc 4 p he
  rw [show apS t 4 (p : Int) = ⟨t.a, t.s.set p true⟩ by unfold apS; rw [if_pos he, if_neg (by decide), if_pos (by decide), Int.toNat_natCast]; rfl] at this
  exact this
theorem lead_complete {t0 t : St} {l : List En} (h : Lead t0 l t) (p : Nat) (h8 : p ≤ 255) (hb : t.s.getD p false = true) : Lead t0 (l ++ [(5, (p : Int))]) ⟨t.a, t.s.set p false⟩ := by
  have he : apE t 5 (p : Int) = 0 := by unfold apE; rw [if_neg (by decide), if_neg (by decide), if_pos (by decide), if_pos (by omega), Int.toNat_natCast, hb]; rfl
  have := h.snoc 5 p he
  rw [show apS t 5 (p : Int) = ⟨t.a, t.s.set p false⟩ by unfold apS; rw [if_pos he, if_neg (by decide), if_pos (by decide), Int.toNat_natCast]; rfl] at this
  exact this
theorem lead_pick {t0 t : St} {l : List En} (h : Lead t0 l t) (p : Int) (h0 : 0 ≤ p) (h8 : p ≤ 8) : Lead t0 (l ++ [(1, p)]) t := by
  have he : apE t 1 p = 0 := by unfold apE; rw [if_pos rfl, if_pos ⟨h0, h8⟩]
  have := h.snoc 1 p he
  rw [show apS t 1 p = t by unfold apS; rw [if_pos he, if_neg (by decide), if_neg (by decide)]] at this
  exact this
theorem Lead.vld {m : Mo} {l : List En} {t : St} (h : Lead (st0 m) l t) (hm : ckM m = 0) (hl : l.length ≤ 5000) : (vldL m l).1 = 0 := by
  unfold vldL
  rw [if_pos hm, if_neg (by omega), vlF_ok h.1]
end Go.Proofs.Ytgdcgmnfgbdiiaa
