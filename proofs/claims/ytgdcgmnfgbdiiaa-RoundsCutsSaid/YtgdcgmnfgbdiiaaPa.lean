/- Plain facts about lists of numbers that should ascend; no program in sight. -/
import Derived.Test.YtgdcgmnfgbdiiaaPl
namespace Go.Proofs.Ytgdcgmnfgbdiiaa
set_option linter.unusedSimpArgs false
set_option linter.unusedVariables false
set_option linter.unnecessarySimpa false

/-- Entry k is in order, the one before it being given where k is the first. -/
def okA (lo hi : Int) (p : Option Int) (l : List Int) (k : Nat) : Prop := lo ≤ l.getD k 0 ∧ l.getD k 0 ≤ hi ∧ (k = 0 → ∀ y, p = some y → y < l.getD k 0) ∧ (k ≠ 0 → l.getD (k - 1) 0 < l.getD k 0)
theorem okA_tail {lo hi x : Int} {p : Option Int} {l : List Int} {k : Nat} (h : okA lo hi p (x :: l) (k + 1)) : okA lo hi (some x) l k := by
  obtain ⟨a, b, _, d⟩ := h
  have d := d (by omega)
  refine ⟨a, b, fun e y hy => ?_, fun e => ?_⟩
  · subst e; cases hy; exact d
  · obtain ⟨j, rfl⟩ : ∃ j, k = j + 1 := ⟨k - 1, by omega⟩
    exact d
theorem ascE_cons_ok {lo hi x : Int} {p : Option Int} {l : List Int} (h : okA lo hi p (x :: l) 0) : ascE lo hi (x :: l) p = ascE lo hi l (some x) := by
  obtain ⟨a, b, c, _⟩ := h
  have a : lo ≤ x := a
  have b : x ≤ hi := b
  show (if x < lo ∨ hi < x then 2 else _) = _
  rw [if_neg (by omega)]
  cases p with
  | none => rfl
  | some y =>
    have c : y < x := c rfl y rfl
    show (if decide (x ≤ y) = true then 8 else _) = _
    rw [if_neg (by rw [decide_eq_true_iff]; omega)]
theorem asc_all {lo hi : Int} {l : List Int} {p : Option Int} (h : ∀ k, k < l.length → okA lo hi p l k) : ascE lo hi l p = 0 := by
  induction l generalizing p with
  | nil => rfl
  | cons x l ih =>
    rw [ascE_cons_ok (h 0 (by simp))]
    exact ih (fun k hk => okA_tail (h (k + 1) (by simpa using hk)))
theorem asc_range {lo hi : Int} {l : List Int} {p : Option Int} {k : Nat} (h : ∀ j, j < k → okA lo hi p l j) (hk : k < l.length) (hr : l.getD k 0 < lo ∨ hi < l.getD k 0) : ascE lo hi l p = 2 := by
  induction l generalizing p k with
  | nil => simp at hk
  | cons x l ih =>
    cases k with
    | zero => exact if_pos hr
    | succ k =>
      rw [ascE_cons_ok (h 0 (by omega))]
      exact ih (fun j hj => okA_tail (h (j + 1) (by omega))) (by simpa using hk) hr
theorem asc_order {lo hi : Int} {l : List Int} {p : Option Int} {k : Nat} (h : ∀ j, j < k → okA lo hi p l j) (hk : k < l.length) (h1 : lo ≤ l.getD k 0) (h2 : l.getD k 0 ≤ hi) (h0 : k ≠ 0) (ho : l.getD k 0 ≤ l.getD (k - 1) 0) : ascE lo hi l p = 8 := by
  induction l generalizing p k with
  | nil => simp at hk
  | cons x l ih =>
    cases k with
    | zero => omega
    | succ k =>
      rw [ascE_cons_ok (h 0 (by omega))]
      cases k with
      | zero =>
        cases l with
        | nil => simp at hk
        | cons y l =>
          have h1 : lo ≤ y := h1
          have h2 : y ≤ hi := h2
          have ho : y ≤ x := ho
          show (if y < lo ∨ hi < y then 2 else if decide (y ≤ x) = true then 8 else _) = 8
          rw [if_neg (by omega), if_pos (by rw [decide_eq_true_iff]; exact ho)]
      | succ k => exact ih (fun j hj => okA_tail (h (j + 1) (by omega))) (by simpa using hk) h1 h2 (by omega) ho
theorem asc_ok {lo hi : Int} {l : List Int} {p : Option Int} (h : ascE lo hi l p = 0) : ∀ k, k < l.length → okA lo hi p l k := by
  induction l generalizing p with
  | nil => intro k hk; simp at hk
  | cons x l ih =>
    have h' : (if x < lo ∨ hi < x then (2 : Int) else if leP x p = true then 8 else ascE lo hi l (some x)) = 0 := h
    have h1 : ¬ (x < lo ∨ hi < x) := by intro e; rw [if_pos e] at h'; omega
    rw [if_neg h1] at h'
    have h2 : ¬ (leP x p = true) := by intro e; rw [if_pos e] at h'; omega
    rw [if_neg h2] at h'
    intro k hk
    cases k with
    | zero =>
      refine ⟨by show lo ≤ x; omega, by show x ≤ hi; omega, fun _ y hy => ?_, fun e => absurd rfl e⟩
      subst hy
      show y < x
      have : ¬ (decide (x ≤ y) = true) := h2
      rw [decide_eq_true_iff] at this
      omega
    | succ k =>
      have hi' := ih h' k (by simpa using hk)
      refine ⟨hi'.1, hi'.2.1, (fun e => by omega), fun _ => ?_⟩
      cases k with
      | zero => exact hi'.2.2.1 rfl x rfl
      | succ k => exact hi'.2.2.2 (by omega)
theorem ckM_ok {m : Mo} (h : ckM m = 0) : (∀ k, k < m.b.length → okA 1 8 none m.b k) ∧ (∀ k, k < m.p.length → okA 0 255 none m.p k) := by
  unfold ckM at h
  by_cases h1 : ascE 1 8 m.b none = 0
  · rw [if_pos h1] at h; exact ⟨asc_ok h1, asc_ok h⟩
  · rw [if_neg h1] at h; exact absurd h h1
end Go.Proofs.Ytgdcgmnfgbdiiaa
