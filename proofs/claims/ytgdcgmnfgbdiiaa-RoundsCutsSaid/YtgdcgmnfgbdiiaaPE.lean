/- Plain facts: the rounds of a beginning of a log, what each round holds, and what is owed; no program in sight. -/
import Derived.Test.YtgdcgmnfgbdiiaaPC
import Derived.Test.YtgdcgmnfgbdiiaaG
namespace Go.Proofs.Ytgdcgmnfgbdiiaa
set_option linter.unusedSimpArgs false
set_option linter.unusedVariables false
set_option linter.unnecessarySimpa false

theorem owN_app (t : St) (l r : List En) : ∀ n, n ≤ l.length → owN t (l ++ r) n = owN t l n
  | 0, _ => rfl
  | n + 1, h => by
    show (if nonB (pyS (owN t (l ++ r) n) ((l ++ r).getD n (0, 0)).1 ((l ++ r).getD n (0, 0)).2) = true then ows (stN t (l ++ r) (n + 1)) else pyS (owN t (l ++ r) n) ((l ++ r).getD n (0, 0)).1 ((l ++ r).getD n (0, 0)).2) = _
    rw [owN_app t l r n (by omega), stN_app t l r (n + 1) h, getD_app_l l r n _ (by omega)]
    rfl
theorem enN_app (t : St) (l r : List En) : ∀ n, n ≤ l.length → enN t (l ++ r) n = enN t l n
  | 0, _ => rfl
  | n + 1, h => by
    show (if nonB (pyS (owN t (l ++ r) n) ((l ++ r).getD n (0, 0)).1 ((l ++ r).getD n (0, 0)).2) = true then enN t (l ++ r) n ++ [(n : Int) + 1] else enN t (l ++ r) n) = _
    rw [owN_app t l r n (by omega), enN_app t l r n (by omega), getD_app_l l r n _ (by omega)]
    rfl
theorem enN_take (t : St) (l : List En) (n : Nat) (h : n ≤ l.length) : enN t (l.take n) n = enN t l n := by
  have := enN_app t (l.take n) (l.drop n) n (by simp; omega)
  rw [List.take_append_drop] at this
  exact this.symm
theorem erN_take (t : St) (l : List En) (n j : Nat) (h : n ≤ l.length) (hj : j < n) : erN t (l.take n) j = erN t l j := by
  have := erN_app t (l.take n) (l.drop n) j (by simp; omega)
  rw [List.take_append_drop] at this
  exact this.symm
/-- The rounds of a beginning are the first rounds; the others end behind it. -/
theorem en_pre (t : St) (l : List En) (n : Nat) : ∀ d, ∃ s, enN t l (n + d) = enN t l n ++ s ∧ ∀ x ∈ s, (n : Int) < x
  | 0 => ⟨[], by simp, by simp⟩
  | d + 1 => by
    obtain ⟨s, h1, h2⟩ := en_pre t l n d
    show ∃ s, (if nonB (pyS (owN t l (n + d)) (l.getD (n + d) (0, 0)).1 (l.getD (n + d) (0, 0)).2) = true then enN t l (n + d) ++ [((n + d : Nat) : Int) + 1] else enN t l (n + d)) = enN t l n ++ s ∧ _
    split
    · refine ⟨s ++ [((n + d : Nat) : Int) + 1], by rw [h1, List.append_assoc], fun x hx => ?_⟩
      rcases List.mem_append.1 hx with h | h
      · exact h2 x h
      · simp at h; omega
    · exact ⟨s, h1, h2⟩
theorem pre_facts (t : St) (l : List En) (n N : Nat) (h : n ≤ N) : (enN t l n).length ≤ (enN t l N).length ∧ (enN t l N).take (enN t l n).length = enN t l n ∧ ((enN t l n).length < (enN t l N).length → (n : Int) < (enN t l N).getD (enN t l n).length 0) := by
  obtain ⟨s, h1, h2⟩ := en_pre t l n (N - n)
  rw [show n + (N - n) = N by omega] at h1
  rw [h1]
  refine ⟨by simp, by simp, fun hl => ?_⟩
  cases s with
  | nil => simp at hl
  | cons x s =>
    have e : (enN t l n ++ x :: s).getD (enN t l n).length 0 = x := by simp [List.getD]
    rw [e]
    exact h2 x (by simp)
/-- The place before the first one, or the one before. -/
def bgN (E : List Int) (i : Nat) : Int := lastB 0 (E.take i)
theorem bgN_app (E r : List Int) (i : Nat) (h : i ≤ E.length) : bgN (E ++ r) i = bgN E i := by
  unfold bgN
  rw [List.take_append_of_le_length h]
theorem pay0 {t : St} (hw : t.Wf) {D : St} {k w : Int} (he : apE t k w = 0) (h1 : D.a.getD 0 false = true) (h2 : (pyS D k w).a.getD 0 false = false) : k = 1 ∧ w = 0 := by
  unfold pyS at h2
  by_cases k13 : k = 1 ∨ k = 3
  · rw [if_pos k13] at h2
    simp only [getD_set] at h2
    have hw0 : w.toNat = 0 := by
      by_cases e : w.toNat = 0 ∧ w.toNat < D.a.length
      · exact e.1
      · rw [if_neg e, h1] at h2; cases h2
    unfold apE at he
    rcases k13 with rfl | rfl
    · rw [if_pos rfl] at he
      by_cases hr : 0 ≤ w ∧ w ≤ 8
      · exact ⟨rfl, by omega⟩
      · rw [if_neg hr] at he; cases he
    · rw [if_neg (by decide), if_pos (by decide)] at he
      by_cases hr : 1 ≤ w ∧ w ≤ 8
      · omega
      · rw [if_neg hr] at he; cases he
  · rw [if_neg k13] at h2
    by_cases k5 : k = 5
    · rw [if_pos k5] at h2
      rw [show (({ D with s := D.s.set w.toNat false } : St).a) = D.a from rfl, h1] at h2; cases h2
    · rw [if_neg k5, h1] at h2; cases h2
theorem ows0 {t : St} (h : t.Wf) : (ows t).a.getD 0 false = true := by
  show (t.a.set 0 true).getD 0 false = true
  rw [getD_set, if_pos ⟨rfl, by rw [h.1]; omega⟩]
/-- Each round holds a pick of kswapd. -/
def RdOk (l : List En) (E : List Int) (n : Nat) : Prop := ∀ i, i < E.length → bgN E i < E.getD i 0 ∧ E.getD i 0 ≤ n ∧ 0 ≤ bgN E i ∧ ∃ k : Nat, bgN E i ≤ k ∧ (k : Int) < E.getD i 0 ∧ l.getD k (0, 0) = (1, 0)
theorem rounds_ok {t : St} (hw : t.Wf) {l : List En} : ∀ n, (∀ j, j < n → erN t l j = 0) →
    RdOk l (enN t l n) n ∧ 0 ≤ lastB 0 (enN t l n) ∧ ((owN t l n).a.getD 0 false = false → ∃ k : Nat, lastB 0 (enN t l n) ≤ k ∧ k < n ∧ l.getD k (0, 0) = (1, 0))
  | 0, _ => ⟨fun i hi => by simp [enN] at hi, Int.le_refl _, fun h => by rw [show owN t l 0 = ows t from rfl, ows0 hw] at h; cases h⟩
  | n + 1, hv => by
    obtain ⟨h1, h0, h2⟩ := rounds_ok hw n (fun j hj => hv j (by omega))
    have hlb := lastB_le t l n
    have hstep : (pyS (owN t l n) (l.getD n (0, 0)).1 (l.getD n (0, 0)).2).a.getD 0 false = false → ∃ k : Nat, lastB 0 (enN t l n) ≤ k ∧ k < n + 1 ∧ l.getD k (0, 0) = (1, 0) := fun h => by
      cases hd : (owN t l n).a.getD 0 false with
      | false =>
        obtain ⟨k, a, b, c⟩ := h2 hd
        exact ⟨k, a, by omega, c⟩
      | true =>
        obtain ⟨e1, e2⟩ := pay0 (Wf_stN hw l n) (hv n (by omega)) hd h
        exact ⟨n, hlb, by omega, Prod.ext e1 e2⟩
    have E1 : enN t l (n + 1) = if nonB (pyS (owN t l n) (l.getD n (0, 0)).1 (l.getD n (0, 0)).2) = true then enN t l n ++ [(n : Int) + 1] else enN t l n := rfl
    have E2 : owN t l (n + 1) = if nonB (pyS (owN t l n) (l.getD n (0, 0)).1 (l.getD n (0, 0)).2) = true then ows (stN t l (n + 1)) else pyS (owN t l n) (l.getD n (0, 0)).1 (l.getD n (0, 0)).2 := rfl
    by_cases e : nonB (pyS (owN t l n) (l.getD n (0, 0)).1 (l.getD n (0, 0)).2) = true
    · rw [if_pos e] at E1 E2
      rw [E1, E2]
      refine ⟨fun i hi => ?_, by rw [lastB_snoc]; omega, fun h => by rw [ows0 (Wf_stN hw l (n + 1))] at h; cases h⟩
      by_cases hi2 : i < (enN t l n).length
      · rw [bgN_app _ _ _ (by omega), show (enN t l n ++ [(n : Int) + 1]).getD i 0 = (enN t l n).getD i 0 by simp only [List.getD, List.getElem?_append_left hi2]]
        obtain ⟨a, b, c, d⟩ := h1 i hi2
        exact ⟨a, by omega, c, d⟩
      · obtain rfl : i = (enN t l n).length := by simp at hi; omega
        rw [bgN_app _ _ _ (Nat.le_refl _), getD_app_0]
        have hb : bgN (enN t l n) (enN t l n).length = lastB 0 (enN t l n) := by unfold bgN; rw [List.take_length]
        rw [hb]
        obtain ⟨k, a, b, c⟩ := hstep ((nonB_iff.1 e).1 0)
        exact ⟨by omega, by omega, h0, k, a, by omega, c⟩
    · rw [if_neg e] at E1 E2
      rw [E1, E2]
      refine ⟨fun i hi => ?_, h0, fun h => ?_⟩
      · obtain ⟨a, b, c, d⟩ := h1 i hi
        exact ⟨a, by omega, c, d⟩
      · exact hstep h
/-- Something is owed always. -/
theorem ow_some {t : St} (hw : t.Wf) (l : List En) : ∀ n, nonB (owN t l n) = false
  | 0 => by
    cases h : nonB (owN t l 0)
    · rfl
    · have := (nonB_iff.1 h).1 0
      rw [show owN t l 0 = ows t from rfl, ows0 hw] at this; cases this
  | n + 1 => by
    have E2 : owN t l (n + 1) = if nonB (pyS (owN t l n) (l.getD n (0, 0)).1 (l.getD n (0, 0)).2) = true then ows (stN t l (n + 1)) else pyS (owN t l n) (l.getD n (0, 0)).1 (l.getD n (0, 0)).2 := rfl
    by_cases e : nonB (pyS (owN t l n) (l.getD n (0, 0)).1 (l.getD n (0, 0)).2) = true
    · rw [if_pos e] at E2
      rw [E2]
      cases h : nonB (ows (stN t l (n + 1)))
      · rfl
      · have := (nonB_iff.1 h).1 0
        rw [ows0 (Wf_stN hw l (n + 1))] at this; cases this
    · rw [if_neg e] at E2
      rw [E2]
      simpa using e
theorem mem_idxF (o : Int) (b : List Bool) (x : Int) : x ∈ idxF o b ↔ ∃ i : Nat, x = o + i ∧ b.getD i false = true := by
  induction b generalizing o with
  | nil => simp [idxF]
  | cons y b ih =>
    have hs : (∃ i : Nat, x = o + 1 + i ∧ b.getD i false = true) ↔ ∃ i : Nat, x = o + ((i + 1 : Nat) : Int) ∧ b.getD i false = true := by
      constructor
      · rintro ⟨i, h1, h2⟩; exact ⟨i, by omega, h2⟩
      · rintro ⟨i, h1, h2⟩; exact ⟨i, by omega, h2⟩
    have hall : (∃ i : Nat, x = o + i ∧ (y :: b).getD i false = true) ↔ (x = o ∧ y = true) ∨ ∃ i : Nat, x = o + ((i + 1 : Nat) : Int) ∧ b.getD i false = true := by
      constructor
      · rintro ⟨i, h1, h2⟩
        cases i with
        | zero => exact .inl ⟨by omega, h2⟩
        | succ i => exact .inr ⟨i, h1, h2⟩
      · rintro (⟨h1, h2⟩ | ⟨i, h1, h2⟩)
        · exact ⟨0, by omega, h2⟩
        · exact ⟨i + 1, h1, h2⟩
    rw [hall, ← hs, ← ih]
    cases y <;> simp [idxF]
theorem mem_idx (b : List Bool) (x : Int) : x ∈ idx b ↔ ∃ i : Nat, x = i ∧ b.getD i false = true := by
  unfold idx
  rw [mem_idxF]
  constructor
  · rintro ⟨i, h1, h2⟩; exact ⟨i, by omega, h2⟩
  · rintro ⟨i, h1, h2⟩; exact ⟨i, by omega, h2⟩
theorem owed_in {t : St} {l : List En} (n : Nat) (hv : ∀ j, j < n → erN t l j = 0) : (∀ x ∈ idx (owN t l n).a, x ≠ 0 → x ∈ idx (stN t l n).a) ∧ ∀ x ∈ idx (owN t l n).s, x ∈ idx (stN t l n).s := by
  have hs := ow_sub n hv
  refine ⟨fun x hx h0 => ?_, fun x hx => ?_⟩
  · rw [mem_idx] at hx ⊢
    obtain ⟨i, rfl, h⟩ := hx
    have h2 : ((stN t l n).a.set 0 true).getD i false = true := hs.1 i h
    rw [getD_set, if_neg (by omega)] at h2
    exact ⟨i, rfl, h2⟩
  · rw [mem_idx] at hx ⊢
    obtain ⟨i, rfl, h⟩ := hx
    exact ⟨i, rfl, hs.2 i h⟩
theorem idx_nil {b : List Bool} (h : idx b = []) : b.any id = false := by
  rw [any_false]
  intro i
  cases hb : b.getD i false
  · rfl
  · have : (i : Int) ∈ idx b := (mem_idx b i).2 ⟨i, rfl, hb⟩
    rw [h] at this; simp at this
theorem owed_len {t : St} (hw : t.Wf) (l : List En) (n : Nat) : 0 < (idx (owN t l n).a).length + (idx (owN t l n).s).length := by
  rcases Nat.eq_zero_or_pos ((idx (owN t l n).a).length + (idx (owN t l n).s).length) with h | h
  · exfalso
    have h1 := idx_nil (List.length_eq_zero_iff.1 (show (idx (owN t l n).a).length = 0 by omega))
    have h2 := idx_nil (List.length_eq_zero_iff.1 (show (idx (owN t l n).s).length = 0 by omega))
    have := ow_some hw l n
    unfold nonB at this
    rw [h1, h2] at this
    cases this
  · exact h
end Go.Proofs.Ytgdcgmnfgbdiiaa
