/- Plain facts: cutting anew, beginnings of logs, what is owed; no program in sight (but the parts of a log, as text T has them). -/
import Derived.Test.YtgdcgmnfgbdiiaaPB
import Derived.Test.YtgdcgmnfgbdiiaaT
namespace Go.Proofs.Ytgdcgmnfgbdiiaa
set_option linter.unusedSimpArgs false
set_option linter.unusedVariables false
set_option linter.unnecessarySimpa false

theorem getD_set (l : List Bool) (k i : Nat) (b : Bool) : (l.set k b).getD i false = if k = i ∧ k < l.length then b else l.getD i false := by
  simp only [List.getD, List.getElem?_set]
  by_cases h : k = i
  · subst h
    by_cases h2 : k < l.length
    · simp [h2]
    · simp [h2]
  · simp [h]
theorem getD_lt {l : List Bool} {i : Nat} (h : l.getD i false = true) : i < l.length := by
  rcases Nat.lt_or_ge i l.length with h1 | h1
  · exact h1
  · simp [List.getD, List.getElem?_eq_none h1] at h
def Le (x y : List Bool) : Prop := ∀ i, x.getD i false = true → y.getD i false = true
theorem Le.refl (x : List Bool) : Le x x := fun _ h => h
theorem Le.set_false {x y : List Bool} (h : Le x y) (k : Nat) : Le (x.set k false) (y.set k false) := by
  intro i hi
  rw [getD_set] at hi ⊢
  by_cases e : k = i ∧ k < x.length
  · rw [if_pos e] at hi; cases hi
  · rw [if_neg e] at hi
    have hl := getD_lt hi
    rw [if_neg (by omega)]
    exact h i hi
theorem Le.set_l {x y : List Bool} (h : Le x y) (k : Nat) : Le (x.set k false) y := by
  intro i hi
  rw [getD_set] at hi
  split at hi
  · cases hi
  · exact h i hi
theorem Le.set_r {x y : List Bool} (h : Le x y) (k : Nat) : Le x (y.set k true) := by
  intro i hi
  rw [getD_set]
  split
  · rfl
  · exact h i hi
theorem any_false {l : List Bool} : l.any id = false ↔ ∀ i, l.getD i false = false := by
  rw [List.any_eq_false]
  constructor
  · intro h i
    by_cases hi : i < l.length
    · have := h l[i] (List.getElem_mem hi)
      simpa [List.getD, hi] using this
    · simp [List.getD, List.getElem?_eq_none (Nat.le_of_not_lt hi)]
  · intro h x hx
    obtain ⟨i, hi, rfl⟩ := List.getElem_of_mem hx
    have := h i
    simpa [List.getD, hi] using this
theorem nonB_iff {t : St} : nonB t = true ↔ (∀ i, t.a.getD i false = false) ∧ ∀ i, t.s.getD i false = false := by
  unfold nonB
  rw [Bool.and_eq_true, Bool.not_eq_true', Bool.not_eq_true', any_false, any_false]
/-- Less is owed. -/
def Sb (x y : St) : Prop := Le x.a y.a ∧ Le x.s y.s
theorem Sb.refl (x : St) : Sb x x := ⟨Le.refl _, Le.refl _⟩
theorem Sb.py {x y : St} (h : Sb x y) (k w : Int) : Sb (pyS x k w) (pyS y k w) := by
  unfold pyS
  split
  · exact ⟨h.1.set_false _, h.2⟩
  · split
    · exact ⟨h.1, h.2.set_false _⟩
    · exact h
theorem Sb.none {x y : St} (h : Sb x y) (hy : nonB y = true) : nonB x = true := by
  rw [nonB_iff] at hy ⊢
  refine ⟨fun i => ?_, fun i => ?_⟩
  · cases hx : x.a.getD i false
    · rfl
    · have := h.1 i hx; rw [hy.1 i] at this; cases this
  · cases hx : x.s.getD i false
    · rfl
    · have := h.2 i hx; rw [hy.2 i] at this; cases this
theorem Le.swap {x y : List Bool} (h : Le x (y.set 0 true)) (k : Nat) : Le (x.set k false) ((y.set k false).set 0 true) := by
  intro i hi
  rw [getD_set] at hi
  by_cases e : k = i ∧ k < x.length
  · rw [if_pos e] at hi; cases hi
  · rw [if_neg e] at hi
    have hl := getD_lt hi
    have hy := h i hi
    rw [getD_set] at hy ⊢
    rw [List.length_set]
    by_cases e0 : 0 = i ∧ 0 < y.length
    · rw [if_pos e0]
    · rw [if_neg e0] at hy ⊢
      rw [getD_set, if_neg (by omega)]
      exact hy
theorem Sb.step {D t : St} {k w : Int} (h : Sb D (ows t)) (he : apE t k w = 0) : Sb (pyS D k w) (ows (apS t k w)) := by
  unfold apS
  rw [if_pos he]
  unfold pyS
  have ha : Le D.a (t.a.set 0 true) := h.1
  by_cases k1 : k = 1
  · subst k1
    rw [if_pos (.inl rfl), if_neg (by decide), if_neg (by decide)]
    exact ⟨ha.set_l _, h.2⟩
  by_cases k2 : k = 2
  · subst k2
    rw [if_neg (by decide), if_neg (by decide), if_pos (.inl rfl)]
    refine ⟨?_, h.2⟩
    show Le D.a ((t.a.set w.toNat (decide ((2 : Int) = 2))).set 0 true)
    by_cases e : w.toNat = 0
    · rw [e, List.set_set]; exact ha
    · rw [List.set_comm _ _ e]; exact ha.set_r _
  by_cases k3 : k = 3
  · subst k3
    rw [if_pos (.inr rfl), if_pos (.inr rfl)]
    exact ⟨ha.swap _, h.2⟩
  by_cases k4 : k = 4
  · subst k4
    rw [if_neg (by decide), if_neg (by decide), if_neg (by decide), if_pos (.inl rfl)]
    exact ⟨ha, h.2.set_r _⟩
  by_cases k5 : k = 5
  · subst k5
    rw [if_neg (by decide), if_pos rfl, if_neg (by decide), if_pos (.inr rfl)]
    exact ⟨ha, h.2.set_false _⟩
  · rw [if_neg (by omega), if_neg (by omega), if_neg (by omega), if_neg (by omega)]
    exact h
/-- What is owed is blocked or pending. -/
theorem ow_sub {t : St} {l : List En} : ∀ n, (∀ j, j < n → erN t l j = 0) → Sb (owN t l n) (ows (stN t l n))
  | 0, _ => Sb.refl _
  | n + 1, h => by
    have h1 := (ow_sub n (fun j hj => h j (by omega))).step (h n (by omega))
    unfold owN
    split
    · exact Sb.refl _
    · exact h1

/-- How many rounds begin at f or later; where the last one began. -/
def lsF (f : Int) : Int → List Int → Nat
  | _, [] => 0
  | b, x :: r => (if f ≤ b then 1 else 0) + lsF f x r
def lastB (b : Int) : List Int → Int
  | [] => b
  | x :: r => lastB x r
theorem lsF_snoc (f b : Int) (l : List Int) (x : Int) : lsF f b (l ++ [x]) = lsF f b l + (if f ≤ lastB b l then 1 else 0) := by
  induction l generalizing b with
  | nil => by_cases h : f ≤ b <;> simp [lsF, lastB, h]
  | cons y l ih =>
    simp only [List.cons_append, lsF, lastB, ih]
    by_cases h : f ≤ b <;> by_cases h2 : f ≤ lastB y l <;> simp [h, h2] <;> omega
theorem lastB_snoc (b : Int) (l : List Int) (x : Int) : lastB b (l ++ [x]) = x := by
  induction l generalizing b with
  | nil => rfl
  | cons y l ih => simp only [List.cons_append, lastB, ih]
theorem lastB_le (t : St) (l : List En) : ∀ n : Nat, lastB 0 (enN t l n) ≤ n
  | 0 => Int.le_refl _
  | n + 1 => by
    unfold enN
    split
    · rw [lastB_snoc]; omega
    · have := lastB_le t l n; omega
theorem lsF_zero (t : St) (l : List En) (f : Nat) : ∀ n : Nat, n ≤ f → lsF f 0 (enN t l n) = 0
  | 0, _ => rfl
  | n + 1, h => by
    have h1 := lsF_zero t l f n (by omega)
    have h2 := lastB_le t l n
    unfold enN
    split
    · rw [lsF_snoc, h1, if_neg (by omega)]
    · exact h1
theorem ow_fresh (t : St) (l : List En) : ∀ n : Nat, lastB 0 (enN t l n) = n → owN t l n = ows (stN t l n)
  | 0, _ => rfl
  | n + 1, h => by
    unfold owN
    unfold enN at h
    by_cases e : nonB (pyS (owN t l n) (l.getD n (0, 0)).1 (l.getD n (0, 0)).2) = true
    · rw [if_pos e]
    · rw [if_neg e] at h
      have := lastB_le t l n
      omega
/-- How the rounds from the start and those from f on stand to each other. -/
def Md (f B : Int) (D D' : St) (L c e : Nat) : Prop :=
  (f ≤ B ∧ D = D' ∧ L = c ∧ L ≤ e) ∨ (B < f ∧ Sb D D' ∧ L = 0 ∧ c = 0) ∨ (f ≤ B ∧ Sb D' D ∧ L = c ∧ L < e) ∨ (f ≤ B ∧ Sb D D' ∧ L + 1 = c ∧ L < e)
theorem Md.step {f B : Int} {D D' : St} {L c e : Nat} (h : Md f B D D' L c e) (k w : Int) (O : St) (n1 : Int) (hn : f ≤ n1) (hD : Sb (pyS D k w) O) (hD' : Sb (pyS D' k w) O) :
    Md f (if nonB (pyS D k w) = true then n1 else B) (if nonB (pyS D k w) = true then O else pyS D k w) (if nonB (pyS D' k w) = true then O else pyS D' k w)
      (if nonB (pyS D k w) = true then L + (if f ≤ B then 1 else 0) else L) (if nonB (pyS D' k w) = true then c + 1 else c) (if nonB (pyS D k w) = true then e + 1 else e) := by
  unfold Md at h ⊢
  rcases h with ⟨h1, rfl, h3, h4⟩ | ⟨h1, h2, h3, h4⟩ | ⟨h1, h2, h3, h4⟩ | ⟨h1, h2, h3, h4⟩
  · by_cases e1 : nonB (pyS D k w) = true
    · simp only [if_pos e1, if_pos h1]
      exact .inl ⟨hn, trivial, by omega, by omega⟩
    · simp only [if_neg e1]
      exact .inl ⟨h1, trivial, h3, h4⟩
  · have h2' := h2.py k w
    by_cases e2 : nonB (pyS D' k w) = true
    · have e1 := h2'.none e2
      simp only [if_pos e1, if_pos e2, if_neg (show ¬ f ≤ B by omega)]
      exact .inr (.inr (.inr ⟨hn, Sb.refl _, by omega, by omega⟩))
    · by_cases e1 : nonB (pyS D k w) = true
      · simp only [if_pos e1, if_neg e2, if_neg (show ¬ f ≤ B by omega)]
        exact .inr (.inr (.inl ⟨hn, hD', by omega, by omega⟩))
      · simp only [if_neg e1, if_neg e2]
        exact .inr (.inl ⟨h1, h2', h3, h4⟩)
  · have h2' := h2.py k w
    by_cases e1 : nonB (pyS D k w) = true
    · have e2 := h2'.none e1
      simp only [if_pos e1, if_pos e2, if_pos h1]
      exact .inr (.inr (.inl ⟨hn, Sb.refl _, by omega, by omega⟩))
    · by_cases e2 : nonB (pyS D' k w) = true
      · simp only [if_neg e1, if_pos e2]
        exact .inr (.inr (.inr ⟨h1, hD, by omega, h4⟩))
      · simp only [if_neg e1, if_neg e2]
        exact .inr (.inr (.inl ⟨h1, h2', h3, h4⟩))
  · have h2' := h2.py k w
    by_cases e2 : nonB (pyS D' k w) = true
    · have e1 := h2'.none e2
      simp only [if_pos e1, if_pos e2, if_pos h1]
      exact .inr (.inr (.inr ⟨hn, Sb.refl _, by omega, by omega⟩))
    · by_cases e1 : nonB (pyS D k w) = true
      · simp only [if_pos e1, if_neg e2, if_pos h1]
        exact .inr (.inr (.inl ⟨hn, hD', by omega, by omega⟩))
      · simp only [if_neg e1, if_neg e2]
        exact .inr (.inr (.inr ⟨h1, h2', h3, h4⟩))
theorem Md.ends {f B : Int} {D D' : St} {L c e : Nat} (h : Md f B D D' L c e) : L ≤ c ∧ c ≤ e := by
  unfold Md at h
  omega
theorem anew_md {t : St} {l : List En} (hv : ∀ j, j < l.length → erN t l j = 0) (f : Nat) (hf : f ≤ l.length) : ∀ j : Nat, f + j ≤ l.length →
    Md f (lastB 0 (enN t l (f + j))) (owN t l (f + j)) (owN (stN t l f) (subL l f l.length) j) (lsF f 0 (enN t l (f + j))) (enN (stN t l f) (subL l f l.length) j).length (enN t l (f + j)).length
  | 0, _ => by
    have h1 := lastB_le t l f
    have h2 := lsF_zero t l f f (Nat.le_refl _)
    unfold Md
    rw [Nat.add_zero, h2]
    by_cases e : lastB 0 (enN t l f) = f
    · exact .inl ⟨by omega, ow_fresh t l f e, rfl, Nat.zero_le _⟩
    · exact .inr (.inl ⟨by omega, ow_sub f (fun j hj => hv j (by omega)), rfl, rfl⟩)
  | j + 1, h => by
    have ih := anew_md hv f hf j (by omega)
    have hD : Sb (pyS (owN t l (f + j)) (l.getD (f + j) (0, 0)).1 (l.getD (f + j) (0, 0)).2) (ows (stN t l (f + j + 1))) := (ow_sub (f + j) (fun i hi => hv i (by omega))).step (hv (f + j) (by omega))
    have hs : stN (stN t l f) (subL l f l.length) j = stN t l (f + j) := stN_sub t l f l.length j (by omega)
    have hs1 : stN (stN t l f) (subL l f l.length) (j + 1) = stN t l (f + j + 1) := stN_sub t l f l.length (j + 1) (by omega)
    have hg := subL_at l f l.length j (by omega)
    have hv' : ∀ i, i < j → erN (stN t l f) (subL l f l.length) i = 0 := fun i hi => by rw [erN_sub t l f l.length i (by omega)]; exact hv _ (by omega)
    have hD0 := ow_sub j hv'
    rw [hs] at hD0
    have hD' := hD0.step (hv (f + j) (by omega))
    have := ih.step (l.getD (f + j) (0, 0)).1 (l.getD (f + j) (0, 0)).2 (ows (stN t l (f + j + 1))) (((f + j : Nat) : Int) + 1) (by omega) hD hD'
    show Md f (lastB 0 (enN t l (f + j + 1))) (owN t l (f + j + 1)) (owN (stN t l f) (subL l f l.length) (j + 1)) (lsF f 0 (enN t l (f + j + 1))) (enN (stN t l f) (subL l f l.length) (j + 1)).length (enN t l (f + j + 1)).length
    have E1 : enN t l (f + j + 1) = if nonB (pyS (owN t l (f + j)) (l.getD (f + j) (0, 0)).1 (l.getD (f + j) (0, 0)).2) = true then enN t l (f + j) ++ [((f + j : Nat) : Int) + 1] else enN t l (f + j) := rfl
    have E2 : owN t l (f + j + 1) = if nonB (pyS (owN t l (f + j)) (l.getD (f + j) (0, 0)).1 (l.getD (f + j) (0, 0)).2) = true then ows (stN t l (f + j + 1)) else pyS (owN t l (f + j)) (l.getD (f + j) (0, 0)).1 (l.getD (f + j) (0, 0)).2 := rfl
    have E3 : enN (stN t l f) (subL l f l.length) (j + 1) = if nonB (pyS (owN (stN t l f) (subL l f l.length) j) ((subL l f l.length).getD j (0, 0)).1 ((subL l f l.length).getD j (0, 0)).2) = true then enN (stN t l f) (subL l f l.length) j ++ [((j : Nat) : Int) + 1] else enN (stN t l f) (subL l f l.length) j := rfl
    have E4 : owN (stN t l f) (subL l f l.length) (j + 1) = if nonB (pyS (owN (stN t l f) (subL l f l.length) j) ((subL l f l.length).getD j (0, 0)).1 ((subL l f l.length).getD j (0, 0)).2) = true then ows (stN (stN t l f) (subL l f l.length) (j + 1)) else pyS (owN (stN t l f) (subL l f l.length) j) ((subL l f l.length).getD j (0, 0)).1 ((subL l f l.length).getD j (0, 0)).2 := rfl
    rw [hg] at E3 E4
    rw [hs1] at E4
    rw [E1, E2, E3, E4]
    by_cases e1 : nonB (pyS (owN t l (f + j)) (l.getD (f + j) (0, 0)).1 (l.getD (f + j) (0, 0)).2) = true
    · by_cases e2 : nonB (pyS (owN (stN t l f) (subL l f l.length) j) (l.getD (f + j) (0, 0)).1 (l.getD (f + j) (0, 0)).2) = true
      · simp only [if_pos e1, if_pos e2] at this ⊢
        rw [lastB_snoc, lsF_snoc, List.length_append, List.length_append]
        exact this
      · simp only [if_pos e1, if_neg e2] at this ⊢
        rw [lastB_snoc, lsF_snoc, List.length_append]
        exact this
    · by_cases e2 : nonB (pyS (owN (stN t l f) (subL l f l.length) j) (l.getD (f + j) (0, 0)).1 (l.getD (f + j) (0, 0)).2) = true
      · simp only [if_neg e1, if_pos e2] at this ⊢
        rw [List.length_append]
        exact this
      · simp only [if_neg e1, if_neg e2] at this ⊢
        exact this
/-- Cut anew from f on. -/
theorem anew {t : St} {l : List En} (hv : ∀ j, j < l.length → erN t l j = 0) (f : Nat) (hf : f ≤ l.length) :
    lsF f 0 (enN t l l.length) ≤ (enN (stN t l f) (subL l f l.length) (subL l f l.length).length).length ∧ (enN (stN t l f) (subL l f l.length) (subL l f l.length).length).length ≤ (enN t l l.length).length := by
  have := (anew_md hv f hf (l.length - f) (by omega)).ends
  rw [show f + (l.length - f) = l.length by omega] at this
  rw [subL_len l f l.length (Nat.le_refl _)]
  exact this
end Go.Proofs.Ytgdcgmnfgbdiiaa
