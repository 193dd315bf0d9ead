/- Plain facts: sets as ascending lists against sets as lists of bools; no program in sight. -/
import Derived.Test.YtgdcgmnfgbdiiaaPF
namespace Go.Proofs.Ytgdcgmnfgbdiiaa
set_option linter.unusedSimpArgs false
set_option linter.unusedVariables false
set_option linter.unnecessarySimpa false

/-- A number more in an ascending list. -/
def insL (n : Int) : List Int → List Int
  | [] => [n]
  | x :: l => if x < n then x :: insL n l else n :: x :: l
theorem insL_split (n : Int) (l : List Int) : ∀ k, k ≤ l.length → (∀ j, j < k → l.getD j 0 < n) → (k < l.length → n ≤ l.getD k 0) → insL n l = l.take k ++ n :: l.drop k := by
  induction l with
  | nil => intro k hk _ _; obtain rfl : k = 0 := by simpa using hk
           rfl
  | cons x l ih =>
    intro k hk h1 h2
    cases k with
    | zero =>
      have : n ≤ x := h2 (by simp)
      show (if x < n then x :: insL n l else n :: x :: l) = _
      rw [if_neg (by omega)]
      rfl
    | succ k =>
      have h0 : x < n := h1 0 (by omega)
      show (if x < n then x :: insL n l else n :: x :: l) = _
      rw [if_pos h0, ih k (by simpa using hk) (fun j hj => h1 (j + 1) (by omega)) (fun h => h2 (by simpa using h))]
      rfl
theorem insL_len (n : Int) (l : List Int) : (insL n l).length = l.length + 1 := by
  induction l with
  | nil => rfl
  | cons x l ih =>
    show (if x < n then x :: insL n l else n :: x :: l).length = _
    split
    · simp [ih]
    · simp
/-- The list without a number. -/
def delL (n : Int) (l : List Int) : List Int := l.filter fun x => x != n
theorem delL_take (n : Int) (l : List Int) (k : Nat) (h : k < l.length) : delL n (l.take (k + 1)) = if l.getD k 0 != n then delL n (l.take k) ++ [l.getD k 0] else delL n (l.take k) := by
  unfold delL
  rw [List.take_succ_eq_append_getElem h, List.filter_append]
  have e : l[k] = l.getD k 0 := by simp [List.getD, h]
  rw [e]
  generalize l.getD k 0 = y
  cases hx : (y != n) <;> simp [List.filter, hx]
theorem delL_len (n : Int) (l : List Int) : (delL n l).length ≤ l.length := List.length_filter_le _ _
theorem idxF_gt {o x : Int} {b : List Bool} (h : x ∈ idxF o b) : o ≤ x := by
  rw [mem_idxF] at h
  obtain ⟨i, h1, _⟩ := h
  omega
theorem ins_idxF (b : List Bool) : ∀ (o : Int) (k : Nat), k < b.length → b.getD k false = false → insL (o + k) (idxF o b) = idxF o (b.set k true) := by
  induction b with
  | nil => intro o k hk; simp at hk
  | cons y b ih =>
    intro o k hk hb
    cases k with
    | zero =>
      have hy : y = false := hb
      subst hy
      show insL (o + ((0 : Nat) : Int)) (idxF (o + 1) b) = o :: idxF (o + 1) b
      rw [show o + ((0 : Nat) : Int) = o by omega]
      cases hl : idxF (o + 1) b with
      | nil => rfl
      | cons z r =>
        have : o + 1 ≤ z := idxF_gt (b := b) (by rw [hl]; simp)
        show (if z < o then z :: insL o r else o :: z :: r) = _
        rw [if_neg (by omega)]
    | succ k =>
      have h1 := ih (o + 1) k (by simpa using hk) hb
      rw [show o + 1 + (k : Int) = o + ((k + 1 : Nat) : Int) by omega] at h1
      cases y with
      | false => exact h1
      | true =>
        show insL (o + ((k + 1 : Nat) : Int)) (o :: idxF (o + 1) b) = o :: idxF (o + 1) (b.set k true)
        show (if o < o + ((k + 1 : Nat) : Int) then o :: insL (o + ((k + 1 : Nat) : Int)) (idxF (o + 1) b) else _) = _
        rw [if_pos (by omega), h1]
theorem ins_idx {b : List Bool} {k : Nat} (hk : k < b.length) (hb : b.getD k false = false) : insL (k : Int) (idx b) = idx (b.set k true) := by
  have := ins_idxF b 0 k hk hb
  rw [show (0 : Int) + (k : Int) = k by omega] at this
  exact this
theorem del_idxF (b : List Bool) : ∀ (o : Int) (k : Nat), delL (o + k) (idxF o b) = idxF o (b.set k false) := by
  induction b with
  | nil => intro o k; rfl
  | cons y b ih =>
    intro o k
    cases k with
    | zero =>
      have hr : delL o (idxF (o + 1) b) = idxF (o + 1) b := by
        unfold delL
        rw [List.filter_eq_self]
        intro a ha
        have := idxF_gt ha
        simp; omega
      rw [show o + ((0 : Nat) : Int) = o by omega]
      cases y with
      | false => exact hr
      | true =>
        show delL o (o :: idxF (o + 1) b) = idxF (o + 1) b
        unfold delL at hr ⊢
        rw [List.filter_cons_of_neg (by simp)]
        exact hr
    | succ k =>
      have h1 := ih (o + 1) k
      rw [show o + 1 + (k : Int) = o + ((k + 1 : Nat) : Int) by omega] at h1
      cases y with
      | false => exact h1
      | true =>
        show delL (o + ((k + 1 : Nat) : Int)) (o :: idxF (o + 1) b) = o :: idxF (o + 1) (b.set k false)
        rw [← h1]
        unfold delL
        rw [List.filter_cons_of_pos (by simp; omega)]
theorem del_idx (b : List Bool) (k : Nat) : delL (k : Int) (idx b) = idx (b.set k false) := by
  have := del_idxF b 0 k
  rw [show (0 : Int) + (k : Int) = k by omega] at this
  exact this
theorem has_idx (b : List Bool) (k : Nat) : (idx b).contains (k : Int) = b.getD k false := by
  rw [Bool.eq_iff_iff, List.contains_iff_mem, mem_idx]
  constructor
  · rintro ⟨i, h1, h2⟩
    have : k = i := by omega
    subst this; exact h2
  · intro h; exact ⟨k, rfl, h⟩
theorem idx_ows {t : St} (hw : t.Wf) (h0 : t.a.getD 0 false = false) : idx (ows t).a = 0 :: idx t.a := by
  have := ins_idx (b := t.a) (k := 0) (by rw [hw.1]; omega) h0
  show idx (t.a.set 0 true) = _
  rw [← this]
  cases hl : idx t.a with
  | nil => rfl
  | cons z r =>
    have hz : (0 : Int) ≤ z := idxF_gt (o := 0) (b := t.a) (by show z ∈ idx t.a; rw [hl]; simp)
    show (if z < ((0 : Nat) : Int) then z :: insL ((0 : Nat) : Int) r else ((0 : Nat) : Int) :: z :: r) = _
    rw [if_neg (by omega)]
    rfl
theorem idx_none {b : List Bool} : (idx b).length = 0 ↔ b.any id = false := by
  constructor
  · intro h; exact idx_nil (List.length_eq_zero_iff.1 h)
  · intro h
    rw [any_false] at h
    rcases Nat.eq_zero_or_pos (idx b).length with h1 | h1
    · exact h1
    · exfalso
      have hm : (idx b)[0] ∈ idx b := List.getElem_mem h1
      rw [mem_idx] at hm
      obtain ⟨i, _, hi⟩ := hm
      rw [h i] at hi; cases hi
theorem asc_idx {lo hi : Int} {n : Nat} (hlo : 0 ≤ lo) (hhi : hi < n) {l : List Int} (h : ∀ k, k < l.length → okA lo hi none l k) : idx (ofL n l) = l := by
  have h1 : List.Pairwise (fun a b : Int => a < b) l := by
    have hstep : ∀ (d i : Nat), i + d + 1 < l.length → l.getD i 0 < l.getD (i + d + 1) 0 := by
      intro d
      induction d with
      | zero => intro i hi; have := (h (i + 1) (by omega)).2.2.2 (by omega); simpa using this
      | succ d ih =>
        intro i hi
        have h1 := ih i (by omega)
        have h2 := (h (i + d + 1 + 1) (by omega)).2.2.2 (by omega)
        simp only [Nat.add_sub_cancel] at h2
        have e : i + (d + 1) + 1 = i + d + 1 + 1 := by omega
        rw [e]
        omega
    rw [List.pairwise_iff_getElem]
    intro i j hi hj hij
    have := hstep (j - i - 1) i (by omega)
    rw [show i + (j - i - 1) + 1 = j by omega] at this
    simpa [List.getD, hi, hj] using this
  have h2 : ∀ (b : List Bool) (o : Int), List.Pairwise (fun a b : Int => a < b) (idxF o b) := by
    intro b
    induction b with
    | nil => intro o; exact List.Pairwise.nil
    | cons x b ih =>
      intro o
      cases x with
      | false => exact ih (o + 1)
      | true => exact List.Pairwise.cons (fun y hy => by have := idxF_gt hy; omega) (ih (o + 1))
  have hex : ∀ l1 l2 : List Int, List.Pairwise (fun a b : Int => a < b) l1 → List.Pairwise (fun a b : Int => a < b) l2 → (∀ x, x ∈ l1 ↔ x ∈ l2) → l1 = l2 := by
    intro l1
    induction l1 with
    | nil =>
      intro l2 _ _ hm
      cases l2 with
      | nil => rfl
      | cons y l2 => have := (hm y).2 (by simp); simp at this
    | cons x l1 ih =>
      intro l2 p1 p2 hm
      cases l2 with
      | nil => have := (hm x).1 (by simp); simp at this
      | cons y l2 =>
        rw [List.pairwise_cons] at p1 p2
        have hxy : x = y := by
          rcases List.mem_cons.1 ((hm x).1 (by simp)) with e | e
          · exact e
          · rcases List.mem_cons.1 ((hm y).2 (by simp)) with e2 | e2
            · exact e2.symm
            · have := p1.1 y e2; have := p2.1 x e; omega
        subst hxy
        rw [ih l2 p1.2 p2.2 (fun z => ?_)]
        constructor
        · intro hz
          rcases List.mem_cons.1 ((hm z).1 (List.mem_cons_of_mem _ hz)) with e | e
          · subst e; have := p1.1 z hz; omega
          · exact e
        · intro hz
          rcases List.mem_cons.1 ((hm z).2 (List.mem_cons_of_mem _ hz)) with e | e
          · subst e; have := p2.1 z hz; omega
          · exact e
  refine hex _ _ (h2 _ 0) h1 fun x => ?_
  show x ∈ idx (ofL n l) ↔ _
  rw [mem_idx]
  constructor
  · rintro ⟨i, rfl, hi⟩
    have hlt := getD_lt hi
    rw [ofL_len] at hlt
    unfold ofL at hi
    rw [foldl_getD _ _ _ (by simpa using hlt)] at hi
    rcases hi with hi | ⟨y, hy, e⟩
    · simp [List.getD, List.getElem?_replicate, hlt] at hi
    · obtain ⟨k, hk, rfl⟩ := List.getElem_of_mem hy
      have := (h k hk).1
      simp only [List.getD, List.getElem?_eq_getElem hk, Option.getD_some] at this
      have e2 : ((i : Nat) : Int) = l[k] := by omega
      rw [e2]; exact List.getElem_mem hk
  · intro hx
    obtain ⟨k, hk, rfl⟩ := List.getElem_of_mem hx
    have ho := h k hk
    have o1 := ho.1
    have o2 := ho.2.1
    simp only [List.getD, List.getElem?_eq_getElem hk, Option.getD_some] at o1 o2
    refine ⟨l[k].toNat, by omega, ?_⟩
    unfold ofL
    rw [foldl_getD _ _ _ (by simp; omega)]
    exact .inr ⟨l[k], hx, rfl⟩
theorem moS_st0 {m : Mo} (h : ckM m = 0) : moS (st0 m) = m := by
  obtain ⟨h1, h2⟩ := ckM_ok h
  have e1 := asc_idx (n := 9) (by decide) (by decide) h1
  have e2 := asc_idx (n := 256) (by decide) (by decide) h2
  show (⟨idx (ofL 9 m.b), idx (ofL 256 m.p)⟩ : Mo) = m
  rw [e1, e2]
theorem a0_st0 {m : Mo} (h : ckM m = 0) : (st0 m).a.getD 0 false = false := by
  obtain ⟨h1, _⟩ := ckM_ok h
  rw [Bool.eq_false_iff]
  intro e
  have e' : (ofL 9 m.b).getD 0 false = true := e
  unfold ofL at e'
  rw [foldl_getD _ _ _ (by simp)] at e'
  rcases e' with e' | ⟨y, hy, e'⟩
  · simp [List.getD] at e'
  · obtain ⟨k, hk, rfl⟩ := List.getElem_of_mem hy
    have := (h1 k hk).1
    simp only [List.getD, List.getElem?_eq_getElem hk, Option.getD_some] at this
    omega
end Go.Proofs.Ytgdcgmnfgbdiiaa
