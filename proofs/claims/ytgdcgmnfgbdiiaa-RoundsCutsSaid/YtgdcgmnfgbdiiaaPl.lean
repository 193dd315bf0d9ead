/- Plain facts about rounds: sets of processes and slots as lists of bools, entries, what they do, where rounds end; no program in sight. -/
namespace Go.Proofs.Ytgdcgmnfgbdiiaa
set_option linter.unusedSimpArgs false
set_option linter.unusedVariables false
set_option linter.unnecessarySimpa false

/-- The places of a list of bools that hold true, ascending. -/
def idxF (o : Int) : List Bool → List Int
  | [] => []
  | b :: l => if b = true then o :: idxF (o + 1) l else idxF (o + 1) l
def idx (l : List Bool) : List Int := idxF 0 l
/-- The number that has these bits. -/
def enc : List Bool → Int
  | [] => 0
  | b :: l => (if b = true then 1 else 0) + 2 * enc l
/-- What is blocked and pending, or what is owed. -/
structure St where
  a : List Bool
  s : List Bool
def St.Wf (t : St) : Prop := t.a.length = 9 ∧ t.s.length = 256
/-- The error of an entry. -/
def apE (t : St) (k w : Int) : Int :=
  if k = 1 then (if 0 ≤ w ∧ w ≤ 8 then 0 else 2)
  else if k = 2 ∨ k = 3 then (if 1 ≤ w ∧ w ≤ 8 then (if t.a.getD w.toNat false = decide (k = 2) then 9 else 0) else 2)
  else if k = 4 ∨ k = 5 then (if 0 ≤ w ∧ w ≤ 255 then (if t.s.getD w.toNat false = decide (k = 4) then 9 else 0) else 2)
  else 16
/-- The state after an entry. -/
def apS (t : St) (k w : Int) : St :=
  if apE t k w = 0 then
    (if k = 2 ∨ k = 3 then { t with a := t.a.set w.toNat (decide (k = 2)) } else if k = 4 ∨ k = 5 then { t with s := t.s.set w.toNat (decide (k = 4)) } else t)
  else t
/-- What is owed after an entry. -/
def pyS (t : St) (k w : Int) : St :=
  if k = 1 ∨ k = 3 then { t with a := t.a.set w.toNat false } else if k = 5 then { t with s := t.s.set w.toNat false } else t
/-- Nothing is owed. -/
def nonB (t : St) : Bool := !(t.a.any id) && !(t.s.any id)
/-- What a segment owes that begins here. -/
def ows (t : St) : St := { t with a := t.a.set 0 true }
theorem Wf_apS {t : St} (h : t.Wf) (k w : Int) : (apS t k w).Wf := by
  unfold apS
  split
  · split
    · exact ⟨by simp [h.1], h.2⟩
    · split
      · exact ⟨h.1, by simp [h.2]⟩
      · exact h
  · exact h
theorem Wf_pyS {t : St} (h : t.Wf) (k w : Int) : (pyS t k w).Wf := by
  unfold pyS
  split
  · exact ⟨by simp [h.1], h.2⟩
  · split
    · exact ⟨h.1, by simp [h.2]⟩
    · exact h
theorem Wf_ows {t : St} (h : t.Wf) : (ows t).Wf := ⟨by simp [ows, h.1], h.2⟩
abbrev En := Int × Int
/-- The state behind n entries. -/
def stN (t : St) (l : List En) : Nat → St
  | 0 => t
  | n + 1 => apS (stN t l n) (l.getD n (0, 0)).1 (l.getD n (0, 0)).2
theorem Wf_stN {t : St} (h : t.Wf) (l : List En) : ∀ n, (stN t l n).Wf
  | 0 => h
  | n + 1 => Wf_apS (Wf_stN h l n) _ _
/-- The error of entry n. -/
def erN (t : St) (l : List En) (n : Nat) : Int := apE (stN t l n) (l.getD n (0, 0)).1 (l.getD n (0, 0)).2
/-- What is owed behind n entries, and the ends of the rounds. -/
def owN (t : St) (l : List En) : Nat → St
  | 0 => ows t
  | n + 1 => if nonB (pyS (owN t l n) (l.getD n (0, 0)).1 (l.getD n (0, 0)).2) = true then ows (stN t l (n + 1)) else pyS (owN t l n) (l.getD n (0, 0)).1 (l.getD n (0, 0)).2
def enN (t : St) (l : List En) : Nat → List Int
  | 0 => []
  | n + 1 => if nonB (pyS (owN t l n) (l.getD n (0, 0)).1 (l.getD n (0, 0)).2) = true then enN t l n ++ [(n : Int) + 1] else enN t l n
theorem Wf_owN {t : St} (h : t.Wf) (l : List En) : ∀ n, (owN t l n).Wf
  | 0 => Wf_ows h
  | n + 1 => by
    unfold owN
    split
    · exact Wf_ows (Wf_stN h l (n + 1))
    · exact Wf_pyS (Wf_owN h l n) _ _
theorem enN_len (t : St) (l : List En) (n : Nat) : (enN t l n).length ≤ n := by
  induction n with
  | zero => exact Nat.le_refl _
  | succ n ih =>
    unfold enN
    split
    · simp; omega
    · omega
/-- Whether a number is no greater than the one before it. -/
def leP (x : Int) : Option Int → Bool
  | none => false
  | some y => decide (x ≤ y)
/-- The error of a list of numbers that should ascend. -/
def ascE (lo hi : Int) : List Int → Option Int → Int
  | [], _ => 0
  | x :: l, p => if x < lo ∨ hi < x then 2 else if leP x p = true then 8 else ascE lo hi l (some x)
/-- The set of a list of numbers. -/
def ofL (n : Nat) (l : List Int) : List Bool := l.foldl (fun b x => b.set x.toNat true) (List.replicate n false)
theorem ofL_len (n : Nat) (l : List Int) : (ofL n l).length = n := by
  have : ∀ (l : List Int) (b : List Bool), (l.foldl (fun b x => b.set x.toNat true) b).length = b.length := by
    intro l
    induction l with
    | nil => intro b; rfl
    | cons x l ih => intro b; rw [List.foldl_cons, ih, List.length_set]
  rw [ofL, this, List.length_replicate]
/-- A moment: what is blocked and what is pending. -/
structure Mo where
  b : List Int
  p : List Int
def ckM (m : Mo) : Int := if ascE 1 8 m.b none = 0 then ascE 0 255 m.p none else ascE 1 8 m.b none
def st0 (m : Mo) : St := ⟨ofL 9 m.b, ofL 256 m.p⟩
theorem Wf_st0 (m : Mo) : (st0 m).Wf := ⟨ofL_len _ _, ofL_len _ _⟩
/-- The first entry that has an error, from entry k on, so many entries left. -/
def vlF (t : St) (l : List En) : Nat → Nat → Int × Int
  | _, 0 => (0, 0)
  | k, n + 1 => if erN t l k = 0 then vlF t l (k + 1) n else (erN t l k, (k : Int))
def vldL (m : Mo) (l : List En) : Int × Int := if ckM m = 0 then (if 5000 < l.length then (5, 0) else vlF (st0 m) l 0 l.length) else (ckM m, 0)
theorem vlF_at {t : St} {l : List En} {k n : Nat} (h : ∀ j, j < k → erN t l j = 0) (hk : k < n) (he : erN t l k ≠ 0) : vlF t l 0 n = (erN t l k, (k : Int)) := by
  have : ∀ d i m, i + d = k → d < m → vlF t l i m = (erN t l k, (k : Int)) := by
    intro d
    induction d with
    | zero =>
      intro i m hi hm
      obtain rfl : i = k := by omega
      cases m with
      | zero => omega
      | succ m => unfold vlF; rw [if_neg he]
    | succ d ih =>
      intro i m hi hm
      cases m with
      | zero => omega
      | succ m => unfold vlF; rw [if_pos (h i (by omega))]; exact ih (i + 1) m (by omega) (by omega)
  exact this k 0 n (by omega) hk
theorem vlF_ok {t : St} {l : List En} {n : Nat} (h : ∀ j, j < n → erN t l j = 0) : vlF t l 0 n = (0, 0) := by
  have : ∀ d i, i + d = n → vlF t l i d = (0, 0) := by
    intro d
    induction d with
    | zero => intro i _; rfl
    | succ d ih => intro i hi; unfold vlF; rw [if_pos (h i (by omega))]; exact ih (i + 1) (by omega)
  exact this n 0 (by omega)
theorem vlF_none {t : St} {l : List En} {n : Nat} (h : (vlF t l 0 n).1 = 0) : ∀ j, j < n → erN t l j = 0 := by
  have : ∀ d i, i + d = n → (vlF t l i d).1 = 0 → ∀ j, i ≤ j → j < n → erN t l j = 0 := by
    intro d
    induction d with
    | zero => intro i hi _ j hj hn; omega
    | succ d ih =>
      intro i hi hv j hj hn
      unfold vlF at hv
      by_cases e : erN t l i = 0
      · rw [if_pos e] at hv
        by_cases ej : j = i
        · subst ej; exact e
        · exact ih (i + 1) (by omega) hv j (by omega) hn
      · rw [if_neg e] at hv; exact absurd hv e
  intro j hj
  exact this n 0 (by omega) h j (by omega) hj
end Go.Proofs.Ytgdcgmnfgbdiiaa
