/- Helper facts for the statements of this seat; no statement itself. -/
import Derived.Test.YtlmdfanhimhlcaaK
import Derived.RangeFuncBox
import Derived.Deep.RegionHeld3
import Derived.Deep.DeepCutAuto
import Derived.Outline
namespace Go.Proofs.Ytlmdfanhimhlcaa
open Go.RowKit
set_option linter.unusedSimpArgs false
set_option linter.unusedVariables false
set_option linter.unnecessarySimpa false

/-- The cells of spans. -/
def spC (l : List (Int × Int)) : List Value := l.flatMap fun e => [.int .i64 e.1, .int .i64 e.2]
theorem spC_length (l : List (Int × Int)) : (spC l).length = l.length * 2 := by
  induction l with
  | nil => rfl
  | cons a l ih => simp only [spC, List.flatMap_cons, List.length_append] at *; rw [ih]; simp; omega
theorem spC_get (l : List (Int × Int)) : ∀ (k : Nat), k < l.length → (spC l)[k * 2]? = some (.int .i64 (l.getD k (0, 0)).1) ∧ (spC l)[k * 2 + 1]? = some (.int .i64 (l.getD k (0, 0)).2) := by
  induction l with
  | nil => intro k hk; simp at hk
  | cons a l ih =>
    intro k hk
    cases k with
    | zero => simp [spC]
    | succ k =>
      have := ih k (by simpa using hk)
      rw [show (k + 1) * 2 = k * 2 + 1 + 1 by omega]
      simpa [spC] using this
theorem spC_set (l : List (Int × Int)) (i : Int) : ∀ (k : Nat), k < l.length → (spC l).set (k * 2 + 1) (.int .i64 i) = spC (l.set k ((l.getD k (0, 0)).1, i)) := by
  induction l with
  | nil => intro k hk; simp at hk
  | cons a l ih =>
    intro k hk
    cases k with
    | zero => simp [spC]
    | succ k =>
      have := ih k (by simpa using hk)
      rw [show (k + 1) * 2 + 1 = k * 2 + 1 + 1 + 1 by omega]
      simpa [spC] using this
/-- A slice that holds these spans. -/
def IsSps (w : World) (v : Value) (l : List (Int × Int)) : Prop :=
  ∃ a n cap, v = .slice a n cap ∧ n = l.length ∧ l.length ≤ 4294967296 ∧ (l = [] ∨ ∃ b, a = some ⟨b, 0, none⟩ ∧ ∀ k, k < l.length → w.cell? ⟨b, k * 2, none⟩ = some (.int .i64 (l.getD k (0, 0)).1) ∧ w.cell? ⟨b, k * 2 + 1, none⟩ = some (.int .i64 (l.getD k (0, 0)).2))
theorem IsSps.keep {w w' : World} {v : Value} {l : List (Int × Int)} (h : IsSps w v l) (hb : Below w.heap.size w w') : IsSps w' v l := by
  obtain ⟨a, n, cap, h1, h2, h3, h4 | ⟨b, h4, h5⟩⟩ := h
  · exact ⟨a, n, cap, h1, h2, h3, .inl h4⟩
  · exact ⟨a, n, cap, h1, h2, h3, .inr ⟨b, h4, fun k hk => ⟨cellB hb (h5 k hk).1, cellB hb (h5 k hk).2⟩⟩⟩
/-- A slice of the call's own that holds these spans. -/
def OwnSp (w : World) (base : Nat) (v : Value) (l : List (Int × Int)) : Prop := w.ownsRow base 49 2 v l.length (spC l)
theorem OwnSp.sps {w : World} {base : Nat} {v : Value} {l : List (Int × Int)} (h : OwnSp w base v l) (hl : l.length ≤ 4294967296) : IsSps w v l := by
  obtain ⟨_, h | ⟨g, cap, cur, hv, _, hg, _, _, _, ht⟩⟩ := h
  · obtain ⟨rfl, h0⟩ := h
    have : l = [] := List.length_eq_zero_iff.1 h0
    subst this
    exact ⟨_, _, _, rfl, rfl, by simp, .inl rfl⟩
  · refine ⟨_, _, _, hv, rfl, hl, .inr ⟨g, rfl, fun k hk => ?_⟩⟩
    obtain ⟨e0, e1⟩ := spC_get l k hk
    rw [← ht] at e0 e1
    rw [List.getElem?_take] at e0 e1
    rw [if_pos (by omega)] at e0 e1
    rw [cell_of_row w g (k * 2) cur _ (0, 0) hg, cell_of_row w g (k * 2 + 1) cur _ (0, 0) hg]
    exact ⟨by simpa using e0, by simpa using e1⟩
theorem OwnSp.nil (w : World) (base : Nat) : OwnSp w base (.slice none 0 0) [] := World.ownsRow_nil w base _ 2
theorem OwnSp.alloc {w : World} {base : Nat} {v : Value} {l : List (Int × Int)} (h : OwnSp w base v l) (o : Obj) : OwnSp (w.alloc o) base v l := World.ownsRow.alloc h o
theorem OwnSp.keep {w w' : World} {base : Nat} {v : Value} {l : List (Int × Int)} (h : OwnSp w base v l) (hb : Below w.heap.size w w') : OwnSp w' base v l := by
  obtain ⟨h1, h2 | ⟨g, cap, cur, hv, h3, hg, h4⟩⟩ := h
  · exact ⟨h1, .inl h2⟩
  · exact ⟨h1, .inr ⟨g, cap, cur, hv, h3, bkeep hb hg, h4⟩⟩
/-- The last span's end moved. -/
def setL (l : List (Int × Int)) (i : Int) : List (Int × Int) := l.set (l.length - 1) ((l.getD (l.length - 1) (0, 0)).1, i)
theorem setL_len (l : List (Int × Int)) (i : Int) : (setL l i).length = l.length := by simp [setL]
/-- A store into the last span's end. -/
theorem OwnSp.store {w : World} {base : Nat} {v : Value} {l : List (Int × Int)} (h : OwnSp w base v l) (hl : l ≠ []) (i : Int) :
    ∃ g cap, v = .slice (some ⟨g, 0, none⟩) l.length cap ∧ l.length ≤ cap ∧ base ≤ g ∧ g < w.heap.size ∧ (∃ x, w.cell? ⟨g, (l.length - 1) * 2 + 1, none⟩ = some x) ∧ (∀ j, w.frozen? ⟨g, j, none⟩ = false) ∧
      OwnSp (w.setCell ⟨g, (l.length - 1) * 2 + 1, none⟩ (.int .i64 i)) base v (setL l i) ∧ (∃ cur, w.heap[g]? = some (.cells cur 49 (0, 0))) := by
  have h0 : 0 < l.length := List.length_pos_iff.2 hl
  obtain ⟨h1, h2 | ⟨g, cap, cur, hv, h3, hg, h4, h5, h6, h7⟩⟩ := h
  · exact absurd (List.length_eq_zero_iff.1 h2.2) hl
  · refine ⟨g, cap, hv, h4, h3, lt_of_some hg, ?_, fun j => fr hg, ?_, cur, hg⟩
    · rw [cell_of_row w g _ cur _ (0, 0) hg]
      exact ⟨_, Array.getElem?_eq_getElem (by rw [h6]; omega)⟩
    · rw [setCell_eq_setRow w g _ cur 49 (0, 0) _ hg]
      refine ⟨by rw [spC_length], .inr ⟨g, cap, cur.setIfInBounds ((l.length - 1) * 2 + 1) (.int .i64 i), by rw [setL_len]; exact hv, h3, setRow_heap _ _ _ _ _ _ hg, by rw [setL_len]; exact h4, h5, by simpa using h6, ?_⟩⟩
      rw [Array.toList_setIfInBounds, setL_len, List.take_set, h7]
      exact spC_set l i (l.length - 1) (by omega)

theorem info49 : (Try.prog.info? 49).map (fun i => (i.zero, i.size, i.bytes)) = some (some (.agg #[.int .i64 0, .int .i64 0]), 2, 16) := by kernel_rfl
/-- append of one span to such a slice. -/
theorem append_sp {ops : Array Oper} {rest : List Oper} {o : Oper} {a : Act} {W : World} {Q : Exit → Act → World → Prop} (hgd : o.guard = none) (s x : Operand)
    (ho : o.op = .call { callee := .builtin .append, args := #[s, x], argTypes := #[45, 45] }) (base : Nat) (v : Value) (l : List (Int × Int)) (k p : Int) (ty : TypeId)
    (z : Nat) (hzz : W.heap.size = z) (hs : a.eval s = v) (hx : a.eval x = .slice (some ⟨z, 0, none⟩) 1 1) (hown : Hid (OwnSp W base v l)) (hl : l.length < 4294967296) (hbase : base ≤ W.heap.size)
    (h : ∀ v' w', Hid (OwnSp w' base v' (l ++ [(k, p)])) → Hid (Below base W w') → Hid ((W.alloc (.cells #[.int .i64 k, .int .i64 p] ty)).grownBy w' v.ownBlock) → wpList Try.prog ops Q rest (a.put o.dst v') w') : wpList Try.prog ops Q (o :: rest) a (W.alloc (.cells #[.int .i64 k, .int .i64 p] ty)) := by
  subst hzz
  obtain ⟨i, hi, hz, hs1, hby⟩ := info_parts info49
  refine wpList_append_own (W.alloc (.cells #[.int .i64 k, .int .i64 p] ty)) hgd s x 45 ho base 49 i (.agg #[.int .i64 0, .int .i64 0]) 2 16 Try.underlying45 hi hz hs1 hby rfl (by decide) v l.length (spC l) hs (World.ownsRow.alloc hown.out _)
    ⟨W.heap.size, 0, none⟩ 1 1 [.int .i64 k, .int .i64 p] hx rfl ?_ ?_ ?_ ?_ ?_ ?_
  · intro j u hj
    have hj2 := (List.getElem?_eq_some_iff.1 hj).1
    have : j = 0 ∨ j = 1 := by simp at hj2; omega
    rcases this with rfl | rfl
    · simp at hj; subst hj
      exact setRow_cell (t := ty) (h1_0 W _) rfl
    · simp at hj; subst hj
      exact setRow_cell (t := ty) (h1_0 W _) rfl
  · intro u hu; simp at hu; rcases hu with rfl | rfl <;> rfl
  · simp only [maxLen]; omega
  · omega
  · simp only [World.size_alloc] <;> omega
  · intro v' w' h1 h2 _
    refine h v' w' ?_ ?_ h2
    · show w'.ownsRow _ _ _ _ _ _
      simpa [spC] using h1
    · exact Below.grown (Below.alloc (Below.refl _ _) hbase _) h2 (by simp only [World.size_alloc] <;> omega) (fun k hk => (World.ownsRow.lt hown.out k hk).1)

/-- What one number adds to the spans. -/
def stp (s : List (Int × Int)) (o : Bool) (i : Int) (aw : Bool) : List (Int × Int) := if aw = true then (if o = true then setL s i else s ++ [(i, i)]) else s
/-- The spans of the first numbers. -/
def spK (b c : Int) (l : List Int) : Nat → List (Int × Int)
  | 0 => []
  | k + 1 => stp (spK b c l k) (awk b c l k) k (awk b c l (k + 1))
theorem stp_ne (s : List (Int × Int)) (o : Bool) (i : Int) (h : o = true → s ≠ []) : stp s o i true ≠ [] := by
  unfold stp
  rw [if_pos rfl]
  cases o
  · simp
  · have := h rfl
    rw [if_pos rfl]
    intro e
    have h1 := setL_len s i
    rw [e] at h1
    exact this (List.length_eq_zero_iff.1 h1.symm)
theorem stp_len (s : List (Int × Int)) (o : Bool) (i : Int) (aw : Bool) : (stp s o i aw).length ≤ s.length + 1 := by
  unfold stp
  split
  · split
    · rw [setL_len]; omega
    · simp
  · omega
theorem spK_len (b c : Int) (l : List Int) (k : Nat) : (spK b c l k).length ≤ k := by
  induction k with
  | zero => exact Nat.le_refl _
  | succ k ih => have := stp_len (spK b c l k) (awk b c l k) k (awk b c l (k + 1)); show (stp _ _ _ _).length ≤ _; omega
theorem spK_ne (b c : Int) (l : List Int) (k : Nat) (h : awk b c l k = true) : spK b c l k ≠ [] := by
  induction k with
  | zero => cases h
  | succ k ih =>
    show stp (spK b c l k) (awk b c l k) k (awk b c l (k + 1)) ≠ []
    rw [h]
    exact stp_ne _ _ _ ih
theorem getD_set {l : List (Int × Int)} {j k : Nat} {x : Int × Int} : (l.set k x).getD j (0, 0) = if k = j ∧ k < l.length then x else l.getD j (0, 0) := by
  simp only [List.getD, List.getElem?_set]
  by_cases h : k = j
  · subst h
    by_cases h2 : k < l.length
    · simp [h2]
    · simp [h2]
  · simp [h]
theorem getD_snoc {l : List (Int × Int)} {j : Nat} {x : Int × Int} (hj : j < l.length + 1) : (l ++ [x]).getD j (0, 0) = if j = l.length then x else l.getD j (0, 0) := by
  by_cases h : j = l.length
  · subst h; simp [List.getD]
  · rw [if_neg h]
    simp [List.getD, List.getElem?_append_left (show j < l.length by omega)]
/-- What is true of one span of the first k numbers. -/
def SpOk (b c : Int) (l : List Int) (k : Nat) (last : Bool) (e : Int × Int) : Prop := 0 ≤ e.1 ∧ e.1 ≤ e.2 ∧ e.2 < k ∧ l.getD e.1.toNat 0 < b ∧ (e.2 + 1 < k → c ≤ l.getD (e.2 + 1).toNat 0) ∧ awk b c l (e.2 + 1).toNat = true ∧ (last = false → e.2 + 1 < k)
theorem spK_ok (b c : Int) (l : List Int) (k : Nat) : ∀ j, j < (spK b c l k).length → SpOk b c l k (decide (j + 1 = (spK b c l k).length)) ((spK b c l k).getD j (0, 0)) := by
  induction k with
  | zero => intro j hj; exact absurd hj (by simp [spK])
  | succ k ih =>
    have hA : awk b c l (k + 1) = nxt b c (awk b c l k) (l.getD k 0) := rfl
    have hS : spK b c l (k + 1) = stp (spK b c l k) (awk b c l k) k (awk b c l (k + 1)) := rfl
    generalize spK b c l k = s at *
    rw [hS]
    clear hS
    have old : ∀ j, j < s.length → (awk b c l (k + 1) = false ∨ awk b c l k = false ∨ j + 1 < s.length) → ∀ la, (la = false → j + 1 < s.length ∨ awk b c l k = false) → SpOk b c l (k + 1) la (s.getD j (0, 0)) := by
      intro j hj hc la hla
      obtain ⟨h1, h2, h3, h4, h5, h6, h7⟩ := ih j hj
      refine ⟨h1, h2, by omega, h4, fun h => ?_, h6, fun h => ?_⟩
      · by_cases ht : (s.getD j (0, 0)).2 + 1 < k
        · exact h5 ht
        · have he : (s.getD j (0, 0)).2 + 1 = k := by omega
          rw [he, Int.toNat_natCast] at h6 ⊢
          rcases hc with hc | hc | hc
          · rw [hA, h6] at hc
            unfold nxt at hc
            split at hc
            · cases hc
            · split at hc
              · assumption
              · cases hc
          · rw [hc] at h6; cases h6
          · exact absurd (h7 (by simp; omega)) ht
      · rcases hla h with h | h
        · have := h7 (by simp; omega); omega
        · by_cases ht : (s.getD j (0, 0)).2 + 1 < k
          · omega
          · have he : (s.getD j (0, 0)).2 + 1 = k := by omega
            rw [he, Int.toNat_natCast, h] at h6; cases h6
    intro j hj
    unfold stp at hj ⊢
    by_cases h1 : awk b c l (k + 1) = true
    · rw [if_pos h1] at hj ⊢
      by_cases h2 : awk b c l k = true
      · rw [if_pos h2] at hj ⊢
        rw [setL_len] at hj ⊢
        unfold setL
        rw [getD_set]
        by_cases hx : s.length - 1 = j ∧ s.length - 1 < s.length
        · rw [if_pos hx]
          obtain ⟨g1, g2, g3, g4, g5, g6, g7⟩ := ih (s.length - 1) (by omega)
          refine ⟨g1, by show _ ≤ (k : Int); omega, by show (k : Int) < _; omega, g4, fun h => absurd h (by show ¬ ((k : Int) + 1 < _); omega), ?_, fun h => absurd h (by simp; omega)⟩
          show awk b c l ((k : Int) + 1).toNat = true
          rw [show ((k : Int) + 1).toNat = k + 1 by omega]
          exact h1
        · rw [if_neg hx]
          exact old j hj (.inr (.inr (by omega))) _ (fun _ => .inl (by omega))
      · have h2' : awk b c l k = false := by simpa using h2
        rw [if_neg h2] at hj ⊢
        rw [List.length_append] at hj ⊢
        rw [getD_snoc (by simpa using hj)]
        by_cases hx : j = s.length
        · rw [if_pos hx]
          refine ⟨by show 0 ≤ (k : Int); omega, Int.le_refl _, by show (k : Int) < _; omega, ?_, fun h => absurd h (by show ¬ ((k : Int) + 1 < _); omega), ?_, fun h => absurd h (by simp; omega)⟩
          · show l.getD (k : Int).toNat 0 < b
            rw [Int.toNat_natCast]
            rw [hA, h2'] at h1
            unfold nxt at h1
            split at h1
            · assumption
            · split at h1 <;> cases h1
          · show awk b c l ((k : Int) + 1).toNat = true
            rw [show ((k : Int) + 1).toNat = k + 1 by omega]
            exact h1
        · rw [if_neg hx]
          exact old j (by simp at hj; omega) (.inr (.inl h2')) _ (fun _ => .inr h2')
    · have h1' : awk b c l (k + 1) = false := by simpa using h1
      rw [if_neg h1] at hj ⊢
      exact old j hj (.inl h1') _ (fun h => .inl (by simp at h; omega))
end Go.Proofs.Ytlmdfanhimhlcaa
