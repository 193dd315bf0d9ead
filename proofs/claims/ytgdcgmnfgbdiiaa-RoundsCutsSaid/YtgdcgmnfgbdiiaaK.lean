/- Helper facts for the statements of this seat; no statement itself. -/
import Derived.Test.YtgdcgmnfgbdiiaaComK
import Derived.Outline
namespace Go.Proofs.Ytgdcgmnfgbdiiaa
open Go.RowKit
set_option linter.unusedSimpArgs false
set_option linter.unusedVariables false
set_option linter.unnecessarySimpa false

/-- The cells of entries. -/
def spC (l : List (Int × Int)) : List Value := l.flatMap fun e => [.int .i64 e.1, .int .i64 e.2]
theorem spC_length (l : List (Int × Int)) : (spC l).length = l.length * 2 := by
  induction l with
  | nil => rfl
  | cons a l ih => simp only [spC, List.flatMap_cons, List.length_append] at *; rw [ih]; simp; omega
theorem spC_get (l : List (Int × Int)) : ∀ (k : Nat), k < l.length → (spC l)[k * 2]? = some (.int .i64 (l.getD k (0, 0)).1) ∧ (spC l)[k * 2 + 1]? = some (.int .i64 (l.getD k (0, 0)).2) := by
  induction l with
  | nil => intro k hk; simp at hk
  | cons a l ih =>
    intro k hk
    cases k with
    | zero => simp [spC]
    | succ k =>
      have := ih k (by simpa using hk)
      rw [show (k + 1) * 2 = k * 2 + 1 + 1 by omega]
      simpa [spC] using this
/-- A slice that holds these entries. -/
def IsLog (w : World) (v : Value) (l : List (Int × Int)) : Prop :=
  ∃ a n cap, v = .slice a n cap ∧ n = l.length ∧ l.length ≤ 4294967296 ∧ (l = [] ∨ ∃ b off, a = some ⟨b, off, none⟩ ∧ ∀ k, k < l.length → w.cell? ⟨b, off + k * 2, none⟩ = some (.int .i64 (l.getD k (0, 0)).1) ∧ w.cell? ⟨b, off + k * 2 + 1, none⟩ = some (.int .i64 (l.getD k (0, 0)).2))
theorem IsLog.keep {w w' : World} {v : Value} {l : List (Int × Int)} (h : IsLog w v l) (hb : Below w.heap.size w w') : IsLog w' v l := by
  obtain ⟨a, n, cap, h1, h2, h3, h4 | ⟨b, off, h4, h5⟩⟩ := h
  · exact ⟨a, n, cap, h1, h2, h3, .inl h4⟩
  · exact ⟨a, n, cap, h1, h2, h3, .inr ⟨b, off, h4, fun k hk => ⟨cellB hb (h5 k hk).1, cellB hb (h5 k hk).2⟩⟩⟩
theorem IsLog.nil (w : World) (a : Option Addr) (cap : Nat) : IsLog w (.slice a 0 cap) [] := ⟨_, _, _, rfl, rfl, by simp, .inl rfl⟩
theorem IsLog.slice {w : World} {v : Value} {l : List (Int × Int)} (h : IsLog w v l) : ∃ a n cap, v = .slice a n cap := by
  obtain ⟨a, n, cap, e, _⟩ := h
  exact ⟨a, n, cap, e⟩
theorem IsLog.len {w : World} {a : Option Addr} {n cap : Nat} {l : List (Int × Int)} (h : IsLog w (.slice a n cap) l) : n = l.length ∧ l.length ≤ 4294967296 := by
  obtain ⟨a', len, cap', e, h1, h2, _⟩ := h
  cases e
  exact ⟨h1, h2⟩
theorem IsLog.at {w : World} {a : Option Addr} {n cap : Nat} {l : List (Int × Int)} (h : IsLog w (.slice a n cap) l) (k : Nat) (hk : k < l.length) : ∃ b off, a = some ⟨b, off, none⟩ ∧ w.cell? ⟨b, off + k * 2, none⟩ = some (.int .i64 (l.getD k (0, 0)).1) ∧ w.cell? ⟨b, off + k * 2 + 1, none⟩ = some (.int .i64 (l.getD k (0, 0)).2) := by
  obtain ⟨a', len, cap', e, _, _, h⟩ := h
  cases e
  rcases h with rfl | ⟨b, off, rfl, hc⟩
  · simp at hk
  · exact ⟨b, off, rfl, hc k hk⟩
/-- A slice of the call's own that holds these entries. -/
def OwnSp (w : World) (base : Nat) (v : Value) (l : List (Int × Int)) : Prop := w.ownsRow base 37 2 v l.length (spC l)
theorem OwnSp.log {w : World} {base : Nat} {v : Value} {l : List (Int × Int)} (h : OwnSp w base v l) (hl : l.length ≤ 4294967296) : IsLog w v l := by
  obtain ⟨_, h | ⟨g, cap, cur, hv, _, hg, _, _, _, ht⟩⟩ := h
  · obtain ⟨rfl, h0⟩ := h
    have : l = [] := List.length_eq_zero_iff.1 h0
    subst this
    exact IsLog.nil _ _ _
  · refine ⟨_, _, _, hv, rfl, hl, .inr ⟨g, 0, rfl, fun k hk => ?_⟩⟩
    obtain ⟨e0, e1⟩ := spC_get l k hk
    rw [← ht] at e0 e1
    rw [List.getElem?_take] at e0 e1
    rw [if_pos (by omega)] at e0 e1
    rw [Nat.zero_add, cell_of_row w g (k * 2) cur _ (0, 0) hg, cell_of_row w g (k * 2 + 1) cur _ (0, 0) hg]
    exact ⟨by simpa using e0, by simpa using e1⟩
theorem OwnSp.nil (w : World) (base : Nat) : OwnSp w base (.slice none 0 0) [] := World.ownsRow_nil w base _ 2
theorem OwnSp.alloc {w : World} {base : Nat} {v : Value} {l : List (Int × Int)} (h : OwnSp w base v l) (o : Obj) : OwnSp (w.alloc o) base v l := World.ownsRow.alloc h o
theorem OwnSp.keep {w w' : World} {base : Nat} {v : Value} {l : List (Int × Int)} (h : OwnSp w base v l) (hb : Below w.heap.size w w') : OwnSp w' base v l := by
  obtain ⟨h1, h2 | ⟨g, cap, cur, hv, h3, hg, h4⟩⟩ := h
  · exact ⟨h1, .inl h2⟩
  · exact ⟨h1, .inr ⟨g, cap, cur, hv, h3, bkeep hb hg, h4⟩⟩
theorem info37 : (Try.prog.info? 37).map (fun i => (i.zero, i.size, i.bytes)) = some (some (.agg #[.int .i64 0, .int .i64 0]), 2, 16) := by kernel_rfl
/-- append of one span to such a slice. -/
theorem append_sp {ops : Array Oper} {rest : List Oper} {o : Oper} {a : Act} {W : World} {Q : Exit → Act → World → Prop} (hgd : o.guard = none) (s x : Operand)
    (ho : o.op = .call { callee := .builtin .append, args := #[s, x], argTypes := #[26, 26] }) (base : Nat) (v : Value) (l : List (Int × Int)) (k p : Int) (ty : TypeId)
    (z : Nat) (hzz : W.heap.size = z) (hs : a.eval s = v) (hx : a.eval x = .slice (some ⟨z, 0, none⟩) 1 1) (hown : Hid (OwnSp W base v l)) (hl : l.length < 4294967296) (hbase : base ≤ W.heap.size)
    (h : ∀ v' w', Hid (OwnSp w' base v' (l ++ [(k, p)])) → Hid (Below base W w') → Hid ((W.alloc (.cells #[.int .i64 k, .int .i64 p] ty)).grownBy w' v.ownBlock) → wpList Try.prog ops Q rest (a.put o.dst v') w') : wpList Try.prog ops Q (o :: rest) a (W.alloc (.cells #[.int .i64 k, .int .i64 p] ty)) := by
  subst hzz
  obtain ⟨i, hi, hz, hs1, hby⟩ := info_parts info37
  refine wpList_append_own (W.alloc (.cells #[.int .i64 k, .int .i64 p] ty)) hgd s x 26 ho base 37 i (.agg #[.int .i64 0, .int .i64 0]) 2 16 Try.underlying26 hi hz hs1 hby rfl (by decide) v l.length (spC l) hs (World.ownsRow.alloc hown.out _)
    ⟨W.heap.size, 0, none⟩ 1 1 [.int .i64 k, .int .i64 p] hx rfl ?_ ?_ ?_ ?_ ?_ ?_
  · intro j u hj
    have hj2 := (List.getElem?_eq_some_iff.1 hj).1
    have : j = 0 ∨ j = 1 := by simp at hj2; omega
    rcases this with rfl | rfl
    · simp at hj; subst hj
      exact setRow_cell (t := ty) (h1_0 W _) rfl
    · simp at hj; subst hj
      exact setRow_cell (t := ty) (h1_0 W _) rfl
  · intro u hu; simp at hu; rcases hu with rfl | rfl <;> rfl
  · simp only [maxLen]; omega
  · omega
  · simp only [World.size_alloc] <;> omega
  · intro v' w' h1 h2 _
    refine h v' w' ?_ ?_ h2
    · show w'.ownsRow _ _ _ _ _ _
      simpa [spC] using h1
    · exact Below.grown (Below.alloc (Below.refl _ _) hbase _) h2 (by simp only [World.size_alloc] <;> omega) (fun k hk => (World.ownsRow.lt hown.out k hk).1)

theorem isLogL {W : World} {g : Nat} {t : TypeId} (l : List (Int × Int)) (hl : l.length ≤ 4294967296) (h : W.heap[g]? = some (.cells (spC l).toArray t (0, 0))) : IsLog W (.slice (some ⟨g, 0, none⟩) l.length l.length) l :=
  ⟨_, _, _, rfl, rfl, hl, .inr ⟨g, 0, rfl, fun k hk => ⟨by rw [Nat.zero_add]; exact setRow_cell h (by simpa using (spC_get l k hk).1), by rw [Nat.zero_add]; exact setRow_cell h (by simpa using (spC_get l k hk).2)⟩⟩⟩
end Go.Proofs.Ytgdcgmnfgbdiiaa
