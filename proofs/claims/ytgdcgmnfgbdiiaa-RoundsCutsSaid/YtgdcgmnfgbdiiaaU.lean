/- Helper facts for the statements of this seat; no statement itself. -/
import Derived.Test.YtgdcgmnfgbdiiaaI
import Derived.Test.YtgdcgmnfgbdiiaaK
import Derived.Outline
namespace Go.Proofs.Ytgdcgmnfgbdiiaa
open Go.RowKit
set_option linter.unusedSimpArgs false
set_option linter.unusedVariables false
set_option linter.unnecessarySimpa false

/-- The cells of commands (kind, process). -/
def cm1 (e : Int × Int) : List Value := [.int .i64 e.1, .int .i64 e.2, .int .i64 0, .int .i64 0, .int .u64 0]
def cmC (l : List (Int × Int)) : List Value := l.flatMap cm1
theorem cmC_get (l : List (Int × Int)) : ∀ (k j : Nat), k < l.length → j < 5 → (cmC l)[k * 5 + j]? = (cm1 (l.getD k (0, 0)))[j]? := by
  induction l with
  | nil => intro k j hk; simp at hk
  | cons a l ih =>
    intro k j hk hj
    cases k with
    | zero =>
      rw [Nat.zero_mul, Nat.zero_add]
      simp only [cmC, List.flatMap_cons, List.getD_cons_zero]
      exact List.getElem?_append_left (by simpa [cm1] using hj)
    | succ k =>
      have := ih k j (by simpa using hk) hj
      rw [show (k + 1) * 5 + j = (cm1 a).length + (k * 5 + j) by simp [cm1]; omega]
      simp only [cmC, List.flatMap_cons, List.getD_cons_succ]
      rw [List.getElem?_append_right (by omega), Nat.add_sub_cancel_left]
      exact this
/-- A slice that holds these commands. -/
def IsCm (w : World) (v : Value) (l : List (Int × Int)) : Prop :=
  ∃ a n cap, v = .slice a n cap ∧ n = l.length ∧ l.length ≤ 4294967296 ∧ (l = [] ∨ ∃ b off, a = some ⟨b, off, none⟩ ∧ ∀ k j, k < l.length → j < 5 → w.cell? ⟨b, off + (k * 5 + j), none⟩ = (cm1 (l.getD k (0, 0)))[j]?)
theorem IsCm.keep {w w' : World} {v : Value} {l : List (Int × Int)} (h : IsCm w v l) (hb : Below w.heap.size w w') : IsCm w' v l := by
  obtain ⟨a, n, cap, h1, h2, h3, h4 | ⟨b, off, h4, h5⟩⟩ := h
  · exact ⟨a, n, cap, h1, h2, h3, .inl h4⟩
  · refine ⟨a, n, cap, h1, h2, h3, .inr ⟨b, off, h4, fun k j hk hj => ?_⟩⟩
    have h6 := h5 k j hk hj
    have h7 : ∃ u, (cm1 (l.getD k (0, 0)))[j]? = some u := ⟨_, List.getElem?_eq_getElem (by simpa [cm1] using hj)⟩
    obtain ⟨u, hu⟩ := h7
    rw [hu] at h6 ⊢
    exact cellB hb h6
theorem IsCm.slice {w : World} {v : Value} {l : List (Int × Int)} (h : IsCm w v l) : ∃ a n cap, v = .slice a n cap := by
  obtain ⟨a, n, cap, e, _⟩ := h
  exact ⟨a, n, cap, e⟩
theorem IsCm.nil (w : World) (a : Option Addr) (cap : Nat) : IsCm w (.slice a 0 cap) [] := ⟨_, _, _, rfl, rfl, by simp, .inl rfl⟩
theorem IsCm.len {w : World} {a : Option Addr} {n cap : Nat} {l : List (Int × Int)} (h : IsCm w (.slice a n cap) l) : n = l.length ∧ l.length ≤ 4294967296 := by
  obtain ⟨a', len, cap', e, h1, h2, _⟩ := h
  cases e
  exact ⟨h1, h2⟩
theorem IsCm.at {w : World} {a : Option Addr} {n cap : Nat} {l : List (Int × Int)} (h : IsCm w (.slice a n cap) l) (k : Nat) (hk : k < l.length) : ∃ b off, a = some ⟨b, off, none⟩ ∧ w.cell? ⟨b, off + k * 5, none⟩ = some (.int .i64 (l.getD k (0, 0)).1) ∧ w.cell? ⟨b, off + k * 5 + 1, none⟩ = some (.int .i64 (l.getD k (0, 0)).2) ∧
    w.cell? ⟨b, off + k * 5 + 2, none⟩ = some (.int .i64 0) ∧ w.cell? ⟨b, off + k * 5 + 3, none⟩ = some (.int .i64 0) ∧ w.cell? ⟨b, off + k * 5 + 4, none⟩ = some (.int .u64 0) := by
  obtain ⟨a', len, cap', e, _, _, h⟩ := h
  cases e
  rcases h with rfl | ⟨b, off, rfl, hc⟩
  · simp at hk
  · exact ⟨b, off, rfl, hc k 0 hk (by decide), hc k 1 hk (by decide), hc k 2 hk (by decide), hc k 3 hk (by decide), hc k 4 hk (by decide)⟩
/-- A slice of the call's own that holds these commands. -/
def OwnCm (w : World) (base : Nat) (v : Value) (l : List (Int × Int)) : Prop := w.ownsRow base 52 5 v l.length (cmC l)
theorem OwnCm.cm {w : World} {base : Nat} {v : Value} {l : List (Int × Int)} (h : OwnCm w base v l) (hl : l.length ≤ 4294967296) : IsCm w v l := by
  obtain ⟨_, h | ⟨g, cap, cur, hv, _, hg, _, _, _, ht⟩⟩ := h
  · obtain ⟨rfl, h0⟩ := h
    have : l = [] := List.length_eq_zero_iff.1 h0
    subst this
    exact IsCm.nil _ _ _
  · refine ⟨_, _, _, hv, rfl, hl, .inr ⟨g, 0, rfl, fun k j hk hj => ?_⟩⟩
    have e0 := cmC_get l k j hk hj
    rw [← ht, List.getElem?_take, if_pos (by omega)] at e0
    rw [Nat.zero_add, cell_of_row w g (k * 5 + j) cur _ (0, 0) hg]
    simpa using e0
theorem OwnCm.nil (w : World) (base : Nat) : OwnCm w base (.slice none 0 0) [] := World.ownsRow_nil w base _ 5
theorem OwnCm.keep {w w' : World} {base : Nat} {v : Value} {l : List (Int × Int)} (h : OwnCm w base v l) (hb : Below w.heap.size w w') : OwnCm w' base v l := by
  obtain ⟨h1, h2 | ⟨g, cap, cur, hv, h3, hg, h4⟩⟩ := h
  · exact ⟨h1, .inl h2⟩
  · exact ⟨h1, .inr ⟨g, cap, cur, hv, h3, bkeep hb hg, h4⟩⟩
theorem info52 : (Try.prog.info? 52).map (fun i => (i.zero, i.size, i.bytes)) = some (some (.agg #[.int .i64 0, .int .i64 0, .int .i64 0, .int .i64 0, .int .u64 0]), 5, 40) := by kernel_rfl
/-- append of one command to such a slice. -/
theorem append_cm {ops : Array Oper} {rest : List Oper} {o : Oper} {a : Act} {W : World} {Q : Exit → Act → World → Prop} (hgd : o.guard = none) (s x : Operand)
    (ho : o.op = .call { callee := .builtin .append, args := #[s, x], argTypes := #[44, 44] }) (base : Nat) (v : Value) (l : List (Int × Int)) (k p : Int) (ty : TypeId)
    (z : Nat) (hzz : W.heap.size = z) (hs : a.eval s = v) (hx : a.eval x = .slice (some ⟨z, 0, none⟩) 1 1) (hown : Hid (OwnCm W base v l)) (hl : l.length < 4294967296) (hbase : base ≤ W.heap.size)
    (h : ∀ v' w', Hid (OwnCm w' base v' (l ++ [(k, p)])) → Hid (Below base W w') → wpList Try.prog ops Q rest (a.put o.dst v') w') : wpList Try.prog ops Q (o :: rest) a (W.alloc (.cells #[.int .i64 k, .int .i64 p, .int .i64 0, .int .i64 0, .int .u64 0] ty)) := by
  subst hzz
  obtain ⟨i, hi, hz, hs1, hby⟩ := info_parts info52
  refine wpList_append_own (W.alloc (.cells #[.int .i64 k, .int .i64 p, .int .i64 0, .int .i64 0, .int .u64 0] ty)) hgd s x 44 ho base 52 i (.agg #[.int .i64 0, .int .i64 0, .int .i64 0, .int .i64 0, .int .u64 0]) 5 40 Try.underlying44 hi hz hs1 hby rfl (by decide) v l.length (cmC l) hs (World.ownsRow.alloc hown.out _)
    ⟨W.heap.size, 0, none⟩ 1 1 (cm1 (k, p)) hx rfl ?_ ?_ ?_ ?_ ?_ ?_
  · intro j u hj
    have hj2 := (List.getElem?_eq_some_iff.1 hj).1
    have : j = 0 ∨ j = 1 ∨ j = 2 ∨ j = 3 ∨ j = 4 := by simp [cm1] at hj2; omega
    rcases this with rfl | rfl | rfl | rfl | rfl
    all_goals
      simp [cm1] at hj; subst hj
      exact setRow_cell (t := ty) (h1_0 W _) rfl
  · intro u hu; simp [cm1] at hu; rcases hu with rfl | rfl | rfl | rfl <;> rfl
  · simp only [maxLen]; omega
  · omega
  · simp only [World.size_alloc] <;> omega
  · intro v' w' h1 h2 _
    refine h v' w' ?_ ?_
    · show w'.ownsRow _ _ _ _ _ _
      simpa [cmC] using h1
    · exact Below.grown (Below.alloc (Below.refl _ _) hbase _) h2 (by simp only [World.size_alloc] <;> omega) (fun k hk => (World.ownsRow.lt hown.out k hk).1)
end Go.Proofs.Ytgdcgmnfgbdiiaa
