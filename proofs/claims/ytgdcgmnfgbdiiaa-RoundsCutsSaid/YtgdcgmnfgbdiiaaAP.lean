/- Helper facts for the statements of this seat; no statement itself. -/
import Derived.Test.YtgdcgmnfgbdiiaaK
import Derived.Test.YtgdcgmnfgbdiiaaF
import Derived.Laws.OwnMore
import Derived.Outline
namespace Go.Proofs.Ytgdcgmnfgbdiiaa
open Go.RowKit
set_option linter.unusedSimpArgs false
set_option linter.unusedVariables false
set_option linter.unnecessarySimpa false

section
variable {P : Program} {w : World} {ops : Array Oper} {rest : List Oper} {o : Oper} {a : Act} {Q : Exit → Act → World → Prop}
theorem run_append_noneC (base : Nat) (t ty e : TypeId) (i : TypeInfo) (size c : Nat) (ht : P.underlying t = some (.slice e)) (hi : P.info? e = some i)
    (v : Value) (n : Nat) (xs : List Value) (hown : w.ownsRow base e size v n xs) :
    (Builtin.append_ #[t, t] ty #[v, .slice none 0 c]).run P w = .ok v w := by
  rcases hown.2 with ⟨rfl, rfl⟩ | ⟨g, cap, cur, rfl, _, _, hnc, _⟩
  · simp [Builtin.append_, run_underlying ht, sizeOf, typeInfo, hi, Builtin.lenOf, Builtin.firstCells]
  · simp [Builtin.append_, run_underlying ht, sizeOf, typeInfo, hi, Builtin.lenOf, Builtin.firstCells, hnc, storeCells]
theorem append_noneC (hgd : o.guard = none) (s x : Operand) (t : TypeId)
    (ho : o.op = .call { callee := .builtin .append, args := #[s, x], argTypes := #[t, t] })
    (base : Nat) (e : TypeId) (i : TypeInfo) (size c : Nat) (ht : P.underlying t = some (.slice e)) (hi : P.info? e = some i)
    (v : Value) (n : Nat) (xs : List Value) (hs : a.eval s = v) (hown : w.ownsRow base e size v n xs) (hx : a.eval x = .slice none 0 c)
    (h : wpList P ops Q rest (a.put o.dst v) w) : wpList P ops Q (o :: rest) a w := by
  refine wpList_plain hgd fun K hK => ?_
  have hrun := run_append_noneC (P := P) (w := w) base t o.type e i size c ht hi v n xs hown
  unfold Oper.wp
  simp [execOp, ho, resolve, invoke, builtin, hs, hx, hrun, Result.andThen]
  exact hK _ _ h
end
theorem addN (b off k : Nat) : (⟨b, off, none⟩ : Addr).add k = ⟨b, off + k, none⟩ := by
  unfold Addr.add
  by_cases h : k = 0
  · subst h; simp
  · simp [h]
/-- The cells of integers, one by one. -/
theorem ints_news {w : World} {b off : Nat} {l : List Int} (hc : ∀ k, k < l.length → w.cell? ⟨b, off + k, none⟩ = some (.int .i64 (l.getD k 0))) : ∀ j u, (l.map (Value.int .i64))[j]? = some u → w.cell? ((⟨b, off, none⟩ : Addr).add j) = some u := by
  intro j u hj
  have hj2 := (List.getElem?_eq_some_iff.1 hj).1
  rw [List.length_map] at hj2
  rw [addN, hc j hj2]
  rw [List.getElem?_map] at hj
  simp [List.getD, hj2] at hj ⊢
  exact hj
theorem log_news {w : World} {b off : Nat} {l : List En} (hc : ∀ k, k < l.length → w.cell? ⟨b, off + k * 2, none⟩ = some (.int .i64 (l.getD k (0, 0)).1) ∧ w.cell? ⟨b, off + k * 2 + 1, none⟩ = some (.int .i64 (l.getD k (0, 0)).2)) : ∀ j u, (spC l)[j]? = some u → w.cell? ((⟨b, off, none⟩ : Addr).add j) = some u := by
  intro j u hj
  have hj2 := (List.getElem?_eq_some_iff.1 hj).1
  rw [spC_length] at hj2
  rw [addN]
  have hk : j / 2 < l.length := by omega
  obtain ⟨h1, h2⟩ := hc (j / 2) hk
  obtain ⟨g1, g2⟩ := spC_get l (j / 2) hk
  rcases Nat.mod_two_eq_zero_or_one j with h0 | h0
  · have e : j = j / 2 * 2 := by omega
    rw [← e] at g1 h1
    rw [g1] at hj
    rw [h1]; exact hj
  · have e : j = j / 2 * 2 + 1 := by omega
    rw [← e] at g2
    rw [Nat.add_assoc, ← e] at h2
    rw [g2] at hj
    rw [h2]; exact hj
section
variable {ops : Array Oper} {rest : List Oper} {o : Oper} {a : Act} {W : World} {Q : Exit → Act → World → Prop}
/-- append of a whole slice of integers. -/
theorem append_isI (hgd : o.guard = none) (s x : Operand) (ho : o.op = .call { callee := .builtin .append, args := #[s, x], argTypes := #[22, 22] }) (base : Nat) (v vx : Value) (l l2 : List Int)
    (hs : a.eval s = v) (hx : a.eval x = vx) (hown : Hid (Own W base v l)) (hix : Hid (IsInts W vx l2)) (hl : l.length + l2.length < 4294967296) (hbase : base ≤ W.heap.size)
    (h : ∀ v' w', Hid (Own w' base v' (l ++ l2)) → Hid (Below base W w') → Hid (W.grownBy w' v.ownBlock) → wpList Try.prog ops Q rest (a.put o.dst v') w') : wpList Try.prog ops Q (o :: rest) a W := by
  obtain ⟨i, hi, hz, hs1, hby⟩ := info_parts infoInt
  obtain ⟨ad, n, cap, rfl, rfl, _, hc⟩ := hix
  have hnil : l2 = [] → wpList Try.prog ops Q rest (a.put o.dst v) W := fun e => by
    subst e
    exact h v W (by rw [List.append_nil]; exact hown) (Below.refl _ _) ⟨rfl, rfl, rfl, Nat.le_refl _, fun _ _ _ => rfl⟩
  cases ad with
  | none =>
    have hl : l2 = [] := by
      rcases hc with h | ⟨b0, off, h1, h2⟩
      · exact h
      · cases h1
    have := hnil hl
    subst hl
    exact append_noneC hgd s x 22 ho base 3 i 1 cap Try.underlying22 hi v _ _ hs hown.out hx this
  | some ad =>
    refine wpList_append_own W hgd s x 22 ho base 3 i (.int .i64 0) 1 8 Try.underlying22 hi hz hs1 hby rfl (by decide) v l.length _ hs hown.out ad l2.length cap (l2.map (Value.int .i64)) hx (by simp) ?_ ?_ ?_ ?_ hbase ?_
    · rcases hc with h | ⟨b0, off, h1, h2⟩
      · subst h; intro j u hj; simp at hj
      · cases h1; exact ints_news h2
    · intro u hu
      obtain ⟨y, _, rfl⟩ := List.mem_map.1 hu
      rfl
    · simp only [maxLen]; omega
    · omega
    · intro v' w' h1 h2 _
      refine h v' w' ?_ ?_ h2
      · show w'.ownsRow _ _ _ _ _ _; simpa using h1
      · exact Below.grown (Below.refl _ _) h2 hbase (fun k hk => (World.ownsRow.lt hown.out k hk).1)
/-- append of a whole log. -/
theorem append_log (hgd : o.guard = none) (s x : Operand) (ho : o.op = .call { callee := .builtin .append, args := #[s, x], argTypes := #[26, 26] }) (base : Nat) (v vx : Value) (l l2 : List En)
    (hs : a.eval s = v) (hx : a.eval x = vx) (hown : Hid (OwnSp W base v l)) (hix : Hid (IsLog W vx l2)) (hl : l.length + l2.length < 4294967296) (hbase : base ≤ W.heap.size)
    (h : ∀ v' w', Hid (OwnSp w' base v' (l ++ l2)) → Hid (Below base W w') → Hid (W.grownBy w' v.ownBlock) → wpList Try.prog ops Q rest (a.put o.dst v') w') : wpList Try.prog ops Q (o :: rest) a W := by
  obtain ⟨i, hi, hz, hs1, hby⟩ := info_parts info37
  obtain ⟨ad, n, cap, rfl, rfl, _, hc⟩ := hix
  have hnil : l2 = [] → wpList Try.prog ops Q rest (a.put o.dst v) W := fun e => by
    subst e
    exact h v W (by rw [List.append_nil]; exact hown) (Below.refl _ _) ⟨rfl, rfl, rfl, Nat.le_refl _, fun _ _ _ => rfl⟩
  cases ad with
  | none =>
    have hl : l2 = [] := by
      rcases hc with h | ⟨b0, off, h1, h2⟩
      · exact h
      · cases h1
    have := hnil hl
    subst hl
    exact append_noneC hgd s x 26 ho base 37 i 2 cap Try.underlying26 hi v _ _ hs hown.out hx this
  | some ad =>
    refine wpList_append_own W hgd s x 26 ho base 37 i (.agg #[.int .i64 0, .int .i64 0]) 2 16 Try.underlying26 hi hz hs1 hby rfl (by decide) v l.length _ hs hown.out ad l2.length cap (spC l2) hx (spC_length _) ?_ ?_ ?_ ?_ hbase ?_
    · rcases hc with h | ⟨b0, off, h1, h2⟩
      · subst h; intro j u hj; simp [spC] at hj
      · cases h1; exact log_news h2
    · intro u hu
      simp only [spC, List.mem_flatMap] at hu
      obtain ⟨y, _, hy⟩ := hu
      simp at hy
      rcases hy with rfl | rfl <;> rfl
    · simp only [maxLen]; omega
    · omega
    · intro v' w' h1 h2 _
      refine h v' w' ?_ ?_ h2
      · show w'.ownsRow _ _ _ _ _ _
        simpa [spC] using h1
      · exact Below.grown (Below.refl _ _) h2 hbase (fun k hk => (World.ownsRow.lt hown.out k hk).1)
end
/-- A slice that has just been written out is the call's own. -/
theorem Own.lit (w : World) (l : List Int) (base : Nat) (hb : base ≤ w.heap.size) (hm : l.length ≤ 4294967296) : Own (w.alloc (.cells (l.map (Value.int .i64)).toArray 3)) base (.slice (some ⟨w.heap.size, 0, none⟩) l.length l.length) l := by
  have := World.ownsRow_lit (e := 3) (size := 1) w (l.map (Value.int .i64)).toArray l.length hb (by simp only [maxLen]; omega) (by simp)
  exact this
theorem OwnSp.lit (w : World) (l : List En) (base : Nat) (hb : base ≤ w.heap.size) (hm : l.length ≤ 4294967296) : OwnSp (w.alloc (.cells (spC l).toArray 37)) base (.slice (some ⟨w.heap.size, 0, none⟩) l.length l.length) l := by
  have := World.ownsRow_lit (e := 37) (size := 2) w (spC l).toArray l.length hb (by simp only [maxLen]; omega) (by simp [spC_length])
  exact this
theorem OwnSp.mono {w : World} {b b' : Nat} {v : Value} {l : List (Int × Int)} (h : OwnSp w b v l) (hb : b' ≤ b) : OwnSp w b' v l := by
  obtain ⟨h1, h2 | ⟨g, cap, cur, hv, h3, h4⟩⟩ := h
  · exact ⟨h1, .inl h2⟩
  · exact ⟨h1, .inr ⟨g, cap, cur, hv, Nat.le_trans hb h3, h4⟩⟩
theorem Own.mono {w : World} {b b' : Nat} {v : Value} {l : List Int} (h : Own w b v l) (hb : b' ≤ b) : Own w b' v l := by
  obtain ⟨h1, h2 | ⟨g, cap, cur, hv, h3, h4⟩⟩ := h
  · exact ⟨h1, .inl h2⟩
  · exact ⟨h1, .inr ⟨g, cap, cur, hv, Nat.le_trans hb h3, h4⟩⟩
theorem OwnSp.cap {w : World} {b : Nat} {v : Value} {l : List En} (h : OwnSp w b v l) : ∀ a n c, v = .slice a n c → n ≤ c := by
  intro a n c e
  obtain ⟨h1, ⟨rfl, h2⟩ | ⟨g, cap, cur, hv, h3, h4, h5, h6⟩⟩ := h
  · cases e; exact Nat.le_refl _
  · rw [hv] at e; cases e; exact h5
end Go.Proofs.Ytgdcgmnfgbdiiaa
