/- Helper facts for the statements of this seat; no statement itself. -/
import Derived.Test.YtgdcgmnfgbdiiaaAP
import Derived.Deep.RegionLaw
import Derived.Outline
namespace Go.Proofs.Ytgdcgmnfgbdiiaa
open Go.RowKit
set_option linter.unusedSimpArgs false
set_option linter.unusedVariables false
set_option linter.unnecessarySimpa false

section
variable {ops : Array Oper} {o : Oper} {a : Act} {W : World} {K : Act → World → Prop} {Q : Exit → Act → World → Prop} {E : Prop}
theorem wp_append_noneC {P : Program} (s x : Operand) (t : TypeId)
    (ho : o.op = .call { callee := .builtin .append, args := #[s, x], argTypes := #[t, t] })
    (base : Nat) (e : TypeId) (i : TypeInfo) (size c : Nat) (ht : P.underlying t = some (.slice e)) (hi : P.info? e = some i)
    (v : Value) (n : Nat) (xs : List Value) (hs : a.eval s = v) (hown : W.ownsRow base e size v n xs) (hx : a.eval x = .slice none 0 c)
    (h : K (a.put o.dst v) W) : o.wp P a W K Q := by
  have hrun := run_append_noneC (P := P) (w := W) base t o.type e i size c ht hi v n xs hown
  unfold Oper.wp
  simp [execOp, ho, resolve, invoke, builtin, hs, hx, hrun, Result.andThen]
  exact h
/-- append of a whole log, as one step of a region that draws. -/
theorem step_append_log (hgd : o.guard = none) (s x : Operand) (ho : o.op = .call { callee := .builtin .append, args := #[s, x], argTypes := #[26, 26] }) (base : Nat) (v vx : Value) (l l2 : List En)
    (hs : a.eval s = v) (hx : a.eval x = vx) (hown : Hid (OwnSp W base v l)) (hix : Hid (IsLog W vx l2)) (hl : l.length + l2.length < 4294967296) (hbase : base ≤ W.heap.size)
    (h : ∀ v' w', Hid (OwnSp w' base v' (l ++ l2)) → Hid (Below base W w') → Hid (W.grownBy w' v.ownBlock) → K (a.put o.dst v') w') : if Region.wanted o (yielded ops a.tmps) = true then Oper.wp Try.prog o a W K Q else E := by
  have hw : Region.wanted o (yielded ops a.tmps) = true := by simp [Region.wanted, hgd]
  rw [if_pos hw]
  obtain ⟨i, hi, hz, hs1, hby⟩ := info_parts info37
  obtain ⟨ad, n, cap, rfl, rfl, _, hc⟩ := hix
  have hnil : l2 = [] → K (a.put o.dst v) W := fun e => by
    subst e
    exact h v W (by rw [List.append_nil]; exact hown) (Below.refl _ _) ⟨rfl, rfl, rfl, Nat.le_refl _, fun _ _ _ => rfl⟩
  cases ad with
  | none =>
    have hl : l2 = [] := by
      rcases hc with h | ⟨b0, off, h1, h2⟩
      · exact h
      · cases h1
    have := hnil hl
    subst hl
    exact wp_append_noneC s x 26 ho base 37 i 2 cap Try.underlying26 hi v _ _ hs hown.out hx this
  | some ad =>
    refine wp_append_own W s x 26 ho base 37 i (.agg #[.int .i64 0, .int .i64 0]) 2 16 Try.underlying26 hi hz hs1 hby rfl (by decide) v l.length _ hs hown.out ad l2.length cap (spC l2) hx (spC_length _) ?_ ?_ ?_ ?_ hbase ?_
    · rcases hc with h | ⟨b0, off, h1, h2⟩
      · subst h; intro j u hj; simp [spC] at hj
      · cases h1; exact log_news h2
    · intro u hu
      simp only [spC, List.mem_flatMap] at hu
      obtain ⟨y, _, hy⟩ := hu
      simp at hy
      rcases hy with rfl | rfl <;> rfl
    · simp only [maxLen]; omega
    · omega
    · intro v' w' h1 h2 _
      refine h v' w' ?_ ?_ h2
      · show w'.ownsRow _ _ _ _ _ _
        simpa [spC] using h1
      · exact Below.grown (Below.refl _ _) h2 hbase (fun k hk => (World.ownsRow.lt hown.out k hk).1)
/-- append of a whole slice of integers, as one step of a region that draws. -/
theorem step_append_isI (hgd : o.guard = none) (s x : Operand) (ho : o.op = .call { callee := .builtin .append, args := #[s, x], argTypes := #[22, 22] }) (base : Nat) (v vx : Value) (l l2 : List Int)
    (hs : a.eval s = v) (hx : a.eval x = vx) (hown : Hid (Own W base v l)) (hix : Hid (IsInts W vx l2)) (hl : l.length + l2.length < 4294967296) (hbase : base ≤ W.heap.size)
    (h : ∀ v' w', Hid (Own w' base v' (l ++ l2)) → Hid (Below base W w') → Hid (W.grownBy w' v.ownBlock) → K (a.put o.dst v') w') : if Region.wanted o (yielded ops a.tmps) = true then Oper.wp Try.prog o a W K Q else E := by
  have hw : Region.wanted o (yielded ops a.tmps) = true := by simp [Region.wanted, hgd]
  rw [if_pos hw]
  obtain ⟨i, hi, hz, hs1, hby⟩ := info_parts infoInt
  obtain ⟨ad, n, cap, rfl, rfl, _, hc⟩ := hix
  have hnil : l2 = [] → K (a.put o.dst v) W := fun e => by
    subst e
    exact h v W (by rw [List.append_nil]; exact hown) (Below.refl _ _) ⟨rfl, rfl, rfl, Nat.le_refl _, fun _ _ _ => rfl⟩
  cases ad with
  | none =>
    have hl : l2 = [] := by
      rcases hc with h | ⟨b0, off, h1, h2⟩
      · exact h
      · cases h1
    have := hnil hl
    subst hl
    exact wp_append_noneC s x 22 ho base 3 i 1 cap Try.underlying22 hi v _ _ hs hown.out hx this
  | some ad =>
    refine wp_append_own W s x 22 ho base 3 i (.int .i64 0) 1 8 Try.underlying22 hi hz hs1 hby rfl (by decide) v l.length _ hs hown.out ad l2.length cap (l2.map (Value.int .i64)) hx (by simp) ?_ ?_ ?_ ?_ hbase ?_
    · rcases hc with h | ⟨b0, off, h1, h2⟩
      · subst h; intro j u hj; simp at hj
      · cases h1; exact ints_news h2
    · intro u hu
      obtain ⟨y, _, rfl⟩ := List.mem_map.1 hu
      rfl
    · simp only [maxLen]; omega
    · omega
    · intro v' w' h1 h2 _
      refine h v' w' ?_ ?_ h2
      · show w'.ownsRow _ _ _ _ _ _; simpa using h1
      · exact Below.grown (Below.refl _ _) h2 hbase (fun k hk => (World.ownsRow.lt hown.out k hk).1)
end
end Go.Proofs.Ytgdcgmnfgbdiiaa
