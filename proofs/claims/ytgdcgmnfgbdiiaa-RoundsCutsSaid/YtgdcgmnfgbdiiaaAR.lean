/- Helper facts for the statements of this seat; no statement itself. -/
import Derived.Test.YtgdcgmnfgbdiiaaAQ
import Derived.Maps.AppendAt
import Derived.Outline
namespace Go.Proofs.Ytgdcgmnfgbdiiaa
open Go.RowKit
set_option linter.unusedSimpArgs false
set_option linter.unusedVariables false
set_option linter.unnecessarySimpa false

section
variable {ops : Array Oper} {o : Oper} {a : Act} {W : World} {K : Act → World → Prop} {Q : Exit → Act → World → Prop} {E : Prop}
/-- append of a whole slice of integers, as one step of a region that draws, and where the new slice lies. -/
theorem step_append_isJ (hgd : o.guard = none) (s x : Operand) (ho : o.op = .call { callee := .builtin .append, args := #[s, x], argTypes := #[22, 22] }) (base : Nat) (v vx : Value) (l l2 : List Int)
    (hs : a.eval s = v) (hx : a.eval x = vx) (hown : Hid (Own W base v l)) (hix : Hid (IsInts W vx l2)) (hl : l.length + l2.length < 4294967296) (hbase : base ≤ W.heap.size)
    (h : ∀ v' w', Hid (Own w' base v' (l ++ l2)) → Hid (Below base W w') → Hid (W.grownBy w' v.ownBlock) → Hid (v'.ownBlock = v.ownBlock ∨ v'.ownBlock = some W.heap.size) → K (a.put o.dst v') w') : if Region.wanted o (yielded ops a.tmps) = true then Oper.wp Try.prog o a W K Q else E := by
  have hw : Region.wanted o (yielded ops a.tmps) = true := by simp [Region.wanted, hgd]
  rw [if_pos hw]
  obtain ⟨i, hi, hz, hs1, hby⟩ := info_parts infoInt
  obtain ⟨ad, n, cap, rfl, rfl, _, hc⟩ := hix
  have hnil : l2 = [] → K (a.put o.dst v) W := fun e => by
    subst e
    exact h v W (by rw [List.append_nil]; exact hown) (Below.refl _ _) ⟨rfl, rfl, rfl, Nat.le_refl _, fun _ _ _ => rfl⟩ (.inl rfl)
  cases ad with
  | none =>
    have hl : l2 = [] := by
      rcases hc with h | ⟨b0, off, h1, h2⟩
      · exact h
      · cases h1
    have := hnil hl
    subst hl
    exact wp_append_noneC s x 22 ho base 3 i 1 cap Try.underlying22 hi v _ _ hs hown.out hx this
  | some ad =>
    obtain ⟨v', w', hr, h2, h3, h4, h5⟩ := run_append_own_at (P := Try.prog) W base 22 o.type 3 i (.int .i64 0) 1 8 Try.underlying22 hi hz hs1 hby rfl (by decide) v l.length _ hown.out ad l2.length cap (l2.map (Value.int .i64)) (by simp)
      (by
        rcases hc with h | ⟨b0, off, h1, h2⟩
        · subst h; intro j u hj; simp at hj
        · cases h1; exact ints_news h2)
      (by
        intro u hu
        obtain ⟨y, _, rfl⟩ := List.mem_map.1 hu
        rfl)
      (by simp only [maxLen]; omega) (by omega) hbase
    unfold Oper.wp execOp
    simp only [ho, resolve, invoke, builtin, Sem.run_bind, Sem.run_pure, Result.andThen_ok, List.map_toArray, List.map_cons, List.map_nil, hs, hx, hr]
    exact h v' w' (by show w'.ownsRow _ _ _ _ _ _; simpa using h2) (Below.grown (Below.refl _ _) h3 hbase (fun k hk => (World.ownsRow.lt hown.out k hk).1)) h3 h5
end
theorem own_kept {W W' : World} {b : Nat} {v : Value} {l : List Int} {row : Option Nat} (h : Own W b v l) (hg : W.grownBy W' row) (hne : v.ownBlock ≠ row) : Own W' b v l := World.ownsRow.kept h hg (.inr hne)
theorem own_far {w : World} {b : Nat} {v : Value} {l : List Int} (h : Own w b v l) : v.ownBlock ≠ some w.heap.size := fun e => by
  have := (World.ownsRow.lt h _ e).2
  omega
theorem far1 {v : Value} {n : Nat} (h : v.ownBlock = some n ∨ v.ownBlock = some (n + 1 + 1)) : v.ownBlock ≠ some (n + 1) := fun e => by
  rcases h with h | h <;> rw [h] at e <;> simp at e
theorem far0 {v : Value} {n : Nat} (h : v.ownBlock = some (n + 1) ∨ v.ownBlock = some (n + 1 + 1)) : v.ownBlock ≠ some n := fun e => by
  rcases h with h | h
  · rw [h] at e; simp at e
  · rw [h] at e; simp only [Option.some.injEq] at e; omega
end Go.Proofs.Ytgdcgmnfgbdiiaa
