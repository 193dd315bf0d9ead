/- Helper facts for the statements of this seat; no statement itself. -/
import Derived.Test.YtlmdfanhimhlcaaRB
import Derived.Outline
namespace Go.Proofs.Ytlmdfanhimhlcaa
open Go.RowKit
set_option linter.unusedSimpArgs false
set_option linter.unusedVariables false
set_option linter.unnecessarySimpa false

def OwnI (l : List Int) (w : World) (e : Ending) (w' : World) : Prop := ∃ v', e = .returned v' ∧ IsInts w' v' l ∧ Below w.heap.size w w'
theorem append_ints {ops : Array Oper} {rest : List Oper} {o : Oper} {a : Act} {W : World} {Q : Exit → Act → World → Prop} (hgd : o.guard = none) (s x : Operand)
    (ho : o.op = .call { callee := .builtin .append, args := #[s, x], argTypes := #[36, 36] }) (l : List Int) (ad : Addr) (cap : Nat) (ty : TypeId) (hty : ty = 3)
    (hs : a.eval s = .slice (some ⟨W.heap.size, 0, none⟩) 0 0) (hx : a.eval x = .slice (some ad) l.length cap) (hl : l.length < 4294967296)
    (hc : Hid (∀ j, j < l.length → W.cell? (ad.add j) = some (.int .i64 (l.getD j 0))))
    (h : ∀ v' w', Hid (IsInts w' v' l) → Hid (Below W.heap.size W w') → wpList Try.prog ops Q rest (a.put o.dst v') w') : wpList Try.prog ops Q (o :: rest) a (W.alloc (.cells #[] ty)) := by
  subst hty
  obtain ⟨i, hi, hz, hs1, hby⟩ := info_parts infoInt
  refine wpList_append_own (W.alloc (.cells #[] 3)) hgd s x 36 ho W.heap.size 3 i (.int .i64 0) 1 8 Try.underlying36 hi hz hs1 hby rfl (by decide) _ 0 [] hs ⟨rfl, .inr ⟨_, _, #[], rfl, Nat.le_refl _, h1_0 W _, Nat.le_refl _, by simp [maxLen], rfl, rfl⟩⟩
    ad l.length cap (l.map (Value.int .i64)) hx (by simp) ?_ ?_ ?_ ?_ ?_ ?_
  · intro j u hj
    have hj2 := (List.getElem?_eq_some_iff.1 hj).1
    rw [List.length_map] at hj2
    have : u = .int .i64 (l.getD j 0) := by
      rw [List.getElem?_map] at hj
      simp [List.getD, hj2] at hj ⊢
      exact hj.symm
    subst this
    exact cellA (hc.out j hj2) _
  · intro u hu
    obtain ⟨y, _, rfl⟩ := List.mem_map.1 hu
    rfl
  · simp only [maxLen]; omega
  · omega
  · simp only [World.size_alloc] <;> omega
  · intro v' w' h1 h2 _
    refine h v' w' ?_ ?_
    · have h3 : Own w' W.heap.size v' l := by show w'.ownsRow _ _ _ _ _ _; simpa using h1
      exact h3.ints (by omega)
    · exact Below.grown (Below.alloc (Below.refl _ _) (Nat.le_refl _) _) h2 (by simp only [World.size_alloc] <;> omega) (fun k hk => by simp [Value.ownBlock] at hk; omega)

set_option maxHeartbeats 1000000 in
theorem ownInts_any (v : Value) (l : List Int) (w : World) (hi : IsInts w v l) (h4 : l.length < 4294967296) : Calls Try.prog 25 #[v] w (OwnI l w) := by
  obtain ⟨ad, n, cap, rfl, rfl, _, hc⟩ := hi
  cases ad with
  | some ad =>
    have HC : Hid (∀ j, j < l.length → w.cell? (ad.add j) = some (.int .i64 (l.getD j 0))) := by
      intro j hj
      rcases hc with h | ⟨b0, off, h1, h2⟩
      · exact absurd hj (by rw [h]; simp)
      · cases h1
        have := h2 j hj
        by_cases hj0 : j = 0
        · subst hj0; simpa [Addr.add] using this
        · simpa [Addr.add, hj0] using this
    clear hc
    go_enter Try.func25, Try.ntmps25
    go_wp2_with (((with_reducible refine append_ints ?b1 (.tmp 3) (.tmp 4) ?b2 l ad cap 3 ?b3 ?b4 ?b5 ?b6 HC ?_); (case b1 => rfl); (case b2 => rfl); (case b3 => rfl); (case b4 => rfl); (case b5 => rfl); (case b6 => omega)); intro v' w4 ho4 hb4)
    go_ret
    exact ⟨_, rfl, ho4.out, hb4.out⟩
  | none =>
    have hl : l = [] := by
      rcases hc with h | ⟨b0, off, h1, h2⟩
      · exact h
      · cases h1
    subst hl
    clear hc h4
    go_enter Try.func25, Try.ntmps25
    go_wp2
    go_ret
    exact ⟨_, rfl, IsInts.nil _ _ _, ((Below.refl _ _).alloc (Nat.le_refl _) _)⟩
end Go.Proofs.Ytlmdfanhimhlcaa
