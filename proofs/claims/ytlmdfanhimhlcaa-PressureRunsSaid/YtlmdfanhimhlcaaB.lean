/- Helper facts for the statements of this seat; no statement itself. -/
import Derived.Test.YtlmdfanhimhlcaaA
import Derived.Laws.EntriesVeiled
import Derived.Outline
namespace Go.Proofs.Ytlmdfanhimhlcaa
open Go.RowKit
set_option linter.unusedSimpArgs false
set_option linter.unusedVariables false
set_option linter.unnecessarySimpa false

theorem rnext_any (a b c : Int) (aw : Bool) (n : Int) (w : World) :
    Calls Try.prog 40 #[MV a b c, .bool aw, .int .i64 n] w fun e w' => e = .returned (.bool (nxt b c aw n)) ∧ Below w.heap.size w w' := by
  unfold nxt
  by_cases h1 : n < b
  · rw [if_pos h1]
    have d1 : decide (n < b) = true := by simpa using h1
    go_enter Try.func40, Try.ntmps40
    go_wp2
    go_ret
    exact ⟨rfl, ((Below.refl _ _).alloc (Nat.le_refl _) _)⟩
  rw [if_neg h1]
  have d1 : decide (n < b) = false := by simpa using h1
  cases aw
  · rw [show (if c ≤ n then false else false) = false from by split <;> rfl]
    go_enter Try.func40, Try.ntmps40
    go_wp2
    go_ret
    exact ⟨rfl, ((Below.refl _ _).alloc (Nat.le_refl _) _)⟩
  · by_cases h2 : c ≤ n
    · rw [if_pos h2]
      have d2 : decide (n < c) = false := by simp; omega
      go_enter Try.func40, Try.ntmps40
      go_wp2
      go_ret
      exact ⟨rfl, ((Below.refl _ _).alloc (Nat.le_refl _) _)⟩
    · rw [if_neg h2]
      have d2 : decide (n < c) = true := by simp; omega
      go_enter Try.func40, Try.ntmps40
      go_wp2
      go_ret
      exact ⟨rfl, ((Below.refl _ _).alloc (Nat.le_refl _) _)⟩

section
variable {P : Program}
/-- An array's element, by an index within it. -/
theorem run_index_at (t e : TypeId) (n : Nat) (cs : Array Value) (k : Nat) (v : Value) (hu : P.underlying t = some (.array n e)) (he : (P.info? e).map (·.size) = some 1) (hag : ∀ w, (isAgg e).run P w = .ok false w) (hk : k < n) (hv : cs[k]? = some v) (w : World) :
    (Instr.index t (.agg cs) (.int .i64 (k : Int))).run P w = .ok v w := by
  cases hq : P.info? e with
  | none => simp [hq] at he
  | some i =>
    have hs : i.size = 1 := by simpa [hq] using he
    have hk2 : ¬ n ≤ k := by omega
    simp [Instr.index, Sem.run_bind, asIntOf, run_underlying hu w, hk2, sizeOf, typeInfo, hq, hs, part, hag, hv]
end
abbrev fV (f : Nat) (gn gm : Nat) : Value := .func (.func f) #[] #[.pointer (some ⟨gn, 0, none⟩), .pointer (some ⟨gm, 0, none⟩)]
theorem sizeF : (Try.prog.info? 31).map (·.size) = some 1 := by kernel_rfl
theorem aggF (w : World) : (isAgg 31).run Try.prog w = .ok false w := by kernel_rfl
theorem ix0 (f g h : Value) (w : World) : (Instr.index 65 (.agg #[f, g, h]) (.int .i64 0)).run Try.prog w = .ok f w := run_index_at 65 31 3 #[f, g, h] 0 f Try.underlying65 sizeF aggF (by omega) rfl w
theorem ix1 (f g h : Value) (w : World) : (Instr.index 65 (.agg #[f, g, h]) (.int .i64 1)).run Try.prog w = .ok g w := run_index_at 65 31 3 #[f, g, h] 1 g Try.underlying65 sizeF aggF (by omega) rfl w
theorem ix2 (f g h : Value) (w : World) : (Instr.index 65 (.agg #[f, g, h]) (.int .i64 2)).run Try.prog w = .ok h w := run_index_at 65 31 3 #[f, g, h] 2 h Try.underlying65 sizeF aggF (by omega) rfl w

set_option maxHeartbeats 400000 in
theorem c43 (a b c n : Int) (gn gm : Nat) (w : World) (hn : w.heap[gn]? = some (.cells #[.int .i64 n] 3 (0, 0))) (hm : w.heap[gm]? = some (.cells (mC a b c) 23 (0, 0))) :
    Calls Try.prog 43 #[.pointer (some ⟨gn, 0, none⟩), .pointer (some ⟨gm, 0, none⟩)] w fun e w' => e = .returned (.bool (decide (c ≤ n))) ∧ w = w' := by
  have q := c1 hn
  obtain ⟨p0, p1, p2⟩ := c3 hm
  clear hn hm
  go_enter Try.func43, Try.ntmps43
  go_wp2
  go_ret
  exact ⟨rfl, rfl⟩

set_option maxHeartbeats 400000 in
theorem c44 (a b c n : Int) (gn gm : Nat) (w : World) (hn : w.heap[gn]? = some (.cells #[.int .i64 n] 3 (0, 0))) (hm : w.heap[gm]? = some (.cells (mC a b c) 23 (0, 0))) :
    Calls Try.prog 44 #[.pointer (some ⟨gn, 0, none⟩), .pointer (some ⟨gm, 0, none⟩)] w fun e w' => e = .returned (.bool (decide (b ≤ n))) ∧ w = w' := by
  have q := c1 hn
  obtain ⟨p0, p1, p2⟩ := c3 hm
  clear hn hm
  go_enter Try.func44, Try.ntmps44
  go_wp2
  go_ret
  exact ⟨rfl, rfl⟩

set_option maxHeartbeats 400000 in
theorem c45 (a b c n : Int) (gn gm : Nat) (w : World) (hn : w.heap[gn]? = some (.cells #[.int .i64 n] 3 (0, 0))) (hm : w.heap[gm]? = some (.cells (mC a b c) 23 (0, 0))) :
    Calls Try.prog 45 #[.pointer (some ⟨gn, 0, none⟩), .pointer (some ⟨gm, 0, none⟩)] w fun e w' => e = .returned (.bool (decide (a < n))) ∧ w = w' := by
  have q := c1 hn
  obtain ⟨p0, p1, p2⟩ := c3 hm
  clear hn hm
  go_enter Try.func45, Try.ntmps45
  go_wp2
  go_ret
  exact ⟨rfl, rfl⟩

set_option maxHeartbeats 2000000 in
theorem lv0 (a b c n : Int) (w : World) (h : c ≤ n) :
    Calls Try.prog 36 #[MV a b c, .int .i64 n] w fun e w' => e = .returned (.int .i64 0) ∧ Below w.heap.size w w' := by
  have j0 := ix0 (fV 43 (w.heap.size + 1) w.heap.size) (fV 44 (w.heap.size + 1) w.heap.size) (fV 45 (w.heap.size + 1) w.heap.size)
  have j1 := ix1 (fV 43 (w.heap.size + 1) w.heap.size) (fV 44 (w.heap.size + 1) w.heap.size) (fV 45 (w.heap.size + 1) w.heap.size)
  have j2 := ix2 (fV 43 (w.heap.size + 1) w.heap.size) (fV 44 (w.heap.size + 1) w.heap.size) (fV 45 (w.heap.size + 1) w.heap.size)
  have d0 : decide (c ≤ n) = true := by simp; omega
  go_enter Try.func36, Try.ntmps36
  go_wp2_with fail
  refine wp_loop_rounds 1 ?_
  rw [rounds_succ]
  go_wp2_with (go_at_call 43; (with_reducible refine (c43 a b c n (w.heap.size + 1) w.heap.size _ ?h43 ?g43).mono ?_); (case h43 => exact h3_1 _ _ _ _); (case g43 => exact h3_0 _ _ _ _); rintro e w' ⟨rfl, rfl⟩)
  go_ret
  exact ⟨rfl, ((((Below.refl _ _).alloc (Nat.le_refl _) _).alloc (by simp only [World.size_alloc] <;> omega) _).alloc (by simp only [World.size_alloc] <;> omega) _)⟩

set_option maxHeartbeats 2000000 in
theorem lv1 (a b c n : Int) (w : World) (h : ¬ c ≤ n) (h1 : b ≤ n) :
    Calls Try.prog 36 #[MV a b c, .int .i64 n] w fun e w' => e = .returned (.int .i64 1) ∧ Below w.heap.size w w' := by
  have j0 := ix0 (fV 43 (w.heap.size + 1) w.heap.size) (fV 44 (w.heap.size + 1) w.heap.size) (fV 45 (w.heap.size + 1) w.heap.size)
  have j1 := ix1 (fV 43 (w.heap.size + 1) w.heap.size) (fV 44 (w.heap.size + 1) w.heap.size) (fV 45 (w.heap.size + 1) w.heap.size)
  have j2 := ix2 (fV 43 (w.heap.size + 1) w.heap.size) (fV 44 (w.heap.size + 1) w.heap.size) (fV 45 (w.heap.size + 1) w.heap.size)
  have d0 : decide (c ≤ n) = false := by simp; omega
  have d1 : decide (b ≤ n) = true := by simp; omega
  go_enter Try.func36, Try.ntmps36
  go_wp2_with fail
  refine wp_loop_rounds 2 ?_
  rw [rounds_succ]
  go_wp2_with (go_at_call 43; (with_reducible refine (c43 a b c n (w.heap.size + 1) w.heap.size _ ?h43 ?g43).mono ?_); (case h43 => exact h3_1 _ _ _ _); (case g43 => exact h3_0 _ _ _ _); rintro e w' ⟨rfl, rfl⟩)
  rw [rounds_succ]
  go_wp2_with (go_at_call 44; (with_reducible refine (c44 a b c n (w.heap.size + 1) w.heap.size _ ?h44 ?g44).mono ?_); (case h44 => exact h3_1 _ _ _ _); (case g44 => exact h3_0 _ _ _ _); rintro e w' ⟨rfl, rfl⟩)
  go_ret
  exact ⟨rfl, ((((Below.refl _ _).alloc (Nat.le_refl _) _).alloc (by simp only [World.size_alloc] <;> omega) _).alloc (by simp only [World.size_alloc] <;> omega) _)⟩

set_option maxHeartbeats 2000000 in
theorem lv2 (a b c n : Int) (w : World) (h : ¬ c ≤ n) (h1 : ¬ b ≤ n) (h2 : a < n) :
    Calls Try.prog 36 #[MV a b c, .int .i64 n] w fun e w' => e = .returned (.int .i64 2) ∧ Below w.heap.size w w' := by
  have j0 := ix0 (fV 43 (w.heap.size + 1) w.heap.size) (fV 44 (w.heap.size + 1) w.heap.size) (fV 45 (w.heap.size + 1) w.heap.size)
  have j1 := ix1 (fV 43 (w.heap.size + 1) w.heap.size) (fV 44 (w.heap.size + 1) w.heap.size) (fV 45 (w.heap.size + 1) w.heap.size)
  have j2 := ix2 (fV 43 (w.heap.size + 1) w.heap.size) (fV 44 (w.heap.size + 1) w.heap.size) (fV 45 (w.heap.size + 1) w.heap.size)
  have d0 : decide (c ≤ n) = false := by simp; omega
  have d1 : decide (b ≤ n) = false := by simp; omega
  have d2 : decide (a < n) = true := by simp; omega
  go_enter Try.func36, Try.ntmps36
  go_wp2_with fail
  refine wp_loop_rounds 3 ?_
  rw [rounds_succ]
  go_wp2_with (go_at_call 43; (with_reducible refine (c43 a b c n (w.heap.size + 1) w.heap.size _ ?h43 ?g43).mono ?_); (case h43 => exact h3_1 _ _ _ _); (case g43 => exact h3_0 _ _ _ _); rintro e w' ⟨rfl, rfl⟩)
  rw [rounds_succ]
  go_wp2_with (go_at_call 44; (with_reducible refine (c44 a b c n (w.heap.size + 1) w.heap.size _ ?h44 ?g44).mono ?_); (case h44 => exact h3_1 _ _ _ _); (case g44 => exact h3_0 _ _ _ _); rintro e w' ⟨rfl, rfl⟩)
  rw [rounds_succ]
  go_wp2_with (go_at_call 45; (with_reducible refine (c45 a b c n (w.heap.size + 1) w.heap.size _ ?h45 ?g45).mono ?_); (case h45 => exact h3_1 _ _ _ _); (case g45 => exact h3_0 _ _ _ _); rintro e w' ⟨rfl, rfl⟩)
  go_ret
  exact ⟨rfl, ((((Below.refl _ _).alloc (Nat.le_refl _) _).alloc (by simp only [World.size_alloc] <;> omega) _).alloc (by simp only [World.size_alloc] <;> omega) _)⟩

set_option maxHeartbeats 2000000 in
theorem lv3 (a b c n : Int) (w : World) (h : ¬ c ≤ n) (h1 : ¬ b ≤ n) (h2 : ¬ a < n) :
    Calls Try.prog 36 #[MV a b c, .int .i64 n] w fun e w' => e = .returned (.int .i64 3) ∧ Below w.heap.size w w' := by
  have j0 := ix0 (fV 43 (w.heap.size + 1) w.heap.size) (fV 44 (w.heap.size + 1) w.heap.size) (fV 45 (w.heap.size + 1) w.heap.size)
  have j1 := ix1 (fV 43 (w.heap.size + 1) w.heap.size) (fV 44 (w.heap.size + 1) w.heap.size) (fV 45 (w.heap.size + 1) w.heap.size)
  have j2 := ix2 (fV 43 (w.heap.size + 1) w.heap.size) (fV 44 (w.heap.size + 1) w.heap.size) (fV 45 (w.heap.size + 1) w.heap.size)
  have d0 : decide (c ≤ n) = false := by simp; omega
  have d1 : decide (b ≤ n) = false := by simp; omega
  have d2 : decide (a < n) = false := by simp; omega
  go_enter Try.func36, Try.ntmps36
  go_wp2_with fail
  refine wp_loop_rounds 4 ?_
  rw [rounds_succ]
  go_wp2_with (go_at_call 43; (with_reducible refine (c43 a b c n (w.heap.size + 1) w.heap.size _ ?h43 ?g43).mono ?_); (case h43 => exact h3_1 _ _ _ _); (case g43 => exact h3_0 _ _ _ _); rintro e w' ⟨rfl, rfl⟩)
  rw [rounds_succ]
  go_wp2_with (go_at_call 44; (with_reducible refine (c44 a b c n (w.heap.size + 1) w.heap.size _ ?h44 ?g44).mono ?_); (case h44 => exact h3_1 _ _ _ _); (case g44 => exact h3_0 _ _ _ _); rintro e w' ⟨rfl, rfl⟩)
  rw [rounds_succ]
  go_wp2_with (go_at_call 45; (with_reducible refine (c45 a b c n (w.heap.size + 1) w.heap.size _ ?h45 ?g45).mono ?_); (case h45 => exact h3_1 _ _ _ _); (case g45 => exact h3_0 _ _ _ _); rintro e w' ⟨rfl, rfl⟩)
  rw [rounds_succ]
  go_wp2_with fail
  go_ret
  exact ⟨rfl, ((((Below.refl _ _).alloc (Nat.le_refl _) _).alloc (by simp only [World.size_alloc] <;> omega) _).alloc (by simp only [World.size_alloc] <;> omega) _)⟩

theorem levelOf_any (a b c n : Int) (w : World) :
    Calls Try.prog 36 #[MV a b c, .int .i64 n] w fun e w' => e = .returned (.int .i64 (lvl a b c n)) ∧ Below w.heap.size w w' := by
  unfold lvl
  by_cases h : c ≤ n
  · rw [if_pos h]; exact lv0 a b c n w h
  rw [if_neg h]
  by_cases h1 : b ≤ n
  · rw [if_pos h1]; exact lv1 a b c n w h h1
  rw [if_neg h1]
  by_cases h2 : a < n
  · rw [if_pos h2]; exact lv2 a b c n w h h1 h2
  · rw [if_neg h2]; exact lv3 a b c n w h h1 h2
end Go.Proofs.Ytlmdfanhimhlcaa
