/- Helper facts for the statements of this seat; no statement itself. -/
import Derived.Test.YtlmdfanhimhlcaaComH
import Derived.Outline
namespace Go.Proofs.Ytlmdfanhimhlcaa
open Go.RowKit
set_option linter.unusedSimpArgs false
set_option linter.unusedVariables false
set_option linter.unnecessarySimpa false

/-- The value of marks. -/
abbrev MV (a b c : Int) : Value := .agg #[.int .i64 a, .int .i64 b, .int .i64 c]
abbrev mC (a b c : Int) : Array Value := #[.int .i64 a, .int .i64 b, .int .i64 c]
/-- The first error of marks. -/
def chkM (a b c : Int) : Int := if a < 0 ∨ 256 < c then 2 else if b ≤ a ∨ c ≤ b then 8 else 0
/-- The level of a number of free frames. -/
def lvl (a b c n : Int) : Int := if c ≤ n then 0 else if b ≤ n then 1 else if a < n then 2 else 3
/-- Whether the reclaimer is awake then. -/
def nxt (b c : Int) (aw : Bool) (n : Int) : Bool := if n < b then true else if c ≤ n then false else aw

set_option maxHeartbeats 1000000 in
theorem check_any (a b c : Int) (w : World) :
    Calls Try.prog 11 #[MV a b c] w fun e w' => e = .returned (.int .i64 (chkM a b c)) ∧ Below w.heap.size w w' := by
  go_enter Try.func11, Try.ntmps11
  go_wp2
  all_goals
    go_ret
    refine ⟨ret_int ?_, ((Below.refl _ _).alloc (Nat.le_refl _) _)⟩
    (try simp only [beq_iff_eq, beq_eq_false_iff_ne, bne_iff_ne, bne_eq_false_iff_eq, ne_eq] at *)
    unfold chkM
    repeat' split
    all_goals first | rfl | omega

set_option maxHeartbeats 1000000 in
theorem rcheck_any (a b c : Int) (w : World) :
    Calls Try.prog 12 #[MV a b c] w fun e w' => e = .returned (.int .i64 (chkM a b c)) ∧ Below w.heap.size w w' := by
  go_enter Try.func12, Try.ntmps12
  go_wp2
  all_goals
    go_ret
    refine ⟨ret_int ?_, ((Below.refl _ _).alloc (Nat.le_refl _) _)⟩
    (try simp only [beq_iff_eq, beq_eq_false_iff_ne, bne_iff_ne, bne_eq_false_iff_eq, ne_eq] at *)
    unfold chkM
    repeat' split
    all_goals first | rfl | omega

theorem ret_bool {a b : Bool} (h : a = b) : Ending.returned (.bool a) = .returned (.bool b) := by rw [h]

set_option maxHeartbeats 1000000 in
theorem next_any (a b c : Int) (aw : Bool) (n : Int) (w : World) :
    Calls Try.prog 39 #[MV a b c, .bool aw, .int .i64 n] w fun e w' => e = .returned (.bool (nxt b c aw n)) ∧ Below w.heap.size w w' := by
  go_enter Try.func39, Try.ntmps39
  go_wp2
  all_goals
    go_ret
    refine ⟨ret_bool ?_, ((Below.refl _ _).alloc (Nat.le_refl _) _)⟩
    (try simp only [beq_iff_eq, beq_eq_false_iff_ne, bne_iff_ne, bne_eq_false_iff_eq, ne_eq] at *)
    unfold nxt
    repeat' split
    all_goals first | rfl | omega

set_option maxHeartbeats 1000000 in
theorem rlevel_any (a b c n : Int) (w : World) :
    Calls Try.prog 38 #[MV a b c, .int .i64 n] w fun e w' => e = .returned (.int .i64 (lvl a b c n)) ∧ Below w.heap.size w w' := by
  go_enter Try.func38, Try.ntmps38
  go_wp2
  all_goals
    go_ret
    refine ⟨ret_int ?_, ((Below.refl _ _).alloc (Nat.le_refl _) _)⟩
    (try simp only [beq_iff_eq, beq_eq_false_iff_ne, bne_iff_ne, bne_eq_false_iff_eq, ne_eq] at *)
    unfold lvl
    repeat' split
    all_goals first | rfl | omega
end Go.Proofs.Ytlmdfanhimhlcaa
