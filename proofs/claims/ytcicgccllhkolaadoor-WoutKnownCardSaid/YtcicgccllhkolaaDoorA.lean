/- Helper facts for the statements of this seat; no statement itself. -/
import Derived.Test.YtcicgccllhkolaaDoorComI
namespace Go.Proofs.YtcicgccllhkolaaDoor
open Go.RowKit
set_option linter.unusedSimpArgs false
set_option linter.unusedVariables false
set_option linter.unnecessarySimpa false

/-- The value of a page on its way, and of an event. -/
abbrev WV (s r c : Int) : Value := .agg #[.int .i64 s, .int .i64 r, .int .i64 c]
abbrev EV (k p : Int) : Value := .agg #[.int .i64 k, .int .i64 p]

/-- The least and the greatest Refs of a state. -/
def leastR (s : Int) : Int := if s = 1 ∨ s = 3 ∨ s = 4 then 1 else 0
def mostR (s : Int) : Int := if s = 6 then 0 else 512
/-- The first error of a page. -/
def chk (s r c : Int) : Int :=
  if s < 1 ∨ 6 < s then 9
  else if r < leastR s ∨ mostR s < r then 15
  else if s = 3 then (if c < 1 ∨ 8 < c then 2 else 0)
  else if c = 0 then 0 else 2

set_option maxHeartbeats 2000000 in
theorem check_any (s r c : Int) (w : World) :
    Calls Tryd.prog 28 #[WV s r c] w fun e w' => e = .returned (.int .i64 (chk s r c)) ∧ Below w.heap.size w w' := by
  go_enter Tryd.func28, Tryd.ntmps28
  go_wp2
  all_goals
    go_ret
    refine ⟨ret_int ?_, ((Below.refl _ _).alloc (Nat.le_refl _) _)⟩
    (try simp only [beq_iff_eq, beq_eq_false_iff_ne, bne_iff_ne, bne_eq_false_iff_eq, ne_eq] at *)
    unfold chk leastR mostR
    repeat' split
    all_goals first | rfl | omega

set_option maxHeartbeats 2000000 in
theorem rcheck_any (s r c : Int) (w : World) :
    Calls Tryd.prog 29 #[WV s r c] w fun e w' => e = .returned (.int .i64 (chk s r c)) ∧ Below w.heap.size w w' := by
  go_enter Tryd.func29, Tryd.ntmps29
  go_wp2
  all_goals
    go_ret
    refine ⟨ret_int ?_, ((Below.refl _ _).alloc (Nat.le_refl _) _)⟩
    (try simp only [beq_iff_eq, beq_eq_false_iff_ne, bne_iff_ne, bne_eq_false_iff_eq, ne_eq] at *)
    unfold chk leastR mostR
    repeat' split
    all_goals first | rfl | omega

end Go.Proofs.YtcicgccllhkolaaDoor
