/- Helper facts for the statements of this seat; no statement itself. -/
import Derived.Test.YtcicgccllhkolaaDoorA
namespace Go.Proofs.YtcicgccllhkolaaDoor
open Go.RowKit
set_option linter.unusedSimpArgs false
set_option linter.unusedVariables false
set_option linter.unnecessarySimpa false

/-- The error of an event by itself. -/
def evk (k p : Int) : Int := if k < 1 ∨ 6 < k then 16 else if k = 4 then (if p < 1 ∨ 8 < p then 2 else 0) else if p = 0 then 0 else 3
/-- The error of an event of a kind in a valid page. -/
def psb (s r k : Int) : Int :=
  if k = 1 then (if s = 6 then 9 else if r < 1 ∨ 512 ≤ r then 15 else 0)
  else if k = 2 then (if s = 6 then 9 else if r < 1 ∨ (s = 3 ∧ r < 2) then 15 else 0)
  else if k = 3 then (if s = 1 then 0 else 9)
  else if k = 4 then (if s = 2 then (if r < 1 then 15 else 0) else 9)
  else if k = 5 then (if s = 3 then 0 else 9)
  else if k = 6 then (if s = 2 ∨ s = 3 then 0 else 9)
  else 0
/-- The page after an event. -/
def aS (s r k : Int) : Int :=
  if k = 1 then s
  else if k = 2 then (if r = 1 ∧ (s = 1 ∨ s = 4) then 6 else s)
  else if k = 3 then 2 else if k = 4 then 3 else if k = 5 then 2
  else if k = 6 then (if s = 3 then 5 else if r = 0 then 6 else 4)
  else s
def aR (s r k : Int) : Int := if k = 1 then r + 1 else if k = 2 then r - 1 else if k = 6 ∧ s = 3 then r - 1 else r
def aC (s c k p : Int) : Int := if k = 4 then p else if k = 5 then 0 else if k = 6 ∧ s = 3 then 0 else c

set_option maxHeartbeats 1000000 in
theorem checkEvent_any (k p : Int) (w : World) :
    Calls Tryd.prog 42 #[EV k p] w fun e w' => e = .returned (.int .i64 (evk k p)) ∧ Below w.heap.size w w' := by
  go_enter Tryd.func42, Tryd.ntmps42
  go_wp2
  all_goals
    go_ret
    refine ⟨ret_int ?_, ((Below.refl _ _).alloc (Nat.le_refl _) _)⟩
    (try simp only [beq_iff_eq, beq_eq_false_iff_ne, bne_iff_ne, bne_eq_false_iff_eq, ne_eq] at *)
    unfold evk
    repeat' split
    all_goals first | rfl | omega

set_option maxHeartbeats 1000000 in
theorem possible_any (s r c k : Int) (w : World) :
    Calls Tryd.prog 35 #[WV s r c, .int .i64 k] w fun e w' => e = .returned (.int .i64 (psb s r k)) ∧ Below w.heap.size w w' := by
  go_enter Tryd.func35, Tryd.ntmps35
  go_wp2
  all_goals
    go_ret
    refine ⟨ret_int ?_, ((Below.refl _ _).alloc (Nat.le_refl _) _)⟩
    (try simp only [beq_iff_eq, beq_eq_false_iff_ne, bne_iff_ne, bne_eq_false_iff_eq, ne_eq] at *)
    unfold psb
    repeat' split
    all_goals first | rfl | omega

theorem ret_bool {a b : Bool} (h : a = b) : Ending.returned (.bool a) = .returned (.bool b) := by rw [h]

/-- Whether the Refs of a page allow an event. -/
def cnt (s r k : Int) : Bool := if k = 1 then decide (1 ≤ r ∧ r < 512) else if k = 2 then (if s = 3 then decide (2 ≤ r) else decide (1 ≤ r)) else if k = 4 then decide (1 ≤ r) else decide (0 ≤ r)

set_option maxHeartbeats 1000000 in
theorem counts_any (s r c k : Int) (w : World) :
    Calls Tryd.prog 43 #[WV s r c, .int .i64 k] w fun e w' => e = .returned (.bool (cnt s r k)) ∧ Below w.heap.size w w' := by
  go_enter Tryd.func43, Tryd.ntmps43
  go_wp2
  all_goals
    go_ret
    refine ⟨ret_bool ?_, ((Below.refl _ _).alloc (Nat.le_refl _) _)⟩
    (try simp only [beq_iff_eq, beq_eq_false_iff_ne, bne_iff_ne, bne_eq_false_iff_eq, ne_eq] at *)
    unfold cnt
    repeat' split
    all_goals first | rfl | omega | (simp; omega)

end Go.Proofs.YtcicgccllhkolaaDoor
