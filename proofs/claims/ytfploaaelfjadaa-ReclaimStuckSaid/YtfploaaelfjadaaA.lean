/- Helper facts for the statements of this seat; no statement itself. -/
import Derived.Test.YtfploaaelfjadaaComH
import Derived.Test.YtfploaaelfjadaaPl
import Derived.Outline
namespace Go.Proofs.Ytfploaaelfjadaa
open Go.RowKit
set_option linter.unusedSimpArgs false
set_option linter.unusedVariables false
set_option linter.unnecessarySimpa false

/-- Its cells and its value. -/
abbrev tC (t : T) : Array Value := #[.int .i64 t.fr, .int .i64 t.mn, .int .i64 t.lo, .int .i64 t.hi, .bool t.aw, .int .i64 t.ob, .int .i64 t.ac, .int .i64 t.ia, .int .i64 t.tg, .bool t.rf, .int .i64 t.wr, .int .i64 t.cp, .int .i64 t.op, .int .i64 t.rm, .int .i64 t.sl]
abbrev TV (t : T) : Value := .agg (tC t)
theorem ret_bool {a b : Bool} (h : a = b) : Ending.returned (.bool a) = .returned (.bool b) := by rw [h]

set_option maxHeartbeats 1000000 in
theorem objects_any (t : T) (w : World) : Calls Try.prog 47 #[TV t] w fun e w' => e = .returned (.bool (decide (0 < t.ob))) ∧ Below w.heap.size w w' := by
  obtain ⟨fr, mn, lo, hi, aw, ob, ac, ia, tg, rf, wr, cp, op, rm, sl⟩ := t
  go_enter Try.func47, Try.ntmps47
  go_wp2
  all_goals
    go_ret
    refine ⟨ret_bool (by first | rfl | (simp_all; done) | (simp_all; omega) | (cases rf <;> simp_all <;> omega)), ((Below.refl _ _).alloc (Nat.le_refl _) _)⟩

set_option maxHeartbeats 1000000 in
theorem flying_any (t : T) (w : World) : Calls Try.prog 49 #[TV t] w fun e w' => e = .returned (.bool (decide (0 < t.wr) || decide (0 < t.op))) ∧ Below w.heap.size w w' := by
  obtain ⟨fr, mn, lo, hi, aw, ob, ac, ia, tg, rf, wr, cp, op, rm, sl⟩ := t
  go_enter Try.func49, Try.ntmps49
  go_wp2
  all_goals
    go_ret
    refine ⟨ret_bool (by first | rfl | (simp_all; done) | (simp_all; omega) | (cases rf <;> simp_all <;> omega)), ((Below.refl _ _).alloc (Nat.le_refl _) _)⟩

set_option maxHeartbeats 1000000 in
theorem always_any (t : T) (w : World) : Calls Try.prog 50 #[TV t] w fun e w' => e = .returned (.bool (true)) ∧ Below w.heap.size w w' := by
  obtain ⟨fr, mn, lo, hi, aw, ob, ac, ia, tg, rf, wr, cp, op, rm, sl⟩ := t
  go_enter Try.func50, Try.ntmps50
  go_wp2
  all_goals
    go_ret
    refine ⟨ret_bool (by first | rfl | (simp_all; done) | (simp_all; omega) | (cases rf <;> simp_all <;> omega)), ((Below.refl _ _).alloc (Nat.le_refl _) _)⟩

set_option maxHeartbeats 1000000 in
theorem asleep_any (t : T) (w : World) : Calls Try.prog 51 #[TV t] w fun e w' => e = .returned (.bool (!t.aw)) ∧ Below w.heap.size w w' := by
  obtain ⟨fr, mn, lo, hi, aw, ob, ac, ia, tg, rf, wr, cp, op, rm, sl⟩ := t
  go_enter Try.func51, Try.ntmps51
  go_wp2
  all_goals
    go_ret
    refine ⟨ret_bool (by first | rfl | (simp_all; done) | (simp_all; omega) | (cases rf <;> simp_all <;> omega)), ((Below.refl _ _).alloc (Nat.le_refl _) _)⟩

set_option maxHeartbeats 1000000 in
theorem short_any (t : T) (w : World) : Calls Try.prog 52 #[TV t] w fun e w' => e = .returned (.bool (decide (t.ia < t.tg) && decide (0 < t.ac))) ∧ Below w.heap.size w w' := by
  obtain ⟨fr, mn, lo, hi, aw, ob, ac, ia, tg, rf, wr, cp, op, rm, sl⟩ := t
  go_enter Try.func52, Try.ntmps52
  go_wp2
  all_goals
    go_ret
    refine ⟨ret_bool (by first | rfl | (simp_all; done) | (simp_all; omega) | (cases rf <;> simp_all <;> omega)), ((Below.refl _ _).alloc (Nat.le_refl _) _)⟩

set_option maxHeartbeats 1000000 in
theorem referenced_any (t : T) (w : World) : Calls Try.prog 53 #[TV t] w fun e w' => e = .returned (.bool (decide (0 < t.ia) && t.rf)) ∧ Below w.heap.size w w' := by
  obtain ⟨fr, mn, lo, hi, aw, ob, ac, ia, tg, rf, wr, cp, op, rm, sl⟩ := t
  go_enter Try.func53, Try.ntmps53
  go_wp2
  all_goals
    go_ret
    refine ⟨ret_bool (by first | rfl | (simp_all; done) | (simp_all; omega) | (cases rf <;> simp_all <;> omega)), ((Below.refl _ _).alloc (Nat.le_refl _) _)⟩

set_option maxHeartbeats 1000000 in
theorem empty_any (t : T) (w : World) : Calls Try.prog 55 #[TV t] w fun e w' => e = .returned (.bool ((t.ac == 0) && (t.ia == 0))) ∧ Below w.heap.size w w' := by
  obtain ⟨fr, mn, lo, hi, aw, ob, ac, ia, tg, rf, wr, cp, op, rm, sl⟩ := t
  go_enter Try.func55, Try.ntmps55
  go_wp2
  all_goals
    go_ret
    refine ⟨ret_bool (by first | rfl | (simp_all; done) | (simp_all; omega) | (cases rf <;> simp_all <;> omega)), ((Below.refl _ _).alloc (Nat.le_refl _) _)⟩

set_option maxHeartbeats 1000000 in
theorem capped_any (t : T) (w : World) : Calls Try.prog 56 #[TV t] w fun e w' => e = .returned (.bool (t.wr == t.cp)) ∧ Below w.heap.size w w' := by
  obtain ⟨fr, mn, lo, hi, aw, ob, ac, ia, tg, rf, wr, cp, op, rm, sl⟩ := t
  go_enter Try.func56, Try.ntmps56
  go_wp2
  all_goals
    go_ret
    refine ⟨ret_bool (by first | rfl | (simp_all; done) | (simp_all; omega) | (cases rf <;> simp_all <;> omega)), ((Below.refl _ _).alloc (Nat.le_refl _) _)⟩

set_option maxHeartbeats 1000000 in
theorem crowded_any (t : T) (w : World) : Calls Try.prog 57 #[TV t] w fun e w' => e = .returned (.bool (t.rm == 0)) ∧ Below w.heap.size w w' := by
  obtain ⟨fr, mn, lo, hi, aw, ob, ac, ia, tg, rf, wr, cp, op, rm, sl⟩ := t
  go_enter Try.func57, Try.ntmps57
  go_wp2
  all_goals
    go_ret
    refine ⟨ret_bool (by first | rfl | (simp_all; done) | (simp_all; omega) | (cases rf <;> simp_all <;> omega)), ((Below.refl _ _).alloc (Nat.le_refl _) _)⟩

set_option maxHeartbeats 1000000 in
theorem full_any (t : T) (w : World) : Calls Try.prog 58 #[TV t] w fun e w' => e = .returned (.bool (t.sl == 0)) ∧ Below w.heap.size w w' := by
  obtain ⟨fr, mn, lo, hi, aw, ob, ac, ia, tg, rf, wr, cp, op, rm, sl⟩ := t
  go_enter Try.func58, Try.ntmps58
  go_wp2
  all_goals
    go_ret
    refine ⟨ret_bool (by first | rfl | (simp_all; done) | (simp_all; omega) | (cases rf <;> simp_all <;> omega)), ((Below.refl _ _).alloc (Nat.le_refl _) _)⟩
end Go.Proofs.Ytfploaaelfjadaa
