/- Helper facts for the statements of this seat; no statement itself. -/
import Derived.Test.YtcicgccllhkolaaDoorK
namespace Go.Proofs.YtcicgccllhkolaaDoor
open Go.RowKit
set_option linter.unusedSimpArgs false
set_option linter.unusedVariables false
set_option linter.unnecessarySimpa false

set_option maxHeartbeats 1000000 in
theorem run_nil (s r c : Int) (a : Option Addr) (cap : Nat) (w : World) (hv : chk s r c = 0) :
    Calls Tryd.prog 19 #[WV s r c, .slice a 0 cap] w fun e w' => e = .returned (.tuple #[WV s r c, .int .i64 0, .int .i64 0]) ∧ Below w.heap.size w w' := by
  have HV := Lib.hid hv
  clear hv
  go_enter Tryd.func19, Tryd.ntmps19
  go_wp2_with fail
  refine (check_any s r c _).mono ?_
  rintro e w1 ⟨rfl, hb⟩
  rw [HV.out]
  have P1 : Hid (PG w s r c w1) := ⟨bkeep hb (h2_0 _ _ _), bkeep hb (h2_1 _ _ _), btrans (((Below.refl _ _).alloc (Nat.le_refl _) _).alloc (by simp only [World.size_alloc] <;> omega) _) hb⟩
  clear hb
  obtain ⟨q0, q1, q2⟩ := P1.out.cells
  go_wp2_with fail
  refine wp_loop_rounds 1 ?_
  rw [rounds_succ]
  go_wp2_with (((with_reducible refine st23 (.tmp 4) (.tmp 38) ?a4 ?b4 (w.heap.size + 1) s r c #[.int .i64 0, .int .i64 0, .int .i64 0] ?c4 ?d4 ?e4 23 ?f4 ?_); (case a4 => rfl); (case b4 => rfl); (case c4 => rfl); (case d4 => rfl); (case e4 => rfl); (case f4 => exact P1.out.2.1)))
  refine bodyPost_ret (v := .tuple #[WV s r c, .int .i64 0, .int .i64 0]) ?_ rfl ⟨rfl, ?_⟩
  · exact res23b (fn := Tryd.f19) (p := 4) (u := 5) (x := 6) rfl _ _ (w.heap.size + 1) 23 s r c (by rfl) (setRow_heap _ _ _ _ _ _ P1.out.2.1)
  · exact below_setRow P1.out.2.2 (by omega) _

theorem Run_any (s r c : Int) (v : Value) (l : List (Int × Int)) (w : World) (hl : IsEvs w v l) :
    Calls Tryd.prog 19 #[WV s r c, v] w fun e w' => e = .returned (.tuple #[WV (rW s r c l).1 (rW s r c l).2.1 (rW s r c l).2.2.1, .int .i64 (rW s r c l).2.2.2.1, .int .i64 (rW s r c l).2.2.2.2]) ∧ Below w.heap.size w w' := by
  unfold rW
  by_cases hv : chk s r c = 0
  · rw [if_pos hv]
    obtain ⟨a, n, cap, rfl, hn, hn2, h⟩ := hl
    rcases h with rfl | ⟨b, off, rfl, h⟩
    · obtain rfl : n = 0 := hn
      exact run_nil s r c a cap w hv
    · exact run_good s r c b off cap n l w hv hn (by omega) (by rw [hn]; exact h)
  · rw [if_neg hv]
    exact run_bad s r c v w hv

set_option maxHeartbeats 1000000 in
theorem rrun_nil (s r c : Int) (a : Option Addr) (cap : Nat) (w : World) (hv : chk s r c = 0) :
    Calls Tryd.prog 20 #[WV s r c, .slice a 0 cap] w fun e w' => e = .returned (.tuple #[WV s r c, .int .i64 0, .int .i64 0]) ∧ Below w.heap.size w w' := by
  have HV := Lib.hid hv
  clear hv
  go_enter Tryd.func20, Tryd.ntmps20
  go_wp2_with fail
  refine (rcheck_any s r c _).mono ?_
  rintro e w1 ⟨rfl, hb⟩
  rw [HV.out]
  have P1 : Hid (PG w s r c w1) := ⟨bkeep hb (h2_0 _ _ _), bkeep hb (h2_1 _ _ _), btrans (((Below.refl _ _).alloc (Nat.le_refl _) _).alloc (by simp only [World.size_alloc] <;> omega) _) hb⟩
  clear hb
  obtain ⟨q0, q1, q2⟩ := P1.out.cells
  go_wp2_with fail
  refine wp_loop_rounds 1 ?_
  rw [rounds_succ]
  go_wp2_with (((with_reducible refine st23 (.tmp 4) (.tmp 38) ?a4 ?b4 (w.heap.size + 1) s r c #[.int .i64 0, .int .i64 0, .int .i64 0] ?c4 ?d4 ?e4 23 ?f4 ?_); (case a4 => rfl); (case b4 => rfl); (case c4 => rfl); (case d4 => rfl); (case e4 => rfl); (case f4 => exact P1.out.2.1)))
  refine bodyPost_ret (v := .tuple #[WV s r c, .int .i64 0, .int .i64 0]) ?_ rfl ⟨rfl, ?_⟩
  · exact res23b (fn := Tryd.f20) (p := 4) (u := 5) (x := 6) rfl _ _ (w.heap.size + 1) 23 s r c (by rfl) (setRow_heap _ _ _ _ _ _ P1.out.2.1)
  · exact below_setRow P1.out.2.2 (by omega) _

theorem rRun_any (s r c : Int) (v : Value) (l : List (Int × Int)) (w : World) (hl : IsEvs w v l) :
    Calls Tryd.prog 20 #[WV s r c, v] w fun e w' => e = .returned (.tuple #[WV (rW s r c l).1 (rW s r c l).2.1 (rW s r c l).2.2.1, .int .i64 (rW s r c l).2.2.2.1, .int .i64 (rW s r c l).2.2.2.2]) ∧ Below w.heap.size w w' := by
  unfold rW
  by_cases hv : chk s r c = 0
  · rw [if_pos hv]
    obtain ⟨a, n, cap, rfl, hn, hn2, h⟩ := hl
    rcases h with rfl | ⟨b, off, rfl, h⟩
    · obtain rfl : n = 0 := hn
      exact rrun_nil s r c a cap w hv
    · exact rrun_good s r c b off cap n l w hv hn (by omega) (by rw [hn]; exact h)
  · rw [if_neg hv]
    exact rrun_bad s r c v w hv

end Go.Proofs.YtcicgccllhkolaaDoor
