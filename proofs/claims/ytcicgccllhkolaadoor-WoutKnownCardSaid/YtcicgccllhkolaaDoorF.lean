/- Helper facts for the statements of this seat; no statement itself. -/
import Derived.Test.YtcicgccllhkolaaDoorE
namespace Go.Proofs.YtcicgccllhkolaaDoor
open Go.RowKit
set_option linter.unusedSimpArgs false
set_option linter.unusedVariables false
set_option linter.unnecessarySimpa false

/-- What Next gives. -/
def xE (s r c k p : Int) : Int := if chk s r c = 0 then nE s r k p else chk s r c
def xS (s r c k p : Int) : Int := if chk s r c = 0 then nS s r k p else 0
def xR (s r c k p : Int) : Int := if chk s r c = 0 then nR s r k p else 0
def xC (s r c k p : Int) : Int := if chk s r c = 0 then nC s r c k p else 0

set_option maxHeartbeats 1000000 in
theorem Next_any (s r c k p : Int) (w : World) :
    Calls Tryd.prog 15 #[WV s r c, EV k p] w fun e w' => e = .returned (.tuple #[WV (xS s r c k p) (xR s r c k p) (xC s r c k p), .int .i64 (xE s r c k p)]) ∧ Below w.heap.size w w' := by
  by_cases hv : chk s r c = 0
  · unfold xS xR xC xE
    rw [if_pos hv, if_pos hv, if_pos hv, if_pos hv]
    have HV := Lib.hid hv
    clear hv
    go_enter Tryd.func15, Tryd.ntmps15
    go_wp2_with fail
    refine (check_any s r c _).mono ?_
    rintro e w1 ⟨rfl, hb⟩
    rw [HV.out]
    have G2 := Lib.hid (bkeep hb (h3_2 _ _ _ _))
    have B1 := Lib.hid (btrans ((((Below.refl _ _).alloc (Nat.le_refl _) _).alloc (by simp only [World.size_alloc] <;> omega) _).alloc (by simp only [World.size_alloc] <;> omega) _) hb)
    obtain ⟨q0, q1, q2⟩ := wcells (bkeep hb (h3_0 _ _ _ _))
    obtain ⟨p0, p1⟩ := ecells (bkeep hb (h3_1 _ _ _ _))
    clear hb
    go_wp2_with fail
    refine (next_any s r c k p _ HV.out).mono ?_
    rintro e w2 ⟨rfl, hb⟩
    have G3 := Lib.hid (bkeep hb G2.out)
    have B2 := Lib.hid (btrans B1.out hb)
    clear hb q0 q1 q2 p0 p1
    go_wp2_with (((with_reducible refine st23 (.tmp 4) (.tmp 16) ?a1 ?b1 (w.heap.size + 1 + 1) (nS s r k p) (nR s r k p) (nC s r c k p) #[.int .i64 0, .int .i64 0, .int .i64 0] ?c1 ?d1 ?e1 23 ?f1 ?_); (case a1 => rfl); (case b1 => rfl); (case c1 => rfl); (case d1 => rfl); (case e1 => rfl); (case f1 => exact G3.out)))
    refine bodyPost_ret (v := .tuple #[WV (nS s r k p) (nR s r k p) (nC s r c k p), .int .i64 (nE s r k p)]) ?_ rfl ⟨rfl, ?_⟩
    · exact res23 (fn := Tryd.f15) (p := 4) (u := 5) rfl _ _ (w.heap.size + 1 + 1) 23 (nS s r k p) (nR s r k p) (nC s r c k p) (by rfl) (setRow_heap _ _ _ _ _ _ G3.out)
    · exact below_setRow B2.out (by omega) _
  · unfold xS xR xC xE
    rw [if_neg hv, if_neg hv, if_neg hv, if_neg hv]
    have h' : (chk s r c != 0) = true := by simpa using hv
    clear hv
    go_enter Tryd.func15, Tryd.ntmps15
    go_wp2_with fail
    refine (check_any s r c _).mono ?_
    rintro e w1 ⟨rfl, hb⟩
    have G2 := Lib.hid (bkeep hb (h3_2 _ _ _ _))
    have B1 := Lib.hid (btrans ((((Below.refl _ _).alloc (Nat.le_refl _) _).alloc (by simp only [World.size_alloc] <;> omega) _).alloc (by simp only [World.size_alloc] <;> omega) _) hb)
    clear hb
    go_wp2_with (((with_reducible refine st23 (.tmp 4) (.tmp 11) ?a2 ?b2 (w.heap.size + 1 + 1) 0 0 0 #[.int .i64 0, .int .i64 0, .int .i64 0] ?c2 ?d2 ?e2 23 ?f2 ?_); (case a2 => rfl); (case b2 => rfl); (case c2 => rfl); (case d2 => rfl); (case e2 => rfl); (case f2 => exact G2.out)))
    refine bodyPost_ret (v := .tuple #[WV 0 0 0, .int .i64 (chk s r c)]) ?_ rfl ⟨rfl, ?_⟩
    · exact res23 (fn := Tryd.f15) (p := 4) (u := 5) rfl _ _ (w.heap.size + 1 + 1) 23 0 0 0 (by rfl) (setRow_heap _ _ _ _ _ _ G2.out)
    · exact below_setRow B1.out (by omega) _

end Go.Proofs.YtcicgccllhkolaaDoor
