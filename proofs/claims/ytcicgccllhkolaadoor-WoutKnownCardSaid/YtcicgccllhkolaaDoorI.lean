/- Helper facts for the statements of this seat; no statement itself. -/
import Derived.Test.YtcicgccllhkolaaDoorG
namespace Go.Proofs.YtcicgccllhkolaaDoor
open Go.RowKit
set_option linter.unusedSimpArgs false
set_option linter.unusedVariables false
set_option linter.unnecessarySimpa false

set_option maxHeartbeats 1000000 in
theorem rn0 (s r c k p : Int) (w : World) (hv : chk s r c ≠ 0) :
    Calls Tryd.prog 25 #[WV s r c, EV k p] w fun e w' => e = .returned (.tuple #[WV 0 0 0, .int .i64 (chk s r c)]) ∧ Below w.heap.size w w' := by
  have h' : (chk s r c != 0) = true := by simpa using hv
  clear hv
  go_enter Tryd.func25, Tryd.ntmps25
  go_wp2_with fail
  refine (rcheck_any s r c _).mono ?_
  rintro e w1 ⟨rfl, hb⟩
  have G2 := Lib.hid (bkeep hb (h3_2 _ _ _ _))
  have B1 := Lib.hid (btrans ((((Below.refl _ _).alloc (Nat.le_refl _) _).alloc (by simp only [World.size_alloc] <;> omega) _).alloc (by simp only [World.size_alloc] <;> omega) _) hb)
  clear hb
  go_wp2_with (((with_reducible refine st23 (.tmp 4) (.tmp 12) ?a0 ?b0 (w.heap.size + 1 + 1) 0 0 0 #[.int .i64 0, .int .i64 0, .int .i64 0] ?c0 ?d0 ?e0 23 ?f0 ?_); (case a0 => rfl); (case b0 => rfl); (case c0 => rfl); (case d0 => rfl); (case e0 => rfl); (case f0 => exact G2.out)))
  refine bodyPost_ret (v := .tuple #[WV 0 0 0, .int .i64 (chk s r c)]) ?_ rfl ⟨rfl, ?_⟩
  · exact res23 (fn := Tryd.f25) (p := 4) (u := 5) rfl _ _ (w.heap.size + 1 + 1) 23 0 0 0 (by rfl) (setRow_heap _ _ _ _ _ _ G2.out)
  · exact below_setRow B1.out (by omega) _

set_option maxHeartbeats 1000000 in
theorem rn1 (s r c k p : Int) (w : World) (hv : chk s r c = 0) (h1 : k < 1) :
    Calls Tryd.prog 25 #[WV s r c, EV k p] w fun e w' => e = .returned (.tuple #[WV 0 0 0, .int .i64 16]) ∧ Below w.heap.size w w' := by
  have HV := Lib.hid hv
  clear hv
  skip
  go_enter Tryd.func25, Tryd.ntmps25
  go_wp2_with fail
  refine (rcheck_any s r c _).mono ?_
  rintro e w1 ⟨rfl, hb⟩
  rw [HV.out]
  have G2 := Lib.hid (bkeep hb (h3_2 _ _ _ _))
  have B1 := Lib.hid (btrans ((((Below.refl _ _).alloc (Nat.le_refl _) _).alloc (by simp only [World.size_alloc] <;> omega) _).alloc (by simp only [World.size_alloc] <;> omega) _) hb)
  obtain ⟨p0, p1⟩ := ecells (bkeep hb (h3_1 _ _ _ _))
  clear hb
  go_wp2_with (((with_reducible refine st23 (.tmp 4) (.tmp 23) ?a0 ?b0 (w.heap.size + 1 + 1) 0 0 0 #[.int .i64 0, .int .i64 0, .int .i64 0] ?c0 ?d0 ?e0 23 ?f0 ?_); (case a0 => rfl); (case b0 => rfl); (case c0 => rfl); (case d0 => rfl); (case e0 => rfl); (case f0 => exact G2.out)))
  refine bodyPost_ret (v := .tuple #[WV 0 0 0, .int .i64 16]) ?_ rfl ⟨rfl, ?_⟩
  · exact res23 (fn := Tryd.f25) (p := 4) (u := 5) rfl _ _ (w.heap.size + 1 + 1) 23 0 0 0 (by rfl) (setRow_heap _ _ _ _ _ _ G2.out)
  · exact below_setRow B1.out (by omega) _

set_option maxHeartbeats 1000000 in
theorem rn2 (s r c k p : Int) (w : World) (hv : chk s r c = 0) (h1 : 6 < k) :
    Calls Tryd.prog 25 #[WV s r c, EV k p] w fun e w' => e = .returned (.tuple #[WV 0 0 0, .int .i64 16]) ∧ Below w.heap.size w w' := by
  have HV := Lib.hid hv
  clear hv
  skip
  go_enter Tryd.func25, Tryd.ntmps25
  go_wp2_with fail
  refine (rcheck_any s r c _).mono ?_
  rintro e w1 ⟨rfl, hb⟩
  rw [HV.out]
  have G2 := Lib.hid (bkeep hb (h3_2 _ _ _ _))
  have B1 := Lib.hid (btrans ((((Below.refl _ _).alloc (Nat.le_refl _) _).alloc (by simp only [World.size_alloc] <;> omega) _).alloc (by simp only [World.size_alloc] <;> omega) _) hb)
  obtain ⟨p0, p1⟩ := ecells (bkeep hb (h3_1 _ _ _ _))
  clear hb
  go_wp2_with (((with_reducible refine st23 (.tmp 4) (.tmp 23) ?a0 ?b0 (w.heap.size + 1 + 1) 0 0 0 #[.int .i64 0, .int .i64 0, .int .i64 0] ?c0 ?d0 ?e0 23 ?f0 ?_); (case a0 => rfl); (case b0 => rfl); (case c0 => rfl); (case d0 => rfl); (case e0 => rfl); (case f0 => exact G2.out)))
  refine bodyPost_ret (v := .tuple #[WV 0 0 0, .int .i64 16]) ?_ rfl ⟨rfl, ?_⟩
  · exact res23 (fn := Tryd.f25) (p := 4) (u := 5) rfl _ _ (w.heap.size + 1 + 1) 23 0 0 0 (by rfl) (setRow_heap _ _ _ _ _ _ G2.out)
  · exact below_setRow B1.out (by omega) _

set_option maxHeartbeats 1000000 in
theorem rn3 (s r c p : Int) (w : World) (hv : chk s r c = 0) (h1 : p < 1) :
    Calls Tryd.prog 25 #[WV s r c, EV 4 p] w fun e w' => e = .returned (.tuple #[WV 0 0 0, .int .i64 2]) ∧ Below w.heap.size w w' := by
  have HV := Lib.hid hv
  clear hv
  skip
  go_enter Tryd.func25, Tryd.ntmps25
  go_wp2_with fail
  refine (rcheck_any s r c _).mono ?_
  rintro e w1 ⟨rfl, hb⟩
  rw [HV.out]
  have G2 := Lib.hid (bkeep hb (h3_2 _ _ _ _))
  have B1 := Lib.hid (btrans ((((Below.refl _ _).alloc (Nat.le_refl _) _).alloc (by simp only [World.size_alloc] <;> omega) _).alloc (by simp only [World.size_alloc] <;> omega) _) hb)
  obtain ⟨p0, p1⟩ := ecells (bkeep hb (h3_1 _ _ _ _))
  clear hb
  go_wp2_with (((with_reducible refine st23 (.tmp 4) (.tmp 38) ?a0 ?b0 (w.heap.size + 1 + 1) 0 0 0 #[.int .i64 0, .int .i64 0, .int .i64 0] ?c0 ?d0 ?e0 23 ?f0 ?_); (case a0 => rfl); (case b0 => rfl); (case c0 => rfl); (case d0 => rfl); (case e0 => rfl); (case f0 => exact G2.out)))
  refine bodyPost_ret (v := .tuple #[WV 0 0 0, .int .i64 2]) ?_ rfl ⟨rfl, ?_⟩
  · exact res23 (fn := Tryd.f25) (p := 4) (u := 5) rfl _ _ (w.heap.size + 1 + 1) 23 0 0 0 (by rfl) (setRow_heap _ _ _ _ _ _ G2.out)
  · exact below_setRow B1.out (by omega) _

set_option maxHeartbeats 1000000 in
theorem rn4 (s r c p : Int) (w : World) (hv : chk s r c = 0) (h1 : 8 < p) :
    Calls Tryd.prog 25 #[WV s r c, EV 4 p] w fun e w' => e = .returned (.tuple #[WV 0 0 0, .int .i64 2]) ∧ Below w.heap.size w w' := by
  have HV := Lib.hid hv
  clear hv
  skip
  go_enter Tryd.func25, Tryd.ntmps25
  go_wp2_with fail
  refine (rcheck_any s r c _).mono ?_
  rintro e w1 ⟨rfl, hb⟩
  rw [HV.out]
  have G2 := Lib.hid (bkeep hb (h3_2 _ _ _ _))
  have B1 := Lib.hid (btrans ((((Below.refl _ _).alloc (Nat.le_refl _) _).alloc (by simp only [World.size_alloc] <;> omega) _).alloc (by simp only [World.size_alloc] <;> omega) _) hb)
  obtain ⟨p0, p1⟩ := ecells (bkeep hb (h3_1 _ _ _ _))
  clear hb
  go_wp2_with (((with_reducible refine st23 (.tmp 4) (.tmp 38) ?a0 ?b0 (w.heap.size + 1 + 1) 0 0 0 #[.int .i64 0, .int .i64 0, .int .i64 0] ?c0 ?d0 ?e0 23 ?f0 ?_); (case a0 => rfl); (case b0 => rfl); (case c0 => rfl); (case d0 => rfl); (case e0 => rfl); (case f0 => exact G2.out)))
  refine bodyPost_ret (v := .tuple #[WV 0 0 0, .int .i64 2]) ?_ rfl ⟨rfl, ?_⟩
  · exact res23 (fn := Tryd.f25) (p := 4) (u := 5) rfl _ _ (w.heap.size + 1 + 1) 23 0 0 0 (by rfl) (setRow_heap _ _ _ _ _ _ G2.out)
  · exact below_setRow B1.out (by omega) _

set_option maxHeartbeats 1000000 in
theorem rn5 (s r c k p : Int) (w : World) (hv : chk s r c = 0) (h1 : 1 ≤ k) (h2 : k ≤ 6) (h4 : (k == 4) = false) (h4x : (k != 4) = true) (hp : (p != 0) = true) :
    Calls Tryd.prog 25 #[WV s r c, EV k p] w fun e w' => e = .returned (.tuple #[WV 0 0 0, .int .i64 3]) ∧ Below w.heap.size w w' := by
  have HV := Lib.hid hv
  clear hv
  skip
  go_enter Tryd.func25, Tryd.ntmps25
  go_wp2_with fail
  refine (rcheck_any s r c _).mono ?_
  rintro e w1 ⟨rfl, hb⟩
  rw [HV.out]
  have G2 := Lib.hid (bkeep hb (h3_2 _ _ _ _))
  have B1 := Lib.hid (btrans ((((Below.refl _ _).alloc (Nat.le_refl _) _).alloc (by simp only [World.size_alloc] <;> omega) _).alloc (by simp only [World.size_alloc] <;> omega) _) hb)
  obtain ⟨p0, p1⟩ := ecells (bkeep hb (h3_1 _ _ _ _))
  clear hb
  go_wp2_with (((with_reducible refine st23 (.tmp 4) (.tmp 48) ?a0 ?b0 (w.heap.size + 1 + 1) 0 0 0 #[.int .i64 0, .int .i64 0, .int .i64 0] ?c0 ?d0 ?e0 23 ?f0 ?_); (case a0 => rfl); (case b0 => rfl); (case c0 => rfl); (case d0 => rfl); (case e0 => rfl); (case f0 => exact G2.out)))
  refine bodyPost_ret (v := .tuple #[WV 0 0 0, .int .i64 3]) ?_ rfl ⟨rfl, ?_⟩
  · exact res23 (fn := Tryd.f25) (p := 4) (u := 5) rfl _ _ (w.heap.size + 1 + 1) 23 0 0 0 (by rfl) (setRow_heap _ _ _ _ _ _ G2.out)
  · exact below_setRow B1.out (by omega) _

set_option maxHeartbeats 1000000 in
theorem rn6x (s r c p : Int) (w : World) (hv : chk s r c = 0) (h1 : 1 ≤ p) (h2 : p ≤ 8) (hb0 : psb s r 4 ≠ 0) :
    Calls Tryd.prog 25 #[WV s r c, EV 4 p] w fun e w' => e = .returned (.tuple #[WV 0 0 0, .int .i64 (psb s r 4)]) ∧ Below w.heap.size w w' := by
  have HV := Lib.hid hv
  clear hv
  have h' : (psb s r 4 != 0) = true := by simpa using hb0
  clear hb0
  go_enter Tryd.func25, Tryd.ntmps25
  go_wp2_with fail
  refine (rcheck_any s r c _).mono ?_
  rintro e w1 ⟨rfl, hb⟩
  rw [HV.out]
  have G2 := Lib.hid (bkeep hb (h3_2 _ _ _ _))
  have B1 := Lib.hid (btrans ((((Below.refl _ _).alloc (Nat.le_refl _) _).alloc (by simp only [World.size_alloc] <;> omega) _).alloc (by simp only [World.size_alloc] <;> omega) _) hb)
  obtain ⟨q0, q1, q2⟩ := wcells (bkeep hb (h3_0 _ _ _ _))
  obtain ⟨p0, p1⟩ := ecells (bkeep hb (h3_1 _ _ _ _))
  clear hb
  go_wp2_with fail
  refine (possible_any s r c 4 _).mono ?_
  rintro e w2 ⟨rfl, hb⟩
  have G3 := Lib.hid (bkeep hb G2.out)
  have B2 := Lib.hid (btrans B1.out hb)
  clear hb q0 q1 q2 p0 p1
  generalize hq : psb s r 4 = q at *
  have HQ := Lib.hid hq
  clear hq
  go_wp2_with (((with_reducible refine st23 (.tmp 4) (.tmp 55) ?a0 ?b0 (w.heap.size + 1 + 1) 0 0 0 #[.int .i64 0, .int .i64 0, .int .i64 0] ?c0 ?d0 ?e0 23 ?f0 ?_); (case a0 => rfl); (case b0 => rfl); (case c0 => rfl); (case d0 => rfl); (case e0 => rfl); (case f0 => exact G3.out)))
  refine bodyPost_ret (v := .tuple #[WV 0 0 0, .int .i64 q]) ?_ rfl ⟨by rw [HQ.out], ?_⟩
  · exact res23 (fn := Tryd.f25) (p := 4) (u := 5) rfl _ _ (w.heap.size + 1 + 1) 23 0 0 0 (by rfl) (setRow_heap _ _ _ _ _ _ G3.out)
  · exact below_setRow B2.out (by omega) _

set_option maxHeartbeats 1000000 in
theorem rn7x (s r c p : Int) (w : World) (hv : chk s r c = 0) (h1 : 1 ≤ p) (h2 : p ≤ 8) (hr : 0 ≤ r) (hr2 : r ≤ 512) (hb0 : psb s r 4 = 0) :
    Calls Tryd.prog 25 #[WV s r c, EV 4 p] w fun e w' => e = .returned (.tuple #[WV (aS s r 4) (aR s r 4) (aC s c 4 p), .int .i64 0]) ∧ Below w.heap.size w w' := by
  have HV := Lib.hid hv
  have HP := Lib.hid hb0
  have h2r : Hid ((4 : Int) = 2 → 1 ≤ r) := fun h => by
    omega
  clear hv hb0
  go_enter Tryd.func25, Tryd.ntmps25
  go_wp2_with fail
  refine (rcheck_any s r c _).mono ?_
  rintro e w1 ⟨rfl, hb⟩
  rw [HV.out]
  have G0 := Lib.hid (bkeep hb (h3_0 _ _ _ _))
  have G1 := Lib.hid (bkeep hb (h3_1 _ _ _ _))
  have G2 := Lib.hid (bkeep hb (h3_2 _ _ _ _))
  have B1 := Lib.hid (btrans ((((Below.refl _ _).alloc (Nat.le_refl _) _).alloc (by simp only [World.size_alloc] <;> omega) _).alloc (by simp only [World.size_alloc] <;> omega) _) hb)
  obtain ⟨q0, q1, q2⟩ := wcells G0.out
  obtain ⟨p0, p1⟩ := ecells G1.out
  clear hb
  go_wp2_with fail
  refine (possible_any s r c 4 _).mono ?_
  rintro e w2 ⟨rfl, hb⟩
  rw [HP.out]
  have G3 := Lib.hid (bkeep hb G2.out)
  have B2 := Lib.hid (btrans B1.out hb)
  obtain ⟨r0, r1, r2⟩ := wcells (bkeep hb G0.out)
  obtain ⟨t0, t1⟩ := ecells (bkeep hb G1.out)
  clear hb q0 q1 q2 p0 p1
  go_wp2_with fail
  refine (rafter_any s r c 4 p _ hr hr2 (by omega) (by omega) h2r.out).mono ?_
  rintro e w3 ⟨rfl, hb⟩
  have G4 := Lib.hid (bkeep hb G3.out)
  have B3 := Lib.hid (btrans B2.out hb)
  clear hb r0 r1 r2 t0 t1
  go_wp2_with (((with_reducible refine st23 (.tmp 4) (.tmp 59) ?a9 ?b9 (w.heap.size + 1 + 1) (aS s r 4) (aR s r 4) (aC s c 4 p) #[.int .i64 0, .int .i64 0, .int .i64 0] ?c9 ?d9 ?e9 23 ?f9 ?_); (case a9 => rfl); (case b9 => rfl); (case c9 => rfl); (case d9 => rfl); (case e9 => rfl); (case f9 => exact G4.out)))
  refine bodyPost_ret (v := .tuple #[WV (aS s r 4) (aR s r 4) (aC s c 4 p), .int .i64 0]) ?_ rfl ⟨rfl, ?_⟩
  · exact res23 (fn := Tryd.f25) (p := 4) (u := 5) rfl _ _ (w.heap.size + 1 + 1) 23 (aS s r 4) (aR s r 4) (aC s c 4 p) (by rfl) (setRow_heap _ _ _ _ _ _ G4.out)
  · exact below_setRow B3.out (by omega) _

set_option maxHeartbeats 1000000 in
theorem rn6y (s r c k : Int) (w : World) (hv : chk s r c = 0) (h1 : 1 ≤ k) (h2 : k ≤ 6) (h4 : (k == 4) = false) (h4x : (k != 4) = true) (hb0 : psb s r k ≠ 0) :
    Calls Tryd.prog 25 #[WV s r c, EV k 0] w fun e w' => e = .returned (.tuple #[WV 0 0 0, .int .i64 (psb s r k)]) ∧ Below w.heap.size w w' := by
  have HV := Lib.hid hv
  clear hv
  have h' : (psb s r k != 0) = true := by simpa using hb0
  clear hb0
  go_enter Tryd.func25, Tryd.ntmps25
  go_wp2_with fail
  refine (rcheck_any s r c _).mono ?_
  rintro e w1 ⟨rfl, hb⟩
  rw [HV.out]
  have G2 := Lib.hid (bkeep hb (h3_2 _ _ _ _))
  have B1 := Lib.hid (btrans ((((Below.refl _ _).alloc (Nat.le_refl _) _).alloc (by simp only [World.size_alloc] <;> omega) _).alloc (by simp only [World.size_alloc] <;> omega) _) hb)
  obtain ⟨q0, q1, q2⟩ := wcells (bkeep hb (h3_0 _ _ _ _))
  obtain ⟨p0, p1⟩ := ecells (bkeep hb (h3_1 _ _ _ _))
  clear hb
  go_wp2_with fail
  refine (possible_any s r c k _).mono ?_
  rintro e w2 ⟨rfl, hb⟩
  have G3 := Lib.hid (bkeep hb G2.out)
  have B2 := Lib.hid (btrans B1.out hb)
  clear hb q0 q1 q2 p0 p1
  generalize hq : psb s r k = q at *
  have HQ := Lib.hid hq
  clear hq
  go_wp2_with (((with_reducible refine st23 (.tmp 4) (.tmp 55) ?a0 ?b0 (w.heap.size + 1 + 1) 0 0 0 #[.int .i64 0, .int .i64 0, .int .i64 0] ?c0 ?d0 ?e0 23 ?f0 ?_); (case a0 => rfl); (case b0 => rfl); (case c0 => rfl); (case d0 => rfl); (case e0 => rfl); (case f0 => exact G3.out)))
  refine bodyPost_ret (v := .tuple #[WV 0 0 0, .int .i64 q]) ?_ rfl ⟨by rw [HQ.out], ?_⟩
  · exact res23 (fn := Tryd.f25) (p := 4) (u := 5) rfl _ _ (w.heap.size + 1 + 1) 23 0 0 0 (by rfl) (setRow_heap _ _ _ _ _ _ G3.out)
  · exact below_setRow B2.out (by omega) _

set_option maxHeartbeats 1000000 in
theorem rn7y (s r c k : Int) (w : World) (hv : chk s r c = 0) (h1 : 1 ≤ k) (h2 : k ≤ 6) (h4 : (k == 4) = false) (h4x : (k != 4) = true) (hr : 0 ≤ r) (hr2 : r ≤ 512) (hb0 : psb s r k = 0) :
    Calls Tryd.prog 25 #[WV s r c, EV k 0] w fun e w' => e = .returned (.tuple #[WV (aS s r k) (aR s r k) (aC s c k 0), .int .i64 0]) ∧ Below w.heap.size w w' := by
  have HV := Lib.hid hv
  have HP := Lib.hid hb0
  have h2r : Hid ((k : Int) = 2 → 1 ≤ r) := fun h => by
    subst h; unfold psb at hb0; repeat (first | split at hb0 | omega)
  clear hv hb0
  go_enter Tryd.func25, Tryd.ntmps25
  go_wp2_with fail
  refine (rcheck_any s r c _).mono ?_
  rintro e w1 ⟨rfl, hb⟩
  rw [HV.out]
  have G0 := Lib.hid (bkeep hb (h3_0 _ _ _ _))
  have G1 := Lib.hid (bkeep hb (h3_1 _ _ _ _))
  have G2 := Lib.hid (bkeep hb (h3_2 _ _ _ _))
  have B1 := Lib.hid (btrans ((((Below.refl _ _).alloc (Nat.le_refl _) _).alloc (by simp only [World.size_alloc] <;> omega) _).alloc (by simp only [World.size_alloc] <;> omega) _) hb)
  obtain ⟨q0, q1, q2⟩ := wcells G0.out
  obtain ⟨p0, p1⟩ := ecells G1.out
  clear hb
  go_wp2_with fail
  refine (possible_any s r c k _).mono ?_
  rintro e w2 ⟨rfl, hb⟩
  rw [HP.out]
  have G3 := Lib.hid (bkeep hb G2.out)
  have B2 := Lib.hid (btrans B1.out hb)
  obtain ⟨r0, r1, r2⟩ := wcells (bkeep hb G0.out)
  obtain ⟨t0, t1⟩ := ecells (bkeep hb G1.out)
  clear hb q0 q1 q2 p0 p1
  go_wp2_with fail
  refine (rafter_any s r c k 0 _ hr hr2 (by omega) (by omega) h2r.out).mono ?_
  rintro e w3 ⟨rfl, hb⟩
  have G4 := Lib.hid (bkeep hb G3.out)
  have B3 := Lib.hid (btrans B2.out hb)
  clear hb r0 r1 r2 t0 t1
  go_wp2_with (((with_reducible refine st23 (.tmp 4) (.tmp 59) ?a9 ?b9 (w.heap.size + 1 + 1) (aS s r k) (aR s r k) (aC s c k 0) #[.int .i64 0, .int .i64 0, .int .i64 0] ?c9 ?d9 ?e9 23 ?f9 ?_); (case a9 => rfl); (case b9 => rfl); (case c9 => rfl); (case d9 => rfl); (case e9 => rfl); (case f9 => exact G4.out)))
  refine bodyPost_ret (v := .tuple #[WV (aS s r k) (aR s r k) (aC s c k 0), .int .i64 0]) ?_ rfl ⟨rfl, ?_⟩
  · exact res23 (fn := Tryd.f25) (p := 4) (u := 5) rfl _ _ (w.heap.size + 1 + 1) 23 (aS s r k) (aR s r k) (aC s c k 0) (by rfl) (setRow_heap _ _ _ _ _ _ G4.out)
  · exact below_setRow B3.out (by omega) _

theorem rNext_any (s r c k p : Int) (w : World) :
    Calls Tryd.prog 25 #[WV s r c, EV k p] w fun e w' => e = .returned (.tuple #[WV (xS s r c k p) (xR s r c k p) (xC s r c k p), .int .i64 (xE s r c k p)]) ∧ Below w.heap.size w w' := by
  unfold xS xR xC xE
  by_cases hv : chk s r c = 0
  · rw [if_pos hv, if_pos hv, if_pos hv, if_pos hv]
    obtain ⟨hs1, hs2, hr, hr2⟩ := chk_ok hv
    by_cases he : evk k p = 0
    · obtain ⟨hk1, hk2⟩ := evk_ok he
      have eN : nE s r k p = psb s r k := by unfold nE; rw [if_pos he]
      unfold nS nR nC
      rw [eN]
      by_cases h4 : k = 4
      · subst h4
        have hp : 1 ≤ p ∧ p ≤ 8 := by unfold evk at he; simp at he; omega
        by_cases hb0 : psb s r 4 = 0
        · rw [if_pos hb0, if_pos hb0, if_pos hb0, hb0]; exact rn7x s r c p w hv hp.1 hp.2 hr hr2 hb0
        · rw [if_neg hb0, if_neg hb0, if_neg hb0]; exact rn6x s r c p w hv hp.1 hp.2 hb0
      · have hp : p = 0 := by unfold evk at he; rw [if_neg (by omega), if_neg h4] at he; by_cases h : p = 0 <;> simp_all
        subst hp
        have b1 : (k == 4) = false := by simpa using h4
        have b2 : (k != 4) = true := by simpa using h4
        by_cases hb0 : psb s r k = 0
        · rw [if_pos hb0, if_pos hb0, if_pos hb0, hb0]; exact rn7y s r c k w hv hk1 hk2 b1 b2 hr hr2 hb0
        · rw [if_neg hb0, if_neg hb0, if_neg hb0]; exact rn6y s r c k w hv hk1 hk2 b1 b2 hb0
    · have eN : nE s r k p = evk k p := by unfold nE; rw [if_neg he]
      unfold nS nR nC
      rw [eN, if_neg he, if_neg he, if_neg he]
      unfold evk at he ⊢
      by_cases h1 : k < 1
      · rw [if_pos (.inl h1)]; exact rn1 s r c k p w hv h1
      by_cases h2 : 6 < k
      · rw [if_pos (.inr h2)]; exact rn2 s r c k p w hv h2
      rw [if_neg (by omega)] at he ⊢
      by_cases h4 : k = 4
      · subst h4
        rw [if_pos rfl] at he ⊢
        by_cases h5 : p < 1
        · rw [if_pos (.inl h5)]; exact rn3 s r c p w hv h5
        by_cases h6 : 8 < p
        · rw [if_pos (.inr h6)]; exact rn4 s r c p w hv h6
        rw [if_neg (by omega)] at he; exact absurd rfl he
      · rw [if_neg h4] at he ⊢
        by_cases h0 : p = 0
        · rw [if_pos h0] at he; exact absurd rfl he
        rw [if_neg h0]
        exact rn5 s r c k p w hv (by omega) (by omega) (by simpa using h4) (by simpa using h4) (by simpa using h0)
  · rw [if_neg hv, if_neg hv, if_neg hv, if_neg hv]
    exact rn0 s r c k p w hv

/-- What Begin gives. -/
def bE (n : Int) : Int := if n < 1 ∨ 512 < n then 15 else 0
def bS (n : Int) : Int := if n < 1 ∨ 512 < n then 0 else 1
def bR (n : Int) : Int := if n < 1 ∨ 512 < n then 0 else n

set_option maxHeartbeats 1000000 in
theorem begin_any (n : Int) (w : World) :
    Calls Tryd.prog 14 #[.int .i64 n] w fun e w' => e = .returned (.tuple #[WV (bS n) (bR n) 0, .int .i64 (bE n)]) ∧ Below w.heap.size w w' := by
  unfold bE bS bR
  by_cases h1 : n < 1
  · simp only [h1, true_or, if_true]
    go_enter Tryd.func14, Tryd.ntmps14
    go_wp2
    refine bodyPost_ret (v := .tuple #[WV 0 0 0, .int .i64 15]) (by simp [results, Tryd.results14, go_sem]) rfl ⟨rfl, ((Below.refl _ _).alloc (Nat.le_refl _) _)⟩
  by_cases h2 : 512 < n
  · simp only [h2, or_true, if_true]
    go_enter Tryd.func14, Tryd.ntmps14
    go_wp2
    refine bodyPost_ret (v := .tuple #[WV 0 0 0, .int .i64 15]) (by simp [results, Tryd.results14, go_sem]) rfl ⟨rfl, ((Below.refl _ _).alloc (Nat.le_refl _) _)⟩
  simp only [h1, h2, or_self, if_false]
  go_enter Tryd.func14, Tryd.ntmps14
  go_wp2
  refine bodyPost_ret (v := .tuple #[WV 1 n 0, .int .i64 0]) (by simp [results, Tryd.results14, go_sem]) rfl ⟨rfl, ((Below.refl _ _).alloc (Nat.le_refl _) _)⟩

set_option maxHeartbeats 1000000 in
theorem rbegin_any (n : Int) (w : World) :
    Calls Tryd.prog 21 #[.int .i64 n] w fun e w' => e = .returned (.tuple #[WV (bS n) (bR n) 0, .int .i64 (bE n)]) ∧ Below w.heap.size w w' := by
  unfold bE bS bR
  by_cases h1 : n < 1
  · simp only [h1, true_or, if_true]
    go_enter Tryd.func21, Tryd.ntmps21
    go_wp2
    refine bodyPost_ret (v := .tuple #[WV 0 0 0, .int .i64 15]) (by simp [results, Tryd.results21, go_sem]) rfl ⟨rfl, ((Below.refl _ _).alloc (Nat.le_refl _) _)⟩
  by_cases h2 : 512 < n
  · simp only [h2, or_true, if_true]
    go_enter Tryd.func21, Tryd.ntmps21
    go_wp2
    refine bodyPost_ret (v := .tuple #[WV 0 0 0, .int .i64 15]) (by simp [results, Tryd.results21, go_sem]) rfl ⟨rfl, ((Below.refl _ _).alloc (Nat.le_refl _) _)⟩
  simp only [h1, h2, or_self, if_false]
  go_enter Tryd.func21, Tryd.ntmps21
  go_wp2
  refine bodyPost_ret (v := .tuple #[WV 1 n 0, .int .i64 0]) (by simp [results, Tryd.results21, go_sem]) rfl ⟨rfl, ((Below.refl _ _).alloc (Nat.le_refl _) _)⟩

end Go.Proofs.YtcicgccllhkolaaDoor
