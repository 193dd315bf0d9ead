/- Helper facts for the statements of this seat; no statement itself. -/
import Derived.Test.YtcicgccllhkolaaDoorO
import Derived.Test.YtcicgccllhkolaaDoorComH
import Derived.Deep.RegionHeld3
namespace Go.Proofs.YtcicgccllhkolaaDoor
open Go.RowKit
set_option linter.unusedSimpArgs false
set_option linter.unusedVariables false
set_option linter.unnecessarySimpa false

/-- The package variable. -/
def CL (w : World) : Prop := w.cell? ⟨0, 0, none⟩ = some (.int .i64 4) ∧ w.cell? ⟨0, 1, none⟩ = some (.int .i64 3)
theorem CL.below {w w' : World} (h : CL w) (hb : Below w.heap.size w w') : CL w' := ⟨cellB hb h.1, cellB hb h.2⟩
theorem awake_cl (w : World) (h : CL w) : Calls Tryd.prog 18 #[] w fun e w' => e = .returned (.bool true) ∧ Below w.heap.size w w' := awake_any w h.1 h.2

set_option maxHeartbeats 1000000 in
theorem woutLooks_walk (s r c : Int) (w : World) (hc : CL w) :
    Calls Tryd.prog 6 #[WV s r c] w fun e w' => e = .returned (.bool true) ∧ Below w.heap.size w w' := by
  have HC := Lib.hid hc
  clear hc
  go_enter Tryd.func6, Tryd.ntmps6
  go_wp2_with fail
  refine (role_any s r c _).mono ?_
  rintro e w1 ⟨rfl, hb⟩
  have hp1 : Hid (P1 w s r c w1) := bfirst _ _ hb
  clear hb
  obtain ⟨q0, q1, q2⟩ := wcells hp1.out.1
  go_wp2_with fail
  refine (rrole_any s r c _).mono ?_
  rintro e w2 ⟨rfl, hb⟩
  have hp2 := Lib.hid (hp1.out.keep hb)
  clear hb q0 q1 q2
  obtain ⟨q0, q1, q2⟩ := wcells hp2.out.1
  go_wp2_with fail
  refine (slot_any s r c _).mono ?_
  rintro e w3 ⟨rfl, hb⟩
  have hp3 := Lib.hid (hp2.out.keep hb)
  clear hb q0 q1 q2
  obtain ⟨q0, q1, q2⟩ := wcells hp3.out.1
  go_wp2_with fail
  refine (rslot_any s r c _).mono ?_
  rintro e w4 ⟨rfl, hb⟩
  have hp4 := Lib.hid (hp3.out.keep hb)
  clear hb q0 q1 q2
  go_wp2_with fail
  refine (awake_cl _ (HC.out.below hp4.out.2)).mono ?_
  rintro e w5 ⟨rfl, hb⟩
  have hp5 := Lib.hid (hp4.out.keep hb)
  clear hb
  go_wp2_with fail
  go_ret
  exact ⟨rfl, hp5.out.2⟩

set_option maxHeartbeats 1000000 in
theorem woutRuns_long (s r c : Int) (a : Option Addr) (n cap : Nat) (m : Int) (w : World) (hc : CL w) (hn : 40 < n) :
    Calls Tryd.prog 4 #[WV s r c, .slice a n cap, .int .i64 m] w fun e w' => e = .returned (.bool true) ∧ Below w.heap.size w w' := by
  have HC := Lib.hid hc
  clear hc
  have hn2 : (40 : Int) < (n : Int) := by omega
  go_enter Tryd.func4, Tryd.ntmps4
  go_wp2_with fail
  refine (awake_cl _ (HC.out.below ((Below.refl _ _).alloc (Nat.le_refl _) _))).mono ?_
  rintro e w1 ⟨rfl, hb⟩
  have hp1 : Hid (P1 w s r c w1) := bfirst _ _ hb
  clear hb
  go_wp2_with fail
  go_ret
  exact ⟨rfl, hp1.out.2⟩

set_option maxHeartbeats 1000000 in
theorem woutRuns_walk (s r c : Int) (a : Option Addr) (n cap : Nat) (l : List (Int × Int)) (m : Int) (w : World) (hc : CL w) (hn : n ≤ 40) (hl : IsEvs w (.slice a n cap) l) :
    Calls Tryd.prog 4 #[WV s r c, .slice a n cap, .int .i64 m] w fun e w' => e = .returned (.bool true) ∧ Below w.heap.size w w' := by
  have HC := Lib.hid hc
  have HL := Lib.hid hl
  clear hc hl
  have hn2 : (n : Int) ≤ 40 := by omega
  go_enter Tryd.func4, Tryd.ntmps4
  go_wp2_with fail
  refine (Run_any s r c _ l _ (HL.out.keep ((Below.refl _ _).alloc (Nat.le_refl _) _))).mono ?_
  rintro e w1 ⟨rfl, hb⟩
  obtain ⟨q, hq⟩ : ∃ q, rW s r c l = q := ⟨_, rfl⟩
  obtain ⟨S, R, C, N, E⟩ := q
  have HQ := Lib.hid hq
  rw [hq]
  clear hq
  have hp1 : Hid (P1 w s r c w1) := bfirst _ _ hb
  have hh1 : Hid (HB [(w.heap.size, #[.int .i64 s, .int .i64 r, .int .i64 c], 23)] w1) := ⟨hp1.out.1, trivial⟩
  clear hb
  obtain ⟨q0, q1, q2⟩ := wcells hp1.out.1
  have hlt1 := hp1.out.lt
  go_wp2_with fail
  refine (rRun_any s r c _ l _ (HL.out.keep (hp1.out.alloc _).2)).mono ?_
  rintro e w2 ⟨rfl, hb⟩
  rw [HQ.out]
  have hp2 := Lib.hid ((hp1.out.alloc _).keep hb)
  have hh2 := Lib.hid ((hh1.out.push _ _).keep hb)
  clear hb q0 q1 q2
  go_wp2_with fail
  refine (begin_any m _).mono ?_
  rintro e w3 ⟨rfl, hb⟩
  have hp3 := Lib.hid ((hp2.out.alloc _).keep hb)
  have hh3 := Lib.hid ((hh2.out.push _ _).keep hb)
  clear hb
  go_wp2_with fail
  refine (rbegin_any m _).mono ?_
  rintro e w4 ⟨rfl, hb⟩
  have hp4 := Lib.hid ((hp3.out.alloc _).keep hb)
  have hh4 := Lib.hid ((hh3.out.push _ _).keep hb)
  clear hb
  have hl1 := lt_of_some hh4.out.1
  have hl2 := lt_of_some hh4.out.2.1
  have hl3 := lt_of_some hh4.out.2.2.1
  obtain ⟨a0, a1, a2⟩ := c3 hh4.out.1
  obtain ⟨b0, b1, b2⟩ := c3 hh4.out.2.1
  obtain ⟨d0, d1, d2⟩ := c3 hh4.out.2.2.1
  go_wp2_with fail
  refine (awake_cl _ (HC.out.below (hp4.out.alloc _).2)).mono ?_
  rintro e w5 ⟨rfl, hb⟩
  have hp5 := Lib.hid ((hp4.out.alloc _).keep hb)
  clear hb
  go_wp2_with fail
  go_ret
  exact ⟨rfl, hp5.out.2⟩

theorem woutRuns_all (s r c : Int) (a : Option Addr) (n cap : Nat) (m : Int) (w : World) (hc : CL w) (hl : n ≤ 40 → ∃ l, IsEvs w (.slice a n cap) l) :
    Calls Tryd.prog 4 #[WV s r c, .slice a n cap, .int .i64 m] w fun e w' => e = .returned (.bool true) ∧ Below w.heap.size w w' := by
  by_cases hn : n ≤ 40
  · obtain ⟨l, hl⟩ := hl hn
    exact woutRuns_walk s r c a n cap l m w hc hn hl
  · exact woutRuns_long s r c a n cap m w hc (by omega)

theorem nine {g0 g1 g2 ge : Nat} {te : TypeId} {ce : Array Value} {s r c X Y Z X' Y' Z' : Int} {W : World} (h : HB [(g2, #[.int .i64 X', .int .i64 Y', .int .i64 Z'], 23), (g1, #[.int .i64 X, .int .i64 Y, .int .i64 Z], 23), (ge, ce, te), (g0, #[.int .i64 s, .int .i64 r, .int .i64 c], 23)] W) :
    W.cell? ⟨g0, 0, none⟩ = some (.int .i64 s) ∧ W.cell? ⟨g0, 1, none⟩ = some (.int .i64 r) ∧ W.cell? ⟨g0, 2, none⟩ = some (.int .i64 c) ∧ W.cell? ⟨g1, 0, none⟩ = some (.int .i64 X) ∧ W.cell? ⟨g1, 1, none⟩ = some (.int .i64 Y) ∧ W.cell? ⟨g1, 2, none⟩ = some (.int .i64 Z) ∧ W.cell? ⟨g2, 0, none⟩ = some (.int .i64 X') ∧ W.cell? ⟨g2, 1, none⟩ = some (.int .i64 Y') ∧ W.cell? ⟨g2, 2, none⟩ = some (.int .i64 Z') := by
  obtain ⟨a0, a1, a2⟩ := c3 h.1
  obtain ⟨b0, b1, b2⟩ := c3 h.2.1
  obtain ⟨d0, d1, d2⟩ := c3 h.2.2.2.1
  exact ⟨d0, d1, d2, b0, b1, b2, a0, a1, a2⟩

set_option maxHeartbeats 2000000 in
theorem woutEvents_walk (s r c k p : Int) (w : World) (hc : CL w) :
    Calls Tryd.prog 7 #[WV s r c, EV k p] w fun e w' => e = .returned (.bool true) ∧ Below w.heap.size w w' := by
  have HC := Lib.hid hc
  clear hc
  have hsm : Hid ((alw s r c == alw s r c) = true) := by show _ = _; simp
  go_enter Tryd.func7, Tryd.ntmps7
  go_wp2_with fail
  refine (Next_any s r c k p _).mono ?_
  rintro e w1 ⟨rfl, hb⟩
  have hh1 : Hid (HB [(w.heap.size + 1, #[.int .i64 k, .int .i64 p], 32), (w.heap.size, #[.int .i64 s, .int .i64 r, .int .i64 c], 23)] w1) := ⟨bkeep hb (h2_1 _ _ _), bkeep hb (h2_0 _ _ _), trivial⟩
  have B1 := Lib.hid (btrans (((Below.refl _ _).alloc (Nat.le_refl _) _).alloc (by simp only [World.size_alloc] <;> omega) _) hb)
  clear hb
  obtain ⟨q0, q1, q2⟩ := c3 hh1.out.2.1
  obtain ⟨p0, p1⟩ := c2 hh1.out.1
  have l0 := lt_of_some hh1.out.1
  have l1 := lt_of_some hh1.out.2.1
  go_wp2_with fail
  refine (rNext_any s r c k p _).mono ?_
  rintro e w2 ⟨rfl, hb⟩
  have hh2 := Lib.hid ((hh1.out.push _ _).keep hb)
  have B2 := Lib.hid (btrans (balloc B1.out _) hb)
  clear hb q0 q1 q2 p0 p1 l0 l1
  obtain ⟨q0, q1, q2⟩ := c3 hh2.out.2.2.1
  have l1 := lt_of_some hh2.out.2.2.1
  go_wp2_with fail
  refine (allowed_any s r c _).mono ?_
  rintro e w3 ⟨va, rfl, ia, hb⟩
  have hh3 := Lib.hid ((hh2.out.push _ _).keep hb)
  have B3 := Lib.hid (btrans (balloc B2.out _) hb)
  have IA := Lib.hid ia
  clear hb q0 q1 q2 l1 ia
  obtain ⟨q0, q1, q2⟩ := c3 hh3.out.2.2.2.1
  go_wp2_with fail
  refine (rallowed_any s r c _).mono ?_
  rintro e w4 ⟨vb, rfl, ib, hb⟩
  have hh4 := Lib.hid (hh3.out.keep hb)
  have B4 := Lib.hid (btrans B3.out hb)
  have IA4 := Lib.hid (IA.out.keep hb)
  have IB4 := Lib.hid ib
  clear hb q0 q1 q2 ib
  go_wp2_with fail
  have s0 := nine hh4.out
  generalize xS s r c k p = X at *
  generalize xR s r c k p = Y at *
  generalize xC s r c k p = Z at *
  go_region_held3 (fun w' => w'.cell? ⟨w.heap.size, 0, none⟩ = some (.int .i64 s) ∧ w'.cell? ⟨w.heap.size, 1, none⟩ = some (.int .i64 r) ∧ w'.cell? ⟨w.heap.size, 2, none⟩ = some (.int .i64 c) ∧ w'.cell? ⟨w1.heap.size, 0, none⟩ = some (.int .i64 X) ∧ w'.cell? ⟨w1.heap.size, 1, none⟩ = some (.int .i64 Y) ∧ w'.cell? ⟨w1.heap.size, 2, none⟩ = some (.int .i64 Z) ∧ w'.cell? ⟨w2.heap.size, 0, none⟩ = some (.int .i64 X) ∧ w'.cell? ⟨w2.heap.size, 1, none⟩ = some (.int .i64 Y) ∧ w'.cell? ⟨w2.heap.size, 2, none⟩ = some (.int .i64 Z))
    (first | exact s0 | exact s1 | exact s2 | exact s3 | exact s4)
    (first | (go_at_call 28; (with_reducible refine (check_any s r c _).mono ?_); rintro e w5 ⟨rfl, hb⟩; have hh5 := Lib.hid (hh4.out.drew.keep hb); have B5 := Lib.hid (btrans B4.out.drew hb); have IA5 := Lib.hid (IsInts.keep (w := w4.drew) IA4.out hb); have IB5 := Lib.hid (IsInts.keep (w := w4.drew) IB4.out hb); have s1 := nine hh5.out; clear hb) | (go_at_call 29; (with_reducible refine (rcheck_any s r c _).mono ?_); rintro e w6 ⟨rfl, hb⟩; have hh6 := Lib.hid (hh5.out.keep hb); have B6 := Lib.hid (btrans B5.out hb); have IA6 := Lib.hid (IA5.out.keep hb); have IB6 := Lib.hid (IB5.out.keep hb); have s2 := nine hh6.out; clear hb) | (go_at_call 30; (with_reducible refine (sameInts_any va vb _ _ _ IA6.out IB6.out).mono ?_); rintro e w7 ⟨rfl, hb⟩; rw [hsm.out]; have hh7 := Lib.hid (hh6.out.keep hb); have B7 := Lib.hid (btrans B6.out hb); have s3 := nine hh7.out; clear hb) | (go_at_call 18; (with_reducible refine (awake_cl _ (HC.out.below B7.out)).mono ?_); rintro e w8 ⟨rfl, hb⟩; have hh8 := Lib.hid (hh7.out.keep hb); have B8 := Lib.hid (btrans B7.out hb); have s4 := nine hh8.out; clear hb))
  go_wp2_with fail
  go_ret
  exact ⟨rfl, B8.out⟩
end Go.Proofs.YtcicgccllhkolaaDoor
