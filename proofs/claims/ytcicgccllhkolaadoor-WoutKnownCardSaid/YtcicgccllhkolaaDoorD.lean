/- Helper facts for the statements of this seat; no statement itself. -/
import Derived.Test.YtcicgccllhkolaaDoorC
namespace Go.Proofs.YtcicgccllhkolaaDoor
open Go.RowKit
set_option linter.unusedSimpArgs false
set_option linter.unusedVariables false
set_option linter.unnecessarySimpa false

theorem size23 : (Tryd.prog.info? 23).map (·.size) = some 3 := by kernel_rfl
section
variable {ops : Array Oper} {rest : List Oper} {o : Oper} {a : Act} {w : World} {Q : Exit → Act → World → Prop}
/-- A page on its way is stored whole. -/
theorem st23 (x y : Operand) (hgd : o.guard = none) (ho : o.op = .store 23 x y) (g : Nat) (s r c : Int) (old : Array Value) (hx : a.eval x = .pointer (some ⟨g, 0, none⟩)) (hy : a.eval y = WV s r c) (hd : old.size = 3) (t : TypeId) (hg : w.heap[g]? = some (.cells old t (0, 0)))
    (h : wpList Tryd.prog ops Q rest (a.put o.dst undef) (w.setRow g #[.int .i64 s, .int .i64 r, .int .i64 c])) : wpList Tryd.prog ops Q (o :: rest) a w :=
  wpList_store_row hgd 23 x y ho g #[.int .i64 s, .int .i64 r, .int .i64 c] hx hy t old hg (by rw [size23]; rfl) (by rw [hd]; rfl) (by simp [Value.oneCell']) h
end
theorem wcells {w : World} {g : Nat} {t : TypeId} {s r c : Value} (h : w.heap[g]? = some (.cells #[s, r, c] t (0, 0))) : w.cell? ⟨g, 0, none⟩ = some s ∧ w.cell? ⟨g, 1, none⟩ = some r ∧ w.cell? ⟨g, 2, none⟩ = some c :=
  ⟨setRow_cell h rfl, setRow_cell h rfl, setRow_cell h rfl⟩
theorem ecells {w : World} {g : Nat} {t : TypeId} {s r : Value} (h : w.heap[g]? = some (.cells #[s, r] t (0, 0))) : w.cell? ⟨g, 0, none⟩ = some s ∧ w.cell? ⟨g, 1, none⟩ = some r :=
  ⟨setRow_cell h rfl, setRow_cell h rfl⟩
/-- Results: a page on its way, and an error. -/
theorem res23 {fn : Func} {p u : Tmp} (h : fn.results = #[.cell p 23, .tmp u]) (tmps : Array Value) (w : World) (g : Nat) (t : TypeId) (s r c : Int)
    (hp : tmps.getD p undef = .pointer (some ⟨g, 0, none⟩)) (hg : w.heap[g]? = some (.cells #[.int .i64 s, .int .i64 r, .int .i64 c] t (0, 0))) :
    (results fn tmps).run Tryd.prog w = .ok (.tuple #[WV s r c, tmps.getD u undef]) w := by
  rw [results_cell_tmp h, hp]
  simp only [asAddr]
  have := run_loadVar_row (P := Tryd.prog) w g t 23 #[.int .i64 s, .int .i64 r, .int .i64 c] (0, 0) _ hg Tryd.underlying23 rfl (by rw [size23]; rfl)
  simp [Sem.run_pure, Result.andThen, this]

set_option maxHeartbeats 1000000 in
theorem next_bad (s r c k p : Int) (w : World) (h : evk k p ≠ 0) :
    Calls Tryd.prog 33 #[WV s r c, EV k p] w fun e w' => e = .returned (.tuple #[WV 0 0 0, .int .i64 (evk k p)]) ∧ Below w.heap.size w w' := by
  have h' : (evk k p != 0) = true := by simpa using h
  clear h
  go_enter Tryd.func33, Tryd.ntmps33
  go_wp2_with fail
  refine (checkEvent_any k p _).mono ?_
  rintro e w1 ⟨rfl, hb⟩
  have G2 := Lib.hid (bkeep hb (h3_2 _ _ _ _))
  have B1 := Lib.hid (btrans ((((Below.refl _ _).alloc (Nat.le_refl _) _).alloc (by simp only [World.size_alloc] <;> omega) _).alloc (by simp only [World.size_alloc] <;> omega) _) hb)
  clear hb
  generalize hq : evk k p = q at *
  have HQ := Lib.hid hq
  clear hq
  go_wp2_with ((with_reducible refine st23 (.tmp 4) (.tmp 11) ?a0 ?a1 (w.heap.size + 1 + 1) 0 0 0 #[.int .i64 0, .int .i64 0, .int .i64 0] ?a2 ?a3 ?a4 23 ?a5 ?_); (case a0 => rfl); (case a1 => rfl); (case a2 => rfl); (case a3 => rfl); (case a4 => rfl); (case a5 => exact G2.out))
  refine bodyPost_ret (v := .tuple #[WV 0 0 0, .int .i64 q]) ?_ rfl ⟨by rw [HQ.out], ?_⟩
  · exact res23 (fn := Tryd.f33) (p := 4) (u := 5) rfl _ _ (w.heap.size + 1 + 1) 23 0 0 0 (by rfl) (setRow_heap _ _ _ _ _ _ G2.out)
  · exact below_setRow B1.out (by omega) _

/-- The states in which an event is impossible whatever Refs is. -/
def msk (s k : Int) : Bool := if k = 1 ∨ k = 2 then decide (s = 6) else if k = 3 then decide (s ≠ 1) else if k = 4 then decide (s ≠ 2) else if k = 5 then decide (s ≠ 3) else decide (s ≠ 2 ∧ s ≠ 3)
theorem six {k : Int} (h1 : 1 ≤ k) (h2 : k ≤ 6) : k = 1 ∨ k = 2 ∨ k = 3 ∨ k = 4 ∨ k = 5 ∨ k = 6 := by omega
theorem msk_eq (s k : Int) (hs1 : 1 ≤ s) (hs2 : s ≤ 6) (hk1 : 1 ≤ k) (hk2 : k ≤ 6) : (bits BinOp.and IntKind.u64 (6624556486144 / 2 ^ (8 * s + k).toNat) 1 == 0) = msk s k := by
  rcases six hs1 hs2 with rfl | rfl | rfl | rfl | rfl | rfl <;> rcases six hk1 hk2 with rfl | rfl | rfl | rfl | rfl | rfl <;> decide

set_option maxHeartbeats 1000000 in
theorem next_state (s r c k p : Int) (w : World) (h : evk k p = 0) (hs1 : 1 ≤ s) (hs2 : s ≤ 6) (hk1 : 1 ≤ k) (hk2 : k ≤ 6) (hm : msk s k = true) :
    Calls Tryd.prog 33 #[WV s r c, EV k p] w fun e w' => e = .returned (.tuple #[WV 0 0 0, .int .i64 9]) ∧ Below w.heap.size w w' := by
  have hmk := msk_eq s k hs1 hs2 hk1 hk2
  rw [hm] at hmk
  clear hm
  have HE := Lib.hid h
  clear h
  go_enter Tryd.func33, Tryd.ntmps33
  go_wp2_with fail
  refine (checkEvent_any k p _).mono ?_
  rintro e w1 ⟨rfl, hb⟩
  rw [HE.out]
  have G0 := Lib.hid (bkeep hb (h3_0 _ _ _ _))
  have G1 := Lib.hid (bkeep hb (h3_1 _ _ _ _))
  have G2 := Lib.hid (bkeep hb (h3_2 _ _ _ _))
  have B1 := Lib.hid (btrans ((((Below.refl _ _).alloc (Nat.le_refl _) _).alloc (by simp only [World.size_alloc] <;> omega) _).alloc (by simp only [World.size_alloc] <;> omega) _) hb)
  clear hb
  obtain ⟨q0, q1, q2⟩ := wcells G0.out
  obtain ⟨p0, p1⟩ := ecells G1.out
  go_wp2_with (((with_reducible refine st23 (.tmp 4) (.tmp 23) ?a1 ?b1 (w.heap.size + 1 + 1) 0 0 0 #[.int .i64 0, .int .i64 0, .int .i64 0] ?c1 ?d1 ?e1 23 ?f1 ?_); (case a1 => rfl); (case b1 => rfl); (case c1 => rfl); (case d1 => rfl); (case e1 => rfl); (case f1 => exact G2.out)))
  refine bodyPost_ret (v := .tuple #[WV 0 0 0, .int .i64 9]) ?_ rfl ⟨rfl, ?_⟩
  · exact res23 (fn := Tryd.f33) (p := 4) (u := 5) rfl _ _ (w.heap.size + 1 + 1) 23 0 0 0 (by rfl) (setRow_heap _ _ _ _ _ _ G2.out)
  · exact below_setRow B1.out (by omega) _

set_option maxHeartbeats 1000000 in
theorem next_count (s r c k p : Int) (w : World) (h : evk k p = 0) (hs1 : 1 ≤ s) (hs2 : s ≤ 6) (hk1 : 1 ≤ k) (hk2 : k ≤ 6) (hm : msk s k = false) (hc : cnt s r k = false) :
    Calls Tryd.prog 33 #[WV s r c, EV k p] w fun e w' => e = .returned (.tuple #[WV 0 0 0, .int .i64 15]) ∧ Below w.heap.size w w' := by
  have hmk := msk_eq s k hs1 hs2 hk1 hk2
  rw [hm] at hmk
  have HC := Lib.hid hc
  clear hm hc
  have HE := Lib.hid h
  clear h
  go_enter Tryd.func33, Tryd.ntmps33
  go_wp2_with fail
  refine (checkEvent_any k p _).mono ?_
  rintro e w1 ⟨rfl, hb⟩
  rw [HE.out]
  have G0 := Lib.hid (bkeep hb (h3_0 _ _ _ _))
  have G1 := Lib.hid (bkeep hb (h3_1 _ _ _ _))
  have G2 := Lib.hid (bkeep hb (h3_2 _ _ _ _))
  have B1 := Lib.hid (btrans ((((Below.refl _ _).alloc (Nat.le_refl _) _).alloc (by simp only [World.size_alloc] <;> omega) _).alloc (by simp only [World.size_alloc] <;> omega) _) hb)
  clear hb
  obtain ⟨q0, q1, q2⟩ := wcells G0.out
  obtain ⟨p0, p1⟩ := ecells G1.out
  go_wp2_with fail
  refine (counts_any s r c k _).mono ?_
  rintro e w2 ⟨rfl, hb⟩
  rw [HC.out]
  have G3 := Lib.hid (bkeep hb G2.out)
  have B2 := Lib.hid (btrans B1.out hb)
  clear hb
  go_wp2_with (((with_reducible refine st23 (.tmp 4) (.tmp 29) ?a2 ?b2 (w.heap.size + 1 + 1) 0 0 0 #[.int .i64 0, .int .i64 0, .int .i64 0] ?c2 ?d2 ?e2 23 ?f2 ?_); (case a2 => rfl); (case b2 => rfl); (case c2 => rfl); (case d2 => rfl); (case e2 => rfl); (case f2 => exact G3.out)))
  refine bodyPost_ret (v := .tuple #[WV 0 0 0, .int .i64 15]) ?_ rfl ⟨rfl, ?_⟩
  · exact res23 (fn := Tryd.f33) (p := 4) (u := 5) rfl _ _ (w.heap.size + 1 + 1) 23 0 0 0 (by rfl) (setRow_heap _ _ _ _ _ _ G3.out)
  · exact below_setRow B2.out (by omega) _

set_option maxHeartbeats 1000000 in
theorem next_ok (s r c k p : Int) (w : World) (h : evk k p = 0) (hs1 : 1 ≤ s) (hs2 : s ≤ 6) (hk1 : 1 ≤ k) (hk2 : k ≤ 6) (hr : 0 ≤ r) (hr2 : r ≤ 512) (hm : msk s k = false) (hc : cnt s r k = true) :
    Calls Tryd.prog 33 #[WV s r c, EV k p] w fun e w' => e = .returned (.tuple #[WV (aS s r k) (aR s r k) (aC s c k p), .int .i64 0]) ∧ Below w.heap.size w w' := by
  have hmk := msk_eq s k hs1 hs2 hk1 hk2
  rw [hm] at hmk
  have HC := Lib.hid hc
  have h2 : Hid (k = 2 → 1 ≤ r) := fun h => by
    subst h
    simp [cnt] at hc
    by_cases hs3 : s = 3
    · rw [if_pos hs3] at hc; omega
    · rw [if_neg hs3] at hc; omega
  clear hm hc
  have HE := Lib.hid h
  clear h
  go_enter Tryd.func33, Tryd.ntmps33
  go_wp2_with fail
  refine (checkEvent_any k p _).mono ?_
  rintro e w1 ⟨rfl, hb⟩
  rw [HE.out]
  have G0 := Lib.hid (bkeep hb (h3_0 _ _ _ _))
  have G1 := Lib.hid (bkeep hb (h3_1 _ _ _ _))
  have G2 := Lib.hid (bkeep hb (h3_2 _ _ _ _))
  have B1 := Lib.hid (btrans ((((Below.refl _ _).alloc (Nat.le_refl _) _).alloc (by simp only [World.size_alloc] <;> omega) _).alloc (by simp only [World.size_alloc] <;> omega) _) hb)
  clear hb
  obtain ⟨q0, q1, q2⟩ := wcells G0.out
  obtain ⟨p0, p1⟩ := ecells G1.out
  go_wp2_with fail
  refine (counts_any s r c k _).mono ?_
  rintro e w2 ⟨rfl, hb⟩
  rw [HC.out]
  have G3 := Lib.hid (bkeep hb G2.out)
  have B2 := Lib.hid (btrans B1.out hb)
  obtain ⟨r0, r1, r2⟩ := wcells (bkeep hb G0.out)
  obtain ⟨t0, t1⟩ := ecells (bkeep hb G1.out)
  clear hb q0 q1 q2 p0 p1
  go_wp2_with fail
  refine (after_any s r c k p _ hr hr2 hk1 hk2 h2.out).mono ?_
  rintro e w3 ⟨rfl, hb⟩
  have G4 := Lib.hid (bkeep hb G3.out)
  have B3 := Lib.hid (btrans B2.out hb)
  clear hb r0 r1 r2 t0 t1
  go_wp2_with ((with_reducible refine st23 (.tmp 4) (.tmp 32) ?a9 ?b9 (w.heap.size + 1 + 1) (aS s r k) (aR s r k) (aC s c k p) #[.int .i64 0, .int .i64 0, .int .i64 0] ?c9 ?d9 ?e9 23 ?f9 ?_); (case a9 => rfl); (case b9 => rfl); (case c9 => rfl); (case d9 => rfl); (case e9 => rfl); (case f9 => exact G4.out))
  refine bodyPost_ret (v := .tuple #[WV (aS s r k) (aR s r k) (aC s c k p), .int .i64 0]) ?_ rfl ⟨rfl, ?_⟩
  · exact res23 (fn := Tryd.f33) (p := 4) (u := 5) rfl _ _ (w.heap.size + 1 + 1) 23 (aS s r k) (aR s r k) (aC s c k p) (by rfl) (setRow_heap _ _ _ _ _ _ G4.out)
  · exact below_setRow B3.out (by omega) _

end Go.Proofs.YtcicgccllhkolaaDoor
