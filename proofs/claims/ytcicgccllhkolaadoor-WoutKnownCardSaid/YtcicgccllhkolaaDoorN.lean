/- Helper facts for the statements of this seat; no statement itself. -/
import Derived.Test.YtcicgccllhkolaaDoorM
namespace Go.Proofs.YtcicgccllhkolaaDoor
open Go.RowKit
set_option linter.unusedSimpArgs false
set_option linter.unusedVariables false
set_option linter.unnecessarySimpa false

/-- append of one integer, the size of the heap spelt otherwise. -/
theorem append_intz {ops : Array Oper} {rest : List Oper} {o : Oper} {a : Act} {W : World} {Q : Exit → Act → World → Prop} (hgd : o.guard = none) (s x : Operand)
    (ho : o.op = .call { callee := .builtin .append, args := #[s, x], argTypes := #[43, 43] }) (base : Nat) (v : Value) (l : List Int) (y : Int) (ty : TypeId) (z : Nat) (hzz : W.heap.size = z)
    (hs : a.eval s = v) (hx : a.eval x = .slice (some ⟨z, 0, none⟩) 1 1) (hown : Hid (Own W base v l)) (hl : l.length < 4294967296) (hbase : base ≤ W.heap.size)
    (h : ∀ v' w', Hid (Own w' base v' (l ++ [y])) → Hid (Below base W w') → wpList Tryd.prog ops Q rest (a.put o.dst v') w') : wpList Tryd.prog ops Q (o :: rest) a (W.alloc (.cells #[.int .i64 y] ty)) := by
  subst hzz
  exact append_int hgd s x ho base v l y ty hs hx hown hl hbase h
theorem take_snoc1 (l : List (Int × Int)) (k : Nat) (h : k < l.length) : (l.take (k + 1)).map (·.1) = (l.take k).map (·.1) ++ [(l.getD k (0, 0)).1] := by
  rw [List.take_succ_eq_append_getElem h, List.map_append]; simp only [List.map_cons, List.map_nil, List.getD, List.getElem?_eq_getElem h, Option.getD_some]

/-- What Allowed gives. -/
def alw (s r c : Int) : List Int := if chk s r c = 0 then alTo s r 6 else []

set_option maxHeartbeats 1000000 in
theorem allowed_bad (s r c : Int) (w : World) (hv : chk s r c ≠ 0) :
    Calls Tryd.prog 26 #[WV s r c] w fun e w' => e = .returned (.tuple #[.slice none 0 0, .int .i64 (chk s r c)]) ∧ Below w.heap.size w w' := by
  have h' : (chk s r c != 0) = true := by simpa using hv
  clear hv
  go_enter Tryd.func26, Tryd.ntmps26
  go_wp2_with fail
  refine (check_any s r c _).mono ?_
  rintro e w1 ⟨rfl, hb⟩
  have B1 := Lib.hid (bfirst _ _ hb).2
  clear hb
  go_wp2_with fail
  go_ret2
  exact ⟨rfl, B1.out⟩

set_option maxHeartbeats 2000000 in
theorem allowed_good (s r c : Int) (w : World) (hv : chk s r c = 0) :
    Calls Tryd.prog 26 #[WV s r c] w fun e w' => ∃ v, e = .returned (.tuple #[v, .int .i64 0]) ∧ IsInts w' v (alTo s r 6) ∧ Below w.heap.size w w' := by
  have HV := Lib.hid hv
  clear hv
  go_enter Tryd.func26, Tryd.ntmps26
  go_wp2_with fail
  refine (check_any s r c _).mono ?_
  rintro e w1 ⟨rfl, hb⟩
  rw [HV.out]
  obtain ⟨g0, b0⟩ := bfirst _ _ hb
  have hp : Hid (P1 w s r c w1) := ⟨g0, b0⟩
  obtain ⟨q0, q1, q2⟩ := wcells g0
  clear hb g0 b0
  go_wp2_with fail
  refine (events_any s r c _ HV.out).mono ?_
  rintro e w2 ⟨v, rfl, ⟨a, n, cap, rfl, hn, hn2, hl⟩, hb⟩
  have B2 := Lib.hid (hp.out.keep hb).2
  clear hb q0 q1 q2 hp
  have HM := Lib.hid (evTo_map s r 6)
  have hle := evTo_len s r 6
  generalize evTo s r 6 = l at *
  rcases hl with rfl | ⟨b, off, rfl, hl⟩
  · obtain rfl : n = 0 := hn
    clear hn2 hle
    go_wp2_with fail
    refine wp_loop_rounds 1 ?_
    rw [rounds_succ]
    go_wp2_with fail
    go_ret2
    exact ⟨_, rfl, by rw [← HM.out]; exact IsInts.nil _ _ _, B2.out⟩
  · have HL := Lib.hid hl
    have HN := Lib.hid hn
    have hn6 : n ≤ 6 := by omega
    clear hl hn hn2 hle
    go_wp2_with fail
    go_loopw [5, 16] (fun v i wr => ∃ k : Nat, k ≤ n ∧ i = .int .i64 k ∧ Hid (Own wr w2.heap.size v ((l.take k).map (·.1))) ∧ Hid (Below w2.heap.size w2 wr)) (fun _ i _ => n - (intOf i).toNat)
    case atStart => exact ⟨0, by omega, rfl, Own.nil _ _, Below.refl _ _⟩
    case round =>
      obtain ⟨k, hk, rfl, ho, hb⟩ := hrel
      by_cases hkn : k < n
      · obtain ⟨d0, d1⟩ := HL.out k (by have := HN.out; omega)
        have c0 := (hb.out.cell (cell_lt d0)).trans d0
        have c1 := (hb.out.cell (cell_lt d1)).trans d1
        have HT := Lib.hid (take_snoc1 l k (by have := HN.out; omega))
        have hsz := hb.out.size
        have hlen : ((l.take k).map (·.1)).length ≤ k := by simp; omega
        generalize (l.getD k (0, 0)).1 = kk at *
        generalize (l.getD k (0, 0)).2 = pp at *
        clear d0 d1
        have i1 : (0 : Int) ≤ (k : Int) := by omega
        have i2 : (k : Int) < (n : Int) := by omega
        have ho2 := Lib.hid (ho.out.alloc (.cells #[.int .i64 kk, .int .i64 pp] 32))
        generalize (l.take k).map (·.1) = lk at *
        go_wp2_with (((with_reducible refine append_intz ?a1 (.tmp 20) (.tmp 23) ?a2 w2.heap.size u5 lk kk 3 (wr.heap.size + 1) ?a3 ?a4 ?a5 ho2 ?a6 ?a7 ?_); (case a1 => rfl); (case a2 => rfl); (case a3 => exact World.size_alloc _ _); (case a4 => rfl); (case a5 => rfl); (case a6 => omega); (case a7 => simp only [World.size_alloc] <;> omega)); intro v' w4 ho4 hb4)
        go_roundw
        case rel => exact ⟨k + 1, by omega, by go_num, by rw [HT.out]; exact ho4, (hb.out.alloc hb.out.size _).trans hb4.out⟩
        case measure => simp [intOf]; omega
      · have hle : n ≤ k := by omega
        have HF : Hid ((l.take k).map (·.1) = alTo s r 6) := by
          show _ = _
          rw [List.take_of_length_le (by have := HN.out; omega), HM.out]
        have hll : Hid ((alTo s r 6).length ≤ 6) := by show _ ≤ _; rw [← HM.out]; simp; have := HN.out; omega
        go_wp2_with fail
        go_ret2
        exact ⟨_, rfl, by rw [← HF.out]; exact ho.out.ints (by rw [HF.out]; have := hll.out; omega), B2.out.trans (hb.out.mono B2.out.size)⟩

theorem allowed_any (s r c : Int) (w : World) :
    Calls Tryd.prog 26 #[WV s r c] w fun e w' => ∃ v, e = .returned (.tuple #[v, .int .i64 (chk s r c)]) ∧ IsInts w' v (alw s r c) ∧ Below w.heap.size w w' := by
  unfold alw
  by_cases hv : chk s r c = 0
  · rw [if_pos hv, hv]; exact allowed_good s r c w hv
  · rw [if_neg hv]; exact (allowed_bad s r c w hv).mono fun _ _ ⟨he, hb⟩ => ⟨_, he, IsInts.nil _ _ _, hb⟩

set_option maxHeartbeats 1000000 in
theorem rallowed_bad (s r c : Int) (w : World) (hv : chk s r c ≠ 0) :
    Calls Tryd.prog 27 #[WV s r c] w fun e w' => e = .returned (.tuple #[.slice none 0 0, .int .i64 (chk s r c)]) ∧ Below w.heap.size w w' := by
  have h' : (chk s r c != 0) = true := by simpa using hv
  clear hv
  go_enter Tryd.func27, Tryd.ntmps27
  go_wp2_with fail
  refine (rcheck_any s r c _).mono ?_
  rintro e w1 ⟨rfl, hb⟩
  have B1 := Lib.hid (bfirst _ _ hb).2
  clear hb
  go_wp2_with fail
  go_ret2
  exact ⟨rfl, B1.out⟩

set_option maxHeartbeats 2000000 in
theorem rallowed_good (s r c : Int) (w : World) (hv : chk s r c = 0) :
    Calls Tryd.prog 27 #[WV s r c] w fun e w' => ∃ v, e = .returned (.tuple #[v, .int .i64 0]) ∧ IsInts w' v (alTo s r 6) ∧ Below w.heap.size w w' := by
  have HV := Lib.hid hv
  clear hv
  go_enter Tryd.func27, Tryd.ntmps27
  go_wp2_with fail
  refine (rcheck_any s r c _).mono ?_
  rintro e w1 ⟨rfl, hb⟩
  rw [HV.out]
  have hp1 : Hid (P1 w s r c w1) := bfirst _ _ hb
  clear hb
  go_wp2_with fail
  go_loopw [5, 6] (fun v i wr => ∃ j : Nat, j ≤ 6 ∧ i = .int .i64 ((j : Int) + 1) ∧ Hid (Own wr (w.heap.size + 1) v (alTo s r j)) ∧ Hid (P1 w s r c wr)) (fun _ i _ => 7 - (intOf i).toNat)
  case atStart => exact ⟨0, by omega, rfl, Own.nil _ _, hp1⟩
  case round =>
    obtain ⟨j, hj, rfl, ho, hp⟩ := hrel
    have hlt := hp.out.lt
    obtain ⟨q0, q1, q2⟩ := wcells hp.out.1
    by_cases hj6 : j < 6
    · have hlen := alTo_len s r j
      have HT : Hid (alTo s r (j + 1) = if psb s r ((j : Int) + 1) = 0 then alTo s r j ++ [(j : Int) + 1] else alTo s r j) := rfl
      have hx1 : 1 ≤ (j : Int) + 1 := by omega
      have hx2 : (j : Int) + 1 ≤ 6 := by omega
      generalize hx : (j : Int) + 1 = x at *
      have HX := Lib.hid hx
      clear hx
      go_wp2_with fail
      refine (possible_any s r c x _).mono ?_
      rintro e w2 ⟨rfl, hb⟩
      have hp2 := Lib.hid (hp.out.keep hb)
      have ho2 := Lib.hid (ho.out.keep hb)
      have hlt2 := hp2.out.lt
      clear hb q0 q1 q2
      by_cases hps : psb s r x = 0
      · have HT2 : Hid (alTo s r (j + 1) = alTo s r j ++ [x]) := by show _ = _; rw [HT.out, if_pos hps]
        rw [hps]
        clear hps
        go_wp2_with (((with_reducible refine append_intz ?a1 (.tmp 20) (.tmp 22) ?a2 (w.heap.size + 1) u5 (alTo s r j) x 3 w2.heap.size ?a3 ?a4 ?a5 ho2 ?a6 ?a7 ?_); (case a1 => rfl); (case a2 => rfl); (case a3 => rfl); (case a4 => rfl); (case a5 => rfl); (case a6 => omega); (case a7 => omega)); intro v' w4 ho4 hb4)
        go_roundw
        case rel => exact ⟨j + 1, by omega, congrArg (Value.int .i64) (by have := HX.out; omega), by rw [HT2.out]; exact ho4, hp2.out.base hb4.out⟩
        case measure => have := HX.out; (first | (simp [intOf]; omega) | simp [intOf])
      · have HT2 : Hid (alTo s r (j + 1) = alTo s r j) := by show _ = _; rw [HT.out, if_neg hps]
        have b0 : (psb s r x == 0) = false := by simpa using hps
        clear hps
        go_wp2_with fail
        go_roundw
        case rel => exact ⟨j + 1, by omega, congrArg (Value.int .i64) (by have := HX.out; omega), by rw [HT2.out]; exact ho2, hp2⟩
        case measure => have := HX.out; (first | (simp [intOf]; omega) | simp [intOf])
    · have he : 6 ≤ j := by omega
      obtain rfl : j = 6 := by omega
      go_wp2_with fail
      go_ret2
      exact ⟨_, rfl, ho.out.ints (by have := alTo_len s r 6; omega), hp.out.2⟩

theorem rallowed_any (s r c : Int) (w : World) :
    Calls Tryd.prog 27 #[WV s r c] w fun e w' => ∃ v, e = .returned (.tuple #[v, .int .i64 (chk s r c)]) ∧ IsInts w' v (alw s r c) ∧ Below w.heap.size w w' := by
  unfold alw
  by_cases hv : chk s r c = 0
  · rw [if_pos hv, hv]; exact rallowed_good s r c w hv
  · rw [if_neg hv]; exact (rallowed_bad s r c w hv).mono fun _ _ ⟨he, hb⟩ => ⟨_, he, IsInts.nil _ _ _, hb⟩
end Go.Proofs.YtcicgccllhkolaaDoor
