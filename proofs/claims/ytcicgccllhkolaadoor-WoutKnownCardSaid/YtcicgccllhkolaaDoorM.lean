/- Helper facts for the statements of this seat; no statement itself. -/
import Derived.Test.YtcicgccllhkolaaDoorL
namespace Go.Proofs.YtcicgccllhkolaaDoor
open Go.RowKit
set_option linter.unusedSimpArgs false
set_option linter.unusedVariables false
set_option linter.unnecessarySimpa false

/-- The cells of events. -/
def evC (l : List (Int × Int)) : List Value := l.flatMap fun e => [.int .i64 e.1, .int .i64 e.2]
theorem evC_length (l : List (Int × Int)) : (evC l).length = l.length * 2 := by
  induction l with
  | nil => rfl
  | cons a l ih => simp only [evC, List.flatMap_cons, List.length_append] at *; rw [ih]; simp; omega
theorem evC_get (l : List (Int × Int)) : ∀ (k : Nat), k < l.length → (evC l)[k * 2]? = some (.int .i64 (l.getD k (0, 0)).1) ∧ (evC l)[k * 2 + 1]? = some (.int .i64 (l.getD k (0, 0)).2) := by
  induction l with
  | nil => intro k hk; simp at hk
  | cons a l ih =>
    intro k hk
    cases k with
    | zero => simp [evC]
    | succ k =>
      have := ih k (by simpa using hk)
      rw [show (k + 1) * 2 = k * 2 + 1 + 1 by omega]
      simpa [evC] using this
/-- A slice of the call's own that holds these events. -/
def OwnE (w : World) (base : Nat) (v : Value) (l : List (Int × Int)) : Prop := w.ownsRow base 32 2 v l.length (evC l)
theorem OwnE.evs {w : World} {base : Nat} {v : Value} {l : List (Int × Int)} (h : OwnE w base v l) (hl : l.length ≤ 4294967296) : IsEvs w v l := by
  obtain ⟨_, h | ⟨g, cap, cur, hv, _, hg, _, _, _, ht⟩⟩ := h
  · obtain ⟨rfl, h0⟩ := h
    have : l = [] := List.length_eq_zero_iff.1 h0
    subst this
    exact ⟨_, _, _, rfl, rfl, by simp, .inl rfl⟩
  · refine ⟨_, _, _, hv, rfl, hl, .inr ⟨g, 0, rfl, fun k hk => ?_⟩⟩
    obtain ⟨e0, e1⟩ := evC_get l k hk
    rw [← ht] at e0 e1
    rw [List.getElem?_take] at e0 e1
    rw [if_pos (by omega)] at e0 e1
    rw [cell_of_row w g (0 + k * 2) cur _ (0, 0) hg, cell_of_row w g (0 + k * 2 + 1) cur _ (0, 0) hg]
    simp only [Nat.zero_add]
    exact ⟨by simpa using e0, by simpa using e1⟩
theorem OwnE.nil (w : World) (base : Nat) : OwnE w base (.slice none 0 0) [] := World.ownsRow_nil w base _ 2
theorem OwnE.alloc {w : World} {base : Nat} {v : Value} {l : List (Int × Int)} (h : OwnE w base v l) (o : Obj) : OwnE (w.alloc o) base v l := World.ownsRow.alloc h o
theorem OwnE.keep {w w' : World} {base : Nat} {v : Value} {l : List (Int × Int)} (h : OwnE w base v l) (hb : Below w.heap.size w w') : OwnE w' base v l := by
  obtain ⟨h1, h2 | ⟨g, cap, cur, hv, h3, hg, h4⟩⟩ := h
  · exact ⟨h1, .inl h2⟩
  · exact ⟨h1, .inr ⟨g, cap, cur, hv, h3, bkeep hb hg, h4⟩⟩
theorem Own.keep {w w' : World} {base : Nat} {v : Value} {l : List Int} (h : Own w base v l) (hb : Below w.heap.size w w') : Own w' base v l := by
  obtain ⟨h1, h2 | ⟨g, cap, cur, hv, h3, hg, h4⟩⟩ := h
  · exact ⟨h1, .inl h2⟩
  · exact ⟨h1, .inr ⟨g, cap, cur, hv, h3, bkeep hb hg, h4⟩⟩

theorem info32 : (Tryd.prog.info? 32).map (fun i => (i.zero, i.size, i.bytes)) = some (some (.agg #[.int .i64 0, .int .i64 0]), 2, 16) := by kernel_rfl
/-- append of one event to such a slice. -/
theorem append_ev {ops : Array Oper} {rest : List Oper} {o : Oper} {a : Act} {W : World} {Q : Exit → Act → World → Prop} (hgd : o.guard = none) (s x : Operand)
    (ho : o.op = .call { callee := .builtin .append, args := #[s, x], argTypes := #[40, 40] }) (base : Nat) (v : Value) (l : List (Int × Int)) (k p : Int) (ty : TypeId)
    (z : Nat) (hzz : W.heap.size = z) (hs : a.eval s = v) (hx : a.eval x = .slice (some ⟨z, 0, none⟩) 1 1) (hown : Hid (OwnE W base v l)) (hl : l.length < 4294967296) (hbase : base ≤ W.heap.size)
    (h : ∀ v' w', Hid (OwnE w' base v' (l ++ [(k, p)])) → Hid (Below base W w') → wpList Tryd.prog ops Q rest (a.put o.dst v') w') : wpList Tryd.prog ops Q (o :: rest) a (W.alloc (.cells #[.int .i64 k, .int .i64 p] ty)) := by
  subst hzz
  obtain ⟨i, hi, hz, hs1, hby⟩ := info_parts info32
  refine wpList_append_own (W.alloc (.cells #[.int .i64 k, .int .i64 p] ty)) hgd s x 40 ho base 32 i (.agg #[.int .i64 0, .int .i64 0]) 2 16 Tryd.underlying40 hi hz hs1 hby rfl (by decide) v l.length (evC l) hs (World.ownsRow.alloc hown.out _)
    ⟨W.heap.size, 0, none⟩ 1 1 [.int .i64 k, .int .i64 p] hx rfl ?_ ?_ ?_ ?_ ?_ ?_
  · intro j u hj
    have hj2 := (List.getElem?_eq_some_iff.1 hj).1
    have : j = 0 ∨ j = 1 := by simp at hj2; omega
    rcases this with rfl | rfl
    · simp at hj; subst hj
      exact setRow_cell (t := ty) (h1_0 W _) rfl
    · simp at hj; subst hj
      exact setRow_cell (t := ty) (h1_0 W _) rfl
  · intro u hu; simp at hu; rcases hu with rfl | rfl <;> rfl
  · simp only [maxLen]; omega
  · omega
  · simp only [World.size_alloc] <;> omega
  · intro v' w' h1 h2 _
    refine h v' w' ?_ ?_
    · show w'.ownsRow _ _ _ _ _ _
      simpa [evC] using h1
    · exact Below.grown (Below.alloc (Below.refl _ _) hbase _) h2 (by simp only [World.size_alloc] <;> omega) (fun k hk => (World.ownsRow.lt hown.out k hk).1)

/-- The events that are possible, of the first kinds. -/
def evTo (s r : Int) : Nat → List (Int × Int)
  | 0 => []
  | j + 1 => if psb s r ((j : Int) + 1) = 0 then evTo s r j ++ [((j : Int) + 1, if j = 3 then 1 else 0)] else evTo s r j
/-- Their kinds. -/
def alTo (s r : Int) : Nat → List Int
  | 0 => []
  | j + 1 => if psb s r ((j : Int) + 1) = 0 then alTo s r j ++ [(j : Int) + 1] else alTo s r j
theorem evTo_len (s r : Int) (j : Nat) : (evTo s r j).length ≤ j := by
  induction j with
  | zero => simp [evTo]
  | succ j ih => unfold evTo; split <;> (try simp) <;> omega
theorem alTo_len (s r : Int) (j : Nat) : (alTo s r j).length ≤ j := by
  induction j with
  | zero => simp [alTo]
  | succ j ih => unfold alTo; split <;> (try simp) <;> omega
theorem evTo_map (s r : Int) (j : Nat) : (evTo s r j).map (·.1) = alTo s r j := by
  induction j with
  | zero => rfl
  | succ j ih => unfold evTo alTo; split <;> simp [ih]
theorem nE_kind (s r : Int) (j : Nat) (hj : j < 6) : nE s r ((j : Int) + 1) (if j = 3 then 1 else 0) = psb s r ((j : Int) + 1) := by
  unfold nE
  rw [if_pos]
  have : j = 0 ∨ j = 1 ∨ j = 2 ∨ j = 3 ∨ j = 4 ∨ j = 5 := by omega
  rcases this with rfl | rfl | rfl | rfl | rfl | rfl <;> rfl

/-- The world of a walk with one box: a page. -/
def P1 (w : World) (s r c : Int) (wr : World) : Prop :=
  wr.heap[w.heap.size]? = some (.cells #[.int .i64 s, .int .i64 r, .int .i64 c] 23 (0, 0)) ∧ Below w.heap.size w wr
theorem P1.keep {w wr w' : World} {s r c : Int} (h : P1 w s r c wr) (hb : Below wr.heap.size wr w') : P1 w s r c w' := ⟨bkeep hb h.1, btrans h.2 hb⟩
theorem P1.alloc {w wr : World} {s r c : Int} (h : P1 w s r c wr) (o : Obj) : P1 w s r c (wr.alloc o) := ⟨hold1 h.1 o, balloc h.2 o⟩
theorem P1.base {w wr w' : World} {s r c : Int} (h : P1 w s r c wr) (hb : Below (w.heap.size + 1) wr w') : P1 w s r c w' := ⟨(hb.block _ (by omega)).trans h.1, h.2.trans (hb.mono (by omega))⟩
theorem P1.lt {w wr : World} {s r c : Int} (h : P1 w s r c wr) : w.heap.size < wr.heap.size := lt_of_some h.1

set_option maxHeartbeats 2000000 in
theorem events_any (s r c : Int) (w : World) (hv : chk s r c = 0) :
    Calls Tryd.prog 37 #[WV s r c] w fun e w' => ∃ v, e = .returned v ∧ IsEvs w' v (evTo s r 6) ∧ Below w.heap.size w w' := by
  have HV := Lib.hid hv
  clear hv
  go_enter Tryd.func37, Tryd.ntmps37
  go_wp2_with fail
  go_loopw [3, 4] (fun v i wr => ∃ j : Nat, j ≤ 6 ∧ i = .int .i64 ((j : Int) + 1) ∧ Hid (OwnE wr (w.heap.size + 1) v (evTo s r j)) ∧ Hid (P1 w s r c wr)) (fun _ i _ => 7 - (intOf i).toNat)
  case atStart => exact ⟨0, by omega, rfl, OwnE.nil _ _, ⟨h1_0 _ _, ((Below.refl _ _).alloc (Nat.le_refl _) _)⟩⟩
  case round =>
    obtain ⟨j, hj, rfl, ho, hp⟩ := hrel
    have hlt := hp.out.lt
    obtain ⟨q0, q1, q2⟩ := wcells hp.out.1
    by_cases hj6 : j < 6
    · have hlen := evTo_len s r j
      have HT : Hid (evTo s r (j + 1) = if psb s r ((j : Int) + 1) = 0 then evTo s r j ++ [((j : Int) + 1, if j = 3 then 1 else 0)] else evTo s r j) := rfl
      have HN := Lib.hid (nE_kind s r j hj6)
      have hx1 : 1 ≤ (j : Int) + 1 := by omega
      have hx2 : (j : Int) + 1 ≤ 6 := by omega
      generalize hx : (j : Int) + 1 = x at *
      have HX := Lib.hid hx
      clear hx
      by_cases h4 : x = 4
      · subst h4
        have h3 : j = 3 := by have := HX.out; omega
        rw [if_pos h3] at HN HT
        clear h3
        go_wp2_with fail
        refine (next_any s r c 4 1 _ HV.out).mono ?_
        rintro e w2 ⟨rfl, hb⟩
        have hp2 := Lib.hid ((hp.out.alloc _).keep hb)
        have ho2 := Lib.hid ((ho.out.alloc _).keep hb)
        have G5 := Lib.hid (bkeep hb (h1_0 wr _))
        have hl5 := lt_of_some G5.out
        obtain ⟨e0, e1⟩ := ecells G5.out
        have hlt2 := hp2.out.lt
        clear hb q0 q1 q2
        rw [HN.out]
        by_cases hps : psb s r 4 = 0
        · have HT2 : Hid (evTo s r (j + 1) = evTo s r j ++ [(4, 1)]) := by show _ = _; rw [HT.out, if_pos hps]
          rw [hps]
          clear hps
          generalize nS s r 4 1 = s2 at *
          generalize nR s r 4 1 = r2 at *
          generalize nC s r c 4 1 = c2 at *
          have ho3 := Lib.hid (ho2.out.alloc (.cells #[.int .i64 s2, .int .i64 r2, .int .i64 c2] 23))
          have hp3 := Lib.hid (hp2.out.alloc (.cells #[.int .i64 s2, .int .i64 r2, .int .i64 c2] 23))
          go_wp2_with (((with_reducible refine append_ev ?a11 (.tmp 25) (.tmp 27) ?a12 (w.heap.size + 1) u3 (evTo s r j) 4 1 32 (w2.heap.size + 1) ?a13 ?a14 ?a15 ho3 ?a16 ?a17 ?_); (case a11 => rfl); (case a12 => rfl); (case a13 => exact World.size_alloc _ _); (case a14 => rfl); (case a15 => rfl); (case a16 => omega); (case a17 => simp only [World.size_alloc] <;> omega)); intro v' w4 ho4 hb4)
          go_roundw
          case rel => exact ⟨j + 1, by omega, congrArg (Value.int .i64) (by have := HX.out; omega), by rw [HT2.out]; exact ho4, hp3.out.base hb4.out⟩
          case measure => have := HX.out; (first | (simp [intOf]; omega) | simp [intOf])
        · have HT2 : Hid (evTo s r (j + 1) = evTo s r j) := by show _ = _; rw [HT.out, if_neg hps]
          have b0 : (psb s r 4 == 0) = false := by simpa using hps
          clear hps
          generalize nS s r 4 1 = s2 at *
          generalize nR s r 4 1 = r2 at *
          generalize nC s r c 4 1 = c2 at *
          go_wp2_with fail
          go_roundw
          case rel => exact ⟨j + 1, by omega, congrArg (Value.int .i64) (by have := HX.out; omega), by rw [HT2.out]; exact ho2.out.alloc _, hp2.out.alloc _⟩
          case measure => have := HX.out; (first | (simp [intOf]; omega) | simp [intOf])
      · have b4 : (x == 4) = false := by simpa using h4
        have h3 : ¬ j = 3 := by have := HX.out; omega
        rw [if_neg h3] at HN
        go_wp2_with fail
        refine (next_any s r c x 0 _ HV.out).mono ?_
        rintro e w2 ⟨rfl, hb⟩
        have hp2 := Lib.hid ((hp.out.alloc _).keep hb)
        have ho2 := Lib.hid ((ho.out.alloc _).keep hb)
        have G5 := Lib.hid (bkeep hb (h1_0 wr _))
        have hl5 := lt_of_some G5.out
        obtain ⟨e0, e1⟩ := ecells G5.out
        have hlt2 := hp2.out.lt
        clear hb q0 q1 q2
        rw [HN.out]
        by_cases hps : psb s r x = 0
        · have HT2 : Hid (evTo s r (j + 1) = evTo s r j ++ [(x, 0)]) := by show _ = _; rw [HT.out, if_pos hps]; rw [if_neg h3]
          rw [hps]
          clear hps
          generalize nS s r x 0 = s2 at *
          generalize nR s r x 0 = r2 at *
          generalize nC s r c x 0 = c2 at *
          have ho3 := Lib.hid (ho2.out.alloc (.cells #[.int .i64 s2, .int .i64 r2, .int .i64 c2] 23))
          have hp3 := Lib.hid (hp2.out.alloc (.cells #[.int .i64 s2, .int .i64 r2, .int .i64 c2] 23))
          go_wp2_with (((with_reducible refine append_ev ?a21 (.tmp 25) (.tmp 27) ?a22 (w.heap.size + 1) u3 (evTo s r j) x 0 32 (w2.heap.size + 1) ?a23 ?a24 ?a25 ho3 ?a26 ?a27 ?_); (case a21 => rfl); (case a22 => rfl); (case a23 => exact World.size_alloc _ _); (case a24 => rfl); (case a25 => rfl); (case a26 => omega); (case a27 => simp only [World.size_alloc] <;> omega)); intro v' w4 ho4 hb4)
          go_roundw
          case rel => exact ⟨j + 1, by omega, congrArg (Value.int .i64) (by have := HX.out; omega), by rw [HT2.out]; exact ho4, hp3.out.base hb4.out⟩
          case measure => have := HX.out; (first | (simp [intOf]; omega) | simp [intOf])
        · have HT2 : Hid (evTo s r (j + 1) = evTo s r j) := by show _ = _; rw [HT.out, if_neg hps]
          have b0 : (psb s r x == 0) = false := by simpa using hps
          clear hps
          generalize nS s r x 0 = s2 at *
          generalize nR s r x 0 = r2 at *
          generalize nC s r c x 0 = c2 at *
          go_wp2_with fail
          go_roundw
          case rel => exact ⟨j + 1, by omega, congrArg (Value.int .i64) (by have := HX.out; omega), by rw [HT2.out]; exact ho2.out.alloc _, hp2.out.alloc _⟩
          case measure => have := HX.out; (first | (simp [intOf]; omega) | simp [intOf])
    · have he : 6 ≤ j := by omega
      obtain rfl : j = 6 := by omega
      go_wp2_with fail
      go_ret
      exact ⟨_, rfl, ho.out.evs (by have := evTo_len s r 6; omega), hp.out.2⟩
end Go.Proofs.YtcicgccllhkolaaDoor
