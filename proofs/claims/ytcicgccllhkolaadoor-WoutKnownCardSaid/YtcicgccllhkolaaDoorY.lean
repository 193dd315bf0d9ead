/- Helper facts for the statements of this seat; no statement itself. -/
import Derived.Test.YtcicgccllhkolaaDoorX
import Derived.Laws.EntriesVeiled
namespace Go.Proofs.YtcicgccllhkolaaDoor
open Go.RowKit
set_option linter.unusedSimpArgs false
set_option linter.unusedVariables false
set_option linter.unnecessarySimpa false

section
variable {P : Program}
/-- An array's element, by an index within it. -/
theorem run_index_at (t e : TypeId) (n : Nat) (cs : Array Value) (k : Nat) (v : Value) (hu : P.underlying t = some (.array n e)) (he : (P.info? e).map (·.size) = some 1) (hag : ∀ w, (isAgg e).run P w = .ok false w) (hk : k < n) (hv : cs[k]? = some v) (w : World) :
    (Instr.index t (.agg cs) (.int .i64 (k : Int))).run P w = .ok v w := by
  cases hq : P.info? e with
  | none => simp [hq] at he
  | some i =>
    have hs : i.size = 1 := by simpa [hq] using he
    have hk2 : ¬ n ≤ k := by omega
    simp [Instr.index, Sem.run_bind, asIntOf, run_underlying hu w, hk2, sizeOf, typeInfo, hq, hs, part, hag, hv]
end
theorem size4 : (Tryd.prog.info? 4).map (·.size) = some 1 := by kernel_rfl
theorem size61 : (Tryd.prog.info? 61).map (·.size) = some 7 := by kernel_rfl
theorem agg4 (w : World) : (isAgg 4).run Tryd.prog w = .ok false w := by kernel_rfl
theorem run_index61 (A : List Bool) (k : Nat) (hA : A.length = 7) (hk : k < 7) (w : World) : (Instr.index 61 (.agg (bC A)) (.int .i64 (k : Int))).run Tryd.prog w = .ok (.bool (A.getD k false)) w :=
  run_index_at 61 4 7 (bC A) k _ Tryd.underlying61 size4 agg4 hk (bC_get A k (by omega)) w
section
variable {ops : Array Oper} {rest : List Oper} {o : Oper} {a : Act} {w : World} {Q : Exit → Act → World → Prop}
theorem ld61 (hgd : o.guard = none) (x : Operand) (ho : o.op = .load 61 x) (g : Nat) (hx : a.eval x = .pointer (some ⟨g, 0, none⟩)) (A : List Bool) (hA : A.length = 7) (t : TypeId) (hg : w.heap[g]? = some (.cells (bC A) t (0, 0)))
    (h : wpList Tryd.prog ops Q rest (a.put o.dst (.agg (bC A))) w) : wpList Tryd.prog ops Q (o :: rest) a w :=
  wpList_load_row hgd 61 x ho g hx t (bC A) (0, 0) _ hg Tryd.underlying61 rfl (by rw [size61, bC_size, hA]) h
end

/-- The numbers of the marks. -/
def stTo (M : List Bool) : Nat → List Int
  | 0 => []
  | j + 1 => if M.getD j false = true then stTo M j ++ [(j : Int)] else stTo M j
theorem stTo_len (M : List Bool) (j : Nat) : (stTo M j).length ≤ j := by
  induction j with
  | zero => simp [stTo]
  | succ j ih => unfold stTo; split <;> (try simp) <;> omega
abbrev F7 : List Bool := [false, false, false, false, false, false, false]
theorem mk_zero (n : Nat) : ∀ (s r c : Int) (A : List Bool), chk s r c = 0 → (mk n s r c A).getD 0 false = A.getD 0 false := by
  have hset : ∀ (A : List Bool) (s : Int), 1 ≤ s → (A.set s.toNat true).getD 0 false = A.getD 0 false := fun A s hs => by
    obtain ⟨k, rfl⟩ : ∃ k : Nat, s = (k : Int) + 1 := ⟨(s - 1).toNat, by omega⟩
    have : ((k : Int) + 1).toNat = k + 1 := by omega
    rw [this]
    cases A <;> simp
  induction n with
  | zero => intro s r c A h; exact hset A s (chk_ok h).1
  | succ n ih =>
    intro s r c A h
    rw [mk]
    have hall := evTo_ok s r 6 (by omega)
    have : ∀ (l : List (Int × Int)) (B : List Bool), (∀ e ∈ l, 1 ≤ e.1 ∧ e.1 ≤ 6 ∧ evk e.1 e.2 = 0 ∧ psb s r e.1 = 0) → (l.foldl (fun B e => mk n (aS s r e.1) (aR s r e.1) (aC s c e.1 e.2) B) B).getD 0 false = B.getD 0 false := by
      intro l
      induction l with
      | nil => intro B _; rfl
      | cons e l ih2 =>
        intro B hl
        obtain ⟨_, _, h3, h4⟩ := hl e (by simp)
        rw [List.foldl_cons, ih2 _ (fun x hx => hl x (by simp [hx])), ih _ _ _ _ (after_chk h h3 h4)]
    rw [this _ _ hall]
    exact hset A s (chk_ok h).1
/-- What Reach gives. -/
def rcE (m n : Int) : Int := if m < 1 ∨ 512 < m then 15 else if n < 0 ∨ 6 < n then 2 else 0
def rcL (m n : Int) : List Int := if rcE m n = 0 then stTo (mk n.toNat 1 m 0 F7) 7 else []
def Reached (m n : Int) (w : World) (e : Ending) (w' : World) : Prop := ∃ v, e = .returned (.tuple #[v, .int .i64 (rcE m n)]) ∧ IsInts w' v (rcL m n) ∧ Below w.heap.size w w'
theorem begin_ok {m : Int} (h1 : 1 ≤ m) (h2 : m ≤ 512) : bS m = 1 ∧ bR m = m ∧ bE m = 0 := by
  unfold bS bR bE
  rw [if_neg (by omega), if_neg (by omega), if_neg (by omega)]
  exact ⟨rfl, rfl, rfl⟩
theorem begin_no {m : Int} (h : m < 1 ∨ 512 < m) : bS m = 0 ∧ bR m = 0 ∧ bE m = 15 := by
  unfold bS bR bE
  rw [if_pos h, if_pos h, if_pos h]
  exact ⟨rfl, rfl, rfl⟩
theorem chk_begin {m : Int} (h1 : 1 ≤ m) (h2 : m ≤ 512) : chk 1 m 0 = 0 := by
  unfold chk leastR mostR; simp; omega

set_option maxHeartbeats 2000000 in
theorem reach_any (m n : Int) (w : World) : Calls Tryd.prog 31 #[.int .i64 m, .int .i64 n] w (Reached m n w) := by
  by_cases hm : m < 1 ∨ 512 < m
  · have HB := Lib.hid (begin_no hm)
    have HR : Hid (rcE m n = 15 ∧ rcL m n = []) := by
      have : rcE m n = 15 := by unfold rcE; rw [if_pos hm]
      exact ⟨this, by unfold rcL; rw [if_neg (by rw [this]; omega)]⟩
    clear hm
    go_enter Tryd.func31, Tryd.ntmps31
    go_wp2_with fail
    refine (begin_any m _).mono ?_
    rintro e w1 ⟨rfl, hb⟩
    rw [HB.out.1, HB.out.2.1, HB.out.2.2]
    have B1 := Lib.hid hb
    clear hb
    go_wp2_with fail
    go_ret2
    exact ⟨_, by rw [HR.out.1]; rfl, by rw [HR.out.2]; exact IsInts.nil _ _ _, balloc B1.out _⟩
  have hm1 : 1 ≤ m := by omega
  have hm2 : m ≤ 512 := by omega
  have HB := Lib.hid (begin_ok hm1 hm2)
  by_cases hn : n < 0 ∨ 6 < n
  · have HR : Hid (rcE m n = 2 ∧ rcL m n = []) := by
      have : rcE m n = 2 := by unfold rcE; rw [if_neg hm, if_pos hn]
      exact ⟨this, by unfold rcL; rw [if_neg (by rw [this]; omega)]⟩
    clear hm
    rcases hn with hn | hn
    all_goals
      go_enter Tryd.func31, Tryd.ntmps31
      go_wp2_with fail
      refine (begin_any m _).mono ?_
      rintro e w1 ⟨rfl, hb⟩
      rw [HB.out.1, HB.out.2.1, HB.out.2.2]
      have B1 := Lib.hid hb
      clear hb
      go_wp2_with fail
      go_ret2
      exact ⟨_, by rw [HR.out.1]; rfl, by rw [HR.out.2]; exact IsInts.nil _ _ _, balloc B1.out _⟩
  · obtain ⟨k, rfl⟩ : ∃ k : Nat, n = k := ⟨n.toNat, by omega⟩
    have hn1 : (0 : Int) ≤ (k : Int) := by omega
    have hn2 : (k : Int) ≤ 6 := by omega
    have HR : Hid (rcE m k = 0 ∧ rcL m k = stTo (mk k 1 m 0 F7) 7) := by
      have : rcE m k = 0 := by unfold rcE; rw [if_neg hm, if_neg hn]
      exact ⟨this, by unfold rcL; rw [if_pos this]; rfl⟩
    have HCH := Lib.hid (chk_begin hm1 hm2)
    have bn1 : decide ((k : Int) < 0) = false := by simp
    have bn2 : decide (6 < (k : Int)) = false := by simp; omega
    clear hm hn
    go_enter Tryd.func31, Tryd.ntmps31
    go_wp2_with fail
    refine (begin_any m _).mono ?_
    rintro e w1 ⟨rfl, hb⟩
    rw [HB.out.1, HB.out.2.1, HB.out.2.2]
    have B1 := Lib.hid hb
    clear hb
    go_wp2_with fail
    refine (walk_any k 1 m 0 F7 (w1.heap.size + 1) (w1.heap.size + 1 + 1) 61 _ (by omega) HCH.out rfl ?g1 ?g2 (by omega)).mono ?_
    case g1 => exact h3_1 _ _ _ _
    case g2 => exact h3_2 _ _ _ _
    rintro e w2 ⟨⟨v, rfl⟩, hb, hg⟩
    have HM := Lib.hid (mk_len k 1 m 0 F7)
    generalize mk k 1 m 0 F7 = M at *
    have G2 := Lib.hid hg
    have B2 : Hid (Below w.heap.size w w2) := (balloc (balloc (balloc B1.out _) _) _).trans (hb.below (by have := B1.out.size; omega) (by have := B1.out.size; simp only [World.size_alloc]; omega))
    clear hb hg
    have hz := B2.out.size
    go_wp2_with (((with_reducible refine ld61 ?a1 (.tmp 8) ?a2 (w1.heap.size + 1) ?a3 M ?a4 61 ?a5 ?_); (case a1 => rfl); (case a2 => rfl); (case a3 => rfl); (case a4 => exact HM.out); (case a5 => exact G2.out)))
    go_loopw [10, 33] (fun v i wr => ∃ j : Nat, j ≤ 7 ∧ i = .int .i64 j ∧ Hid (Own wr w2.heap.size v (stTo M j)) ∧ Hid (Below w2.heap.size w2 wr)) (fun _ i _ => 7 - (intOf i).toNat)
    case atStart => exact ⟨0, by omega, rfl, Own.nil _ _, Below.refl _ _⟩
    case round =>
      obtain ⟨j, hj, rfl, ho, hbl⟩ := hrel
      by_cases hj7 : j < 7
      · have hix := run_index61 M j HM.out hj7
        have HT : Hid (stTo M (j + 1) = if M.getD j false = true then stTo M j ++ [(j : Int)] else stTo M j) := rfl
        have hlen := stTo_len M j
        have hsz := hbl.out.size
        cases hbm : M.getD j false
        · rw [hbm] at hix HT
          have HT2 : Hid (stTo M (j + 1) = stTo M j) := HT.out.trans (if_neg (by simp))
          clear hbm HT
          go_wp2_with fail
          go_roundw
          case rel => exact ⟨j + 1, by omega, by go_num, by rw [HT2.out]; exact ho, hbl⟩
          case measure => simp [intOf]; omega
        · rw [hbm] at hix HT
          have HT2 : Hid (stTo M (j + 1) = stTo M j ++ [(j : Int)]) := HT.out.trans (if_pos rfl)
          clear hbm HT
          go_wp2_with (((with_reducible refine append_intz ?b1 (.tmp 38) (.tmp 40) ?b2 w2.heap.size u10 (stTo M j) (j : Int) 3 wr.heap.size ?b3 ?b4 ?b5 ho ?b6 ?b7 ?_); (case b1 => rfl); (case b2 => rfl); (case b3 => rfl); (case b4 => rfl); (case b5 => rfl); (case b6 => omega); (case b7 => omega)); intro v' w4 ho4 hb4)
          go_roundw
          case rel => exact ⟨j + 1, by omega, by go_num, by rw [HT2.out]; exact ho4, hbl.out.trans hb4.out⟩
          case measure => simp [intOf]; omega
      · obtain rfl : j = 7 := by omega
        have hend : (7 : Int) ≤ ((7 : Nat) : Int) := by omega
        go_wp2_with fail
        go_ret2
        exact ⟨_, by rw [HR.out.1]; rfl, by rw [HR.out.2]; exact ho.out.ints (by have := stTo_len M 7; omega), B2.out.trans (hbl.out.mono hz)⟩
end Go.Proofs.YtcicgccllhkolaaDoor
