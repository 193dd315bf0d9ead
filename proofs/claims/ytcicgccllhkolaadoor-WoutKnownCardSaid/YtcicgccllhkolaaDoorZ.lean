/- Helper facts for the statements of this seat; no statement itself. -/
import Derived.Test.YtcicgccllhkolaaDoorY
namespace Go.Proofs.YtcicgccllhkolaaDoor
open Go.RowKit
set_option linter.unusedSimpArgs false
set_option linter.unusedVariables false
set_option linter.unnecessarySimpa false

theorem make63 (w : World) : (Instr.makeSlice 63 (.int .i64 7) (.int .i64 7)).run Tryd.prog w = .ok (.slice (some ⟨w.heap.size, 0, none⟩) 7 7) (w.alloc (.cells (bC F7) 4)) := by kernel_rfl
theorem stTo_one {M : List Bool} (h : M.getD 0 false = false) : stTo M 1 = [] := by
  unfold stTo
  rw [h]
  rfl

set_option maxHeartbeats 2000000 in
theorem rreach_any (m n : Int) (w : World) : Calls Tryd.prog 32 #[.int .i64 m, .int .i64 n] w (Reached m n w) := by
  by_cases hm : m < 1 ∨ 512 < m
  · have HB := Lib.hid (begin_no hm)
    have HR : Hid (rcE m n = 15 ∧ rcL m n = []) := by
      have : rcE m n = 15 := by unfold rcE; rw [if_pos hm]
      exact ⟨this, by unfold rcL; rw [if_neg (by rw [this]; omega)]⟩
    clear hm
    go_enter Tryd.func32, Tryd.ntmps32
    go_wp2_with fail
    refine (rbegin_any m _).mono ?_
    rintro e w1 ⟨rfl, hb⟩
    rw [HB.out.1, HB.out.2.1, HB.out.2.2]
    have B1 := Lib.hid hb
    clear hb
    go_wp2_with fail
    go_ret2
    exact ⟨_, by rw [HR.out.1]; rfl, by rw [HR.out.2]; exact IsInts.nil _ _ _, balloc B1.out _⟩
  have hm1 : 1 ≤ m := by omega
  have hm2 : m ≤ 512 := by omega
  have HB := Lib.hid (begin_ok hm1 hm2)
  by_cases hn : n < 0 ∨ 6 < n
  · have HR : Hid (rcE m n = 2 ∧ rcL m n = []) := by
      have : rcE m n = 2 := by unfold rcE; rw [if_neg hm, if_pos hn]
      exact ⟨this, by unfold rcL; rw [if_neg (by rw [this]; omega)]⟩
    clear hm
    rcases hn with hn | hn
    · have bn1 : decide (n < 0) = true := by simpa using hn
      go_enter Tryd.func32, Tryd.ntmps32
      go_wp2_with fail
      refine (rbegin_any m _).mono ?_
      rintro e w1 ⟨rfl, hb⟩
      rw [HB.out.1, HB.out.2.1, HB.out.2.2]
      have B1 := Lib.hid hb
      clear hb
      go_wp2_with fail
      go_ret2
      exact ⟨_, by rw [HR.out.1]; rfl, by rw [HR.out.2]; exact IsInts.nil _ _ _, balloc B1.out _⟩
    · have bn1 : decide (n < 0) = false := by simp; omega
      have bn2 : decide (6 < n) = true := by simpa using hn
      go_enter Tryd.func32, Tryd.ntmps32
      go_wp2_with fail
      refine (rbegin_any m _).mono ?_
      rintro e w1 ⟨rfl, hb⟩
      rw [HB.out.1, HB.out.2.1, HB.out.2.2]
      have B1 := Lib.hid hb
      clear hb
      go_wp2_with fail
      go_ret2
      exact ⟨_, by rw [HR.out.1]; rfl, by rw [HR.out.2]; exact IsInts.nil _ _ _, balloc B1.out _⟩
  · obtain ⟨k, rfl⟩ : ∃ k : Nat, n = k := ⟨n.toNat, by omega⟩
    have hn1 : (0 : Int) ≤ (k : Int) := by omega
    have hn2 : (k : Int) ≤ 6 := by omega
    have HR : Hid (rcE m k = 0 ∧ rcL m k = stTo (mk k 1 m 0 F7) 7) := by
      have : rcE m k = 0 := by unfold rcE; rw [if_neg hm, if_neg hn]
      exact ⟨this, by unfold rcL; rw [if_pos this]; rfl⟩
    have HCH := Lib.hid (chk_begin hm1 hm2)
    have bn1 : decide ((k : Int) < 0) = false := by simp
    have bn2 : decide (6 < (k : Int)) = false := by simp; omega
    have hmk := make63
    clear hm hn
    go_enter Tryd.func32, Tryd.ntmps32
    go_wp2_with fail
    refine (rbegin_any m _).mono ?_
    rintro e w1 ⟨rfl, hb⟩
    rw [HB.out.1, HB.out.2.1, HB.out.2.2]
    have B1 := Lib.hid hb
    clear hb
    go_wp2_with fail
    clear hmk
    refine (rwalk_any k 1 m 0 F7 (w1.heap.size + 1) 4 _ (by omega) HCH.out rfl ?g1).mono ?_
    case g1 => exact h2_1 _ _ _
    rintro e w2 ⟨⟨v, rfl⟩, hb, hg⟩
    have HM := Lib.hid (mk_len k 1 m 0 F7)
    have HM0 : Hid (stTo (mk k 1 m 0 F7) 1 = []) := stTo_one (mk_zero k 1 m 0 F7 HCH.out)
    generalize mk k 1 m 0 F7 = M at *
    have G2 := Lib.hid hg
    have B2 : Hid (Below w.heap.size w w2) := (balloc (balloc B1.out _) _).trans (hb.below (by have := B1.out.size; omega) (by have := B1.out.size; simp only [World.size_alloc]; omega))
    clear hb hg
    have hz := B2.out.size
    go_wp2_with fail
    go_loopw [9, 10] (fun v i wr => ∃ j : Nat, 1 ≤ j ∧ j ≤ 7 ∧ i = .int .i64 j ∧ Hid (Own wr w2.heap.size v (stTo M j)) ∧ Hid (Below w2.heap.size w2 wr)) (fun _ i _ => 7 - (intOf i).toNat)
    case atStart => exact ⟨1, by omega, by omega, rfl, by rw [HM0.out]; exact Own.nil _ _, Below.refl _ _⟩
    case round =>
      obtain ⟨j, hj1, hj, rfl, ho, hbl⟩ := hrel
      by_cases hj7 : j < 7
      · have HT : Hid (stTo M (j + 1) = if M.getD j false = true then stTo M j ++ [(j : Int)] else stTo M j) := rfl
        have hlen := stTo_len M j
        have hsz := hbl.out.size
        have cj := bC_cell (bkeep hbl.out G2.out) j (by rw [HM.out]; exact hj7)
        have i1 : (0 : Int) ≤ (j : Int) := by omega
        have i2 : (j : Int) < 7 := by omega
        cases hbm : M.getD j false
        · rw [hbm] at cj HT
          have HT2 : Hid (stTo M (j + 1) = stTo M j) := HT.out.trans (if_neg (by simp))
          clear hbm HT
          go_wp2_with fail
          go_roundw
          case rel => exact ⟨j + 1, by omega, by omega, by go_num, by rw [HT2.out]; exact ho, hbl⟩
          case measure => simp [intOf]; omega
        · rw [hbm] at cj HT
          have HT2 : Hid (stTo M (j + 1) = stTo M j ++ [(j : Int)]) := HT.out.trans (if_pos rfl)
          clear hbm HT
          go_wp2_with (((with_reducible refine append_intz ?b1 (.tmp 42) (.tmp 44) ?b2 w2.heap.size u9 (stTo M j) (j : Int) 3 wr.heap.size ?b3 ?b4 ?b5 ho ?b6 ?b7 ?_); (case b1 => rfl); (case b2 => rfl); (case b3 => rfl); (case b4 => rfl); (case b5 => rfl); (case b6 => omega); (case b7 => omega)); intro v' w4 ho4 hb4)
          go_roundw
          case rel => exact ⟨j + 1, by omega, by omega, by go_num, by rw [HT2.out]; exact ho4, hbl.out.trans hb4.out⟩
          case measure => simp [intOf]; omega
      · obtain rfl : j = 7 := by omega
        have hend : (6 : Int) < ((7 : Nat) : Int) := by omega
        go_wp2_with fail
        go_ret2
        exact ⟨_, by rw [HR.out.1]; rfl, by rw [HR.out.2]; exact ho.out.ints (by have := stTo_len M 7; omega), B2.out.trans (hbl.out.mono hz)⟩

set_option maxHeartbeats 2000000 in
theorem woutReaches_walk (m n : Int) (w : World) (hc : CL w) (_ : (Lit.int .i64 m).wf = true) (_ : (Lit.int .i64 n).wf = true) :
    Calls Tryd.prog 9 #[.int .i64 m, .int .i64 n] w fun e w' => e = .returned (.bool true) ∧ Below w.heap.size w w' := by
  have HC := Lib.hid hc
  clear hc
  have hsm : Hid ((rcL m n == rcL m n) = true) := by show _ = _; simp
  go_enter Tryd.func9, Tryd.ntmps9
  go_wp2_with fail
  refine (reach_any m n _).mono ?_
  rintro e w1 ⟨va, rfl, ia, hb⟩
  have B1 := Lib.hid hb
  have IA := Lib.hid ia
  clear hb ia
  go_wp2_with fail
  refine (rreach_any m n _).mono ?_
  rintro e w2 ⟨vb, rfl, ib, hb⟩
  have B2 := Lib.hid (btrans B1.out hb)
  have IA2 := Lib.hid (IA.out.keep hb)
  have IB := Lib.hid ib
  clear hb ib IA
  go_wp2_with fail
  refine (sameInts_any va vb _ _ _ IA2.out IB.out).mono ?_
  rintro e w3 ⟨rfl, hb⟩
  rw [hsm.out]
  have B3 := Lib.hid (btrans B2.out hb)
  clear hb
  go_wp2_with fail
  refine (awake_cl _ (HC.out.below B3.out)).mono ?_
  rintro e w4 ⟨rfl, hb⟩
  have B4 := Lib.hid (btrans B3.out hb)
  clear hb
  go_wp2_with fail
  go_ret
  exact ⟨rfl, B4.out⟩
end Go.Proofs.YtcicgccllhkolaaDoor
