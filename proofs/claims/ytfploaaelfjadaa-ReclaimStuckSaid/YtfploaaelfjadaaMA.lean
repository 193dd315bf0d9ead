/- Helper facts for the statements of this seat; no statement itself. -/
import Derived.Test.YtfploaaelfjadaaComAt
import Derived.Test.YtfploaaelfjadaaRC
import Derived.Deep.DeepCutAuto
import Derived.Outline
namespace Go.Proofs.Ytfploaaelfjadaa
open Go.RowKit
set_option linter.unusedSimpArgs false
set_option linter.unusedVariables false
set_option linter.unnecessarySimpa false

/-- A tally that made gives. -/
def MadeT (t : T) : Prop := Ok t ∧ t.ob ≤ 30 ∧ t.ac ≤ 30 ∧ t.ia ≤ 30 ∧ t.sl ≤ 30 ∧ t.rm ≤ 30
def nC (l : List Int) : Array Value := (l.map (Value.int .i64)).toArray
def Sm (l : List Int) : Prop := l.length = 14 ∧ ∀ k, k < 14 → 0 ≤ l.getD k 0 ∧ l.getD k 0 < 1048576
theorem Sm.set {l : List Int} (h : Sm l) (k : Nat) (x : Int) (h0 : 0 ≤ x) (h1 : x < 1048576) : Sm (l.set k x) := by
  refine ⟨by rw [List.length_set]; exact h.1, fun j hj => ?_⟩
  have := h.2 j hj
  have hl := h.1
  by_cases e : k = j
  · subst e
    simp [List.getD, hl, hj]; omega
  · simpa [List.getD, List.getElem?_set, e] using this
theorem nC_store {w : World} {g ty k : Nat} {l : List Int} {x : Int} (h : w.heap[g]? = some (.cells (nC l) ty (0, 0))) : w.setCell ⟨g, k, none⟩ (.int .i64 x) = w.setRow g (nC (l.set k x)) := by
  rw [setCell_eq_setRow w g k _ ty (0, 0) _ h]
  simp [nC, List.map_set]
theorem nC_cell {w : World} {g ty k : Nat} {l : List Int} (h : w.heap[g]? = some (.cells (nC l) ty (0, 0))) (hk : k < l.length) : w.cell? ⟨g, k, none⟩ = some (.int .i64 (l.getD k 0)) := by
  refine setRow_cell h ?_
  simp [nC, List.getD, hk]
theorem Sm_zero : Sm (List.replicate 14 0) := ⟨by simp, fun k hk => by
  have e : (List.replicate 14 (0 : Int)).getD k 0 = 0 := by simp only [List.getD, List.getElem?_replicate]; split <;> rfl
  rw [e]; omega⟩
def MadeP (w : World) (e : Ending) (w' : World) : Prop := ∃ t, MadeT t ∧ e = .returned (TV t) ∧ Below w.heap.size w w'

set_option maxRecDepth 100000 in
set_option maxHeartbeats 2000000 in
theorem made_any (ad : Option Addr) (n cap : Nat) (w : World) (hn : n ≤ 9223372036854775807) (hl : SomeInts w ad n) : Calls Try.prog 34 #[.slice ad n cap] w (MadeP w) := by
  have HL := Lib.hid hl
  clear hl
  go_enter Try.func34, Try.ntmps34
  go_wp2_with fail
  have Z0 := Lib.hid Sm_zero
  go_loopw [4] (fun i wr => ∃ (k : Nat) (l : List Int), k ≤ 14 ∧ i = .int .i64 k ∧ Hid (Sm l) ∧ Hid (wr.heap[w.heap.size]? = some (.cells (tC zT) 23 (0, 0))) ∧ Hid (wr.heap[w.heap.size + 1]? = some (.cells (nC l) 57 (0, 0))) ∧ Hid (Below w.heap.size w wr)) (fun i _ => 14 - (intOf i).toNat)
  case atStart => exact ⟨0, List.replicate 14 0, by omega, rfl, Z0, h2_0 _ _ _, h2_1 _ _ _, (((Below.refl _ _).alloc (Nat.le_refl _) _).alloc (by simp only [World.size_alloc] <;> omega) _)⟩
  case round =>
    obtain ⟨k, l, hk, rfl, hs, h0, h1, hb⟩ := hrel
    clear Z0
    by_cases hlt : k < 14
    · have i1 : (0 : Int) ≤ (k : Int) := by omega
      have i2 : (k : Int) < 14 := by omega
      have c0 := nC_cell (k := k) h1.out (by rw [hs.out.1]; exact hlt)
      have f0 := fr (j := k) h1.out
      go_wp2_with fail
      refine (at_any ad n cap k _ hn (by omega) (HL.out.keep hb.out)).mono ?_
      rintro e w2 ⟨⟨x, rfl⟩, rfl⟩
      go_wp2_with fail
      refine (mod_any x 1048576 _ (by omega) (by omega)).mono ?_
      rintro e w2 ⟨rfl, rfl⟩
      have m0 := Int.emod_nonneg x (show (1048576 : Int) ≠ 0 by omega)
      have m1 := Int.emod_lt_of_pos x (show (0 : Int) < 1048576 by omega)
      generalize x % 1048576 = y at *
      go_wp2_with fail
      rw [nC_store h1.out]
      go_roundw
      case rel => exact ⟨k + 1, l.set k y, by omega, by go_num, hs.out.set k y m0 m1, (setRow_other _ _ _ _ (by omega)).trans h0.out, setRow_heap _ _ _ _ _ _ h1.out, below_setRow hb.out (by omega) _⟩
      case measure => simp [intOf]; omega
    · obtain rfl : k = 14 := by omega
      obtain ⟨x0, x1, x2, x3, x4, x5, x6, x7, x8, x9, x10, x11, x12, x13, rfl⟩ : ∃ x0 x1 x2 x3 x4 x5 x6 x7 x8 x9 x10 x11 x12 x13 : Int, l = [x0, x1, x2, x3, x4, x5, x6, x7, x8, x9, x10, x11, x12, x13] := by
        have := hs.out.1
        match l, this with
        | [a0, a1, a2, a3, a4, a5, a6, a7, a8, a9, a10, a11, a12, a13], _ => exact ⟨_, _, _, _, _, _, _, _, _, _, _, _, _, _, rfl⟩
      have b0 := hs.out.2 0 (by omega)
      have b1 := hs.out.2 1 (by omega)
      have b2 := hs.out.2 2 (by omega)
      have b3 := hs.out.2 3 (by omega)
      have b4 := hs.out.2 4 (by omega)
      have b5 := hs.out.2 5 (by omega)
      have b6 := hs.out.2 6 (by omega)
      have b7 := hs.out.2 7 (by omega)
      have b8 := hs.out.2 8 (by omega)
      have b9 := hs.out.2 9 (by omega)
      have b10 := hs.out.2 10 (by omega)
      have b11 := hs.out.2 11 (by omega)
      have b12 := hs.out.2 12 (by omega)
      have b13 := hs.out.2 13 (by omega)
      simp only [List.getD_cons_zero, List.getD_cons_succ] at b0 b1 b2 b3 b4 b5 b6 b7 b8 b9 b10 b11 b12 b13
      obtain ⟨d0, e0⟩ := b0
      obtain ⟨d1, e1⟩ := b1
      obtain ⟨d2, e2⟩ := b2
      obtain ⟨d3, e3⟩ := b3
      obtain ⟨d4, e4⟩ := b4
      obtain ⟨d5, e5⟩ := b5
      obtain ⟨d6, e6⟩ := b6
      obtain ⟨d7, e7⟩ := b7
      obtain ⟨d8, e8⟩ := b8
      obtain ⟨d9, e9⟩ := b9
      obtain ⟨d10, e10⟩ := b10
      obtain ⟨d11, e11⟩ := b11
      obtain ⟨d12, e12⟩ := b12
      obtain ⟨d13, e13⟩ := b13
      have c0 : wr.cell? ⟨w.heap.size + 1, 0, none⟩ = some (.int .i64 x0) := setRow_cell h1.out rfl
      have c1 : wr.cell? ⟨w.heap.size + 1, 1, none⟩ = some (.int .i64 x1) := setRow_cell h1.out rfl
      have c2 : wr.cell? ⟨w.heap.size + 1, 2, none⟩ = some (.int .i64 x2) := setRow_cell h1.out rfl
      have c3 : wr.cell? ⟨w.heap.size + 1, 3, none⟩ = some (.int .i64 x3) := setRow_cell h1.out rfl
      have c4 : wr.cell? ⟨w.heap.size + 1, 4, none⟩ = some (.int .i64 x4) := setRow_cell h1.out rfl
      have c5 : wr.cell? ⟨w.heap.size + 1, 5, none⟩ = some (.int .i64 x5) := setRow_cell h1.out rfl
      have c6 : wr.cell? ⟨w.heap.size + 1, 6, none⟩ = some (.int .i64 x6) := setRow_cell h1.out rfl
      have c7 : wr.cell? ⟨w.heap.size + 1, 7, none⟩ = some (.int .i64 x7) := setRow_cell h1.out rfl
      have c8 : wr.cell? ⟨w.heap.size + 1, 8, none⟩ = some (.int .i64 x8) := setRow_cell h1.out rfl
      have c9 : wr.cell? ⟨w.heap.size + 1, 9, none⟩ = some (.int .i64 x9) := setRow_cell h1.out rfl
      have c10 : wr.cell? ⟨w.heap.size + 1, 10, none⟩ = some (.int .i64 x10) := setRow_cell h1.out rfl
      have c11 : wr.cell? ⟨w.heap.size + 1, 11, none⟩ = some (.int .i64 x11) := setRow_cell h1.out rfl
      have c12 : wr.cell? ⟨w.heap.size + 1, 12, none⟩ = some (.int .i64 x12) := setRow_cell h1.out rfl
      have c13 : wr.cell? ⟨w.heap.size + 1, 13, none⟩ = some (.int .i64 x13) := setRow_cell h1.out rfl
      have hg1 := lt_of_some h1.out
      clear hs h1
      have hzz : (1 + x5 % 5 + 1 == 0) = false := by rw [beq_eq_false_iff_ne]; omega
      have hg0 := lt_of_some h0.out
      have m0 := Int.emod_nonneg x12 (show (1 + x5 % 5 + 1 : Int) ≠ 0 by omega)
      have m1 := Int.emod_lt_of_pos x12 (show (0 : Int) < 1 + x5 % 5 + 1 by omega)
      by_cases ha : 0 < x3 % 5
      · by_cases hc : 0 < x9 % 3
        · go_wp2_with (((with_reducible refine stT ?ka1 (.tmp 2) (.tmp 92) ?ka2 w.heap.size zT (⟨x0 % 30, x1 % 8, x1 % 8 + 1 + x10 % 6, x1 % 8 + 1 + x10 % 6 + 1 + x11 % 6, (x13 % 2 == 1), 0, x2 % 6, x3 % 5, x4 % 6, decide (1 < x13 % 4), x12 % (1 + x5 % 5 + 1), 1 + x5 % 5, x6 % 9 / 7, x7 % 8, x8 % 9⟩ : T) 23 ?ka3 ?ka4 ?ka6 ?_); (case ka1 => rfl); (case ka2 => rfl); (case ka3 => rfl); (case ka4 => rfl); (case ka6 => exact hold1 h0.out _)))
          refine bodyPost_ret (v := TV (⟨x0 % 30, x1 % 8, x1 % 8 + 1 + x10 % 6, x1 % 8 + 1 + x10 % 6 + 1 + x11 % 6, (x13 % 2 == 1), 0, x2 % 6, x3 % 5, x4 % 6, decide (1 < x13 % 4), x12 % (1 + x5 % 5 + 1), 1 + x5 % 5, x6 % 9 / 7, x7 % 8, x8 % 9⟩ : T)) (results_cell_row (fn := Try.f34) (p := 2) rfl _ _ w.heap.size 23 (tC (⟨x0 % 30, x1 % 8, x1 % 8 + 1 + x10 % 6, x1 % 8 + 1 + x10 % 6 + 1 + x11 % 6, (x13 % 2 == 1), 0, x2 % 6, x3 % 5, x4 % 6, decide (1 < x13 % 4), x12 % (1 + x5 % 5 + 1), 1 + x5 % 5, x6 % 9 / 7, x7 % 8, x8 % 9⟩ : T)) (0, 0) _ (by rfl) (setRow_heap _ _ _ _ _ _ (hold1 h0.out _)) Try.underlying23 rfl size23) rfl ⟨_, ?_, rfl, below_setRow (balloc hb.out _) (Nat.le_refl _) _⟩
          clear c0 c1 c2 c3 c4 c5 c6 c7 c8 c9 c10 c11 c12 c13
          exact ⟨⟨by simp only []; omega, by simp only []; omega, by simp only []; omega, by simp only []; omega, by simp only []; omega, by simp only []; omega, by simp only []; omega, by simp only []; omega, by simp only []; omega, by simp only []; omega, by simp only []; omega, fun _ => by show x3 % 5 ≠ 0; omega⟩, by simp only []; omega, by simp only []; omega, by simp only []; omega, by simp only []; omega, by simp only []; omega⟩
        · go_wp2_with (((with_reducible refine stT ?kb1 (.tmp 2) (.tmp 92) ?kb2 w.heap.size zT (⟨x0 % 30, x1 % 8, x1 % 8 + 1 + x10 % 6, x1 % 8 + 1 + x10 % 6 + 1 + x11 % 6, (x13 % 2 == 1), x9 % 30, x2 % 6, x3 % 5, x4 % 6, decide (1 < x13 % 4), x12 % (1 + x5 % 5 + 1), 1 + x5 % 5, x6 % 9 / 7, x7 % 8, x8 % 9⟩ : T) 23 ?kb3 ?kb4 ?kb6 ?_); (case kb1 => rfl); (case kb2 => rfl); (case kb3 => rfl); (case kb4 => rfl); (case kb6 => exact hold1 h0.out _)))
          refine bodyPost_ret (v := TV (⟨x0 % 30, x1 % 8, x1 % 8 + 1 + x10 % 6, x1 % 8 + 1 + x10 % 6 + 1 + x11 % 6, (x13 % 2 == 1), x9 % 30, x2 % 6, x3 % 5, x4 % 6, decide (1 < x13 % 4), x12 % (1 + x5 % 5 + 1), 1 + x5 % 5, x6 % 9 / 7, x7 % 8, x8 % 9⟩ : T)) (results_cell_row (fn := Try.f34) (p := 2) rfl _ _ w.heap.size 23 (tC (⟨x0 % 30, x1 % 8, x1 % 8 + 1 + x10 % 6, x1 % 8 + 1 + x10 % 6 + 1 + x11 % 6, (x13 % 2 == 1), x9 % 30, x2 % 6, x3 % 5, x4 % 6, decide (1 < x13 % 4), x12 % (1 + x5 % 5 + 1), 1 + x5 % 5, x6 % 9 / 7, x7 % 8, x8 % 9⟩ : T)) (0, 0) _ (by rfl) (setRow_heap _ _ _ _ _ _ (hold1 h0.out _)) Try.underlying23 rfl size23) rfl ⟨_, ?_, rfl, below_setRow (balloc hb.out _) (Nat.le_refl _) _⟩
          clear c0 c1 c2 c3 c4 c5 c6 c7 c8 c9 c10 c11 c12 c13
          exact ⟨⟨by simp only []; omega, by simp only []; omega, by simp only []; omega, by simp only []; omega, by simp only []; omega, by simp only []; omega, by simp only []; omega, by simp only []; omega, by simp only []; omega, by simp only []; omega, by simp only []; omega, fun _ => by show x3 % 5 ≠ 0; omega⟩, by simp only []; omega, by simp only []; omega, by simp only []; omega, by simp only []; omega, by simp only []; omega⟩
      · by_cases hc : 0 < x9 % 3
        · go_wp2_with (((with_reducible refine stT ?kc1 (.tmp 2) (.tmp 92) ?kc2 w.heap.size zT (⟨x0 % 30, x1 % 8, x1 % 8 + 1 + x10 % 6, x1 % 8 + 1 + x10 % 6 + 1 + x11 % 6, (x13 % 2 == 1), 0, x2 % 6, x3 % 5, x4 % 6, false, x12 % (1 + x5 % 5 + 1), 1 + x5 % 5, x6 % 9 / 7, x7 % 8, x8 % 9⟩ : T) 23 ?kc3 ?kc4 ?kc6 ?_); (case kc1 => rfl); (case kc2 => rfl); (case kc3 => rfl); (case kc4 => rfl); (case kc6 => exact hold1 h0.out _)))
          refine bodyPost_ret (v := TV (⟨x0 % 30, x1 % 8, x1 % 8 + 1 + x10 % 6, x1 % 8 + 1 + x10 % 6 + 1 + x11 % 6, (x13 % 2 == 1), 0, x2 % 6, x3 % 5, x4 % 6, false, x12 % (1 + x5 % 5 + 1), 1 + x5 % 5, x6 % 9 / 7, x7 % 8, x8 % 9⟩ : T)) (results_cell_row (fn := Try.f34) (p := 2) rfl _ _ w.heap.size 23 (tC (⟨x0 % 30, x1 % 8, x1 % 8 + 1 + x10 % 6, x1 % 8 + 1 + x10 % 6 + 1 + x11 % 6, (x13 % 2 == 1), 0, x2 % 6, x3 % 5, x4 % 6, false, x12 % (1 + x5 % 5 + 1), 1 + x5 % 5, x6 % 9 / 7, x7 % 8, x8 % 9⟩ : T)) (0, 0) _ (by rfl) (setRow_heap _ _ _ _ _ _ (hold1 h0.out _)) Try.underlying23 rfl size23) rfl ⟨_, ?_, rfl, below_setRow (balloc hb.out _) (Nat.le_refl _) _⟩
          clear c0 c1 c2 c3 c4 c5 c6 c7 c8 c9 c10 c11 c12 c13
          exact ⟨⟨by simp only []; omega, by simp only []; omega, by simp only []; omega, by simp only []; omega, by simp only []; omega, by simp only []; omega, by simp only []; omega, by simp only []; omega, by simp only []; omega, by simp only []; omega, by simp only []; omega, fun h => by cases h⟩, by simp only []; omega, by simp only []; omega, by simp only []; omega, by simp only []; omega, by simp only []; omega⟩
        · go_wp2_with (((with_reducible refine stT ?kd1 (.tmp 2) (.tmp 92) ?kd2 w.heap.size zT (⟨x0 % 30, x1 % 8, x1 % 8 + 1 + x10 % 6, x1 % 8 + 1 + x10 % 6 + 1 + x11 % 6, (x13 % 2 == 1), x9 % 30, x2 % 6, x3 % 5, x4 % 6, false, x12 % (1 + x5 % 5 + 1), 1 + x5 % 5, x6 % 9 / 7, x7 % 8, x8 % 9⟩ : T) 23 ?kd3 ?kd4 ?kd6 ?_); (case kd1 => rfl); (case kd2 => rfl); (case kd3 => rfl); (case kd4 => rfl); (case kd6 => exact hold1 h0.out _)))
          refine bodyPost_ret (v := TV (⟨x0 % 30, x1 % 8, x1 % 8 + 1 + x10 % 6, x1 % 8 + 1 + x10 % 6 + 1 + x11 % 6, (x13 % 2 == 1), x9 % 30, x2 % 6, x3 % 5, x4 % 6, false, x12 % (1 + x5 % 5 + 1), 1 + x5 % 5, x6 % 9 / 7, x7 % 8, x8 % 9⟩ : T)) (results_cell_row (fn := Try.f34) (p := 2) rfl _ _ w.heap.size 23 (tC (⟨x0 % 30, x1 % 8, x1 % 8 + 1 + x10 % 6, x1 % 8 + 1 + x10 % 6 + 1 + x11 % 6, (x13 % 2 == 1), x9 % 30, x2 % 6, x3 % 5, x4 % 6, false, x12 % (1 + x5 % 5 + 1), 1 + x5 % 5, x6 % 9 / 7, x7 % 8, x8 % 9⟩ : T)) (0, 0) _ (by rfl) (setRow_heap _ _ _ _ _ _ (hold1 h0.out _)) Try.underlying23 rfl size23) rfl ⟨_, ?_, rfl, below_setRow (balloc hb.out _) (Nat.le_refl _) _⟩
          clear c0 c1 c2 c3 c4 c5 c6 c7 c8 c9 c10 c11 c12 c13
          exact ⟨⟨by simp only []; omega, by simp only []; omega, by simp only []; omega, by simp only []; omega, by simp only []; omega, by simp only []; omega, by simp only []; omega, by simp only []; omega, by simp only []; omega, by simp only []; omega, by simp only []; omega, fun h => by cases h⟩, by simp only []; omega, by simp only []; omega, by simp only []; omega, by simp only []; omega, by simp only []; omega⟩
end Go.Proofs.Ytfploaaelfjadaa
