/- Helper facts for the statements of this seat; no statement itself. -/
import Derived.Test.YtbdhjiadomifeaaComI
namespace Go.Proofs.Ytbdhjiadomifeaa
open Go.RowKit
set_option linter.unusedSimpArgs false
set_option linter.unusedVariables false
set_option linter.unnecessarySimpa false
attribute [local go_sem] W8_set

/-- The numbers of the words below k in which two pages differ. -/
def diffL (c d : List Nat) : Nat → List Int
  | 0 => []
  | k + 1 => if c.getD k 0 = d.getD k 0 then diffL c d k else diffL c d k ++ [(k : Int)]
theorem diffL_length (c d : List Nat) (k : Nat) : (diffL c d k).length ≤ k := by
  induction k with
  | zero => simp [diffL]
  | succ k ih => 
    simp only [diffL]
    split
    · omega
    · simp; omega

/-- A function that gives a slice of integers and changes nothing that was there. -/
def RetInts (l : List Int) (w : World) (e : Ending) (w' : World) : Prop := ∃ v, e = .returned v ∧ IsInts w' v l ∧ Below w.heap.size w w'

set_option maxHeartbeats 1000000 in
theorem diff_any (c d : List Nat) (w : World) (hc : Pg c) (hd : Pg d) :
    Calls Try.prog 23 #[.agg (W8 c), .agg (W8 d)] w (RetInts (diffL c d 8) w) := by
  go_enter Try.func23, Try.ntmps23
  go_wp2
  go_loopw [5, 7] (fun v i wr => ∃ k : Nat, k ≤ 8 ∧ i = .int .i64 k ∧ Hid (Own wr (w.heap.size + 2) v (diffL c d k)) ∧ Hid (wr.heap[w.heap.size]? = some (.cells (W8 c) 24 (0, 0)) ∧ wr.heap[w.heap.size + 1]? = some (.cells (W8 d) 24 (0, 0)) ∧ Below w.heap.size w wr)) (fun _ i _ => 8 - (intOf i).toNat)
  case atStart => exact ⟨0, by omega, rfl, Own.nil _ _, h2_0 _ _ _, h2_1 _ _ _, (((Below.refl _ _).alloc (Nat.le_refl _) _).alloc (by simp only [World.size_alloc] <;> omega) _)⟩
  case round =>
    obtain ⟨k, hk, rfl, hown, hh⟩ := hrel
    by_cases hlt : k < 8
    · have c1 := setRow_cell hh.out.1 (W8_get? c k (by rw [hc.1]; omega))
      have c2 := setRow_cell hh.out.2.1 (W8_get? d k (by rw [hd.1]; omega))
      have i1 : (0 : Int) ≤ (k : Int) := by omega
      have i2 : (k : Int) < 8 := by omega
      by_cases he : c.getD k 0 = d.getD k 0
      · have HE : Hid (diffL c d (k + 1) = diffL c d k) := by show _ = _; simp only [diffL]; rw [if_pos he]
        rw [he] at c1
        generalize d.getD k 0 = y at *
        clear he
        have hyy : ((y : Int) != (y : Int)) = false := by simp
        go_wp2_with fail
        go_quiet (fail)
        go_wp2
        go_roundw
        case rel => exact ⟨k + 1, by omega, by go_num, by rw [HE.out]; exact hown, hh.out.1, hh.out.2.1, bdrewN hh.out.2.2 _⟩
        case measure => simp [intOf]; omega
      · have HE : Hid (diffL c d (k + 1) = diffL c d k ++ [(k : Int)]) := by show _ = _; simp only [diffL]; rw [if_neg he]
        have hyy : (((c.getD k 0 : Nat) : Int) != ((d.getD k 0 : Nat) : Int)) = true := by simp only [bne_iff_ne]; omega
        generalize d.getD k 0 = y at *
        generalize c.getD k 0 = x at *
        clear he
        have hdl := diffL_length c d k
        go_wp2_with fail
        go_quiet (fail)
        obtain ⟨w2, hw2⟩ : ∃ w2, w2 = wr.drewN nq := ⟨_, rfl⟩
        have hown2 : Hid (Own w2 (w.heap.size + 2) u5 (diffL c d k)) := by rw [hw2]; exact hown
        have hh2 : Hid (w2.heap[w.heap.size]? = some (.cells (W8 c) 24 (0, 0)) ∧ w2.heap[w.heap.size + 1]? = some (.cells (W8 d) 24 (0, 0)) ∧ Below w.heap.size w w2) := by rw [hw2]; exact ⟨hh.out.1, hh.out.2.1, bdrewN hh.out.2.2 _⟩
        rw [← hw2]
        have hsz : w.heap.size + 1 < w2.heap.size := lt_of_some hh2.out.2.1
        clear hw2 hown hh c1 c2
        go_wp2_with (refine append_int rfl _ _ rfl (w.heap.size + 2) u5 (diffL c d k) (k : Int) _ rfl rfl hown2 (by omega) (by omega) ?_; intro v' w3 hown3 hb3)
        go_roundw
        case rel => exact ⟨k + 1, by omega, by go_num, by rw [HE.out]; exact hown3, by rw [hb3.out.block _ (by omega)]; exact hh2.out.1, by rw [hb3.out.block _ (by omega)]; exact hh2.out.2.1, hh2.out.2.2.trans (hb3.out.mono (by omega))⟩
        case measure => simp [intOf]; omega
    · have HK := Lib.hid (show k = 8 by omega)
      go_wp2
      go_ret
      exact ⟨_, rfl, by rw [← HK.out]; exact hown.out.ints (by have := diffL_length c d k; omega), hh.out.2.2⟩

set_option maxHeartbeats 1000000 in
theorem rdiff_any (c d : List Nat) (w : World) (hc : Pg c) (hd : Pg d) :
    Calls Try.prog 28 #[.agg (W8 c), .agg (W8 d)] w (RetInts (diffL c d 8) w) := by
  go_enter Try.func28, Try.ntmps28
  go_wp2
  go_loopw [5, 6] (fun v i wr => ∃ k : Nat, k ≤ 8 ∧ i = .int .i64 k ∧ Hid (Own wr (w.heap.size + 2) v (diffL c d k)) ∧ Hid (wr.heap[w.heap.size]? = some (.cells (W8 c) 24 (0, 0)) ∧ wr.heap[w.heap.size + 1]? = some (.cells (W8 d) 24 (0, 0)) ∧ Below w.heap.size w wr)) (fun _ i _ => 8 - (intOf i).toNat)
  case atStart => exact ⟨0, by omega, rfl, Own.nil _ _, h2_0 _ _ _, h2_1 _ _ _, (((Below.refl _ _).alloc (Nat.le_refl _) _).alloc (by simp only [World.size_alloc] <;> omega) _)⟩
  case round =>
    obtain ⟨k, hk, rfl, hown, hh⟩ := hrel
    by_cases hlt : k < 8
    · have c1 := setRow_cell hh.out.1 (W8_get? c k (by rw [hc.1]; omega))
      have c2 := setRow_cell hh.out.2.1 (W8_get? d k (by rw [hd.1]; omega))
      have i1 : (0 : Int) ≤ (k : Int) := by omega
      have i2 : (k : Int) < 8 := by omega
      by_cases he : c.getD k 0 = d.getD k 0
      · have HE : Hid (diffL c d (k + 1) = diffL c d k) := by show _ = _; simp only [diffL]; rw [if_pos he]
        rw [he] at c1
        generalize d.getD k 0 = y at *
        clear he
        have hyy : ((y : Int) != (y : Int)) = false := by simp
        go_wp2_with fail
        go_quiet (fail)
        go_wp2
        go_roundw
        case rel => exact ⟨k + 1, by omega, by go_num, by rw [HE.out]; exact hown, hh.out.1, hh.out.2.1, bdrewN hh.out.2.2 _⟩
        case measure => simp [intOf]; omega
      · have HE : Hid (diffL c d (k + 1) = diffL c d k ++ [(k : Int)]) := by show _ = _; simp only [diffL]; rw [if_neg he]
        have hyy : (((c.getD k 0 : Nat) : Int) != ((d.getD k 0 : Nat) : Int)) = true := by simp only [bne_iff_ne]; omega
        generalize d.getD k 0 = y at *
        generalize c.getD k 0 = x at *
        clear he
        have hdl := diffL_length c d k
        go_wp2_with fail
        go_quiet (fail)
        obtain ⟨w2, hw2⟩ : ∃ w2, w2 = wr.drewN nq := ⟨_, rfl⟩
        have hown2 : Hid (Own w2 (w.heap.size + 2) u5 (diffL c d k)) := by rw [hw2]; exact hown
        have hh2 : Hid (w2.heap[w.heap.size]? = some (.cells (W8 c) 24 (0, 0)) ∧ w2.heap[w.heap.size + 1]? = some (.cells (W8 d) 24 (0, 0)) ∧ Below w.heap.size w w2) := by rw [hw2]; exact ⟨hh.out.1, hh.out.2.1, bdrewN hh.out.2.2 _⟩
        rw [← hw2]
        have hsz : w.heap.size + 1 < w2.heap.size := lt_of_some hh2.out.2.1
        clear hw2 hown hh c1 c2
        go_wp2_with (refine append_int rfl _ _ rfl (w.heap.size + 2) u5 (diffL c d k) (k : Int) _ rfl rfl hown2 (by omega) (by omega) ?_; intro v' w3 hown3 hb3)
        go_roundw
        case rel => exact ⟨k + 1, by omega, by go_num, by rw [HE.out]; exact hown3, by rw [hb3.out.block _ (by omega)]; exact hh2.out.1, by rw [hb3.out.block _ (by omega)]; exact hh2.out.2.1, hh2.out.2.2.trans (hb3.out.mono (by omega))⟩
        case measure => simp [intOf]; omega
    · have HK := Lib.hid (show k = 8 by omega)
      go_wp2
      go_ret
      exact ⟨_, rfl, by rw [← HK.out]; exact hown.out.ints (by have := diffL_length c d k; omega), hh.out.2.2⟩

end Go.Proofs.Ytbdhjiadomifeaa
