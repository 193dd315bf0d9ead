/- Helper facts for the statements of this seat; no statement itself. -/
import Derived.Test.YtbdhjiadomifeaaD
namespace Go.Proofs.Ytbdhjiadomifeaa
open Go.RowKit
set_option linter.unusedSimpArgs false
set_option linter.unusedVariables false
set_option linter.unnecessarySimpa false

theorem num_zero (c : List Nat) (a : Nat) : num c a 0 = 0 := by simp [num, le]

theorem num_head (c : List Nat) (a n : Nat) (h : a < 64) : num c a (n + 1) = bya c a + 256 * num c (a + 1) n := by
  have hl := byts_length c 8 (by omega)
  unfold num
  rw [List.drop_eq_getElem_cons (by omega), List.take_succ_cons, le]
  have := byts_get c 8 a (by omega) (by omega)
  rw [List.getD_eq_getElem?_getD, List.getElem?_eq_getElem (by omega)] at this
  simp at this
  rw [this]

theorem num_last (c : List Nat) (a n : Nat) (h : a + n < 64) : num c a (n + 1) = num c a n + bya c (a + n) * 256 ^ n := by
  have hl := byts_length c 8 (by omega)
  unfold num
  rw [le_take_succ _ _ (by simp; omega)]
  congr 2
  have := byts_get c 8 (a + n) (by omega) (by omega)
  rw [← this]
  simp [List.getD_eq_getElem?_getD, List.getElem?_drop]

theorem bya_lt (c : List Nat) (i : Nat) : bya c i < 256 := Nat.mod_lt _ (by omega)

set_option maxHeartbeats 400000 in
theorem rbytes_bad (c : List Nat) (a n : Int) (w : World) (h : inB a n = false) :
    Calls Try.prog 12 #[.agg (W8 c), .int .i64 a, .int .i64 n] w fun e w' => e = .returned (.tuple #[.int .u64 0, .int .i64 2]) ∧ Below w.heap.size w w' := by
  go_enter Try.func12, Try.ntmps12
  go_wp2_with (go_at_call 38; refine (in_any _ _ _).mono ?_; rintro e w' ⟨rfl, rfl⟩)
  go_ret2
  exact ⟨rfl, ((Below.refl _ _).alloc (Nat.le_refl _) _)⟩

set_option maxHeartbeats 400000 in
theorem rbytes_ok (c : List Nat) (a n : Nat) (w : World) (h1 : 1 ≤ n) (h2 : n ≤ 8) (h3 : a + n ≤ 64) (hp : Pg c) :
    Calls Try.prog 12 #[.agg (W8 c), .int .i64 a, .int .i64 n] w fun e w' => e = .returned (.tuple #[.int .u64 (num c a n : Nat), .int .i64 0]) ∧ Below w.heap.size w w' := by
  have hin := inB_nat h1 h2 h3
  go_enter Try.func12, Try.ntmps12
  go_wp2_with (go_at_call 38; refine (in_any _ _ _).mono ?_; rintro e w' ⟨rfl, rfl⟩)
  go_loopw [8, 9] (fun x q wr => ∃ j : Nat, j ≤ n ∧ q = .int .i64 ((j : Int) - 1) ∧ x = .int .u64 (num c (a + j) (n - j) : Nat) ∧ wr.heap[w.heap.size]? = some (.cells (W8 c) 24 (0, 0)) ∧ Below w.heap.size w wr) (fun _ q _ => (intOf q + 1).toNat)
  case atStart => exact ⟨n, by omega, rfl, by rw [Nat.sub_self, num_zero]; rfl, h1_0 _ _, ((Below.refl _ _).alloc (Nat.le_refl _) _)⟩
  case round =>
    obtain ⟨j, hj, rfl, rfl, hg, hbl⟩ := hrel
    have HG := Lib.hid hg
    have HB := Lib.hid hbl
    clear hg hbl
    by_cases hlt : j = 0
    · subst hlt
      have hd : decide ((0 : Int) ≤ ((0 : Nat) : Int) - 1) = false := by decide
      go_wp2
      go_ret2
      exact ⟨rfl, HB.out⟩
    · obtain ⟨i, rfl⟩ : ∃ i, j = i + 1 := ⟨j - 1, by omega⟩
      have hlt1 : num c (a + (i + 1)) (n - (i + 1)) < 72057594037927936 := by
        have := num_lt c (a + (i + 1)) (n - (i + 1)) (by omega)
        have h7 : (256 : Nat) ^ (n - (i + 1)) ≤ 256 ^ 7 := Nat.pow_le_pow_right (by omega) (by omega)
        omega
      have hst : num c (a + i) (n - i) = bya c (a + i) + 256 * num c (a + (i + 1)) (n - (i + 1)) := by
        rw [show n - i = (n - (i + 1)) + 1 by omega, num_head c (a + i) _ (by omega)]; rfl
      have HS := Lib.hid hst
      have hby := bya_lt c (a + i)
      clear hst
      rw [show (((i + 1 : Nat) : Int) - 1) = (i : Int) by omega]
      generalize num c (a + (i + 1)) (n - (i + 1)) = z at *
      go_wp2_with (refine ld24 rfl _ rfl _ rfl c hp.1 24 HG.out ?_)
      rw [show ((a : Int) + (i : Int)) = ((a + i : Nat) : Int) by omega]
      refine (one_any c (a + i) _ (by omega) hp).mono ?_
      rintro e w1 ⟨rfl, hb1⟩
      have H1 := Lib.hid hb1
      clear hb1
      generalize bya c (a + i) = y at *
      go_wp2
      go_roundw
      case rel => exact ⟨i, by omega, by go_num, by rw [HS.out]; go_num, bkeep H1.out HG.out, btrans HB.out H1.out⟩
      case measure => simp [intOf] <;> omega

set_option maxHeartbeats 400000 in
theorem rsigned_bad (c : List Nat) (a n : Int) (w : World) (hp : Pg c) (h : inB a n = false) :
    Calls Try.prog 14 #[.agg (W8 c), .int .i64 a, .int .i64 n] w fun e w' => e = .returned (.tuple #[.int .i64 0, .int .i64 2]) ∧ Below w.heap.size w w' := by
  go_enter Try.func14, Try.ntmps14
  go_wp2_with (refine ld24 rfl _ rfl _ rfl c hp.1 24 (h1_0 _ _) ?_)
  refine (rbytes_bad c a n _ h).mono ?_
  rintro e w' ⟨rfl, hb⟩
  have HB := Lib.hid (bfirst _ _ hb)
  clear hb
  go_wp2
  go_ret2
  exact ⟨rfl, HB.out.2⟩

theorem rsg1 (n v b : Nat) (h1 : 1 ≤ n) (h2 : n ≤ 8) (x : Nat) (hx : x < 256 ^ (n - 1)) (hv : v = x + b * 256 ^ (n - 1)) (hb : b < 128 ∨ n = 8) (hb2 : b < 256) : wrap64 (v : Int) = sgn n v := by
  unfold sgn
  obtain ⟨m, rfl⟩ : ∃ m, n = m + 1 := ⟨n - 1, by omega⟩
  rw [show m + 1 - 1 = m by omega] at *
  rcases lt8 (show m < 8 by omega) with rfl | rfl | rfl | rfl | rfl | rfl | rfl | rfl <;> simp only [wrap64] <;> split <;> omega
theorem rsg2 (n v b : Nat) (h1 : 1 ≤ n) (h2 : n < 8) (x : Nat) (hx : x < 256 ^ (n - 1)) (hv : v = x + b * 256 ^ (n - 1)) (hb : ¬ b < 128) (hb2 : b < 256) : wrap64 (wrap64 (v : Int) - wrap64 (2 ^ (8 * n))) = sgn n v := by
  unfold sgn
  obtain ⟨m, rfl⟩ : ∃ m, n = m + 1 := ⟨n - 1, by omega⟩
  rw [show m + 1 - 1 = m by omega] at *
  rcases lt8 (show m < 8 by omega) with rfl | rfl | rfl | rfl | rfl | rfl | rfl | rfl <;> simp only [wrap64] <;> (try split) <;> omega

set_option maxHeartbeats 400000 in
set_option maxRecDepth 100000 in
theorem rsigned_ok (c : List Nat) (a n : Nat) (w : World) (h1 : 1 ≤ n) (h2 : n ≤ 8) (h3 : a + n ≤ 64) (hp : Pg c) :
    Calls Try.prog 14 #[.agg (W8 c), .int .i64 a, .int .i64 n] w fun e w' => e = .returned (.tuple #[.int .i64 (sgn n (num c a n)), .int .i64 0]) ∧ Below w.heap.size w w' := by
  have hnl : num c a n = num c a (n - 1) + bya c (a + (n - 1)) * 256 ^ (n - 1) := by
    have := num_last c a (n - 1) (by omega)
    rwa [show n - 1 + 1 = n by omega] at this
  have HN := Lib.hid hnl
  have hx := Lib.hid (num_lt c a (n - 1) (by omega))
  have hb2 := bya_lt c (a + (n - 1))
  clear hnl
  go_enter Try.func14, Try.ntmps14
  go_wp2_with (refine ld24 rfl _ rfl _ rfl c hp.1 24 (h1_0 _ _) ?_)
  refine (rbytes_ok c a n _ h1 h2 h3 hp).mono ?_
  rintro e w1 ⟨rfl, hb⟩
  have HB := Lib.hid (bfirst _ _ hb)
  clear hb
  go_wp2_with (refine ld24 rfl _ rfl _ rfl c hp.1 24 HB.out.1 ?_)
  rw [show ((a : Int) + (n : Int) - 1) = ((a + (n - 1) : Nat) : Int) by omega]
  refine (one_any c (a + (n - 1)) _ (by omega) hp).mono ?_
  rintro e w2 ⟨rfl, hb3⟩
  have H2 := Lib.hid (btrans HB.out.2 hb3)
  clear hb3
  generalize hy : bya c (a + (n - 1)) = y at *
  have HY := Lib.hid hy
  clear hy
  by_cases hy1 : y < 128
  · go_wp2
    go_ret2
    exact ⟨ret2_int (rsg1 n _ y h1 h2 _ hx.out HN.out (.inl hy1) hb2), H2.out⟩
  · by_cases hn8 : n = 8
    · subst hn8
      go_wp2
      go_ret2
      exact ⟨ret2_int (rsg1 8 _ y h1 h2 _ hx.out HN.out (.inr rfl) hb2), H2.out⟩
    · have hn7 : n = 1 ∨ n = 2 ∨ n = 3 ∨ n = 4 ∨ n = 5 ∨ n = 6 ∨ n = 7 := by omega
      clear h2 hn8
      rcases hn7 with rfl | rfl | rfl | rfl | rfl | rfl | rfl
      all_goals
        have hv := num_lt c a _ h3
        go_wp2
        go_ret2
        refine ⟨ret2_int ?_, H2.out⟩
        refine Eq.trans ?_ (rsg2 _ _ y h1 (by omega) _ hx.out HN.out hy1 hb2)
        simp only [wrap64]
        omega

end Go.Proofs.Ytbdhjiadomifeaa
