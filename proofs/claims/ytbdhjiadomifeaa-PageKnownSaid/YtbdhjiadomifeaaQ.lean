/- Helper facts for the statements of this seat; no statement itself. -/
import Derived.Test.YtbdhjiadomifeaaO
namespace Go.Proofs.Ytbdhjiadomifeaa
open Go.RowKit
set_option linter.unusedSimpArgs false
set_option linter.unusedVariables false
set_option linter.unnecessarySimpa false
attribute [local go_sem] W8_set

/-- The first k words of the page that a number fills. -/
def fillK (v : Nat) : Nat → List Nat
  | 0 => List.replicate 8 0
  | k + 1 => (fillK v k).set k (rotl v (8 * k))
theorem fillK_length (v k : Nat) : (fillK v k).length = 8 := by
  induction k with
  | zero => simp [fillK]
  | succ k ih => simp [fillK, ih]

set_option maxHeartbeats 400000 in
theorem fill_any (v : Nat) (w : World) (hv : v < 18446744073709551616) :
    Calls Try.prog 26 #[.int .u64 v] w fun e w' => e = .returned (.agg (W8 (fillK v 8))) ∧ Below w.heap.size w w' := by
  go_enter Try.func26, Try.ntmps26
  go_wp2
  go_loopw [5] (fun i wr => ∃ (k : Nat), k ≤ 8 ∧ i = .int .i64 k ∧ wr = (w.alloc (.cells (W8 (List.replicate 8 0)) 24)).alloc (.cells (W8 (fillK v k)) 24)) (fun i _ => 8 - (intOf i).toNat)
  case atStart => exact ⟨0, by omega, rfl, rfl⟩
  case round =>
    obtain ⟨k, hk, rfl, rfl⟩ := hrel
    by_cases hlt2 : k < 8
    · go_wp2_with fail
      rw [show ((8 : Int) * (k : Int)) = ((8 * k : Nat) : Int) by omega]
      refine (rot_any v (8 * k) _ hv (by omega)).mono ?_
      rintro e w' ⟨rfl, rfl⟩
      have hks : k < (W8 (fillK v k)).size := by rw [W8_size, fillK_length]; exact hlt2
      have HX : Hid (fillK v (k + 1) = (fillK v k).set k (rotl v (8 * k))) := rfl
      generalize rotl v (8 * k) = y at *
      go_wp2
      go_roundw
      case rel => exact ⟨k + 1, by omega, by go_num, by rw [HX.out]; rfl⟩
      case measure => simp [intOf]; omega
    · have HK := Lib.hid (show k = 8 by omega)
      go_wp2_with (first | refine ld24 rfl _ rfl _ rfl (fillK v k) (fillK_length v k) 24 (h2_1 _ _ _) ?_ | refine st24 rfl _ _ rfl w.heap.size (fillK v k) (List.replicate 8 0) rfl rfl (fillK_length v k) (by simp) 24 (h2_0 _ _ _) ?_)
      refine bodyPost_ret (v := .agg (W8 (fillK v k))) ?_ rfl ⟨?_, ?_⟩
      · exact results_cell_row (fn := Try.f26) (p := 2) rfl _ _ w.heap.size 24 (W8 (fillK v k)) (0, 0) _ (by rfl) (setRow_heap _ _ _ _ _ _ (h2_0 _ _ _)) Try.underlying24 rfl (by rw [size24, W8_size, fillK_length])
      · rw [HK.out]
      · exact below_setRow (((Below.refl _ _).alloc (Nat.le_refl _) _).alloc (by simp only [World.size_alloc] <;> omega) _) (by omega) _

set_option maxHeartbeats 400000 in
theorem rfill_any (v : Nat) (w : World) (hv : v < 18446744073709551616) :
    Calls Try.prog 27 #[.int .u64 v] w fun e w' => e = .returned (.agg (W8 (fillK v 8))) ∧ Below w.heap.size w w' := by
  go_enter Try.func27, Try.ntmps27
  go_wp2
  go_loopw [4] (fun i wr => ∃ (k : Nat), k ≤ 8 ∧ i = .int .i64 k ∧ wr = (w.alloc (.cells (W8 (List.replicate 8 0)) 24)).alloc (.cells (W8 (fillK v k)) 24)) (fun i _ => 8 - (intOf i).toNat)
  case atStart => exact ⟨0, by omega, rfl, rfl⟩
  case round =>
    obtain ⟨k, hk, rfl, rfl⟩ := hrel
    by_cases hlt2 : k < 8
    · go_wp2_with fail
      rw [show ((8 : Int) * (k : Int)) = ((8 * k : Nat) : Int) by omega]
      refine (turned_any v (8 * k) _ hv (by omega)).mono ?_
      rintro e w' ⟨rfl, rfl⟩
      have hks : k < (W8 (fillK v k)).size := by rw [W8_size, fillK_length]; exact hlt2
      have HX : Hid (fillK v (k + 1) = (fillK v k).set k (rotl v (8 * k))) := rfl
      generalize rotl v (8 * k) = y at *
      go_wp2
      go_roundw
      case rel => exact ⟨k + 1, by omega, by go_num, by rw [HX.out]; rfl⟩
      case measure => simp [intOf]; omega
    · have HK := Lib.hid (show k = 8 by omega)
      go_wp2_with (first | refine ld24 rfl _ rfl _ rfl (fillK v k) (fillK_length v k) 24 (h2_1 _ _ _) ?_ | refine st24 rfl _ _ rfl w.heap.size (fillK v k) (List.replicate 8 0) rfl rfl (fillK_length v k) (by simp) 24 (h2_0 _ _ _) ?_)
      refine bodyPost_ret (v := .agg (W8 (fillK v k))) ?_ rfl ⟨?_, ?_⟩
      · exact results_cell_row (fn := Try.f27) (p := 2) rfl _ _ w.heap.size 24 (W8 (fillK v k)) (0, 0) _ (by rfl) (setRow_heap _ _ _ _ _ _ (h2_0 _ _ _)) Try.underlying24 rfl (by rw [size24, W8_size, fillK_length])
      · rw [HK.out]
      · exact below_setRow (((Below.refl _ _).alloc (Nat.le_refl _) _).alloc (by simp only [World.size_alloc] <;> omega) _) (by omega) _

/-! ### Plain facts: where pages differ, and their sums -/
theorem diffL_comm (c d : List Nat) (k : Nat) : diffL c d k = diffL d c k := by
  induction k with
  | zero => rfl
  | succ k ih =>
    simp only [diffL]
    rw [ih]
    by_cases h : c.getD k 0 = d.getD k 0
    · rw [if_pos h, if_pos h.symm]
    · rw [if_neg h, if_neg (fun e => h e.symm)]

theorem diffL_same (c : List Nat) (k : Nat) : diffL c c k = [] := by
  induction k with
  | zero => rfl
  | succ k ih => simp only [diffL]; rw [if_pos trivial, ih]

theorem getD_set (c : List Nat) (j v k : Nat) (hj : j < c.length) : (c.set j v).getD k 0 = if k = j then v else c.getD k 0 := by
  simp only [List.getD_eq_getElem?_getD, List.getElem?_set]
  by_cases h : j = k
  · subst h; rw [if_pos rfl, if_pos hj, if_pos rfl]; rfl
  · rw [if_neg h, if_neg (fun e => h e.symm)]

theorem diffL_set (c : List Nat) (j v : Nat) (hj : j < c.length) (hv : c.getD j 0 ≠ v) (k : Nat) : diffL c (c.set j v) k = if j < k then [(j : Int)] else [] := by
  induction k with
  | zero => simp [diffL]
  | succ k ih =>
    simp only [diffL]
    rw [getD_set c j v k hj, ih]
    by_cases h : k = j
    · subst h
      rw [if_pos rfl, if_neg hv, if_neg (by omega), if_pos (by omega)]; rfl
    · rw [if_neg h, if_pos rfl]
      by_cases h2 : j < k
      · rw [if_pos h2, if_pos (by omega)]
      · rw [if_neg h2, if_neg (by omega)]

theorem set_same (c : List Nat) (j : Nat) (hj : j < c.length) : c.set j (c.getD j 0) = c := by
  refine ext_getD (by simp) (fun k hk => ?_)
  rw [getD_set c j _ k hj]
  by_cases h : k = j
  · rw [if_pos h, h]
  · rw [if_neg h]

theorem rotl7_inj (x y : Nat) (hx : x < 18446744073709551616) (hy : y < 18446744073709551616) (h : x ≠ y) : rotl x 7 ≠ rotl y 7 := by
  rw [rotl_eq x 7 (by omega), rotl_eq y 7 (by omega)]
  rw [show (2 : Nat) ^ (64 - 7) = 144115188075855872 from rfl, show (2 : Nat) ^ 7 = 128 from rfl]
  have h1 := Nat.div_add_mod x 144115188075855872
  have h2 := Nat.div_add_mod y 144115188075855872
  have ha : x / 144115188075855872 < 128 := by omega
  have hb : y / 144115188075855872 < 128 := by omega
  generalize x / 144115188075855872 = a at *
  generalize y / 144115188075855872 = b at *
  generalize x % 144115188075855872 = p at *
  generalize y % 144115188075855872 = q at *
  intro h3
  have h4 : a = b := by omega
  have h5 : p = q := by omega
  exact h (by rw [← h1, ← h2, h4, h5])

theorem sum_step (s s' x y : Nat) (hx : x < 18446744073709551616) (hy : y < 18446744073709551616) (hs : s < 18446744073709551616) (hs' : s' < 18446744073709551616) (h : (s = s' ∧ x ≠ y) ∨ (s ≠ s' ∧ x = y)) :
    (rotl s 7 + x) % 18446744073709551616 ≠ (rotl s' 7 + y) % 18446744073709551616 := by
  have h1 := rotl_lt s 7 hs (by omega)
  have h2 := rotl_lt s' 7 hs' (by omega)
  rcases h with ⟨rfl, h⟩ | ⟨h, rfl⟩
  · omega
  · have := rotl7_inj s s' hs hs' h
    omega

theorem sum_before (c d : List Nat) (j k : Nat) (hk : k ≤ j) (h : ∀ i, i < j → c.getD i 0 = d.getD i 0) : sumK c k = sumK d k := by
  induction k with
  | zero => rfl
  | succ k ih => simp only [sumK]; rw [ih (by omega), h k (by omega)]

theorem sum_after (c d : List Nat) (hc : Pg c) (hd : Pg d) (j k : Nat) (hk : j < k) (hne : c.getD j 0 ≠ d.getD j 0) (h : ∀ i, i ≠ j → c.getD i 0 = d.getD i 0) : sumK c k ≠ sumK d k := by
  induction k with
  | zero => omega
  | succ k ih =>
    simp only [sumK]
    by_cases e : j = k
    · subst e
      exact sum_step _ _ _ _ (pg_lt hc _) (pg_lt hd _) (sumK_lt _ _) (sumK_lt _ _) (.inl ⟨sum_before c d j j (by omega) (fun i hi => h i (by omega)), hne⟩)
    · exact sum_step _ _ _ _ (pg_lt hc _) (pg_lt hd _) (sumK_lt _ _) (sumK_lt _ _) (.inr ⟨ih (by omega), h k (by omega)⟩)

theorem set_pg {c : List Nat} (hp : Pg c) (j v : Nat) (hv : v < 18446744073709551616) : Pg (c.set j v) := by
  refine ⟨by rw [List.length_set, hp.1], fun x hx => ?_⟩
  rcases List.mem_or_eq_of_mem_set hx with h | h
  · exact hp.2 x h
  · rw [h]; exact hv

theorem sum_set (c : List Nat) (hp : Pg c) (j v : Nat) (hj : j < 8) (hv : v < 18446744073709551616) (hne : c.getD j 0 ≠ v) : sumK c 8 ≠ sumK (c.set j v) 8 := by
  have hl : j < c.length := by rw [hp.1]; exact hj
  refine sum_after c _ hp (set_pg hp j v hv) j 8 hj ?_ (fun i hi => ?_)
  · rw [getD_set c j v j hl, if_pos rfl]; exact hne
  · rw [getD_set c j v i hl, if_neg hi]

end Go.Proofs.Ytbdhjiadomifeaa
