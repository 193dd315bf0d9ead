/- Helper facts for the statements of this seat; no statement itself. -/
import Derived.Test.YtbdhjiadomifeaaH
namespace Go.Proofs.Ytbdhjiadomifeaa
open Go.RowKit
set_option linter.unusedSimpArgs false
set_option linter.unusedVariables false
set_option linter.unnecessarySimpa false

/-- A word turned left. -/
def rotl (x s : Nat) : Nat := x * 2 ^ s % 18446744073709551616 + x / 2 ^ (64 - s)

theorem and63 (s : Nat) (hs : s < 64) : bits .and .u64 (s : Int) 63 = (s : Int) := by
  have := u64_and_nat s 63 (by omega) (by omega)
  rw [show ((63 : Nat) : Int) = 63 from rfl] at this
  rw [this, nat_mask6, Nat.mod_eq_of_lt hs]

theorem rot_eq (x s : Nat) (hx : x < 18446744073709551616) (hs : s < 64) : bits .or .u64 (IntKind.u64.wrap ((x : Int) * 2 ^ s)) ((x : Int) / 2 ^ (64 - s)) = ((rotl x s : Nat) : Int) := by
  have e1 : IntKind.u64.wrap ((x : Int) * 2 ^ s) = ((x * 2 ^ s % 18446744073709551616 : Nat) : Int) := by
    rw [IntKind.wrap_u64]; simp
  have e2 : ((x : Int) / 2 ^ (64 - s)) = ((x / 2 ^ (64 - s) : Nat) : Int) := by simp
  have hlt : x / 2 ^ (64 - s) < 2 ^ s := by
    rw [Nat.div_lt_iff_lt_mul (Nat.two_pow_pos _), ← Nat.pow_add, show s + (64 - s) = 64 by omega]
    omega
  have hs2 : (2 : Nat) ^ s ≤ 2 ^ 63 := Nat.pow_le_pow_right (by omega) (by omega)
  have hd : x * 2 ^ s % 18446744073709551616 % 2 ^ s = 0 := by
    rw [show 18446744073709551616 = 2 ^ s * 2 ^ (64 - s) by rw [← Nat.pow_add, show s + (64 - s) = 64 by omega], Nat.mod_mul_right_mod]
    simp
  rw [e1, e2, u64_or_nat _ _ (Nat.mod_lt _ (by omega)) (by omega), nat_join s _ _ hd hlt]
  rfl

set_option maxHeartbeats 400000 in
theorem rot_any (x s : Nat) (w : World) (hx : x < 18446744073709551616) (hs : s < 64) :
    Calls Try.prog 41 #[.int .u64 x, .int .i64 s] w fun e w' => e = .returned (.int .u64 (rotl x s : Nat)) ∧ w = w' := by
  have ha := and63 s hs
  have HE := Lib.hid (rot_eq x s hx hs)
  go_enter Try.func41, Try.ntmps41
  go_wp2
  go_ret
  exact ⟨ret_int HE.out, rfl⟩

set_option maxHeartbeats 400000 in
theorem example_any (w : World) :
    Calls Try.prog 34 #[] w fun e w' => e = .returned (.agg (W8 [1234605616436508552, 255, 0, 0, 0, 0, 0, 0])) ∧ Below w.heap.size w w' := by
  go_enter Try.func34, Try.ntmps34
  go_wp2
  refine bodyPost_ret (v := .agg (W8 [1234605616436508552, 255, 0, 0, 0, 0, 0, 0])) ?_ rfl ⟨rfl, ((Below.refl _ _).alloc (Nat.le_refl _) _)⟩
  refine results_cell_row (fn := Try.f34) (p := 0) rfl _ _ w.heap.size 24 (W8 [1234605616436508552, 255, 0, 0, 0, 0, 0, 0]) (0, 0) _ ?_ ?_ Try.underlying24 rfl (by rw [size24]; rfl)
  · rfl
  · exact h1_0 _ _

theorem rotl_lt (x s : Nat) (hx : x < 18446744073709551616) (hs : s < 64) : rotl x s < 18446744073709551616 := by
  have h := rot_eq x s hx hs
  have hlt : x / 2 ^ (64 - s) < 2 ^ s := by
    rw [Nat.div_lt_iff_lt_mul (Nat.two_pow_pos _), ← Nat.pow_add, show s + (64 - s) = 64 by omega]
    omega
  have e : 18446744073709551616 = 2 ^ s * 2 ^ (64 - s) := by rw [← Nat.pow_add, show s + (64 - s) = 64 by omega]
  have hd : x * 2 ^ s % 18446744073709551616 = 2 ^ s * (x % 2 ^ (64 - s)) := by
    rw [e, Nat.mul_comm x, Nat.mul_mod_mul_left]
  have h2 : x % 2 ^ (64 - s) + 1 ≤ 2 ^ (64 - s) := Nat.mod_lt _ (Nat.two_pow_pos _)
  have h3 : 2 ^ s * (x % 2 ^ (64 - s) + 1) ≤ 2 ^ s * 2 ^ (64 - s) := Nat.mul_le_mul_left _ h2
  unfold rotl
  rw [hd]
  rw [← e, Nat.mul_add] at h3
  omega

/-- The sum of the first k words. -/
def sumK (c : List Nat) : Nat → Nat
  | 0 => 0
  | k + 1 => (rotl (sumK c k) 7 + c.getD k 0) % 18446744073709551616

theorem sumK_lt (c : List Nat) (k : Nat) : sumK c k < 18446744073709551616 := by
  cases k with
  | zero => simp [sumK]
  | succ k => exact Nat.mod_lt _ (by omega)

set_option maxHeartbeats 400000 in
theorem sum_any (c : List Nat) (w : World) (hp : Pg c) :
    Calls Try.prog 25 #[.agg (W8 c)] w fun e w' => e = .returned (.int .u64 (sumK c 8 : Nat)) ∧ Below w.heap.size w w' := by
  go_enter Try.func25, Try.ntmps25
  go_wp2_with (refine ld24 rfl _ rfl _ rfl c hp.1 24 (h1_0 _ _) ?_)
  go_loop [3, 7] (fun x i => ∃ k : Nat, k ≤ 8 ∧ i = .int .i64 k ∧ x = .int .u64 (sumK c k : Nat)) (fun _ i => 8 - (intOf i).toNat)
  case atStart => exact ⟨0, by omega, rfl, rfl⟩
  case round =>
    obtain ⟨k, hk, rfl, rfl⟩ := hrel
    by_cases hlt : k < 8
    · have hix := run_index24 c k hp.1 hlt
      have hbk := pg_lt hp k
      have hsk := sumK_lt c k
      have HS : Hid (sumK c (k + 1) = (rotl (sumK c k) 7 + c.getD k 0) % 18446744073709551616) := rfl
      have hrl := rotl_lt (sumK c k) 7 hsk (by omega)
      generalize sumK c k = s at *
      generalize c.getD k 0 = y at *
      go_wp2_with fail
      refine (rot_any s 7 _ hsk (by omega)).mono ?_
      rintro e w' ⟨rfl, rfl⟩
      generalize rotl s 7 = r at *
      go_wp2
      go_round
      case rel => exact ⟨k + 1, by omega, by go_num, by rw [HS.out, IntKind.wrap_u64]; go_num⟩
      case measure => simp [intOf]; omega
    · have HK := Lib.hid (show k = 8 by omega)
      go_wp2
      go_ret
      exact ⟨ret_int (by rw [HK.out]), ((Below.refl _ _).alloc (Nat.le_refl _) _)⟩

/-- The page of the chapter's examples. -/
def exC : List Nat := [1234605616436508552, 255, 0, 0, 0, 0, 0, 0]
def exD : List Nat := [0, 0, 0, 0, 0, 0, 1234605616436508552, 255]
theorem exC_pg : Pg exC := ⟨rfl, by decide⟩
theorem exD_pg : Pg exD := ⟨rfl, by decide⟩
theorem ex1 : num exC 7 3 = 65297 := by decide +kernel
theorem ex2 : sgn 1 (num exC 0 1) = -120 := by decide +kernel
theorem ex3 : sumK exD 8 = 10455566314196681991 := by decide +kernel

set_option maxHeartbeats 400000 in
theorem awake_any (w : World) : Calls Try.prog 17 #[] w fun e w' => e = .returned (.bool true) ∧ Below w.heap.size w w' := by
  go_enter Try.func17, Try.ntmps17
  go_wp2_with fail
  refine (example_any _).mono ?_
  rintro e w1 ⟨rfl, h1⟩
  have H1 := Lib.hid h1
  clear h1
  go_wp2_with fail
  refine (bytes_ok exC 7 3 _ (by omega) (by omega) (by omega) exC_pg.1 exC_pg.2).mono ?_
  rintro e w2 ⟨rfl, h1⟩
  have H2 := Lib.hid (btrans H1.out h1)
  clear h1 H1
  rw [ex1]
  go_wp2_with fail
  refine (example_any _).mono ?_
  rintro e w3 ⟨rfl, h1⟩
  have H3 := Lib.hid (btrans H2.out h1)
  clear h1 H2
  go_wp2_with fail
  refine (signed_ok exC 0 1 _ (by omega) (by omega) (by omega) exC_pg).mono ?_
  rintro e w4 ⟨rfl, h1⟩
  have H4 := Lib.hid (btrans H3.out h1)
  clear h1 H3
  rw [ex2]
  go_wp2_with fail
  refine (sum_any exD _ exD_pg).mono ?_
  rintro e w5 ⟨rfl, h1⟩
  have H5 := Lib.hid (btrans H4.out h1)
  clear h1 H4
  rw [ex3]
  go_wp2_with fail
  go_ret
  exact ⟨rfl, H5.out⟩

end Go.Proofs.Ytbdhjiadomifeaa
