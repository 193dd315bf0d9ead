/- Helper facts for the statements of this seat; no statement itself. -/
import Derived.Test.YtbdhjiadomifeaaM
namespace Go.Proofs.Ytbdhjiadomifeaa
open Go.RowKit
set_option linter.unusedSimpArgs false
set_option linter.unusedVariables false
set_option linter.unnecessarySimpa false
attribute [local go_sem] W8_set

theorem rotl_eq (v k : Nat) (hk : k ≤ 64) : rotl v k = 2 ^ k * (v % 2 ^ (64 - k)) + v / 2 ^ (64 - k) := by
  have e : 18446744073709551616 = 2 ^ k * 2 ^ (64 - k) := by rw [← Nat.pow_add, show k + (64 - k) = 64 by omega]
  unfold rotl
  rw [e, Nat.mul_comm v, Nat.mul_mod_mul_left]

theorem rotl_zero (v : Nat) (hv : v < 18446744073709551616) : rotl v 0 = v := by
  unfold rotl; omega

theorem rotl_succ (v k : Nat) (hk : k < 64) (hv : v < 18446744073709551616) : rotl (rotl v k) 1 = rotl v (k + 1) := by
  rw [rotl_eq _ 1 (by omega), rotl_eq v k (by omega), rotl_eq v (k + 1) (by omega)]
  rw [show 64 - (k + 1) = 63 - k by omega, show 64 - k = (63 - k) + 1 by omega, show 64 - 1 = 63 by rfl]
  have e63 : (2 : Nat) ^ 63 = 2 ^ k * 2 ^ (63 - k) := by rw [← Nat.pow_add, show k + (63 - k) = 63 by omega]
  have e64 : (2 : Nat) ^ (63 - k + 1) = 2 ^ (63 - k) * 2 := Nat.pow_succ ..
  have hvk : v < 2 ^ k * (2 ^ (63 - k) * 2) := by
    rw [← Nat.mul_assoc, ← e63]; omega
  have eS : (2 : Nat) ^ (k + 1) = 2 ^ k * 2 := Nat.pow_succ ..
  rw [e63, e64, eS, show (2 : Nat) ^ 1 = 2 from rfl]
  clear eS e63 e64
  have hP : 0 < 2 ^ k := Nat.two_pow_pos _
  have hQ : 0 < 2 ^ (63 - k) := Nat.two_pow_pos _
  generalize (2 : Nat) ^ k = P at *
  generalize (2 : Nat) ^ (63 - k) = Q at *
  have ha : v / (Q * 2) < P := by rw [Nat.div_lt_iff_lt_mul (by omega)]; exact hvk
  have h1 : v / Q = 2 * (v / (Q * 2)) + v % (Q * 2) / Q := by
    have h2 := Nat.div_add_mod v (Q * 2)
    have h3 : v = (2 * (v / (Q * 2))) * Q + v % (Q * 2) := by
      have : Q * 2 * (v / (Q * 2)) = (2 * (v / (Q * 2))) * Q := by rw [Nat.mul_comm Q 2, Nat.mul_assoc, Nat.mul_assoc, Nat.mul_comm Q]
      omega
    have h4 : v / Q = ((2 * (v / (Q * 2))) * Q + v % (Q * 2)) / Q := by rw [← h3]
    rw [h4, Nat.add_comm, Nat.add_mul_div_right _ _ hQ, Nat.add_comm]
  have h5 : v % Q = v % (Q * 2) % Q := by rw [Nat.mod_mul_right_mod]
  rw [h1, h5]
  generalize v / (Q * 2) = a at *
  generalize v % (Q * 2) = b at *
  have hx : (P * b + a) / P = b := by
    rw [Nat.add_comm, Nat.add_mul_div_left _ _ hP, Nat.div_eq_of_lt ha, Nat.zero_add]
  have hxm : (P * b + a) % P = a := by
    rw [Nat.add_comm, Nat.add_mul_mod_self_left, Nat.mod_eq_of_lt ha]
  have hd : (P * b + a) / (P * Q) = b / Q := by rw [← Nat.div_div_eq_div_mul, hx]
  have hm : (P * b + a) % (P * Q) = a + P * (b % Q) := by rw [Nat.mod_mul, hxm, hx]
  rw [hd, hm, Nat.mul_comm P 2, Nat.mul_assoc]
  omega

theorem rot1_eq (x : Nat) (hx : x < 18446744073709551616) : IntKind.u64.wrap (IntKind.u64.wrap ((x : Int) * 2) + (x : Int) / 9223372036854775808) = ((rotl x 1 : Nat) : Int) := by
  unfold rotl
  simp only [IntKind.wrap_u64]
  omega

set_option maxHeartbeats 400000 in
theorem turned_any (v n : Nat) (w : World) (hv : v < 18446744073709551616) (hn : n < 64) :
    Calls Try.prog 42 #[.int .u64 v, .int .i64 n] w fun e w' => e = .returned (.int .u64 (rotl v n : Nat)) ∧ w = w' := by
  go_enter Try.func42, Try.ntmps42
  go_wp2
  go_loop [0, 5] (fun x i => ∃ k : Nat, k ≤ n ∧ i = .int .i64 k ∧ x = .int .u64 (rotl v k : Nat)) (fun _ i => n - (intOf i).toNat)
  case atStart => exact ⟨0, by omega, rfl, by rw [rotl_zero v hv]⟩
  case round =>
    obtain ⟨k, hk, rfl, rfl⟩ := hrel
    have hlt2 := rotl_lt v k hv (by omega)
    by_cases hlt : k < n
    · have HE := Lib.hid (rot1_eq (rotl v k) hlt2)
      have HS := Lib.hid (rotl_succ v k (by omega) hv)
      generalize rotl v k = x at *
      go_wp2
      go_round
      case rel => exact ⟨k + 1, by omega, by go_num, by rw [← HS.out, ← HE.out]⟩
      case measure => simp [intOf]; omega
    · have HK := Lib.hid (show k = n by omega)
      go_wp2
      go_ret
      exact ⟨ret_int (by rw [HK.out]), rfl⟩

theorem quiet_same {P : Program} {f : FuncId} {args : Array Value} {w : World} {n : Nat} {v : Value}
    (h : Calls P f args (w.drewN n) fun e w' => e = .returned v ∧ w.drewN n = w') : Calls P f args (w.drewN n) fun e w'' => e = .returned v ∧ ∃ m, w'' = w.drewN m :=
  h.mono fun _ _ ⟨he, hm⟩ => ⟨he, n, hm.symm⟩

set_option maxHeartbeats 400000 in
theorem rsum_any (c : List Nat) (w : World) (hp : Pg c) :
    Calls Try.prog 29 #[.agg (W8 c)] w fun e w' => e = .returned (.int .u64 (sumK c 8 : Nat)) ∧ Below w.heap.size w w' := by
  go_enter Try.func29, Try.ntmps29
  go_wp2
  go_loopw [3, 4] (fun x i wr => ∃ k : Nat, k ≤ 8 ∧ i = .int .i64 k ∧ x = .int .u64 (sumK c k : Nat) ∧ Hid (wr.heap[w.heap.size]? = some (.cells (W8 c) 24 (0, 0)) ∧ Below w.heap.size w wr)) (fun _ i _ => 8 - (intOf i).toNat)
  case atStart => exact ⟨0, by omega, rfl, rfl, h1_0 _ _, ((Below.refl _ _).alloc (Nat.le_refl _) _)⟩
  case round =>
    obtain ⟨k, hk, rfl, rfl, hh⟩ := hrel
    by_cases hlt : k < 8
    · have c1 := setRow_cell hh.out.1 (W8_get? c k (by rw [hp.1]; omega))
      have hbk := pg_lt hp k
      have hsk := sumK_lt c k
      have HS : Hid (sumK c (k + 1) = (rotl (sumK c k) 7 + c.getD k 0) % 18446744073709551616) := rfl
      have hrl := rotl_lt (sumK c k) 7 hsk (by omega)
      have i1 : (0 : Int) ≤ (k : Int) := by omega
      have i2 : (k : Int) < 8 := by omega
      generalize sumK c k = s at *
      generalize c.getD k 0 = y at *
      go_wp2_with fail
      go_quiet ((go_at_call 42; exact quiet_same (turned_any s 7 _ hsk (by omega))))
      go_wp2
      go_roundw
      case rel => exact ⟨k + 1, by omega, by go_num, by rw [HS.out, IntKind.wrap_u64]; go_num, hh.out.1, bdrewN hh.out.2 _⟩
      case measure => simp [intOf]; omega
    · have HK := Lib.hid (show k = 8 by omega)
      go_wp2
      go_ret
      exact ⟨ret_int (by rw [HK.out]), hh.out.2⟩

end Go.Proofs.Ytbdhjiadomifeaa
