/- Helper facts for the statements of this seat; no statement itself. -/
import Derived.Test.YtbdhjiadomifeaaC
namespace Go.Proofs.Ytbdhjiadomifeaa
open Go.RowKit
set_option linter.unusedSimpArgs false
set_option linter.unusedVariables false
set_option linter.unnecessarySimpa false

/-- Eight words of 64 bits. -/
def Pg (c : List Nat) : Prop := c.length = 8 ∧ ∀ x ∈ c, x < 18446744073709551616

theorem lt_of_some {w : World} {g : Nat} {o : Obj} (h : w.heap[g]? = some o) : g < w.heap.size := by
  have := (Array.getElem?_eq_some_iff.1 h).1
  exact this
theorem bkeep {wr w' : World} {g : Nat} {o : Obj} (hb : Below wr.heap.size wr w') (h : wr.heap[g]? = some o) : w'.heap[g]? = some o := (hb.block g (lt_of_some h)).trans h
theorem btrans {w wr w' : World} (h : Below w.heap.size w wr) (hb : Below wr.heap.size wr w') : Below w.heap.size w w' := h.trans (hb.mono h.size)
theorem balloc {w wr : World} (h : Below w.heap.size w wr) (o : Obj) : Below w.heap.size w (wr.alloc o) := h.alloc h.size o
theorem bfirst (w : World) (o : Obj) {w' : World} (hb : Below (w.alloc o).heap.size (w.alloc o) w') : w'.heap[w.heap.size]? = some o ∧ Below w.heap.size w w' :=
  ⟨bkeep hb (h1_0 w o), ((Below.refl _ _).alloc (Nat.le_refl _) _).trans (hb.mono (by simp only [World.size_alloc] <;> omega))⟩

set_option maxHeartbeats 400000 in
theorem signed_bad (c : List Nat) (a n : Int) (w : World) (hp : Pg c) (h : inB a n = false) :
    Calls Try.prog 13 #[.agg (W8 c), .int .i64 a, .int .i64 n] w fun e w' => e = .returned (.tuple #[.int .i64 0, .int .i64 2]) ∧ Below w.heap.size w w' := by
  go_enter Try.func13, Try.ntmps13
  go_wp2_with (refine ld24 rfl _ rfl _ rfl c hp.1 24 (h1_0 _ _) ?_)
  refine (bytes_bad c a n _ h).mono ?_
  rintro e w' ⟨rfl, hb⟩
  have HB := Lib.hid (bfirst _ _ hb)
  clear hb
  go_wp2
  go_ret2
  exact ⟨rfl, HB.out.2⟩

/-- The signed number of n bytes. -/
def sgn (n v : Nat) : Int := if v < 128 * 256 ^ (n - 1) then (v : Int) else (v : Int) - ((256 ^ n : Nat) : Int)

theorem sgn_eq (n v : Nat) (h1 : 1 ≤ n) (h2 : n ≤ 8) (hv : v < 256 ^ n) : wrap64 (IntKind.u64.wrap ((v : Int) * 2 ^ (64 - 8 * n))) / 2 ^ (64 - 8 * n) = sgn n v := by
  unfold sgn
  obtain ⟨m, rfl⟩ : ∃ m, n = m + 1 := ⟨n - 1, by omega⟩
  rcases lt8 (show m < 8 by omega) with rfl | rfl | rfl | rfl | rfl | rfl | rfl | rfl <;> simp only [IntKind.wrap_u64, wrap64] <;> split <;> omega

theorem num_lt (c : List Nat) (a n : Nat) (h : a + n ≤ 64) : num c a n < 256 ^ n := by
  have := le_lt (((byts c 8).drop a).take n) (fun x hx => byts_lt c 8 x (List.mem_of_mem_drop (List.mem_of_mem_take hx)))
  have hl := byts_length c 8 (by omega)
  rw [List.length_take, List.length_drop, hl, Nat.min_eq_left (by omega)] at this
  exact this

theorem pow_le8 (n : Nat) (h : n ≤ 8) : 256 ^ n ≤ 18446744073709551616 := by
  have : (256 : Nat) ^ n ≤ 256 ^ 8 := Nat.pow_le_pow_right (by omega) h
  omega

theorem ret2_int {k k' : IntKind} {a b c : Int} (h : a = b) : Ending.returned (.tuple #[.int k a, .int k' c]) = .returned (.tuple #[.int k b, .int k' c]) := by rw [h]

set_option maxHeartbeats 400000 in
theorem signed_ok (c : List Nat) (a n : Nat) (w : World) (h1 : 1 ≤ n) (h2 : n ≤ 8) (h3 : a + n ≤ 64) (hp : Pg c) :
    Calls Try.prog 13 #[.agg (W8 c), .int .i64 a, .int .i64 n] w fun e w' => e = .returned (.tuple #[.int .i64 (sgn n (num c a n)), .int .i64 0]) ∧ Below w.heap.size w w' := by
  have HE := Lib.hid (sgn_eq n (num c a n) h1 h2 (num_lt c a n h3))
  go_enter Try.func13, Try.ntmps13
  go_wp2_with (refine ld24 rfl _ rfl _ rfl c hp.1 24 (h1_0 _ _) ?_)
  refine (bytes_ok c a n _ h1 h2 h3 hp.1 hp.2).mono ?_
  rintro e w' ⟨rfl, hb⟩
  have HB := Lib.hid (bfirst _ _ hb)
  clear hb
  go_wp2
  go_ret2
  exact ⟨ret2_int HE.out, HB.out.2⟩

/-- A byte of a page. -/
def bya (c : List Nat) (i : Nat) : Nat := c.getD (i / 8) 0 / 256 ^ (i % 8) % 256

theorem byts_get (c : List Nat) (k i : Nat) (hk : k ≤ 8) (hi : i < 8 * k) : (byts c k).getD i 0 = bya c i := by
  induction k with
  | zero => omega
  | succ k ih =>
    simp only [byts]
    rw [spr_get _ _ _ _ _ (by rw [byts_length c k (by omega)]; omega)]
    by_cases h : 8 * k ≤ i
    · rw [if_pos (by omega)]
      unfold bya
      rw [show i / 8 = k by omega, show i - 8 * k = i % 8 by omega]
    · rw [if_neg (by omega), ih (by omega) (by omega)]

theorem pg_lt {c : List Nat} (hp : Pg c) (k : Nat) : c.getD k 0 < 18446744073709551616 := by
  by_cases h : k < c.length
  · exact hp.2 _ (getD_mem c k h)
  · simp [List.getD, h]

set_option maxHeartbeats 400000 in
theorem one_any (c : List Nat) (i : Nat) (w : World) (hi : i < 64) (hp : Pg c) :
    Calls Try.prog 39 #[.agg (W8 c), .int .i64 i] w fun e w' => e = .returned (.int .u64 (bya c i : Nat)) ∧ Below w.heap.size w w' := by
  have hb := pg_lt hp (i / 8)
  have hcell : (w.alloc (.cells (W8 c) 24)).cell? ⟨w.heap.size, i / 8, none⟩ = some (.int .u64 ((c.getD (i / 8) 0 : Nat) : Int)) := setRow_cell (h1_0 _ _) (W8_get? c (i / 8) (by rw [hp.1]; omega))
  have HY : Hid (bya c i = c.getD (i / 8) 0 / 256 ^ (i % 8) % 256) := rfl
  generalize c.getD (i / 8) 0 = y at *
  go_enter Try.func39, Try.ntmps39
  go_wp2
  go_loop [5, 6] (fun x q => ∃ k : Nat, k ≤ i % 8 ∧ q = .int .i64 k ∧ x = .int .u64 (y / 256 ^ k : Nat)) (fun _ q => i % 8 - (intOf q).toNat)
  case atStart => exact ⟨0, by omega, rfl, by simp⟩
  case round =>
    obtain ⟨k, hk, rfl, rfl⟩ := hrel
    have hqb : y / 256 ^ k < 18446744073709551616 := Nat.lt_of_le_of_lt (Nat.div_le_self _ _) hb
    have hq2 : y / 256 ^ k / 256 = y / 256 ^ (k + 1) := by rw [Nat.div_div_eq_div_mul, Nat.pow_succ]
    have HQ := Lib.hid hq2
    have HK := Lib.hid (rfl : y / 256 ^ k % 256 = y / 256 ^ k % 256)
    clear hq2
    generalize hz : y / 256 ^ k = z at *
    have HZ := Lib.hid hz
    clear hz
    by_cases hlt : k < i % 8
    · have hlt2 : (k : Int) < (i : Int) % 8 := by omega
      go_wp2
      go_round
      case rel => exact ⟨k + 1, by omega, by go_num, by rw [← HQ.out]; go_num⟩
      case measure => simp [intOf]; omega
    · have hlt2 : ¬ (k : Int) < (i : Int) % 8 := by omega
      obtain rfl : k = i % 8 := by omega
      go_wp2
      go_ret
      exact ⟨ret_int (by rw [HY.out, HZ.out]; omega), ((Below.refl _ _).alloc (Nat.le_refl _) _)⟩

end Go.Proofs.Ytbdhjiadomifeaa
