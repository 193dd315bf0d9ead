/- Helper facts for the statements of this seat; no statement itself. -/
import Derived.Test.YtbdhjiadomifeaaB
namespace Go.Proofs.Ytbdhjiadomifeaa
open Go.RowKit
set_option linter.unusedSimpArgs false
set_option linter.unusedVariables false
set_option linter.unnecessarySimpa false

/-- The number in n bytes of a page. -/
def num (c : List Nat) (a n : Nat) : Nat := le (((byts c 8).drop a).take n)

theorem spr_lt (bs : List Nat) (off k v : Nat) (h : ∀ x ∈ bs, x < 256) : ∀ x ∈ spr bs off k v, x < 256 := by
  intro x hx
  simp only [spr, List.mem_append] at hx
  rcases hx with hx | hx | hx
  · exact h x (List.mem_of_mem_take hx)
  · exact bytesN_lt _ _ x hx
  · exact h x (List.mem_of_mem_drop hx)

theorem byts_lt (c : List Nat) (k : Nat) : ∀ x ∈ byts c k, x < 256 := by
  induction k with
  | zero => intro x hx; simp [byts] at hx; omega
  | succ k ih => exact spr_lt _ _ _ _ ih

theorem getD_part (l : List Nat) (a n k : Nat) (h : k < n) : ((l.drop a).take n).getD k 0 = l.getD (a + k) 0 := by
  simp [List.getD_eq_getElem?_getD, List.getElem?_take, h, List.getElem?_drop]

theorem inB_true {a n : Int} (h : inB a n = true) : ∃ i m : Nat, a = i ∧ n = m ∧ 1 ≤ m ∧ m ≤ 8 ∧ i + m ≤ 64 := by
  simp [inB] at h
  exact ⟨a.toNat, n.toNat, by omega, by omega, by omega, by omega, by omega⟩
theorem inB_nat {i m : Nat} (h1 : 1 ≤ m) (h2 : m ≤ 8) (h3 : i + m ≤ 64) : inB i m = true := by
  simp [inB]; omega

/-- gather over a part of an array of bytes that lies in a block. -/
theorem gather_part (b a n cap : Nat) (bs : List Nat) (t : TypeId) (w : World) (hn : n ≤ 8) (hl : a + n ≤ bs.length) (hb : ∀ x ∈ bs, x < 256) (hh : w.heap[b]? = some (.cells (B8 bs) t (0, 0))) :
    Calls Try.prog 37 #[.slice (some ⟨b, a, none⟩) n cap] w fun e w' => e = .returned (.int .u64 (le ((bs.drop a).take n) : Int)) ∧ w = w' :=
  gather_any b a n cap ((bs.drop a).take n) w hn (by simp; omega)
    (fun k hk => by rw [getD_part _ _ _ _ hk]; exact setRow_cell hh (B8_get? bs (a + k) (by omega)))
    (fun x hx => hb x (List.mem_of_mem_drop (List.mem_of_mem_take hx)))

set_option maxHeartbeats 400000 in
theorem bytes_bad (c : List Nat) (a n : Int) (w : World) (h : inB a n = false) :
    Calls Try.prog 11 #[.agg (W8 c), .int .i64 a, .int .i64 n] w fun e w' => e = .returned (.tuple #[.int .u64 0, .int .i64 2]) ∧ Below w.heap.size w w' := by
  go_enter Try.func11, Try.ntmps11
  go_wp2_with (go_at_call 35; refine (within_any _ _ _).mono ?_; rintro e w' ⟨rfl, rfl⟩)
  go_ret2
  exact ⟨rfl, ((Below.refl _ _).alloc (Nat.le_refl _) _)⟩

set_option maxHeartbeats 400000 in
theorem bytes_ok (c : List Nat) (a n : Nat) (w : World) (h1 : 1 ≤ n) (h2 : n ≤ 8) (h3 : a + n ≤ 64) (hc : c.length = 8) (hb : ∀ x ∈ c, x < 18446744073709551616) :
    Calls Try.prog 11 #[.agg (W8 c), .int .i64 a, .int .i64 n] w fun e w' => e = .returned (.tuple #[.int .u64 (num c a n : Nat), .int .i64 0]) ∧ Below w.heap.size w w' := by
  have hin := inB_nat h1 h2 h3
  have HC := Lib.hid hc
  have HB := Lib.hid hb
  clear hc hb
  go_enter Try.func11, Try.ntmps11
  go_wp2_with (first | (go_at_call 35; refine (within_any _ _ _).mono ?_; rintro e w' ⟨rfl, rfl⟩) | refine ld24 rfl _ rfl _ rfl c HC.out 24 (h1_0 _ _) ?_)
  refine (bytesOf_any c _ HC.out HB.out).mono ?_
  rintro e w1 ⟨rfl, hb1⟩
  have HB1 := Lib.hid hb1
  have hl8 := Lib.hid (byts_length c 8 (by omega))
  clear hb1
  have hsl := run_slice57 w1.heap.size a (a + n) (a : Int) ((a : Int) + (n : Int)) (by omega) (by omega) (by omega) (by omega) (by omega)
  rw [show a + n - a = n by omega] at hsl
  go_wp2_with (refine st57n rfl _ _ rfl (byts c 8) rfl rfl hl8.out rfl ?_)
  refine (gather_part _ _ _ _ (byts c 8) 57 _ h2 (by rw [hl8.out]; omega) (byts_lt c 8) (h1_0 _ _)).mono ?_
  rintro e w' ⟨rfl, rfl⟩
  go_wp2
  go_ret2
  exact ⟨rfl, (((Below.refl _ _).alloc (Nat.le_refl _) _).trans (HB1.out.mono (by simp only [World.size_alloc] <;> omega))).alloc (Nat.le_trans (by have := HB1.out.size; simp only [World.size_alloc] at this; omega) (Nat.le_refl _)) _⟩

end Go.Proofs.Ytbdhjiadomifeaa
