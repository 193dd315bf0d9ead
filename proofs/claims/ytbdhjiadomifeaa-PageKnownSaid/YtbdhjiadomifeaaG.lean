/- Helper facts for the statements of this seat; no statement itself. -/
import Derived.Test.YtbdhjiadomifeaaF
import Derived.Deep.RegionLaw
namespace Go.Proofs.Ytbdhjiadomifeaa
open Go.RowKit
set_option linter.unusedSimpArgs false
set_option linter.unusedVariables false
set_option linter.unnecessarySimpa false

/-- A word of a page, under a name that the walk does not open. -/
def gd (c : List Nat) (j : Nat) : Nat := c.getD j 0

/-- A page with another byte. -/
def setB (c : List Nat) (i b : Nat) : List Nat := c.set (i / 8) (c.getD (i / 8) 0 - bya c i * 256 ^ (i % 8) + b * 256 ^ (i % 8))

/-- A page with k other bytes, one after the other. -/
def putL (c : List Nat) (a v : Nat) : Nat → List Nat
  | 0 => c
  | k + 1 => setB (putL c a v k) (a + k) (v / 256 ^ k % 256)

theorem setB_word (x m b : Nat) (hm : m < 8) (hx : x < 18446744073709551616) (hb : b < 256) :
    x / 256 ^ m % 256 * 256 ^ m ≤ x ∧ x - x / 256 ^ m % 256 * 256 ^ m + b * 256 ^ m < 18446744073709551616 := by
  rcases lt8 hm with rfl | rfl | rfl | rfl | rfl | rfl | rfl | rfl <;> omega

theorem setB_pg {c : List Nat} (hp : Pg c) (i b : Nat) (hi : i < 64) (hb : b < 256) : Pg (setB c i b) := by
  refine ⟨by simp [setB, hp.1], fun x hx => ?_⟩
  rcases List.mem_or_eq_of_mem_set hx with h | h
  · exact hp.2 x h
  · rw [h]
    exact (setB_word _ _ _ (by omega) (pg_lt hp _) hb).2

theorem putL_pg {c : List Nat} (hp : Pg c) (a v k : Nat) (h : a + k ≤ 64) : Pg (putL c a v k) := by
  induction k with
  | zero => exact hp
  | succ k ih => exact setB_pg (ih (by omega)) _ _ (by omega) (Nat.mod_lt _ (by omega))

theorem W8_eight {c : List Nat} (h : c.length = 8) : #[Value.int .u64 ((gd c 0 : Nat) : Int), .int .u64 ((gd c 1 : Nat) : Int), .int .u64 ((gd c 2 : Nat) : Int), .int .u64 ((gd c 3 : Nat) : Int), .int .u64 ((gd c 4 : Nat) : Int), .int .u64 ((gd c 5 : Nat) : Int), .int .u64 ((gd c 6 : Nat) : Int), .int .u64 ((gd c 7 : Nat) : Int)] = W8 c := by
  match c, h with
  | [a0, a1, a2, a3, a4, a5, a6, a7], _ => rfl

/-- The nine cells that the step reads, and that the one which it writes is free. -/
theorem nine {w : World} {g : Nat} {c : List Nat} (hc : c.length = 8) (h : w.heap[g]? = some (.cells (W8 c) 24 (0, 0))) (q : Nat) (hq : q < 8) :
    (w.cell? ⟨g, q, none⟩ = some (.int .u64 ((gd c q : Nat) : Int)) ∧ w.cell? ⟨g, 0, none⟩ = some (.int .u64 ((gd c 0 : Nat) : Int)) ∧ w.cell? ⟨g, 1, none⟩ = some (.int .u64 ((gd c 1 : Nat) : Int)) ∧ w.cell? ⟨g, 2, none⟩ = some (.int .u64 ((gd c 2 : Nat) : Int)) ∧ w.cell? ⟨g, 3, none⟩ = some (.int .u64 ((gd c 3 : Nat) : Int)) ∧ w.cell? ⟨g, 4, none⟩ = some (.int .u64 ((gd c 4 : Nat) : Int)) ∧ w.cell? ⟨g, 5, none⟩ = some (.int .u64 ((gd c 5 : Nat) : Int)) ∧ w.cell? ⟨g, 6, none⟩ = some (.int .u64 ((gd c 6 : Nat) : Int)) ∧ w.cell? ⟨g, 7, none⟩ = some (.int .u64 ((gd c 7 : Nat) : Int))) ∧ w.frozen? ⟨g, q, none⟩ = false := by
  have hcell : ∀ j, j < 8 → w.cell? ⟨g, j, none⟩ = some (.int .u64 ((gd c j : Nat) : Int)) := fun j hj => setRow_cell h (W8_get? _ j (by rw [hc]; exact hj))
  exact ⟨⟨hcell q hq, hcell 0 (by omega), hcell 1 (by omega), hcell 2 (by omega), hcell 3 (by omega), hcell 4 (by omega), hcell 5 (by omega), hcell 6 (by omega), hcell 7 (by omega)⟩, frozen_of_row w g q _ 24 h⟩

theorem bkeepD {wr w' : World} {g : Nat} {o : Obj} (hb : Below wr.drew.heap.size wr.drew w') (h : Hid (wr.heap[g]? = some o)) : Hid (w'.heap[g]? = some o) := bkeep (wr := wr.drew) hb h
theorem btransD {w wr w' : World} (h : Hid (Below w.heap.size w wr)) (hb : Below wr.drew.heap.size wr.drew w') : Hid (Below w.heap.size w w') := btrans (wr := wr.drew) (Below.drew h) hb

/-- What the step's arithmetic comes to. -/
theorem rstep (x m y v : Nat) (hm : m < 8) (hx : x < 18446744073709551616) (hy : y = x / 256 ^ m % 256) (hv : v < 18446744073709551616) :
    IntKind.u64.wrap (IntKind.u64.wrap ((x : Int) - IntKind.u64.wrap ((y : Int) * 2 ^ (8 * m))) + IntKind.u64.wrap ((v : Int) % 256 * 2 ^ (8 * m))) = ((x - y * 256 ^ m + v % 256 * 256 ^ m : Nat) : Int) := by
  have hw := setB_word x m (v % 256) hm hx (Nat.mod_lt _ (by omega))
  rw [← hy] at hw
  subst hy
  rcases lt8 hm with rfl | rfl | rfl | rfl | rfl | rfl | rfl | rfl <;> simp only [IntKind.wrap_u64] <;> omega

set_option maxHeartbeats 400000 in
theorem rput_bad (c : List Nat) (a n : Int) (v : Nat) (w : World) (h : inB a n = false) :
    Calls Try.prog 16 #[.agg (W8 c), .int .i64 a, .int .i64 n, .int .u64 v] w fun e w' => e = .returned (.tuple #[.agg (W8 (List.replicate 8 0)), .int .i64 2]) ∧ Below w.heap.size w w' := by
  go_enter Try.func16, Try.ntmps16
  go_wp2_with (go_at_call 38; refine (in_any _ _ _).mono ?_; rintro e w' ⟨rfl, rfl⟩)
  refine bodyPost_ret (v := .tuple #[.agg (W8 (List.replicate 8 0)), .int .i64 2]) ?_ rfl ⟨rfl, ?_⟩
  · refine res_cell24 (fn := Try.f16) (p := 8) (u := 9) rfl _ _ (w.heap.size + 1) 24 (List.replicate 8 0) (by simp) ?_ ?_
    · rfl
    · exact (h2_1 _ _ _)
  · exact (((Below.refl _ _).alloc (Nat.le_refl _) _).alloc (by simp only [World.size_alloc] <;> omega) _)

set_option maxHeartbeats 1000000 in
theorem rput_ok (c : List Nat) (a n v : Nat) (w : World) (h1 : 1 ≤ n) (h2 : n ≤ 8) (h3 : a + n ≤ 64) (hv : v < 18446744073709551616) (hp : Pg c) :
    Calls Try.prog 16 #[.agg (W8 c), .int .i64 a, .int .i64 n, .int .u64 v] w fun e w' => e = .returned (.tuple #[.agg (W8 (putL c a v n)), .int .i64 0]) ∧ Below w.heap.size w w' := by
  have hin := inB_nat h1 h2 h3
  go_enter Try.func16, Try.ntmps16
  go_wp2_with (go_at_call 38; refine (in_any _ _ _).mono ?_; rintro e w' ⟨rfl, rfl⟩)
  go_loopw [3, 10] (fun y i wr => ∃ (k : Nat), k ≤ n ∧ i = .int .i64 k ∧ y = .int .u64 (v / 256 ^ k : Nat) ∧ wr.heap[w.heap.size]? = some (.cells (W8 (putL c a v k)) 24 (0, 0)) ∧ wr.heap[w.heap.size + 1]? = some (.cells (W8 (List.replicate 8 0)) 24 (0, 0)) ∧ Below w.heap.size w wr) (fun _ i _ => n - (intOf i).toNat)
  case atStart => exact ⟨0, by omega, rfl, by simp, h2_0 _ _ _, h2_1 _ _ _, (((Below.refl _ _).alloc (Nat.le_refl _) _).alloc (by simp only [World.size_alloc] <;> omega) _)⟩
  case round =>
    obtain ⟨k, hk, rfl, rfl, hg0, hg1, hbl⟩ := hrel
    have hpk := putL_pg hp a v k (by omega)
    have HG0 := Lib.hid hg0
    have HG1 := Lib.hid hg1
    have HB := Lib.hid hbl
    by_cases hlt : k < n
    · obtain ⟨z, hz⟩ : ∃ z, z = v / 256 ^ k := ⟨_, rfl⟩
      have hq2 : z / 256 = v / 256 ^ (k + 1) := by rw [hz, Nat.div_div_eq_div_mul, Nat.pow_succ]
      have hqb : z < 18446744073709551616 := by rw [hz]; exact Nat.lt_of_le_of_lt (Nat.div_le_self _ _) hv
      have HQ := Lib.hid hq2
      have HS : Hid (putL c a v (k + 1) = setB (putL c a v k) (a + k) (z % 256)) := by rw [hz]; rfl
      rw [← hz]
      clear hq2 hz
      have hw8 := W8_eight hpk.1
      have HR : Hid (IntKind.u64.wrap (IntKind.u64.wrap (((gd (putL c a v k) ((a + k) / 8) : Nat) : Int) - IntKind.u64.wrap (((bya (putL c a v k) (a + k) : Nat) : Int) * 2 ^ (8 * (((a : Int) + (k : Int)) % 8)).toNat)) + IntKind.u64.wrap ((z : Int).tmod 256 * 2 ^ (8 * (((a : Int) + (k : Int)) % 8)).toNat)) = (((gd (putL c a v k) ((a + k) / 8)) - bya (putL c a v k) (a + k) * 256 ^ ((a + k) % 8) + z % 256 * 256 ^ ((a + k) % 8) : Nat) : Int)) := by
        show _ = _
        rw [← rstep (gd (putL c a v k) ((a + k) / 8)) ((a + k) % 8) (bya (putL c a v k) (a + k)) z (by omega) (pg_lt hpk _) rfl hqb]
        rw [show (8 * (((a : Int) + (k : Int)) % 8)).toNat = 8 * ((a + k) % 8) by omega, show ((z : Int).tmod 256) = (z : Int) % 256 from Int.tmod_eq_emod_of_nonneg (by omega)]
      have HST : ∀ w1 : World, Hid (w1.heap[w.heap.size]? = some (.cells (W8 (putL c a v k)) 24 (0, 0))) → (w1.setCell ⟨w.heap.size, (a + k) / 8, none⟩ (.int .u64 (((gd (putL c a v k) ((a + k) / 8)) - bya (putL c a v k) (a + k) * 256 ^ ((a + k) % 8) + z % 256 * 256 ^ ((a + k) % 8) : Nat) : Int))).heap[w.heap.size]? = some (.cells (W8 (setB (putL c a v k) (a + k) (z % 256))) 24 (0, 0)) := by
        intro w1 h
        rw [heap_setCell_same w1 _ _ _ 24 _ h.out, W8_set]
        rfl
      have HST2 := Lib.hid HST
      clear HST
      have hq8 : (a + k) / 8 < 8 := by omega
      have hak : a + k < 64 := by omega
      obtain ⟨⟨cq, c0, c1, c2, c3, c4, c5, c6, c7⟩, fq⟩ := nine hpk.1 hg0 ((a + k) / 8) (by omega)
      have HW8 := Lib.hid hw8
      clear hg0 hg1 hbl hw8
      go_wp2_with fail
      have e1 : IntKind.i64.wrap ((a : Int) + (k : Int)) = (a : Int) + (k : Int) := IntWalk.i64_in _ (by omega)
      have e2 : IntKind.i64.wrap (((a : Int) + (k : Int)).tdiv 8) = ((a : Int) + (k : Int)) / 8 := by
        rw [Int.tdiv_eq_ediv_of_nonneg (by omega), IntWalk.i64_in _ (by omega)]
      have e3 : (((a : Int) + (k : Int)) / 8).toNat = (a + k) / 8 := by omega
      have e4 : (0 : Int) ≤ ((a : Int) + (k : Int)) / 8 := by omega
      have e5 : ((a : Int) + (k : Int)) / 8 < 8 := by omega
      go_region_law (first | (go_simp; go_at_call 39; rw [HW8.out, show ((a : Int) + (k : Int)) = ((a + k : Nat) : Int) from rfl]; refine (one_any (putL c a v k) (a + k) _ hak hpk).mono ?_; rintro e w1 ⟨rfl, hb1⟩; have HG2 := bkeepD hb1 HG0; have HG3 := bkeepD hb1 HG1; have HB3 := btransD HB hb1; obtain ⟨⟨s0, s1, s2, s3, s4, s5, s6, s7, s8⟩, f1⟩ := nine hpk.1 HG2.out ((a + k) / 8) hq8; clear hb1))
      all_goals
        rw [HR.out]
        go_wp2
        go_roundw
        case rel => exact ⟨k + 1, by omega, by go_num, by rw [← HQ.out]; go_num, by rw [HS.out]; exact HST2.out w1 HG2, by rw [heap_setCell_other _ _ _ _ (by simp)]; exact HG3.out, HB3.out.setCell (by simp) _⟩
        case measure => simp [intOf]; omega
    · obtain rfl : k = n := by omega
      go_wp2_with (first | refine ld24 rfl _ rfl _ rfl (putL c a v k) hpk.1 24 HG0.out ?_ | refine st24 rfl _ _ rfl (w.heap.size + 1) (putL c a v k) (List.replicate 8 0) rfl rfl hpk.1 (by simp) 24 HG1.out ?_)
      refine bodyPost_ret (v := .tuple #[.agg (W8 (putL c a v k)), .int .i64 0]) ?_ rfl ⟨rfl, ?_⟩
      · exact res_cell24 (fn := Try.f16) (p := 8) (u := 9) rfl _ _ (w.heap.size + 1) 24 (putL c a v k) hpk.1 (by rfl) (setRow_heap _ _ _ _ _ _ HG1.out)
      · exact below_setRow HB.out (by omega) _

end Go.Proofs.Ytbdhjiadomifeaa
