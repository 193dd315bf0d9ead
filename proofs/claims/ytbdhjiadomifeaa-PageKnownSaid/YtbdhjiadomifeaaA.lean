/- Helper facts for the statements of this seat; no statement itself. -/
import Derived.Test.YtbdhjiadomifeaaNum
import Derived.Laws.CopyRow
namespace Go.Proofs.Ytbdhjiadomifeaa
open Go.RowKit
set_option linter.unusedSimpArgs false
set_option linter.unusedVariables false
set_option linter.unnecessarySimpa false

def inB (at' n : Int) : Bool := decide (1 ≤ n) && decide (n ≤ 8) && decide (0 ≤ at') && decide (at' ≤ 64 - n)

set_option maxHeartbeats 400000 in
theorem within_any (a n : Int) (w : World) :
    Calls Try.prog 35 #[.int .i64 a, .int .i64 n] w fun e w' => e = .returned (.bool (inB a n)) ∧ w = w' := by
  go_enter Try.func35, Try.ntmps35
  go_wp2
  all_goals
    go_ret
    refine ⟨?_, rfl⟩
    simp [inB, *]
    try omega

set_option maxHeartbeats 400000 in
theorem in_any (a n : Int) (w : World) :
    Calls Try.prog 38 #[.int .i64 a, .int .i64 n] w fun e w' => e = .returned (.bool (inB a n)) ∧ w = w' := by
  go_enter Try.func38, Try.ntmps38
  go_wp2
  all_goals
    go_ret
    refine ⟨?_, rfl⟩
    simp [inB, *]
    try omega

theorem ret_int {k : IntKind} {a b : Int} (h : a = b) : Ending.returned (.int k a) = .returned (.int k b) := by rw [h]

set_option maxHeartbeats 400000 in
theorem gather_any (b off n cap : Nat) (bs : List Nat) (w : World) (hn : n ≤ 8) (hl : bs.length = n) 
   (hc : ∀ k, k < n → w.cell? ⟨b, off + k, none⟩ = some (.int .u8 ((bs.getD k 0 : Nat) : Int))) (hb : ∀ x ∈ bs, x < 256) :
    Calls Try.prog 37 #[.slice (some ⟨b, off, none⟩) n cap] w fun e w' => e = .returned (.int .u64 (le bs : Int)) ∧ w = w' := by
  have HL := Lib.hid hl
  clear hl
  go_enter Try.func37, Try.ntmps37
  go_wp2
  go_loop [3,8] (fun v i => ∃ (k : Nat), k ≤ n ∧ i = .int .i64 k ∧ v = .int .u64 (le (bs.take k) : Nat)) (fun _ i => n - (intOf i).toNat)
  case atStart => exact ⟨0, by omega, rfl, rfl⟩
  case round =>
    obtain ⟨k, hk, rfl, rfl⟩ := hrel
    by_cases hlt : k < n
    · have hck := hc k hlt
      have hkl : k < bs.length := by rw [HL.out]; exact hlt
      have h256 := le_lt (bs.take k) (fun x hx => hb x (List.mem_of_mem_take hx))
      rw [List.length_take, Nat.min_eq_left (Nat.le_of_lt hkl)] at h256
      have hs := le_take_succ bs k hkl
      have hg := gstep (le (bs.take k)) (bs.getD k 0) k (by omega) h256 (hb _ (getD_mem bs k hkl))
      rw [← hs] at hg
      have HG := Lib.hid hg
      clear hc hb hg hs h256 hkl
      generalize bs.getD k 0 = y at *
      go_wp2
      go_round
      case rel => exact ⟨k + 1, by omega, by go_num, by rw [HG.out]⟩
      case measure => simp [intOf]; omega
    · obtain rfl : n = k := by omega
      go_wp2
      go_ret
      exact ⟨ret_int (by rw [List.take_of_length_le (by rw [HL.out]; exact Nat.le_refl _)]), rfl⟩

theorem setRow_cell {w : World} {b j : Nat} {cs : Array Value} {t : TypeId} {v : Value} (hh : w.heap[b]? = some (.cells cs t (0, 0))) (hv : cs[j]? = some v) : w.cell? ⟨b, j, none⟩ = some v := by
  rw [cell_of_row w b j cs t (0, 0) hh, hv]

theorem setCell_setRow (w : World) (b j : Nat) (cs cs' : Array Value) (t : TypeId) (v : Value) (hh : w.heap[b]? = some (.cells cs t (0, 0))) : (w.setRow b cs').setCell ⟨b, j, none⟩ v = w.setRow b (cs'.setIfInBounds j v) := by
  rw [setCell_eq_setRow _ b j cs' t (0, 0) v (setRow_heap w b cs cs' t (0, 0) hh), setRow_setRow]

set_option maxHeartbeats 400000 in
theorem spread_any (b off n cap v : Nat) (bs : List Nat) (t : TypeId) (w : World) (hv : v < 18446744073709551616) (hn : n ≤ 8) (hl : off + n ≤ bs.length)
   (hh : w.heap[b]? = some (.cells (B8 bs) t (0, 0))) :
    Calls Try.prog 40 #[.slice (some ⟨b, off, none⟩) n cap, .int .u64 v] w fun e w' => e = .returned (.tuple #[]) ∧ w' = w.setRow b (B8 (spr bs off n v)) := by
  have HH := Lib.hid hh
  clear hh
  go_enter Try.func40, Try.ntmps40
  go_wp2
  go_loopw [4,9] (fun v' i wr => ∃ (k : Nat), k ≤ n ∧ i = .int .i64 k ∧ v' = .int .u64 (v / 256 ^ k : Nat) ∧ wr = w.setRow b (B8 (spr bs off k v))) (fun _ i _ => n - (intOf i).toNat)
  case atStart => exact ⟨0, by omega, rfl, by simp, by rw [spr_zero]; exact (setRow_self w b _ t _ HH.out).symm⟩
  case round =>
    obtain ⟨k, hk, rfl, rfl, hwr⟩ := hrel
    by_cases hlt : k < n
    · have hh1 : wr.heap[b]? = some (.cells (B8 (spr bs off k v)) t (0, 0)) := by rw [hwr]; exact setRow_heap w b _ _ t (0, 0) HH.out
      have hc1 := setRow_cell hh1 (B8_get? (spr bs off k v) (off + k) (by rw [spr_length] <;> omega))
      have hf1 := frozen_of_row wr b (off + k) _ t hh1
      have hst : wr.setCell ⟨b, off + k, none⟩ (.int .u8 ((v / 256 ^ k % 256 : Nat) : Int)) = w.setRow b (B8 (spr bs off (k + 1) v)) := by
        rw [hwr, setCell_setRow w b _ _ _ t _ HH.out, B8_set, spr_succ _ _ _ _ (by omega)]
      have hq : v / 256 ^ k / 256 = v / 256 ^ (k + 1) := by rw [Nat.div_div_eq_div_mul, Nat.pow_succ]
      have hqb : v / 256 ^ k < 18446744073709551616 := Nat.lt_of_le_of_lt (Nat.div_le_self _ _) hv
      have HST := Lib.hid hst
      have HQ := Lib.hid hq
      clear hh1 hwr hst hq HH
      generalize v / 256 ^ k = q at *
      go_wp2
      go_roundw
      case rel => exact ⟨k + 1, by omega, by go_num, by rw [← HQ.out]; go_num, by rw [← HST.out]; simp⟩
      case measure => simp [intOf]; omega
    · obtain rfl : n = k := by omega
      go_wp2
      go_end0
      exact ⟨rfl, rfl⟩

end Go.Proofs.Ytbdhjiadomifeaa
