/- Helper facts for the statements of this seat; no statement itself. -/
import Derived.Test.YtgdcgmnfgbdiiaaK
import Derived.Test.YtgdcgmnfgbdiiaaF
import Derived.Outline
namespace Go.Proofs.Ytgdcgmnfgbdiiaa
open Go.RowKit
set_option linter.unusedSimpArgs false
set_option linter.unusedVariables false
set_option linter.unnecessarySimpa false

set_option maxHeartbeats 1000000 in
theorem entry_any (k x : Int) (w : World) : Calls Try.prog 13 #[.int .i64 k, .int .i64 x] w fun e w' => e = .returned (.agg #[.int .i64 k, .int .i64 x]) ∧ w.alloc (.cells #[.int .i64 k, .int .i64 x] 37) = w' := by
  go_enter Try.func13, Try.ntmps13
  go_wp2
  exact bodyPost_ret (v := .agg #[.int .i64 k, .int .i64 x]) (by simp [results, Try.results13, go_sem]) rfl ⟨rfl, rfl⟩
/-- Picks of these processes. -/
def pkL (l : List Int) : List En := l.map fun x => (1, x)
theorem pkL_len (l : List Int) : (pkL l).length = l.length := by simp [pkL]
theorem pkL_take (l : List Int) (k : Nat) (h : k < l.length) : pkL (l.take (k + 1)) = pkL (l.take k) ++ [(1, l.getD k 0)] := by
  unfold pkL
  rw [List.take_succ_eq_append_getElem h, List.map_append]
  simp [List.getD, h]

set_option maxHeartbeats 2000000 in
theorem picks_any (v : Value) (l : List Int) (w : World) (hl : IsInts w v l) (h5 : l.length ≤ 100000) : Calls Try.prog 15 #[v] w fun e w' => ∃ v', e = .returned v' ∧ OwnSp w' w.heap.size v' (pkL l) ∧ Below w.heap.size w w' := by
  obtain ⟨ad, n, cap, rfl⟩ := hl.slice
  obtain ⟨rfl, hn⟩ := hl.len
  have HL := Lib.hid hl
  clear hl
  go_enter Try.func15, Try.ntmps15
  go_wp2_with fail
  go_loopw [3, 4] (fun v i wr => ∃ k : Nat, k ≤ l.length ∧ i = .int .i64 k ∧ Hid (OwnSp wr w.heap.size v (pkL (l.take k))) ∧ Hid (Below w.heap.size w wr)) (fun _ i _ => l.length - (intOf i).toNat)
  case atStart => exact ⟨0, by omega, rfl, OwnSp.nil _ _, Below.refl _ _⟩
  case round =>
    obtain ⟨k, hk, rfl, ho, hb⟩ := hrel
    by_cases hlt : k < l.length
    · obtain ⟨bb, off, rfl, c0⟩ := (HL.out.keep hb.out).at k hlt
      have i1 : (0 : Int) ≤ (k : Int) := by omega
      have i2 : (k : Int) < (l.length : Int) := by omega
      have HT := Lib.hid (pkL_take l k hlt)
      have hln : (pkL (l.take k)).length = k := by rw [pkL_len, List.length_take]; omega
      have hsz := hb.out.size
      generalize l.getD k 0 = x at *
      have O1 : Hid (OwnSp (wr.alloc (.cells #[.int .i64 1, .int .i64 x] 37)) w.heap.size u3 (pkL (l.take k))) := OwnSp.alloc ho.out _
      have B1 : Hid (Below w.heap.size w (wr.alloc (.cells #[.int .i64 1, .int .i64 x] 37))) := balloc hb.out _
      go_wp2_with fail
      refine (entry_any 1 x _).mono ?_
      rintro e w2 ⟨rfl, rfl⟩
      have hz : wr.heap.size + 1 = (wr.alloc (.cells #[.int .i64 1, .int .i64 x] 37)).heap.size := by simp
      generalize wr.alloc (.cells #[.int .i64 1, .int .i64 x] 37) = w2 at *
      go_wp2_with (((with_reducible refine append_sp ?b1 (.tmp 11) (.tmp 17) ?b2 w.heap.size u3 (pkL (l.take k)) 1 x 37 w2.heap.size ?b3 ?b4 ?b5 O1 ?b6 ?b7 ?_); (case b1 => rfl); (case b2 => rfl); (case b3 => rfl); (case b4 => rfl); (case b5 => rfl); (case b6 => omega); (case b7 => omega)); intro v' w4 ho4 hb4 _)
      go_roundw
      case rel => exact ⟨k + 1, by omega, by go_num, by rw [HT.out]; exact ho4, B1.out.trans hb4.out⟩
      case measure => simp [intOf]; omega
    · obtain rfl : k = l.length := by omega
      go_wp2_with fail
      go_ret
      refine ⟨_, rfl, ?_, hb.out⟩
      have := ho.out
      rw [List.take_length] at this
      exact this
end Go.Proofs.Ytgdcgmnfgbdiiaa
