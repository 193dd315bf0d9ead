/- Helper facts for the statements of this seat; no statement itself. -/
import Derived.Test.YtbdhjiadomifeaaE
import Derived.Laws.ResultCell
namespace Go.Proofs.Ytbdhjiadomifeaa
open Go.RowKit
set_option linter.unusedSimpArgs false
set_option linter.unusedVariables false
set_option linter.unnecessarySimpa false

/-- The first k words gathered out of bytes, the others zero. -/
def wpart (bs : List Nat) : Nat → List Nat
  | 0 => List.replicate 8 0
  | k + 1 => (wpart bs k).set k (le ((bs.drop (8 * k)).take 8))

theorem wpart_length (bs : List Nat) (k : Nat) : (wpart bs k).length = 8 := by
  induction k with
  | zero => simp [wpart]
  | succ k ih => simp [wpart, ih]

/-- The page with other bytes. -/
def putB (c : List Nat) (a n v : Nat) : List Nat := wpart (spr (byts c 8) a n v) 8

theorem res_cell24 {fn : Func} {p u : Tmp} (h : fn.results = #[.cell p 24, .tmp u]) (tmps : Array Value) (w : World) (g : Nat) (t : TypeId) (c : List Nat) (hc : c.length = 8)
    (hp : tmps.getD p undef = .pointer (some ⟨g, 0, none⟩)) (hg : w.heap[g]? = some (.cells (W8 c) t (0, 0))) :
    (results fn tmps).run Try.prog w = .ok (.tuple #[.agg (W8 c), tmps.getD u undef]) w := by
  rw [results_cell_tmp h, hp]
  simp only [asAddr]
  have := run_loadVar_row (P := Try.prog) w g t 24 (W8 c) (0, 0) _ hg Try.underlying24 rfl (by rw [size24, W8_size, hc])
  simp [Sem.run_pure, Result.andThen, this]

theorem hold1 {w : World} {g : Nat} {o : Obj} (h : w.heap[g]? = some o) (a : Obj) : (w.alloc a).heap[g]? = some o := by
  rw [heapA, if_neg (Nat.ne_of_lt (lt_of_some h)), h]
theorem hold2 {w : World} {g : Nat} {o : Obj} (h : w.heap[g]? = some o) (a b : Obj) : ((w.alloc a).alloc b).heap[g]? = some o := hold1 (hold1 h a) b
theorem hold3 {w : World} {g : Nat} {o : Obj} (h : w.heap[g]? = some o) (a b c : Obj) : (((w.alloc a).alloc b).alloc c).heap[g]? = some o := hold1 (hold1 (hold1 h a) b) c

theorem zero8 : #[Value.int .u64 0, .int .u64 0, .int .u64 0, .int .u64 0, .int .u64 0, .int .u64 0, .int .u64 0, .int .u64 0] = W8 (List.replicate 8 0) := rfl

set_option maxHeartbeats 400000 in
theorem put_bad (c : List Nat) (a n : Int) (v : Nat) (w : World) (h : inB a n = false) :
    Calls Try.prog 15 #[.agg (W8 c), .int .i64 a, .int .i64 n, .int .u64 v] w fun e w' => e = .returned (.tuple #[.agg (W8 (List.replicate 8 0)), .int .i64 2]) ∧ Below w.heap.size w w' := by
  go_enter Try.func15, Try.ntmps15
  go_wp2_with (go_at_call 35; refine (within_any _ _ _).mono ?_; rintro e w' ⟨rfl, rfl⟩)
  refine bodyPost_ret (v := .tuple #[.agg (W8 (List.replicate 8 0)), .int .i64 2]) ?_ rfl ⟨rfl, ?_⟩
  · refine res_cell24 (fn := Try.f15) (p := 8) (u := 9) rfl _ _ (w.heap.size + 1) 24 (List.replicate 8 0) (by simp) ?_ ?_
    · rfl
    · exact (h2_1 _ _ _)
  · exact (((Below.refl _ _).alloc (Nat.le_refl _) _).alloc (by simp only [World.size_alloc] <;> omega) _)

set_option maxHeartbeats 1000000 in
theorem put_ok (c : List Nat) (a n v : Nat) (w : World) (h1 : 1 ≤ n) (h2 : n ≤ 8) (h3 : a + n ≤ 64) (hv : v < 18446744073709551616) (hp : Pg c) :
    Calls Try.prog 15 #[.agg (W8 c), .int .i64 a, .int .i64 n, .int .u64 v] w fun e w' => e = .returned (.tuple #[.agg (W8 (putB c a n v)), .int .i64 0]) ∧ Below w.heap.size w w' := by
  have hin := inB_nat h1 h2 h3
  go_enter Try.func15, Try.ntmps15
  go_wp2_with (first | (go_at_call 35; refine (within_any _ _ _).mono ?_; rintro e w' ⟨rfl, rfl⟩) | refine ld24 rfl _ rfl _ rfl c hp.1 24 (h2_0 _ _ _) ?_)
  refine (bytesOf_any c _ hp.1 hp.2).mono ?_
  rintro e w1 ⟨rfl, hb1⟩
  have hl8 := Lib.hid (byts_length c 8 (by omega))
  have hg1 : w1.heap[w.heap.size + 1]? = some (.cells (W8 (List.replicate 8 0)) 24 (0, 0)) := bkeep hb1 (h2_1 _ _ _)
  have hbl : Below w.heap.size w w1 := (((Below.refl _ _).alloc (Nat.le_refl _) _).alloc (by simp only [World.size_alloc] <;> omega) _).trans (hb1.mono (by simp only [World.size_alloc] <;> omega))
  have HG1 := Lib.hid hg1
  have HBL := Lib.hid hbl
  clear hb1 hg1 hbl
  have hsl := run_slice57 w1.heap.size a (a + n) (a : Int) ((a : Int) + (n : Int)) (by omega) (by omega) (by omega) (by omega) (by omega)
  rw [show a + n - a = n by omega] at hsl
  go_wp2_with (refine st57n rfl _ _ rfl (byts c 8) rfl rfl hl8.out rfl ?_)
  refine (spread_any _ _ _ _ v (byts c 8) 57 _ hv (by omega) (by rw [hl8.out]; omega) (h1_0 _ _)).mono ?_
  rintro e w2 ⟨rfl, rfl⟩
  rw [World.setRow_alloc_new]
  clear hsl
  have HS : Hid ((spr (byts c 8) a n v).length = 64) := by
    show _ = _
    rw [spr_length _ _ _ _ (by rw [hl8.out]; omega), hl8.out]
  have hlt := Lib.hid (spr_lt (byts c 8) a n v (byts_lt c 8))
  have HP : Hid (putB c a n v = wpart (spr (byts c 8) a n v) 8) := rfl
  generalize spr (byts c 8) a n v = sp at *
  go_wp2
  go_loopw [27] (fun i wr => ∃ (k : Nat), k ≤ 8 ∧ i = .int .i64 k ∧ wr = (w1.alloc (.cells (B8 sp) 57)).alloc (.cells (W8 (wpart sp k)) 24)) (fun i _ => 8 - (intOf i).toNat)
  case atStart => exact ⟨0, by omega, rfl, rfl⟩
  case round =>
    obtain ⟨k, hk, rfl, rfl⟩ := hrel
    by_cases hlt2 : k < 8
    · have hsl := run_slice57 w1.heap.size (8 * k) (8 * (k + 1)) (8 * (k : Int)) (8 * ((k : Int) + 1)) (by omega) (by omega) (by omega) (by omega) (by omega)
      rw [show 8 * (k + 1) - 8 * k = 8 by omega] at hsl
      go_wp2_with fail
      refine (gather_part _ _ _ _ sp 57 _ (by omega) (by rw [HS.out]; omega) hlt.out (h2_0 _ _ _)).mono ?_
      rintro e w' ⟨rfl, rfl⟩
      have hks : k < (W8 (wpart sp k)).size := by rw [W8_size, wpart_length]; exact hlt2
      have HX : Hid (W8 (wpart sp (k + 1)) = (W8 (wpart sp k)).setIfInBounds k (.int .u64 ((le ((sp.drop (8 * k)).take 8) : Nat) : Int))) := by
        show _ = _
        rw [W8_set]; rfl
      generalize le ((sp.drop (8 * k)).take 8) = y at *
      go_wp2
      go_roundw
      case rel => exact ⟨k + 1, by omega, by go_num, by rw [HX.out]⟩
      case measure => simp [intOf]; omega
    · have HK := Lib.hid (show k = 8 by omega)
      go_wp2_with (first | refine ld24 rfl _ rfl _ rfl (wpart sp k) (wpart_length sp k) 24 (h2_1 _ _ _) ?_ | refine st24 rfl _ _ rfl (w.heap.size + 1) (wpart sp k) (List.replicate 8 0) rfl rfl (wpart_length sp k) (by simp) 24 (hold2 HG1.out _ _) ?_)
      refine bodyPost_ret (v := .tuple #[.agg (W8 (wpart sp k)), .int .i64 0]) ?_ rfl ⟨?_, ?_⟩
      · exact res_cell24 (fn := Try.f15) (p := 8) (u := 9) rfl _ _ (w.heap.size + 1) 24 (wpart sp k) (wpart_length sp k) (by rfl) (setRow_heap _ _ _ _ _ _ (hold2 HG1.out _ _))
      · rw [HP.out, HK.out]
      · exact below_setRow (balloc (balloc HBL.out _) _) (by omega) _

end Go.Proofs.Ytbdhjiadomifeaa
