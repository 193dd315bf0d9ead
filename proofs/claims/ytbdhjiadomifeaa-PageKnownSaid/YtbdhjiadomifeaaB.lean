/- Helper facts for the statements of this seat; no statement itself. -/
import Derived.Test.YtbdhjiadomifeaaA
import Derived.Laws.CopyOwn
namespace Go.Proofs.Ytbdhjiadomifeaa
open Go.RowKit
set_option linter.unusedSimpArgs false
set_option linter.unusedVariables false
set_option linter.unnecessarySimpa false

theorem heapA (w : World) (o : Obj) (k : Nat) : (w.alloc o).heap[k]? = if k = w.heap.size then some o else w.heap[k]? := by
  show (w.heap.push o)[k]? = _
  rw [Array.getElem?_push]

theorem h1_0 (w : World) (o0 : Obj) : (w.alloc o0).heap[w.heap.size]? = some o0 := by
  simp only [heapA, World.size_alloc]; repeat (first | rfl | rw [if_pos (by omega)] | rw [if_neg (by omega)])
theorem h2_0 (w : World) (o0 o1 : Obj) : ((w.alloc o0).alloc o1).heap[w.heap.size]? = some o0 := by
  simp only [heapA, World.size_alloc]; repeat (first | rfl | rw [if_pos (by omega)] | rw [if_neg (by omega)])
theorem h2_1 (w : World) (o0 o1 : Obj) : ((w.alloc o0).alloc o1).heap[w.heap.size + 1]? = some o1 := by
  simp only [heapA, World.size_alloc]; repeat (first | rfl | rw [if_pos (by omega)] | rw [if_neg (by omega)])
theorem h3_0 (w : World) (o0 o1 o2 : Obj) : (((w.alloc o0).alloc o1).alloc o2).heap[w.heap.size]? = some o0 := by
  simp only [heapA, World.size_alloc]; repeat (first | rfl | rw [if_pos (by omega)] | rw [if_neg (by omega)])
theorem h3_1 (w : World) (o0 o1 o2 : Obj) : (((w.alloc o0).alloc o1).alloc o2).heap[w.heap.size + 1]? = some o1 := by
  simp only [heapA, World.size_alloc]; repeat (first | rfl | rw [if_pos (by omega)] | rw [if_neg (by omega)])
theorem h3_2 (w : World) (o0 o1 o2 : Obj) : (((w.alloc o0).alloc o1).alloc o2).heap[w.heap.size + 1 + 1]? = some o2 := by
  simp only [heapA, World.size_alloc]; repeat (first | rfl | rw [if_pos (by omega)] | rw [if_neg (by omega)])
theorem h4_0 (w : World) (o0 o1 o2 o3 : Obj) : ((((w.alloc o0).alloc o1).alloc o2).alloc o3).heap[w.heap.size]? = some o0 := by
  simp only [heapA, World.size_alloc]; repeat (first | rfl | rw [if_pos (by omega)] | rw [if_neg (by omega)])
theorem h4_1 (w : World) (o0 o1 o2 o3 : Obj) : ((((w.alloc o0).alloc o1).alloc o2).alloc o3).heap[w.heap.size + 1]? = some o1 := by
  simp only [heapA, World.size_alloc]; repeat (first | rfl | rw [if_pos (by omega)] | rw [if_neg (by omega)])
theorem h4_2 (w : World) (o0 o1 o2 o3 : Obj) : ((((w.alloc o0).alloc o1).alloc o2).alloc o3).heap[w.heap.size + 1 + 1]? = some o2 := by
  simp only [heapA, World.size_alloc]; repeat (first | rfl | rw [if_pos (by omega)] | rw [if_neg (by omega)])
theorem h4_3 (w : World) (o0 o1 o2 o3 : Obj) : ((((w.alloc o0).alloc o1).alloc o2).alloc o3).heap[w.heap.size + 1 + 1 + 1]? = some o3 := by
  simp only [heapA, World.size_alloc]; repeat (first | rfl | rw [if_pos (by omega)] | rw [if_neg (by omega)])

theorem setRow_new (w : World) (c c' : Array Value) (t : TypeId) (n : Nat) (h : n = w.heap.size) : (w.alloc (.cells c t)).setRow n c' = w.alloc (.cells c' t) := by
  subst h
  exact World.setRow_alloc_new w c c' t

theorem size24 : (Try.prog.info? 24).map (·.size) = some 8 := by kernel_rfl
theorem size57 : (Try.prog.info? 57).map (·.size) = some 64 := by kernel_rfl
theorem size22 : (Try.prog.info? 22).map (·.size) = some 1 := by kernel_rfl
theorem size5 : (Try.prog.info? 5).map (·.size) = some 1 := by kernel_rfl
theorem agg22 (w : World) : (isAgg 22).run Try.prog w = .ok false w := by kernel_rfl
theorem agg5 (w : World) : (isAgg 5).run Try.prog w = .ok false w := by kernel_rfl

section
variable {ops : Array Oper} {rest : List Oper} {o : Oper} {a : Act} {w : World} {Q : Exit → Act → World → Prop}
theorem ld24 (hgd : o.guard = none) (x : Operand) (ho : o.op = .load 24 x) (g : Nat) (hx : a.eval x = .pointer (some ⟨g, 0, none⟩)) (c : List Nat) (hc : c.length = 8) (t : TypeId) (hg : w.heap[g]? = some (.cells (W8 c) t (0, 0)))
    (h : wpList Try.prog ops Q rest (a.put o.dst (.agg (W8 c))) w) : wpList Try.prog ops Q (o :: rest) a w :=
  wpList_load_row hgd 24 x ho g hx t (W8 c) (0, 0) _ hg Try.underlying24 rfl (by rw [size24, W8_size, hc]) h
theorem ld57 (hgd : o.guard = none) (x : Operand) (ho : o.op = .load 57 x) (g : Nat) (hx : a.eval x = .pointer (some ⟨g, 0, none⟩)) (c : List Nat) (hc : c.length = 64) (t : TypeId) (hg : w.heap[g]? = some (.cells (B8 c) t (0, 0)))
    (h : wpList Try.prog ops Q rest (a.put o.dst (.agg (B8 c))) w) : wpList Try.prog ops Q (o :: rest) a w :=
  wpList_load_row hgd 57 x ho g hx t (B8 c) (0, 0) _ hg Try.underlying57 rfl (by rw [size57, B8_size, hc]) h
theorem st24 (hgd : o.guard = none) (x y : Operand) (ho : o.op = .store 24 x y) (g : Nat) (c d : List Nat) (hx : a.eval x = .pointer (some ⟨g, 0, none⟩)) (hy : a.eval y = .agg (W8 c)) (hc : c.length = 8) (hd : d.length = 8) (t : TypeId) (hg : w.heap[g]? = some (.cells (W8 d) t (0, 0)))
    (h : wpList Try.prog ops Q rest (a.put o.dst undef) (w.setRow g (W8 c))) : wpList Try.prog ops Q (o :: rest) a w :=
  wpList_store_row hgd 24 x y ho g (W8 c) hx hy t (W8 d) hg (by rw [size24, W8_size, hc]) (by rw [W8_size, W8_size, hc, hd]) (W8_one c) h
theorem st57 (hgd : o.guard = none) (x y : Operand) (ho : o.op = .store 57 x y) (g : Nat) (c d : List Nat) (hx : a.eval x = .pointer (some ⟨g, 0, none⟩)) (hy : a.eval y = .agg (B8 c)) (hc : c.length = 64) (hd : d.length = 64) (t : TypeId) (hg : w.heap[g]? = some (.cells (B8 d) t (0, 0)))
    (h : wpList Try.prog ops Q rest (a.put o.dst undef) (w.setRow g (B8 c))) : wpList Try.prog ops Q (o :: rest) a w :=
  wpList_store_row hgd 57 x y ho g (B8 c) hx hy t (B8 d) hg (by rw [size57, B8_size, hc]) (by rw [B8_size, B8_size, hc, hd]) (B8_one c) h
/-- A whole array into the block that was made last. -/
theorem st57n {W : World} {old : Array Value} {t : TypeId} (hgd : o.guard = none) (x y : Operand) (ho : o.op = .store 57 x y) (c : List Nat) (hx : a.eval x = .pointer (some ⟨W.heap.size, 0, none⟩)) (hy : a.eval y = .agg (B8 c)) (hc : c.length = 64) (hd : old.size = 64)
    (h : wpList Try.prog ops Q rest (a.put o.dst undef) (W.alloc (.cells (B8 c) t))) : wpList Try.prog ops Q (o :: rest) a (W.alloc (.cells old t)) :=
  wpList_store_row hgd 57 x y ho W.heap.size (B8 c) hx hy t old (h1_0 _ _) (by rw [size57, B8_size, hc]) (by rw [B8_size, hc, hd]) (B8_one c) (by rw [World.setRow_alloc_new]; exact h)
theorem st24n {W : World} {old : Array Value} {t : TypeId} (hgd : o.guard = none) (x y : Operand) (ho : o.op = .store 24 x y) (c : List Nat) (hx : a.eval x = .pointer (some ⟨W.heap.size, 0, none⟩)) (hy : a.eval y = .agg (W8 c)) (hc : c.length = 8) (hd : old.size = 8)
    (h : wpList Try.prog ops Q rest (a.put o.dst undef) (W.alloc (.cells (W8 c) t))) : wpList Try.prog ops Q (o :: rest) a (W.alloc (.cells old t)) :=
  wpList_store_row hgd 24 x y ho W.heap.size (W8 c) hx hy t old (h1_0 _ _) (by rw [size24, W8_size, hc]) (by rw [W8_size, hc, hd]) (W8_one c) (by rw [World.setRow_alloc_new]; exact h)
end

/-- The 64 bytes of a page, the words from k on as yet zero. -/
def byts (c : List Nat) : Nat → List Nat
  | 0 => List.replicate 64 0
  | k + 1 => spr (byts c k) (8 * k) 8 (c.getD k 0)

theorem byts_length (c : List Nat) (k : Nat) (hk : k ≤ 8) : (byts c k).length = 64 := by
  induction k with
  | zero => simp [byts]
  | succ k ih => simp only [byts]; rw [spr_length _ _ _ _ (by rw [ih (by omega)]; omega), ih (by omega)]

theorem run_index24 (c : List Nat) (k : Nat) (hc : c.length = 8) (hk : k < 8) (w : World) : (Instr.index 24 (.agg (W8 c)) (.int .i64 (k : Int))).run Try.prog w = .ok (.int .u64 ((c.getD k 0 : Nat) : Int)) w :=
  run_index_at 24 22 8 (W8 c) k _ Try.underlying24 size22 agg22 hk (W8_get? c k (by omega)) w

/-- A part of an array of bytes behind a pointer. -/
theorem run_slice57 (b lo hi : Nat) (kl kh : Int) (hl : kl = lo) (hh : kh = hi) (h1 : lo ≤ hi) (h2 : hi ≤ 64) (h3 : lo < 64) (w : World) :
    (Instr.sliceAt 57 (.pointer (some ⟨b, 0, none⟩)) (some (.int .i64 kl)) (some (.int .i64 kh)) none).run Try.prog w = .ok (.slice (some ⟨b, lo, none⟩) (hi - lo) (64 - lo)) w := by
  subst hl hh
  have ea : Try.prog.arrayLen 57 = 64 := by simp [go_sem]
  rw [run_sliceAt_array_lh w 57 ⟨b, 0, none⟩ (by simp [go_sem]) .i64 .i64 (lo : Int) (hi : Int) (by omega) (by omega) (by rw [ea]; omega), ea]
  have h4 : ¬ 64 = lo := by omega
  simp [go_sem, slicedAt, Addr.add, h4]
  omega

set_option maxHeartbeats 400000 in
theorem bytesOf_any (c : List Nat) (w : World) (hc : c.length = 8) (hb : ∀ x ∈ c, x < 18446744073709551616) :
    Calls Try.prog 36 #[.agg (W8 c)] w fun e w' => e = .returned (.agg (B8 (byts c 8))) ∧ Below w.heap.size w w' := by
  have HC := Lib.hid hc
  clear hc
  have hb2 : ∀ k, c.getD k 0 < 18446744073709551616 := by
    intro k
    by_cases h : k < c.length
    · exact hb _ (getD_mem c k h)
    · simp [List.getD, h]
  have HB := Lib.hid hb2
  clear hb hb2
  go_enter Try.func36, Try.ntmps36
  go_wp2_with (refine ld24 rfl _ rfl _ rfl c HC.out 24 ?hg ?_)
  case hg => exact (by simp only [heapA, World.size_alloc]; repeat (first | rfl | rw [if_pos (by omega)] | rw [if_neg (by omega)]))
  go_loopw [7] (fun i wr => ∃ (k : Nat), k ≤ 8 ∧ i = .int .i64 k ∧ wr = ((w.alloc (.cells (W8 c) 24)).alloc (.cells (B8 (List.replicate 64 0)) 57)).alloc (.cells (B8 (byts c k)) 57)) (fun i _ => 8 - (intOf i).toNat)
  case atStart => exact ⟨0, by omega, rfl, rfl⟩
  case round =>
    obtain ⟨k, hk, rfl, hwr⟩ := hrel
    by_cases hlt : k < 8
    · have hix := run_index24 c k HC.out hlt
      have hbk := HB.out k
      have hlen := byts_length c k (by omega)
      have hh : wr.heap[w.heap.size + 1 + 1]? = some (.cells (B8 (byts c k)) 57 (0, 0)) := by rw [hwr]; exact (by simp only [heapA, World.size_alloc]; repeat (first | rfl | rw [if_pos (by omega)] | rw [if_neg (by omega)]))
      have hnx : wr.setRow (w.heap.size + 1 + 1) (B8 (spr (byts c k) (8 * k) 8 (c.getD k 0))) = ((w.alloc (.cells (W8 c) 24)).alloc (.cells (B8 (List.replicate 64 0)) 57)).alloc (.cells (B8 (byts c (k + 1))) 57) := by
        rw [hwr]
        exact setRow_new _ _ _ _ _ (by simp only [World.size_alloc] <;> omega)
      have HH := Lib.hid hh
      have HN := Lib.hid hnx
      have HL := Lib.hid hlen
      clear hh hnx hwr hlen
      generalize c.getD k 0 = x at *
      have hsl := run_slice57 (w.heap.size + 1 + 1) (8 * k) (8 * (k + 1)) (8 * (k : Int)) (8 * ((k : Int) + 1)) (by omega) (by omega) (by omega) (by omega) (by omega)
      rw [show 8 * (k + 1) - 8 * k = 8 by omega] at hsl
      go_wp2_with fail
      refine (spread_any _ _ _ _ x (byts c k) 57 _ hbk (by omega) (by rw [HL.out]; omega) HH.out).mono ?_
      rintro e w' ⟨rfl, rfl⟩
      rw [HN.out]
      go_wp2
      go_roundw
      case rel => exact ⟨k + 1, by omega, by go_num, rfl⟩
      case measure => simp [intOf]; omega
    · obtain rfl : k = 8 := by omega
      have hl8 := Lib.hid (byts_length c 8 (by omega))
      have HW := Lib.hid hwr
      have h2 : wr.heap[w.heap.size + 1 + 1]? = some (.cells (B8 (byts c 8)) 57 (0, 0)) := by rw [hwr]; exact (by simp only [heapA, World.size_alloc]; repeat (first | rfl | rw [if_pos (by omega)] | rw [if_neg (by omega)]))
      have h1 : wr.heap[w.heap.size + 1]? = some (.cells (B8 (List.replicate 64 0)) 57 (0, 0)) := by rw [hwr]; exact (by simp only [heapA, World.size_alloc]; repeat (first | rfl | rw [if_pos (by omega)] | rw [if_neg (by omega)]))
      have hbl : Below w.heap.size w wr := by
        rw [hwr]
        exact ((((Below.refl _ _).alloc (Nat.le_refl _) _).alloc (by simp only [World.size_alloc] <;> omega) _).alloc (by simp only [World.size_alloc] <;> omega) _)
      have H1 := Lib.hid h1
      have H2 := Lib.hid h2
      have HB2 := Lib.hid hbl
      clear hwr h1 h2 hbl HW
      go_wp2_with (first | refine ld57 rfl _ rfl _ rfl (byts c 8) hl8.out 57 H2.out ?_ | refine st57 rfl _ _ rfl _ (byts c 8) (List.replicate 64 0) rfl rfl hl8.out (by simp) 57 H1.out ?_)
      refine bodyPost_ret (v := .agg (B8 (byts c 8))) ?_ rfl ⟨rfl, ?_⟩
      · refine results_cell_row rfl _ _ (w.heap.size + 1) 57 (B8 (byts c 8)) (0, 0) _ rfl ?_ Try.underlying57 rfl (by rw [size57, B8_size, hl8.out])
        exact setRow_heap _ _ _ _ _ _ H1.out
      · exact below_setRow HB2.out (by omega) _

end Go.Proofs.Ytbdhjiadomifeaa
