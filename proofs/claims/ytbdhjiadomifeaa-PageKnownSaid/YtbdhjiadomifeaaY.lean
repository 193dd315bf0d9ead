/- Helper facts for the statements of this seat; no statement itself. -/
import Derived.Test.YtbdhjiadomifeaaV
import Derived.Lib.ConvBytes
namespace Go.Proofs.Ytbdhjiadomifeaa
open Go.RowKit
set_option linter.unusedSimpArgs false
set_option linter.unusedVariables false
set_option linter.unnecessarySimpa false

/-- The byte number i of a string. -/
def bt (s : ByteArray) (i : Nat) : Nat := (s.data.toList.getD i 0).toNat
theorem bt_lt (s : ByteArray) (i : Nat) : bt s i < 256 := (s.data.toList.getD i 0).toNat_lt
/-- A byte that is a digit, and its value. -/
def isHx (b : Nat) : Bool := (decide (48 ≤ b) && decide (b ≤ 57)) || (decide (97 ≤ b) && decide (b ≤ 102))
def hxv (b : Nat) : Nat := if b ≤ 57 then b - 48 else b - 87
/-- The byte is as in the text of a page. -/
def okB (b i : Nat) : Bool := if i % 17 = 16 then b == 32 else isHx b
/-- The page after one byte more. -/
def stepC (c : List Nat) (b i : Nat) : List Nat := if i % 17 = 16 then c else c.set (i / 17) (c.getD (i / 17) 0 * 16 % 18446744073709551616 + hxv b)
/-- The page after the first k bytes. -/
def contK (s : ByteArray) : Nat → List Nat
  | 0 => List.replicate 8 0
  | k + 1 => stepC (contK s k) (bt s k) k
/-- The first byte from k on that is not as in the text of a page, among f. -/
def badK (s : ByteArray) : Nat → Nat → Nat
  | k, 0 => k
  | k, f + 1 => if okB (bt s k) k = true then badK s (k + 1) f else k
def bad (s : ByteArray) : Nat := badK s 0 s.size
def GoodK (s : ByteArray) (k : Nat) : Prop := ∀ j, j < k → okB (bt s j) j = true

theorem badK_good (s : ByteArray) (k f : Nat) (j : Nat) (h : ∀ i, j ≤ i → i < j + k → okB (bt s i) i = true) : badK s j (k + f) = badK s (j + k) f := by
  induction k generalizing j with
  | zero => simp
  | succ k ih =>
    rw [show k + 1 + f = (k + f) + 1 by omega]
    simp only [badK]
    rw [if_pos (h j (by omega) (by omega)), ih (j + 1) (fun i h1 h2 => h i (by omega) (by omega)), show j + 1 + k = j + (k + 1) by omega]

theorem bad_at (s : ByteArray) (k : Nat) (hg : GoodK s k) (hk : k < s.size) (hb : okB (bt s k) k = false) : bad s = k := by
  unfold bad
  rw [show s.size = k + ((s.size - k - 1) + 1) by omega, badK_good s k _ 0 (fun i _ h => hg i (by omega))]
  simp only [badK, Nat.zero_add]
  rw [if_neg (by simp [hb])]
theorem bad_end (s : ByteArray) (hg : GoodK s s.size) : bad s = s.size := by
  unfold bad
  have := badK_good s s.size 0 0 (fun i _ h => hg i (by omega))
  rw [Nat.add_zero] at this
  rw [this]; simp [badK]

theorem step_val (x d : Nat) (hx : x < 18446744073709551616) (hd : d < 16) : x * 16 % 18446744073709551616 + d < 18446744073709551616 := by omega
theorem hxv_lt {b : Nat} (h : isHx b = true) : hxv b < 16 := by
  simp [isHx] at h
  unfold hxv
  split <;> omega

theorem stepC_pg {c : List Nat} (hp : Pg c) (b i : Nat) (h : okB b i = true) : Pg (stepC c b i) := by
  unfold stepC
  by_cases h16 : i % 17 = 16
  · rw [if_pos h16]; exact hp
  · rw [if_neg h16]
    unfold okB at h
    rw [if_neg h16] at h
    have := hxv_lt h
    refine ⟨by rw [List.length_set, hp.1], fun x hx => ?_⟩
    rcases List.mem_or_eq_of_mem_set hx with h2 | h2
    · exact hp.2 x h2
    · rw [h2]; exact step_val _ _ (pg_lt hp _) this
theorem zero_pg : Pg (List.replicate 8 0) := ⟨by simp, fun x hx => by simp at hx; omega⟩
theorem contK_pg (s : ByteArray) (k : Nat) (hg : GoodK s k) : Pg (contK s k) := by
  induction k with
  | zero => exact zero_pg
  | succ k ih => exact stepC_pg (ih (fun j hj => hg j (by omega))) _ _ (hg k (by omega))
theorem good_succ {s : ByteArray} {k : Nat} (hg : GoodK s k) (h : okB (bt s k) k = true) : GoodK s (k + 1) := fun j hj => by
  by_cases e : j = k
  · rw [e]; exact h
  · exact hg j (by omega)

/-- What Parse gives. -/
def prC (s : ByteArray) : List Nat := if 135 < s.size then List.replicate 8 0 else if bad s < 135 then List.replicate 8 0 else contK s 135
def prE (s : ByteArray) : Int := if 135 < s.size then 4 else if bad s < 135 then 3 else 0
def prA (s : ByteArray) : Int := if 135 < s.size then 135 else if bad s < 135 then (bad s : Int) else 0

section
variable {ops : Array Oper} {rest : List Oper} {o : Oper} {a : Act} {w : World} {Q : Exit → Act → World → Prop}
theorem size50 : (Try.prog.info? 50).map (·.size) = some 2 := by kernel_rfl
theorem st50 (hgd : o.guard = none) (x y : Operand) (ho : o.op = .store 50 x y) (g : Nat) (e f : Int) (old : Array Value) (hx : a.eval x = .pointer (some ⟨g, 0, none⟩)) (hy : a.eval y = .agg #[.int .i64 e, .int .i64 f]) (hd : old.size = 2) (t : TypeId) (hg : w.heap[g]? = some (.cells old t (0, 0)))
    (h : wpList Try.prog ops Q rest (a.put o.dst undef) (w.setRow g #[.int .i64 e, .int .i64 f])) : wpList Try.prog ops Q (o :: rest) a w :=
  wpList_store_row hgd 50 x y ho g #[.int .i64 e, .int .i64 f] hx hy t old hg (by rw [size50]; rfl) (by rw [hd]; rfl) (by simp [Value.oneCell']) h
end

theorem res_two {fn : Func} {p u : Tmp} (h : fn.results = #[.cell p 24, .cell u 50]) (tmps : Array Value) (w : World) (g g' : Nat) (t t' : TypeId) (c : List Nat) (e f : Int) (hc : c.length = 8)
    (hp : tmps.getD p undef = .pointer (some ⟨g, 0, none⟩)) (hg : w.heap[g]? = some (.cells (W8 c) t (0, 0)))
    (hu : tmps.getD u undef = .pointer (some ⟨g', 0, none⟩)) (hg' : w.heap[g']? = some (.cells #[.int .i64 e, .int .i64 f] t' (0, 0))) :
    (results fn tmps).run Try.prog w = .ok (.tuple #[.agg (W8 c), .agg #[.int .i64 e, .int .i64 f]]) w := by
  have h1 := run_loadVar_row (P := Try.prog) w g t 24 (W8 c) (0, 0) _ hg Try.underlying24 rfl (by rw [size24, W8_size, hc])
  have h2 := run_loadVar_row (P := Try.prog) w g' t' 50 #[.int .i64 e, .int .i64 f] (0, 0) _ hg' Try.underlying50 rfl (by rw [size50]; rfl)
  have hp' : tmps[p]?.getD undef = .pointer (some ⟨g, 0, none⟩) := by simpa using hp
  have hu' : tmps[u]?.getD undef = .pointer (some ⟨g', 0, none⟩) := by simpa using hu
  simp [results, h, hp', hu', asAddr, h1, h2]

/-- The world when Parse has made its results, and a page. -/
def PW (w : World) (s : ByteArray) (k : Nat) (wr : World) : Prop :=
  wr.heap[w.heap.size]? = some (.cells (W8 (List.replicate 8 0)) 24 (0, 0)) ∧ wr.heap[w.heap.size + 1]? = some (.cells #[.int .i64 0, .int .i64 0] 50 (0, 0)) ∧
  wr.heap[w.heap.size + 1 + 1]? = some (.cells (W8 (contK s k)) 24 (0, 0)) ∧ Below w.heap.size w wr

theorem PW.cells {w wr : World} {s : ByteArray} {k : Nat} (h : PW w s k wr) (hg : GoodK s k) (q : Nat) (hq : q < 8) :
    wr.cell? ⟨w.heap.size + 1 + 1, q, none⟩ = some (.int .u64 ((gd (contK s k) q : Nat) : Int)) ∧ wr.frozen? ⟨w.heap.size + 1 + 1, q, none⟩ = false :=
  ⟨setRow_cell h.2.2.1 (W8_get? _ q (by rw [(contK_pg s k hg).1]; exact hq)), frozen_of_row _ _ _ _ _ h.2.2.1⟩

theorem or_step (x d : Nat) (hx : x < 18446744073709551616) (hd : d < 16) : bits .or .u64 (IntKind.u64.wrap ((x : Int) * 16)) (d : Int) = ((x * 16 % 18446744073709551616 + d : Nat) : Int) := by
  have e1 : IntKind.u64.wrap ((x : Int) * 16) = ((x * 16 % 18446744073709551616 : Nat) : Int) := by rw [IntKind.wrap_u64]; omega
  rw [e1, u64_or_nat _ _ (by omega) (by omega), nat_join 4 _ _ (by omega) (by omega)]

set_option maxHeartbeats 1000000 in
theorem parse_long (s : ByteArray) (w : World) (h : 135 < s.size) (h2 : s.size ≤ 9223372036854775807) :
    Calls Try.prog 32 #[.string s] w fun e w' => e = .returned (.tuple #[.agg (W8 (List.replicate 8 0)), .agg #[.int .i64 4, .int .i64 135]]) ∧ Below w.heap.size w w' := by
  go_enter Try.func32, Try.ntmps32
  go_wp2
  go_step3
  go_wp2
  rw [Exit.noGoto_ret]
  refine bodyPost_ret (v := .tuple #[.agg (W8 (List.replicate 8 0)), .agg #[.int .i64 4, .int .i64 135]]) ?_ rfl ⟨rfl, ?_⟩
  · refine res_two (fn := Try.f32) (p := 2) (u := 3) rfl _ _ w.heap.size (w.heap.size + 1) 24 50 (List.replicate 8 0) 4 135 (by simp) ?_ ?_ ?_ ?_
    · rfl
    · exact h2_0 _ _ _
    · rfl
    · exact h2_1 _ _ _
  · exact (((Below.refl _ _).alloc (Nat.le_refl _) _).alloc (by simp only [World.size_alloc] <;> omega) _)

theorem PW_bytes {w w3 : World} {s t : ByteArray} (h : PW w s 0 w3) (hs : w3.heap.size = w.heap.size + 1 + 1 + 1) : PW w s 0 (Lib.bytesWorld w3 5 t) :=
  ⟨(Lib.bytesWorld_at_old w3 5 t _ (by omega)).trans h.1, (Lib.bytesWorld_at_old w3 5 t _ (by omega)).trans h.2.1, (Lib.bytesWorld_at_old w3 5 t _ (by omega)).trans h.2.2.1,
   h.2.2.2.trans ⟨rfl, rfl, rfl, by rw [Lib.bytesWorld_size]; omega, fun k hk => Lib.bytesWorld_at_old w3 5 t k (by omega)⟩⟩

theorem PW_step {w wr : World} {s : ByteArray} {k : Nat} (h : PW w s k wr) (q z : Nat) (hz : contK s (k + 1) = (contK s k).set q z) : PW w s (k + 1) (wr.setCell ⟨w.heap.size + 1 + 1, q, none⟩ (.int .u64 (z : Int))) :=
  ⟨by rw [heap_setCell_other _ _ _ _ (by simp; omega)]; exact h.1, by rw [heap_setCell_other _ _ _ _ (by simp)]; exact h.2.1,
   by rw [heap_setCell_same _ _ _ _ 24 _ h.2.2.1, W8_set, hz], h.2.2.2.setCell (by simp; omega) _⟩

theorem pr_bad (s : ByteArray) (h : s.size ≤ 135) (hb : bad s < 135) : Ending.returned (.tuple #[.agg (W8 (prC s)), .agg #[.int .i64 (prE s), .int .i64 (prA s)]]) = .returned (.tuple #[.agg (W8 (List.replicate 8 0)), .agg #[.int .i64 3, .int .i64 (bad s : Int)]]) := by
  unfold prC prE prA
  have h' : ¬ 135 < s.size := by omega
  simp only [if_neg h', if_pos hb]

theorem pr_ok (s : ByteArray) (h : s.size ≤ 135) (hb : ¬ bad s < 135) : Ending.returned (.tuple #[.agg (W8 (prC s)), .agg #[.int .i64 (prE s), .int .i64 (prA s)]]) = .returned (.tuple #[.agg (W8 (contK s 135)), .agg #[.int .i64 0, .int .i64 0]]) := by
  unfold prC prE prA
  have h' : ¬ 135 < s.size := by omega
  simp only [if_neg h', if_neg hb]

set_option maxHeartbeats 2000000 in
set_option maxRecDepth 100000 in
theorem parse_short (s : ByteArray) (w : World) (h : s.size ≤ 135) :
    Calls Try.prog 32 #[.string s] w fun e w' => e = .returned (.tuple #[.agg (W8 (prC s)), .agg #[.int .i64 (prE s), .int .i64 (prA s)]]) ∧ Below w.heap.size w w' := by
  have hcv := fun (w : World) => Lib.run_convert_string_bytes (P := Try.prog) w 9 60 5 s Try.underlying9 Try.underlying60 Try.underlying5
  go_enter Try.func32, Try.ntmps32
  go_wp2
  go_step3
  go_wp2
  go_step3
  go_wp2
  clear hcv
  have P3 : Hid (PW w s 0 (((w.alloc (.cells (W8 (List.replicate 8 0)) 24)).alloc (.cells #[.int .i64 0, .int .i64 0] 50)).alloc (.cells (W8 (List.replicate 8 0)) 24))) := ⟨h3_0 _ _ _ _, h3_1 _ _ _ _, h3_2 _ _ _ _, ((((Below.refl _ _).alloc (Nat.le_refl _) _).alloc (by simp only [World.size_alloc] <;> omega) _).alloc (by simp only [World.size_alloc] <;> omega) _)⟩
  go_loopw [5, 20] (fun bd i wr => ∃ k : Nat, k ≤ s.size ∧ i = .int .i64 k ∧ bd = .int .i64 (s.size : Int) ∧ Hid (GoodK s k) ∧ Hid (PW w s k wr) ∧ Hid (∀ j, j < s.size → wr.cell? ⟨w.heap.size + 1 + 1 + 1, j, none⟩ = some (.int .u8 ((bt s j : Nat) : Int)))) (fun _ i _ => s.size - (intOf i).toNat)
  case atStart =>
    refine ⟨0, by omega, rfl, rfl, fun j hj => by omega, ?_, ?_⟩
    · exact PW_bytes P3.out (by simp only [World.size_alloc])
    · intro j hj
      have := Lib.bytesWorld_cell (((w.alloc (.cells (W8 (List.replicate 8 0)) 24)).alloc (.cells #[.int .i64 0, .int .i64 0] 50)).alloc (.cells (W8 (List.replicate 8 0)) 24)) 5 s j hj
      simp only [World.size_alloc] at this
      exact this
  case round =>
    obtain ⟨k, hk, rfl, rfl, hg, hpw, hcl⟩ := hrel
    clear P3
    by_cases hlt : k < s.size
    · have hbk := hcl.out k hlt
      have hblt := bt_lt s k
      obtain ⟨cq, fq⟩ := hpw.out.cells hg.out (k / 17) (by omega)
      have hxq : gd (contK s k) (k / 17) < 18446744073709551616 := pg_lt (contK_pg s k hg.out) (k / 17)
      by_cases h16 : k % 17 = 16
      · have e16 : ((k : Int) % 17 == 16) = true := by simp; omega
        have HC : Hid (contK s (k + 1) = contK s k) := by show _ = _; simp only [contK, stepC]; rw [if_pos h16]
        clear cq fq
        by_cases h32 : bt s k = 32
        · have HOK : okB (bt s k) k = true := by unfold okB; rw [if_pos h16, h32]; rfl
          have e32 : (((bt s k : Nat) : Int) == 32) = true := by simp; omega
          clear h16 h32
          generalize bt s k = y at hbk e32 hblt
          go_wp2
          go_roundw
          case rel => exact ⟨k + 1, by omega, by go_num, rfl, good_succ hg.out HOK, by rw [PW, HC.out]; exact hpw, hcl⟩
          case measure => simp [intOf]; omega
        · have HOK : okB (bt s k) k = false := by unfold okB; rw [if_pos h16]; simp; exact h32
          have e32 : (((bt s k : Nat) : Int) == 32) = false := by simp; omega
          clear h16 h32
          generalize bt s k = y at hbk e32 hblt
          have HBD := Lib.hid (bad_at s k hg.out hlt HOK)
          have hk135 : k < 135 := by omega
          clear hg hcl
          go_wp2_with (first | ((with_reducible refine st24 ?a0 (.tmp 2) (.tmp 73) ?a1 w.heap.size (List.replicate 8 0) (List.replicate 8 0) ?a2 ?a3 ?a4 ?a4 24 ?a5 ?_); (case a0 => rfl); (case a1 => rfl); (case a2 => rfl); (case a3 => rfl); (case a4 => simp); (case a5 => exact hpw.out.1)) | ((with_reducible refine st50 ?b0 (.tmp 3) (.tmp 75) ?b1 (w.heap.size + 1) 3 (k : Int) #[.int .i64 0, .int .i64 0] ?b2 ?b3 ?b4 50 ?b5 ?_); (case b0 => rfl); (case b1 => rfl); (case b2 => rfl); (case b3 => rfl); (case b4 => rfl); (case b5 => rw [setRow_other _ _ _ _ (by omega)]; exact hpw.out.2.1)))
          try rw [Exit.noGoto_ret]
          refine bodyPost_ret (v := .tuple #[.agg (W8 (List.replicate 8 0)), .agg #[.int .i64 3, .int .i64 (k : Int)]]) ?_ rfl ⟨?_, ?_⟩
          · refine res_two (fn := Try.f32) (p := 2) (u := 3) rfl _ _ w.heap.size (w.heap.size + 1) 24 50 (List.replicate 8 0) 3 (k : Int) (by simp) ?_ ?_ ?_ ?_
            · rfl
            · rw [setRow_other _ _ _ _ (by omega)]; exact setRow_heap _ _ _ _ _ _ hpw.out.1
            · rfl
            · exact setRow_heap _ _ #[.int .i64 0, .int .i64 0] _ _ _ (by rw [setRow_other _ _ _ _ (by omega)]; exact hpw.out.2.1)
          · rw [pr_bad s h (by rw [HBD.out]; exact hk135), HBD.out]
          · exact below_setRow (below_setRow hpw.out.2.2.2 (by omega) _) (by omega) _
      · have e16 : ((k : Int) % 17 == 16) = false := by simp; omega
        by_cases h1 : 48 ≤ bt s k
        · by_cases h2 : bt s k ≤ 57
          · have HOK : okB (bt s k) k = true := by unfold okB; rw [if_neg h16]; simp [isHx]; omega
            have hxv1 : hxv (bt s k) = bt s k - 48 := by unfold hxv; rw [if_pos h2]
            have hor : bits .or .u64 (IntKind.u64.wrap (((gd (contK s k) (k / 17) : Nat) : Int) * 16)) (((bt s k : Nat) : Int) - 48) = (((gd (contK s k) (k / 17)) * 16 % 18446744073709551616 + (bt s k - 48) : Nat) : Int) := by
              have := or_step (gd (contK s k) (k / 17)) (bt s k - 48) hxq (by omega)
              rw [← this]; congr 1; omega
            have HP : Hid (PW w s (k + 1) (wr.setCell ⟨w.heap.size + 1 + 1, k / 17, none⟩ (.int .u64 (((gd (contK s k) (k / 17)) * 16 % 18446744073709551616 + (bt s k - 48) : Nat) : Int)))) := by
              have := PW_step hpw.out (k / 17) ((gd (contK s k) (k / 17)) * 16 % 18446744073709551616 + (bt s k - 48)) (by simp only [contK, stepC]; rw [if_neg h16, hxv1]; rfl)
              exact this
            have HCL : Hid (∀ (v : Value) j, j < s.size → (wr.setCell ⟨w.heap.size + 1 + 1, k / 17, none⟩ v).cell? ⟨w.heap.size + 1 + 1 + 1, j, none⟩ = some (.int .u8 ((bt s j : Nat) : Int))) := fun v j hj => by
              rw [World.cell?_of_block (w := wr) (heap_setCell_other _ _ _ _ (by simp))]; exact hcl.out j hj
            clear h16 hxv1
            generalize (gd (contK s k) (k / 17)) * 16 % 18446744073709551616 + (bt s k - 48) = z at *
            generalize gd (contK s k) (k / 17) = q at *
            generalize hy : bt s k = y at hbk hblt hor h1 h2
            clear hy hpw
            go_wp2
            go_roundw
            case rel => exact ⟨k + 1, by omega, by go_num, rfl, good_succ hg.out HOK, HP, HCL.out _⟩
            case measure => simp [intOf]; omega
          · by_cases h3 : 97 ≤ bt s k
            · by_cases h4 : bt s k ≤ 102
              · have HOK : okB (bt s k) k = true := by unfold okB; rw [if_neg h16]; simp [isHx]; omega
                have hxv1 : hxv (bt s k) = bt s k - 87 := by unfold hxv; rw [if_neg h2]
                have hor : bits .or .u64 (IntKind.u64.wrap (((gd (contK s k) (k / 17) : Nat) : Int) * 16)) (((bt s k : Nat) : Int) - 97 + 10) = (((gd (contK s k) (k / 17)) * 16 % 18446744073709551616 + (bt s k - 87) : Nat) : Int) := by
                  have := or_step (gd (contK s k) (k / 17)) (bt s k - 87) hxq (by omega)
                  rw [← this]; congr 1; omega
                have HP : Hid (PW w s (k + 1) (wr.setCell ⟨w.heap.size + 1 + 1, k / 17, none⟩ (.int .u64 (((gd (contK s k) (k / 17)) * 16 % 18446744073709551616 + (bt s k - 87) : Nat) : Int)))) := by
                  have := PW_step hpw.out (k / 17) ((gd (contK s k) (k / 17)) * 16 % 18446744073709551616 + (bt s k - 87)) (by simp only [contK, stepC]; rw [if_neg h16, hxv1]; rfl)
                  exact this
                have HCL : Hid (∀ (v : Value) j, j < s.size → (wr.setCell ⟨w.heap.size + 1 + 1, k / 17, none⟩ v).cell? ⟨w.heap.size + 1 + 1 + 1, j, none⟩ = some (.int .u8 ((bt s j : Nat) : Int))) := fun v j hj => by
                  rw [World.cell?_of_block (w := wr) (heap_setCell_other _ _ _ _ (by simp))]; exact hcl.out j hj
                clear h16 hxv1
                generalize (gd (contK s k) (k / 17)) * 16 % 18446744073709551616 + (bt s k - 87) = z at *
                generalize gd (contK s k) (k / 17) = q at *
                generalize hy : bt s k = y at hbk hblt hor h1 h2 h3 h4
                clear hy hpw
                go_wp2
                go_roundw
                case rel => exact ⟨k + 1, by omega, by go_num, rfl, good_succ hg.out HOK, HP, HCL.out _⟩
                case measure => simp [intOf]; omega
              · have HOK : okB (bt s k) k = false := by unfold okB; rw [if_neg h16]; simp [isHx]; omega
                clear h16 cq fq hxq
                generalize bt s k = y at hbk hblt h1 h2 h3 h4
                have HBD := Lib.hid (bad_at s k hg.out hlt HOK)
                have hk135 : k < 135 := by omega
                clear hg hcl
                go_wp2_with (first | ((with_reducible refine st24 ?a0 (.tmp 2) (.tmp 73) ?a1 w.heap.size (List.replicate 8 0) (List.replicate 8 0) ?a2 ?a3 ?a4 ?a4 24 ?a5 ?_); (case a0 => rfl); (case a1 => rfl); (case a2 => rfl); (case a3 => rfl); (case a4 => simp); (case a5 => exact hpw.out.1)) | ((with_reducible refine st50 ?b0 (.tmp 3) (.tmp 75) ?b1 (w.heap.size + 1) 3 (k : Int) #[.int .i64 0, .int .i64 0] ?b2 ?b3 ?b4 50 ?b5 ?_); (case b0 => rfl); (case b1 => rfl); (case b2 => rfl); (case b3 => rfl); (case b4 => rfl); (case b5 => rw [setRow_other _ _ _ _ (by omega)]; exact hpw.out.2.1)))
                try rw [Exit.noGoto_ret]
                refine bodyPost_ret (v := .tuple #[.agg (W8 (List.replicate 8 0)), .agg #[.int .i64 3, .int .i64 (k : Int)]]) ?_ rfl ⟨?_, ?_⟩
                · refine res_two (fn := Try.f32) (p := 2) (u := 3) rfl _ _ w.heap.size (w.heap.size + 1) 24 50 (List.replicate 8 0) 3 (k : Int) (by simp) ?_ ?_ ?_ ?_
                  · rfl
                  · rw [setRow_other _ _ _ _ (by omega)]; exact setRow_heap _ _ _ _ _ _ hpw.out.1
                  · rfl
                  · exact setRow_heap _ _ #[.int .i64 0, .int .i64 0] _ _ _ (by rw [setRow_other _ _ _ _ (by omega)]; exact hpw.out.2.1)
                · rw [pr_bad s h (by rw [HBD.out]; exact hk135), HBD.out]
                · exact below_setRow (below_setRow hpw.out.2.2.2 (by omega) _) (by omega) _
            · have HOK : okB (bt s k) k = false := by unfold okB; rw [if_neg h16]; simp [isHx]; omega
              clear h16 cq fq hxq
              generalize bt s k = y at hbk hblt h1 h2 h3
              have HBD := Lib.hid (bad_at s k hg.out hlt HOK)
              have hk135 : k < 135 := by omega
              clear hg hcl
              go_wp2_with (first | ((with_reducible refine st24 ?a0 (.tmp 2) (.tmp 73) ?a1 w.heap.size (List.replicate 8 0) (List.replicate 8 0) ?a2 ?a3 ?a4 ?a4 24 ?a5 ?_); (case a0 => rfl); (case a1 => rfl); (case a2 => rfl); (case a3 => rfl); (case a4 => simp); (case a5 => exact hpw.out.1)) | ((with_reducible refine st50 ?b0 (.tmp 3) (.tmp 75) ?b1 (w.heap.size + 1) 3 (k : Int) #[.int .i64 0, .int .i64 0] ?b2 ?b3 ?b4 50 ?b5 ?_); (case b0 => rfl); (case b1 => rfl); (case b2 => rfl); (case b3 => rfl); (case b4 => rfl); (case b5 => rw [setRow_other _ _ _ _ (by omega)]; exact hpw.out.2.1)))
              try rw [Exit.noGoto_ret]
              refine bodyPost_ret (v := .tuple #[.agg (W8 (List.replicate 8 0)), .agg #[.int .i64 3, .int .i64 (k : Int)]]) ?_ rfl ⟨?_, ?_⟩
              · refine res_two (fn := Try.f32) (p := 2) (u := 3) rfl _ _ w.heap.size (w.heap.size + 1) 24 50 (List.replicate 8 0) 3 (k : Int) (by simp) ?_ ?_ ?_ ?_
                · rfl
                · rw [setRow_other _ _ _ _ (by omega)]; exact setRow_heap _ _ _ _ _ _ hpw.out.1
                · rfl
                · exact setRow_heap _ _ #[.int .i64 0, .int .i64 0] _ _ _ (by rw [setRow_other _ _ _ _ (by omega)]; exact hpw.out.2.1)
              · rw [pr_bad s h (by rw [HBD.out]; exact hk135), HBD.out]
              · exact below_setRow (below_setRow hpw.out.2.2.2 (by omega) _) (by omega) _
        · have HOK : okB (bt s k) k = false := by unfold okB; rw [if_neg h16]; simp [isHx]; omega
          clear h16 cq fq hxq
          generalize bt s k = y at hbk hblt h1
          have HBD := Lib.hid (bad_at s k hg.out hlt HOK)
          have hk135 : k < 135 := by omega
          clear hg hcl
          go_wp2_with (first | ((with_reducible refine st24 ?a0 (.tmp 2) (.tmp 73) ?a1 w.heap.size (List.replicate 8 0) (List.replicate 8 0) ?a2 ?a3 ?a4 ?a4 24 ?a5 ?_); (case a0 => rfl); (case a1 => rfl); (case a2 => rfl); (case a3 => rfl); (case a4 => simp); (case a5 => exact hpw.out.1)) | ((with_reducible refine st50 ?b0 (.tmp 3) (.tmp 75) ?b1 (w.heap.size + 1) 3 (k : Int) #[.int .i64 0, .int .i64 0] ?b2 ?b3 ?b4 50 ?b5 ?_); (case b0 => rfl); (case b1 => rfl); (case b2 => rfl); (case b3 => rfl); (case b4 => rfl); (case b5 => rw [setRow_other _ _ _ _ (by omega)]; exact hpw.out.2.1)))
          try rw [Exit.noGoto_ret]
          refine bodyPost_ret (v := .tuple #[.agg (W8 (List.replicate 8 0)), .agg #[.int .i64 3, .int .i64 (k : Int)]]) ?_ rfl ⟨?_, ?_⟩
          · refine res_two (fn := Try.f32) (p := 2) (u := 3) rfl _ _ w.heap.size (w.heap.size + 1) 24 50 (List.replicate 8 0) 3 (k : Int) (by simp) ?_ ?_ ?_ ?_
            · rfl
            · rw [setRow_other _ _ _ _ (by omega)]; exact setRow_heap _ _ _ _ _ _ hpw.out.1
            · rfl
            · exact setRow_heap _ _ #[.int .i64 0, .int .i64 0] _ _ _ (by rw [setRow_other _ _ _ _ (by omega)]; exact hpw.out.2.1)
          · rw [pr_bad s h (by rw [HBD.out]; exact hk135), HBD.out]
          · exact below_setRow (below_setRow hpw.out.2.2.2 (by omega) _) (by omega) _
    · by_cases h135 : s.size < 135
      · have HBD : Hid (bad s = k) := by
          show _ = _
          have e : k = s.size := by omega
          rw [e] at hg ⊢
          exact bad_end s hg.out
        clear hg hcl
        go_wp2_with (first | ((with_reducible refine st24 ?a0 (.tmp 2) (.tmp 73) ?a1 w.heap.size (List.replicate 8 0) (List.replicate 8 0) ?a2 ?a3 ?a4 ?a4 24 ?a5 ?_); (case a0 => rfl); (case a1 => rfl); (case a2 => rfl); (case a3 => rfl); (case a4 => simp); (case a5 => exact hpw.out.1)) | ((with_reducible refine st50 ?b0 (.tmp 3) (.tmp 75) ?b1 (w.heap.size + 1) 3 (s.size : Int) #[.int .i64 0, .int .i64 0] ?b2 ?b3 ?b4 50 ?b5 ?_); (case b0 => rfl); (case b1 => rfl); (case b2 => rfl); (case b3 => rfl); (case b4 => rfl); (case b5 => rw [setRow_other _ _ _ _ (by omega)]; exact hpw.out.2.1)))
        try rw [Exit.noGoto_ret]
        refine bodyPost_ret (v := .tuple #[.agg (W8 (List.replicate 8 0)), .agg #[.int .i64 3, .int .i64 (s.size : Int)]]) ?_ rfl ⟨?_, ?_⟩
        · refine res_two (fn := Try.f32) (p := 2) (u := 3) rfl _ _ w.heap.size (w.heap.size + 1) 24 50 (List.replicate 8 0) 3 (s.size : Int) (by simp) ?_ ?_ ?_ ?_
          · rfl
          · rw [setRow_other _ _ _ _ (by omega)]; exact setRow_heap _ _ _ _ _ _ hpw.out.1
          · rfl
          · exact setRow_heap _ _ #[.int .i64 0, .int .i64 0] _ _ _ (by rw [setRow_other _ _ _ _ (by omega)]; exact hpw.out.2.1)
        · rw [pr_bad s h (by rw [HBD.out]; omega), HBD.out, show k = s.size by omega]
        · exact below_setRow (below_setRow hpw.out.2.2.2 (by omega) _) (by omega) _
      · have HBD : Hid (bad s = 135 ∧ k = 135) := by
          have e : k = s.size := by omega
          have e2 : k = 135 := by omega
          refine ⟨?_, e2⟩
          rw [← e2, e]; rw [e] at hg; exact bad_end s hg.out
        have hlc := (contK_pg s k hg.out).1
        have HLC := Lib.hid hlc
        clear hlc hg hcl
        go_wp2_with (first | ((with_reducible refine ld24 ?c0 (.tmp 4) ?c1 (w.heap.size + 1 + 1) ?c2 (contK s k) ?c3 24 ?c4 ?_); (case c0 => rfl); (case c1 => rfl); (case c2 => rfl); (case c3 => exact HLC.out); (case c4 => exact hpw.out.2.2.1)) | ((with_reducible refine st24 ?a0 (.tmp 2) (.tmp 76) ?a1 w.heap.size (contK s k) (List.replicate 8 0) ?a2 ?a3 ?a4 ?a6 24 ?a5 ?_); (case a0 => rfl); (case a1 => rfl); (case a2 => rfl); (case a3 => rfl); (case a4 => exact HLC.out); (case a6 => simp); (case a5 => exact hpw.out.1)) | ((with_reducible refine st50 ?b0 (.tmp 3) (.tmp 77) ?b1 (w.heap.size + 1) 0 0 #[.int .i64 0, .int .i64 0] ?b2 ?b3 ?b4 50 ?b5 ?_); (case b0 => rfl); (case b1 => rfl); (case b2 => rfl); (case b3 => rfl); (case b4 => rfl); (case b5 => rw [setRow_other _ _ _ _ (by omega)]; exact hpw.out.2.1)))
        try rw [Exit.noGoto_ret]
        refine bodyPost_ret (v := .tuple #[.agg (W8 (contK s k)), .agg #[.int .i64 0, .int .i64 0]]) ?_ rfl ⟨?_, ?_⟩
        · refine res_two (fn := Try.f32) (p := 2) (u := 3) rfl _ _ w.heap.size (w.heap.size + 1) 24 50 (contK s k) 0 0 HLC.out ?_ ?_ ?_ ?_
          · rfl
          · rw [setRow_other _ _ _ _ (by omega)]; exact setRow_heap _ _ _ _ _ _ hpw.out.1
          · rfl
          · exact setRow_heap _ _ #[.int .i64 0, .int .i64 0] _ _ _ (by rw [setRow_other _ _ _ _ (by omega)]; exact hpw.out.2.1)
        · rw [pr_ok s h (by rw [HBD.out.1]; omega), HBD.out.2]
        · exact below_setRow (below_setRow hpw.out.2.2.2 (by omega) _) (by omega) _
end Go.Proofs.Ytbdhjiadomifeaa
