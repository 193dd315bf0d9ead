/- Helper facts for the statements of this seat; no statement itself. -/
import Derived.Test.YtgdcgmnfgbdiiaaPB
import Derived.Test.YtgdcgmnfgbdiiaaX
import Derived.Test.YtgdcgmnfgbdiiaaI
import Derived.Test.YtgdcgmnfgbdiiaaR
import Derived.Test.YtgdcgmnfgbdiiaaAP
import Derived.Test.YtgdcgmnfgbdiiaaComAt
import Derived.Deep.DeepCutAuto
import Derived.Outline
namespace Go.Proofs.Ytgdcgmnfgbdiiaa
open Go.RowKit
set_option linter.unusedSimpArgs false
set_option linter.unusedVariables false
set_option linter.unnecessarySimpa false

def m21 : Mo := ⟨[2], [1]⟩
theorem bC_cell {w : World} {g : Nat} {t : TypeId} {A : List Bool} (h : w.heap[g]? = some (.cells (bC A) t (0, 0))) (k : Nat) (hk : k < A.length) : w.cell? ⟨g, k, none⟩ = some (.bool (A.getD k false)) := setRow_cell h (bC_get? A k hk)
theorem bC_store {w : World} {g : Nat} {t : TypeId} {A : List Bool} (h : w.heap[g]? = some (.cells (bC A) t (0, 0))) (k : Nat) (b : Bool) : w.setCell ⟨g, k, none⟩ (.bool b) = w.setRow g (bC (A.set k b)) := by
  rw [setCell_eq_setRow w g k _ t (0, 0) _ h]
  simp [bC, List.map_set]
theorem take_getD (A : List Bool) (n k : Nat) (h : k < n) : (A.take n).getD k false = A.getD k false := by simp [List.getD, List.getElem?_take, h]
theorem take_set (A : List Bool) (n k : Nat) (b : Bool) : (A.take n).set k b = (A.set k b).take n := by rw [List.take_set]
theorem isIL {W : World} {g : Nat} {t : TypeId} (l : List Int) (hl : l.length ≤ 4294967296) (h : W.heap[g]? = some (.cells (l.map (Value.int .i64)).toArray t (0, 0))) : IsInts W (.slice (some ⟨g, 0, none⟩) l.length l.length) l :=
  ⟨_, _, _, rfl, rfl, hl, .inr ⟨g, 0, rfl, fun k hk => by rw [Nat.zero_add]; exact setRow_cell h (by simp [List.getD, hk])⟩⟩
/-- The two arrays of the loop, against the state. -/
def Arr (g : Nat) (t : St) (W : World) : Prop := t.Wf ∧ W.heap[g]? = some (.cells (bC (t.a.take 5)) 64 (0, 0)) ∧ W.heap[g + 1]? = some (.cells (bC (t.s.take 4)) 65 (0, 0))
def Made (w : World) (e : Ending) (w' : World) : Prop := ∃ va vp v l t, e = .returned (.tuple #[.agg #[va, vp], v]) ∧ IsM w' va vp m21 ∧ OwnSp w' w.heap.size v l ∧ Lead (st0 m21) l t ∧ l.length ≤ 60 ∧ Below w.heap.size w w'

section
variable {ops : Array Oper} {rest : List Oper} {o : Oper} {a : Act} {w : World} {Q : Exit → Act → World → Prop}
theorem st37 (hgd : o.guard = none) (x y : Operand) (ho : o.op = .store 37 x y) (g : Nat) (k p k' p' : Int) (ty : TypeId) (hx : a.eval x = .pointer (some ⟨g, 0, none⟩)) (hy : a.eval y = .agg #[.int .i64 k', .int .i64 p']) (hg : Hid (w.heap[g]? = some (.cells #[.int .i64 k, .int .i64 p] ty (0, 0))))
    (h : wpList Try.prog ops Q rest (a.put o.dst undef) (w.setRow g #[.int .i64 k', .int .i64 p'])) : wpList Try.prog ops Q (o :: rest) a w :=
  wpList_store_row hgd 37 x y ho g #[.int .i64 k', .int .i64 p'] hx hy ty #[.int .i64 k, .int .i64 p] hg.out (by kernel_rfl) rfl (by simp [Value.oneCell']) h
end
/-- What holds between the steps. -/
def Mid (gb : Nat) (W5 : World) (t : St) (v : Value) (l : List En) (W : World) : Prop := Arr gb t W ∧ Below gb W5 W ∧ OwnSp W W5.heap.size v l ∧ W5.heap.size ≤ W.heap.size
theorem Mid.keep {gb : Nat} {W5 W W' : World} {t : St} {v : Value} {l : List En} (h : Mid gb W5 t v l W) (hg : gb + 1 < W5.heap.size) (hb : Below W.heap.size W W') : Mid gb W5 t v l W' := by
  obtain ⟨⟨h1, h2, h3⟩, h4, h5, h6⟩ := h
  exact ⟨⟨h1, bkeep hb h2, bkeep hb h3⟩, h4.trans (hb.mono (by omega)), h5.keep hb, by have := hb.size; omega⟩
theorem OwnSp.row {W : World} {b gb : Nat} {v : Value} {l : List En} (h : OwnSp W b v l) (hb : gb < b) (cs : Array Value) : OwnSp (W.setRow gb cs) b v l := by
  obtain ⟨h1, h2 | ⟨g, cap, cur, hv, h3, hg, h4⟩⟩ := h
  · exact ⟨h1, .inl h2⟩
  · exact ⟨h1, .inr ⟨g, cap, cur, hv, h3, (setRow_other W gb g cs (by omega)).trans hg, h4⟩⟩
theorem Mid.setA {gb : Nat} {W5 W : World} {t : St} {v : Value} {l : List En} (h : Mid gb W5 t v l W) (hg : gb + 1 < W5.heap.size) (p : Nat) (b : Bool) : Mid gb W5 ⟨t.a.set p b, t.s⟩ v l (W.setCell ⟨gb, p, none⟩ (.bool b)) := by
  obtain ⟨⟨h1, h2, h3⟩, h4, h5, h6⟩ := h
  rw [bC_store h2]
  refine ⟨⟨⟨by simp [h1.1], h1.2⟩, ?_, (setRow_other _ _ _ _ (by omega)).trans h3⟩, below_setRow h4 (Nat.le_refl _) _, h5.row (by omega) _, by simpa using h6⟩
  rw [setRow_heap _ _ _ _ _ _ h2, take_set]
theorem Mid.setS {gb : Nat} {W5 W : World} {t : St} {v : Value} {l : List En} (h : Mid gb W5 t v l W) (hg : gb + 1 < W5.heap.size) (p : Nat) (b : Bool) : Mid gb W5 ⟨t.a, t.s.set p b⟩ v l (W.setCell ⟨gb + 1, p, none⟩ (.bool b)) := by
  obtain ⟨⟨h1, h2, h3⟩, h4, h5, h6⟩ := h
  rw [bC_store h3]
  refine ⟨⟨⟨h1.1, by simp [h1.2]⟩, (setRow_other _ _ _ _ (by omega)).trans h2, ?_⟩, below_setRow h4 (by omega) _, h5.row (by omega) _, by simpa using h6⟩
  rw [setRow_heap _ _ _ _ _ _ h3, take_set]
theorem Mid.cellA {gb : Nat} {W5 W : World} {t : St} {v : Value} {l : List En} (h : Mid gb W5 t v l W) (p : Nat) (hp : p < 5) : W.cell? ⟨gb, p, none⟩ = some (.bool (t.a.getD p false)) := by
  rw [bC_cell h.1.2.1 p (by rw [List.length_take, h.1.1.1]; omega), take_getD _ _ _ hp]
theorem Mid.cellS {gb : Nat} {W5 W : World} {t : St} {v : Value} {l : List En} (h : Mid gb W5 t v l W) (p : Nat) (hp : p < 4) : W.cell? ⟨gb + 1, p, none⟩ = some (.bool (t.s.getD p false)) := by
  rw [bC_cell h.1.2.2 p (by rw [List.length_take, h.1.1.2]; omega), take_getD _ _ _ hp]
theorem Mid.frA {gb : Nat} {W5 W : World} {t : St} {v : Value} {l : List En} (h : Mid gb W5 t v l W) (p : Nat) : W.frozen? ⟨gb, p, none⟩ = false ∧ W.frozen? ⟨gb + 1, p, none⟩ = false := ⟨fr h.1.2.1, fr h.1.2.2⟩
theorem Mid.grow {gb : Nat} {W5 W W' : World} {t : St} {v v' : Value} {l l' : List En} (h : Mid gb W5 t v l W) (hg : gb + 1 < W5.heap.size) (ho : OwnSp W' W5.heap.size v' l') (hb : Below W5.heap.size W W') : Mid gb W5 t v' l' W' := by
  obtain ⟨⟨h1, h2, h3⟩, h4, h5, h6⟩ := h
  exact ⟨⟨h1, (hb.block gb (by omega)).trans h2, (hb.block (gb + 1) (by omega)).trans h3⟩, h4.trans (hb.mono (by omega)), ho, by have := hb.size; omega⟩

set_option maxRecDepth 100000 in
set_option maxHeartbeats 4000000 in
theorem made_any (ad : Option Addr) (n cap : Nat) (w : World) (hn : n ≤ 9223372036854775807) (hl : SomeInts w ad n) : Calls Try.prog 9 #[.slice ad n cap] w (Made w) := by
  have HL := Lib.hid hl
  clear hl
  go_enter Try.func9, Try.ntmps9
  go_wp2_with fail
  obtain ⟨W5, hW5⟩ : ∃ x, x = (((((w.alloc (.cells #[.slice none 0 0, .slice none 0 0] 25)).alloc (.cells #[.int .i64 2] 3)).alloc (.cells #[.int .i64 1] 3)).alloc (.cells #[.slice (some ⟨w.heap.size + 1, 0, none⟩) 1 1, .slice (some ⟨w.heap.size + 1 + 1, 0, none⟩) 1 1] 25)).alloc (.cells #[.bool false, .bool false, .bool true, .bool false, .bool false] 64)).alloc (.cells #[.bool false, .bool true, .bool false, .bool false] 65) := ⟨_, rfl⟩
  obtain ⟨g, hg⟩ : ∃ x, x = w.heap.size := ⟨_, rfl⟩
  have R0 : Hid (W5.heap[g]? = some (.cells #[.slice none 0 0, .slice none 0 0] 25 (0, 0))) := by rw [hW5, hg]; simp only [heapA, World.size_alloc]; repeat (first | rfl | rw [if_pos (by omega)] | rw [if_neg (by omega)])
  have R1 : Hid (W5.heap[g + 1]? = some (.cells #[.int .i64 2] 3 (0, 0))) := by rw [hW5, hg]; simp only [heapA, World.size_alloc]; repeat (first | rfl | rw [if_pos (by omega)] | rw [if_neg (by omega)])
  have R2 : Hid (W5.heap[g + 1 + 1]? = some (.cells #[.int .i64 1] 3 (0, 0))) := by rw [hW5, hg]; simp only [heapA, World.size_alloc]; repeat (first | rfl | rw [if_pos (by omega)] | rw [if_neg (by omega)])
  have R3 : Hid (W5.heap[g + 1 + 1 + 1]? = some (.cells #[.slice (some ⟨g + 1, 0, none⟩) 1 1, .slice (some ⟨g + 1 + 1, 0, none⟩) 1 1] 25 (0, 0))) := by rw [hW5, hg]; simp only [heapA, World.size_alloc]; repeat (first | rfl | rw [if_pos (by omega)] | rw [if_neg (by omega)])
  have A0 : Hid (Arr (g + 1 + 1 + 1 + 1) (st0 m21) W5) := ⟨Wf_st0 _, by rw [hW5, hg, show bC ((st0 m21).a.take 5) = #[.bool false, .bool false, .bool true, .bool false, .bool false] from rfl]; simp only [heapA, World.size_alloc]; repeat (first | rfl | rw [if_pos (by omega)] | rw [if_neg (by omega)]), by rw [hW5, hg, show bC ((st0 m21).s.take 4) = #[.bool false, .bool true, .bool false, .bool false] from rfl]; simp only [heapA, World.size_alloc]; repeat (first | rfl | rw [if_pos (by omega)] | rw [if_neg (by omega)])⟩
  have B0 : Hid (Below g w W5) := by rw [hW5, hg]; exact balloc (balloc (balloc ((((Below.refl _ _).alloc (Nat.le_refl _) _).alloc (by simp only [World.size_alloc] <;> omega) _).alloc (by simp only [World.size_alloc] <;> omega) _) _) _) _
  have hs5 : W5.heap.size = g + 1 + 1 + 1 + 1 + 1 + 1 := by rw [hW5, hg]; simp only [World.size_alloc]
  rw [← hW5, ← hg]
  have hgw : w.heap.size = g := hg.symm
  clear hW5 hg
  go_loopw [7, 8] (fun v i wr => ∃ (k : Nat) (l : List En) (t : St), k ≤ 60 ∧ i = .int .i64 k ∧ Hid (l.length = k) ∧ Hid (Lead (st0 m21) l t) ∧ Hid (Mid (g + 1 + 1 + 1 + 1) W5 t v l wr)) (fun _ i _ => 60 - (intOf i).toNat)
  case atStart => exact ⟨0, [], st0 m21, by omega, rfl, rfl, Lead.nil _, A0.out, Below.refl _ _, OwnSp.nil _ _, Nat.le_refl _⟩
  case round =>
    obtain ⟨k, l, t, hk, rfl, hlk, hld, hmd⟩ := hrel
    clear A0
    by_cases hlt : k < 60 ∧ k < n
    · have i0 : (0 : Int) ≤ (k : Int) := by omega
      have i1 : (k : Int) < 60 := by omega
      have i2 : (k : Int) < (n : Int) := by omega
      have BW : Hid (Below w.heap.size w wr) := by rw [hgw]; exact B0.out.trans (hmd.out.2.1.mono (by omega))
      rcases HL.out.keep BW.out with h | ⟨bb, off, zs, rfl, hz, hc⟩
      · omega
      have c0 := hc k hlt.2
      generalize zs.getD k 0 = x at *
      clear hc hz BW
      go_wp2_with fail
      refine (mod_any x 1048576 _ (by omega) (by omega)).mono ?_
      rintro e w2 ⟨rfl, rfl⟩
      have m0 := Int.emod_nonneg x (show (1048576 : Int) ≠ 0 by omega)
      have m1 := Int.emod_lt_of_pos x (show (0 : Int) < 1048576 by omega)
      generalize x % 1048576 = y at *
      clear c0
      go_upto_region 14 with fail
      have hr0 := Int.emod_nonneg y (show (8 : Int) ≠ 0 by omega)
      have hr8 := Int.emod_lt_of_pos y (show (0 : Int) < 8 by omega)
      have hq0 := Int.emod_nonneg (y / 8) (show (4 : Int) ≠ 0 by omega)
      have hq4 := Int.emod_lt_of_pos (y / 8) (show (0 : Int) < 4 by omega)
      generalize y % 8 = r at *
      generalize y / 8 % 4 = q at *
      obtain ⟨p, rfl⟩ := Int.eq_ofNat_of_zero_le hq0
      obtain ⟨p1, hp1⟩ : ∃ p1 : Nat, (1 + (p : Int)) = p1 := ⟨p + 1, by omega⟩
      rw [hp1]
      have hlk2 := hlk.out
      have hm4 := hmd.out.2.2.2
      clear hq0
      have hrr : r = 0 ∨ r = 1 ∨ r = 2 ∨ r = 3 ∨ r = 4 ∨ (5 ≤ r ∧ r ≤ 7) := by omega
      rcases hrr with rfl | rfl | rfl | rfl | rfl | ⟨r5, r7⟩
      · cases hbt : t.a.getD p1 false with
        | false =>
          have cb := hmd.out.cellA p1 (by omega)
          rw [hbt] at cb
          go_wp2_with fail
          refine (entry_any 2 p1 _).mono ?_
          rintro e w1 ⟨rfl, rfl⟩
          have B1 : Hid (Below wr.heap.size wr ((wr.alloc (.cells #[.int .i64 2, .int .i64 p1] 37)).alloc (.cells #[.int .i64 2, .int .i64 p1] 37))) := (((Below.refl _ _).alloc (Nat.le_refl _) _).alloc (by simp only [World.size_alloc] <;> omega) _)
          have X1 : Hid (((wr.alloc (.cells #[.int .i64 2, .int .i64 p1] 37)).alloc (.cells #[.int .i64 2, .int .i64 p1] 37)).heap[wr.heap.size + 1]? = some (.cells #[.int .i64 2, .int .i64 p1] 37 (0, 0))) := h2_1 _ _ _
          go_upto_region 16 with fail
          generalize (wr.alloc (.cells #[.int .i64 2, .int .i64 p1] 37)).alloc (.cells #[.int .i64 2, .int .i64 p1] 37) = w2 at *
          obtain ⟨h, hh⟩ : ∃ h, h = wr.heap.size + 1 := ⟨_, rfl⟩
          rw [← hh] at X1 ⊢
          have hh1 : wr.heap.size ≤ h := by omega
          clear cb hh
          have cb := (hmd.out.keep (by omega) B1.out).cellA p1 (by omega)
          rw [hbt] at cb
          obtain ⟨w4, hw4⟩ : ∃ x, x = w2 := ⟨_, rfl⟩
          rw [← hw4] at cb B1 X1 ⊢
          have B4 := Lib.hid B1.out
          have X4 := Lib.hid X1.out
          clear hw4 B1 X1
          have f4 := ((hmd.out.keep (by omega) B4.out).frA p1).1
          go_upto_region 19 with fail
          have N5 : Hid (Mid (g + 1 + 1 + 1 + 1) W5 ⟨t.a.set p1 true, t.s⟩ u7 l (w4.setCell ⟨g + 1 + 1 + 1 + 1, p1, none⟩ (.bool true))) := (hmd.out.keep (by omega) B4.out).setA (by omega) p1 true
          have X5 : Hid ((w4.setCell ⟨g + 1 + 1 + 1 + 1, p1, none⟩ (.bool true)).heap[h]? = some (.cells #[.int .i64 2, .int .i64 p1] 37 (0, 0))) := by
            rw [bC_store (hmd.out.keep (by omega) B4.out).1.2.1]
            exact (setRow_other _ _ _ _ (by omega)).trans X4.out
          have HLD := Lib.hid (lead_block hld.out p1 (by omega) (by omega) hbt)
          generalize w4.setCell ⟨g + 1 + 1 + 1 + 1, p1, none⟩ (.bool true) = w5 at *
          clear cb f4 B4 X4 hmd hbt hld
          obtain ⟨d0, d1⟩ := c2 X5.out
          have O5 := Lib.hid N5.out.2.2.1
          have hm5 := N5.out.2.2.2
          go_wp2_with (((with_reducible refine append_sp ?b1 (.tmp 63) (.tmp 65) ?b2 W5.heap.size u7 l 2 p1 37 w5.heap.size ?b3 ?b4 ?b5 O5 ?b6 ?b7 ?_); (case b1 => rfl); (case b2 => rfl); (case b3 => rfl); (case b4 => rfl); (case b5 => rfl); (case b6 => omega); (case b7 => omega)); intro v6 w6 ho6 hb6 _)
          go_roundw
          case rel => exact ⟨k + 1, l ++ [(2, (p1 : Int))], _, by omega, by go_num, by rw [List.length_append, hlk2]; rfl, HLD, N5.out.grow (by omega) ho6.out hb6.out⟩
          case measure => simp [intOf]; omega
        | true =>
          have cb := hmd.out.cellA p1 (by omega)
          rw [hbt] at cb
          go_wp2_with fail
          refine (entry_any 2 p1 _).mono ?_
          rintro e w1 ⟨rfl, rfl⟩
          have B1 : Hid (Below wr.heap.size wr ((wr.alloc (.cells #[.int .i64 2, .int .i64 p1] 37)).alloc (.cells #[.int .i64 2, .int .i64 p1] 37))) := (((Below.refl _ _).alloc (Nat.le_refl _) _).alloc (by simp only [World.size_alloc] <;> omega) _)
          have X1 : Hid (((wr.alloc (.cells #[.int .i64 2, .int .i64 p1] 37)).alloc (.cells #[.int .i64 2, .int .i64 p1] 37)).heap[wr.heap.size + 1]? = some (.cells #[.int .i64 2, .int .i64 p1] 37 (0, 0))) := h2_1 _ _ _
          go_upto_region 16 with fail
          generalize (wr.alloc (.cells #[.int .i64 2, .int .i64 p1] 37)).alloc (.cells #[.int .i64 2, .int .i64 p1] 37) = w2 at *
          obtain ⟨h, hh⟩ : ∃ h, h = wr.heap.size + 1 := ⟨_, rfl⟩
          rw [← hh] at X1 ⊢
          have hh1 : wr.heap.size ≤ h := by omega
          clear cb hh
          have cb := (hmd.out.keep (by omega) B1.out).cellA p1 (by omega)
          rw [hbt] at cb
          go_wp2_with fail
          refine (entry_any 3 p1 _).mono ?_
          rintro e w3 ⟨rfl, rfl⟩
          have B3 : Hid (Below wr.heap.size wr (w2.alloc (.cells #[.int .i64 3, .int .i64 p1] 37))) := balloc B1.out _
          have X3 : Hid ((w2.alloc (.cells #[.int .i64 3, .int .i64 p1] 37)).heap[h]? = some (.cells #[.int .i64 2, .int .i64 p1] 37 (0, 0))) := hold1 X1.out _
          generalize w2.alloc (.cells #[.int .i64 3, .int .i64 p1] 37) = w3 at *
          clear B1 X1
          go_upto_region 18 with (((with_reducible refine st37 ?a1 (.tmp 12) (.tmp 56) ?a2 h 2 p1 3 p1 37 ?a3 ?a4 X3 ?_); (case a1 => rfl); (case a2 => rfl); (case a3 => rfl); (case a4 => rfl)))
          have B4 : Hid (Below wr.heap.size wr (w3.setRow h #[.int .i64 3, .int .i64 p1])) := below_setRow B3.out hh1 _
          have X4 : Hid ((w3.setRow h #[.int .i64 3, .int .i64 p1]).heap[h]? = some (.cells #[.int .i64 3, .int .i64 p1] 37 (0, 0))) := setRow_heap _ _ _ _ _ _ X3.out
          generalize w3.setRow h #[.int .i64 3, .int .i64 p1] = w4 at *
          clear cb B3 X3
          have cb := (hmd.out.keep (by omega) B4.out).cellA p1 (by omega)
          rw [hbt] at cb
          have f4 := ((hmd.out.keep (by omega) B4.out).frA p1).1
          go_upto_region 19 with fail
          have N5 : Hid (Mid (g + 1 + 1 + 1 + 1) W5 ⟨t.a.set p1 false, t.s⟩ u7 l (w4.setCell ⟨g + 1 + 1 + 1 + 1, p1, none⟩ (.bool false))) := (hmd.out.keep (by omega) B4.out).setA (by omega) p1 false
          have X5 : Hid ((w4.setCell ⟨g + 1 + 1 + 1 + 1, p1, none⟩ (.bool false)).heap[h]? = some (.cells #[.int .i64 3, .int .i64 p1] 37 (0, 0))) := by
            rw [bC_store (hmd.out.keep (by omega) B4.out).1.2.1]
            exact (setRow_other _ _ _ _ (by omega)).trans X4.out
          have HLD := Lib.hid (lead_unblock hld.out p1 (by omega) (by omega) hbt)
          generalize w4.setCell ⟨g + 1 + 1 + 1 + 1, p1, none⟩ (.bool false) = w5 at *
          clear cb f4 B4 X4 hmd hbt hld
          obtain ⟨d0, d1⟩ := c2 X5.out
          have O5 := Lib.hid N5.out.2.2.1
          have hm5 := N5.out.2.2.2
          go_wp2_with (((with_reducible refine append_sp ?b1 (.tmp 63) (.tmp 65) ?b2 W5.heap.size u7 l 3 p1 37 w5.heap.size ?b3 ?b4 ?b5 O5 ?b6 ?b7 ?_); (case b1 => rfl); (case b2 => rfl); (case b3 => rfl); (case b4 => rfl); (case b5 => rfl); (case b6 => omega); (case b7 => omega)); intro v6 w6 ho6 hb6 _)
          go_roundw
          case rel => exact ⟨k + 1, l ++ [(3, (p1 : Int))], _, by omega, by go_num, by rw [List.length_append, hlk2]; rfl, HLD, N5.out.grow (by omega) ho6.out hb6.out⟩
          case measure => simp [intOf]; omega
      · cases hbt : t.s.getD p false with
        | false =>
          have cb := hmd.out.cellS p (by omega)
          rw [hbt] at cb
          go_wp2_with fail
          refine (entry_any 4 p _).mono ?_
          rintro e w1 ⟨rfl, rfl⟩
          have B1 : Hid (Below wr.heap.size wr ((wr.alloc (.cells #[.int .i64 4, .int .i64 p] 37)).alloc (.cells #[.int .i64 4, .int .i64 p] 37))) := (((Below.refl _ _).alloc (Nat.le_refl _) _).alloc (by simp only [World.size_alloc] <;> omega) _)
          have X1 : Hid (((wr.alloc (.cells #[.int .i64 4, .int .i64 p] 37)).alloc (.cells #[.int .i64 4, .int .i64 p] 37)).heap[wr.heap.size + 1]? = some (.cells #[.int .i64 4, .int .i64 p] 37 (0, 0))) := h2_1 _ _ _
          go_upto_region 23 with fail
          generalize (wr.alloc (.cells #[.int .i64 4, .int .i64 p] 37)).alloc (.cells #[.int .i64 4, .int .i64 p] 37) = w2 at *
          obtain ⟨h, hh⟩ : ∃ h, h = wr.heap.size + 1 := ⟨_, rfl⟩
          rw [← hh] at X1 ⊢
          have hh1 : wr.heap.size ≤ h := by omega
          clear cb hh
          have cb := (hmd.out.keep (by omega) B1.out).cellS p (by omega)
          rw [hbt] at cb
          obtain ⟨w4, hw4⟩ : ∃ x, x = w2 := ⟨_, rfl⟩
          rw [← hw4] at cb B1 X1 ⊢
          have B4 := Lib.hid B1.out
          have X4 := Lib.hid X1.out
          clear hw4 B1 X1
          have f4 := ((hmd.out.keep (by omega) B4.out).frA p).2
          go_upto_region 26 with fail
          have N5 : Hid (Mid (g + 1 + 1 + 1 + 1) W5 ⟨t.a, t.s.set p true⟩ u7 l (w4.setCell ⟨g + 1 + 1 + 1 + 1 + 1, p, none⟩ (.bool true))) := (hmd.out.keep (by omega) B4.out).setS (by omega) p true
          have X5 : Hid ((w4.setCell ⟨g + 1 + 1 + 1 + 1 + 1, p, none⟩ (.bool true)).heap[h]? = some (.cells #[.int .i64 4, .int .i64 p] 37 (0, 0))) := by
            rw [bC_store (hmd.out.keep (by omega) B4.out).1.2.2]
            exact (setRow_other _ _ _ _ (by omega)).trans X4.out
          have HLD := Lib.hid (lead_submit hld.out p (by omega) hbt)
          generalize w4.setCell ⟨g + 1 + 1 + 1 + 1 + 1, p, none⟩ (.bool true) = w5 at *
          clear cb f4 B4 X4 hmd hbt hld
          obtain ⟨d0, d1⟩ := c2 X5.out
          have O5 := Lib.hid N5.out.2.2.1
          have hm5 := N5.out.2.2.2
          go_wp2_with (((with_reducible refine append_sp ?b1 (.tmp 83) (.tmp 85) ?b2 W5.heap.size u7 l 4 p 37 w5.heap.size ?b3 ?b4 ?b5 O5 ?b6 ?b7 ?_); (case b1 => rfl); (case b2 => rfl); (case b3 => rfl); (case b4 => rfl); (case b5 => rfl); (case b6 => omega); (case b7 => omega)); intro v6 w6 ho6 hb6 _)
          go_roundw
          case rel => exact ⟨k + 1, l ++ [(4, (p : Int))], _, by omega, by go_num, by rw [List.length_append, hlk2]; rfl, HLD, N5.out.grow (by omega) ho6.out hb6.out⟩
          case measure => simp [intOf]; omega
        | true =>
          have cb := hmd.out.cellS p (by omega)
          rw [hbt] at cb
          go_wp2_with fail
          refine (entry_any 4 p _).mono ?_
          rintro e w1 ⟨rfl, rfl⟩
          have B1 : Hid (Below wr.heap.size wr ((wr.alloc (.cells #[.int .i64 4, .int .i64 p] 37)).alloc (.cells #[.int .i64 4, .int .i64 p] 37))) := (((Below.refl _ _).alloc (Nat.le_refl _) _).alloc (by simp only [World.size_alloc] <;> omega) _)
          have X1 : Hid (((wr.alloc (.cells #[.int .i64 4, .int .i64 p] 37)).alloc (.cells #[.int .i64 4, .int .i64 p] 37)).heap[wr.heap.size + 1]? = some (.cells #[.int .i64 4, .int .i64 p] 37 (0, 0))) := h2_1 _ _ _
          go_upto_region 23 with fail
          generalize (wr.alloc (.cells #[.int .i64 4, .int .i64 p] 37)).alloc (.cells #[.int .i64 4, .int .i64 p] 37) = w2 at *
          obtain ⟨h, hh⟩ : ∃ h, h = wr.heap.size + 1 := ⟨_, rfl⟩
          rw [← hh] at X1 ⊢
          have hh1 : wr.heap.size ≤ h := by omega
          clear cb hh
          have cb := (hmd.out.keep (by omega) B1.out).cellS p (by omega)
          rw [hbt] at cb
          go_wp2_with fail
          refine (entry_any 5 p _).mono ?_
          rintro e w3 ⟨rfl, rfl⟩
          have B3 : Hid (Below wr.heap.size wr (w2.alloc (.cells #[.int .i64 5, .int .i64 p] 37))) := balloc B1.out _
          have X3 : Hid ((w2.alloc (.cells #[.int .i64 5, .int .i64 p] 37)).heap[h]? = some (.cells #[.int .i64 4, .int .i64 p] 37 (0, 0))) := hold1 X1.out _
          generalize w2.alloc (.cells #[.int .i64 5, .int .i64 p] 37) = w3 at *
          clear B1 X1
          go_upto_region 25 with (((with_reducible refine st37 ?a1 (.tmp 13) (.tmp 76) ?a2 h 4 p 5 p 37 ?a3 ?a4 X3 ?_); (case a1 => rfl); (case a2 => rfl); (case a3 => rfl); (case a4 => rfl)))
          have B4 : Hid (Below wr.heap.size wr (w3.setRow h #[.int .i64 5, .int .i64 p])) := below_setRow B3.out hh1 _
          have X4 : Hid ((w3.setRow h #[.int .i64 5, .int .i64 p]).heap[h]? = some (.cells #[.int .i64 5, .int .i64 p] 37 (0, 0))) := setRow_heap _ _ _ _ _ _ X3.out
          generalize w3.setRow h #[.int .i64 5, .int .i64 p] = w4 at *
          clear cb B3 X3
          have cb := (hmd.out.keep (by omega) B4.out).cellS p (by omega)
          rw [hbt] at cb
          have f4 := ((hmd.out.keep (by omega) B4.out).frA p).2
          go_upto_region 26 with fail
          have N5 : Hid (Mid (g + 1 + 1 + 1 + 1) W5 ⟨t.a, t.s.set p false⟩ u7 l (w4.setCell ⟨g + 1 + 1 + 1 + 1 + 1, p, none⟩ (.bool false))) := (hmd.out.keep (by omega) B4.out).setS (by omega) p false
          have X5 : Hid ((w4.setCell ⟨g + 1 + 1 + 1 + 1 + 1, p, none⟩ (.bool false)).heap[h]? = some (.cells #[.int .i64 5, .int .i64 p] 37 (0, 0))) := by
            rw [bC_store (hmd.out.keep (by omega) B4.out).1.2.2]
            exact (setRow_other _ _ _ _ (by omega)).trans X4.out
          have HLD := Lib.hid (lead_complete hld.out p (by omega) hbt)
          generalize w4.setCell ⟨g + 1 + 1 + 1 + 1 + 1, p, none⟩ (.bool false) = w5 at *
          clear cb f4 B4 X4 hmd hbt hld
          obtain ⟨d0, d1⟩ := c2 X5.out
          have O5 := Lib.hid N5.out.2.2.1
          have hm5 := N5.out.2.2.2
          go_wp2_with (((with_reducible refine append_sp ?b1 (.tmp 83) (.tmp 85) ?b2 W5.heap.size u7 l 5 p 37 w5.heap.size ?b3 ?b4 ?b5 O5 ?b6 ?b7 ?_); (case b1 => rfl); (case b2 => rfl); (case b3 => rfl); (case b4 => rfl); (case b5 => rfl); (case b6 => omega); (case b7 => omega)); intro v6 w6 ho6 hb6 _)
          go_roundw
          case rel => exact ⟨k + 1, l ++ [(5, (p : Int))], _, by omega, by go_num, by rw [List.length_append, hlk2]; rfl, HLD, N5.out.grow (by omega) ho6.out hb6.out⟩
          case measure => simp [intOf]; omega
      · cases hbt : t.s.getD p false with
        | false =>
          have cb := hmd.out.cellS p (by omega)
          rw [hbt] at cb
          go_wp2_with fail
          refine (entry_any 4 p _).mono ?_
          rintro e w1 ⟨rfl, rfl⟩
          have B1 : Hid (Below wr.heap.size wr ((wr.alloc (.cells #[.int .i64 4, .int .i64 p] 37)).alloc (.cells #[.int .i64 4, .int .i64 p] 37))) := (((Below.refl _ _).alloc (Nat.le_refl _) _).alloc (by simp only [World.size_alloc] <;> omega) _)
          have X1 : Hid (((wr.alloc (.cells #[.int .i64 4, .int .i64 p] 37)).alloc (.cells #[.int .i64 4, .int .i64 p] 37)).heap[wr.heap.size + 1]? = some (.cells #[.int .i64 4, .int .i64 p] 37 (0, 0))) := h2_1 _ _ _
          go_upto_region 23 with fail
          generalize (wr.alloc (.cells #[.int .i64 4, .int .i64 p] 37)).alloc (.cells #[.int .i64 4, .int .i64 p] 37) = w2 at *
          obtain ⟨h, hh⟩ : ∃ h, h = wr.heap.size + 1 := ⟨_, rfl⟩
          rw [← hh] at X1 ⊢
          have hh1 : wr.heap.size ≤ h := by omega
          clear cb hh
          have cb := (hmd.out.keep (by omega) B1.out).cellS p (by omega)
          rw [hbt] at cb
          obtain ⟨w4, hw4⟩ : ∃ x, x = w2 := ⟨_, rfl⟩
          rw [← hw4] at cb B1 X1 ⊢
          have B4 := Lib.hid B1.out
          have X4 := Lib.hid X1.out
          clear hw4 B1 X1
          have f4 := ((hmd.out.keep (by omega) B4.out).frA p).2
          go_upto_region 26 with fail
          have N5 : Hid (Mid (g + 1 + 1 + 1 + 1) W5 ⟨t.a, t.s.set p true⟩ u7 l (w4.setCell ⟨g + 1 + 1 + 1 + 1 + 1, p, none⟩ (.bool true))) := (hmd.out.keep (by omega) B4.out).setS (by omega) p true
          have X5 : Hid ((w4.setCell ⟨g + 1 + 1 + 1 + 1 + 1, p, none⟩ (.bool true)).heap[h]? = some (.cells #[.int .i64 4, .int .i64 p] 37 (0, 0))) := by
            rw [bC_store (hmd.out.keep (by omega) B4.out).1.2.2]
            exact (setRow_other _ _ _ _ (by omega)).trans X4.out
          have HLD := Lib.hid (lead_submit hld.out p (by omega) hbt)
          generalize w4.setCell ⟨g + 1 + 1 + 1 + 1 + 1, p, none⟩ (.bool true) = w5 at *
          clear cb f4 B4 X4 hmd hbt hld
          obtain ⟨d0, d1⟩ := c2 X5.out
          have O5 := Lib.hid N5.out.2.2.1
          have hm5 := N5.out.2.2.2
          go_wp2_with (((with_reducible refine append_sp ?b1 (.tmp 83) (.tmp 85) ?b2 W5.heap.size u7 l 4 p 37 w5.heap.size ?b3 ?b4 ?b5 O5 ?b6 ?b7 ?_); (case b1 => rfl); (case b2 => rfl); (case b3 => rfl); (case b4 => rfl); (case b5 => rfl); (case b6 => omega); (case b7 => omega)); intro v6 w6 ho6 hb6 _)
          go_roundw
          case rel => exact ⟨k + 1, l ++ [(4, (p : Int))], _, by omega, by go_num, by rw [List.length_append, hlk2]; rfl, HLD, N5.out.grow (by omega) ho6.out hb6.out⟩
          case measure => simp [intOf]; omega
        | true =>
          have cb := hmd.out.cellS p (by omega)
          rw [hbt] at cb
          go_wp2_with fail
          refine (entry_any 4 p _).mono ?_
          rintro e w1 ⟨rfl, rfl⟩
          have B1 : Hid (Below wr.heap.size wr ((wr.alloc (.cells #[.int .i64 4, .int .i64 p] 37)).alloc (.cells #[.int .i64 4, .int .i64 p] 37))) := (((Below.refl _ _).alloc (Nat.le_refl _) _).alloc (by simp only [World.size_alloc] <;> omega) _)
          have X1 : Hid (((wr.alloc (.cells #[.int .i64 4, .int .i64 p] 37)).alloc (.cells #[.int .i64 4, .int .i64 p] 37)).heap[wr.heap.size + 1]? = some (.cells #[.int .i64 4, .int .i64 p] 37 (0, 0))) := h2_1 _ _ _
          go_upto_region 23 with fail
          generalize (wr.alloc (.cells #[.int .i64 4, .int .i64 p] 37)).alloc (.cells #[.int .i64 4, .int .i64 p] 37) = w2 at *
          obtain ⟨h, hh⟩ : ∃ h, h = wr.heap.size + 1 := ⟨_, rfl⟩
          rw [← hh] at X1 ⊢
          have hh1 : wr.heap.size ≤ h := by omega
          clear cb hh
          have cb := (hmd.out.keep (by omega) B1.out).cellS p (by omega)
          rw [hbt] at cb
          go_wp2_with fail
          refine (entry_any 5 p _).mono ?_
          rintro e w3 ⟨rfl, rfl⟩
          have B3 : Hid (Below wr.heap.size wr (w2.alloc (.cells #[.int .i64 5, .int .i64 p] 37))) := balloc B1.out _
          have X3 : Hid ((w2.alloc (.cells #[.int .i64 5, .int .i64 p] 37)).heap[h]? = some (.cells #[.int .i64 4, .int .i64 p] 37 (0, 0))) := hold1 X1.out _
          generalize w2.alloc (.cells #[.int .i64 5, .int .i64 p] 37) = w3 at *
          clear B1 X1
          go_upto_region 25 with (((with_reducible refine st37 ?a1 (.tmp 13) (.tmp 76) ?a2 h 4 p 5 p 37 ?a3 ?a4 X3 ?_); (case a1 => rfl); (case a2 => rfl); (case a3 => rfl); (case a4 => rfl)))
          have B4 : Hid (Below wr.heap.size wr (w3.setRow h #[.int .i64 5, .int .i64 p])) := below_setRow B3.out hh1 _
          have X4 : Hid ((w3.setRow h #[.int .i64 5, .int .i64 p]).heap[h]? = some (.cells #[.int .i64 5, .int .i64 p] 37 (0, 0))) := setRow_heap _ _ _ _ _ _ X3.out
          generalize w3.setRow h #[.int .i64 5, .int .i64 p] = w4 at *
          clear cb B3 X3
          have cb := (hmd.out.keep (by omega) B4.out).cellS p (by omega)
          rw [hbt] at cb
          have f4 := ((hmd.out.keep (by omega) B4.out).frA p).2
          go_upto_region 26 with fail
          have N5 : Hid (Mid (g + 1 + 1 + 1 + 1) W5 ⟨t.a, t.s.set p false⟩ u7 l (w4.setCell ⟨g + 1 + 1 + 1 + 1 + 1, p, none⟩ (.bool false))) := (hmd.out.keep (by omega) B4.out).setS (by omega) p false
          have X5 : Hid ((w4.setCell ⟨g + 1 + 1 + 1 + 1 + 1, p, none⟩ (.bool false)).heap[h]? = some (.cells #[.int .i64 5, .int .i64 p] 37 (0, 0))) := by
            rw [bC_store (hmd.out.keep (by omega) B4.out).1.2.2]
            exact (setRow_other _ _ _ _ (by omega)).trans X4.out
          have HLD := Lib.hid (lead_complete hld.out p (by omega) hbt)
          generalize w4.setCell ⟨g + 1 + 1 + 1 + 1 + 1, p, none⟩ (.bool false) = w5 at *
          clear cb f4 B4 X4 hmd hbt hld
          obtain ⟨d0, d1⟩ := c2 X5.out
          have O5 := Lib.hid N5.out.2.2.1
          have hm5 := N5.out.2.2.2
          go_wp2_with (((with_reducible refine append_sp ?b1 (.tmp 83) (.tmp 85) ?b2 W5.heap.size u7 l 5 p 37 w5.heap.size ?b3 ?b4 ?b5 O5 ?b6 ?b7 ?_); (case b1 => rfl); (case b2 => rfl); (case b3 => rfl); (case b4 => rfl); (case b5 => rfl); (case b6 => omega); (case b7 => omega)); intro v6 w6 ho6 hb6 _)
          go_roundw
          case rel => exact ⟨k + 1, l ++ [(5, (p : Int))], _, by omega, by go_num, by rw [List.length_append, hlk2]; rfl, HLD, N5.out.grow (by omega) ho6.out hb6.out⟩
          case measure => simp [intOf]; omega
      · have hqq : (0 : Int) ≤ 0 := by omega
        go_wp2_with fail
        refine (entry_any 1 0 _).mono ?_
        rintro e w1 ⟨rfl, rfl⟩
        have N5 : Hid (Mid (g + 1 + 1 + 1 + 1) W5 t u7 l (wr.alloc (.cells #[.int .i64 1, .int .i64 0] 37))) := hmd.out.keep (by omega) ((Below.refl _ _).alloc (Nat.le_refl _) _)
        have HLD := Lib.hid (lead_pick hld.out 0 (by omega) (by omega))
        have hz : wr.heap.size + 1 = (wr.alloc (.cells #[.int .i64 1, .int .i64 0] 37)).heap.size := by simp only [World.size_alloc]
        generalize wr.alloc (.cells #[.int .i64 1, .int .i64 0] 37) = w5 at *
        have O5 := Lib.hid N5.out.2.2.1
        have hm5 := N5.out.2.2.2
        clear hmd hld
        go_wp2_with (((with_reducible refine append_sp ?b1 (.tmp 90) (.tmp 92) ?b2 W5.heap.size u7 l 1 0 37 w5.heap.size ?b3 ?b4 ?b5 O5 ?b6 ?b7 ?_); (case b1 => rfl); (case b2 => rfl); (case b3 => rfl); (case b4 => rfl); (case b5 => rfl); (case b6 => omega); (case b7 => omega)); intro v6 w6 ho6 hb6 _)
        go_roundw
        case rel => exact ⟨k + 1, l ++ [(1, (0 : Int))], t, by omega, by go_num, by rw [List.length_append, hlk2]; rfl, HLD, N5.out.grow (by omega) ho6.out hb6.out⟩
        case measure => simp [intOf]; omega
      · have hqq : (0 : Int) ≤ 0 := by omega
        go_wp2_with fail
        refine (entry_any 1 0 _).mono ?_
        rintro e w1 ⟨rfl, rfl⟩
        have N5 : Hid (Mid (g + 1 + 1 + 1 + 1) W5 t u7 l (wr.alloc (.cells #[.int .i64 1, .int .i64 0] 37))) := hmd.out.keep (by omega) ((Below.refl _ _).alloc (Nat.le_refl _) _)
        have HLD := Lib.hid (lead_pick hld.out 0 (by omega) (by omega))
        have hz : wr.heap.size + 1 = (wr.alloc (.cells #[.int .i64 1, .int .i64 0] 37)).heap.size := by simp only [World.size_alloc]
        generalize wr.alloc (.cells #[.int .i64 1, .int .i64 0] 37) = w5 at *
        have O5 := Lib.hid N5.out.2.2.1
        have hm5 := N5.out.2.2.2
        clear hmd hld
        go_wp2_with (((with_reducible refine append_sp ?b1 (.tmp 90) (.tmp 92) ?b2 W5.heap.size u7 l 1 0 37 w5.heap.size ?b3 ?b4 ?b5 O5 ?b6 ?b7 ?_); (case b1 => rfl); (case b2 => rfl); (case b3 => rfl); (case b4 => rfl); (case b5 => rfl); (case b6 => omega); (case b7 => omega)); intro v6 w6 ho6 hb6 _)
        go_roundw
        case rel => exact ⟨k + 1, l ++ [(1, (0 : Int))], t, by omega, by go_num, by rw [List.length_append, hlk2]; rfl, HLD, N5.out.grow (by omega) ho6.out hb6.out⟩
        case measure => simp [intOf]; omega
      · have n0 : (r == 0) = false := by simp; omega
        have n1 : (r == 1) = false := by simp; omega
        have n2 : (r == 2) = false := by simp; omega
        have n3 : (r == 3) = false := by simp; omega
        have n4 : (r == 4) = false := by simp; omega
        go_wp2_with fail
        refine (entry_any 1 p1 _).mono ?_
        rintro e w1 ⟨rfl, rfl⟩
        have N5 : Hid (Mid (g + 1 + 1 + 1 + 1) W5 t u7 l (wr.alloc (.cells #[.int .i64 1, .int .i64 p1] 37))) := hmd.out.keep (by omega) ((Below.refl _ _).alloc (Nat.le_refl _) _)
        have HLD := Lib.hid (lead_pick hld.out p1 (by omega) (by omega))
        have hz : wr.heap.size + 1 = (wr.alloc (.cells #[.int .i64 1, .int .i64 p1] 37)).heap.size := by simp only [World.size_alloc]
        generalize wr.alloc (.cells #[.int .i64 1, .int .i64 p1] 37) = w5 at *
        have O5 := Lib.hid N5.out.2.2.1
        have hm5 := N5.out.2.2.2
        clear hmd hld
        go_wp2_with (((with_reducible refine append_sp ?b1 (.tmp 43) (.tmp 46) ?b2 W5.heap.size u7 l 1 p1 37 w5.heap.size ?b3 ?b4 ?b5 O5 ?b6 ?b7 ?_); (case b1 => rfl); (case b2 => rfl); (case b3 => rfl); (case b4 => rfl); (case b5 => rfl); (case b6 => omega); (case b7 => omega)); intro v6 w6 ho6 hb6 _)
        go_roundw
        case rel => exact ⟨k + 1, l ++ [(1, (p1 : Int))], t, by omega, by go_num, by rw [List.length_append, hlk2]; rfl, HLD, N5.out.grow (by omega) ho6.out hb6.out⟩
        case measure => simp [intOf]; omega
    · have i0 : (0 : Int) ≤ (k : Int) := by omega
      have he : (n : Int) ≤ (k : Int) ∨ ((k : Int) < (n : Int) ∧ (60 : Int) ≤ (k : Int)) := by omega
      obtain ⟨⟨-, -, -⟩, hb, ho, hm4⟩ := hmd.out
      have e0 := Lib.hid ((hb.block g (by omega)).trans R0.out)
      have e1 := Lib.hid ((hb.block (g + 1) (by omega)).trans R1.out)
      have e2 := Lib.hid ((hb.block (g + 1 + 1) (by omega)).trans R2.out)
      have e3 := Lib.hid ((hb.block (g + 1 + 1 + 1) (by omega)).trans R3.out)
      have HB : Hid (Below w.heap.size w wr) := by rw [hgw]; exact B0.out.trans (hb.mono (by omega))
      have HO := Lib.hid (ho.mono (show w.heap.size ≤ W5.heap.size by omega))
      have hlk2 := hlk.out
      clear hb ho hmd R0 R1 R2 R3 B0
      rcases he with h1 | ⟨h1, h2⟩
      all_goals
        go_wp2_with (first | ((with_reducible refine ld25 ?a1 (.tmp 4) ?a2 (g + 1 + 1 + 1) ?a3 _ _ 25 e3 ?_); (case a1 => rfl); (case a2 => rfl); (case a3 => rfl)) | ((with_reducible refine st25 ?b1 (.tmp 2) (.tmp 94) ?b2 g (.slice none 0 0) (.slice none 0 0) (.slice (some ⟨g + 1, 0, none⟩) 1 1) (.slice (some ⟨g + 1 + 1, 0, none⟩) 1 1) 25 ?b3 ?b4 e0 ?b5 ?_); (case b1 => rfl); (case b2 => rfl); (case b3 => rfl); (case b4 => rfl); (case b5 => exact one2 _ _ _ _ _ _)))
        exact bodyPost_ret (v := .tuple #[.agg #[.slice (some ⟨g + 1, 0, none⟩) 1 1, .slice (some ⟨g + 1 + 1, 0, none⟩) 1 1], u7]) (res25 (fn := Try.f9) (p := 2) (u := 3) rfl _ _ g 25 (.slice (some ⟨g + 1, 0, none⟩) 1 1) (.slice (some ⟨g + 1 + 1, 0, none⟩) 1 1) u7 rfl rfl (setRow_heap _ _ _ _ _ _ e0.out)) rfl
          ⟨_, _, u7, l, t, rfl, ⟨isIL [2] (by decide) ((setRow_other _ _ _ _ (by omega)).trans e1.out), isIL [1] (by decide) ((setRow_other _ _ _ _ (by omega)).trans e2.out)⟩, by
            obtain ⟨q1, q2 | ⟨g', cap', cur, hv, h3, hg, h4⟩⟩ := HO.out
            · exact ⟨q1, .inl q2⟩
            · have : g' ≠ g := by
                intro e; subst e
                rw [e0.out] at hg
                cases hg
              exact ⟨q1, .inr ⟨g', cap', cur, hv, h3, (setRow_other _ _ _ _ this).trans hg, h4⟩⟩, hld.out, by omega, below_setRow HB.out (by omega) _⟩
end Go.Proofs.Ytgdcgmnfgbdiiaa
