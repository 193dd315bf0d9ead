/- Helper facts for the statements of this seat; no statement itself. -/
import Derived.Test.YtgdcgmnfgbdiiaaQ
import Derived.Laws.ResultCell
import Derived.Outline
namespace Go.Proofs.Ytgdcgmnfgbdiiaa
open Go.RowKit Go.Shelf
set_option linter.unusedSimpArgs false
set_option linter.unusedVariables false
set_option linter.unnecessarySimpa false

theorem one2 (a b : Option Addr) (n c n' c' : Nat) : #[Value.slice a n c, Value.slice b n' c'].all (·.oneCell') = true := by simp [Value.oneCell']
section
variable {ops : Array Oper} {rest : List Oper} {o : Oper} {a : Act} {w : World} {Q : Exit → Act → World → Prop}
theorem st25 (hgd : o.guard = none) (x y : Operand) (ho : o.op = .store 25 x y) (g : Nat) (va vp v1 v2 : Value) (ty : TypeId) (hx : a.eval x = .pointer (some ⟨g, 0, none⟩)) (hy : a.eval y = .agg #[v1, v2]) (hg : Hid (w.heap[g]? = some (.cells #[va, vp] ty (0, 0)))) (h1 : #[v1, v2].all (·.oneCell') = true)
    (h : wpList Try.prog ops Q rest (a.put o.dst undef) (w.setRow g #[v1, v2])) : wpList Try.prog ops Q (o :: rest) a w :=
  wpList_store_row hgd 25 x y ho g #[v1, v2] hx hy ty #[va, vp] hg.out (by kernel_rfl) rfl h1 h
end
theorem res25 {fn : Func} {p u : Tmp} (h : fn.results = #[.cell p 25, .tmp u]) (tmps : Array Value) (w : World) (g : Nat) (ty : TypeId) (va vp x : Value) (hp : tmps.getD p undef = .pointer (some ⟨g, 0, none⟩)) (hu : tmps.getD u undef = x) (hg : w.heap[g]? = some (.cells #[va, vp] ty (0, 0))) :
    (results fn tmps).run Try.prog w = .ok (.tuple #[.agg #[va, vp], x]) w := by
  rw [results_cell_tmp h, hp, hu]
  simp only [asAddr, Sem.run_pure, Result.andThen_ok]
  rw [run_loadVar_row (P := Try.prog) w g ty 25 #[va, vp] (0, 0) _ hg Try.underlying25 rfl (by kernel_rfl)]
  rfl
/-- What After gives. -/
def afM (m : Mo) (l : List En) : Mo := if (vldL m l).1 = 0 then ⟨idx (stN (st0 m) l l.length).a, idx (stN (st0 m) l l.length).s⟩ else ⟨[], []⟩
def Aft (m : Mo) (l : List En) (w : World) (e : Ending) (w' : World) : Prop := ∃ va vp, e = .returned (.tuple #[.agg #[va, vp], .int .i64 (vldL m l).1]) ∧ IsM w' va vp (afM m l) ∧ Below w.heap.size w w'
theorem ints_setRow {w : World} {v : Value} {q : List Int} {g : Nat} {a1 a2 : Option Addr} {n1 n2 c1 c2 : Nat} {ty : TypeId} (h : IsInts w v q) (hg : w.heap[g]? = some (.cells #[.slice a1 n1 c1, .slice a2 n2 c2] ty (0, 0))) (cs : Array Value) : IsInts (w.setRow g cs) v q := by
  obtain ⟨a, len, cap, h1, h2, h0, h3⟩ := h
  refine ⟨a, len, cap, h1, h2, h0, ?_⟩
  rcases h3 with h3 | ⟨b, off, h3, h4⟩
  · exact .inl h3
  · refine .inr ⟨b, off, h3, fun k hk => ?_⟩
    have h5 := h4 k hk
    by_cases e : b = g
    · subst e
      exfalso
      simp only [World.cell?, hg] at h5
      rcases Nat.lt_or_ge (off + k) 2 with h6 | h6
      · have : off + k = 0 ∨ off + k = 1 := by omega
        rcases this with h7 | h7 <;> rw [h7] at h5 <;> simp at h5
      · rw [Array.getElem?_eq_none (by simpa using h6)] at h5; simp at h5
    · have := setRow_other w g b cs e
      simp only [World.cell?] at h5 ⊢
      rw [this]; exact h5

set_option maxRecDepth 100000 in
set_option maxHeartbeats 2000000 in
theorem after_any (va vp vl : Value) (m : Mo) (l : List En) (w : World) (hm : IsM w va vp m) (hl : IsLog w vl l) : Calls Try.prog 27 #[.agg #[va, vp], vl] w (Aft m l w) := by
  obtain ⟨aa, na, ca, rfl⟩ := hm.1.slice
  obtain ⟨ap, np, cp, rfl⟩ := hm.2.slice
  obtain ⟨al, nl, cl, rfl⟩ := hl.slice
  obtain ⟨rfl, hln⟩ := hl.len
  have HM := Lib.hid hm
  have HL := Lib.hid hl
  clear hm hl
  by_cases hc : (vldL m l).1 = 0
  · have HC := Lib.hid hc
    have HE : Hid (afM m l = ⟨idx (stN (st0 m) l l.length).a, idx (stN (st0 m) l l.length).s⟩) := if_pos hc
    have HV := Lib.hid (vld_none hc)
    have HZ := Lib.hid zSt_wf
    have H0 := Lib.hid (Wf_st0 m)
    clear hc
    have hz := zero70
    go_enter Try.func27, Try.ntmps27
    go_wp2_with fail
    refine (valid_any _ _ _ m l _ (HM.out.keep (((Below.refl _ _).alloc (Nat.le_refl _) _).alloc (by simp only [World.size_alloc] <;> omega) _)) (HL.out.keep (((Below.refl _ _).alloc (Nat.le_refl _) _).alloc (by simp only [World.size_alloc] <;> omega) _))).mono ?_
    rintro e w1 ⟨rfl, hb⟩
    rw [HC.out]
    have X1 : Hid (w1.heap[w.heap.size]? = some (.cells #[.slice aa na ca, .slice ap np cp] 25 (0, 0))) := bkeep hb (h2_0 _ _ _)
    have Y1 : Hid (w1.heap[w.heap.size + 1]? = some (.cells #[.slice none 0 0, .slice none 0 0] 25 (0, 0))) := bkeep hb (h2_1 _ _ _)
    have B1 : Hid (Below w.heap.size w w1) := btrans (((Below.refl _ _).alloc (Nat.le_refl _) _).alloc (by simp only [World.size_alloc] <;> omega) _) hb
    clear hb
    go_wp2_with (((with_reducible refine ld25 ?a1 (.tmp 2) ?a2 w.heap.size ?a3 _ _ 25 X1 ?_); (case a1 => rfl); (case a2 => rfl); (case a3 => rfl)))
    refine (start_any _ _ m _ (HM.out.keep B1.out).1 (HM.out.keep B1.out).2 (IsM.inR HV.out.1).1 (IsM.inR HV.out.1).2).mono ?_
    rintro e w2 ⟨rfl, hb⟩
    have B2 : Hid (Below w.heap.size w w2) := btrans B1.out hb
    have Y2 : Hid (w2.heap[w.heap.size + 1]? = some (.cells #[.slice none 0 0, .slice none 0 0] 25 (0, 0))) := bkeep hb Y1.out
    clear hb X1 Y1 B1
    go_wp2_with (((with_reducible refine st70n ?b1 (.tmp 8) (.tmp 22) ?b2 zSt (st0 m) ?b3 ?b4 HZ H0 ?_); (case b1 => rfl); (case b2 => rfl); (case b3 => rfl); (case b4 => rfl)))
    have X3 : Hid ((w2.alloc (.cells (stC (st0 m)) 70)).heap[w2.heap.size]? = some (.cells (stC (stN (st0 m) l 0)) 70 (0, 0))) := h1_0 _ _
    have Y3 : Hid ((w2.alloc (.cells (stC (st0 m)) 70)).heap[w.heap.size + 1]? = some (.cells #[.slice none 0 0, .slice none 0 0] 25 (0, 0))) := hold1 Y2.out _
    have B3 : Hid (Below w.heap.size w (w2.alloc (.cells (stC (st0 m)) 70))) := balloc B2.out _
    have hgs : w.heap.size + 1 < w2.heap.size := lt_of_some Y2.out
    clear B2 Y2 hz
    generalize w2.heap.size = gs at *
    generalize w2.alloc (.cells (stC (st0 m)) 70) = W3 at *
    go_loopw [10, 25] (fun q i wr => ∃ k : Nat, k ≤ l.length ∧ i = .int .i64 k ∧ Hid (wr.heap[gs]? = some (.cells (stC (stN (st0 m) l k)) 70 (0, 0))) ∧ Hid (wr.heap[w.heap.size + 1]? = some (.cells #[.slice none 0 0, .slice none 0 0] 25 (0, 0))) ∧ Hid (Below w.heap.size w wr)) (fun _ i _ => l.length - (intOf i).toNat)
    case atStart => exact ⟨0, by omega, rfl, X3, Y3, B3⟩
    case round =>
      obtain ⟨k, hk, rfl, hx, hy, hb⟩ := hrel
      clear X3 B3 Y3
      by_cases hlt : k < l.length
      · obtain ⟨bb, off, rfl, c0, c1⟩ := (HL.out.keep hb.out).at k hlt
        have i1 : (0 : Int) ≤ (k : Int) := by omega
        have i2 : (k : Int) < (l.length : Int) := by omega
        have HS : Hid (stN (st0 m) l (k + 1) = apS (stN (st0 m) l k) (l.getD k (0, 0)).1 (l.getD k (0, 0)).2) := rfl
        have HWF := Lib.hid (Wf_stN H0.out l k)
        generalize (l.getD k (0, 0)).1 = kk at *
        generalize (l.getD k (0, 0)).2 = xx at *
        go_wp2_with fail
        refine (apply_any (stN (st0 m) l k) gs 70 kk xx _ HWF.out (hold1 hx.out _)).mono ?_
        rintro e w5 ⟨rfl, hx5, hb5⟩
        rw [← HS.out] at hx5
        have X5 := Lib.hid hx5
        have B5 : Hid (Below w.heap.size w w5) := (balloc hb.out _).trans (hb5.below (by omega) (by have := hb.out.size; simp only [World.size_alloc]; omega))
        have Y5 : Hid (w5.heap[w.heap.size + 1]? = some (.cells #[.slice none 0 0, .slice none 0 0] 25 (0, 0))) := hb5.heap (hold1 hy.out _) (by omega)
        clear hx5 hb5 hx hb hy c0 c1
        go_wp2_with fail
        go_roundw
        case rel => exact ⟨k + 1, by omega, by go_num, X5, Y5, B5⟩
        case measure => simp [intOf]; omega
      · obtain rfl : k = l.length := by omega
        have HWF := Lib.hid (Wf_stN H0.out l l.length)
        generalize stN (st0 m) l l.length = S at *
        have c0 : wr.cell? ⟨gs, 0, none⟩ = some (.int .u16 (enc S.a)) := stC_0 hx.out
        go_wp2_with fail
        refine (setList_any S.a _ HWF.out.1).mono ?_
        rintro e w5 ⟨v1, rfl, hv1, hb5⟩
        obtain ⟨a1, n1, q1, rfl⟩ := hv1.slice
        have HV1 := Lib.hid hv1
        have X5 := Lib.hid (bkeep hb5 hx.out)
        have Y5 := Lib.hid (bkeep hb5 hy.out)
        have B5 : Hid (Below w.heap.size w w5) := btrans hb.out hb5
        clear hx hy hb hb5 hv1 c0
        go_wp2_with fail
        refine (stList_any S gs 70 _ HWF.out X5.out).mono ?_
        rintro e w6 ⟨v2, rfl, hv2, hb6⟩
        obtain ⟨a2, n2, q2, rfl⟩ := hv2.slice
        have HV2 := Lib.hid hv2
        have HV3 := Lib.hid (HV1.out.keep hb6)
        have Y6 := Lib.hid (bkeep hb6 Y5.out)
        have B6 : Hid (Below w.heap.size w w6) := btrans B5.out hb6
        clear X5 Y5 B5 hb6 hv2 HV1
        go_wp2_with (((with_reducible refine st25 ?b1 (.tmp 4) (.tmp 36) ?b2 (w.heap.size + 1) (.slice none 0 0) (.slice none 0 0) (.slice a1 n1 q1) (.slice a2 n2 q2) 25 ?b3 ?b4 Y6 ?b5 ?_); (case b1 => rfl); (case b2 => rfl); (case b3 => rfl); (case b4 => rfl); (case b5 => exact one2 _ _ _ _ _ _)))
        exact bodyPost_ret (v := .tuple #[.agg #[.slice a1 n1 q1, .slice a2 n2 q2], .int .i64 0]) (res25 (fn := Try.f27) (p := 4) (u := 5) rfl _ _ (w.heap.size + 1) 25 (.slice a1 n1 q1) (.slice a2 n2 q2) (.int .i64 0) rfl rfl (setRow_heap _ _ _ _ _ _ Y6.out)) rfl ⟨_, _, by rw [HC.out], by rw [HE.out]; exact ⟨ints_setRow HV3.out Y6.out _, ints_setRow HV2.out Y6.out _⟩, below_setRow B6.out (by omega) _⟩
  · have HE : Hid (afM m l = ⟨[], []⟩) := if_neg hc
    have hz : ((vldL m l).1 != 0) = true := by simpa using hc
    clear hc
    go_enter Try.func27, Try.ntmps27
    go_wp2_with fail
    refine (valid_any _ _ _ m l _ (HM.out.keep (((Below.refl _ _).alloc (Nat.le_refl _) _).alloc (by simp only [World.size_alloc] <;> omega) _)) (HL.out.keep (((Below.refl _ _).alloc (Nat.le_refl _) _).alloc (by simp only [World.size_alloc] <;> omega) _))).mono ?_
    rintro e w1 ⟨rfl, hb⟩
    have Y1 : Hid (w1.heap[w.heap.size + 1]? = some (.cells #[.slice none 0 0, .slice none 0 0] 25 (0, 0))) := bkeep hb (h2_1 _ _ _)
    have B1 : Hid (Below w.heap.size w w1) := btrans (((Below.refl _ _).alloc (Nat.le_refl _) _).alloc (by simp only [World.size_alloc] <;> omega) _) hb
    clear hb
    go_wp2_with (((with_reducible refine st25 ?b1 (.tmp 4) (.tmp 19) ?b2 (w.heap.size + 1) (.slice none 0 0) (.slice none 0 0) (.slice none 0 0) (.slice none 0 0) 25 ?b3 ?b4 Y1 ?b5 ?_); (case b1 => rfl); (case b2 => rfl); (case b3 => rfl); (case b4 => rfl); (case b5 => exact one2 _ _ _ _ _ _)))
    exact bodyPost_ret (v := .tuple #[.agg #[.slice none 0 0, .slice none 0 0], .int .i64 (vldL m l).1]) (res25 (fn := Try.f27) (p := 4) (u := 5) rfl _ _ (w.heap.size + 1) 25 (.slice none 0 0) (.slice none 0 0) (.int .i64 (vldL m l).1) rfl rfl (setRow_heap _ _ _ _ _ _ Y1.out)) rfl ⟨_, _, rfl, by rw [HE.out]; exact ⟨IsInts.nil _ _ _, IsInts.nil _ _ _⟩, below_setRow B1.out (by omega) _⟩
end Go.Proofs.Ytgdcgmnfgbdiiaa
