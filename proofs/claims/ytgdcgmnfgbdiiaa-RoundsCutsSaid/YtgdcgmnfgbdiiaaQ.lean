/- Helper facts for the statements of this seat; no statement itself. -/
import Derived.Test.YtgdcgmnfgbdiiaaO
import Derived.Outline
namespace Go.Proofs.Ytgdcgmnfgbdiiaa
open Go.RowKit Go.Shelf
set_option linter.unusedSimpArgs false
set_option linter.unusedVariables false
set_option linter.unnecessarySimpa false
attribute [local go_sem] Oper.semAt_some

theorem cell_turned {W : World} {a : Addr} {v : Value} {l : Nat} {o : Obj} (h : W.cell? a = some v) (o' : Obj) (hl : W.heap[l]? = some o) (hc : o.isCells = false) : (W.putObj l o').cell? a = some v := by
  have hne : a.block ≠ l := by
    intro e
    simp only [World.cell?, e, hl] at h
    cases o <;> simp_all [Obj.isCells]
  have := World.putObj_heap_other (w := W) (o := o') hne
  simp only [World.cell?] at h ⊢
  rw [this]; exact h
theorem IsInts.putObj {W : World} {v : Value} {q : List Int} (h : IsInts W v q) {l : Nat} {o : Obj} (o' : Obj) (hl : W.heap[l]? = some o) (hc : o.isCells = false) : IsInts (W.putObj l o') v q := by
  obtain ⟨a, len, cap, h1, h2, h0, h3⟩ := h
  refine ⟨a, len, cap, h1, h2, h0, ?_⟩
  rcases h3 with h3 | ⟨b, off, h3, h4⟩
  · exact .inl h3
  · exact .inr ⟨b, off, h3, fun k hk => cell_turned (h4 k hk) o' hl hc⟩
/-- What Owed gives. -/
def owS (m : Mo) (l : List En) : St := owN (st0 m) l l.length
def owA (m : Mo) (l : List En) : List Int := if (vldL m l).1 = 0 then idx (owS m l).a else []
def owB (m : Mo) (l : List En) : List Int := if (vldL m l).1 = 0 then idx (owS m l).s else []
def Owing (m : Mo) (l : List En) (w : World) (e : Ending) (w' : World) : Prop := ∃ va vb, e = .returned (.tuple #[va, vb, .int .i64 (vldL m l).1]) ∧ IsInts w' va (owA m l) ∧ IsInts w' vb (owB m l) ∧ Below w.heap.size w w'

set_option maxRecDepth 100000 in
set_option maxHeartbeats 2000000 in
theorem owed_bad (va vp vl : Value) (m : Mo) (l : List En) (w : World) (hm : IsM w va vp m) (hl : IsLog w vl l) (hc : (vldL m l).1 ≠ 0) : Calls Try.prog 14 #[.agg #[va, vp], vl] w (Owing m l w) := by
  obtain ⟨aa, na, ca, rfl⟩ := hm.1.slice
  obtain ⟨ap, np, cp, rfl⟩ := hm.2.slice
  obtain ⟨al, nl, cl, rfl⟩ := hl.slice
  have HM := Lib.hid hm
  have HL := Lib.hid hl
  have HE : Hid (owA m l = [] ∧ owB m l = []) := ⟨if_neg hc, if_neg hc⟩
  have hz : ((vldL m l).1 != 0) = true := by simpa using hc
  clear hm hl hc
  refine (callsIn_wide (n := 3)).1 ?_
  refine callsIn_of_wp_marks Try.func14 rfl trivial ?_ rfl
  simp only [Try.ntmps14, List.size_toArray, List.length_cons, List.length_nil, Nat.reduceAdd, Nat.reduceSub, Array.replicate_succ, Array.replicate_zero, List.push_toArray, List.append_toArray, List.nil_append, List.cons_append]
  gi_wp2_with fail
  refine ⟨trivial, ?_⟩
  refine (callsIn_wide.2 (valid_any _ _ _ m l _ (HM.out.keep ((Below.refl _ _).alloc (Nat.le_refl _) _)) (HL.out.keep ((Below.refl _ _).alloc (Nat.le_refl _) _)))).mono ?_
  rintro e w1 ⟨rfl, hb⟩
  have B1 := Lib.hid (bfirst _ _ hb).2
  clear hb
  gi_wp2_with fail
  exact ⟨_, results_tmp3 rfl _ _ _, _, _, rfl, by rw [HE.out.1]; exact IsInts.nil _ _ _, by rw [HE.out.2]; exact IsInts.nil _ _ _, B1.out⟩

set_option maxRecDepth 100000 in
set_option maxHeartbeats 2000000 in
theorem owed_good (va vp vl : Value) (m : Mo) (l : List En) (w : World) (hm : IsM w va vp m) (hl : IsLog w vl l) (hc : (vldL m l).1 = 0) : Calls Try.prog 14 #[.agg #[va, vp], vl] w (Owing m l w) := by
  obtain ⟨aa, na, ca, rfl⟩ := hm.1.slice
  obtain ⟨ap, np, cp, rfl⟩ := hm.2.slice
  obtain ⟨al, nl, cl, rfl⟩ := hl.slice
  have HM := Lib.hid hm
  have HL := Lib.hid hl
  have HE : Hid (owA m l = idx (owS m l).a ∧ owB m l = idx (owS m l).s) := ⟨if_pos hc, if_pos hc⟩
  have HC := Lib.hid hc
  have HV := Lib.hid (vld_none hc)
  have HV5 := Lib.hid (vld_none hc).2.1
  have H0 := Lib.hid (Wf_st0 m)
  have HZ := Lib.hid zSt_wf
  clear hm hl hc
  have hz := zero70
  refine (callsIn_wide (n := 3)).1 ?_
  refine callsIn_of_wp_marks Try.func14 rfl trivial ?_ rfl
  simp only [Try.ntmps14, List.size_toArray, List.length_cons, List.length_nil, Nat.reduceAdd, Nat.reduceSub, Array.replicate_succ, Array.replicate_zero, List.push_toArray, List.append_toArray, List.nil_append, List.cons_append]
  gi_wp2_with fail
  refine ⟨trivial, ?_⟩
  refine (callsIn_wide.2 (valid_any _ _ _ m l _ (HM.out.keep ((Below.refl _ _).alloc (Nat.le_refl _) _)) (HL.out.keep ((Below.refl _ _).alloc (Nat.le_refl _) _)))).mono ?_
  rintro e w1 ⟨rfl, hb⟩
  rw [HC.out]
  have X1 := Lib.hid (bfirst _ _ hb).1
  have B1 := Lib.hid (bfirst _ _ hb).2
  clear hb
  have X2 : Hid ((w1.alloc (.cells (stC zSt) 70)).heap[w.heap.size]? = some (.cells #[.slice aa na ca, .slice ap np cp] 25 (0, 0))) := hold1 X1.out _
  have B2 : Hid (Below w.heap.size w (w1.alloc (.cells (stC zSt) 70))) := balloc B1.out _
  gi_wp2_with (((with_reducible refine load_rowIn ?c1 25 (.tmp 2) ?c2 w.heap.size ?c3 25 #[.slice aa na ca, .slice ap np cp] _ X2.out Try.underlying25 ?c4 ?c5 ?_); (case c1 => rfl); (case c2 => rfl); (case c3 => rfl); (case c4 => rfl); (case c5 => kernel_rfl)))
  refine ⟨trivial, ?_⟩
  refine (callsIn_wide.2 (start_any _ _ m _ (HM.out.keep B2.out).1 (HM.out.keep B2.out).2 (IsM.inR HV.out.1).1 (IsM.inR HV.out.1).2)).mono ?_
  rintro e w2 ⟨rfl, hb⟩
  have B3 : Hid (Below w.heap.size w w2) := btrans B2.out hb
  obtain ⟨g, hg⟩ : ∃ x, x = w1.heap.size := ⟨_, rfl⟩
  have R2 : Hid (w2.heap[g]? = some (.cells (stC zSt) 70 (0, 0))) := by rw [hg]; exact bkeep hb (h1_0 _ _)
  have hgw : w.heap.size ≤ g := by have := B1.out.size; omega
  rw [← hg]
  clear hg hb X1 X2 B1 B2
  gi_wp2_with fail
  refine ⟨trivial, ?_⟩
  refine (callsIn_wide.2 (cut_any (st0 m) _ _ _ g _)).mono ?_
  rintro e w3 ⟨rfl, rfl⟩
  gi_wp2_with fail
  obtain ⟨h, hh⟩ : ∃ x, x = w2.heap.size := ⟨_, rfl⟩
  have hgh : g < h := by rw [hh]; exact lt_of_some R2.out
  obtain ⟨W0, hW0⟩ : ∃ x, x = ((w2.alloc (.cells (stC (st0 m)) 70)).alloc (.cells #[.slice al nl cl] 26)).alloc (.cells #[.pointer (some ⟨g, 0, none⟩)] 75) := ⟨_, rfl⟩
  have Q0 : Hid (W0.heap[g]? = some (.cells (stC zSt) 70 (0, 0))) := by rw [hW0]; exact hold3 R2.out _ _ _
  have T0 : Hid (W0.heap[h]? = some (.cells (stC (st0 m)) 70 (0, 0))) := by rw [hW0, hh]; exact h3_0 _ _ _ _
  have T1 : Hid (W0.heap[h + 1]? = some (.cells #[.slice al nl cl] 26 (0, 0))) := by rw [hW0, hh]; exact h3_1 _ _ _ _
  have T2 : Hid (W0.heap[h + 1 + 1]? = some (.cells #[.pointer (some ⟨g, 0, none⟩)] 75 (0, 0))) := by rw [hW0, hh]; exact h3_2 _ _ _ _
  have B0 : Hid (Below w.heap.size w W0) := by rw [hW0]; exact balloc (balloc (balloc B3.out _) _) _
  have hgs : h + 1 + 1 < W0.heap.size := lt_of_some T2.out
  rw [← hW0, ← hh]
  clear hW0 hh R2 B3
  refine range_d (F := Fence.wide) (ty := 70) rfl (by omega) (gf := 49) (lb := #[.pointer (some ⟨h, 0, none⟩), .pointer (some ⟨h + 1 + 1, 0, none⟩), .pointer (some ⟨h + 1, 0, none⟩)]) rfl trivial (enters_of Try.func49 (by kernel_rfl) rfl)
    (cut_stops 2 (by omega) h g (h + 1 + 1) (h + 1) (st0 m) zSt l _ H0.out HZ.out HV.out.2.2 w W0 (by omega) (by omega) (by omega) T0.out Q0.out T2.out T1.out HL.out B0.out)
    KpR.trans (fun W q o o' hq => KpR.putObj W q o o' (by omega)) (abR_cutS _ _ _ _) (abR_pure _) (fun _ => rfl)
    (fun _ W => Below w.heap.size w W) (fun _ _ _ => False)
    (abR_below B0.out.size w)
    (fun c => fun _ _ _ _ _ hs _ _ _ => hs)
    (abC_below (Nat.le_refl _) w (Nat.le_refl _))
    (fun c => fun _ _ _ _ hs _ _ => hs)
    B0.out
    (fun x => { tmps := #[.agg #[.slice aa na ca, .slice ap np cp], .slice al nl cl, .pointer (some ⟨w.heap.size, 0, none⟩), undef, .slice none 0 0, .slice none 0 0, .int .i64 0, .int .i64 0, .int .i64 (vldL m l).snd, .pointer (some ⟨g, 0, none⟩),
      .tuple #[.int .i64 0, .int .i64 (vldL m l).snd], .agg #[.slice aa na ca, .slice ap np cp], .slice al nl cl, .tuple #[.int .i64 0, .int .i64 (vldL m l).snd], .int .i64 0, .int .i64 (vldL m l).snd, .int .i64 0, .bool false, undef, .agg #[.slice aa na ca, .slice ap np cp], .agg (stC (st0 m)), .slice al nl cl,
      .func (.func 49) #[] #[.pointer (some ⟨h, 0, none⟩), .pointer (some ⟨h + 1 + 1, 0, none⟩), .pointer (some ⟨h + 1, 0, none⟩)], .int .i64 x, undef, undef, undef, undef], defers := [] }) ?assign ?body ?done ?stop
  case assign =>
    intro l x W K hK
    gi_wp2
    simpa using hK
  case body =>
    rintro l pre x W hB hlt
    gi_wp2
    exact ⟨(KeepsOthers.refl _).from _, ⟨Below.refl _ _, fun _ _ _ _ h => h⟩, hB⟩
  case done =>
    rintro D ys W hD ⟨rfl, hO⟩ hB hK
    have HO : Hid (W.heap[g]? = some (.cells (stC (owS m l)) 70 (0, 0))) := hO
    have HOW : Hid (owS m l).Wf := Wf_owN H0.out l _
    have c0 : W.cell? ⟨g, 0, none⟩ = some (.int .u16 (enc (owS m l).a)) := stC_0 hO
    clear hO
    gi_wp2
    refine ⟨trivial, ?_⟩
    refine (callsIn_wide.2 (setList_any (owS m l).a _ HOW.out.1)).mono ?_
    rintro e W1 ⟨v1, rfl, hv1, hb1⟩
    have HV1 := Lib.hid hv1
    have HB1 := Lib.hid hb1
    clear hv1 hb1
    gi_wp2
    refine ⟨trivial, ?_⟩
    refine (callsIn_wide.2 (stList_any (owS m l) g 70 _ HOW.out (bkeep HB1.out HO.out))).mono ?_
    rintro e W2 ⟨v2, rfl, hv2, hb2⟩
    have HV2 := Lib.hid hv2
    have HB2 := Lib.hid hb2
    have hK2 := bkeep HB2.out (bkeep HB1.out hK)
    clear hv2 hb2
    gi_wp2
    refine ⟨by simp, .inl ⟨_, _, rfl, run_takeDeferred hK2, ?_⟩⟩
    refine ⟨_, results_tmp3 rfl _ _ _, v1, v2, by rw [HC.out]; rfl, ?_, ?_, (hB.trans ((HB1.out.trans (HB2.out.mono HB1.out.size)).mono hB.size)).trans (belowK_b (w := W0) B0.out.size W2 D _ _ hD hK2 rfl rfl)⟩
    · rw [HE.out.1]; exact IsInts.putObj (HV1.out.keep HB2.out) _ hK2 rfl
    · rw [HE.out.2]; exact IsInts.putObj HV2.out _ hK2 rfl
  case stop =>
    rintro D c pre W _ _ h _
    exact h.elim
end Go.Proofs.Ytgdcgmnfgbdiiaa
