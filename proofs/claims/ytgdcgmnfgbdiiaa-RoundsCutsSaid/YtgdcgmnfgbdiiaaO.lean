/- Helper facts for the statements of this seat; no statement itself. -/
import Derived.Test.YtgdcgmnfgbdiiaaN
import Derived.Test.YtgdcgmnfgbdiiaaComT
import Derived.Test.YtgdcgmnfgbdiiaaG
import Derived.Outline
namespace Go.Proofs.Ytgdcgmnfgbdiiaa
open Go.RowKit Go.Shelf
set_option linter.unusedSimpArgs false
set_option linter.unusedVariables false
set_option linter.unnecessarySimpa false
attribute [local go_sem] Oper.semAt_some

set_option maxHeartbeats 1000000 in
theorem cut_any (st : St) (al : Option Addr) (n cap bo : Nat) (w : World) : Calls Try.prog 39 #[.agg (stC st), .slice al n cap, .pointer (some ⟨bo, 0, none⟩)] w fun e w' => e = .returned (.func (.func 49) #[] #[.pointer (some ⟨w.heap.size, 0, none⟩), .pointer (some ⟨w.heap.size + 1 + 1, 0, none⟩), .pointer (some ⟨w.heap.size + 1, 0, none⟩)]) ∧ ((w.alloc (.cells (stC st) 70)).alloc (.cells #[.slice al n cap] 26)).alloc (.cells #[.pointer (some ⟨bo, 0, none⟩)] 75) = w' := by
  go_enter Try.func39, Try.ntmps39
  go_wp2
  go_ret
  exact ⟨rfl, rfl⟩
/-- What the iterator leaves. -/
def CutS (bo : Nat) (st : St) (l : List En) (xs : List Int) (W : World) : Prop := xs = enN st l l.length ∧ W.heap[bo]? = some (.cells (stC (owN st l l.length)) 70 (0, 0))
theorem cut_stops (n : Nat) (hn : 1 ≤ n) (bs bo bp bl : Nat) (st tq : St) (l : List En) (vl : Value) (hwf : st.Wf) (hto : tq.Wf) (hv : ∀ j, j < l.length → erN st l j = 0) (w w0 : World) (hne : bs ≠ bo) (hBs : w.heap.size ≤ bs) (hBo : w.heap.size ≤ bo)
    (h1 : w0.heap[bs]? = some (.cells (stC st) 70 (0, 0))) (h2 : w0.heap[bo]? = some (.cells (stC tq) 70 (0, 0))) (h3 : w0.heap[bp]? = some (.cells #[.pointer (some ⟨bo, 0, none⟩)] 75 (0, 0))) (h4 : w0.heap[bl]? = some (.cells #[vl] 26 (0, 0))) (hlw : IsLog w vl l) (hbw : Below w.heap.size w w0) :
    SeqD (KpR w.heap.size) w.heap.size Fence.wide n Try.prog 49 #[.pointer (some ⟨bs, 0, none⟩), .pointer (some ⟨bp, 0, none⟩), .pointer (some ⟨bl, 0, none⟩)] (fun x : Int => #[Value.int .i64 x]) 70 (CutS bo st l) (fun _ _ => True) l.length w0 := fun lb J Jx W hW hJ _ hY h0 =>
  cut1_in n hn lb bs bo bp bl w.heap.size st l vl hwf hv J Jx hJ hY W hne hBs hBo (bkeep hW h1) tq hto (bkeep hW h2) (bkeep hW h3) (bkeep hW h4) w rfl hlw (hbw.trans (hW.mono hbw.size)) h0
theorem h4k {w : World} {k : Nat} {o o3 o0 o1 o2 : Obj} (h : (((w.alloc o0).alloc o1).alloc o2).heap[k]? = some o) : ((((w.alloc o0).alloc o1).alloc o2).alloc o3).heap[k]? = some o := hold1 h _

/-- What Ends gives. -/
def enL (m : Mo) (l : List En) : List Int := if (vldL m l).1 = 0 then enN (st0 m) l l.length else []
def Ended (m : Mo) (l : List En) (w : World) (e : Ending) (w' : World) : Prop := ∃ v, e = .returned (.tuple #[v, .int .i64 (vldL m l).1]) ∧ IsInts w' v (enL m l) ∧ Below w.heap.size w w'
theorem vld_none {m : Mo} {l : List En} (h : (vldL m l).1 = 0) : ckM m = 0 ∧ l.length ≤ 5000 ∧ ∀ j, j < l.length → erN (st0 m) l j = 0 := by
  unfold vldL at h
  by_cases h1 : ckM m = 0
  · rw [if_pos h1] at h
    by_cases h2 : 5000 < l.length
    · rw [if_pos h2] at h; cases h
    · rw [if_neg h2] at h; exact ⟨h1, by omega, vlF_none h⟩
  · rw [if_neg h1] at h; exact absurd h h1
theorem abR_cutS (B bo : Nat) (st : St) (l : List En) : AbR B (CutS bo st l) := fun s W q o o' hs hl ho hc => ⟨hs.1, heap_turned (B := B) hs.2 ho hc o'⟩
theorem kpR_box {B : Nat} {W W4 : World} {g t : Nat} {v : Value} (hk : OnlyI W W4) (hb : Below B W W4) (hg : W4.heap[g]? = some (.cells #[v] t (0, 0))) (h1 : t ≠ 70) (h2 : t ≠ 75) (h3 : t ≠ 26) (hB : B ≤ g) (v' : Value) : KpR B W (W4.setCell ⟨g, 0, none⟩ v') :=
  ⟨hb.setCell (by simp only []; omega) _, fun k cs q hq hc => kt_setCell hg q (by rcases hq with rfl | rfl | rfl <;> assumption) 0 v' k cs _ (hk.heap hc (by rcases hq with rfl | rfl | rfl <;> decide))⟩
def EnI (g b : Nat) (w : World) (pre : List Int) (W : World) : Prop := BoxI W g 22 b pre ∧ b ≤ W.heap.size ∧ Below w.heap.size w W

set_option maxRecDepth 100000 in
set_option maxHeartbeats 2000000 in
theorem ends_bad (va vp vl : Value) (m : Mo) (l : List En) (w : World) (hm : IsM w va vp m) (hl : IsLog w vl l) (hc : (vldL m l).1 ≠ 0) : Calls Try.prog 11 #[.agg #[va, vp], vl] w (Ended m l w) := by
  obtain ⟨aa, na, ca, rfl⟩ := hm.1.slice
  obtain ⟨ap, np, cp, rfl⟩ := hm.2.slice
  obtain ⟨al, nl, cl, rfl⟩ := hl.slice
  have HM := Lib.hid hm
  have HL := Lib.hid hl
  have HE : Hid (enL m l = []) := if_neg hc
  have hz : ((vldL m l).1 != 0) = true := by simpa using hc
  clear hm hl hc
  refine (callsIn_wide (n := 3)).1 ?_
  refine callsIn_of_wp_marks Try.func11 rfl trivial ?_ rfl
  simp only [Try.ntmps11, List.size_toArray, List.length_cons, List.length_nil, Nat.reduceAdd, Nat.reduceSub, Array.replicate_succ, Array.replicate_zero, List.push_toArray, List.append_toArray, List.nil_append, List.cons_append]
  gi_wp2_with fail
  refine ⟨trivial, ?_⟩
  refine (callsIn_wide.2 (valid_any _ _ _ m l _ (HM.out.keep ((Below.refl _ _).alloc (Nat.le_refl _) _)) (HL.out.keep ((Below.refl _ _).alloc (Nat.le_refl _) _)))).mono ?_
  rintro e w1 ⟨rfl, hb⟩
  have B1 := Lib.hid (bfirst _ _ hb).2
  clear hb
  gi_wp2_with fail
  exact ⟨_, results_tmp2 rfl _ _ _, _, rfl, by rw [HE.out]; exact IsInts.nil _ _ _, B1.out⟩

set_option maxRecDepth 100000 in
set_option maxHeartbeats 2000000 in
theorem ends_good (va vp vl : Value) (m : Mo) (l : List En) (w : World) (hm : IsM w va vp m) (hl : IsLog w vl l) (hc : (vldL m l).1 = 0) : Calls Try.prog 11 #[.agg #[va, vp], vl] w (Ended m l w) := by
  obtain ⟨aa, na, ca, rfl⟩ := hm.1.slice
  obtain ⟨ap, np, cp, rfl⟩ := hm.2.slice
  obtain ⟨al, nl, cl, rfl⟩ := hl.slice
  have HM := Lib.hid hm
  have HL := Lib.hid hl
  have HE : Hid (enL m l = enN (st0 m) l l.length) := if_pos hc
  have HC := Lib.hid hc
  have HV := Lib.hid (vld_none hc)
  have HV5 := Lib.hid (vld_none hc).2.1
  have H0 := Lib.hid (Wf_st0 m)
  have HZ := Lib.hid zSt_wf
  clear hm hl hc
  have hz := zero70
  refine (callsIn_wide (n := 3)).1 ?_
  refine callsIn_of_wp_marks Try.func11 rfl trivial ?_ rfl
  simp only [Try.ntmps11, List.size_toArray, List.length_cons, List.length_nil, Nat.reduceAdd, Nat.reduceSub, Array.replicate_succ, Array.replicate_zero, List.push_toArray, List.append_toArray, List.nil_append, List.cons_append]
  gi_wp2_with fail
  refine ⟨trivial, ?_⟩
  refine (callsIn_wide.2 (valid_any _ _ _ m l _ (HM.out.keep ((Below.refl _ _).alloc (Nat.le_refl _) _)) (HL.out.keep ((Below.refl _ _).alloc (Nat.le_refl _) _)))).mono ?_
  rintro e w1 ⟨rfl, hb⟩
  rw [HC.out]
  have X1 := Lib.hid (bfirst _ _ hb).1
  have B1 := Lib.hid (bfirst _ _ hb).2
  clear hb
  have X2 : Hid (((w1.alloc (.cells (stC zSt) 70)).alloc (.cells #[.slice none 0 0] 22)).heap[w.heap.size]? = some (.cells #[.slice aa na ca, .slice ap np cp] 25 (0, 0))) := hold2 X1.out _ _
  have B2 : Hid (Below w.heap.size w ((w1.alloc (.cells (stC zSt) 70)).alloc (.cells #[.slice none 0 0] 22))) := balloc (balloc B1.out _) _
  gi_wp2_with (((with_reducible refine load_rowIn ?c1 25 (.tmp 2) ?c2 w.heap.size ?c3 25 #[.slice aa na ca, .slice ap np cp] _ X2.out Try.underlying25 ?c4 ?c5 ?_); (case c1 => rfl); (case c2 => rfl); (case c3 => rfl); (case c4 => rfl); (case c5 => kernel_rfl)))
  refine ⟨trivial, ?_⟩
  refine (callsIn_wide.2 (start_any _ _ m _ (HM.out.keep B2.out).1 (HM.out.keep B2.out).2 (IsM.inR HV.out.1).1 (IsM.inR HV.out.1).2)).mono ?_
  rintro e w2 ⟨rfl, hb⟩
  have B3 : Hid (Below w.heap.size w w2) := btrans B2.out hb
  obtain ⟨g, hg⟩ : ∃ x, x = w1.heap.size := ⟨_, rfl⟩
  have R2 : Hid (w2.heap[g]? = some (.cells (stC zSt) 70 (0, 0)) ∧ w2.heap[g + 1]? = some (.cells #[.slice none 0 0] 22 (0, 0))) := by rw [hg]; exact ⟨bkeep hb (h2_0 _ _ _), bkeep hb (h2_1 _ _ _)⟩
  have hgw : w.heap.size ≤ g := by have := B1.out.size; omega
  rw [← hg]
  clear hg hb X1 X2 B1 B2
  gi_wp2_with fail
  refine ⟨trivial, ?_⟩
  refine (callsIn_wide.2 (cut_any (st0 m) _ _ _ g _)).mono ?_
  rintro e w3 ⟨rfl, rfl⟩
  gi_wp2_with fail
  obtain ⟨h, hh⟩ : ∃ x, x = w2.heap.size := ⟨_, rfl⟩
  have hgh : g + 1 < h := by rw [hh]; exact lt_of_some R2.out.2
  obtain ⟨W0, hW0⟩ : ∃ x, x = ((w2.alloc (.cells (stC (st0 m)) 70)).alloc (.cells #[.slice al nl cl] 26)).alloc (.cells #[.pointer (some ⟨g, 0, none⟩)] 75) := ⟨_, rfl⟩
  have Q0 : Hid (W0.heap[g]? = some (.cells (stC zSt) 70 (0, 0))) := by rw [hW0]; exact hold3 R2.out.1 _ _ _
  have R0 : Hid (W0.heap[g + 1]? = some (.cells #[.slice none 0 0] 22 (0, 0))) := by rw [hW0]; exact hold3 R2.out.2 _ _ _
  have T0 : Hid (W0.heap[h]? = some (.cells (stC (st0 m)) 70 (0, 0))) := by rw [hW0, hh]; exact h3_0 _ _ _ _
  have T1 : Hid (W0.heap[h + 1]? = some (.cells #[.slice al nl cl] 26 (0, 0))) := by rw [hW0, hh]; exact h3_1 _ _ _ _
  have T2 : Hid (W0.heap[h + 1 + 1]? = some (.cells #[.pointer (some ⟨g, 0, none⟩)] 75 (0, 0))) := by rw [hW0, hh]; exact h3_2 _ _ _ _
  have B0 : Hid (Below w.heap.size w W0) := by rw [hW0]; exact balloc (balloc (balloc B3.out _) _) _
  have hgs : h + 1 + 1 < W0.heap.size := lt_of_some T2.out
  rw [← hW0, ← hh]
  clear hW0 hh R2 B3
  refine range_d (F := Fence.wide) (ty := 70) rfl (by omega) (gf := 49) (lb := #[.pointer (some ⟨h, 0, none⟩), .pointer (some ⟨h + 1 + 1, 0, none⟩), .pointer (some ⟨h + 1, 0, none⟩)]) rfl trivial (enters_of Try.func49 (by kernel_rfl) rfl)
    (cut_stops 2 (by omega) h g (h + 1 + 1) (h + 1) (st0 m) zSt l _ H0.out HZ.out HV.out.2.2 w W0 (by omega) (by omega) (by omega) T0.out Q0.out T2.out T1.out HL.out B0.out)
    KpR.trans (fun W q o o' hq => KpR.putObj W q o o' (by omega)) (abR_cutS _ _ _ _) (abR_pure _) (fun _ => rfl)
    (EnI (g + 1) W0.heap.size w) (fun _ _ _ => False)
    (AbR.and (abR_boxI _ _ _) (AbR.and (fun _ W l o o' hs _ _ _ => by simpa using hs) (abR_below B0.out.size w)))
    (fun c => fun _ _ _ _ _ hs _ _ _ => hs)
    (AbC.and (abC_boxI (by decide) (by decide) _ _ _) (AbC.and (fun _ W W' _ hs hg _ => Nat.le_trans hs hg.size) (abC_below (Nat.le_refl _) w (Nat.le_refl _))))
    (fun c => fun _ _ _ _ hs _ _ => hs)
    ⟨⟨_, R0.out, Own.nil _ _⟩, Nat.le_refl _, B0.out⟩
    (fun x => { tmps := #[.agg #[.slice aa na ca, .slice ap np cp], .slice al nl cl, .pointer (some ⟨w.heap.size, 0, none⟩), undef, .slice none 0 0, .int .i64 0, .int .i64 0, .int .i64 (vldL m l).snd, .pointer (some ⟨g, 0, none⟩), .pointer (some ⟨g + 1, 0, none⟩), .int .i64 x,
      .tuple #[.int .i64 0, .int .i64 (vldL m l).snd], .agg #[.slice aa na ca, .slice ap np cp], .slice al nl cl, .tuple #[.int .i64 0, .int .i64 (vldL m l).snd], .int .i64 0, .int .i64 (vldL m l).snd, .int .i64 0, .bool false, undef, .agg #[.slice aa na ca, .slice ap np cp], .agg (stC (st0 m)), .slice al nl cl,
      .func (.func 49) #[] #[.pointer (some ⟨h, 0, none⟩), .pointer (some ⟨h + 1 + 1, 0, none⟩), .pointer (some ⟨h + 1, 0, none⟩)], .int .i64 x, undef, undef, undef, undef, undef], defers := [] }) ?assign ?body ?done ?stop
  case assign =>
    intro l x W K hK
    gi_wp2
    exact hK
  case body =>
    rintro l pre x W ⟨⟨v, hv, ho⟩, hz, hB⟩ hlt
    have HV := Lib.hid hv
    have HO := Lib.hid ho
    have c0 : W.cell? ⟨g + 1, 0, none⟩ = some v := setRow_cell hv rfl
    have hlt5 := HV5.out
    clear hv ho
    gi_wp2_with (((with_reducible refine append_intIn ?b1 (.tmp 25) (.tmp 27) ?b2 W0.heap.size v pre x 3 ?b3 ?b4 HO ?b5 ?b6 ?_); (case b1 => rfl); (case b2 => rfl); (case b3 => rfl); (case b4 => rfl); (case b5 => omega); (case b6 => omega)); rintro v' w4 ho4 hk4 hb4 ⟨g', cap', rfl⟩; have hv4 := Lib.hid (hk4.out.heap HV.out (by decide)); have c4 : w4.cell? ⟨g + 1, 0, none⟩ = some v := setRow_cell hv4.out rfl; have f4 := fr (j := 0) hv4.out)
    refine ⟨(hk4.out.others.trans (KeepsOthers.setCell _ _ _)).from _, kpR_box hk4.out (hb4.out.mono (by omega)) hv4.out (by decide) (by decide) (by decide) (by omega) _, box_store hv4.out (by decide) ho4.out, by have := hb4.out.size; simp; omega, (hB.trans (hb4.out.mono (by omega))).setCell (by simp only []; omega) _⟩
  case done =>
    rintro D ys W hD ⟨rfl, _⟩ ⟨⟨v, hv, ho⟩, hz, hB⟩ hK
    have HV := Lib.hid hv
    have HO := Lib.hid ho
    have c0 : W.cell? ⟨g + 1, 0, none⟩ = some v := setRow_cell hv rfl
    have hlt5 := HV5.out
    clear hv ho
    gi_wp2
    refine ⟨by simp, .inl ⟨_, _, rfl, run_takeDeferred hK, ?_⟩⟩
    refine ⟨_, results_tmp2 rfl _ _ _, v, by rw [HC.out]; rfl, ?_, hB.trans (belowK_b (w := W0) B0.out.size W D _ _ hD hK rfl rfl)⟩
    rw [HE.out]
    have hx : Own (W.putObj D (.deferred none)) W0.heap.size v (enN (st0 m) l l.length) := ownsRow_putObj HO.out _ hK rfl
    exact hx.ints (by have := enN_len (st0 m) l l.length; omega)
  case stop =>
    rintro D c pre W _ _ h _
    exact h.elim
end Go.Proofs.Ytgdcgmnfgbdiiaa
