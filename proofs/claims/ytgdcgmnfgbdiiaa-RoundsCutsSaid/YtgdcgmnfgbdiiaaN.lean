/- Helper facts for the statements of this seat; no statement itself. -/
import Derived.Test.YtgdcgmnfgbdiiaaComQ
import Derived.Test.YtgdcgmnfgbdiiaaL
import Derived.Test.YtgdcgmnfgbdiiaaM
import Derived.Deep.RegionLaw
import Derived.Outline
namespace Go.Proofs.Ytgdcgmnfgbdiiaa
open Go.RowKit Go.Shelf
set_option linter.unusedSimpArgs false
set_option linter.unusedVariables false
set_option linter.unnecessarySimpa false
attribute [local go_sem] Oper.semAt_some

/-- What a round of a loop over cut keeps. -/
def KpR (B : Nat) (W W' : World) : Prop := Below B W W' ∧ ∀ (k : Nat) (cs : Array Value) (t : TypeId), (t = 70 ∨ t = 75 ∨ t = 26) → W.heap[k]? = some (Obj.cells cs t (0, 0)) → W'.heap[k]? = some (Obj.cells cs t (0, 0))
theorem KpR.trans {B : Nat} {X Y Z : World} (h : KpR B X Y) (k : KpR B Y Z) : KpR B X Z := ⟨h.1.trans k.1, fun i cs t ht hi => k.2 i cs t ht (h.2 i cs t ht hi)⟩
theorem KpR.putObj {B : Nat} (W : World) (l : Nat) (o o' : Obj) (hB : B ≤ l) (h : W.heap[l]? = some o) (hc : o.isCells = false) : KpR B W (W.putObj l o') :=
  ⟨⟨rfl, rfl, rfl, by simp, fun k hk => World.putObj_heap_other (by omega)⟩, fun k cs t _ hk => heap_turned (B := B) hk h hc o'⟩
theorem KpR.below {B : Nat} {W W' : World} (hB : B ≤ W.heap.size) (h : Below W.heap.size W W') : KpR B W W' := ⟨h.mono hB, fun k cs t _ hk => bkeep h hk⟩

/-- How the statement '*owed = s.owes()' ends. -/
def RegQ (fr : Act) (W : World) (bo : Nat) (t : St) : Exit → Act → World → Prop := fun e a w => e = .normal ∧ a = fr ∧ ∃ w1, Below W.heap.size W w1 ∧ w = w1.setRow bo (stC t)
theorem reg_join {n : Nat} {c : Code} {Qx : Exit → Act → World → Prop} {a : Act} {W : World} (bo d0 d1 d2 d3 : Nat) (s : St)
    (hreg : c.wp Try.prog (RegQ ((((a.put (some d0) (.pointer (some ⟨bo, 0, none⟩))).put (some d1) (.agg (stC s))).put (some d2) (.agg (stC (ows s)))).put (some d3) (.pointer (some ⟨bo, 0, none⟩))) W bo (ows s)) a W)
    (hpost : ∀ w1, Below W.heap.size W w1 → Qx .normal ((((a.put (some d0) (.pointer (some ⟨bo, 0, none⟩))).put (some d1) (.agg (stC s))).put (some d2) (.agg (stC (ows s)))).put (some d3) (.pointer (some ⟨bo, 0, none⟩))) (w1.setRow bo (stC (ows s)))) : c.wpIn Fence.wide n Try.prog Qx a W :=
  wpIn_wide.2 (wp_mono hreg (by rintro e a' w' ⟨rfl, rfl, w1, hb1, rfl⟩; exact hpost w1 hb1))
theorem undrew {W w1 : World} (h : Below W.drew.heap.size W.drew w1) : Below W.heap.size W w1 := ⟨h.os, h.tape, h.output, h.size, h.block⟩
/-- What the iterator's own memory holds. -/
def CutM (bs bo bp : Nat) (s d : St) (W : World) : Prop := W.heap[bs]? = some (.cells (stC s) 70 (0, 0)) ∧ W.heap[bo]? = some (.cells (stC d) 70 (0, 0)) ∧ W.heap[bp]? = some (.cells #[.pointer (some ⟨bo, 0, none⟩)] 75 (0, 0))
theorem CutM.below {bs bo bp : Nat} {s d : St} {W W' : World} (h : CutM bs bo bp s d W) (hb : Below W.heap.size W W') : CutM bs bo bp s d W' := ⟨bkeep hb h.1, bkeep hb h.2.1, bkeep hb h.2.2⟩
theorem CutM.ne {bs bo bp : Nat} {s d : St} {W : World} (h : CutM bs bo bp s d W) : bp ≠ bs ∧ bp ≠ bo := by
  constructor
  · intro e; rw [e] at h; have := h.2.2; rw [h.1] at this; simp at this
  · intro e; rw [e] at h; have := h.2.2; rw [h.2.1] at this; simp at this
theorem CutM.owed {bs bo bp : Nat} {s d : St} {W : World} (h : CutM bs bo bp s d W) (hne : bs ≠ bo) (d' : St) : CutM bs bo bp s d' (W.setRow bo (stC d')) := ⟨(setRow_other _ _ _ _ hne).trans h.1, setRow_heap _ _ _ _ _ _ h.2.1, (setRow_other _ _ _ _ h.ne.2).trans h.2.2⟩
theorem CutM.left_s {bs bo bp : Nat} {s s' d : St} {W W' : World} (h : CutM bs bo bp s d W) (hne : bs ≠ bo) (hl : Left bs 70 s' W W') : CutM bs bo bp s' d W' := ⟨hl.1, hl.2.heap h.2.1 (Ne.symm hne), hl.2.heap h.2.2 h.ne.1⟩
theorem CutM.left_d {bs bo bp : Nat} {s d d' : St} {W W' : World} (h : CutM bs bo bp s d W) (hne : bs ≠ bo) (hl : Left bo 70 d' W W') : CutM bs bo bp s d' W' := ⟨hl.2.heap h.1 hne, hl.1, hl.2.heap h.2.2 h.ne.2⟩
theorem CutM.kept {bs bo bp B : Nat} {s d : St} {W W' : World} (h : CutM bs bo bp s d W) (hk : KpR B W W') : CutM bs bo bp s d W' := ⟨hk.2 _ _ _ (.inl rfl) h.1, hk.2 _ _ _ (.inl rfl) h.2.1, hk.2 _ _ _ (.inr (.inl rfl)) h.2.2⟩
theorem abC_but {β : Type} {B g : Nat} {J : β → World → Prop} {s : β} {W W' : World} {cs : Array Value} (hJ : AbC B 70 J) (hs : J s W) (hB : B ≤ g) (hg : W.heap[g]? = some (.cells cs 70 (0, 0))) (hb : But g W W') : J s W' :=
  hJ s W W' (some g) hs ⟨hb.os, hb.tape, hb.output, hb.size, fun k hk hne => hb.block k hk (fun e => hne (by rw [e]))⟩ (fun r e => by cases e; exact ⟨hB, _, _, hg⟩)

set_option maxRecDepth 100000 in
set_option maxHeartbeats 4000000 in
theorem cut1_in (n : Nat) (hn : 1 ≤ n) (lb bs bo bp bl B : Nat) (st : St) (l : List En) (vl : Value) (hwf : st.Wf) (hv : ∀ j, j < l.length → erN st l j = 0) (J Jx : List Int → World → Prop) (hJ : AbC B 70 J)
    (hY : ∀ pre x W1, J pre W1 → pre.length < l.length → YieldAt Fence.wide (n - 1) Try.prog lb #[.int .i64 x] W1 fun e W' => (e = .returned (.bool true) ∧ J (pre ++ [x]) W' ∧ KpR B W1 W') ∨ (e = .returned (.bool false) ∧ Jx (pre ++ [x]) W'))
    (W : World) (hne : bs ≠ bo) (hBs : B ≤ bs) (hBo : B ≤ bo) (h1 : W.heap[bs]? = some (.cells (stC st) 70 (0, 0))) (tq : St) (hto : tq.Wf) (h2 : W.heap[bo]? = some (.cells (stC tq) 70 (0, 0))) (h3 : W.heap[bp]? = some (.cells #[.pointer (some ⟨bo, 0, none⟩)] 75 (0, 0))) (h4 : W.heap[bl]? = some (.cells #[vl] 26 (0, 0)))
    (w : World) (hwB : w.heap.size = B) (hlw : IsLog w vl l) (hbw : Below B w W) (h0 : J [] W) :
    CallsIn Fence.wide n Try.prog 49 #[.func (.yield lb) #[] #[], .pointer (some ⟨bs, 0, none⟩), .pointer (some ⟨bp, 0, none⟩), .pointer (some ⟨bl, 0, none⟩)] W fun e W' => (∃ v, e = .returned v) ∧
      ((∃ xs, (xs = enN st l l.length ∧ W'.heap[bo]? = some (.cells (stC (owN st l l.length)) 70 (0, 0))) ∧ J xs W') ∨ (∃ pre, True ∧ Jx pre W')) := by
  obtain ⟨al, nl, cl, rfl⟩ := hlw.slice
  obtain ⟨rfl, hln⟩ := hlw.len
  have HL := Lib.hid hlw
  have HBW := Lib.hid hbw
  have H1 := Lib.hid h1
  have H2 := Lib.hid h2
  have H3 := Lib.hid h3
  have H4 := Lib.hid h4
  have HW := Lib.hid hwf
  have HTO := Lib.hid hto
  have HV := Lib.hid hv
  have hWB := Lib.hid hwB
  have HOW := Lib.hid (Wf_ows hwf)
  clear hlw hbw h1 h2 h3 h4 hwf hto hv hwB
  have c3 : W.cell? ⟨bp, 0, none⟩ = some (.pointer (some ⟨bo, 0, none⟩)) := setRow_cell H3.out rfl
  refine callsIn_of_wp Try.func49 rfl trivial ?_ rfl
  simp only [Try.ntmps49, List.size_toArray, List.length_cons, List.length_nil, Nat.reduceAdd, Nat.reduceSub, Array.replicate_succ, Array.replicate_zero, List.push_toArray, List.append_toArray, List.nil_append, List.cons_append]
  gi_wp2_with fail
  refine reg_join bo 7 8 9 10 st ?reg ?post
  case reg =>
    refine wp_region_any (by kernel_rfl) ?_
    change wpAny _ _ _ _ _ _ _ (World.drew _)
    refine wpAny_ready (rs := [0, 1]) (by kernel_rfl) (by simp) ?_
    refine AllReady.cons rfl (fun K hK => ?_) (AllReady.cons rfl (fun K hK => ?_) AllReady.nil)
    · rw [if_pos (by rfl)]
      go_simp
      refine hK _ _ ?_
      clear hK K
      refine wpAny_ready (rs := [1]) (by kernel_rfl) (by simp) ?_
      refine AllReady.cons rfl (fun K hK => ?_) AllReady.nil
      rw [if_pos (by rfl)]
      refine wp_load_row 70 (.tmp 1) rfl bs rfl 70 (stC st) (0, 0) _ H1.out Try.underlying70 rfl (by rw [size70, stC_size HW.out]) ?_
      refine hK _ _ ?_
      clear hK K
      refine wpAny_ready (rs := [2]) (by kernel_rfl) (by simp) ?_
      refine AllReady.cons rfl (fun K hK => ?_) AllReady.nil
      rw [if_pos (by rfl)]
      go_simp
      refine (owes_any st _ HW.out).mono ?_
      rintro e w1 ⟨rfl, hb1⟩
      have c4 : w1.cell? ⟨bp, 0, none⟩ = some (.pointer (some ⟨bo, 0, none⟩)) := cellB hb1 c3
      have G2 : Hid (w1.heap[bo]? = some (.cells (stC tq) 70 (0, 0))) := bkeep (wr := W.drew) hb1 H2.out
      have HB1 := Lib.hid hb1
      clear hb1
      refine hK _ _ ?_
      clear hK K
      refine wpAny_ready (rs := [3]) (by kernel_rfl) (by simp) ?_
      refine AllReady.cons rfl (fun K hK => ?_) AllReady.nil
      rw [if_pos (by rfl)]
      go_simp
      refine hK _ _ ?_
      clear hK K
      refine wpAny_ready (rs := [4]) (by kernel_rfl) (by simp) ?_
      refine AllReady.cons rfl (fun K hK => ?_) AllReady.nil
      rw [if_pos (by rfl)]
      refine wp_store_row 70 (.tmp 10) (.tmp 9) rfl bo (stC (ows st)) rfl rfl 70 (stC tq) G2.out (by rw [size70, stC_size HOW.out]) (by rw [stC_size HTO.out, stC_size HOW.out]) (stC_one _) ?_
      refine hK _ _ ?_
      clear hK K
      refine wpAny_done (by kernel_rfl) ?_ _
      exact ⟨rfl, rfl, w1, undrew HB1.out, rfl⟩
    · rw [if_pos (by rfl)]
      refine wp_load_row 70 (.tmp 1) rfl bs rfl 70 (stC st) (0, 0) _ H1.out Try.underlying70 rfl (by rw [size70, stC_size HW.out]) ?_
      refine hK _ _ ?_
      clear hK K
      refine wpAny_ready (rs := [0, 2]) (by kernel_rfl) (by simp) ?_
      refine AllReady.cons rfl (fun K hK => ?_) (AllReady.cons rfl (fun K hK => ?_) AllReady.nil)
      · rw [if_pos (by rfl)]
        go_simp
        refine hK _ _ ?_
        clear hK K
        refine wpAny_ready (rs := [2]) (by kernel_rfl) (by simp) ?_
        refine AllReady.cons rfl (fun K hK => ?_) AllReady.nil
        rw [if_pos (by rfl)]
        go_simp
        refine (owes_any st _ HW.out).mono ?_
        rintro e w1 ⟨rfl, hb1⟩
        have c4 : w1.cell? ⟨bp, 0, none⟩ = some (.pointer (some ⟨bo, 0, none⟩)) := cellB hb1 c3
        have G2 : Hid (w1.heap[bo]? = some (.cells (stC tq) 70 (0, 0))) := bkeep (wr := W.drew) hb1 H2.out
        have HB1 := Lib.hid hb1
        clear hb1
        refine hK _ _ ?_
        clear hK K
        refine wpAny_ready (rs := [3]) (by kernel_rfl) (by simp) ?_
        refine AllReady.cons rfl (fun K hK => ?_) AllReady.nil
        rw [if_pos (by rfl)]
        go_simp
        refine hK _ _ ?_
        clear hK K
        refine wpAny_ready (rs := [4]) (by kernel_rfl) (by simp) ?_
        refine AllReady.cons rfl (fun K hK => ?_) AllReady.nil
        rw [if_pos (by rfl)]
        refine wp_store_row 70 (.tmp 10) (.tmp 9) rfl bo (stC (ows st)) rfl rfl 70 (stC tq) G2.out (by rw [size70, stC_size HOW.out]) (by rw [stC_size HTO.out, stC_size HOW.out]) (stC_one _) ?_
        refine hK _ _ ?_
        clear hK K
        refine wpAny_done (by kernel_rfl) ?_ _
        exact ⟨rfl, rfl, w1, undrew HB1.out, rfl⟩
      · rw [if_pos (by rfl)]
        go_simp
        refine (owes_any st _ HW.out).mono ?_
        rintro e w1 ⟨rfl, hb1⟩
        have c4 : w1.cell? ⟨bp, 0, none⟩ = some (.pointer (some ⟨bo, 0, none⟩)) := cellB hb1 c3
        have G2 : Hid (w1.heap[bo]? = some (.cells (stC tq) 70 (0, 0))) := bkeep (wr := W.drew) hb1 H2.out
        have HB1 := Lib.hid hb1
        clear hb1
        refine hK _ _ ?_
        clear hK K
        refine wpAny_ready (rs := [0]) (by kernel_rfl) (by simp) ?_
        refine AllReady.cons rfl (fun K hK => ?_) AllReady.nil
        rw [if_pos (by rfl)]
        go_simp
        refine hK _ _ ?_
        clear hK K
        refine wpAny_ready (rs := [3]) (by kernel_rfl) (by simp) ?_
        refine AllReady.cons rfl (fun K hK => ?_) AllReady.nil
        rw [if_pos (by rfl)]
        go_simp
        refine hK _ _ ?_
        clear hK K
        refine wpAny_ready (rs := [4]) (by kernel_rfl) (by simp) ?_
        refine AllReady.cons rfl (fun K hK => ?_) AllReady.nil
        rw [if_pos (by rfl)]
        refine wp_store_row 70 (.tmp 10) (.tmp 9) rfl bo (stC (ows st)) rfl rfl 70 (stC tq) G2.out (by rw [size70, stC_size HOW.out]) (by rw [stC_size HTO.out, stC_size HOW.out]) (stC_one _) ?_
        refine hK _ _ ?_
        clear hK K
        refine wpAny_done (by kernel_rfl) ?_ _
        exact ⟨rfl, rfl, w1, undrew HB1.out, rfl⟩
  case post =>
  intro w1 hb1
  have M1 : Hid (CutM bs bo bp st (owN st l 0) (w1.setRow bo (stC (ows st)))) := (CutM.below (s := st) (d := tq) ⟨H1.out, H2.out, H3.out⟩ hb1).owed hne (ows st)
  have L1 : Hid ((w1.setRow bo (stC (ows st))).heap[bl]? = some (.cells #[.slice al l.length cl] 26 (0, 0))) := by
    have h5 := bkeep hb1 H4.out
    refine (setRow_other _ _ _ _ ?_).trans h5
    intro e
    rw [e] at h5
    rw [bkeep hb1 H2.out] at h5
    simp at h5
  have B1 : Hid (Below B w (w1.setRow bo (stC (ows st)))) := by
    have hb2 : Below B w w1 := HBW.out.trans (hb1.mono (by have := HBW.out.size; rw [hWB.out] at this; exact this))
    exact below_setRow hb2 hBo _
  have J1 : Hid (J [] (w1.setRow bo (stC (ows st)))) := abC_but hJ (hJ.below h0 hb1) hBo (bkeep hb1 H2.out) (But.row _ _ _)
  have c4 : (w1.setRow bo (stC (ows st))).cell? ⟨bl, 0, none⟩ = some (.slice al l.length cl) := setRow_cell L1.out rfl
  clear c3 hb1 H1 H2 H3 H4 HBW L1 h0
  generalize w1.setRow bo (stC (ows st)) = W1 at *
  gi_wp2_with fail
  gi_loopw [5, 6, 13] (fun p q i wr => ∃ k : Nat, k ≤ l.length ∧ i = .int .i64 k ∧ J (enN st l k) wr ∧ Hid (CutM bs bo bp (stN st l k) (owN st l k) wr) ∧ Hid (Below B w wr)) (fun _ _ i _ => l.length - (intOf i).toNat)
  case atStart => exact ⟨0, by omega, rfl, J1.out, M1, B1⟩
  case round =>
    obtain ⟨k, hk, rfl, hJs, hM, hB⟩ := hrel
    clear J1 M1 B1 c4
    by_cases hlt : k < l.length
    · obtain ⟨bb, off, rfl, c0, c1⟩ := (HL.out.keep (by rw [hWB.out]; exact hB.out)).at k hlt
      have i1 : (0 : Int) ≤ (k : Int) := by omega
      have i2 : (k : Int) < (l.length : Int) := by omega
      have HS : Hid (stN st l (k + 1) = apS (stN st l k) (l.getD k (0, 0)).1 (l.getD k (0, 0)).2) := rfl
      have HA : Hid (apE (stN st l k) (l.getD k (0, 0)).1 (l.getD k (0, 0)).2 = 0) := HV.out k hlt
      have HO : Hid (owN st l (k + 1) = if nonB (pyS (owN st l k) (l.getD k (0, 0)).1 (l.getD k (0, 0)).2) = true then ows (stN st l (k + 1)) else pyS (owN st l k) (l.getD k (0, 0)).1 (l.getD k (0, 0)).2) := rfl
      have HE : Hid (enN st l (k + 1) = if nonB (pyS (owN st l k) (l.getD k (0, 0)).1 (l.getD k (0, 0)).2) = true then enN st l k ++ [(k : Int) + 1] else enN st l k) := rfl
      have HW0 := Lib.hid (Wf_stN HW.out l k)
      have HWS := Lib.hid (Wf_stN HW.out l (k + 1))
      have HOS := Lib.hid (Wf_ows (Wf_stN HW.out l (k + 1)))
      have HWO := Lib.hid (Wf_owN HW.out l k)
      have HWP := Lib.hid (Wf_pyS (Wf_owN HW.out l k) (l.getD k (0, 0)).1 (l.getD k (0, 0)).2)
      have HEL := Lib.hid (enN_len st l k)
      generalize (l.getD k (0, 0)).1 = kk at *
      generalize (l.getD k (0, 0)).2 = xx at *
      have hbs := lt_of_some hM.out.1
      gi_wp2_with fail
      refine ⟨trivial, ?_⟩
      refine (callsIn_wide.2 (apply_any (stN st l k) bs 70 kk xx _ HW0.out (hold1 hM.out.1 _))).mono ?_
      rintro e w5 ⟨rfl, hl5⟩
      rw [HA.out]
      rw [← HS.out] at hl5
      have A5 : Below wr.heap.size wr (wr.alloc (.cells #[.int .i64 kk, .int .i64 xx] 37)) := ((Below.refl _ _).alloc (Nat.le_refl _) _)
      have M5 := Lib.hid ((hM.out.below A5).left_s hne hl5)
      have E5 : Hid (w5.heap[wr.heap.size]? = some (.cells #[.int .i64 kk, .int .i64 xx] 37 (0, 0))) := hl5.2.heap (h1_0 _ _) (by omega)
      have J5 := abC_but hJ (hJ.below hJs A5) hBs (hold1 hM.out.1 _) hl5.2
      have B5 : Hid (Below B w w5) := (hB.out.trans (A5.mono (by have := hB.out.size; rw [hWB.out] at this; exact this))).trans (hl5.2.below hBs (by have := hB.out.size; rw [hWB.out] at this; simp only [World.size_alloc]; omega))
      have hsz : wr.heap.size < w5.heap.size := lt_of_some E5.out
      clear hl5 A5 hM hB hJs c0 c1
      have c5 : w5.cell? ⟨bp, 0, none⟩ = some (.pointer (some ⟨bo, 0, none⟩)) := setRow_cell M5.out.2.2 rfl
      obtain ⟨d0, d1⟩ := c2 E5.out
      gi_wp2_with fail
      refine ⟨trivial, ?_⟩
      refine (callsIn_wide.2 (pay_any (owN st l k) (stN st l k) bo 70 kk xx _ HWO.out M5.out.2.1 HA.out)).mono ?_
      rintro e w6 ⟨⟨v6, rfl⟩, hl6⟩
      have M6 := Lib.hid (M5.out.left_d hne hl6)
      have J6 := abC_but hJ J5 hBo M5.out.2.1 hl6.2
      have B6 : Hid (Below B w w6) := B5.out.trans (hl6.2.below hBo (by have := B5.out.size; rw [hWB.out] at this; exact this))
      clear hl6 M5 B5 J5 c5 d0 d1 E5
      have c6 : w6.cell? ⟨bp, 0, none⟩ = some (.pointer (some ⟨bo, 0, none⟩)) := setRow_cell M6.out.2.2 rfl
      gi_wp2_with fail
      refine ⟨trivial, ?_⟩
      refine (callsIn_wide.2 (none_any (pyS (owN st l k) kk xx) bo 70 _ HWP.out M6.out.2.1)).mono ?_
      rintro e w7 ⟨rfl, rfl⟩
      cases hno : nonB (pyS (owN st l k) kk xx) with
      | false =>
        rw [hno] at HO HE
        have HO2 : Hid (owN st l (k + 1) = pyS (owN st l k) kk xx) := HO.out
        have HE2 : Hid (enN st l (k + 1) = enN st l k) := HE.out
        clear HO HE hno
        gi_wp2_with fail
        go_roundw
        case rel => exact ⟨k + 1, by omega, by go_num, by rw [HE2.out]; exact J6, by rw [HO2.out]; exact M6, B6⟩
        case measure => simp [intOf]; omega
      | true =>
        rw [hno] at HO HE
        have HO2 : Hid (owN st l (k + 1) = ows (stN st l (k + 1))) := HO.out
        have HE2 : Hid (enN st l (k + 1) = enN st l k ++ [(k : Int) + 1]) := HE.out
        clear HO HE hno
        have M6s : Hid (w6.heap[bs]? = some (.cells (stC (stN st l (k + 1))) 70 (0, 0))) := M6.out.1
        have M6o : Hid (w6.heap[bo]? = some (.cells (stC (pyS (owN st l k) kk xx)) 70 (0, 0))) := M6.out.2.1
        gi_wp2_with fail
        refine reg_join bo 26 27 28 29 (stN st l (k + 1)) ?reg2 ?post2
        case reg2 =>
          refine wp_region_any (by kernel_rfl) ?_
          change wpAny _ _ _ _ _ _ _ (World.drew _)
          refine wpAny_ready (rs := [0, 1]) (by kernel_rfl) (by simp) ?_
          refine AllReady.cons rfl (fun K hK => ?_) (AllReady.cons rfl (fun K hK => ?_) AllReady.nil)
          · rw [if_pos (by rfl)]
            go_simp
            refine hK _ _ ?_
            clear hK K
            refine wpAny_ready (rs := [1]) (by kernel_rfl) (by simp) ?_
            refine AllReady.cons rfl (fun K hK => ?_) AllReady.nil
            rw [if_pos (by rfl)]
            refine wp_load_row 70 (.tmp 1) rfl bs rfl 70 (stC (stN st l (k + 1))) (0, 0) _ M6s.out Try.underlying70 rfl (by rw [size70, stC_size HWS.out]) ?_
            refine hK _ _ ?_
            clear hK K
            refine wpAny_ready (rs := [2]) (by kernel_rfl) (by simp) ?_
            refine AllReady.cons rfl (fun K hK => ?_) AllReady.nil
            rw [if_pos (by rfl)]
            go_simp
            refine (owes_any (stN st l (k + 1)) _ HWS.out).mono ?_
            rintro e w1 ⟨rfl, hb1⟩
            have c4 : w1.cell? ⟨bp, 0, none⟩ = some (.pointer (some ⟨bo, 0, none⟩)) := cellB hb1 c6
            have G2 : Hid (w1.heap[bo]? = some (.cells (stC (pyS (owN st l k) kk xx)) 70 (0, 0))) := bkeep (wr := w6.drew) hb1 M6o.out
            have HB1 := Lib.hid hb1
            clear hb1
            refine hK _ _ ?_
            clear hK K
            refine wpAny_ready (rs := [3]) (by kernel_rfl) (by simp) ?_
            refine AllReady.cons rfl (fun K hK => ?_) AllReady.nil
            rw [if_pos (by rfl)]
            go_simp
            refine hK _ _ ?_
            clear hK K
            refine wpAny_ready (rs := [4]) (by kernel_rfl) (by simp) ?_
            refine AllReady.cons rfl (fun K hK => ?_) AllReady.nil
            rw [if_pos (by rfl)]
            refine wp_store_row 70 (.tmp 29) (.tmp 28) rfl bo (stC (ows (stN st l (k + 1)))) rfl rfl 70 (stC (pyS (owN st l k) kk xx)) G2.out (by rw [size70, stC_size HOS.out]) (by rw [stC_size HWP.out, stC_size HOS.out]) (stC_one _) ?_
            refine hK _ _ ?_
            clear hK K
            refine wpAny_done (by kernel_rfl) ?_ _
            exact ⟨rfl, rfl, w1, undrew HB1.out, rfl⟩
          · rw [if_pos (by rfl)]
            refine wp_load_row 70 (.tmp 1) rfl bs rfl 70 (stC (stN st l (k + 1))) (0, 0) _ M6s.out Try.underlying70 rfl (by rw [size70, stC_size HWS.out]) ?_
            refine hK _ _ ?_
            clear hK K
            refine wpAny_ready (rs := [0, 2]) (by kernel_rfl) (by simp) ?_
            refine AllReady.cons rfl (fun K hK => ?_) (AllReady.cons rfl (fun K hK => ?_) AllReady.nil)
            · rw [if_pos (by rfl)]
              go_simp
              refine hK _ _ ?_
              clear hK K
              refine wpAny_ready (rs := [2]) (by kernel_rfl) (by simp) ?_
              refine AllReady.cons rfl (fun K hK => ?_) AllReady.nil
              rw [if_pos (by rfl)]
              go_simp
              refine (owes_any (stN st l (k + 1)) _ HWS.out).mono ?_
              rintro e w1 ⟨rfl, hb1⟩
              have c4 : w1.cell? ⟨bp, 0, none⟩ = some (.pointer (some ⟨bo, 0, none⟩)) := cellB hb1 c6
              have G2 : Hid (w1.heap[bo]? = some (.cells (stC (pyS (owN st l k) kk xx)) 70 (0, 0))) := bkeep (wr := w6.drew) hb1 M6o.out
              have HB1 := Lib.hid hb1
              clear hb1
              refine hK _ _ ?_
              clear hK K
              refine wpAny_ready (rs := [3]) (by kernel_rfl) (by simp) ?_
              refine AllReady.cons rfl (fun K hK => ?_) AllReady.nil
              rw [if_pos (by rfl)]
              go_simp
              refine hK _ _ ?_
              clear hK K
              refine wpAny_ready (rs := [4]) (by kernel_rfl) (by simp) ?_
              refine AllReady.cons rfl (fun K hK => ?_) AllReady.nil
              rw [if_pos (by rfl)]
              refine wp_store_row 70 (.tmp 29) (.tmp 28) rfl bo (stC (ows (stN st l (k + 1)))) rfl rfl 70 (stC (pyS (owN st l k) kk xx)) G2.out (by rw [size70, stC_size HOS.out]) (by rw [stC_size HWP.out, stC_size HOS.out]) (stC_one _) ?_
              refine hK _ _ ?_
              clear hK K
              refine wpAny_done (by kernel_rfl) ?_ _
              exact ⟨rfl, rfl, w1, undrew HB1.out, rfl⟩
            · rw [if_pos (by rfl)]
              go_simp
              refine (owes_any (stN st l (k + 1)) _ HWS.out).mono ?_
              rintro e w1 ⟨rfl, hb1⟩
              have c4 : w1.cell? ⟨bp, 0, none⟩ = some (.pointer (some ⟨bo, 0, none⟩)) := cellB hb1 c6
              have G2 : Hid (w1.heap[bo]? = some (.cells (stC (pyS (owN st l k) kk xx)) 70 (0, 0))) := bkeep (wr := w6.drew) hb1 M6o.out
              have HB1 := Lib.hid hb1
              clear hb1
              refine hK _ _ ?_
              clear hK K
              refine wpAny_ready (rs := [0]) (by kernel_rfl) (by simp) ?_
              refine AllReady.cons rfl (fun K hK => ?_) AllReady.nil
              rw [if_pos (by rfl)]
              go_simp
              refine hK _ _ ?_
              clear hK K
              refine wpAny_ready (rs := [3]) (by kernel_rfl) (by simp) ?_
              refine AllReady.cons rfl (fun K hK => ?_) AllReady.nil
              rw [if_pos (by rfl)]
              go_simp
              refine hK _ _ ?_
              clear hK K
              refine wpAny_ready (rs := [4]) (by kernel_rfl) (by simp) ?_
              refine AllReady.cons rfl (fun K hK => ?_) AllReady.nil
              rw [if_pos (by rfl)]
              refine wp_store_row 70 (.tmp 29) (.tmp 28) rfl bo (stC (ows (stN st l (k + 1)))) rfl rfl 70 (stC (pyS (owN st l k) kk xx)) G2.out (by rw [size70, stC_size HOS.out]) (by rw [stC_size HWP.out, stC_size HOS.out]) (stC_one _) ?_
              refine hK _ _ ?_
              clear hK K
              refine wpAny_done (by kernel_rfl) ?_ _
              exact ⟨rfl, rfl, w1, undrew HB1.out, rfl⟩
        case post2 =>
          intro w1 hb1
          have M7 : Hid (CutM bs bo bp (stN st l (k + 1)) (owN st l (k + 1)) (w1.setRow bo (stC (ows (stN st l (k + 1)))))) := by rw [HO2.out]; exact (M6.out.below hb1).owed hne _
          have B7 : Hid (Below B w (w1.setRow bo (stC (ows (stN st l (k + 1)))))) := below_setRow (B6.out.trans (hb1.mono (by have := B6.out.size; rw [hWB.out] at this; exact this))) hBo _
          have J7 := abC_but hJ (hJ.below J6 hb1) hBo (bkeep hb1 M6.out.2.1) (But.row _ _ (stC (ows (stN st l (k + 1)))))
          clear hb1 M6s M6o M6 B6 J6 c6
          generalize w1.setRow bo (stC (ows (stN st l (k + 1)))) = W7 at *
          obtain ⟨fn, tmps, assign, body, hy, hR⟩ := hY _ ((k : Int) + 1) W7 J7 (by have := HEL.out; omega)
          gi_wp2
          refine hR.mono ?_
          rintro e W8 (⟨rfl, hJ8, hk8⟩ | ⟨rfl, hJx8⟩)
          · gi_wp2
            go_roundw
            case rel => exact ⟨k + 1, by omega, by go_num, by rw [HE2.out]; exact hJ8, M7.out.kept hk8, B7.out.trans hk8.1⟩
            case measure => simp [intOf]; omega
          · gi_wp2
            refine bodyPost_ret (results_none rfl _ _ _) rfl ?_
            exact ⟨⟨_, rfl⟩, .inr ⟨_, trivial, hJx8⟩⟩
    · obtain rfl : k = l.length := by omega
      gi_wp2
      go_end0
      exact ⟨⟨_, rfl⟩, .inl ⟨_, ⟨rfl, hM.out.2.1⟩, hJs⟩⟩
end Go.Proofs.Ytgdcgmnfgbdiiaa
