/- Helper facts for the statements of this seat; no statement itself. -/
import Derived.Test.YtgdcgmnfgbdiiaaR
import Derived.StillTailTactics
import Derived.Outline
namespace Go.Proofs.Ytgdcgmnfgbdiiaa
open Go.RowKit Go.Shelf
set_option linter.unusedSimpArgs false
set_option linter.unusedVariables false
set_option linter.unnecessarySimpa false
attribute [local go_sem] Oper.semAt_some

/-- What Within gives. -/
def subL (l : List En) (f t : Nat) : List En := (l.take t).drop f
theorem subL_len (l : List En) (f t : Nat) (h : t ≤ l.length) : (subL l f t).length = t - f := by simp [subL]; omega
theorem subL_at (l : List En) (f t k : Nat) (h : f + k < t) : (subL l f t).getD k (0, 0) = l.getD (f + k) (0, 0) := by
  simp only [subL, List.getD_eq_getElem?_getD, List.getElem?_drop]
  rw [List.getElem?_take_of_lt h]
theorem stN_sub (st : St) (l : List En) (f t : Nat) : ∀ k, f + k ≤ t → stN (stN st l f) (subL l f t) k = stN st l (f + k)
  | 0, _ => rfl
  | k + 1, h => by
    show apS (stN (stN st l f) (subL l f t) k) _ _ = apS (stN st l (f + k)) _ _
    rw [stN_sub st l f t k (by omega), subL_at l f t k (by omega)]; rfl
theorem erN_sub (st : St) (l : List En) (f t k : Nat) (h : f + k < t) : erN (stN st l f) (subL l f t) k = erN st l (f + k) := by
  unfold erN
  rw [stN_sub st l f t k (by omega), subL_at l f t k h]
def wiE (m : Mo) (l : List En) (f t : Int) : Int := if (vldL m l).1 = 0 then (if f < 0 ∨ t < f ∨ (l.length : Int) < t then 2 else 0) else (vldL m l).1
def wiN (m : Mo) (l : List En) (f t : Int) : Int := if wiE m l f t = 0 then ((enN (stN (st0 m) l f.toNat) (subL l f.toNat t.toNat) (subL l f.toNat t.toNat).length).length : Int) else 0
def Wit (m : Mo) (l : List En) (f t : Int) (w : World) (e : Ending) (w' : World) : Prop := e = .returned (.tuple #[.int .i64 (wiN m l f t), .int .i64 (wiE m l f t)]) ∧ Below w.heap.size w w'

/-- A whole row loaded in the still head of a region. -/
theorem still_load_row {P : Program} {ops : Array Oper} {rest : List Oper} {o : Oper} {a : Act} {w : World} {Q : Act → Prop} (hgd : o.guard = none) (ty : TypeId) (x : Operand) (ho : o.op = .load ty x) (g : Nat) (hx : a.eval x = .pointer (some ⟨g, 0, none⟩)) (t : TypeId) (cs : Array Value) (d : TypeDesc) (hg : w.heap[g]? = some (.cells cs t (0, 0)))
    (hu : P.underlying ty = some d) (hd : (match d with | .struct _ | .array _ _ => true | _ => false) = true) (hi : (P.info? ty).map (·.size) = some cs.size) (h : wpStill P ops w Q rest (a.put o.dst (.agg cs))) : wpStill P ops w Q (o :: rest) a := by
  refine wpStill_step fun K hK => ?_
  rw [if_pos (by simp [Region.wanted, hgd])]
  unfold Oper.still execOp
  simp only [ho, hx, Instr.loadAt, Instr.sureAddr, Sem.run_bind, Sem.run_pure, Result.andThen_ok, run_loadVar_row w g t ty cs (0, 0) d hg hu hd hi, Oper.stillUpon_value]
  exact hK _ h
def RegW (fr : Act) (wf : World) : Exit → Act → World → Prop := fun e a w => e = .normal ∧ a = fr ∧ w = wf
/-- The log from entry f to entry t. -/
def subV (al : Option Addr) (cl f t : Nat) : Value := .slice (if cl = f then al else Option.map (fun x => x.add (f * 2)) al) (t - f) (cl - f)
def cutW (S : St) (v : Value) (g : Nat) (W : World) : World := ((W.alloc (.cells (stC S) 70)).alloc (.cells #[v] 26)).alloc (.cells #[.pointer (some ⟨g, 0, none⟩)] 75)
theorem reg_w {n : Nat} {c : Code} {Qx : Exit → Act → World → Prop} {a : Act} {W : World} (g gs f t : Nat) (S : St) (al : Option Addr) (nl cl : Nat)
    (hreg : c.wp Try.prog (RegW ((((((a.put (some 52) (.agg (stC S))).put (some 53) (.slice al nl cl)).put (some 54) (.int .i64 f)).put (some 55) (.int .i64 t)).put (some 56) (subV al cl f t)).put (some 57) (.func (.func 49) #[] #[.pointer (some ⟨W.drew.heap.size, 0, none⟩), .pointer (some ⟨W.drew.heap.size + 1 + 1, 0, none⟩), .pointer (some ⟨W.drew.heap.size + 1, 0, none⟩)])) (cutW S (subV al cl f t) g W.drew)) a W)
    (hpost : Qx .normal ((((((a.put (some 52) (.agg (stC S))).put (some 53) (.slice al nl cl)).put (some 54) (.int .i64 f)).put (some 55) (.int .i64 t)).put (some 56) (subV al cl f t)).put (some 57) (.func (.func 49) #[] #[.pointer (some ⟨W.drew.heap.size, 0, none⟩), .pointer (some ⟨W.drew.heap.size + 1 + 1, 0, none⟩), .pointer (some ⟨W.drew.heap.size + 1, 0, none⟩)])) (cutW S (subV al cl f t) g W.drew)) : c.wpIn Fence.wide n Try.prog Qx a W :=
  wpIn_wide.2 (wp_mono hreg (by rintro e a' w' ⟨rfl, rfl, rfl⟩; exact hpost))
theorem kpR_set {B : Nat} {W : World} {g t : Nat} {v : Value} (hg : W.heap[g]? = some (.cells #[v] t (0, 0))) (h1 : t ≠ 70) (h2 : t ≠ 75) (h3 : t ≠ 26) (hB : B ≤ g) (v' : Value) : KpR B W (W.setCell ⟨g, 0, none⟩ v') :=
  ⟨(Below.refl _ _).setCell (by simp only []; omega) _, fun k cs q hq hc => kt_setCell hg q (by rcases hq with rfl | rfl | rfl <;> assumption) 0 v' k cs _ hc⟩
theorem IsLog.sub {w : World} {al : Option Addr} {cl f t : Nat} {l : List En} (h : IsLog w (.slice al l.length cl) l) (h1 : f ≤ t) (h2 : t ≤ l.length) (h3 : l.length ≤ cl) : IsLog w (subV al cl f t) (subL l f t) := by
  have hl := subL_len l f t h2
  obtain ⟨a', n', c', e, _, h5, h6⟩ := h
  cases e
  refine ⟨_, _, _, rfl, hl.symm, by omega, ?_⟩
  by_cases hft : f = t
  · exact .inl (List.eq_nil_of_length_eq_zero (by omega))
  · rcases h6 with h6 | ⟨b, off, rfl, h7⟩
    · subst h6
      exact .inl (List.eq_nil_of_length_eq_zero (by simp only [List.length_nil] at h2; omega))
    · refine .inr ⟨b, off + f * 2, ?_, fun k hk => ?_⟩
      · rw [if_neg (by omega)]
        by_cases hf : f * 2 = 0
        · simp [Addr.add, hf]
        · simp [Addr.add, hf]
      · have h8 := h7 (f + k) (by omega)
        rw [subL_at l f t k (by omega)]
        rw [show off + f * 2 + k * 2 = off + (f + k) * 2 by omega]
        exact h8

set_option maxRecDepth 100000 in
set_option maxHeartbeats 2000000 in
theorem within_good (va vp vl : Value) (m : Mo) (l : List En) (f t : Nat) (w : World) (hm : IsM w va vp m) (hl : IsLog w vl l) (hcp : ∀ a n c, vl = .slice a n c → n ≤ c) (hc : (vldL m l).1 = 0) (h1 : f ≤ t) (h2 : t ≤ l.length) : Calls Try.prog 12 #[.agg #[va, vp], vl, .int .i64 f, .int .i64 t] w (Wit m l f t w) := by
  obtain ⟨aa, na, ca, rfl⟩ := hm.1.slice
  obtain ⟨ap, np, cp, rfl⟩ := hm.2.slice
  obtain ⟨al, nl, cl, rfl⟩ := hl.slice
  obtain ⟨rfl, hln⟩ := hl.len
  have hcl : l.length ≤ cl := hcp _ _ _ rfl
  clear hcp
  have HM := Lib.hid hm
  have HL := Lib.hid hl
  have HE : Hid (wiE m l f t = 0) := by unfold wiE; rw [if_pos hc, if_neg (by omega)]; exact rfl
  have HN : Hid (wiN m l f t = ((enN (stN (st0 m) l f) (subL l f t) (subL l f t).length).length : Int)) := by unfold wiN; rw [if_pos HE.out]; exact rfl
  have HC := Lib.hid hc
  have HV := Lib.hid (vld_none hc)
  have HV5 := Lib.hid (vld_none hc).2.1
  have H0 := Lib.hid (Wf_st0 m)
  have HZ := Lib.hid zSt_wf
  clear hm hl hc
  have hz := zero70
  have i0 : decide ((f : Int) < 0) = false := decide_eq_false (by omega)
  have i1 : decide ((t : Int) < (f : Int)) = false := decide_eq_false (by omega)
  have i2 : decide ((l.length : Int) < (t : Int)) = false := decide_eq_false (by omega)
  have i3 : (0 : Int) ≤ f := by omega
  have i4 : (f : Int) ≤ (cl : Int) := by omega
  have i5 : (t : Int) ≤ (cl : Int) := by omega
  have i6 : (f : Int) ≤ (t : Int) := by omega
  have i7 : f ≤ cl := by omega
  refine (callsIn_wide (n := 3)).1 ?_
  refine callsIn_of_wp_marks Try.func12 rfl trivial ?_ rfl
  simp only [Try.ntmps12, List.size_toArray, List.length_cons, List.length_nil, Nat.reduceAdd, Nat.reduceSub, Array.replicate_succ, Array.replicate_zero, List.push_toArray, List.append_toArray, List.nil_append, List.cons_append]
  gi_wp2_with fail
  refine ⟨trivial, ?_⟩
  refine (callsIn_wide.2 (valid_any _ _ _ m l _ (HM.out.keep ((Below.refl _ _).alloc (Nat.le_refl _) _)) (HL.out.keep ((Below.refl _ _).alloc (Nat.le_refl _) _)))).mono ?_
  rintro e w1 ⟨rfl, hb⟩
  rw [HC.out]
  have X1 := Lib.hid (bfirst _ _ hb).1
  have B1 := Lib.hid (bfirst _ _ hb).2
  clear hb
  gi_wp2_with (((with_reducible refine load_rowIn ?c1 25 (.tmp 4) ?c2 w.heap.size ?c3 25 #[.slice aa na ca, .slice ap np cp] _ X1.out Try.underlying25 ?c4 ?c5 ?_); (case c1 => rfl); (case c2 => rfl); (case c3 => rfl); (case c4 => rfl); (case c5 => kernel_rfl)))
  refine ⟨trivial, ?_⟩
  refine (callsIn_wide.2 (start_any _ _ m _ (HM.out.keep B1.out).1 (HM.out.keep B1.out).2 (IsM.inR HV.out.1).1 (IsM.inR HV.out.1).2)).mono ?_
  rintro e w2 ⟨rfl, hb⟩
  have B2 : Hid (Below w.heap.size w w2) := btrans B1.out hb
  clear hb X1 B1
  gi_wp2_with (((with_reducible refine store_rowInN ?c1 70 (.tmp 12) (.tmp 40) ?c2 (stC (st0 m)) ?c3 ?c4 70 (stC zSt) ?c5 ?c6 ?c7 ?_); (case c1 => rfl); (case c2 => rfl); (case c3 => rfl); (case c4 => rfl); (case c5 => rw [size70, stC_size H0.out]); (case c6 => rw [stC_size H0.out, stC_size HZ.out]); (case c7 => exact stC_one _)))
  have X3 : Hid ((w2.alloc (.cells (stC (st0 m)) 70)).heap[w2.heap.size]? = some (.cells (stC (stN (st0 m) l 0)) 70 (0, 0))) := h1_0 _ _
  have B3 : Hid (Below w.heap.size w (w2.alloc (.cells (stC (st0 m)) 70))) := balloc B2.out _
  have hgs := B2.out.size
  clear B2
  generalize w2.heap.size = gs at *
  generalize w2.alloc (.cells (stC (st0 m)) 70) = W3 at *
  gi_loopw [14, 45] (fun q i wr => ∃ k : Nat, k ≤ f ∧ i = .int .i64 k ∧ Hid (wr.heap[gs]? = some (.cells (stC (stN (st0 m) l k)) 70 (0, 0))) ∧ Hid (Below w.heap.size w wr)) (fun _ i _ => f - (intOf i).toNat)
  case atStart => exact ⟨0, by omega, rfl, X3, B3⟩
  case round =>
    obtain ⟨k, hk, rfl, hx, hb⟩ := hrel
    clear X3 B3
    by_cases hlt : k < f
    · obtain ⟨bb, off, rfl, c0, c1⟩ := (HL.out.keep hb.out).at k (by omega)
      have j1 : (0 : Int) ≤ (k : Int) := by omega
      have j2 : (k : Int) < (f : Int) := by omega
      have HS : Hid (stN (st0 m) l (k + 1) = apS (stN (st0 m) l k) (l.getD k (0, 0)).1 (l.getD k (0, 0)).2) := rfl
      have HWF := Lib.hid (Wf_stN H0.out l k)
      generalize (l.getD k (0, 0)).1 = kk at *
      generalize (l.getD k (0, 0)).2 = xx at *
      gi_wp2_with fail
      refine ⟨trivial, ?_⟩
      refine (callsIn_wide.2 (apply_any (stN (st0 m) l k) gs 70 kk xx _ HWF.out (hold1 hx.out _))).mono ?_
      rintro e w5 ⟨rfl, hx5, hb5⟩
      rw [← HS.out] at hx5
      have X5 := Lib.hid hx5
      have B5 : Hid (Below w.heap.size w w5) := (balloc hb.out _).trans (hb5.below hgs (by have := hb.out.size; simp only [World.size_alloc]; omega))
      clear hx5 hb5 hx hb c0 c1
      gi_wp2_with fail
      go_roundw
      case rel => exact ⟨k + 1, by omega, by go_num, X5, B5⟩
      case measure => simp [intOf]; omega
    · obtain rfl : k = f := by omega
      have HWF := Lib.hid (Wf_stN H0.out l k)
      have HX : Hid (((wr.alloc (.cells (stC zSt) 70)).alloc (.cells #[.int .i64 0] 3)).drew.heap[gs]? = some (.cells (stC (stN (st0 m) l k)) 70 (0, 0))) := hold2 hx.out _ _
      have B4 : Hid (Below w.heap.size w ((wr.alloc (.cells (stC zSt) 70)).alloc (.cells #[.int .i64 0] 3)).drew) := (balloc (balloc hb.out _) _).drew
      have hgw : w.heap.size ≤ wr.heap.size := hb.out.size
      have G0 : Hid (((wr.alloc (.cells (stC zSt) 70)).alloc (.cells #[.int .i64 0] 3)).drew.heap[wr.heap.size]? = some (.cells (stC zSt) 70 (0, 0))) := h2_0 _ _ _
      have G1 : Hid (((wr.alloc (.cells (stC zSt) 70)).alloc (.cells #[.int .i64 0] 3)).drew.heap[wr.heap.size + 1]? = some (.cells #[.int .i64 0] 3 (0, 0))) := h2_1 _ _ _
      gi_wp2_with fail
      clear hx hb
      obtain ⟨g, hg⟩ : ∃ x, x = wr.heap.size := ⟨_, rfl⟩
      obtain ⟨W, hW⟩ : ∃ x, x = (wr.alloc (.cells (stC zSt) 70)).alloc (.cells #[.int .i64 0] 3) := ⟨_, rfl⟩
      rw [← hW] at HX B4 G0 G1 ⊢
      rw [← hg] at G0 G1 hgw ⊢
      clear hW hg
      refine reg_w g gs k t (stN (st0 m) l k) al l.length cl ?reg ?post
      case reg =>
        by_cases hck : cl = k
        · subst hck
          have hsv : subV al cl cl t = .slice al (t - cl) 0 := by simp [subV]
          rw [hsv]
          refine wp_region_still_tail 5 (by kernel_rfl) (by kernel_rfl) ?_
          simp only [List.take_succ_cons, List.take_zero, List.drop_succ_cons, List.drop_zero]
          change wpStill _ _ W.drew (fun a' => wpList _ _ _ _ a' W.drew) _ _
          refine still_load_row rfl 70 (.tmp 12) rfl gs rfl 70 (stC (stN (st0 m) l cl)) _ HX.out Try.underlying70 rfl (by rw [size70, stC_size HWF.out]) ?_
          still_step
          still_step
          still_step
          still_step
          refine wpStill_nil ?_
          go_wp2_with fail
          refine (cut_any (stN (st0 m) l cl) _ _ _ g _).mono ?_
          rintro e w9 ⟨rfl, rfl⟩
          go_wp2_with fail
          exact ⟨rfl, rfl, rfl⟩
        · have hsv : subV al cl k t = .slice (Option.map (fun x => x.add (k * 2)) al) (t - k) (cl - k) := by simp [subV, hck]
          rw [hsv]
          refine wp_region_still_tail 5 (by kernel_rfl) (by kernel_rfl) ?_
          simp only [List.take_succ_cons, List.take_zero, List.drop_succ_cons, List.drop_zero]
          change wpStill _ _ W.drew (fun a' => wpList _ _ _ _ a' W.drew) _ _
          refine still_load_row rfl 70 (.tmp 12) rfl gs rfl 70 (stC (stN (st0 m) l k)) _ HX.out Try.underlying70 rfl (by rw [size70, stC_size HWF.out]) ?_
          still_step
          still_step
          still_step
          still_step
          refine wpStill_nil ?_
          go_wp2_with fail
          refine (cut_any (stN (st0 m) l k) _ _ _ g _).mono ?_
          rintro e w9 ⟨rfl, rfl⟩
          go_wp2_with fail
          exact ⟨rfl, rfl, rfl⟩
      case post =>
      have HSL : Hid (IsLog w (subV al cl k t) (subL l k t)) := HL.out.sub h1 h2 hcl
      have HLE := Lib.hid (subL_len l k t h2)
      have HVS : Hid (∀ j, j < (subL l k t).length → erN (stN (st0 m) l k) (subL l k t) j = 0) := fun j hj => by
        rw [HLE.out] at hj
        rw [erN_sub _ _ _ _ _ (by omega)]
        exact HV.out.2.2 _ (by omega)
      have T0 : Hid ((cutW (stN (st0 m) l k) (subV al cl k t) g W.drew).heap[W.drew.heap.size]? = some (.cells (stC (stN (st0 m) l k)) 70 (0, 0))) := h3_0 _ _ _ _
      have T1 : Hid ((cutW (stN (st0 m) l k) (subV al cl k t) g W.drew).heap[W.drew.heap.size + 1]? = some (.cells #[subV al cl k t] 26 (0, 0))) := h3_1 _ _ _ _
      have T2 : Hid ((cutW (stN (st0 m) l k) (subV al cl k t) g W.drew).heap[W.drew.heap.size + 1 + 1]? = some (.cells #[.pointer (some ⟨g, 0, none⟩)] 75 (0, 0))) := h3_2 _ _ _ _
      have Q0 : Hid ((cutW (stN (st0 m) l k) (subV al cl k t) g W.drew).heap[g]? = some (.cells (stC zSt) 70 (0, 0))) := hold3 G0.out _ _ _
      have R0 : Hid ((cutW (stN (st0 m) l k) (subV al cl k t) g W.drew).heap[g + 1]? = some (.cells #[.int .i64 0] 3 (0, 0))) := hold3 G1.out _ _ _
      have B0 : Hid (Below w.heap.size w (cutW (stN (st0 m) l k) (subV al cl k t) g W.drew)) := balloc (balloc (balloc B4.out _) _) _
      have hgh : g + 1 < W.drew.heap.size := lt_of_some G1.out
      have hgs2 : W.drew.heap.size + 1 + 1 < (cutW (stN (st0 m) l k) (subV al cl k t) g W.drew).heap.size := lt_of_some T2.out
      clear G0 G1 B4 HX
      generalize cutW (stN (st0 m) l k) (subV al cl k t) g W.drew = W0 at *
      generalize W.drew.heap.size = h at *
      generalize subV al cl k t = sv at *
      gi_wp2_with fail
      go_simp
      refine range_d (F := Fence.wide) (ty := 70) rfl (by omega) (gf := 49) (lb := #[.pointer (some ⟨h, 0, none⟩), .pointer (some ⟨h + 1 + 1, 0, none⟩), .pointer (some ⟨h + 1, 0, none⟩)]) rfl trivial (enters_of Try.func49 (by kernel_rfl) rfl)
        (cut_stops 2 (by omega) h g (h + 1 + 1) (h + 1) (stN (st0 m) l k) zSt (subL l k t) _ HWF.out HZ.out HVS.out w W0 (by omega) (by omega) (by omega) T0.out Q0.out T2.out T1.out HSL.out B0.out)
        KpR.trans (fun W q o o' hq => KpR.putObj W q o o' (Nat.le_trans B0.out.size hq)) (abR_cutS _ _ _ _) (abR_pure _) (fun _ => rfl)
        (fun pre W => W.heap[g + 1]? = some (.cells #[.int .i64 (pre.length : Nat)] 3 (0, 0)) ∧ Below w.heap.size w W) (fun _ _ _ => False)
        (AbR.and (abR_cells (g + 1) (fun (pre : List Int) => #[.int .i64 (pre.length : Nat)])) (abR_below B0.out.size w))
        (fun c => fun _ _ _ _ _ hs _ _ _ => hs)
        (AbC.and (abC_heap (by decide) (g + 1) (fun (pre : List Int) => #[.int .i64 (pre.length : Nat)])) (abC_below (Nat.le_refl _) w (Nat.le_refl _)))
        (fun c => fun _ _ _ _ hs _ _ => hs)
        ⟨R0.out, B0.out⟩
        (fun x => { tmps := #[.agg #[.slice aa na ca, .slice ap np cp], .slice al l.length cl, .int .i64 k, .int .i64 t, .pointer (some ⟨w.heap.size, 0, none⟩), undef, undef, undef, .int .i64 0, .int .i64 0, .int .i64 0, .int .i64 (vldL m l).snd, .pointer (some ⟨gs, 0, none⟩), undef, u14, .pointer (some ⟨g, 0, none⟩), .pointer (some ⟨g + 1, 0, none⟩), .tuple #[.int .i64 0, .int .i64 (vldL m l).snd], .agg #[.slice aa na ca, .slice ap np cp], .slice al l.length cl, .tuple #[.int .i64 0, .int .i64 (vldL m l).snd], .int .i64 0, .int .i64 (vldL m l).snd, .int .i64 0, .bool false, undef, .int .i64 k, .bool false, .bool false, .int .i64 k, .int .i64 t, .bool false, .bool false, .bool false, .int .i64 t, .slice al l.length cl, .int .i64 l.length, .bool false, .bool false, .agg #[.slice aa na ca, .slice ap np cp], .agg (stC (st0 m)), .slice al l.length cl, .int .i64 k, .slice al k cl, .int .i64 k, .int .i64 k, .bool false, u47, u48, u49, u50, u51, .agg (stC (stN (st0 m) l k)), .slice al l.length cl, .int .i64 k, .int .i64 t, sv, .func (.func 49) #[] #[.pointer (some ⟨h, 0, none⟩), .pointer (some ⟨h + 1 + 1, 0, none⟩), .pointer (some ⟨h + 1, 0, none⟩)], .int .i64 x, undef, undef, undef], defers := [] }) ?assign ?body ?done ?stop
      case assign =>
        intro l x W K hK
        gi_wp2
        simpa using hK
      case body =>
        rintro q pre x W ⟨hv, hB⟩ hlt
        have hp : pre.length < 5000 := by have := HV5.out; rw [HLE.out] at hlt; omega
        obtain ⟨z, hz⟩ : ∃ z : Int, z = (pre.length : Nat) := ⟨_, rfl⟩
        obtain ⟨z1, hz1⟩ : ∃ z1 : Int, z1 = ((pre ++ [x]).length : Nat) := ⟨_, rfl⟩
        have hw : IntKind.i64.wrap (z + 1) = z1 := by
          have e : z1 = z + 1 := by rw [hz, hz1]; simp
          rw [e]; exact IntWalk.i64_in (z + 1) (by omega)
        rw [← hz] at hv
        have HZ1 := Lib.hid hz1
        have HV3 := Lib.hid hv
        have HB := Lib.hid hB
        have c0 : W.cell? ⟨g + 1, 0, none⟩ = some (.int .i64 z) := setRow_cell hv rfl
        have f0 := fr (j := 0) hv
        clear hv hp hz hz1 hlt hB i0 i1 i2 i3 i4 i5 i6 i7 h1 h2 hcl hln
        gi_wp2
        refine ⟨(KeepsOthers.setCell _ _ _).from _, kpR_set HV3.out (by decide) (by decide) (by decide) (by omega) _, ?_, HB.out.setCell (by simp only []; omega) _⟩
        rw [setCell_eq_setRow W (g + 1) 0 _ 3 (0, 0) _ HV3.out]
        rw [setRow_heap W (g + 1) _ _ 3 (0, 0) HV3.out, ← HZ1.out]
        rfl
      case done =>
        rintro D ys W hD ⟨rfl, _⟩ ⟨hv, hB⟩ hK
        have HV3 := Lib.hid hv
        have c0 := setRow_cell (j := 0) hv rfl
        clear hv
        gi_wp2
        refine ⟨by simp, .inl ⟨_, _, rfl, run_takeDeferred hK, ?_⟩⟩
        exact ⟨_, results_tmp2 rfl _ _ _, by rw [HE.out, HN.out]; rfl, hB.trans (belowK_b (w := W0) B0.out.size W D _ _ hD hK rfl rfl)⟩
      case stop =>
        rintro D c pre W _ _ h _
        exact h.elim

set_option maxRecDepth 100000 in
set_option maxHeartbeats 2000000 in
theorem within_bad1 (va vp vl : Value) (m : Mo) (l : List En) (f t : Int) (w : World) (hm : IsM w va vp m) (hl : IsLog w vl l) (hc : (vldL m l).1 ≠ 0) : Calls Try.prog 12 #[.agg #[va, vp], vl, .int .i64 f, .int .i64 t] w (Wit m l f t w) := by
  obtain ⟨aa, na, ca, rfl⟩ := hm.1.slice
  obtain ⟨ap, np, cp, rfl⟩ := hm.2.slice
  obtain ⟨al, nl, cl, rfl⟩ := hl.slice
  have HM := Lib.hid hm
  have HL := Lib.hid hl
  have HE : Hid (wiE m l f t = (vldL m l).1 ∧ wiN m l f t = 0) := by
    have e : wiE m l f t = (vldL m l).1 := by unfold wiE; rw [if_neg hc]
    exact ⟨e, by unfold wiN; rw [e, if_neg hc]⟩
  have hz : ((vldL m l).1 != 0) = true := by simpa using hc
  clear hm hl hc
  refine (callsIn_wide (n := 3)).1 ?_
  refine callsIn_of_wp_marks Try.func12 rfl trivial ?_ rfl
  simp only [Try.ntmps12, List.size_toArray, List.length_cons, List.length_nil, Nat.reduceAdd, Nat.reduceSub, Array.replicate_succ, Array.replicate_zero, List.push_toArray, List.append_toArray, List.nil_append, List.cons_append]
  gi_wp2_with fail
  refine ⟨trivial, ?_⟩
  refine (callsIn_wide.2 (valid_any _ _ _ m l _ (HM.out.keep ((Below.refl _ _).alloc (Nat.le_refl _) _)) (HL.out.keep ((Below.refl _ _).alloc (Nat.le_refl _) _)))).mono ?_
  rintro e w1 ⟨rfl, hb⟩
  have B1 := Lib.hid (bfirst _ _ hb).2
  clear hb
  gi_wp2_with fail
  exact ⟨_, results_tmp2 rfl _ _ _, by rw [HE.out.1, HE.out.2]; rfl, B1.out⟩

set_option maxRecDepth 100000 in
set_option maxHeartbeats 2000000 in
theorem within_bad2 (va vp vl : Value) (m : Mo) (l : List En) (f t : Int) (w : World) (hm : IsM w va vp m) (hl : IsLog w vl l) (hc : (vldL m l).1 = 0) (hn : f < 0 ∨ t < f ∨ (l.length : Int) < t) : Calls Try.prog 12 #[.agg #[va, vp], vl, .int .i64 f, .int .i64 t] w (Wit m l f t w) := by
  obtain ⟨aa, na, ca, rfl⟩ := hm.1.slice
  obtain ⟨ap, np, cp, rfl⟩ := hm.2.slice
  obtain ⟨al, nl, cl, rfl⟩ := hl.slice
  obtain ⟨rfl, hln⟩ := hl.len
  have HM := Lib.hid hm
  have HL := Lib.hid hl
  have HC := Lib.hid hc
  have HE : Hid (wiE m l f t = 2 ∧ wiN m l f t = 0) := by
    have e : wiE m l f t = 2 := by unfold wiE; rw [if_pos hc, if_pos hn]
    exact ⟨e, by unfold wiN; rw [e, if_neg (by decide)]⟩
  clear hm hl hc
  have hn2 : f < 0 ∨ (0 ≤ f ∧ t < f) ∨ (0 ≤ f ∧ f ≤ t ∧ (l.length : Int) < t) := by omega
  clear hn
  rcases hn2 with hn | ⟨h0, hn⟩ | ⟨h0, h1, hn⟩
  all_goals
    refine (callsIn_wide (n := 3)).1 ?_
    refine callsIn_of_wp_marks Try.func12 rfl trivial ?_ rfl
    simp only [Try.ntmps12, List.size_toArray, List.length_cons, List.length_nil, Nat.reduceAdd, Nat.reduceSub, Array.replicate_succ, Array.replicate_zero, List.push_toArray, List.append_toArray, List.nil_append, List.cons_append]
    gi_wp2_with fail
    refine ⟨trivial, ?_⟩
    refine (callsIn_wide.2 (valid_any _ _ _ m l _ (HM.out.keep ((Below.refl _ _).alloc (Nat.le_refl _) _)) (HL.out.keep ((Below.refl _ _).alloc (Nat.le_refl _) _)))).mono ?_
    rintro e w1 ⟨rfl, hb⟩
    rw [HC.out]
    have B1 := Lib.hid (bfirst _ _ hb).2
    clear hb
    gi_wp2_with fail
    exact ⟨_, results_tmp2 rfl _ _ _, by rw [HE.out.1, HE.out.2]; rfl, B1.out⟩
theorem within_any (va vp vl : Value) (m : Mo) (l : List En) (f t : Int) (w : World) (hm : IsM w va vp m) (hl : IsLog w vl l) (hcp : ∀ a n c, vl = .slice a n c → n ≤ c) : Calls Try.prog 12 #[.agg #[va, vp], vl, .int .i64 f, .int .i64 t] w (Wit m l f t w) := by
  by_cases hc : (vldL m l).1 = 0
  · by_cases hn : f < 0 ∨ t < f ∨ (l.length : Int) < t
    · exact within_bad2 va vp vl m l f t w hm hl hc hn
    · obtain ⟨f', rfl⟩ := Int.eq_ofNat_of_zero_le (a := f) (by omega)
      obtain ⟨t', rfl⟩ := Int.eq_ofNat_of_zero_le (a := t) (by omega)
      exact within_good va vp vl m l f' t' w hm hl hcp hc (by omega) (by omega)
  · exact within_bad1 va vp vl m l f t w hm hl hc
end Go.Proofs.Ytgdcgmnfgbdiiaa
