/- Helper facts for the statements of this seat; no statement itself. -/
import Derived.Test.YtgdcgmnfgbdiiaaC
import Derived.Test.YtgdcgmnfgbdiiaaI
import Derived.Test.YtgdcgmnfgbdiiaaK
import Derived.Outline
namespace Go.Proofs.Ytgdcgmnfgbdiiaa
open Go.RowKit
set_option linter.unusedSimpArgs false
set_option linter.unusedVariables false
set_option linter.unnecessarySimpa false

section
variable {ops : Array Oper} {rest : List Oper} {o : Oper} {a : Act} {w : World} {Q : Exit → Act → World → Prop}
theorem ld25 (hgd : o.guard = none) (x : Operand) (ho : o.op = .load 25 x) (g : Nat) (hx : a.eval x = .pointer (some ⟨g, 0, none⟩)) (va vp : Value) (ty : TypeId) (hg : Hid (w.heap[g]? = some (.cells #[va, vp] ty (0, 0))))
    (h : wpList Try.prog ops Q rest (a.put o.dst (.agg #[va, vp])) w) : wpList Try.prog ops Q (o :: rest) a w :=
  wpList_load_row hgd 25 x ho g hx ty #[va, vp] (0, 0) _ hg.out Try.underlying25 rfl (by kernel_rfl) h
end
def Vld (m : Mo) (l : List En) (w : World) (e : Ending) (w' : World) : Prop := e = .returned (.tuple #[.int .i64 (vldL m l).1, .int .i64 (vldL m l).2]) ∧ Below w.heap.size w w'

set_option maxRecDepth 100000 in
set_option maxHeartbeats 2000000 in
theorem valid_any (va vp vl : Value) (m : Mo) (l : List En) (w : World) (hm : IsM w va vp m) (hl : IsLog w vl l) : Calls Try.prog 16 #[.agg #[va, vp], vl] w (Vld m l w) := by
  obtain ⟨aa, na, ca, rfl⟩ := hm.1.slice
  obtain ⟨ap, np, cp, rfl⟩ := hm.2.slice
  obtain ⟨al, nl, cl, rfl⟩ := hl.slice
  obtain ⟨rfl, hln⟩ := hl.len
  have HM := Lib.hid hm
  have HL := Lib.hid hl
  clear hm hl
  unfold Vld
  obtain ⟨r1, h1⟩ : ∃ r, r = (vldL m l).1 := ⟨_, rfl⟩
  obtain ⟨r2, h2⟩ : ∃ r, r = (vldL m l).2 := ⟨_, rfl⟩
  rw [← h1, ← h2]
  have R1 := Lib.hid h1
  have R2 := Lib.hid h2
  clear h1 h2
  by_cases hc : ckM m = 0
  · have HC := Lib.hid hc
    by_cases h5 : 5000 < l.length
    · have e : vldL m l = (5, 0) := by unfold vldL; rw [if_pos hc, if_pos h5]
      have HE : Hid (r1 = 5 ∧ r2 = 0) := ⟨by rw [R1.out, e], by rw [R2.out, e]⟩
      have d5 : (5000 : Int) < (l.length : Int) := by omega
      clear R1 R2 e hc
      go_enter Try.func16, Try.ntmps16
      go_wp2_with fail
      refine (check_any _ _ m _ (HM.out.keep ((Below.refl _ _).alloc (Nat.le_refl _) _))).mono ?_
      rintro e w1 ⟨rfl, hb⟩
      rw [HC.out]
      have B1 := Lib.hid (bfirst _ _ hb).2
      clear hb
      go_wp2_with fail
      go_ret2
      exact ⟨by rw [HE.out.1, HE.out.2]; rfl, B1.out⟩
    · have e : vldL m l = vlF (st0 m) l 0 l.length := by unfold vldL; rw [if_pos hc, if_neg h5]
      rw [e] at R1 R2
      have d5 : (l.length : Int) ≤ 5000 := by omega
      have HZ := Lib.hid zSt_wf
      have H0 := Lib.hid (Wf_st0 m)
      clear e hc
      have hz := zero70
      go_enter Try.func16, Try.ntmps16
      go_wp2_with fail
      refine (check_any _ _ m _ (HM.out.keep ((Below.refl _ _).alloc (Nat.le_refl _) _))).mono ?_
      rintro e w1 ⟨rfl, hb⟩
      rw [HC.out]
      have X1 := Lib.hid (bfirst _ _ hb).1
      have B1 := Lib.hid (bfirst _ _ hb).2
      clear hb
      go_wp2_with (((with_reducible refine ld25 ?a1 (.tmp 2) ?a2 w.heap.size ?a3 _ _ 25 X1 ?_); (case a1 => rfl); (case a2 => rfl); (case a3 => rfl)))
      refine (start_any _ _ m _ (HM.out.keep B1.out).1 (HM.out.keep B1.out).2 (IsM.inR HC.out).1 (IsM.inR HC.out).2).mono ?_
      rintro e w2 ⟨rfl, hb⟩
      have B2 : Hid (Below w.heap.size w w2) := btrans B1.out hb
      clear hb X1 B1
      go_wp2_with (((with_reducible refine st70n ?b1 (.tmp 7) (.tmp 20) ?b2 zSt (st0 m) ?b3 ?b4 HZ H0 ?_); (case b1 => rfl); (case b2 => rfl); (case b3 => rfl); (case b4 => rfl)))
      have X3 : Hid ((w2.alloc (.cells (stC (st0 m)) 70)).heap[w2.heap.size]? = some (.cells (stC (stN (st0 m) l 0)) 70 (0, 0))) := h1_0 _ _
      have B3 : Hid (Below w.heap.size w (w2.alloc (.cells (stC (st0 m)) 70))) := balloc B2.out _
      have hgs := B2.out.size
      clear B2 hz
      generalize w2.heap.size = gs at *
      generalize w2.alloc (.cells (stC (st0 m)) 70) = W3 at *
      go_loopw [8, 9, 10, 23] (fun p q r i wr => ∃ k : Nat, k ≤ l.length ∧ i = .int .i64 k ∧ Hid (∀ j, j < k → erN (st0 m) l j = 0) ∧ Hid (wr.heap[gs]? = some (.cells (stC (stN (st0 m) l k)) 70 (0, 0))) ∧ Hid (Below w.heap.size w wr)) (fun _ _ _ i _ => l.length - (intOf i).toNat)
      case atStart => exact ⟨0, by omega, rfl, fun j hj => by omega, X3, B3⟩
      case round =>
        obtain ⟨k, hk, rfl, hp, hx, hb⟩ := hrel
        clear X3 B3
        by_cases hlt : k < l.length
        · obtain ⟨bb, off, rfl, c0, c1⟩ := (HL.out.keep hb.out).at k hlt
          have i1 : (0 : Int) ≤ (k : Int) := by omega
          have i2 : (k : Int) < (l.length : Int) := by omega
          have HS : Hid (stN (st0 m) l (k + 1) = apS (stN (st0 m) l k) (l.getD k (0, 0)).1 (l.getD k (0, 0)).2) := rfl
          have HR : Hid (erN (st0 m) l k = apE (stN (st0 m) l k) (l.getD k (0, 0)).1 (l.getD k (0, 0)).2) := rfl
          have HWF := Lib.hid (Wf_stN H0.out l k)
          generalize (l.getD k (0, 0)).1 = kk at *
          generalize (l.getD k (0, 0)).2 = xx at *
          go_wp2_with fail
          refine (apply_any (stN (st0 m) l k) gs 70 kk xx _ HWF.out (hold1 hx.out _)).mono ?_
          rintro e w5 ⟨rfl, hx5, hb5⟩
          rw [← HR.out]
          rw [← HS.out] at hx5
          have X5 := Lib.hid hx5
          have B5 : Hid (Below w.heap.size w w5) := (balloc hb.out _).trans (hb5.below hgs (by have := hb.out.size; simp only [World.size_alloc]; omega))
          clear hx5 hb5 hx hb c0 c1 HR
          by_cases he : erN (st0 m) l k = 0
          · have HN : Hid (∀ j, j < k + 1 → erN (st0 m) l j = 0) := fun j hj => by
              by_cases e : j = k
              · subst e; exact he
              · exact hp.out j (by omega)
            rw [he]
            clear he
            go_wp2_with fail
            go_roundw
            case rel => exact ⟨k + 1, by omega, by go_num, HN, X5, B5⟩
            case measure => simp [intOf]; omega
          · have HV := Lib.hid (vlF_at hp.out hlt he)
            have hne : (erN (st0 m) l k != 0) = true := by simpa using he
            clear he
            go_wp2_with fail
            go_ret2
            exact ⟨by rw [R1.out, R2.out, HV.out]; rfl, B5.out⟩
        · have HV : Hid (vlF (st0 m) l 0 l.length = (0, 0)) := vlF_ok (fun j hj => hp.out j (by omega))
          have i2 : (l.length : Int) ≤ (k : Int) := by omega
          go_wp2_with fail
          go_ret2
          exact ⟨by rw [R1.out, R2.out, HV.out]; rfl, hb.out⟩
  · have e : vldL m l = (ckM m, 0) := by unfold vldL; rw [if_neg hc]
    have HE : Hid (r1 = ckM m ∧ r2 = 0) := ⟨by rw [R1.out, e], by rw [R2.out, e]⟩
    have hz : (ckM m != 0) = true := by simpa using hc
    clear R1 R2 e hc
    go_enter Try.func16, Try.ntmps16
    go_wp2_with fail
    refine (check_any _ _ m _ (HM.out.keep ((Below.refl _ _).alloc (Nat.le_refl _) _))).mono ?_
    rintro e w1 ⟨rfl, hb⟩
    have B1 := Lib.hid (bfirst _ _ hb).2
    clear hb
    go_wp2_with fail
    go_ret2
    exact ⟨by rw [HE.out.1, HE.out.2]; rfl, B1.out⟩
end Go.Proofs.Ytgdcgmnfgbdiiaa
