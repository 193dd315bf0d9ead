/- Helper facts for the statements of this seat; no statement itself. -/
import Derived.Test.YtgdcgmnfgbdiiaaRN
import Derived.Test.YtgdcgmnfgbdiiaaL
import Derived.Outline
namespace Go.Proofs.Ytgdcgmnfgbdiiaa
open Go.RowKit
set_option linter.unusedSimpArgs false
set_option linter.unusedVariables false
set_option linter.unnecessarySimpa false

theorem set2 {w : World} {g : Nat} {ty : TypeId} {a b : Value} (h : w.heap[g]? = some (.cells #[a, b] ty (0, 0))) (u v : Value) : (w.setCell ⟨g, 0, none⟩ u).setCell ⟨g, 1, none⟩ v = w.setRow g #[u, v] := by
  rw [setCell0 h]
  rw [setCell1 (setRow_heap w g #[a, b] #[u, b] ty (0, 0) h)]
  rw [setRow_setRow]
/-- The moment in a block, as a state. -/
def AtS (w : World) (g : Nat) (ty : TypeId) (t : St) : Prop := ∃ a n c a' n' c', w.heap[g]? = some (.cells #[.slice a n c, .slice a' n' c'] ty (0, 0)) ∧ IsS w (.slice a n c) (.slice a' n' c') t
theorem IsS.row {w : World} {va vp : Value} {t : St} {g : Nat} {a1 a2 : Option Addr} {n1 n2 c1 c2 : Nat} {ty : TypeId} (h : IsS w va vp t) (hg : w.heap[g]? = some (.cells #[.slice a1 n1 c1, .slice a2 n2 c2] ty (0, 0))) (cs : Array Value) : IsS (w.setRow g cs) va vp t :=
  ⟨⟨ints_setRow h.1.1 hg _, ints_setRow h.1.2 hg _⟩, h.2⟩

set_option maxRecDepth 100000 in
set_option maxHeartbeats 2000000 in
theorem rvalid_any (va vp vl : Value) (m : Mo) (l : List En) (w : World) (hm : IsM w va vp m) (hca : CapI va) (hcp : CapI vp) (hl : IsLog w vl l) : Calls Try.prog 25 #[.agg #[va, vp], vl] w (Vld m l w) := by
  obtain ⟨aa, na, ca, rfl⟩ := hm.1.slice
  obtain ⟨ap, np, cp, rfl⟩ := hm.2.slice
  obtain ⟨al, nl, cl, rfl⟩ := hl.slice
  obtain ⟨rfl, hln⟩ := hl.len
  have HM := Lib.hid hm
  have HL := Lib.hid hl
  have HCA := Lib.hid hca
  have HCP := Lib.hid hcp
  clear hm hl hca hcp
  unfold Vld
  obtain ⟨r1, h1⟩ : ∃ r, r = (vldL m l).1 := ⟨_, rfl⟩
  obtain ⟨r2, h2⟩ : ∃ r, r = (vldL m l).2 := ⟨_, rfl⟩
  rw [← h1, ← h2]
  have R1 := Lib.hid h1
  have R2 := Lib.hid h2
  clear h1 h2
  by_cases hc : ckM m = 0
  · have HC := Lib.hid hc
    by_cases h5 : 5000 < l.length
    · have e : vldL m l = (5, 0) := by unfold vldL; rw [if_pos hc, if_pos h5]
      have HE : Hid (r1 = 5 ∧ r2 = 0) := ⟨by rw [R1.out, e], by rw [R2.out, e]⟩
      have d5 : (5000 : Int) < (l.length : Int) := by omega
      clear R1 R2 e hc
      go_enter Try.func25, Try.ntmps25
      go_wp2_with fail
      refine (rcheck_any _ _ m _ (HM.out.keep ((Below.refl _ _).alloc (Nat.le_refl _) _))).mono ?_
      rintro e w1 ⟨rfl, hb⟩
      rw [HC.out]
      have B1 := Lib.hid (bfirst _ _ hb).2
      clear hb
      go_wp2_with fail
      go_ret2
      exact ⟨by rw [HE.out.1, HE.out.2]; rfl, B1.out⟩
    · have e : vldL m l = vlF (st0 m) l 0 l.length := by unfold vldL; rw [if_pos hc, if_neg h5]
      rw [e] at R1 R2
      have d5 : (l.length : Int) ≤ 5000 := by omega
      have H0 := Lib.hid (Wf_st0 m)
      have HMO := Lib.hid (moS_st0 hc)
      clear e hc
      go_enter Try.func25, Try.ntmps25
      go_wp2_with fail
      refine (rcheck_any _ _ m _ (HM.out.keep ((Below.refl _ _).alloc (Nat.le_refl _) _))).mono ?_
      rintro e w1 ⟨rfl, hb⟩
      rw [HC.out]
      have X1 := Lib.hid (bfirst _ _ hb).1
      have B1 := Lib.hid (bfirst _ _ hb).2
      clear hb
      have A1 : Hid (AtS w1 w.heap.size 25 (stN (st0 m) l 0)) := ⟨_, _, _, _, _, _, X1.out, by show IsM w1 _ _ (moS (st0 m)); rw [HMO.out]; exact HM.out.keep B1.out, HCA.out, HCP.out⟩
      clear X1
      obtain ⟨g, hg⟩ : ∃ g, g = w.heap.size := ⟨_, rfl⟩
      rw [← hg] at A1 ⊢
      have hgw : w.heap.size ≤ g := by omega
      clear hg
      go_wp2_with fail
      go_loopw [6, 7] (fun e i wr => ∃ k : Nat, k ≤ l.length ∧ i = .int .i64 k ∧ Hid (∀ j, j < k → erN (st0 m) l j = 0) ∧ Hid (AtS wr g 25 (stN (st0 m) l k)) ∧ Hid (Below w.heap.size w wr)) (fun _ i _ => l.length - (intOf i).toNat)
      case atStart => exact ⟨0, by omega, rfl, fun j hj => by omega, A1, B1⟩
      case round =>
        obtain ⟨k, hk, rfl, hp, ha, hb⟩ := hrel
        clear A1 B1
        by_cases hlt : k < l.length
        · obtain ⟨bb, off, rfl, c0, c1⟩ := (HL.out.keep hb.out).at k hlt
          obtain ⟨a1, n1, k1, a2, n2, k2, hx, hs⟩ := ha.out
          obtain ⟨q0, q1⟩ := c2 hx
          have HX := Lib.hid hx
          have HS := Lib.hid hs
          have i1 : (0 : Int) ≤ (k : Int) := by omega
          have i2 : (k : Int) < (l.length : Int) := by omega
          have HT : Hid (stN (st0 m) l (k + 1) = apS (stN (st0 m) l k) (l.getD k (0, 0)).1 (l.getD k (0, 0)).2) := rfl
          have HR : Hid (erN (st0 m) l k = apE (stN (st0 m) l k) (l.getD k (0, 0)).1 (l.getD k (0, 0)).2) := rfl
          have HWF := Lib.hid (Wf_stN H0.out l k)
          have hbs := hb.out.size
          clear hx hs ha
          generalize (l.getD k (0, 0)).1 = kk at *
          generalize (l.getD k (0, 0)).2 = xx at *
          go_upto_region 9 with fail
          go_region_law (first | (go_simp; go_at_call 46; (with_reducible refine (next_any _ _ (stN (st0 m) l k) kk xx _ ?k1 ?k2).mono ?_); (case k1 => exact HWF.out); (case k2 => exact HS.out); rintro e w5 ⟨va5, vp5, rfl, hs5, hb5, -, -⟩; obtain ⟨a5, n5, k5, rfl⟩ := hs5.1.1.slice; obtain ⟨a6, n6, k6, rfl⟩ := hs5.1.2.slice; have B5 : Hid (Below wr.heap.size wr w5) := btrans (w := wr) (Below.drew (Below.refl _ _)) hb5; have X5 := Lib.hid (bkeep B5.out HX.out); have S5 := Lib.hid hs5; obtain ⟨s0, s1⟩ := c2 X5.out; have f0 := fr (j := 0) X5.out; have f1 := fr (j := 1) X5.out; clear hb5 hs5) | fail)
          all_goals
            rw [set2 X5.out, ← HR.out]
            have A6 : Hid (AtS (w5.setRow g #[.slice a5 n5 k5, .slice a6 n6 k6]) g 25 (stN (st0 m) l (k + 1))) := ⟨_, _, _, _, _, _, setRow_heap _ _ _ _ _ _ X5.out, by rw [HT.out]; exact S5.out.row X5.out _⟩
            have B6 : Hid (Below w.heap.size w (w5.setRow g #[.slice a5 n5 k5, .slice a6 n6 k6])) := below_setRow (btrans hb.out B5.out) hgw _
            generalize w5.setRow g #[.slice a5 n5 k5, .slice a6 n6 k6] = w6 at *
            clear X5 S5 s0 s1 f0 f1 B5 q0 q1 c0 c1 HX HS
            by_cases he : erN (st0 m) l k = 0
            · have HN : Hid (∀ j, j < k + 1 → erN (st0 m) l j = 0) := fun j hj => by
                by_cases e : j = k
                · subst e; exact he
                · exact hp.out j (by omega)
              rw [he]
              clear he HR
              go_wp2_with fail
              go_roundw
              case rel => exact ⟨k + 1, by omega, by go_num, HN, A6, B6⟩
              case measure => simp [intOf]; omega
            · have HV := Lib.hid (vlF_at hp.out hlt he)
              have hne : (erN (st0 m) l k != 0) = true := by simpa using he
              clear he HR
              go_wp2_with fail
              go_ret2
              exact ⟨by rw [R1.out, R2.out, HV.out]; rfl, B6.out⟩
        · have HV : Hid (vlF (st0 m) l 0 l.length = (0, 0)) := vlF_ok (fun j hj => hp.out j (by omega))
          have i2 : (l.length : Int) ≤ (k : Int) := by omega
          go_wp2_with fail
          go_ret2
          exact ⟨by rw [R1.out, R2.out, HV.out]; rfl, hb.out⟩
  · have e : vldL m l = (ckM m, 0) := by unfold vldL; rw [if_neg hc]
    have HE : Hid (r1 = ckM m ∧ r2 = 0) := ⟨by rw [R1.out, e], by rw [R2.out, e]⟩
    have hz : (ckM m != 0) = true := by simpa using hc
    clear R1 R2 e hc
    go_enter Try.func25, Try.ntmps25
    go_wp2_with fail
    refine (rcheck_any _ _ m _ (HM.out.keep ((Below.refl _ _).alloc (Nat.le_refl _) _))).mono ?_
    rintro e w1 ⟨rfl, hb⟩
    have B1 := Lib.hid (bfirst _ _ hb).2
    clear hb
    go_wp2_with fail
    go_ret2
    exact ⟨by rw [HE.out.1, HE.out.2]; rfl, B1.out⟩
end Go.Proofs.Ytgdcgmnfgbdiiaa
