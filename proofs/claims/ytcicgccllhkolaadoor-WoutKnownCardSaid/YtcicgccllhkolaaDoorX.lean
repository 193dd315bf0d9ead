/- Helper facts for the statements of this seat; no statement itself. -/
import Derived.Test.YtcicgccllhkolaaDoorW
namespace Go.Proofs.YtcicgccllhkolaaDoor
open Go.RowKit
set_option linter.unusedSimpArgs false
set_option linter.unusedVariables false
set_option linter.unnecessarySimpa false

/-- The marks when the first kinds are done. -/
def mkK (n : Nat) (s r c : Int) (A : List Bool) (j : Nat) : List Bool := (evTo s r j).foldl (fun B e => mk n (aS s r e.1) (aR s r e.1) (aC s c e.1 e.2) B) A
theorem mkK_len (n : Nat) (s r c : Int) (A : List Bool) (j : Nat) : (mkK n s r c A j).length = A.length := foldl_len _ (fun B e => mk_len n _ _ _ B) _ _
theorem aC_one (s c : Int) (j : Nat) : aC s c ((j : Int) + 1) (if j = 3 then 1 else 0) = aC s c ((j : Int) + 1) 1 := by
  unfold aC
  by_cases h : (j : Int) + 1 = 4
  · rw [if_pos h, if_pos h, if_pos (by omega)]
  · rw [if_neg h, if_neg h]
theorem mkK_yes (n : Nat) (s r c : Int) (A : List Bool) (j : Nat) (h : psb s r ((j : Int) + 1) = 0) :
    mkK n s r c A (j + 1) = mk n (aS s r ((j : Int) + 1)) (aR s r ((j : Int) + 1)) (aC s c ((j : Int) + 1) 1) (mkK n s r c A j) := by
  unfold mkK
  rw [evTo, if_pos h, List.foldl_append]
  simp only [List.foldl_cons, List.foldl_nil, aC_one]
theorem mkK_no (n : Nat) (s r c : Int) (A : List Bool) (j : Nat) (h : ¬ psb s r ((j : Int) + 1) = 0) : mkK n s r c A (j + 1) = mkK n s r c A j := by
  unfold mkK
  rw [evTo, if_neg h]
theorem aC_chk {s r c : Int} {j : Nat} (hj : j < 6) (h : chk s r c = 0) (hp : psb s r ((j : Int) + 1) = 0) : chk (aS s r ((j : Int) + 1)) (aR s r ((j : Int) + 1)) (aC s c ((j : Int) + 1) 1) = 0 := by
  rw [← aC_one]
  refine after_chk h ?_ hp
  have : j = 0 ∨ j = 1 ∨ j = 2 ∨ j = 3 ∨ j = 4 ∨ j = 5 := by omega
  rcases this with rfl | rfl | rfl | rfl | rfl | rfl <;> rfl

abbrev slV (g : Nat) : Value := .slice (some ⟨g, 0, none⟩) 7 7

set_option maxHeartbeats 2000000 in
theorem rwalk0 (s r c : Int) (A : List Bool) (g : Nat) (t : TypeId) (w : World) (hv : chk s r c = 0) (hA : A.length = 7) (hg : w.heap[g]? = some (.cells (bC A) t (0, 0))) :
    Calls Tryd.prog 41 #[WV s r c, .int .i64 0, slV g] w (Marked g t (mk 0 s r c A) w) := by
  obtain ⟨hs1, hs2, _, _⟩ := chk_ok hv
  have HG := Lib.hid hg
  have hgl := lt_of_some hg
  obtain ⟨k, rfl⟩ : ∃ k : Nat, s = k := ⟨s.toNat, by omega⟩
  have cb := bC_cell hg k (by omega)
  have fb := fr (j := k) hg
  have i1 : (0 : Int) ≤ (k : Int) := by omega
  have i2 : (k : Int) < 7 := by omega
  clear hv hg
  go_enter Tryd.func41, Tryd.ntmps41
  go_wp2_with fail
  refine bodyPost_ret (results_none rfl _ _ _) rfl ?_
  rw [bC_store HG.out]
  exact ⟨⟨_, rfl⟩, (But.row _ _ _).alloc _, by rw [hold1 (setRow_heap _ _ _ _ _ _ HG.out)]; rfl⟩

set_option maxHeartbeats 4000000 in
theorem rwalk_any (n : Nat) : ∀ (s r c : Int) (A : List Bool) (g : Nat) (t : TypeId) (w : World), n ≤ 6 → chk s r c = 0 → A.length = 7 → w.heap[g]? = some (.cells (bC A) t (0, 0)) →
    Calls Tryd.prog 41 #[WV s r c, .int .i64 (n : Int), slV g] w (Marked g t (mk n s r c A) w) := by
  induction n with
  | zero => intro s r c A g t w _ hv hA hg; exact rwalk0 s r c A g t w hv hA hg
  | succ n ih =>
    intro s r c A g t w hn hv hA hg
    have IH := Lib.hid ih
    clear ih
    obtain ⟨hs1, hs2, hr1, hr2⟩ := chk_ok hv
    have HG := Lib.hid hg
    have HV := Lib.hid hv
    have hgl := lt_of_some hg
    obtain ⟨k, rfl⟩ : ∃ k : Nat, s = k := ⟨s.toNat, by omega⟩
    have cb := bC_cell hg k (by omega)
    have fb := fr (j := k) hg
    have i1 : (0 : Int) ≤ (k : Int) := by omega
    have i2 : (k : Int) < 7 := by omega
    clear hv hg
    have hn0 : (((n + 1 : Nat) : Int) == 0) = false := by rw [beq_eq_false_iff_ne]; omega
    rw [show ((n + 1 : Nat) : Int) = (n : Int) + 1 by omega] at hn0 ⊢
    go_enter Tryd.func41, Tryd.ntmps41
    go_wp2_with fail
    rw [bC_store HG.out]
    obtain ⟨W2, hW2⟩ : ∃ x, x = (w.setRow g (bC (A.set k true))).alloc (.cells #[.int .i64 (k : Int), .int .i64 r, .int .i64 c] 23) := ⟨_, rfl⟩
    have H2g : Hid (W2.heap[g]? = some (.cells (bC (mkK n (k : Int) r c (A.set k true) 0)) t (0, 0))) := by rw [hW2]; exact hold1 (setRow_heap _ _ _ _ _ _ HG.out) _
    have H2p : Hid (W2.heap[w.heap.size]? = some (.cells (pgC (k : Int) r c) 23 (0, 0))) := by
      have := h1_0 (w.setRow g (bC (A.set k true))) (.cells #[.int .i64 (k : Int), .int .i64 r, .int .i64 c] 23)
      rw [size_setRow] at this
      rw [hW2]; exact this
    have B2 : Hid (But g w W2) := by rw [hW2]; exact (But.row g w _).alloc _
    rw [← hW2]
    clear hW2 HG cb fb
    go_loopw [6] (fun i wr => ∃ j : Nat, j ≤ 6 ∧ i = .int .i64 ((j : Int) + 1) ∧ Hid (wr.heap[g]? = some (.cells (bC (mkK n (k : Int) r c (A.set k true) j)) t (0, 0))) ∧ Hid (But g W2 wr)) (fun i _ => 7 - (intOf i).toNat)
    case atStart => exact ⟨0, by omega, rfl, H2g, But.refl _ _⟩
    case round =>
      obtain ⟨j, hj, rfl, hgj, hbj⟩ := hrel
      have hpg : w.heap.size ≠ g := by omega
      have P5 := Lib.hid (hbj.out.heap H2p.out hpg)
      obtain ⟨q0, q1, q2⟩ := c3 P5.out
      by_cases hj6 : j < 6
      · have hlk : Hid ((mkK n (k : Int) r c (A.set k true) j).length = 7) := by show _ = _; rw [mkK_len, List.length_set]; exact hA
        have HY := Lib.hid (mkK_yes n (k : Int) r c (A.set k true) j)
        have HNo := Lib.hid (mkK_no n (k : Int) r c (A.set k true) j)
        have HCH := Lib.hid (aC_chk (j := j) hj6 HV.out)
        have hx1 : 1 ≤ (j : Int) + 1 := by omega
        have hx2 : (j : Int) + 1 ≤ 6 := by omega
        generalize hx : (j : Int) + 1 = x at *
        have HX := Lib.hid hx
        clear hx
        go_wp2_with fail
        refine (possible_any (k : Int) r c x _).mono ?_
        rintro e w3 ⟨rfl, hb⟩
        have G3 := Lib.hid (bkeep hb hgj.out)
        have P3 := Lib.hid (bkeep hb P5.out)
        have B3 := Lib.hid (hbj.out.trans (But.of hb))
        clear hb q0 q1 q2 P5 hgj hbj
        obtain ⟨q0, q1, q2⟩ := c3 P3.out
        by_cases hps : psb (k : Int) r x = 0
        · have HT := Lib.hid (HY.out hps)
          have HC2 := Lib.hid (HCH.out hps)
          have HP2 : Hid (x = 2 → 1 ≤ r) := fun h2 => psb2 h2 hps
          rw [hps]
          clear hps HY HNo HCH
          go_wp2_with fail
          refine (rafter_any (k : Int) r c x 1 _ hr1 hr2 hx1 hx2 HP2.out).mono ?_
          rintro e w4 ⟨rfl, hb⟩
          have G4 := Lib.hid (bkeep hb G3.out)
          have B4 := Lib.hid (B3.out.trans (But.of hb))
          clear hb q0 q1 q2 G3 P3 B3
          go_wp2_with fail
          refine (IH.out _ _ _ _ g t w4 (by omega) HC2.out hlk.out G4.out).mono ?_
          rintro e w5 ⟨⟨v, rfl⟩, hb, hg8⟩
          have G8 := Lib.hid hg8
          have B8 := Lib.hid (B4.out.trans hb)
          clear hb hg8
          go_wp2_with fail
          go_roundw
          case rel => exact ⟨j + 1, by omega, congrArg (Value.int .i64) (by have := HX.out; omega), by rw [HT.out]; exact G8, B8⟩
          case measure => have := HX.out; (first | (simp [intOf]; omega) | simp [intOf])
        · have HT := Lib.hid (HNo.out hps)
          have b0 : (psb (k : Int) r x == 0) = false := by simpa using hps
          clear hps HY HNo HCH
          go_wp2_with fail
          go_roundw
          case rel => exact ⟨j + 1, by omega, congrArg (Value.int .i64) (by have := HX.out; omega), by rw [HT.out]; exact G3, B3⟩
          case measure => have := HX.out; (first | (simp [intOf]; omega) | simp [intOf])
      · have he : 6 ≤ j := by omega
        obtain rfl : j = 6 := by omega
        go_wp2_with fail
        refine bodyPost_ret (results_none rfl _ _ _) rfl ?_
        exact ⟨⟨_, rfl⟩, B2.out.trans hbj.out, hgj.out⟩
end Go.Proofs.YtcicgccllhkolaaDoor
