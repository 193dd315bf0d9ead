/- Helper facts for the statements of this seat; no statement itself. -/
import Derived.Test.YtlmdfanhimhlcaaQ
import Derived.Deep.RegionHeld3
import Derived.Deep.DeepCutAuto
import Derived.Outline
namespace Go.Proofs.Ytlmdfanhimhlcaa
open Go.RowKit
set_option linter.unusedSimpArgs false
set_option linter.unusedVariables false
set_option linter.unnecessarySimpa false

/-- The cells of a list of integers at such an address. -/
def CellsOf (w : World) (ad : Option Addr) (l : List Int) : Prop := ∀ j, j < l.length → ∃ gl, ad = some ⟨gl, 0, none⟩ ∧ w.cell? ⟨gl, j, none⟩ = some (.int .i64 (l.getD j 0))
theorem CellsOf.keep {w w' : World} {ad : Option Addr} {l : List Int} (h : CellsOf w ad l) (hb : Below w.heap.size w w') : CellsOf w' ad l := fun j hj => by
  obtain ⟨gl, h1, h2⟩ := h j hj
  exact ⟨gl, h1, cellB hb h2⟩
theorem isC_all {w : World} {v : Value} {l : List Int} (h : IsIntsC w v l) : ∃ ad cap, v = .slice ad l.length cap ∧ CellsOf w ad l := by
  rcases h with ⟨rfl, rfl⟩ | ⟨gl, cap, rfl, _, _, hcl⟩
  · exact ⟨none, 0, rfl, fun j hj => absurd hj (by simp)⟩
  · exact ⟨_, cap, rfl, fun j hj => ⟨gl, rfl, hcl j hj⟩⟩
/-- What PressureLast holds. -/
def PL (w : World) (g ga : Nat) (a b c : Int) (l : List Int) (ad : Option Addr) (W : World) : Prop := W.heap[g]? = some (.cells (mC a b c) 23 (0, 0)) ∧ W.heap[ga]? = some (.cells (bC (runL b c l)) 4 (0, 0)) ∧ CellsOf W ad l ∧ Below w.heap.size w W
theorem PL.keep {w : World} {g ga : Nat} {a b c : Int} {l : List Int} {ad : Option Addr} {W W' : World} (h : PL w g ga a b c l ad W) (hb : Below W.heap.size W W') : PL w g ga a b c l ad W' := ⟨bkeep hb h.1, bkeep hb h.2.1, h.2.2.1.keep hb, btrans h.2.2.2 hb⟩
theorem belowN (W : World) (n : Nat) : Below W.heap.size W (W.drewN n) := bdrewN (Below.refl _ _) n

set_option maxHeartbeats 8000000 in
set_option maxRecDepth 100000 in
theorem pressureLast_walk (n : Int) (ad0 : Option Addr) (m cap0 : Nat) (w : World) (hn : m ≤ 9223372036854775807)
    (hl : m = 0 ∨ ∃ bb off, ∃ zs : List Int, ad0 = some ⟨bb, off, none⟩ ∧ m ≤ zs.length ∧ ∀ k, k < m → w.cell? ⟨bb, off + k, none⟩ = some (.int .i64 (zs.getD k 0))) :
    Calls Try.prog 6 #[.int .i64 n, .slice ad0 m cap0] w fun e w' => e = .returned (.bool true) ∧ Below w.heap.size w w' := by
  have HL0 := Lib.hid hl
  clear hl
  go_enter Try.func6, Try.ntmps6
  go_wp2_with fail
  refine (made_any n _).mono ?_
  rintro e w1 ⟨a, b, c, hm, rfl, hb⟩
  have HMM := Lib.hid hm
  have hbc : b < c := hm.2.2.1
  have B1 := Lib.hid hb
  clear hb hm
  go_wp2_with fail
  refine (history_any ad0 m cap0 _ hn ?hh).mono ?_
  case hh =>
    rcases HL0.out with h | ⟨bb, off, zs, h1, h2, h3⟩
    · exact .inl h
    · exact .inr ⟨bb, off, zs, h1, h2, fun k hk => cellB B1.out (h3 k hk)⟩
  rintro e w2 ⟨v, l, ⟨hl40, hsm⟩, rfl, hic, hb⟩
  have HI := Lib.hid (hic.ints (by omega))
  obtain ⟨ad, cap, rfl, hcl⟩ := isC_all hic
  have HCL := Lib.hid hcl
  have B2 := Lib.hid (btrans B1.out hb)
  have HZ := Lib.hid (snd_small HMM.out hl40 hsm)
  have HSL : Hid (spL a b c l = spK b c l l.length) := if_pos HZ.out
  clear hb hsm hic B1 HL0 hcl
  go_wp2_with fail
  refine (run_good a b c _ l _ HZ.out (by omega) (HI.out.keep ((Below.refl _ _).alloc (Nat.le_refl _) _))).mono ?_
  have B3 : Hid ((w2.alloc (.cells #[.int .i64 a, .int .i64 b, .int .i64 c] 23)).heap[w2.heap.size]? = some (.cells (mC a b c) 23 (0, 0)) ∧ CellsOf (w2.alloc (.cells #[.int .i64 a, .int .i64 b, .int .i64 c] 23)) ad l ∧ IsInts (w2.alloc (.cells #[.int .i64 a, .int .i64 b, .int .i64 c] 23)) (.slice ad l.length cap) l ∧ Below w.heap.size w (w2.alloc (.cells #[.int .i64 a, .int .i64 b, .int .i64 c] 23))) := ⟨h1_0 _ _, HCL.out.keep ((Below.refl _ _).alloc (Nat.le_refl _) _), HI.out.keep ((Below.refl _ _).alloc (Nat.le_refl _) _), balloc B2.out _⟩
  generalize w2.heap.size = g at *
  generalize w2.alloc (.cells #[.int .i64 a, .int .i64 b, .int .i64 c] 23) = W3 at *
  rintro e w4 ⟨ga, rfl, hga, hb⟩
  have H4 : Hid (PL w g ga a b c l ad w4) := ⟨bkeep hb B3.out.1, hga, B3.out.2.1.keep hb, btrans B3.out.2.2.2 hb⟩
  have HI4 := Lib.hid (B3.out.2.2.1.keep hb)
  have HRL : Hid ((runL b c l).length = l.length) := runL_len b c l
  clear hb hga B3 HCL B2 HI
  have hnn : ((l.length : Int) != (l.length : Int)) = false := by simp
  go_wp2_with fail
  go_loopw [9, 10] (fun v i wr => ∃ j : Nat, j ≤ l.length ∧ i = .int .i64 j ∧ v = .bool (awk b c l j) ∧ Hid (PL w g ga a b c l ad wr) ∧ Hid (IsInts wr (.slice ad l.length cap) l)) (fun _ i _ => l.length - (intOf i).toNat)
  case atStart => exact ⟨0, by omega, rfl, rfl, H4, HI4⟩
  case round =>
    clear H4 HI4
    obtain ⟨j, hj, rfl, rfl, H5, HI5⟩ := hrel
    by_cases hjl : j < l.length
    · obtain ⟨gl, rfl, c0⟩ := H5.out.2.2.1 j hjl
      have hq : wr.cell? ⟨ga, j, none⟩ = some (.bool (awk b c l (j + 1))) := by rw [bC_cell H5.out.2.1 j (by rw [HRL.out]; omega), runL_get b c l j hjl]
      have i1 : (0 : Int) ≤ (j : Int) := by omega
      have i2 : (j : Int) < (l.length : Int) := by omega
      have HA : Hid (awk b c l (j + 1) = nxt b c (awk b c l j) (l.getD j 0)) := rfl
      obtain ⟨q0, q1, q2⟩ := c3 H5.out.1
      generalize l.getD j 0 = y at *
      obtain ⟨bn, hbn⟩ : ∃ x, awk b c l (j + 1) = x := ⟨_, rfl⟩
      rw [hbn] at hq
      have HB := Lib.hid hbn
      clear hbn
      rcases (show y < b ∨ c ≤ y ∨ (b ≤ y ∧ y < c) by omega) with hy | hy | ⟨hy, hy2⟩
      · have hx : bn = true := by rw [← HB.out, HA.out]; unfold nxt; rw [if_pos hy]
        subst hx
        have hyc : y < c := by omega
        go_wp2_with fail
        go_quiet (fail)
        go_wp2_with fail
        go_quiet (fail)
        go_wp2_with fail
        go_roundw
        case rel => exact ⟨j + 1, by omega, by go_num, by rw [HB.out], H5.out.keep (by first | exact belowN _ _ | exact btrans (belowN _ _) (belowN _ _)), HI5.out.keep (by first | exact belowN _ _ | exact btrans (belowN _ _) (belowN _ _))⟩
        case measure => simp [intOf]; omega
      · have hx : bn = false := by rw [← HB.out, HA.out]; unfold nxt; rw [if_neg (by omega), if_pos hy]
        subst hx
        have hyc : b ≤ y := by omega
        go_wp2_with fail
        go_quiet (fail)
        go_wp2_with fail
        go_quiet (fail)
        go_wp2_with fail
        go_roundw
        case rel => exact ⟨j + 1, by omega, by go_num, by rw [HB.out], H5.out.keep (by first | exact belowN _ _ | exact btrans (belowN _ _) (belowN _ _)), HI5.out.keep (by first | exact belowN _ _ | exact btrans (belowN _ _) (belowN _ _))⟩
        case measure => simp [intOf]; omega
      · have hx : bn = awk b c l j := by rw [← HB.out, HA.out]; unfold nxt; rw [if_neg (by omega), if_neg (by omega)]
        rw [← hx]
        clear hx HA
        cases bn
        all_goals
          go_wp2_with fail
          go_quiet (fail)
          go_wp2_with fail
          go_quiet (fail)
          go_wp2_with fail
          go_roundw
          case rel => exact ⟨j + 1, by omega, by go_num, by rw [HB.out], H5.out.keep (by first | exact belowN _ _ | exact btrans (belowN _ _) (belowN _ _)), HI5.out.keep (by first | exact belowN _ _ | exact btrans (belowN _ _) (belowN _ _))⟩
          case measure => simp [intOf]; omega
    · have hle : l.length ≤ j := by omega
      obtain ⟨q0, q1, q2⟩ := c3 H5.out.1
      go_wp2_with fail
      refine (spans_any a b c _ l _ HI5.out).mono ?_
      rintro e w6 ⟨v6, rfl, hsp, hb⟩
      rw [HZ.out]
      rw [HSL.out] at hsp
      obtain ⟨a6, n6, c6, rfl, rfl, hs6, hsp⟩ := hsp
      have HSP := Lib.hid hsp
      have H6 : Hid (PL w g ga a b c l ad w6) := H5.out.keep hb
      have HOK := Lib.hid (spK_ok b c l l.length)
      clear hb H5 HI5 q0 q1 q2 hsp
      generalize spK b c l l.length = S at *
      go_wp2_with fail
      go_loopw [12] (fun i wr => ∃ j : Nat, j ≤ S.length ∧ i = .int .i64 j ∧ Hid (PL w g ga a b c l ad wr) ∧ Hid (Below w6.heap.size w6 wr)) (fun i _ => S.length - (intOf i).toNat)
      case atStart => exact ⟨0, by omega, rfl, H6, Below.refl _ _⟩
      case round =>
        clear H6
        obtain ⟨k, hk, rfl, H7, HB7⟩ := hrel
        by_cases hkl : k < S.length
        · have e2 := HOK.out k hkl
          rcases HSP.out with h | ⟨bS, rfl, hcs⟩
          · exact absurd hkl (by rw [h]; simp)
          have s1 := cellB HB7.out (hcs k hkl).1
          have s2 := cellB HB7.out (hcs k hkl).2
          clear hcs
          generalize S.getD k (0, 0) = y at *
          obtain ⟨f, t⟩ := y
          obtain ⟨o1, o2, o3, o4, o5, _, _⟩ := e2
          simp only [] at o1 o2 o3 o4 o5 s1 s2
          obtain ⟨t1, ht1⟩ : ∃ t1, t1 = t + 1 := ⟨_, rfl⟩
          have r1 : IntKind.i64.wrap (t + 1) = t1 := by rw [IntWalk.i64_in _ (by omega)]; omega
          rw [← ht1] at o5
          have T1 := Lib.hid ht1
          have p1 : 0 ≤ t1 := by omega
          have p2 : t1 ≤ (l.length : Int) := by omega
          have p3 : f < (l.length : Int) := by omega
          have p4 : f.toNat < l.length := by omega
          clear ht1
          have n4 : decide (t < f) = false := decide_eq_false (by omega)
          have n5 : decide ((l.length : Int) ≤ t) = false := decide_eq_false (by omega)
          have n6 : decide (f < 0) = false := decide_eq_false (by omega)
          have i1 : (0 : Int) ≤ (k : Int) := by omega
          have i2 : (k : Int) < (S.length : Int) := by omega
          have b0 := c2 (h1_0 wr (.cells #[.int .i64 f, .int .i64 t] 49))
          have H8 : Hid (PL w g ga a b c l ad (wr.alloc (.cells #[.int .i64 f, .int .i64 t] 49)) ∧ Below w6.heap.size w6 (wr.alloc (.cells #[.int .i64 f, .int .i64 t] 49))) := ⟨H7.out.keep ((Below.refl _ _).alloc (Nat.le_refl _) _), balloc HB7.out _⟩
          by_cases hla : t1 < (l.length : Int)
          · obtain ⟨gl, rfl, cf⟩ := H8.out.1.2.2.1 f.toNat p4
            obtain ⟨gl', hgl, ct⟩ := H8.out.1.2.2.1 t1.toNat (by omega)
            cases hgl
            have o6 := o5 hla
            obtain ⟨q0, q1, q2⟩ := c3 H8.out.1.1
            obtain ⟨b0, b1⟩ := b0
            have m2 : decide (t1 < (l.length : Int)) = true := decide_eq_true hla
            generalize l.getD f.toNat 0 = y1 at *
            generalize l.getD t1.toNat 0 = y2 at *
            have n8 : decide (b ≤ y1) = false := decide_eq_false (by omega)
            have m3 : decide (y2 < c) = false := decide_eq_false (by omega)
            clear o5 p4
            go_wp2_with fail
            go_quiet (fail)
            go_wp2_with fail
            go_roundw
            case rel => exact ⟨k + 1, by omega, by go_num, H8.out.1.keep (belowN _ _), btrans H8.out.2 (belowN _ _)⟩
            case measure => simp [intOf]; omega
          · obtain ⟨gl, rfl, cf⟩ := H8.out.1.2.2.1 f.toNat p4
            obtain ⟨q0, q1, q2⟩ := c3 H8.out.1.1
            obtain ⟨b0, b1⟩ := b0
            have m2 : decide (t1 < (l.length : Int)) = false := decide_eq_false hla
            have m4 : (l.length : Int) ≤ t1 := by omega
            generalize l.getD f.toNat 0 = y1 at *
            have n8 : decide (b ≤ y1) = false := decide_eq_false (by omega)
            clear o5 hla p4
            go_wp2_with fail
            go_quiet (fail)
            go_wp2_with fail
            go_roundw
            case rel => exact ⟨k + 1, by omega, by go_num, H8.out.1.keep (belowN _ _), btrans H8.out.2 (belowN _ _)⟩
            case measure => simp [intOf]; omega
        · have hle2 : S.length ≤ k := by omega
          go_wp2_with fail
          refine (awake_any _).mono ?_
          rintro e wz ⟨rfl, hb⟩
          have Bz := Lib.hid (btrans H7.out.2.2.2 hb)
          clear hb
          go_wp2_with fail
          go_ret
          exact ⟨rfl, Bz.out⟩
end Go.Proofs.Ytlmdfanhimhlcaa
