/- Helper facts for the statements of this seat; no statement itself. -/
import Derived.Test.YtlmdfanhimhlcaaK
import Derived.Deep.RegionHeld3
import Derived.Deep.DeepCutAuto
import Derived.Outline
namespace Go.Proofs.Ytlmdfanhimhlcaa
open Go.RowKit
set_option linter.unusedSimpArgs false
set_option linter.unusedVariables false
set_option linter.unnecessarySimpa false

/-- The marks, the history and the answers that PressureParts holds. -/
def PP (w : World) (g ga gf : Nat) (a b c : Int) (l : List Int) (A B : List Bool) (W : World) : Prop := W.heap[g]? = some (.cells (mC a b c) 23 (0, 0)) ∧ W.heap[ga]? = some (.cells (bC A) 4 (0, 0)) ∧ W.heap[gf]? = some (.cells (bC B) 4 (0, 0)) ∧ Below w.heap.size w W
theorem PP.keep {w : World} {g ga gf : Nat} {a b c : Int} {l : List Int} {A B : List Bool} {W W' : World} (h : PP w g ga gf a b c l A B W) (hb : Below W.heap.size W W') : PP w g ga gf a b c l A B W' := ⟨bkeep hb h.1, bkeep hb h.2.1, bkeep hb h.2.2.1, btrans h.2.2.2 hb⟩
theorem PP.drew {w : World} {g ga gf : Nat} {a b c : Int} {l : List Int} {A B : List Bool} {W : World} (h : PP w g ga gf a b c l A B W) : PP w g ga gf a b c l A B W.drew := ⟨h.1, h.2.1, h.2.2.1, h.2.2.2.drew⟩
theorem isB_of {W : World} {g : Nat} {t : TypeId} {A : List Bool} (h : W.heap[g]? = some (.cells (bC A) t (0, 0))) (k cap : Nat) (hk : k ≤ A.length) (h4 : A.length ≤ 400) : IsBools W (.slice (some ⟨g, 0, none⟩) k cap) (A.take k) :=
  ⟨_, _, _, rfl, by rw [List.length_take]; omega, by rw [List.length_take]; omega, .inr ⟨g, 0, rfl, fun j hj => by
    rw [List.length_take] at hj
    rw [Nat.zero_add, bC_cell h j (by omega)]
    simp [List.getD, List.getElem?_take, show j < k by omega]⟩⟩
theorem isI_take {W : World} {g : Nat} {l : List Int} (h : ∀ k, k < l.length → W.cell? ⟨g, k, none⟩ = some (.int .i64 (l.getD k 0))) (k cap : Nat) (hk : k ≤ l.length) (h4 : l.length ≤ 40) : IsInts W (.slice (some ⟨g, 0, none⟩) k cap) (l.take k) :=
  ⟨_, _, _, rfl, by rw [List.length_take]; omega, by rw [List.length_take]; omega, .inr ⟨g, 0, rfl, fun j hj => by
    rw [List.length_take] at hj
    rw [Nat.zero_add, getD_take (by omega)]
    exact h j (by omega)⟩⟩
theorem isI_drop {W : World} {g : Nat} {l : List Int} (h : ∀ k, k < l.length → W.cell? ⟨g, k, none⟩ = some (.int .i64 (l.getD k 0))) (k cap : Nat) (hk : k ≤ l.length) (h4 : l.length ≤ 40) : IsInts W (.slice (some ⟨g, k, none⟩) (l.length - k) cap) (l.drop k) :=
  ⟨_, _, _, rfl, by rw [List.length_drop], by rw [List.length_drop]; omega, .inr ⟨g, k, rfl, fun j hj => by
    rw [List.length_drop] at hj
    rw [getD_drop]
    exact h (k + j) (by omega)⟩⟩
theorem isI_dropE {W : World} {g : Option Addr} {l : List Int} {cap : Nat} (k : Nat) (hk : k ≤ l.length) (hc : l.length ≤ k) : IsInts W (.slice g (l.length - k) cap) (l.drop k) := by
  have h0 : l.length - k = 0 := by omega
  rw [h0, List.drop_eq_nil_of_le (by omega)]
  exact IsInts.nil _ _ _
theorem cells_keep {W W' : World} {g : Nat} {l : List Int} (h : ∀ k, k < l.length → W.cell? ⟨g, k, none⟩ = some (.int .i64 (l.getD k 0))) (hb : Below W.heap.size W W') : ∀ k, k < l.length → W'.cell? ⟨g, k, none⟩ = some (.int .i64 (l.getD k 0)) := fun k hk => cellB hb (h k hk)

set_option maxHeartbeats 8000000 in
set_option maxRecDepth 100000 in
theorem pressureParts_walk (n : Int) (ad : Option Addr) (m cap0 : Nat) (cut : Int) (w : World) (hn : m ≤ 9223372036854775807)
    (hl : m = 0 ∨ ∃ bb off, ∃ zs : List Int, ad = some ⟨bb, off, none⟩ ∧ m ≤ zs.length ∧ ∀ k, k < m → w.cell? ⟨bb, off + k, none⟩ = some (.int .i64 (zs.getD k 0))) :
    Calls Try.prog 5 #[.int .i64 n, .slice ad m cap0, .int .i64 cut] w fun e w' => e = .returned (.bool true) ∧ Below w.heap.size w w' := by
  have HL0 := Lib.hid hl
  clear hl
  go_enter Try.func5, Try.ntmps5
  go_wp2_with fail
  refine (made_any n _).mono ?_
  rintro e w1 ⟨a, b, c, hm, rfl, hb⟩
  have HMM := Lib.hid hm
  have B1 := Lib.hid hb
  clear hb hm
  go_wp2_with fail
  refine (history_any ad m cap0 _ hn ?hh).mono ?_
  case hh =>
    rcases HL0.out with h | ⟨bb, off, zs, h1, h2, h3⟩
    · exact .inl h
    · exact .inr ⟨bb, off, zs, h1, h2, fun k hk => cellB B1.out (h3 k hk)⟩
  rintro e w2 ⟨v, l, ⟨hl40, hsm⟩, rfl, hic, hb⟩
  have HS := Lib.hid hsm
  have HIC := Lib.hid hic
  have B2 := Lib.hid (btrans B1.out hb)
  have HZ := Lib.hid (snd_small HMM.out hl40 hsm)
  clear hb hsm hic B1 HL0
  rcases HIC.out with ⟨rfl, rfl⟩ | ⟨gl, cap, rfl, hcap, hcm, hcl⟩
  · clear HIC
    go_wp2_with fail
    refine (mod_any cut 1 _ (by omega) (by omega)).mono ?_
    rintro e w3 ⟨rfl, rfl⟩
    rw [Int.emod_one]
    go_wp2_with fail
    have B3 : Hid ((w2.alloc (.cells #[.int .i64 a, .int .i64 b, .int .i64 c] 23)).heap[w2.heap.size]? = some (.cells (mC a b c) 23 (0, 0)) ∧ Below w.heap.size w (w2.alloc (.cells #[.int .i64 a, .int .i64 b, .int .i64 c] 23))) := ⟨h1_0 _ _, balloc B2.out _⟩
    refine (run_good a b c _ [] _ HZ.out (by simp) (IsInts.nil _ _ _)).mono ?_
    generalize w2.heap.size = g at *
    generalize w2.alloc (.cells #[.int .i64 a, .int .i64 b, .int .i64 c] 23) = W3 at *
    rintro e w4 ⟨ga, rfl, hga, hb⟩
    have H4 : Hid (w4.heap[g]? = some (.cells (mC a b c) 23 (0, 0)) ∧ Below w.heap.size w w4) := ⟨bkeep hb B3.out.1, btrans B3.out.2 hb⟩
    clear hb hga B3 B2
    have s0 := c3 H4.out.1
    go_wp2_with fail
    go_region_held3 (fun w' => w'.cell? ⟨g, 0, none⟩ = some (.int .i64 a) ∧ w'.cell? ⟨g, 1, none⟩ = some (.int .i64 b) ∧ w'.cell? ⟨g, 2, none⟩ = some (.int .i64 c)) (first | exact s0 | exact s1) ((go_at_call 21; (with_reducible refine (run_good a b c _ [] w4.drew ?h1 ?h2 ?h3).mono ?_); (case h1 => exact HZ.out); (case h2 => exact Nat.zero_le _); (case h3 => exact IsInts.nil _ _ _); rintro e w5 ⟨gf, rfl, hgf, hb⟩; have H5 : Hid (w5.heap[g]? = some (.cells (mC a b c) 23 (0, 0)) ∧ Below w.heap.size w w5) := ⟨bkeep (wr := w4.drew) hb H4.out.1, btrans H4.out.2.drew hb⟩; have s1 := c3 H5.out.1; clear hb hgf))
    clear s0 s1 H4
    go_wp2_with fail
    refine (sameBools_any _ _ [] [] _ (IsBools.nil _ _ _) (IsBools.nil _ _ _)).mono ?_
    rintro e w6 ⟨rfl, hb⟩
    have H6 : Hid (w6.heap[g]? = some (.cells (mC a b c) 23 (0, 0)) ∧ Below w.heap.size w w6) := ⟨bkeep hb H5.out.1, btrans H5.out.2 hb⟩
    clear hb H5
    obtain ⟨q0, q1, q2⟩ := c3 H6.out.1
    rw [beq_self_eq_true]
    go_wp2_with fail
    go_loopw [14, 15] (fun v i wr => v = .bool false ∧ i = .int .i64 0 ∧ wr = w6) (fun _ _ _ => 0)
    case atStart => exact ⟨rfl, rfl, rfl⟩
    case round =>
      obtain ⟨rfl, rfl, rfl⟩ := hrel
      go_wp2_with fail
      refine (worst_any a b c _ [] _ (IsInts.nil _ _ _)).mono ?_
      rintro e w9 ⟨rfl, hb⟩
      have H9 : Hid (w9.heap[g]? = some (.cells (mC a b c) 23 (0, 0)) ∧ Below w.heap.size w w9) := ⟨bkeep hb H6.out.1, btrans H6.out.2 hb⟩
      clear hb H6 q0 q1 q2
      have s0 := c3 H9.out.1
      rw [HZ.out]
      go_wp2_with fail
      go_region_held3 (fun w' => w'.cell? ⟨g, 0, none⟩ = some (.int .i64 a) ∧ w'.cell? ⟨g, 1, none⟩ = some (.int .i64 b) ∧ w'.cell? ⟨g, 2, none⟩ = some (.int .i64 c)) (first | exact s0 | exact s1) ((go_at_call 23; (with_reducible refine (worst_any a b c _ [] w9.drew ?h4).mono ?_); (case h4 => exact IsInts.nil _ _ _); rintro e wa ⟨rfl, hb⟩; rw [HZ.out]; have Ha : Hid (wa.heap[g]? = some (.cells (mC a b c) 23 (0, 0)) ∧ Below w.heap.size w wa) := ⟨bkeep (wr := w9.drew) hb H9.out.1, btrans H9.out.2.drew hb⟩; have s1 := c3 Ha.out.1; clear hb))
      clear s0 s1 H9
      have s0 := c3 Ha.out.1
      go_wp2_with fail
      go_region_held3 (fun w' => w'.cell? ⟨g, 0, none⟩ = some (.int .i64 a) ∧ w'.cell? ⟨g, 1, none⟩ = some (.int .i64 b) ∧ w'.cell? ⟨g, 2, none⟩ = some (.int .i64 c)) (first | exact s0 | exact s1) ((go_at_call 23; (with_reducible refine (worst_any a b c _ [] wa.drew ?h5).mono ?_); (case h5 => exact IsInts.nil _ _ _); rintro e wb ⟨rfl, hb⟩; rw [HZ.out]; have Hb : Hid (wb.heap[g]? = some (.cells (mC a b c) 23 (0, 0)) ∧ Below w.heap.size w wb) := ⟨bkeep (wr := wa.drew) hb Ha.out.1, btrans Ha.out.2.drew hb⟩; have s1 := c3 Hb.out.1; clear hb))
      clear s0 s1 Ha
      generalize woL a b c [] = x0 at *
      go_wp2_with fail
      refine (awake_any _).mono ?_
      rintro e wz ⟨rfl, hb⟩
      have Bz := Lib.hid (btrans Hb.out.2 hb)
      clear hb
      go_wp2_with fail
      go_ret
      exact ⟨rfl, Bz.out⟩
  · have HCL := Lib.hid hcl
    clear HIC hcl
    go_wp2_with fail
    obtain ⟨k, hk⟩ : ∃ k : Nat, (k : Int) = cut % ((l.length : Int) + 1) := ⟨(cut % ((l.length : Int) + 1)).toNat, by have := mod_b cut ((l.length : Int) + 1) (by omega); omega⟩
    have hkl : k ≤ l.length := by have := mod_b cut ((l.length : Int) + 1) (by omega); omega
    refine (mod_any cut ((l.length : Int) + 1) _ (by omega) (by omega)).mono ?_
    rintro e w3 ⟨rfl, rfl⟩
    rw [← hk]
    clear hk
    go_wp2_with fail
    have B3 : Hid ((w2.alloc (.cells #[.int .i64 a, .int .i64 b, .int .i64 c] 23)).heap[w2.heap.size]? = some (.cells (mC a b c) 23 (0, 0)) ∧ Below w.heap.size w (w2.alloc (.cells #[.int .i64 a, .int .i64 b, .int .i64 c] 23))) := ⟨h1_0 _ _, balloc B2.out _⟩
    have HC3 : Hid (∀ j, j < l.length → (w2.alloc (.cells #[.int .i64 a, .int .i64 b, .int .i64 c] 23)).cell? ⟨gl, j, none⟩ = some (.int .i64 (l.getD j 0))) := cells_keep HCL.out ((Below.refl _ _).alloc (Nat.le_refl _) _)
    have hci : (k : Int) ≤ (cap : Int) := by omega
    have hki : (k : Int) ≤ (l.length : Int) := by omega
    have hk0 : (0 : Int) ≤ (k : Int) := by omega
    refine (run_good a b c _ l _ HZ.out (by omega) ?i1).mono ?_
    case i1 =>
      have := isI_take HC3.out l.length cap (by omega) hl40
      rw [List.take_length] at this
      exact this
    generalize w2.heap.size = g at *
    generalize w2.alloc (.cells #[.int .i64 a, .int .i64 b, .int .i64 c] 23) = W3 at *
    rintro e w4 ⟨ga, rfl, hga, hb⟩
    have H4 : Hid (w4.heap[g]? = some (.cells (mC a b c) 23 (0, 0)) ∧ w4.heap[ga]? = some (.cells (bC (runL b c l)) 4 (0, 0)) ∧ Below w.heap.size w w4) := ⟨bkeep hb B3.out.1, hga, btrans B3.out.2 hb⟩
    have HC4 : Hid (∀ j, j < l.length → w4.cell? ⟨gl, j, none⟩ = some (.int .i64 (l.getD j 0))) := cells_keep HC3.out hb
    clear hb hga B3 HC3 HCL B2
    have HLT : Hid ((l.take k).length = k ∧ runL b c (l.take k) = (runL b c l).take k) := ⟨by rw [List.length_take, Nat.min_eq_left hkl], runL_take b c l k hkl⟩
    have HZ1 : Hid (snd a b c (l.take k) = 0 ∧ snd a b c (l.drop k) = 0) := ⟨snd_small HMM.out (by rw [List.length_take]; omega) (small_take k HS.out), snd_small HMM.out (by rw [List.length_drop]; omega) (small_drop k HS.out)⟩
    have s0 := c3 H4.out.1
    go_wp2_with fail
    go_region_held3 (fun w' => w'.cell? ⟨g, 0, none⟩ = some (.int .i64 a) ∧ w'.cell? ⟨g, 1, none⟩ = some (.int .i64 b) ∧ w'.cell? ⟨g, 2, none⟩ = some (.int .i64 c)) (first | exact s0 | exact s1) ((go_at_call 21; (with_reducible refine (run_good a b c _ (l.take k) w4.drew ?h1 ?h2 ?h3).mono ?_); (case h1 => exact HZ1.out.1); (case h2 => rw [HLT.out.1]; omega); (case h3 => exact isI_take (W := w4.drew) HC4.out k cap hkl hl40); rintro e w5 ⟨gf, rfl, hgf, hb⟩; have H5 : Hid (PP w g ga gf a b c l (runL b c l) ((runL b c l).take k) w5) := ⟨bkeep (wr := w4.drew) hb H4.out.1, bkeep (wr := w4.drew) hb H4.out.2.1, by rw [← HLT.out.2]; exact hgf, btrans H4.out.2.2.drew hb⟩; have HC5 : Hid (∀ j, j < l.length → w5.cell? ⟨gl, j, none⟩ = some (.int .i64 (l.getD j 0))) := cells_keep (W := w4.drew) HC4.out hb; rw [HLT.out.1]; have s1 := c3 H5.out.1; clear hb hgf))
    clear s0 s1 H4 HC4
    have HRL : Hid ((runL b c l).length = l.length) := runL_len b c l
    go_wp2_with fail
    refine (sameBools_any _ _ ((runL b c l).take k) ((runL b c l).take k) _ ?i2 ?i3).mono ?_
    case i2 =>
      have := isB_of H5.out.2.2.1 k k (by rw [List.length_take, HRL.out]; omega) (by rw [List.length_take, HRL.out]; omega)
      rw [List.take_take, Nat.min_self] at this
      exact this
    case i3 => exact isB_of H5.out.2.1 k _ (by rw [HRL.out]; omega) (by rw [HRL.out]; omega)
    rintro e w6 ⟨rfl, hb⟩
    have H6 : Hid (PP w g ga gf a b c l (runL b c l) ((runL b c l).take k) w6) := H5.out.keep hb
    have HC6 : Hid (∀ j, j < l.length → w6.cell? ⟨gl, j, none⟩ = some (.int .i64 (l.getD j 0))) := cells_keep HC5.out hb
    clear hb H5 HC5
    rw [beq_self_eq_true]
    go_upto_region 7 with fail
    go_cut [14] (fun s14 wx => s14 = .bool (awk b c l k) ∧ wx = w6)
    case first =>
      by_cases hz : k = 0
      · have HE : Hid (awk b c l k = false) := by show _ = _; rw [hz]; rfl
        have hd : (k : Int) ≤ 0 := by omega
        clear hz
        go_wp2_with fail
        go_meet
        exact ⟨by rw [HE.out], rfl⟩
      · obtain ⟨j, hj⟩ : ∃ j, k = j + 1 := ⟨k - 1, by omega⟩
        have HE : Hid (awk b c l k = awk b c l (j + 1)) := by show _ = _; rw [hj]
        have hq : w6.cell? ⟨gf, j, none⟩ = some (.bool (awk b c l (j + 1))) := by
          rw [bC_cell H6.out.2.2.1 j (by rw [List.length_take, HRL.out]; omega), ← runL_get b c l j (by omega)]
          simp [List.getD, List.getElem?_take, show j < k by omega]
        have hd : (0 : Int) < (k : Int) := by omega
        have r1 : IntKind.i64.wrap ((k : Int) - 1) = (j : Int) := by rw [IntWalk.i64_in _ (by omega)]; omega
        have r2 : (0 : Int) ≤ (j : Int) := by omega
        have r3 : (j : Int) < (k : Int) := by omega
        clear hz
        have HJ := Lib.hid hj
        clear hj
        go_wp2_with fail
        go_meet
        exact ⟨by rw [HE.out], rfl⟩
    case rest =>
      obtain ⟨rfl, rfl⟩ := hcut
      go_wp2_with fail
      go_loopw [14, 15] (fun v i wr => ∃ j : Nat, k ≤ j ∧ j ≤ l.length ∧ i = .int .i64 j ∧ v = .bool (awk b c l j) ∧ Hid (PP w g ga gf a b c l (runL b c l) ((runL b c l).take k) wr) ∧ Hid (∀ j, j < l.length → wr.cell? ⟨gl, j, none⟩ = some (.int .i64 (l.getD j 0)))) (fun _ i _ => l.length - (intOf i).toNat)
      case atStart => exact ⟨k, by omega, by omega, rfl, rfl, H6, HC6⟩
      case round =>
        clear H6 HC6
        obtain ⟨j, hj1, hj2, rfl, rfl, H7, HC7⟩ := hrel
        by_cases hjl : j < l.length
        · have c0 := HC7.out j hjl
          have hq : wr.cell? ⟨ga, j, none⟩ = some (.bool (awk b c l (j + 1))) := by rw [bC_cell H7.out.2.1 j (by rw [HRL.out]; omega), runL_get b c l j hjl]
          obtain ⟨z1, z2⟩ := HS.out j hjl
          have i1 : (0 : Int) ≤ (j : Int) := by omega
          have i2 : (j : Int) < (l.length : Int) := by omega
          have HN : Hid (nxR a b c (awk b c l j) (l.getD j 0) = awk b c l (j + 1) ∧ sn1 a b c (l.getD j 0) = 0) := by
            have h0 : sn1 a b c (l.getD j 0) = 0 := by have := HMM.out; exact sn1_zero this.1 this.2.1 this.2.2.1 (by omega) z1 (by omega)
            exact ⟨if_pos h0, h0⟩
          obtain ⟨bn, hbn⟩ : ∃ x, awk b c l (j + 1) = x := ⟨_, rfl⟩
          rw [hbn] at HN hq
          have HB := Lib.hid hbn
          clear hbn
          have s0 := four H7.out.1 c0
          generalize l.getD j 0 = y at *
          generalize awk b c l j = was at *
          go_wp2_with fail
          go_region_held3 (fun w' => w'.cell? ⟨g, 0, none⟩ = some (.int .i64 a) ∧ w'.cell? ⟨g, 1, none⟩ = some (.int .i64 b) ∧ w'.cell? ⟨g, 2, none⟩ = some (.int .i64 c) ∧ w'.cell? ⟨gl, j, none⟩ = some (.int .i64 y)) (first | exact s0 | exact s1) ((go_at_call 13; (with_reducible refine (next_full a b c was y wr.drew).mono ?_); rintro e w8 ⟨rfl, hb⟩; rw [HN.out.1, HN.out.2]; have H8 : Hid (PP w g ga gf a b c l (runL b c l) ((runL b c l).take k) w8) := H7.out.drew.keep hb; have HC8 : Hid (∀ j, j < l.length → w8.cell? ⟨gl, j, none⟩ = some (.int .i64 (l.getD j 0))) := cells_keep (W := wr.drew) HC7.out hb; have hq8 : w8.cell? ⟨ga, j, none⟩ = some (.bool bn) := cellB hb (cellD hq); have s1 := four H8.out.1 (cellB hb (cellD c0)); clear hb))
          clear s0 s1 hq c0 H7 HC7
          cases bn
          all_goals
            go_wp2_with fail
            go_roundw
            case rel => exact ⟨j + 1, by omega, by omega, by go_num, by rw [HB.out], H8, HC8⟩
            case measure => simp [intOf]; omega
        · have hle : l.length ≤ j := by omega
          have s0 := c3 H7.out.1
          obtain ⟨q0, q1, q2⟩ := c3 H7.out.1
          go_wp2_with fail
          refine (worst_any a b c _ l _ ?i4).mono ?_
          case i4 =>
            have := isI_take HC7.out l.length cap (by omega) hl40
            rw [List.take_length] at this
            exact this
          rintro e w9 ⟨rfl, hb⟩
          have H9 : Hid (PP w g ga gf a b c l (runL b c l) ((runL b c l).take k) w9) := H7.out.keep hb
          have HC9 : Hid (∀ j, j < l.length → w9.cell? ⟨gl, j, none⟩ = some (.int .i64 (l.getD j 0))) := cells_keep HC7.out hb
          clear hb s0 H7 HC7 q0 q1 q2
          have s0 := c3 H9.out.1
          rw [HZ.out]
          go_wp2_with fail
          go_region_held3 (fun w' => w'.cell? ⟨g, 0, none⟩ = some (.int .i64 a) ∧ w'.cell? ⟨g, 1, none⟩ = some (.int .i64 b) ∧ w'.cell? ⟨g, 2, none⟩ = some (.int .i64 c)) (first | exact s0 | exact s1) ((go_at_call 23; (with_reducible refine (worst_any a b c _ (l.take k) w9.drew ?h4).mono ?_); (case h4 => exact isI_take (W := w9.drew) HC9.out k cap hkl hl40); rintro e wa ⟨rfl, hb⟩; rw [HZ1.out.1]; have Ha : Hid (PP w g ga gf a b c l (runL b c l) ((runL b c l).take k) wa) := H9.out.drew.keep hb; have HCa : Hid (∀ j, j < l.length → wa.cell? ⟨gl, j, none⟩ = some (.int .i64 (l.getD j 0))) := cells_keep (W := w9.drew) HC9.out hb; have s1 := c3 Ha.out.1; clear hb))
          clear s0 s1 H9 HC9
          have s0 := c3 Ha.out.1
          by_cases hkc : cap = k
          · subst hkc
            go_wp2_with fail
            go_region_held3 (fun w' => w'.cell? ⟨g, 0, none⟩ = some (.int .i64 a) ∧ w'.cell? ⟨g, 1, none⟩ = some (.int .i64 b) ∧ w'.cell? ⟨g, 2, none⟩ = some (.int .i64 c)) (first | exact s0 | exact s1) ((go_at_call 23; (with_reducible refine (worst_any a b c _ (l.drop cap) wa.drew ?h5).mono ?_); (case h5 => rw [List.drop_eq_nil_of_le hcap]; exact IsInts.nil _ _ _); rintro e wb ⟨rfl, hb⟩; rw [HZ1.out.2]; have Hb : Hid (PP w g ga gf a b c l (runL b c l) ((runL b c l).take cap) wb) := Ha.out.drew.keep hb; have s1 := c3 Hb.out.1; clear hb))
            clear s0 s1 Ha HCa
            have hw := worst_parts a b c l cap hkl HZ.out HZ1.out.1 HZ1.out.2
            generalize woL a b c l = x0 at *
            generalize woL a b c (l.take cap) = x1 at *
            generalize woL a b c (l.drop cap) = x2 at *
            rcases Int.lt_trichotomy x1 x2 with h | h | h
            · rw [Int.max_eq_right (by omega)] at hw
              subst hw
              go_wp2_with fail
              refine (awake_any _).mono ?_
              rintro e wz ⟨rfl, hb⟩
              have Bz := Lib.hid (btrans Hb.out.2.2.2 hb)
              clear hb
              go_wp2_with fail
              go_ret
              exact ⟨rfl, Bz.out⟩
            · subst h
              rw [Int.max_eq_right (by omega)] at hw
              subst hw
              go_wp2_with fail
              refine (awake_any _).mono ?_
              rintro e wz ⟨rfl, hb⟩
              have Bz := Lib.hid (btrans Hb.out.2.2.2 hb)
              clear hb
              go_wp2_with fail
              go_ret
              exact ⟨rfl, Bz.out⟩
            · rw [Int.max_eq_left (by omega)] at hw
              subst hw
              go_wp2_with fail
              refine (awake_any _).mono ?_
              rintro e wz ⟨rfl, hb⟩
              have Bz := Lib.hid (btrans Hb.out.2.2.2 hb)
              clear hb
              go_wp2_with fail
              go_ret
              exact ⟨rfl, Bz.out⟩
          · skip
            go_wp2_with fail
            go_region_held3 (fun w' => w'.cell? ⟨g, 0, none⟩ = some (.int .i64 a) ∧ w'.cell? ⟨g, 1, none⟩ = some (.int .i64 b) ∧ w'.cell? ⟨g, 2, none⟩ = some (.int .i64 c)) (first | exact s0 | exact s1) ((go_at_call 23; (with_reducible refine (worst_any a b c _ (l.drop k) wa.drew ?h5).mono ?_); (case h5 => exact isI_drop (W := wa.drew) HCa.out k (cap - k) hkl hl40); rintro e wb ⟨rfl, hb⟩; rw [HZ1.out.2]; have Hb : Hid (PP w g ga gf a b c l (runL b c l) ((runL b c l).take k) wb) := Ha.out.drew.keep hb; have s1 := c3 Hb.out.1; clear hb))
            clear s0 s1 Ha HCa
            have hw := worst_parts a b c l k hkl HZ.out HZ1.out.1 HZ1.out.2
            generalize woL a b c l = x0 at *
            generalize woL a b c (l.take k) = x1 at *
            generalize woL a b c (l.drop k) = x2 at *
            rcases Int.lt_trichotomy x1 x2 with h | h | h
            · rw [Int.max_eq_right (by omega)] at hw
              subst hw
              go_wp2_with fail
              refine (awake_any _).mono ?_
              rintro e wz ⟨rfl, hb⟩
              have Bz := Lib.hid (btrans Hb.out.2.2.2 hb)
              clear hb
              go_wp2_with fail
              go_ret
              exact ⟨rfl, Bz.out⟩
            · subst h
              rw [Int.max_eq_right (by omega)] at hw
              subst hw
              go_wp2_with fail
              refine (awake_any _).mono ?_
              rintro e wz ⟨rfl, hb⟩
              have Bz := Lib.hid (btrans Hb.out.2.2.2 hb)
              clear hb
              go_wp2_with fail
              go_ret
              exact ⟨rfl, Bz.out⟩
            · rw [Int.max_eq_left (by omega)] at hw
              subst hw
              go_wp2_with fail
              refine (awake_any _).mono ?_
              rintro e wz ⟨rfl, hb⟩
              have Bz := Lib.hid (btrans Hb.out.2.2.2 hb)
              clear hb
              go_wp2_with fail
              go_ret
              exact ⟨rfl, Bz.out⟩
end Go.Proofs.Ytlmdfanhimhlcaa
