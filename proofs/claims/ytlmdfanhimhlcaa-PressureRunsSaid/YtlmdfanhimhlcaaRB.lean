/- Helper facts for the statements of this seat; no statement itself. -/
import Derived.Test.YtlmdfanhimhlcaaRA
import Derived.Outline
namespace Go.Proofs.Ytlmdfanhimhlcaa
open Go.RowKit
set_option linter.unusedSimpArgs false
set_option linter.unusedVariables false
set_option linter.unnecessarySimpa false

set_option maxHeartbeats 1000000 in
theorem rspans_bad (a b c : Int) (v : Value) (zs : List Int) (w : World) (hs : snd a b c zs ≠ 0) (hi : IsInts w v zs) : Calls Try.prog 27 #[MV a b c, v] w (Spd a b c zs w) := by
  have hz : (snd a b c zs == 0) = false := by simpa using hs
  have HR : Hid (spL a b c zs = []) := if_neg hs
  have HI := Lib.hid hi
  obtain ⟨ad, len, cap, rfl, rfl, _, _⟩ := hi
  go_enter Try.func27, Try.ntmps27
  go_wp2_with fail
  refine (rrun_any a b c _ zs _ (HI.out.keep ((Below.refl _ _).alloc (Nat.le_refl _) _))).mono ?_
  rintro e w1 ⟨v1, rfl, _, hb⟩
  have B1 := Lib.hid (bfirst _ _ hb)
  clear hb
  go_wp2_with fail
  refine bodyPost_ret (results_tmp2 rfl _ _ _) rfl ⟨_, rfl, ?_, B1.out.2⟩
  rw [HR.out]
  exact ⟨_, _, _, rfl, rfl, by simp, .inl rfl⟩

set_option maxHeartbeats 2000000 in
theorem rspans_good (a b c : Int) (v : Value) (zs : List Int) (w : World) (hs : snd a b c zs = 0) (h4 : zs.length ≤ 400) (hi : IsInts w v zs) : Calls Try.prog 27 #[MV a b c, v] w (Spd a b c zs w) := by
  have HS := Lib.hid hs
  have HR : Hid (spL a b c zs = spK b c zs zs.length) := if_pos hs
  have HR2 : Hid (rnL a b c zs = runL b c zs) := if_pos hs
  have HI := Lib.hid hi
  obtain ⟨ad, len, cap, rfl, rfl, _, hcc⟩ := hi
  clear hs hcc
  go_enter Try.func27, Try.ntmps27
  go_wp2_with fail
  refine (rrun_any a b c _ zs _ (HI.out.keep ((Below.refl _ _).alloc (Nat.le_refl _) _))).mono ?_
  rintro e w1 ⟨v1, rfl, hbs, hb⟩
  rw [HS.out]
  rw [HR2.out] at hbs
  obtain ⟨a1, n1, c1, rfl, hn1, _, hcc⟩ := hbs
  rw [runL_len] at hn1
  subst hn1
  have HC := Lib.hid hcc
  have B1 := Lib.hid (bfirst _ _ hb).2
  have hww : w.heap.size ≤ w1.heap.size := B1.out.size
  clear hb hcc
  go_wp2_with fail
  go_loopw [8, 9] (fun v i wr => ∃ k : Nat, k ≤ zs.length ∧ i = .int .i64 k ∧ Hid (OwnSp wr w1.heap.size v (spK b c zs k)) ∧ Hid (Below w1.heap.size w1 wr)) (fun _ i _ => zs.length - (intOf i).toNat)
  case atStart => exact ⟨0, by omega, rfl, OwnSp.nil _ _, Below.refl _ _⟩
  case round =>
    obtain ⟨k, hk, rfl, ho, hw⟩ := hrel
    by_cases hkl : k < zs.length
    · obtain ⟨b0, off, rfl, hc⟩ : ∃ b0 off, a1 = some ⟨b0, off, none⟩ ∧ ∀ j, j < zs.length → w1.cell? ⟨b0, off + j, none⟩ = some (.bool (awk b c zs (j + 1))) := by
        rcases HC.out with h | ⟨b0, off, h1, h2⟩
        · have := runL_len b c zs; rw [h] at this; exact absurd hkl (by rw [← this]; simp)
        · exact ⟨b0, off, h1, fun j hj => by rw [h2 j (by rw [runL_len]; exact hj), runL_get b c zs j hj]⟩
      have cx := cellB hw.out (hc k hkl)
      have i1 : (0 : Int) ≤ (k : Int) := by omega
      have i2 : (k : Int) < (zs.length : Int) := by omega
      have HN : Hid (spK b c zs (k + 1) = stp (spK b c zs k) (awk b c zs k) k (awk b c zs (k + 1))) := rfl
      have HNE := Lib.hid (spK_ne b c zs k)
      have hsl := spK_len b c zs k
      have hsz := hw.out.size
      have hA0 : k = 0 → awk b c zs k = false := fun h => by subst h; rfl
      have hA1 : 0 < k → wr.cell? ⟨b0, off + (k - 1), none⟩ = some (.bool (awk b c zs k)) := fun h => by
        have := cellB hw.out (hc (k - 1) (by omega))
        rw [show k - 1 + 1 = k by omega] at this
        exact this
      clear hc
      obtain ⟨S', hS'⟩ : ∃ x, spK b c zs (k + 1) = x := ⟨_, rfl⟩
      rw [hS'] at HN
      have HSS := Lib.hid hS'
      clear hS'
      generalize spK b c zs k = S at *
      generalize awk b c zs (k + 1) = bn at *
      generalize awk b c zs k = was at *
      cases bn
      · clear hA0 hA1
        have HN2 : Hid (S' = S) := HN.out
        go_wp2_with fail
        go_roundw
        case rel => exact ⟨k + 1, by omega, by go_num, by rw [HSS.out, HN2.out]; exact ho, hw⟩
        case measure => simp [intOf]; omega
      cases was
      · have HN2 : Hid (S' = S ++ [((k : Int), (k : Int))]) := HN.out
        by_cases hk0 : k = 0
        · have hk1 : (k : Int) ≤ 0 := by omega
          clear hA0 hA1 hk0
          go_wp2_with (((with_reducible refine append_sp ?b1 (.tmp 25) (.tmp 29) ?b2 w1.heap.size u8 S (k : Int) (k : Int) 49 wr.heap.size ?b3 ?b4 ?b5 ho ?b6 ?b7 ?_); (case b1 => rfl); (case b2 => rfl); (case b3 => rfl); (case b4 => rfl); (case b5 => rfl); (case b6 => omega); (case b7 => omega)); intro v' w4 ho4 hb4 hg4)
          go_roundw
          case rel => exact ⟨k + 1, by omega, by go_num, by rw [HSS.out, HN2.out]; exact ho4, hw.out.trans hb4.out⟩
          case measure => simp [intOf]; omega
        · have hk1 : (0 : Int) < (k : Int) := by omega
          have hq := hA1 (by omega)
          have r1 : IntKind.i64.wrap ((k : Int) - 1) = ((k - 1 : Nat) : Int) := by rw [IntWalk.i64_in _ (by omega)]; omega
          have r2 : (0 : Int) ≤ ((k - 1 : Nat) : Int) := by omega
          have r3 : ((k - 1 : Nat) : Int) < (zs.length : Int) := by omega
          generalize k - 1 = k1 at *
          clear hA0 hA1 hk0
          go_wp2_with (((with_reducible refine append_sp ?b1 (.tmp 25) (.tmp 29) ?b2 w1.heap.size u8 S (k : Int) (k : Int) 49 wr.heap.size ?b3 ?b4 ?b5 ho ?b6 ?b7 ?_); (case b1 => rfl); (case b2 => rfl); (case b3 => rfl); (case b4 => rfl); (case b5 => rfl); (case b6 => omega); (case b7 => omega)); intro v' w4 ho4 hb4 hg4)
          go_roundw
          case rel => exact ⟨k + 1, by omega, by go_num, by rw [HSS.out, HN2.out]; exact ho4, hw.out.trans hb4.out⟩
          case measure => simp [intOf]; omega
      · have HN2 : Hid (S' = setL S (k : Int)) := HN.out
        have hk0 : 0 < k := by
          rcases Nat.eq_zero_or_pos k with h | h
          · exact absurd (hA0 h) (by simp)
          · exact h
        have hk1 : (0 : Int) < (k : Int) := by omega
        have hq := hA1 hk0
        have hne := HNE.out rfl
        have hp := List.length_pos_iff.2 hne
        obtain ⟨g, cap', hv, g1, g2, g3, ⟨x, g4⟩, g5, g6, cur, g7⟩ := ho.out.store hne (k : Int)
        subst hv
        have G6 := Lib.hid g6
        have f2 := g5 ((S.length - 1) * 2 + 1)
        have r1 : IntKind.i64.wrap ((k : Int) - 1) = ((k - 1 : Nat) : Int) := by rw [IntWalk.i64_in _ (by omega)]; omega
        have r2 : (0 : Int) ≤ ((k - 1 : Nat) : Int) := by omega
        have r3 : ((k - 1 : Nat) : Int) < (zs.length : Int) := by omega
        have t1 : IntKind.i64.wrap ((S.length : Int) - 1) = ((S.length - 1 : Nat) : Int) := by rw [IntWalk.i64_in _ (by omega)]; omega
        have t2 : (0 : Int) ≤ ((S.length - 1 : Nat) : Int) := by omega
        have t3 : ((S.length - 1 : Nat) : Int) < (S.length : Int) := by omega
        clear g5 g6 g7 hne hA0 hA1
        generalize k - 1 = k1 at *
        generalize S.length - 1 = m at *
        go_wp2_with fail
        go_roundw
        case rel => exact ⟨k + 1, by omega, by go_num, by rw [HSS.out, HN2.out]; exact G6, hw.out.setCell (by simp only []; omega) _⟩
        case measure => simp [intOf]; omega
    · have HE : Hid (k = zs.length) := by show _ = _; omega
      have hle : zs.length ≤ k := by omega
      go_wp2_with fail
      refine bodyPost_ret (results_tmp2 rfl _ _ _) rfl ⟨u8, by rw [HS.out]; rfl, ?_, btrans B1.out hw.out⟩
      rw [HR.out, ← HE.out]
      exact ho.out.sps (by have := spK_len b c zs k; omega)
theorem rspans_any (a b c : Int) (v : Value) (zs : List Int) (w : World) (hi : IsInts w v zs) : Calls Try.prog 27 #[MV a b c, v] w (Spd a b c zs w) := by
  by_cases h : snd a b c zs = 0
  · exact rspans_good a b c v zs w h (snd_len h) hi
  · exact rspans_bad a b c v zs w h hi
end Go.Proofs.Ytlmdfanhimhlcaa
