/- Helper facts for the statements of this seat; no statement itself. -/
import Derived.Test.YtbdhjiadomifeaaT
namespace Go.Proofs.Ytbdhjiadomifeaa
open Go.RowKit
set_option linter.unusedSimpArgs false
set_option linter.unusedVariables false
set_option linter.unnecessarySimpa false

theorem make135 (w : World) : (Instr.makeSlice 60 (.int .i64 0) (.int .i64 135)).run Try.prog w = .ok (.slice (some ⟨w.heap.size, 0, none⟩) 0 135) (w.alloc (.cells (Array.replicate 135 (.int .u8 0)) 5)) := by kernel_rfl

theorem rotl_four (x s : Nat) (hx : x < 18446744073709551616) (hs : s + 4 ≤ 64) : rotl (rotl x s) 4 = rotl x (s + 4) := by
  have hy := rotl_lt x s hx (by omega)
  rw [← rotl_succ (rotl x s) 3 (by omega) hy, ← rotl_succ (rotl x s) 2 (by omega) hy, ← rotl_succ (rotl x s) 1 (by omega) hy]
  rw [rotl_succ x s (by omega) hx, rotl_succ x (s + 1) (by omega) hx, rotl_succ x (s + 1 + 1) (by omega) hx, rotl_succ x (s + 1 + 1 + 1) (by omega) hx]

theorem rotl_low (x j : Nat) (hj : j < 16) : rotl x (4 * j + 4) % 16 = x / 16 ^ (15 - j) % 16 := by
  rw [rotl_eq x _ (by omega)]
  have e1 : (2 : Nat) ^ (64 - (4 * j + 4)) = 16 ^ (15 - j) := by
    rw [show 64 - (4 * j + 4) = 4 * (15 - j) by omega, Nat.pow_mul]
  have e2 : (2 : Nat) ^ (4 * j + 4) = 16 * 2 ^ (4 * j) := by rw [Nat.pow_add, Nat.mul_comm]
  rw [e1, e2, Nat.mul_assoc, Nat.mul_add_mod]

theorem rotl_lt64 (x s : Nat) (hx : x < 18446744073709551616) (hs : s ≤ 64) : rotl x s < 18446744073709551616 := by
  by_cases h : s = 64
  · subst h
    unfold rotl
    simp
    omega
  · exact rotl_lt x s hx (by omega)

theorem and15 (x : Nat) (hx : x < 18446744073709551616) : bits .and .u64 (x : Int) 15 = ((x % 16 : Nat) : Int) := by
  have := u64_and_nat x 15 hx (by omega)
  rw [show ((15 : Nat) : Int) = 15 from rfl] at this
  rw [this, nat_mask4]

set_option maxHeartbeats 2000000 in
theorem text_any (c : List Nat) (w : World) (hp : Pg c) :
    Calls Try.prog 30 #[.agg (W8 c)] w fun e w' => e = .returned (.string (strOfNums (txt c 8))) ∧ Below w.heap.size w w' := by
  have hmk := make135
  go_enter Try.func30, Try.ntmps30
  go_wp2_with ((with_reducible refine ld24 ?a0 (.tmp 1) ?a1 w.heap.size ?a2 c ?a3 24 ?a4 ?_); (case a0 => rfl); (case a1 => rfl); (case a2 => rfl); (case a3 => exact hp.1); (case a4 => exact h2_0 _ _ _))
  clear hmk
  go_loopw [3, 8] (fun v i wr => ∃ k : Nat, k ≤ 8 ∧ i = .int .i64 k ∧ Hid (OwnB wr (w.heap.size + 1) v (txt c k)) ∧ Hid (Below w.heap.size w wr ∧ w.heap.size + 1 ≤ wr.heap.size)) (fun _ i _ => 8 - (intOf i).toNat)
  case atStart => 
    refine ⟨0, by omega, rfl, ?_, (((Below.refl _ _).alloc (Nat.le_refl _) _).alloc (by simp only [World.size_alloc] <;> omega) _), (by simp only [World.size_alloc] <;> omega)⟩
    have := World.ownsRow_made (base := w.heap.size + 1) (e := 5) (size := 1) (w.alloc (.cells (W8 c) 24)) (Array.replicate 135 (.int .u8 0)) 135 (by simp only [World.size_alloc] <;> omega) (by simp [maxLen]) (by simp)
    rw [World.size_alloc] at this
    exact this
  case round =>
    obtain ⟨k, hk, rfl, hown, hh⟩ := hrel
    by_cases hlt : k < 8
    · have hix := run_index24 c k hp.1 hlt
      have hbk := pg_lt hp k
      have HT : Hid (txt c (k + 1) = sep (txt c k) k ++ hexW (c.getD k 0) 16) := rfl
      have htl := txt_length c k
      generalize hx : c.getD k 0 = x at *
      have HX := Lib.hid hx
      clear hx
      have hp2 : (sep (txt c k) k).length ≤ 137 := by have := sep_length (txt c k) k; omega
      by_cases hk0 : k = 0
      · have HS : Hid (txt c k = sep (txt c k) k) := by show _ = _; unfold sep; rw [if_pos hk0]
        have hk1 : ¬ (0 : Int) < (k : Int) := by omega
        clear hk0
        rw [HS.out] at hown
        generalize sep (txt c k) k = pre2 at *
        obtain ⟨wo, rfl⟩ : ∃ wo : World, wo = wr := ⟨_, rfl⟩
        go_wp2
        go_loopw [3, 5, 17] (fun v y i wq => ∃ j : Nat, j ≤ 16 ∧ i = .int .i64 j ∧ y = .int .u64 (rotl x (4 * j) : Nat) ∧ Hid (OwnB wq (w.heap.size + 1) v (pre2 ++ hexW x j)) ∧ Hid (Below w.heap.size w wq ∧ w.heap.size + 1 ≤ wq.heap.size)) (fun _ _ i _ => 16 - (intOf i).toNat)
        case atStart => exact ⟨0, by omega, rfl, by rw [rotl_zero x hbk], by show OwnB _ _ _ (pre2 ++ []); rw [List.append_nil]; exact hown, hh⟩
        case round =>
          obtain ⟨j, hj, rfl, rfl, hown3, hh3⟩ := hrel
          clear hown hh
          by_cases hj2 : j < 16
          · have hr1 := rotl_lt x (4 * j) hbk (by omega)
            have HR := Lib.hid (rotl_four x (4 * j) hbk (by omega))
            have HL := Lib.hid (rotl_low x j hj2)
            have hr2 := rotl_lt64 x (4 * j + 4) hbk (by omega)
            have HH : Hid (hexW x (j + 1) = hexW x j ++ [dg (x / 16 ^ (15 - j) % 16)]) := rfl
            generalize rotl x (4 * j) = y at *
            go_wp2_with fail
            refine (rot_any y 4 _ hr1 (by omega)).mono ?_
            rintro e w' ⟨rfl, rfl⟩
            rw [HR.out]
            have hand := and15 (rotl x (4 * j + 4)) hr2
            rw [HL.out] at hand
            have hdg : ∀ w, (Instr.index 9 (.string ⟨#[48, 49, 50, 51, 52, 53, 54, 55, 56, 57, 97, 98, 99, 100, 101, 102]⟩) (.int .u64 ((x / 16 ^ (15 - j) % 16 : Nat) : Int))).run Try.prog w = _ := run_digit (x / 16 ^ (15 - j) % 16) (Nat.mod_lt _ (by omega))
            generalize x / 16 ^ (15 - j) % 16 = d at *
            have hlen : (pre2 ++ hexW x j).length < 4294967296 := by rw [List.length_append, hexW_length]; omega
            go_wp2_with (refine append_byte rfl _ _ rfl (w.heap.size + 1) u3 (pre2 ++ hexW x j) (dg d) _ rfl rfl hown3 hlen (by have := hh3.out.2; omega) ?_; intro v4 w4 hown4 hb4)
            go_roundw
            case rel => exact ⟨j + 1, by omega, by go_num, rfl, by rw [HH.out, ← List.append_assoc]; exact hown4, hh3.out.1.trans (hb4.out.mono (by omega)), Nat.le_trans hh3.out.2 hb4.out.size⟩
            case measure => simp [intOf]; omega
          · have HJ := Lib.hid (show j = 16 by omega)
            go_wp2
            go_roundw
            case rel => exact ⟨k + 1, by omega, by go_num, by rw [HT.out, ← HJ.out]; exact hown3, hh3⟩
            case measure => simp [intOf]; omega
      · have HS : Hid (sep (txt c k) k = txt c k ++ [32]) := by show _ = _; unfold sep; rw [if_neg hk0]
        have hk1 : (0 : Int) < (k : Int) := by omega
        generalize hpre2 : sep (txt c k) k = pre2 at *
        have HP2 := Lib.hid hpre2
        clear hpre2
        generalize txt c k = pre at *
        obtain ⟨wo, rfl⟩ : ∃ wo : World, wo = wr := ⟨_, rfl⟩
        go_wp2_with (refine append_byte rfl _ _ rfl (w.heap.size + 1) u3 pre 32 _ rfl rfl hown (by omega) (by have := hh.out.2; omega) ?_; intro v2 w2 hown2 hb2)
        rw [← HS.out] at hown2
        have hh2 : Hid (Below w.heap.size w w2 ∧ w.heap.size + 1 ≤ w2.heap.size) := ⟨hh.out.1.trans (hb2.out.mono (by omega)), Nat.le_trans hh.out.2 hb2.out.size⟩
        clear hown hh hb2
        go_loopw [3, 5, 17] (fun v y i wq => ∃ j : Nat, j ≤ 16 ∧ i = .int .i64 j ∧ y = .int .u64 (rotl x (4 * j) : Nat) ∧ Hid (OwnB wq (w.heap.size + 1) v (pre2 ++ hexW x j)) ∧ Hid (Below w.heap.size w wq ∧ w.heap.size + 1 ≤ wq.heap.size)) (fun _ _ i _ => 16 - (intOf i).toNat)
        case atStart => exact ⟨0, by omega, rfl, by rw [rotl_zero x hbk], by show OwnB _ _ _ (pre2 ++ []); rw [List.append_nil]; exact hown2, hh2⟩
        case round =>
          obtain ⟨j, hj, rfl, rfl, hown3, hh3⟩ := hrel
          clear hown2 hh2
          by_cases hj2 : j < 16
          · have hr1 := rotl_lt x (4 * j) hbk (by omega)
            have HR := Lib.hid (rotl_four x (4 * j) hbk (by omega))
            have HL := Lib.hid (rotl_low x j hj2)
            have hr2 := rotl_lt64 x (4 * j + 4) hbk (by omega)
            have HH : Hid (hexW x (j + 1) = hexW x j ++ [dg (x / 16 ^ (15 - j) % 16)]) := rfl
            generalize rotl x (4 * j) = y at *
            go_wp2_with fail
            refine (rot_any y 4 _ hr1 (by omega)).mono ?_
            rintro e w' ⟨rfl, rfl⟩
            rw [HR.out]
            have hand := and15 (rotl x (4 * j + 4)) hr2
            rw [HL.out] at hand
            have hdg : ∀ w, (Instr.index 9 (.string ⟨#[48, 49, 50, 51, 52, 53, 54, 55, 56, 57, 97, 98, 99, 100, 101, 102]⟩) (.int .u64 ((x / 16 ^ (15 - j) % 16 : Nat) : Int))).run Try.prog w = _ := run_digit (x / 16 ^ (15 - j) % 16) (Nat.mod_lt _ (by omega))
            generalize x / 16 ^ (15 - j) % 16 = d at *
            have hlen : (pre2 ++ hexW x j).length < 4294967296 := by rw [List.length_append, hexW_length]; omega
            go_wp2_with (refine append_byte rfl _ _ rfl (w.heap.size + 1) u3 (pre2 ++ hexW x j) (dg d) _ rfl rfl hown3 hlen (by have := hh3.out.2; omega) ?_; intro v4 w4 hown4 hb4)
            go_roundw
            case rel => exact ⟨j + 1, by omega, by go_num, rfl, by rw [HH.out, ← List.append_assoc]; exact hown4, hh3.out.1.trans (hb4.out.mono (by omega)), Nat.le_trans hh3.out.2 hb4.out.size⟩
            case measure => simp [intOf]; omega
          · have HJ := Lib.hid (show j = 16 by omega)
            go_wp2
            go_roundw
            case rel => exact ⟨k + 1, by omega, by go_num, by rw [HT.out, ← HJ.out]; exact hown3, hh3⟩
            case measure => simp [intOf]; omega
    · have HK := Lib.hid (show k = 8 by omega)
      have hne : txt c k ≠ [] := by rw [HK.out]; simp [txt, hexW]
      have hcv := hown.out.str hne
      clear hne
      go_wp2
      go_ret
      exact ⟨by rw [HK.out]; rfl, hh.out.1⟩

end Go.Proofs.Ytbdhjiadomifeaa
