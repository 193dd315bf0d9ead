/- Helper facts for the statements of this seat; no statement itself. -/
import Derived.Test.YtbdhjiadomifeaaU
namespace Go.Proofs.Ytbdhjiadomifeaa
open Go.RowKit
set_option linter.unusedSimpArgs false
set_option linter.unusedVariables false
set_option linter.unnecessarySimpa false

theorem ext_digit (d : Nat) (h : d < 16) : (⟨#[48, 49, 50, 51, 52, 53, 54, 55, 56, 57, 97, 98, 99, 100, 101, 102]⟩ : ByteArray).extract d (d + 1) = strOfNums [dg d] := by
  rcases lt16 h with rfl | rfl | rfl | rfl | rfl | rfl | rfl | rfl | rfl | rfl | rfl | rfl | rfl | rfl | rfl | rfl <;> decide

set_option maxHeartbeats 2000000 in
theorem rtext_any (c : List Nat) (w : World) (hp : Pg c) :
    Calls Try.prog 31 #[.agg (W8 c)] w fun e w' => e = .returned (.string (strOfNums (txt c 8))) ∧ Below w.heap.size w w' := by
  have hcell : ∀ k, k < 8 → (w.alloc (.cells (W8 c) 24)).cell? ⟨w.heap.size, k, none⟩ = some (.int .u64 ((c.getD k 0 : Nat) : Int)) := fun k hk => setRow_cell (h1_0 _ _) (W8_get? c k (by rw [hp.1]; omega))
  have HC := Lib.hid hcell
  clear hcell
  go_enter Try.func31, Try.ntmps31
  go_wp2
  go_loop [3, 4] (fun v i => ∃ k : Nat, k ≤ 8 ∧ i = .int .i64 k ∧ v = .string (strOfNums (txt c k))) (fun _ i => 8 - (intOf i).toNat)
  case atStart => exact ⟨0, by omega, rfl, rfl⟩
  case round =>
    obtain ⟨k, hk, rfl, rfl⟩ := hrel
    by_cases hlt : k < 8
    · have hck := HC.out k hlt
      have hbk := pg_lt hp k
      have HT : Hid (txt c (k + 1) = sep (txt c k) k ++ hexW (c.getD k 0) 16) := rfl
      have htl := txt_length c k
      have hp2 : (sep (txt c k) k).length ≤ 137 := by have := sep_length (txt c k) k; omega
      have hcat : strOfNums (txt c k) ++ (⟨#[32]⟩ : ByteArray) = strOfNums (txt c k ++ [32]) := strOfNums_append (txt c k) [32]
      have hsz : (strOfNums (txt c k)).size ≤ 200 := by rw [strOfNums_size]; omega
      generalize c.getD k 0 = x at *
      by_cases hk0 : k = 0
      · have HS : Hid (txt c k = sep (txt c k) k) := by show _ = _; unfold sep; rw [if_pos hk0]
        have hk1 : ¬ (0 : Int) < (k : Int) := by omega
        clear hk0 hcat hsz
        rw [HS.out]
        generalize sep (txt c k) k = pre2 at *
        go_wp2
        go_loop [3, 5, 6] (fun v i y => ∃ m : Nat, m ≤ 16 ∧ i = .int .i64 ((m : Int) - 1) ∧ v = .string (strOfNums (pre2 ++ hexW x (16 - m)))) (fun _ i _ => (intOf i + 1).toNat)
        case atStart => exact ⟨16, by omega, rfl, by show _ = Value.string (strOfNums (pre2 ++ [])); rw [List.append_nil]⟩
        case round =>
          obtain ⟨m, hm, rfl, rfl⟩ := hrel
          by_cases hm0 : m = 0
          · have hd : decide ((0 : Int) ≤ (m : Int) - 1) = false := by simp; omega
            have HM := Lib.hid hm0
            have hm1 : (m : Int) < 1 := by omega
            clear hm0
            go_wp2
            go_round
            case rel => exact ⟨k + 1, by omega, by go_num, by rw [HT.out, HM.out]⟩
            case measure => simp [intOf]; omega
          · obtain ⟨i, rfl⟩ : ∃ i, m = i + 1 := ⟨m - 1, by omega⟩
            rw [show (((i + 1 : Nat) : Int) - 1) = (i : Int) by omega]
            have HH : Hid (hexW x (16 - i) = hexW x (16 - (i + 1)) ++ [dg (x / 16 ^ i % 16)]) := by
              show _ = _
              rw [show 16 - i = (16 - (i + 1)) + 1 by omega]
              simp only [hexW]
              rw [show 15 - (16 - (i + 1)) = i by omega]
            have hlen : (strOfNums (pre2 ++ hexW x (16 - (i + 1)))).size ≤ 200 := by rw [strOfNums_size, List.length_append, hexW_length]; omega
            have hmod := Nat.mod_lt (x / 16 ^ i) (show 0 < 16 by omega)
            have e1 : ((x : Int) / 2 ^ (4 * i)).tmod 16 = ((x / 16 ^ i % 16 : Nat) : Int) := by
              rw [Int.tmod_eq_emod_of_nonneg (Int.ediv_nonneg (by omega) (Int.pow_nonneg (by omega))), show (2 : Int) ^ (4 * i) = ((16 ^ i : Nat) : Int) by rw [Int.pow_mul]; simp]
              simp
            have e2 := ext_digit (x / 16 ^ i % 16) hmod
            have e3 := strOfNums_append (pre2 ++ hexW x (16 - (i + 1))) [dg (x / 16 ^ i % 16)]
            have hs1 : (strOfNums [dg (x / 16 ^ i % 16)]).size ≤ 1 := by rw [strOfNums_size]; simp
            rw [List.append_assoc, ← HH.out] at e3
            generalize hdd : x / 16 ^ i % 16 = d at *
            clear hdd hm0
            generalize hexW x (16 - (i + 1)) = hx1 at *
            generalize hh2 : hexW x (16 - i) = hx2 at *
            have HX2 := Lib.hid hh2
            clear hh2
            go_wp2
            go_round
            case rel => exact ⟨i, by omega, rfl, by rw [HX2.out]⟩
            case measure => simp [intOf] <;> omega
      · have HS : Hid (sep (txt c k) k = txt c k ++ [32]) := by show _ = _; unfold sep; rw [if_neg hk0]
        have hk1 : (0 : Int) < (k : Int) := by omega
        generalize sep (txt c k) k = pre2 at *
        generalize txt c k = pre at *
        go_wp2
        rw [← HS.out]
        go_loop [3, 5, 6] (fun v i y => ∃ m : Nat, m ≤ 16 ∧ i = .int .i64 ((m : Int) - 1) ∧ v = .string (strOfNums (pre2 ++ hexW x (16 - m)))) (fun _ i _ => (intOf i + 1).toNat)
        case atStart => exact ⟨16, by omega, rfl, by show _ = Value.string (strOfNums (pre2 ++ [])); rw [List.append_nil]⟩
        case round =>
          obtain ⟨m, hm, rfl, rfl⟩ := hrel
          by_cases hm0 : m = 0
          · have hd : decide ((0 : Int) ≤ (m : Int) - 1) = false := by simp; omega
            have HM := Lib.hid hm0
            have hm1 : (m : Int) < 1 := by omega
            clear hm0
            go_wp2
            go_round
            case rel => exact ⟨k + 1, by omega, by go_num, by rw [HT.out, HM.out]⟩
            case measure => simp [intOf]; omega
          · obtain ⟨i, rfl⟩ : ∃ i, m = i + 1 := ⟨m - 1, by omega⟩
            rw [show (((i + 1 : Nat) : Int) - 1) = (i : Int) by omega]
            have HH : Hid (hexW x (16 - i) = hexW x (16 - (i + 1)) ++ [dg (x / 16 ^ i % 16)]) := by
              show _ = _
              rw [show 16 - i = (16 - (i + 1)) + 1 by omega]
              simp only [hexW]
              rw [show 15 - (16 - (i + 1)) = i by omega]
            have hlen : (strOfNums (pre2 ++ hexW x (16 - (i + 1)))).size ≤ 200 := by rw [strOfNums_size, List.length_append, hexW_length]; omega
            have hmod := Nat.mod_lt (x / 16 ^ i) (show 0 < 16 by omega)
            have e1 : ((x : Int) / 2 ^ (4 * i)).tmod 16 = ((x / 16 ^ i % 16 : Nat) : Int) := by
              rw [Int.tmod_eq_emod_of_nonneg (Int.ediv_nonneg (by omega) (Int.pow_nonneg (by omega))), show (2 : Int) ^ (4 * i) = ((16 ^ i : Nat) : Int) by rw [Int.pow_mul]; simp]
              simp
            have e2 := ext_digit (x / 16 ^ i % 16) hmod
            have e3 := strOfNums_append (pre2 ++ hexW x (16 - (i + 1))) [dg (x / 16 ^ i % 16)]
            have hs1 : (strOfNums [dg (x / 16 ^ i % 16)]).size ≤ 1 := by rw [strOfNums_size]; simp
            rw [List.append_assoc, ← HH.out] at e3
            generalize hdd : x / 16 ^ i % 16 = d at *
            clear hdd hm0
            generalize hexW x (16 - (i + 1)) = hx1 at *
            generalize hh2 : hexW x (16 - i) = hx2 at *
            have HX2 := Lib.hid hh2
            clear hh2
            go_wp2
            go_round
            case rel => exact ⟨i, by omega, rfl, by rw [HX2.out]⟩
            case measure => simp [intOf] <;> omega
    · have HK := Lib.hid (show k = 8 by omega)
      go_wp2
      go_ret
      exact ⟨by rw [HK.out]; rfl, ((Below.refl _ _).alloc (Nat.le_refl _) _)⟩

end Go.Proofs.Ytbdhjiadomifeaa
