/- Helper facts for the statements of this seat; no statement itself. -/
import Derived.Test.YtlmdfanhimhlcaaB
import Derived.Outline
namespace Go.Proofs.Ytlmdfanhimhlcaa
open Go.RowKit
set_option linter.unusedSimpArgs false
set_option linter.unusedVariables false
set_option linter.unnecessarySimpa false

/-- Whether some number is none of free frames. -/
def bad (l : List Int) : Bool := l.any fun n => decide (n < 0) || decide (256 < n)
theorem bad_yes {l : List Int} {k : Nat} (hk : k < l.length) (h : l.getD k 0 < 0 ∨ 256 < l.getD k 0) : bad l = true := by
  unfold bad
  rw [List.any_eq_true]
  have e : l.getD k 0 = l[k] := by simp [List.getD, hk]
  rw [e] at h
  exact ⟨l[k], List.getElem_mem _, by simpa using h⟩
theorem bad_no {l : List Int} (h : ∀ k, k < l.length → 0 ≤ l.getD k 0 ∧ l.getD k 0 ≤ 256) : bad l = false := by
  unfold bad
  rw [List.any_eq_false]
  intro x hx
  obtain ⟨k, hk, rfl⟩ := List.getElem_of_mem hx
  have := h k hk
  have e : l.getD k 0 = l[k] := by simp [List.getD, hk]
  rw [e] at this
  simp
  omega
theorem bad_all {l : List Int} (h : bad l = false) (k : Nat) (hk : k < l.length) : 0 ≤ l.getD k 0 ∧ l.getD k 0 ≤ 256 := by
  by_cases h1 : l.getD k 0 < 0 ∨ 256 < l.getD k 0
  · rw [bad_yes hk h1] at h; cases h
  · omega
/-- The error of numbers. -/
def sb (l : List Int) : Int := if bad l = true then 2 else 0
theorem sb_yes {l : List Int} (h : bad l = true) : sb l = 2 := if_pos h
theorem sb_no {l : List Int} (h : bad l = false) : sb l = 0 := by unfold sb; rw [h]; rfl
/-- The error of marks and numbers. -/
def snd (a b c : Int) (l : List Int) : Int := if chkM a b c = 0 then (if 400 < l.length then 4 else sb l) else chkM a b c

set_option maxHeartbeats 1000000 in
theorem sound_bad (a b c : Int) (v : Value) (w : World) (hv : chkM a b c ≠ 0) :
    Calls Try.prog 35 #[MV a b c, v] w fun e w' => e = .returned (.int .i64 (chkM a b c)) ∧ Below w.heap.size w w' := by
  have h' : (chkM a b c != 0) = true := by simpa using hv
  clear hv
  go_enter Try.func35, Try.ntmps35
  go_wp2_with fail
  refine (check_any a b c _).mono ?_
  rintro e w1 ⟨rfl, hb⟩
  have B1 := Lib.hid (bfirst _ _ hb).2
  clear hb
  go_wp2_with fail
  go_ret
  exact ⟨rfl, B1.out⟩
set_option maxHeartbeats 1000000 in
theorem sound_long (a b c : Int) (ad : Option Addr) (n cap : Nat) (w : World) (hv : chkM a b c = 0) (hn : 400 < n) :
    Calls Try.prog 35 #[MV a b c, .slice ad n cap] w fun e w' => e = .returned (.int .i64 4) ∧ Below w.heap.size w w' := by
  have HV := Lib.hid hv
  clear hv
  have hn2 : (400 : Int) < (n : Int) := by omega
  go_enter Try.func35, Try.ntmps35
  go_wp2_with fail
  refine (check_any a b c _).mono ?_
  rintro e w1 ⟨rfl, hb⟩
  rw [HV.out]
  have B1 := Lib.hid (bfirst _ _ hb).2
  clear hb
  go_wp2_with fail
  go_ret
  exact ⟨rfl, B1.out⟩
set_option maxHeartbeats 1000000 in
theorem sound_nil (a b c : Int) (ad : Option Addr) (cap : Nat) (w : World) (hv : chkM a b c = 0) :
    Calls Try.prog 35 #[MV a b c, .slice ad 0 cap] w fun e w' => e = .returned (.int .i64 0) ∧ Below w.heap.size w w' := by
  have HV := Lib.hid hv
  clear hv
  go_enter Try.func35, Try.ntmps35
  go_wp2_with fail
  refine (check_any a b c _).mono ?_
  rintro e w1 ⟨rfl, hb⟩
  rw [HV.out]
  have B1 := Lib.hid (bfirst _ _ hb).2
  clear hb
  go_wp2_with fail
  refine wp_loop_rounds 1 ?_
  rw [rounds_succ]
  go_wp2_with fail
  go_ret
  exact ⟨rfl, B1.out⟩
set_option maxHeartbeats 1000000 in
theorem sound_loop (a b c : Int) (b0 off n cap : Nat) (l : List Int) (w : World) (hv : chkM a b c = 0) (hn : n = l.length) (hn4 : n ≤ 400)
    (hl : ∀ k, k < n → w.cell? ⟨b0, off + k, none⟩ = some (.int .i64 (l.getD k 0))) :
    Calls Try.prog 35 #[MV a b c, .slice (some ⟨b0, off, none⟩) n cap] w fun e w' => e = .returned (.int .i64 (sb l)) ∧ Below w.heap.size w w' := by
  have HV := Lib.hid hv
  have HN := Lib.hid hn
  have HL := Lib.hid hl
  clear hv hn hl
  have hn2 : (n : Int) ≤ 400 := by omega
  go_enter Try.func35, Try.ntmps35
  go_wp2_with fail
  refine (check_any a b c _).mono ?_
  rintro e w1 ⟨rfl, hb⟩
  rw [HV.out]
  have B1 := Lib.hid (bfirst _ _ hb).2
  clear hb
  go_wp2_with fail
  go_loop [18] (fun i => ∃ k : Nat, k ≤ n ∧ i = .int .i64 k ∧ Hid (∀ j, j < k → 0 ≤ l.getD j 0 ∧ l.getD j 0 ≤ 256)) (fun i => n - (intOf i).toNat)
  case atStart => exact ⟨0, by omega, rfl, fun j hj => absurd hj (by omega)⟩
  case round =>
    obtain ⟨k, hk, rfl, hg⟩ := hrel
    by_cases hkn : k < n
    · have c0 := cellB B1.out (HL.out k hkn)
      have i1 : (0 : Int) ≤ (k : Int) := by omega
      have i2 : (k : Int) < (n : Int) := by omega
      by_cases hb : l.getD k 0 < 0 ∨ 256 < l.getD k 0
      · have HB0 := Lib.hid (bad_yes (by have := HN.out; omega) hb)
        have HB := Lib.hid (sb_yes HB0.out)
        generalize l.getD k 0 = x at *
        rcases hb with hb | hb
        · go_wp2_with fail
          go_ret
          exact ⟨ret_int (by rw [HB.out]), B1.out⟩
        · go_wp2_with fail
          go_ret
          exact ⟨ret_int (by rw [HB.out]), B1.out⟩
      · have HG : Hid (∀ j, j < k + 1 → 0 ≤ l.getD j 0 ∧ l.getD j 0 ≤ 256) := fun j hj => by
          by_cases e : j = k
          · subst e; omega
          · exact hg.out j (by omega)
        have hb1 : 0 ≤ l.getD k 0 := by omega
        have hb2 : l.getD k 0 ≤ 256 := by omega
        clear hb hg
        generalize l.getD k 0 = x at *
        go_wp2_with fail
        go_round
        case rel => exact ⟨k + 1, by omega, by go_num, HG⟩
        case measure => simp [intOf]; omega
    · have hle : n ≤ k := by omega
      have HB := Lib.hid (sb_no (bad_no (l := l) (fun j hj => hg.out j (by have := HN.out; omega))))
      go_wp2_with fail
      go_ret
      exact ⟨ret_int (by rw [HB.out]), B1.out⟩
theorem sound_any (a b c : Int) (v : Value) (l : List Int) (w : World) (hi : IsInts w v l) :
    Calls Try.prog 35 #[MV a b c, v] w fun e w' => e = .returned (.int .i64 (snd a b c l)) ∧ Below w.heap.size w w' := by
  unfold snd
  by_cases hv : chkM a b c = 0
  · rw [if_pos hv]
    obtain ⟨ad, n, cap, rfl, hn, hn2, h⟩ := hi
    by_cases h4 : 400 < l.length
    · rw [if_pos h4]; exact sound_long a b c ad n cap w hv (by omega)
    rw [if_neg h4]
    rcases h with rfl | ⟨b0, off, rfl, h⟩
    · obtain rfl : n = 0 := hn
      exact sound_nil a b c ad cap w hv
    · exact sound_loop a b c b0 off n cap l w hv hn (by omega) (by rw [hn]; exact h)
  · rw [if_neg hv]; exact sound_bad a b c v w hv

set_option maxHeartbeats 1000000 in
theorem asks_bad (a b c : Int) (ad : Option Addr) (n cap : Nat) (w : World) (hv : chkM a b c ≠ 0) :
    Calls Try.prog 37 #[MV a b c, .slice ad n cap] w fun e w' => e = .returned (.int .i64 (chkM a b c)) ∧ Below w.heap.size w w' := by
  have h' : (chkM a b c == 0) = false := by simpa using hv
  clear hv
  go_enter Try.func37, Try.ntmps37
  go_wp2_with fail
  refine (rcheck_any a b c _).mono ?_
  rintro e w1 ⟨rfl, hb⟩
  have B1 := Lib.hid (bfirst _ _ hb).2
  clear hb
  by_cases h0 : n = 0
  · subst h0
    go_wp2_with fail
    refine wp_loop_rounds 1 ?_
    rw [rounds_succ]
    go_wp2_with fail
    go_ret
    exact ⟨rfl, B1.out⟩
  · have hn0 : decide ((0 : Int) < (n : Int)) = true := by simp; omega
    have hn1 : (0 : Int) < (n : Int) := by omega
    go_wp2_with fail
    refine wp_loop_rounds 1 ?_
    rw [rounds_succ]
    go_wp2_with fail
    go_ret
    exact ⟨rfl, B1.out⟩
set_option maxHeartbeats 1000000 in
theorem asks_long (a b c : Int) (ad : Option Addr) (n cap : Nat) (w : World) (hv : chkM a b c = 0) (hn : 400 < n) :
    Calls Try.prog 37 #[MV a b c, .slice ad n cap] w fun e w' => e = .returned (.int .i64 4) ∧ Below w.heap.size w w' := by
  have HV := Lib.hid hv
  clear hv
  have hn2 : (400 : Int) < (n : Int) := by omega
  have hn3 : (0 : Int) < (n : Int) := by omega
  go_enter Try.func37, Try.ntmps37
  go_wp2_with fail
  refine (rcheck_any a b c _).mono ?_
  rintro e w1 ⟨rfl, hb⟩
  rw [HV.out]
  have B1 := Lib.hid (bfirst _ _ hb).2
  clear hb
  go_wp2_with fail
  refine wp_loop_rounds 1 ?_
  rw [rounds_succ]
  go_wp2_with fail
  go_ret
  exact ⟨rfl, B1.out⟩
set_option maxHeartbeats 1000000 in
theorem asks_nil (a b c : Int) (ad : Option Addr) (cap : Nat) (w : World) (hv : chkM a b c = 0) :
    Calls Try.prog 37 #[MV a b c, .slice ad 0 cap] w fun e w' => e = .returned (.int .i64 0) ∧ Below w.heap.size w w' := by
  have HV := Lib.hid hv
  clear hv
  go_enter Try.func37, Try.ntmps37
  go_wp2_with fail
  refine (rcheck_any a b c _).mono ?_
  rintro e w1 ⟨rfl, hb⟩
  rw [HV.out]
  have B1 := Lib.hid (bfirst _ _ hb).2
  clear hb
  go_wp2_with fail
  refine wp_loop_rounds 1 ?_
  rw [rounds_succ]
  go_wp2_with fail
  go_ret
  exact ⟨rfl, B1.out⟩
set_option maxHeartbeats 1000000 in
theorem asks_loop (a b c : Int) (b0 off n cap : Nat) (l : List Int) (w : World) (hv : chkM a b c = 0) (hn : n = l.length) (hn4 : n ≤ 400)
    (hl : ∀ k, k < n → w.cell? ⟨b0, off + k, none⟩ = some (.int .i64 (l.getD k 0))) :
    Calls Try.prog 37 #[MV a b c, .slice (some ⟨b0, off, none⟩) n cap] w fun e w' => e = .returned (.int .i64 (sb l)) ∧ Below w.heap.size w w' := by
  have HV := Lib.hid hv
  have HN := Lib.hid hn
  have HL := Lib.hid hl
  clear hv hn hl
  have hn2 : (n : Int) ≤ 400 := by omega
  go_enter Try.func37, Try.ntmps37
  go_wp2_with fail
  refine (rcheck_any a b c _).mono ?_
  rintro e w1 ⟨rfl, hb⟩
  rw [HV.out]
  have B1 := Lib.hid (bfirst _ _ hb).2
  clear hb
  go_wp2_with fail
  go_loop [5, 6] (fun q i => ∃ k : Nat, k ≤ n ∧ i = .int .i64 k ∧ ((q = .int .i64 0 ∧ Hid (∀ j, j < k → 0 ≤ l.getD j 0 ∧ l.getD j 0 ≤ 256)) ∨ (q = .int .i64 2 ∧ Hid (bad l = true)))) (fun _ i => n - (intOf i).toNat)
  case atStart => exact ⟨0, by omega, rfl, .inl ⟨rfl, fun j hj => absurd hj (by omega)⟩⟩
  case round =>
    obtain ⟨k, hk, rfl, ⟨rfl, hg⟩ | ⟨rfl, hbt⟩⟩ := hrel
    · by_cases hkn : k < n
      · have c0 := cellB B1.out (HL.out k hkn)
        have i1 : (0 : Int) ≤ (k : Int) := by omega
        have i2 : (k : Int) < (n : Int) := by omega
        by_cases hb : l.getD k 0 < 0 ∨ 256 < l.getD k 0
        · have HB0 := Lib.hid (bad_yes (by have := HN.out; omega) hb)
          have HB := Lib.hid (sb_yes HB0.out)
          generalize l.getD k 0 = x at *
          rcases hb with hb | hb
          all_goals
            go_wp2_with fail
            go_round
            case rel => exact ⟨k + 1, by omega, by go_num, .inr ⟨rfl, HB0⟩⟩
            case measure => simp [intOf]; omega
        · have HG : Hid (∀ j, j < k + 1 → 0 ≤ l.getD j 0 ∧ l.getD j 0 ≤ 256) := fun j hj => by
            by_cases e : j = k
            · subst e; omega
            · exact hg.out j (by omega)
          have hb1 : 0 ≤ l.getD k 0 := by omega
          have hb2 : l.getD k 0 ≤ 256 := by omega
          clear hb hg
          generalize l.getD k 0 = x at *
          go_wp2_with fail
          go_round
          case rel => exact ⟨k + 1, by omega, by go_num, .inl ⟨rfl, HG⟩⟩
          case measure => simp [intOf]; omega
      · have hle : n ≤ k := by omega
        have HB := Lib.hid (sb_no (bad_no (l := l) (fun j hj => hg.out j (by have := HN.out; omega))))
        go_wp2_with fail
        go_ret
        exact ⟨ret_int (by rw [HB.out]), B1.out⟩
    · by_cases hkn : k < n
      · have i2 : (k : Int) < (n : Int) := by omega
        go_wp2_with fail
        go_ret
        exact ⟨ret_int (by rw [sb_yes hbt.out]), B1.out⟩
      · have hle : n ≤ k := by omega
        go_wp2_with fail
        go_ret
        exact ⟨ret_int (by rw [sb_yes hbt.out]), B1.out⟩
theorem asks_any (a b c : Int) (v : Value) (l : List Int) (w : World) (hi : IsInts w v l) :
    Calls Try.prog 37 #[MV a b c, v] w fun e w' => e = .returned (.int .i64 (snd a b c l)) ∧ Below w.heap.size w w' := by
  unfold snd
  obtain ⟨ad, n, cap, rfl, hn, hn2, h⟩ := hi
  by_cases hv : chkM a b c = 0
  · rw [if_pos hv]
    by_cases h4 : 400 < l.length
    · rw [if_pos h4]; exact asks_long a b c ad n cap w hv (by omega)
    rw [if_neg h4]
    rcases h with rfl | ⟨b0, off, rfl, h⟩
    · obtain rfl : n = 0 := hn
      exact asks_nil a b c ad cap w hv
    · exact asks_loop a b c b0 off n cap l w hv hn (by omega) (by rw [hn]; exact h)
  · rw [if_neg hv]; exact asks_bad a b c ad n cap w hv
end Go.Proofs.Ytlmdfanhimhlcaa
