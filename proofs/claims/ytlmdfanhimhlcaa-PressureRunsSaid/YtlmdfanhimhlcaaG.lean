/- Helper facts for the statements of this seat; no statement itself. -/
import Derived.Test.YtlmdfanhimhlcaaF
import Derived.Deep.RegionHeld3
import Derived.Outline
namespace Go.Proofs.Ytlmdfanhimhlcaa
open Go.RowKit
set_option linter.unusedSimpArgs false
set_option linter.unusedVariables false
set_option linter.unnecessarySimpa false

theorem snd_len {a b c : Int} {l : List Int} (h : snd a b c l = 0) : l.length ≤ 400 := by
  unfold snd at h
  by_cases hv : chkM a b c = 0
  · rw [if_pos hv] at h
    by_cases h4 : 400 < l.length
    · rw [if_pos h4] at h; omega
    · omega
  · rw [if_neg hv] at h; exact absurd h hv
theorem run_any (a b c : Int) (v : Value) (zs : List Int) (w : World) (hi : IsInts w v zs) : Calls Try.prog 21 #[MV a b c, v] w (Ran a b c zs w) := by
  by_cases hs : snd a b c zs = 0
  · exact (run_good a b c v zs w hs (snd_len hs) hi).mono fun e w' h => RanG.ran hs (snd_len hs) h
  · exact run_bad a b c v zs w hs hi
theorem isBoolsL {W : World} {g : Nat} {t : TypeId} (l : List Bool) (hl : l.length ≤ 4294967296) (h : W.heap[g]? = some (.cells (l.map Value.bool).toArray t (0, 0))) : IsBools W (.slice (some ⟨g, 0, none⟩) l.length l.length) l :=
  ⟨_, _, _, rfl, rfl, hl, .inr ⟨g, 0, rfl, fun k hk => by
    refine setRow_cell h ?_
    simp [List.getD, hk]⟩⟩
theorem marks_any (w : World) : Calls Try.prog 31 #[] w fun e w' => e = .returned (MV 2 5 9) ∧ w.alloc (.cells (mC 2 5 9) 23) = w' := by
  go_enter Try.func31, Try.ntmps31
  go_wp2
  exact bodyPost_ret (v := MV 2 5 9) (by simp [results, Try.results31, go_sem]) rfl ⟨rfl, rfl⟩

set_option maxHeartbeats 1000000 in
theorem level_yes (n k : Int) (w : World) (h1 : lvR 2 5 9 n = k) (h2 : sn1 2 5 9 n = 0) : Calls Try.prog 32 #[.int .i64 n, .int .i64 k] w fun e w' => e = .returned (.bool true) ∧ Below w.heap.size w w' := by
  have H1 := Lib.hid h1
  have H2 := Lib.hid h2
  clear h1 h2
  go_enter Try.func32, Try.ntmps32
  go_wp2_with fail
  refine (marks_any _).mono ?_
  rintro e w1 ⟨rfl, rfl⟩
  go_wp2_with fail
  refine (level_full 2 5 9 n _).mono ?_
  rintro e w1 ⟨rfl, hb⟩
  rw [H1.out, H2.out]
  have B1 := Lib.hid (bfirst _ _ hb).2
  clear hb
  go_wp2_with fail
  go_ret
  exact ⟨rfl, B1.out⟩
set_option maxHeartbeats 1000000 in
theorem next_yes (aw : Bool) (n : Int) (k : Bool) (w : World) (h1 : nxR 2 5 9 aw n = k) (h2 : sn1 2 5 9 n = 0) : Calls Try.prog 33 #[.bool aw, .int .i64 n, .bool k] w fun e w' => e = .returned (.bool true) ∧ Below w.heap.size w w' := by
  have H1 := Lib.hid h1
  have H2 := Lib.hid h2
  clear h1 h2
  go_enter Try.func33, Try.ntmps33
  go_wp2_with fail
  refine (marks_any _).mono ?_
  rintro e w1 ⟨rfl, rfl⟩
  go_wp2_with fail
  refine (next_full 2 5 9 aw n _).mono ?_
  rintro e w1 ⟨rfl, hb⟩
  rw [H1.out, H2.out]
  have B1 := Lib.hid (bfirst _ _ hb).2
  clear hb
  go_wp2_with fail
  go_ret
  exact ⟨rfl, B1.out⟩

set_option maxHeartbeats 2000000 in
theorem awake_any (w : World) : Calls Try.prog 17 #[] w fun e w' => e = .returned (.bool true) ∧ Below w.heap.size w w' := by
  have HS : Hid (snd 2 5 9 [9, 4, 6, 8, 9, 8, 4] = 0) := by show _ = _; decide +kernel
  have HR : Hid (rnL 2 5 9 [9, 4, 6, 8, 9, 8, 4] = [false, true, true, true, false, false, true]) := by show _ = _; decide +kernel
  have HQ : Hid ((([false, true, true, true, false, false, true] : List Bool) == [false, true, true, true, false, false, true]) = true) := by show _ = _; decide
  go_enter Try.func17, Try.ntmps17
  go_wp2_with fail
  refine (marks_any _).mono ?_
  rintro e w1 ⟨rfl, rfl⟩
  go_wp2_with fail
  refine (run_any 2 5 9 _ [9, 4, 6, 8, 9, 8, 4] _ ?i1).mono ?_
  case i1 => exact isIntsL [9, 4, 6, 8, 9, 8, 4] (by decide) (h2_1 _ _ _)
  rintro e w1 ⟨v, rfl, iv, hb⟩
  rw [HS.out]
  rw [HR.out] at iv
  have B1 := Lib.hid (btrans (((Below.refl _ _).alloc (Nat.le_refl _) _).alloc (by simp only [World.size_alloc] <;> omega) _) hb)
  have IV := Lib.hid iv
  clear hb iv
  go_wp2_with fail
  refine (level_yes 9 0 _ (by decide +kernel) (by decide +kernel)).mono ?_
  rintro e w2 ⟨rfl, hb⟩
  have B2 := Lib.hid (btrans B1.out hb)
  have I2 := Lib.hid (IV.out.keep hb)
  clear hb
  go_wp2_with fail
  refine (level_yes 3 2 _ (by decide +kernel) (by decide +kernel)).mono ?_
  rintro e w3 ⟨rfl, hb⟩
  have B3 := Lib.hid (btrans B2.out hb)
  have I3 := Lib.hid (I2.out.keep hb)
  clear hb
  go_wp2_with fail
  refine (next_yes true 8 true _ (by decide +kernel) (by decide +kernel)).mono ?_
  rintro e w4 ⟨rfl, hb⟩
  have B4 := Lib.hid (btrans B3.out hb)
  have I4 := Lib.hid (I3.out.keep hb)
  clear hb
  go_wp2_with fail
  refine (sameBools_any v _ _ [false, true, true, true, false, false, true] _ (I4.out.keep ((Below.refl _ _).alloc (Nat.le_refl _) _)) ?i2).mono ?_
  case i2 => exact isBoolsL [false, true, true, true, false, false, true] (by decide) (h1_0 _ _)
  rintro e w5 ⟨rfl, hb⟩
  rw [HQ.out]
  have B5 := Lib.hid (btrans (balloc B4.out _) hb)
  clear hb
  go_wp2_with fail
  go_ret
  exact ⟨rfl, B5.out⟩

set_option maxHeartbeats 2000000 in
theorem pressureLevels_walk (a b c : Int) (aw : Bool) (n : Int) (w : World) : Calls Try.prog 3 #[MV a b c, .bool aw, .int .i64 n] w fun e w' => e = .returned (.bool true) ∧ Below w.heap.size w w' := by
  go_enter Try.func3, Try.ntmps3
  go_wp2_with fail
  refine (level_full a b c n _).mono ?_
  rintro e w1 ⟨rfl, hb⟩
  have H1 := Lib.hid (bfirst _ _ hb)
  clear hb
  obtain ⟨q0, q1, q2⟩ := c3 H1.out.1
  go_wp2_with fail
  refine (rlevelF_full a b c n _).mono ?_
  rintro e w2 ⟨rfl, hb⟩
  have H2 : Hid (w2.heap[w.heap.size]? = some (.cells (mC a b c) 23 (0, 0)) ∧ Below w.heap.size w w2) := ⟨bkeep hb H1.out.1, btrans H1.out.2 hb⟩
  clear hb q0 q1 q2
  have s0 := c3 H2.out.1
  go_wp2_with fail
  go_region_held3 (fun w' => w'.cell? ⟨w.heap.size, 0, none⟩ = some (.int .i64 a) ∧ w'.cell? ⟨w.heap.size, 1, none⟩ = some (.int .i64 b) ∧ w'.cell? ⟨w.heap.size, 2, none⟩ = some (.int .i64 c))
    (first | exact s0 | exact s1 | exact s2)
    (first | (go_at_call 11; (with_reducible refine (check_any a b c w2.drew).mono ?_); rintro e w3 ⟨rfl, hb⟩; have H3 : Hid (w3.heap[w.heap.size]? = some (.cells (mC a b c) 23 (0, 0)) ∧ Below w.heap.size w w3) := ⟨bkeep (wr := w2.drew) hb H2.out.1, btrans H2.out.2.drew hb⟩; have s1 := c3 H3.out.1; clear hb) | (go_at_call 12; (with_reducible refine (rcheck_any a b c w3).mono ?_); rintro e w4 ⟨rfl, hb⟩; have H4 : Hid (w4.heap[w.heap.size]? = some (.cells (mC a b c) 23 (0, 0)) ∧ Below w.heap.size w w4) := ⟨bkeep hb H3.out.1, btrans H3.out.2 hb⟩; have s2 := c3 H4.out.1; clear hb))
  obtain ⟨q0, q1, q2⟩ := s2
  clear s0 s1
  go_wp2_with fail
  refine (next_full a b c aw n _).mono ?_
  rintro e w5 ⟨rfl, hb⟩
  have H5 : Hid (w5.heap[w.heap.size]? = some (.cells (mC a b c) 23 (0, 0)) ∧ Below w.heap.size w w5) := ⟨bkeep hb H4.out.1, btrans H4.out.2 hb⟩
  clear hb q0 q1 q2
  obtain ⟨q0, q1, q2⟩ := c3 H5.out.1
  go_wp2_with fail
  refine (rnextF_full a b c aw n _).mono ?_
  rintro e w6 ⟨rfl, hb⟩
  have H6 : Hid (w6.heap[w.heap.size]? = some (.cells (mC a b c) 23 (0, 0)) ∧ Below w.heap.size w w6) := ⟨bkeep hb H5.out.1, btrans H5.out.2 hb⟩
  clear hb q0 q1 q2
  obtain ⟨q0, q1, q2⟩ := c3 H6.out.1
  go_wp2_with fail
  refine (missing_full a b c aw n _).mono ?_
  rintro e w7 ⟨rfl, hb⟩
  have H7 : Hid (w7.heap[w.heap.size]? = some (.cells (mC a b c) 23 (0, 0)) ∧ Below w.heap.size w w7) := ⟨bkeep hb H6.out.1, btrans H6.out.2 hb⟩
  clear hb q0 q1 q2
  obtain ⟨q0, q1, q2⟩ := c3 H7.out.1
  go_wp2_with fail
  refine (rmissing_full a b c aw n _).mono ?_
  rintro e w8 ⟨rfl, hb⟩
  have B8 := Lib.hid (btrans H7.out.2 hb)
  clear hb q0 q1 q2
  go_wp2_with fail
  refine (awake_any _).mono ?_
  rintro e w9 ⟨rfl, hb⟩
  have B9 := Lib.hid (btrans B8.out hb)
  clear hb
  go_wp2_with fail
  go_ret
  exact ⟨rfl, B9.out⟩
end Go.Proofs.Ytlmdfanhimhlcaa
