/- Helper facts for the statements of this seat; no statement itself. -/
import Derived.Test.YtlmdfanhimhlcaaQ
import Derived.Deep.RegionHeld3
import Derived.Deep.DeepCutAuto
import Derived.Outline
namespace Go.Proofs.Ytlmdfanhimhlcaa
open Go.RowKit
set_option linter.unusedSimpArgs false
set_option linter.unusedVariables false
set_option linter.unnecessarySimpa false

/-- The first answers of Run. -/
def runP (b c : Int) (l : List Int) (k : Nat) : List Bool := (List.range k).map fun j => awk b c l (j + 1)
theorem runP_succ (b c : Int) (l : List Int) (k : Nat) : runP b c l (k + 1) = runP b c l k ++ [awk b c l (k + 1)] := by simp [runP, List.range_succ]
theorem runP_len (b c : Int) (l : List Int) (k : Nat) : (runP b c l k).length = k := by simp [runP]
theorem runP_all (b c : Int) (l : List Int) : runP b c l l.length = runL b c l := rfl

set_option maxHeartbeats 1000000 in
theorem rrun_bad (a b c : Int) (v : Value) (zs : List Int) (w : World) (hs : snd a b c zs ≠ 0) (hi : IsInts w v zs) : Calls Try.prog 26 #[MV a b c, v] w (Ran a b c zs w) := by
  have hz : (snd a b c zs == 0) = false := by simpa using hs
  have HR : Hid (rnL a b c zs = []) := if_neg hs
  have HI := Lib.hid hi
  obtain ⟨ad, len, cap, rfl, rfl, _, _⟩ := hi
  go_enter Try.func26, Try.ntmps26
  go_wp2_with fail
  refine (asks_any a b c _ zs _ (HI.out.keep ((Below.refl _ _).alloc (Nat.le_refl _) _))).mono ?_
  rintro e w1 ⟨rfl, hb⟩
  have B1 := Lib.hid (bfirst _ _ hb)
  clear hb
  go_wp2_with fail
  refine bodyPost_ret (results_tmp2 rfl _ _ _) rfl ⟨_, rfl, ?_, B1.out.2⟩
  rw [HR.out]
  exact IsBools.nil _ _ _

set_option maxHeartbeats 2000000 in
theorem rrun_good (a b c : Int) (v : Value) (zs : List Int) (w : World) (hs : snd a b c zs = 0) (h4 : zs.length ≤ 400) (hi : IsInts w v zs) : Calls Try.prog 26 #[MV a b c, v] w (Ran a b c zs w) := by
  have HS := Lib.hid hs
  have HR : Hid (rnL a b c zs = runL b c zs) := if_pos hs
  have HI := Lib.hid hi
  obtain ⟨ad, len, cap, rfl, rfl, _, hcc⟩ := hi
  have HC := Lib.hid hcc
  clear hs hcc
  go_enter Try.func26, Try.ntmps26
  go_wp2_with fail
  refine (asks_any a b c _ zs _ (HI.out.keep ((Below.refl _ _).alloc (Nat.le_refl _) _))).mono ?_
  rintro e w1 ⟨rfl, hb⟩
  rw [HS.out]
  have B1 := Lib.hid (bfirst _ _ hb)
  clear hb
  go_wp2_with fail
  go_loopw [7, 8, 9] (fun v aw i wr => ∃ k : Nat, k ≤ zs.length ∧ i = .int .i64 k ∧ aw = .bool (awk b c zs k) ∧ Hid (OwnBs wr (w.heap.size + 1) v (runP b c zs k)) ∧ Hid (wr.heap[w.heap.size]? = some (.cells (mC a b c) 23 (0, 0)) ∧ Below w.heap.size w wr)) (fun _ _ i _ => zs.length - (intOf i).toNat)
  case atStart => exact ⟨0, by omega, rfl, rfl, OwnBs.nil _ _, B1⟩
  case round =>
    clear B1
    obtain ⟨k, hk, rfl, rfl, ho, hw⟩ := hrel
    by_cases hkl : k < zs.length
    · obtain ⟨b0, off, rfl, hc⟩ : ∃ b0 off, ad = some ⟨b0, off, none⟩ ∧ ∀ j, j < zs.length → w.cell? ⟨b0, off + j, none⟩ = some (.int .i64 (zs.getD j 0)) := by
        rcases HC.out with h | h
        · exact absurd hkl (by rw [h]; simp)
        · exact h
      have cx := cellB hw.out.2 (hc k hkl)
      have s0 := four hw.out.1 cx
      have i1 : (0 : Int) ≤ (k : Int) := by omega
      have i2 : (k : Int) < (zs.length : Int) := by omega
      have HN : Hid (awk b c zs (k + 1) = nxt b c (awk b c zs k) (zs.getD k 0)) := rfl
      have hsz := lt_of_some hw.out.1
      have hrl : (runP b c zs k).length < 4294967296 := by rw [runP_len]; omega
      clear hc
      generalize zs.getD k 0 = y at *
      generalize awk b c zs k = was at *
      go_wp2_with fail
      go_region_held3 (fun w' => w'.cell? ⟨w.heap.size, 0, none⟩ = some (.int .i64 a) ∧ w'.cell? ⟨w.heap.size, 1, none⟩ = some (.int .i64 b) ∧ w'.cell? ⟨w.heap.size, 2, none⟩ = some (.int .i64 c) ∧ w'.cell? ⟨b0, off + k, none⟩ = some (.int .i64 y)) (first | exact s0 | exact s1) ((go_at_call 40; (with_reducible refine (rnext_any a b c was y wr.drew).mono ?_); rintro e w3 ⟨rfl, hb⟩; rw [← HN.out]; have H3 : Hid (w3.heap[w.heap.size]? = some (.cells (mC a b c) 23 (0, 0)) ∧ Below w.heap.size w w3) := ⟨bkeep (wr := wr.drew) hb hw.out.1, btrans hw.out.2.drew hb⟩; have O3 : Hid (OwnBs w3 (w.heap.size + 1) u7 (runP b c zs k)) := OwnBs.keep (w := wr.drew) ho.out hb; have s1 := four H3.out.1 (cellB hb (cellD cx)); clear hb))
      clear s0 s1 cx ho hw
      have hs3 := lt_of_some H3.out.1
      obtain ⟨bn, hbn⟩ : ∃ x, awk b c zs (k + 1) = x := ⟨_, rfl⟩
      rw [hbn]
      have HB := Lib.hid hbn
      clear hbn
      go_wp2_with (((with_reducible refine append_bool ?b1 (.tmp 29) (.tmp 31) ?b2 (w.heap.size + 1) u7 (runP b c zs k) bn 4 w3.heap.size ?b3 ?b4 ?b5 O3 ?b6 ?b7 ?_); (case b1 => rfl); (case b2 => rfl); (case b3 => rfl); (case b4 => rfl); (case b5 => rfl); (case b6 => omega); (case b7 => omega)); intro v' w4 ho4 hb4)
      go_roundw
      case rel => exact ⟨k + 1, by omega, by go_num, by rw [HB.out], by rw [runP_succ, HB.out]; exact ho4, (hb4.out.block _ (by omega)).trans H3.out.1, H3.out.2.trans (hb4.out.mono (by omega))⟩
      case measure => simp [intOf]; omega
    · have HE : Hid (k = zs.length) := by show _ = _; omega
      have hle : zs.length ≤ k := by omega
      go_wp2_with fail
      refine bodyPost_ret (results_tmp2 rfl _ _ _) rfl ⟨u7, by rw [HS.out]; rfl, ?_, hw.out.2⟩
      rw [HR.out, ← runP_all, ← HE.out]
      exact ho.out.bools (by rw [runP_len]; omega)
theorem rrun_any (a b c : Int) (v : Value) (zs : List Int) (w : World) (hi : IsInts w v zs) : Calls Try.prog 26 #[MV a b c, v] w (Ran a b c zs w) := by
  by_cases h : snd a b c zs = 0
  · exact rrun_good a b c v zs w h (snd_len h) hi
  · exact rrun_bad a b c v zs w h hi
end Go.Proofs.Ytlmdfanhimhlcaa
