/- Helper facts for the statements of this seat; no statement itself. -/
import Derived.Test.YtlmdfanhimhlcaaSP
import Derived.Outline
namespace Go.Proofs.Ytlmdfanhimhlcaa
open Go.RowKit
set_option linter.unusedSimpArgs false
set_option linter.unusedVariables false
set_option linter.unnecessarySimpa false

theorem spans_any (a b c : Int) (v : Value) (zs : List Int) (w : World) (hi : IsInts w v zs) : Calls Try.prog 24 #[MV a b c, v] w (Spd a b c zs w) := by
  by_cases h : snd a b c zs = 0
  · exact spans_good a b c v zs w h (snd_len h) hi
  · exact spans_bad a b c v zs w h hi

set_option maxHeartbeats 1000000 in
theorem sameSpans_eq (va vb : Value) (l : List (Int × Int)) (w : World) (ha : IsSps w va l) (hb : IsSps w vb l) :
    Calls Try.prog 28 #[va, vb] w fun e w' => e = .returned (.bool true) ∧ Below w.heap.size w w' := by
  obtain ⟨a, n, ca, rfl, hn, hn2, ha⟩ := ha
  obtain ⟨b, m, cb, rfl, hm, hm2, hb⟩ := hb
  subst hm
  subst hn
  have hnn : ((l.length : Int) != (l.length : Int)) = false := by simp
  by_cases h0 : l = []
  · subst h0
    clear ha hb hn2 hm2 hnn
    go_enter Try.func28, Try.ntmps28
    go_wp2
    refine wp_loop_rounds 1 ?_
    rw [rounds_succ]
    go_wp2
    go_ret
    exact ⟨rfl, Below.refl _ _⟩
  · rcases ha with h | ⟨ba, rfl, ha⟩
    · exact absurd h h0
    rcases hb with h | ⟨bb, rfl, hb⟩
    · exact absurd h h0
    have HA := Lib.hid ha
    have HB := Lib.hid hb
    clear ha hb h0
    go_enter Try.func28, Try.ntmps28
    go_wp2
    go_loopw [5] (fun i wr => ∃ k : Nat, k ≤ l.length ∧ i = .int .i64 k ∧ Hid (Below w.heap.size w wr)) (fun i _ => l.length - (intOf i).toNat)
    case atStart => exact ⟨0, by omega, rfl, Below.refl _ _⟩
    case round =>
      obtain ⟨k, hk, rfl, hbl⟩ := hrel
      by_cases hlt : k < l.length
      · have c1 := cellB hbl.out (HA.out k hlt).1
        have c2 := cellB hbl.out (HA.out k hlt).2
        have d1 := cellB hbl.out (HB.out k hlt).1
        have d2 := cellB hbl.out (HB.out k hlt).2
        have i1 : (0 : Int) ≤ (k : Int) := by omega
        have i2 : (k : Int) < (l.length : Int) := by omega
        generalize l.getD k (0, 0) = y at *
        obtain ⟨y1, y2⟩ := y
        simp only [] at c1 c2 d1 d2
        have hy1 : (y1 != y1) = false := by simp
        have hy2 : (y2 != y2) = false := by simp
        go_wp2_with fail
        go_quiet (fail)
        go_wp2
        go_roundw
        case rel => exact ⟨k + 1, by omega, by go_num, bdrewN hbl.out _⟩
        case measure => simp [intOf]; omega
      · have hkn : l.length ≤ k := by omega
        go_wp2
        go_ret
        exact ⟨rfl, hbl.out⟩

set_option maxHeartbeats 1000000 in
theorem misses_yes (aw : Bool) (n k : Int) (w : World) (h1 : msR 2 5 9 aw n = k) (h2 : sn1 2 5 9 n = 0) :
    Calls Try.prog 34 #[.bool aw, .int .i64 n, .int .i64 k] w fun e w' => e = .returned (.bool true) ∧ Below w.heap.size w w' := by
  have H1 := Lib.hid h1
  have H2 := Lib.hid h2
  clear h1 h2
  go_enter Try.func34, Try.ntmps34
  go_wp2_with fail
  refine (marks_any _).mono ?_
  rintro e w1 ⟨rfl, rfl⟩
  go_wp2_with fail
  refine (missing_full 2 5 9 aw n _).mono ?_
  rintro e w2 ⟨rfl, hb⟩
  rw [H1.out, H2.out]
  have hB := Lib.hid (btrans ((Below.refl _ _).alloc (Nat.le_refl _) _) hb)
  clear hb
  go_wp2_with fail
  go_ret
  exact ⟨rfl, hB.out⟩
end Go.Proofs.Ytlmdfanhimhlcaa
