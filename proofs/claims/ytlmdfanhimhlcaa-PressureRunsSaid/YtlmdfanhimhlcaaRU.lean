/- Helper facts for the statements of this seat; no statement itself. -/
import Derived.Test.YtlmdfanhimhlcaaRC
import Derived.Outline
namespace Go.Proofs.Ytlmdfanhimhlcaa
open Go.RowKit
set_option linter.unusedSimpArgs false
set_option linter.unusedVariables false
set_option linter.unnecessarySimpa false

def RH (w : World) (a b c : Int) (V v5 : Value) (l : List Int) (W : World) : Prop := W.heap[w.heap.size]? = some (.cells (mC a b c) 23 (0, 0)) ∧ Below w.heap.size w W ∧ IsInts W V l ∧ IsInts W v5 l
theorem RH.keep {w : World} {a b c : Int} {V v5 : Value} {l : List Int} {W W' : World} (h : RH w a b c V v5 l W) (hb : Below W.heap.size W W') : RH w a b c V v5 l W' := ⟨bkeep hb h.1, btrans h.2.1 hb, h.2.2.1.keep hb, h.2.2.2.keep hb⟩

set_option maxHeartbeats 8000000 in
set_option maxRecDepth 100000 in
theorem pressureRuns_walk (a b c : Int) (ad0 : Option Addr) (m cap0 : Nat) (w : World) (hn : m ≤ 9223372036854775807)
    (hl : m = 0 ∨ ∃ bb off, ∃ zs : List Int, ad0 = some ⟨bb, off, none⟩ ∧ m ≤ zs.length ∧ ∀ k, k < m → w.cell? ⟨bb, off + k, none⟩ = some (.int .i64 (zs.getD k 0))) :
    Calls Try.prog 7 #[MV a b c, .slice ad0 m cap0] w fun e w' => e = .returned (.bool true) ∧ Below w.heap.size w w' := by
  by_cases hq : (60 < m ∧ m ≤ 390) ∨ 410 < m
  · clear hl
    have hc : ((60 : Int) < m ∧ (m : Int) ≤ 390) ∨ ((60 : Int) < m ∧ ¬ (m : Int) ≤ 390 ∧ (410 : Int) < m) := by omega
    clear hq
    rcases hc with ⟨h1, h2⟩ | ⟨h1, h2, h3⟩
    all_goals
      go_enter Try.func7, Try.ntmps7
      go_wp2_with fail
      refine (awake_any _).mono ?_
      rintro e w1 ⟨rfl, hb⟩
      have B1 := Lib.hid (btrans ((Below.refl _ _).alloc (Nat.le_refl _) _) hb)
      clear hb
      go_wp2_with fail
      go_ret
      exact ⟨rfl, B1.out⟩
  · obtain ⟨l, HI⟩ : ∃ l : List Int, Hid (IsInts w (.slice ad0 m cap0) l ∧ l.length < 4294967296) := by
      rcases hl with h0 | ⟨bb, off, zs, h1, h2, h3⟩
      · subst h0
        exact ⟨[], IsInts.nil _ _ _, by simp⟩
      · have hlen : (zs.take m).length = m := by rw [List.length_take]; omega
        refine ⟨zs.take m, ⟨_, _, _, rfl, hlen.symm, by rw [hlen]; omega, .inr ⟨bb, off, h1, fun k hk => ?_⟩⟩, by rw [hlen]; omega⟩
        rw [hlen] at hk
        rw [getD_take hk]
        exact h3 k hk
    clear hl
    have hsx : Hid ((rnL a b c l == rnL a b c l) = true ∧ (l == l) = true) := ⟨beq_self_eq_true _, beq_self_eq_true _⟩
    have hc : ((m : Int) ≤ 60) ∨ ((60 : Int) < m ∧ (390 : Int) < m ∧ (m : Int) ≤ 410) := by omega
    clear hq
    rcases hc with h1 | ⟨h1, h2, h3⟩
    all_goals
      go_enter Try.func7, Try.ntmps7
      go_wp2_with fail
      refine (ownInts_any _ l _ (HI.out.1.keep ((Below.refl _ _).alloc (Nat.le_refl _) _)) HI.out.2).mono ?_
      rintro e w1 ⟨v5, rfl, i5, hb⟩
      have H1 : Hid (RH w a b c (.slice ad0 m cap0) v5 l w1) := ⟨(bfirst _ _ hb).1, (bfirst _ _ hb).2, (HI.out.1.keep ((Below.refl _ _).alloc (Nat.le_refl _) _)).keep hb, i5⟩
      clear hb i5
      obtain ⟨q0, q1, q2⟩ := c3 H1.out.1
      go_wp2_with fail
      refine (run_any a b c v5 l _ H1.out.2.2.2).mono ?_
      rintro e w2 ⟨v6, rfl, i6, hb⟩
      have H2 : Hid (RH w a b c (.slice ad0 m cap0) v5 l w2) := H1.out.keep hb
      have I6 := Lib.hid i6
      clear hb i6 q0 q1 q2 H1
      obtain ⟨q0, q1, q2⟩ := c3 H2.out.1
      go_wp2_with fail
      refine (rrun_any a b c _ l _ H2.out.2.2.1).mono ?_
      rintro e w3 ⟨v7, rfl, i7, hb⟩
      have H3 : Hid (RH w a b c (.slice ad0 m cap0) v5 l w3) := H2.out.keep hb
      have I63 := Lib.hid (I6.out.keep hb)
      have I7 := Lib.hid i7
      clear hb i7 q0 q1 q2 H2 I6
      obtain ⟨q0, q1, q2⟩ := c3 H3.out.1
      go_wp2_with fail
      refine (spans_any a b c v5 l _ H3.out.2.2.2).mono ?_
      rintro e w4 ⟨v8, rfl, i8, hb⟩
      have H4 : Hid (RH w a b c (.slice ad0 m cap0) v5 l w4) := H3.out.keep hb
      have I4 := Lib.hid (And.intro (I63.out.keep hb) (And.intro (I7.out.keep hb) i8))
      clear hb i8 q0 q1 q2 H3 I63 I7
      obtain ⟨q0, q1, q2⟩ := c3 H4.out.1
      go_wp2_with fail
      refine (rspans_any a b c _ l _ H4.out.2.2.1).mono ?_
      rintro e w5 ⟨v9, rfl, i9, hb⟩
      have H5 : Hid (RH w a b c (.slice ad0 m cap0) v5 l w5) := H4.out.keep hb
      have I5 := Lib.hid (And.intro (I4.out.1.keep hb) (And.intro (I4.out.2.1.keep hb) (And.intro (I4.out.2.2.keep hb) i9)))
      clear hb i9 q0 q1 q2 H4 I4
      go_wp2_with fail
      refine (sameBools_any _ _ _ _ _ I5.out.1 I5.out.2.1).mono ?_
      rintro e w6 ⟨rfl, hb⟩
      rw [hsx.out.1]
      have H6 : Hid (RH w a b c (.slice ad0 m cap0) v5 l w6) := H5.out.keep hb
      have I6 := Lib.hid (And.intro (I5.out.2.2.1.keep hb) (I5.out.2.2.2.keep hb))
      clear hb H5 I5
      have hnn : ((snd a b c l) != (snd a b c l)) = false := by simp
      go_wp2_with fail
      refine (sameSpans_eq _ _ _ _ I6.out.1 I6.out.2).mono ?_
      rintro e w7 ⟨rfl, hb⟩
      have H7 : Hid (RH w a b c (.slice ad0 m cap0) v5 l w7) := H6.out.keep hb
      clear hb H6 I6
      obtain ⟨q0, q1, q2⟩ := c3 H7.out.1
      go_wp2_with fail
      refine (worst_any a b c v5 l _ H7.out.2.2.2).mono ?_
      rintro e w8 ⟨rfl, hb⟩
      have H8 : Hid (RH w a b c (.slice ad0 m cap0) v5 l w8) := H7.out.keep hb
      clear hb H7 q0 q1 q2
      obtain ⟨q0, q1, q2⟩ := c3 H8.out.1
      go_wp2_with fail
      refine (rworst_any a b c _ l _ H8.out.2.2.1).mono ?_
      rintro e w9 ⟨rfl, hb⟩
      have H9 : Hid (RH w a b c (.slice ad0 m cap0) v5 l w9) := H8.out.keep hb
      clear hb H8 q0 q1 q2
      go_wp2_with fail
      refine (sameInts_any _ _ _ _ _ H9.out.2.2.2 H9.out.2.2.1).mono ?_
      rintro e wa ⟨rfl, hb⟩
      rw [hsx.out.2]
      have Ha : Hid (RH w a b c (.slice ad0 m cap0) v5 l wa) := H9.out.keep hb
      clear hb H9
      go_wp2_with fail
      refine (awake_any _).mono ?_
      rintro e wb ⟨rfl, hb⟩
      have Bz := Lib.hid (btrans Ha.out.2.1 hb)
      clear hb
      go_wp2_with fail
      go_ret
      exact ⟨rfl, Bz.out⟩
end Go.Proofs.Ytlmdfanhimhlcaa
