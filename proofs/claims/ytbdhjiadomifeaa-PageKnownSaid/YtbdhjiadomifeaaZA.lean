/- Helper facts for the statements of this seat; no statement itself. -/
import Derived.Test.YtbdhjiadomifeaaZ
namespace Go.Proofs.Ytbdhjiadomifeaa
open Go.RowKit
set_option linter.unusedSimpArgs false
set_option linter.unusedVariables false
set_option linter.unnecessarySimpa false

theorem prC_length (s : ByteArray) : (prC s).length = 8 := by
  unfold prC
  split
  · simp
  · split
    · simp
    · rename_i h1 h2
      have : ∀ k, (contK s k).length = 8 := by
        intro k
        induction k with
        | zero => simp [contK]
        | succ k ih => simp only [contK, stepC]; split <;> simp [ih]
      exact this _

theorem parse_all (s : ByteArray) (w : World) (h : s.size ≤ 9223372036854775807) :
    Calls Try.prog 32 #[.string s] w fun e w' => e = .returned (.tuple #[.agg (W8 (prC s)), .agg #[.int .i64 (prE s), .int .i64 (prA s)]]) ∧ Below w.heap.size w w' := by
  by_cases h2 : 135 < s.size
  · have := parse_long s w h2 h
    unfold prC prE prA
    simp only [if_pos h2]
    exact this
  · exact parse_short s w (by omega)
theorem rparse_all (s : ByteArray) (w : World) (h : s.size ≤ 9223372036854775807) :
    Calls Try.prog 33 #[.string s] w fun e w' => e = .returned (.tuple #[.agg (W8 (prC s)), .agg #[.int .i64 (prE s), .int .i64 (prA s)]]) ∧ Below w.heap.size w w' := by
  by_cases h2 : 135 < s.size
  · have := rparse_long s w h2 h
    unfold prC prE prA
    simp only [if_pos h2]
    exact this
  · exact rparse_short s w (by omega)

/-- Two new variables, a page and a fault, with what is stored into them. -/
theorem two_new (w : World) (c : List Nat) (e f : Int) (z1 z2 : Array Value) {W : World} (hW : W = (((w.alloc (.cells z1 24)).alloc (.cells z2 50)).setRow w.heap.size (W8 c)).setRow (w.heap.size + 1) #[.int .i64 e, .int .i64 f]) :
    W.heap[w.heap.size]? = some (.cells (W8 c) 24 (0, 0)) ∧ W.heap[w.heap.size + 1]? = some (.cells #[.int .i64 e, .int .i64 f] 50 (0, 0)) ∧ Below w.heap.size w W := by
  subst hW
  refine ⟨?_, ?_, ?_⟩
  · rw [setRow_other _ _ _ _ (by omega)]; exact setRow_heap _ _ _ _ _ _ (h2_0 _ _ _)
  · exact setRow_heap _ _ z2 _ _ _ (by rw [setRow_other _ _ _ _ (by omega)]; exact h2_1 _ _ _)
  · exact below_setRow (below_setRow (((Below.refl _ _).alloc (Nat.le_refl _) _).alloc (by simp only [World.size_alloc] <;> omega) _) (by omega) _) (by omega) _

theorem fault_cells {w : World} {g : Nat} {e f : Value} (h : w.heap[g]? = some (.cells #[e, f] 50 (0, 0))) : w.cell? ⟨g, 0, none⟩ = some e ∧ w.cell? ⟨g, 1, none⟩ = some f :=
  ⟨setRow_cell h rfl, setRow_cell h rfl⟩

set_option maxHeartbeats 2000000 in
theorem pageParses_walk (s : ByteArray) (w : World) (hs : s.size ≤ 9223372036854775807) :
    Calls Try.prog 8 #[.string s] w fun e w' => e = .returned (.bool true) ∧ Below w.heap.size w w' := by
  by_cases h200 : 200 < s.size
  · go_enter Try.func8, Try.ntmps8
    go_wp2_with fail
    refine (awake_any _).mono ?_
    rintro e w1 ⟨rfl, hb⟩
    have B := Lib.hid hb
    clear hb
    go_wp2
    go_ret
    exact ⟨rfl, B.out⟩
  · have hl := Lib.hid (prC_length s)
    go_enter Try.func8, Try.ntmps8
    go_wp2_with fail
    refine (parse_all s _ hs).mono ?_
    rintro e w1 ⟨rfl, hb⟩
    have B1 := Lib.hid hb
    clear hb
    go_wp2_with (first | ((with_reducible refine st24 ?a0 (.tmp 3) (.tmp 14) ?a1 w1.heap.size (prC s) (List.replicate 8 0) ?a2 ?a3 ?a4 ?a6 24 ?a5 ?_); (case a0 => rfl); (case a1 => rfl); (case a2 => rfl); (case a3 => rfl); (case a4 => exact hl.out); (case a6 => simp); (case a5 => exact h2_0 _ _ _)) | ((with_reducible refine st50 ?b0 (.tmp 4) (.tmp 15) ?b1 (w1.heap.size + 1) (prE s) (prA s) #[.int .i64 0, .int .i64 0] ?b2 ?b3 ?b4 50 ?b5 ?_); (case b0 => rfl); (case b1 => rfl); (case b2 => rfl); (case b3 => rfl); (case b4 => rfl); (case b5 => rw [setRow_other _ _ _ _ (by omega)]; exact h2_1 _ _ _)))
    have F1 := Lib.hid (two_new w1 (prC s) (prE s) (prA s) #[.int .u64 0, .int .u64 0, .int .u64 0, .int .u64 0, .int .u64 0, .int .u64 0, .int .u64 0, .int .u64 0] #[.int .i64 0, .int .i64 0] rfl)
    refine (rparse_all s _ hs).mono ?_
    rintro e w2 ⟨rfl, hb⟩
    have G1 := Lib.hid (bkeep hb F1.out.1)
    have G2 := Lib.hid (bkeep hb F1.out.2.1)
    have B2 := Lib.hid (btrans (btrans B1.out F1.out.2.2) hb)
    clear hb F1 B1
    generalize w1.heap.size = n1 at *
    have F2 := Lib.hid (two_new w2 (prC s) (prE s) (prA s) #[.int .u64 0, .int .u64 0, .int .u64 0, .int .u64 0, .int .u64 0, .int .u64 0, .int .u64 0, .int .u64 0] #[.int .i64 0, .int .i64 0] rfl)
    have G3 := Lib.hid (bkeep F2.out.2.2 G1.out)
    have G4 := Lib.hid (bkeep F2.out.2.2 G2.out)
    have B3 := Lib.hid (btrans B2.out F2.out.2.2)
    obtain ⟨q0, q1⟩ := fault_cells G4.out
    obtain ⟨q2, q3⟩ := fault_cells F2.out.2.1
    have he := run_eql24 (prC s) (prC s) hl.out hl.out
    rw [beq_self_eq_true] at he
    go_wp2_with (first | ((with_reducible refine st24 ?c0 (.tmp 5) (.tmp 19) ?c1 w2.heap.size (prC s) (List.replicate 8 0) ?c2 ?c3 ?c4 ?c6 24 ?c5 ?_); (case c0 => rfl); (case c1 => rfl); (case c2 => rfl); (case c3 => rfl); (case c4 => exact hl.out); (case c6 => simp); (case c5 => exact h2_0 _ _ _)) | ((with_reducible refine st50 ?d0 (.tmp 6) (.tmp 20) ?d1 (w2.heap.size + 1) (prE s) (prA s) #[.int .i64 0, .int .i64 0] ?d2 ?d3 ?d4 50 ?d5 ?_); (case d0 => rfl); (case d1 => rfl); (case d2 => rfl); (case d3 => rfl); (case d4 => rfl); (case d5 => rw [setRow_other _ _ _ _ (by omega)]; exact h2_1 _ _ _)) | ((with_reducible refine ld24 ?e0 (.tmp 3) ?e1 n1 ?e2 (prC s) ?e3 24 ?e4 ?_); (case e0 => rfl); (case e1 => rfl); (case e2 => rfl); (case e3 => exact hl.out); (case e4 => exact G3.out)) | ((with_reducible refine ld24 ?f0 (.tmp 5) ?f1 w2.heap.size ?f2 (prC s) ?f3 24 ?f4 ?_); (case f0 => rfl); (case f1 => rfl); (case f2 => rfl); (case f3 => exact hl.out); (case f4 => exact F2.out.1)))
    refine (awake_any _).mono ?_
    rintro e w7 ⟨rfl, hb⟩
    have B8 := Lib.hid (btrans B3.out hb)
    clear hb
    go_wp2
    go_ret
    exact ⟨rfl, B8.out⟩

end Go.Proofs.Ytbdhjiadomifeaa
