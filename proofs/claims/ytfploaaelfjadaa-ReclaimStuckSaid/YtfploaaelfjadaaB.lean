/- Helper facts for the statements of this seat; no statement itself. -/
import Derived.Test.YtfploaaelfjadaaA
import Derived.Test.YtfploaaelfjadaaComK
import Derived.Laws.EntriesVeiled
import Derived.Outline
namespace Go.Proofs.Ytfploaaelfjadaa
open Go.RowKit
set_option linter.unusedSimpArgs false
set_option linter.unusedVariables false
set_option linter.unnecessarySimpa false

/-- What hinders a write, of the first kinds. -/
def hnK (b1 b2 b3 b4 : Bool) (k : Nat) : List Int := (if (b1 && decide (0 < k)) = true then [1] else []) ++ ((if (b2 && decide (1 < k)) = true then [2] else []) ++ ((if (b3 && decide (2 < k)) = true then [3] else []) ++ (if (b4 && decide (3 < k)) = true then [4] else [])))
theorem hnK_hnd (t : T) : hnK ((t.ac == 0) && (t.ia == 0)) (t.wr == t.cp) (t.rm == 0) (t.sl == 0) 4 = hnd t := by
  unfold hnK hnd hn3 hn2 hn1
  cases (t.ac == 0 && t.ia == 0) <;> cases (t.wr == t.cp) <;> cases (t.rm == 0) <;> cases (t.sl == 0) <;> rfl
theorem hnK_len (b1 b2 b3 b4 : Bool) (k : Nat) : (hnK b1 b2 b3 b4 k).length ≤ 4 := by
  unfold hnK
  repeat' split
  all_goals simp
theorem hnK0 (b2 b3 b4 : Bool) : hnK true b2 b3 b4 0 ++ [1] = hnK true b2 b3 b4 1 ∧ hnK false b2 b3 b4 0 = hnK false b2 b3 b4 1 := by cases b2 <;> cases b3 <;> cases b4 <;> decide
theorem hnK1 (b1 b3 b4 : Bool) : hnK b1 true b3 b4 1 ++ [2] = hnK b1 true b3 b4 2 ∧ hnK b1 false b3 b4 1 = hnK b1 false b3 b4 2 := by cases b1 <;> cases b3 <;> cases b4 <;> decide
theorem hnK2 (b1 b2 b4 : Bool) : hnK b1 b2 true b4 2 ++ [3] = hnK b1 b2 true b4 3 ∧ hnK b1 b2 false b4 2 = hnK b1 b2 false b4 3 := by cases b1 <;> cases b2 <;> cases b4 <;> decide
theorem hnK3 (b1 b2 b3 : Bool) : hnK b1 b2 b3 true 3 ++ [4] = hnK b1 b2 b3 true 4 ∧ hnK b1 b2 b3 false 3 = hnK b1 b2 b3 false 4 := by cases b1 <;> cases b2 <;> cases b3 <;> decide
/-- A function that returns this bool whatever the world. -/
def Says (f : Nat) (V : Value) (b : Bool) : Prop := ∀ w, Calls Try.prog f #[V] w fun e w' => e = .returned (.bool b) ∧ Below w.heap.size w w'

set_option maxRecDepth 100000 in
set_option maxHeartbeats 2000000 in
theorem hinders_any (t : T) (w : World) : Calls Try.prog 40 #[TV t] w fun e w' => ∃ v, e = .returned v ∧ IsInts w' v (hnd t) ∧ Below w.heap.size w w' := by
  rw [← hnK_hnd t]
  have S1 : Says 55 (TV t) ((t.ac == 0) && (t.ia == 0)) := fun w => empty_any t w
  have S2 : Says 56 (TV t) (t.wr == t.cp) := fun w => capped_any t w
  have S3 : Says 57 (TV t) (t.rm == 0) := fun w => crowded_any t w
  have S4 : Says 58 (TV t) (t.sl == 0) := fun w => full_any t w
  generalize ((t.ac == 0) && (t.ia == 0)) = b1 at *
  generalize (t.wr == t.cp) = b2 at *
  generalize (t.rm == 0) = b3 at *
  generalize (t.sl == 0) = b4 at *
  go_enter Try.func40, Try.ntmps40
  go_wp2_with fail
  generalize hV : Value.agg #[.int .i64 t.fr, .int .i64 t.mn, .int .i64 t.lo, .int .i64 t.hi, .bool t.aw, .int .i64 t.ob, .int .i64 t.ac, .int .i64 t.ia, .int .i64 t.tg, .bool t.rf, .int .i64 t.wr, .int .i64 t.cp, .int .i64 t.op, .int .i64 t.rm, .int .i64 t.sl] = V at *
  rw [show TV t = V from hV] at *
  clear hV
  obtain ⟨g, hg⟩ : ∃ g, g = w.heap.size + 1 := ⟨_, rfl⟩
  have HB : Hid (((w.alloc (.cells (tC t) 46)).alloc (.cells #[.int .i64 1, .func (.func 55) #[V] #[], .int .i64 2, .func (.func 56) #[V] #[], .int .i64 3, .func (.func 57) #[V] #[], .int .i64 4, .func (.func 58) #[V] #[]] 65)).heap[g]? = some (.cells #[.int .i64 1, .func (.func 55) #[V] #[], .int .i64 2, .func (.func 56) #[V] #[], .int .i64 3, .func (.func 57) #[V] #[], .int .i64 4, .func (.func 58) #[V] #[]] 65 (0, 0)) ∧ Below w.heap.size w ((w.alloc (.cells (tC t) 46)).alloc (.cells #[.int .i64 1, .func (.func 55) #[V] #[], .int .i64 2, .func (.func 56) #[V] #[], .int .i64 3, .func (.func 57) #[V] #[], .int .i64 4, .func (.func 58) #[V] #[]] 65))) := by
    rw [hg]; exact ⟨h2_1 _ _ _, (((Below.refl _ _).alloc (Nat.le_refl _) _).alloc (by simp only [World.size_alloc] <;> omega) _)⟩
  rw [← hg]
  have hgw : w.heap.size ≤ g := by omega
  generalize (w.alloc (.cells (tC t) 46)).alloc (.cells #[.int .i64 1, .func (.func 55) #[V] #[], .int .i64 2, .func (.func 56) #[V] #[], .int .i64 3, .func (.func 57) #[V] #[], .int .i64 4, .func (.func 58) #[V] #[]] 65) = W1 at *
  clear hg
  go_loopw [3, 5, 20] (fun v p i wr => ∃ k : Nat, k ≤ 4 ∧ i = .int .i64 k ∧ Hid (Own wr (g + 1) v (hnK b1 b2 b3 b4 k)) ∧ Hid (wr.heap[g]? = some (.cells #[.int .i64 1, .func (.func 55) #[V] #[], .int .i64 2, .func (.func 56) #[V] #[], .int .i64 3, .func (.func 57) #[V] #[], .int .i64 4, .func (.func 58) #[V] #[]] 65 (0, 0)) ∧ Below w.heap.size w wr)) (fun _ _ i _ => 4 - (intOf i).toNat)
  case atStart => exact ⟨0, by omega, rfl, by rw [show hnK b1 b2 b3 b4 0 = [] by cases b1 <;> cases b2 <;> cases b3 <;> cases b4 <;> rfl]; exact Own.nil _ _, HB⟩
  case round =>
    obtain ⟨k, hk, rfl, ho, hb⟩ := hrel
    clear HB
    by_cases hlt : k < 4
    · obtain ⟨f, m, b, hf, c0, c1, hs, h1, h2⟩ : ∃ (f : Nat) (m : Int) (b : Bool), (f = 55 ∨ f = 56 ∨ f = 57 ∨ f = 58) ∧ wr.cell? ⟨g, k * 2, none⟩ = some (.int .i64 m) ∧ wr.cell? ⟨g, k * 2 + 1, none⟩ = some (.func (.func f) #[V] #[]) ∧ Says f V b ∧ (b = true → hnK b1 b2 b3 b4 k ++ [m] = hnK b1 b2 b3 b4 (k + 1)) ∧ (b = false → hnK b1 b2 b3 b4 k = hnK b1 b2 b3 b4 (k + 1)) := by
        obtain rfl | rfl | rfl | rfl : k = 0 ∨ k = 1 ∨ k = 2 ∨ k = 3 := by omega
        · exact ⟨55, 1, b1, by decide, setRow_cell hb.out.1 rfl, setRow_cell hb.out.1 rfl, S1, fun e => by subst e; exact (hnK0 b2 b3 b4).1, fun e => by subst e; exact (hnK0 b2 b3 b4).2⟩
        · exact ⟨56, 2, b2, by decide, setRow_cell hb.out.1 rfl, setRow_cell hb.out.1 rfl, S2, fun e => by subst e; exact (hnK1 b1 b3 b4).1, fun e => by subst e; exact (hnK1 b1 b3 b4).2⟩
        · exact ⟨57, 3, b3, by decide, setRow_cell hb.out.1 rfl, setRow_cell hb.out.1 rfl, S3, fun e => by subst e; exact (hnK2 b1 b2 b4).1, fun e => by subst e; exact (hnK2 b1 b2 b4).2⟩
        · exact ⟨58, 4, b4, by decide, setRow_cell hb.out.1 rfl, setRow_cell hb.out.1 rfl, S4, fun e => by subst e; exact (hnK3 b1 b2 b3).1, fun e => by subst e; exact (hnK3 b1 b2 b3).2⟩
      have H1 := Lib.hid h1
      have H2 := Lib.hid h2
      clear h1 h2 S1 S2 S3 S4
      have i1 : (0 : Int) ≤ (k : Int) := by omega
      have i2 : (k : Int) < 4 := by omega
      have HS := Lib.hid hs
      clear hs
      cases b with
      | true =>
        have e1 := Lib.hid (H1.out rfl)
        clear H1 H2
        rcases hf with rfl | rfl | rfl | rfl
        all_goals
          go_wp2_with fail
          refine (HS.out _).mono ?_
          rintro e w2 ⟨rfl, hb2⟩
          have H2 := Lib.hid (bfirst _ _ hb2)
          have O2 := Lib.hid (ho.out.keep (bfirst _ _ hb2).2)
          have B2 : Hid (w2.heap[g]? = some (.cells #[.int .i64 1, .func (.func 55) #[V] #[], .int .i64 2, .func (.func 56) #[V] #[], .int .i64 3, .func (.func 57) #[V] #[], .int .i64 4, .func (.func 58) #[V] #[]] 65 (0, 0)) ∧ Below w.heap.size w w2) := ⟨bkeep (bfirst _ _ hb2).2 hb.out.1, btrans hb.out.2 (bfirst _ _ hb2).2⟩
          have d0 : w2.cell? ⟨wr.heap.size, 0, none⟩ = some (.int .i64 m) := setRow_cell H2.out.1 rfl
          clear hb2 c0 c1 hb ho
          have hln := hnK_len b1 b2 b3 b4 k
          have hsz := lt_of_some B2.out.1
          go_wp2_with (((with_reducible refine append_intz ?b1 (.tmp 27) (.tmp 30) ?b2 (g + 1) u3 (hnK b1 b2 b3 b4 k) m 3 w2.heap.size ?b3 ?b4 ?b5 O2 ?b6 ?b7 ?_); (case b1 => rfl); (case b2 => rfl); (case b3 => rfl); (case b4 => rfl); (case b5 => rfl); (case b6 => omega); (case b7 => omega)); intro v' w4 ho4 hb4)
          go_roundw
          case rel => exact ⟨k + 1, by omega, by go_num, by rw [← e1.out]; exact ho4, (hb4.out.block g (by omega)).trans B2.out.1, B2.out.2.trans (hb4.out.mono (by omega))⟩
          case measure => simp [intOf]; omega
      | false =>
        have e1 := Lib.hid (H2.out rfl)
        clear H1 H2
        rcases hf with rfl | rfl | rfl | rfl
        all_goals
          go_wp2_with fail
          refine (HS.out _).mono ?_
          rintro e w2 ⟨rfl, hb2⟩
          have O2 := Lib.hid (ho.out.keep (bfirst _ _ hb2).2)
          have B2 : Hid (w2.heap[g]? = some (.cells #[.int .i64 1, .func (.func 55) #[V] #[], .int .i64 2, .func (.func 56) #[V] #[], .int .i64 3, .func (.func 57) #[V] #[], .int .i64 4, .func (.func 58) #[V] #[]] 65 (0, 0)) ∧ Below w.heap.size w w2) := ⟨bkeep (bfirst _ _ hb2).2 hb.out.1, btrans hb.out.2 (bfirst _ _ hb2).2⟩
          clear hb2 c0 c1 hb ho
          go_wp2_with fail
          go_roundw
          case rel => exact ⟨k + 1, by omega, by go_num, by rw [← e1.out]; exact O2, B2⟩
          case measure => simp [intOf]; omega
    · obtain rfl : k = 4 := by omega
      go_wp2_with fail
      go_ret
      exact ⟨_, rfl, ho.out.ints (by have := hnK_len b1 b2 b3 b4 4; omega), hb.out.2⟩
end Go.Proofs.Ytfploaaelfjadaa
