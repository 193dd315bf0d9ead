/- Helper facts for the statements of this seat; no statement itself. -/
import Derived.Test.YtbdhjiadomifeaaK
namespace Go.Proofs.Ytbdhjiadomifeaa
open Go.RowKit
set_option linter.unusedSimpArgs false
set_option linter.unusedVariables false
set_option linter.unnecessarySimpa false
attribute [local go_sem] W8_set

section
variable {ops : Array Oper} {rest : List Oper} {o : Oper} {a : Act} {w : World} {Q : Exit → Act → World → Prop}
/-- A whole page is loaded by an operation whose guard lets it run. -/
theorem ldg24 (hw : Region.wanted o (yielded ops a.tmps) = true) (x : Operand) (ho : o.op = .load 24 x) (g : Nat) (hx : a.eval x = .pointer (some ⟨g, 0, none⟩)) (c : List Nat) (hc : c.length = 8) (t : TypeId) (hg : w.heap[g]? = some (.cells (W8 c) t (0, 0)))
    (h : wpList Try.prog ops Q rest (a.put o.dst (.agg (W8 c))) w) : wpList Try.prog ops Q (o :: rest) a w :=
  wpList_step fun K hK => by
    rw [if_pos hw]
    exact wp_load_row 24 x ho g hx t (W8 c) (0, 0) _ hg Try.underlying24 rfl (by rw [size24, W8_size, hc]) (hK _ _ h)
/-- A whole page goes into the block that was made last, its number spelled in whatever way. -/
theorem st24m {W : World} {old : Array Value} {t : TypeId} (hgd : o.guard = none) (x y : Operand) (ho : o.op = .store 24 x y) (c : List Nat) (g : Nat) (hgw : g = W.heap.size) (hx : a.eval x = .pointer (some ⟨g, 0, none⟩)) (hy : a.eval y = .agg (W8 c)) (hc : c.length = 8) (hd : old.size = 8)
    (h : wpList Try.prog ops Q rest (a.put o.dst undef) (W.alloc (.cells (W8 c) t))) : wpList Try.prog ops Q (o :: rest) a (W.alloc (.cells old t)) := by
  subst hgw
  exact st24n hgd x y ho c hx hy hc hd h
end

/-- What reading and writing a word give, whatever the word's number. -/
def okW (i : Int) : Bool := decide (0 ≤ i) && decide (i < 8)
def wE (i : Int) : Int := if okW i = true then 0 else 2
def gR (c : List Nat) (i : Int) : Nat := if okW i = true then c.getD i.toNat 0 else 0
def wR (c : List Nat) (i : Int) (v : Nat) : List Nat := if okW i = true then c.set i.toNat v else List.replicate 8 0
theorem okW_nat {i : Int} (h : okW i = true) : ∃ k : Nat, i = k ∧ k < 8 := by
  simp [okW] at h
  exact ⟨i.toNat, by omega, by omega⟩
theorem okW_not {i : Int} (h : ¬ okW i = true) : i < 0 ∨ 8 ≤ i := by
  simp [okW] at h
  omega
theorem wR_length {c : List Nat} (hp : Pg c) (i : Int) (v : Nat) : (wR c i v).length = 8 := by
  unfold wR
  split <;> simp [hp.1]

set_option maxHeartbeats 400000 in
theorem get_all (c : List Nat) (i : Int) (w : World) (hp : Pg c) :
    Calls Try.prog 19 #[.agg (W8 c), .int .i64 i] w fun e w' => e = .returned (.tuple #[.int .u64 ((gR c i : Nat) : Int), .int .i64 (wE i)]) ∧ Below w.heap.size w w' := by
  unfold gR wE
  by_cases h : okW i = true
  · rw [if_pos h, if_pos h]
    obtain ⟨j, rfl, hj⟩ := okW_nat h
    have hcell : (w.alloc (.cells (W8 c) 24)).cell? ⟨w.heap.size, j, none⟩ = some (.int .u64 ((c.getD j 0 : Nat) : Int)) := setRow_cell (h1_0 _ _) (W8_get? c j (by rw [hp.1]; omega))
    simp only [Int.toNat_natCast]
    generalize c.getD j 0 = y at *
    clear h
    go_enter Try.func19, Try.ntmps19
    go_wp2
    go_ret2
    exact ⟨rfl, ((Below.refl _ _).alloc (Nat.le_refl _) _)⟩
  · rw [if_neg h, if_neg h]
    rcases okW_not h with h1 | h1
    all_goals
      clear h
      go_enter Try.func19, Try.ntmps19
      go_wp2
      go_ret2
      exact ⟨rfl, ((Below.refl _ _).alloc (Nat.le_refl _) _)⟩

set_option maxHeartbeats 400000 in
theorem rget_all (c : List Nat) (i : Int) (w : World) (hp : Pg c) :
    Calls Try.prog 20 #[.agg (W8 c), .int .i64 i] w fun e w' => e = .returned (.tuple #[.int .u64 ((gR c i : Nat) : Int), .int .i64 (wE i)]) ∧ Below w.heap.size w w' := by
  unfold gR wE
  by_cases h : okW i = true
  · rw [if_pos h, if_pos h]
    obtain ⟨j, rfl, hj⟩ := okW_nat h
    have hcell : (w.alloc (.cells (W8 c) 24)).cell? ⟨w.heap.size, j, none⟩ = some (.int .u64 ((c.getD j 0 : Nat) : Int)) := setRow_cell (h1_0 _ _) (W8_get? c j (by rw [hp.1]; omega))
    simp only [Int.toNat_natCast]
    generalize c.getD j 0 = y at *
    clear h
    go_enter Try.func20, Try.ntmps20
    go_wp2
    go_ret2
    exact ⟨rfl, ((Below.refl _ _).alloc (Nat.le_refl _) _)⟩
  · rw [if_neg h, if_neg h]
    rcases okW_not h with h1 | h1
    all_goals
      clear h
      go_enter Try.func20, Try.ntmps20
      go_wp2
      go_ret2
      exact ⟨rfl, ((Below.refl _ _).alloc (Nat.le_refl _) _)⟩

set_option maxHeartbeats 400000 in
theorem pput_all (c : List Nat) (i : Int) (v : Nat) (w : World) (hp : Pg c) :
    Calls Try.prog 21 #[.agg (W8 c), .int .i64 i, .int .u64 v] w fun e w' => e = .returned (.tuple #[.agg (W8 (wR c i v)), .int .i64 (wE i)]) ∧ Below w.heap.size w w' := by
  unfold wR wE
  by_cases h : okW i = true
  · rw [if_pos h, if_pos h]
    obtain ⟨j, rfl, hj⟩ := okW_nat h
    have hjs : j < (W8 c).size := by rw [W8_size, hp.1]; exact hj
    have hl := Lib.hid (show (c.set j v).length = 8 by rw [List.length_set, hp.1])
    simp only [Int.toNat_natCast]
    clear h
    go_enter Try.func21, Try.ntmps21
    go_wp2_with (first | refine ld24 rfl _ rfl _ rfl (c.set j v) hl.out 24 (h2_0 _ _ _) ?_ | refine st24m rfl _ _ rfl (c.set j v) (w.heap.size + 1) (World.size_alloc _ _).symm rfl rfl hl.out rfl ?_)
    refine bodyPost_ret (v := .tuple #[.agg (W8 (c.set j v)), .int .i64 0]) ?_ rfl ⟨rfl, ?_⟩
    · exact res_cell24 (fn := Try.f21) (p := 6) (u := 7) rfl _ _ (w.heap.size + 1) 24 (c.set j v) hl.out (by rfl) (h2_1 _ _ _)
    · exact (((Below.refl _ _).alloc (Nat.le_refl _) _).alloc (by simp only [World.size_alloc] <;> omega) _)
  · rw [if_neg h, if_neg h]
    rcases okW_not h with h1 | h1
    all_goals
      clear h
      go_enter Try.func21, Try.ntmps21
      go_wp2
      refine bodyPost_ret (v := .tuple #[.agg (W8 (List.replicate 8 0)), .int .i64 2]) ?_ rfl ⟨rfl, ?_⟩
      · refine res_cell24 (fn := Try.f21) (p := 6) (u := 7) rfl _ _ (w.heap.size + 1) 24 (List.replicate 8 0) (by simp) ?_ ?_
        · rfl
        · exact (h2_1 _ _ _)
      · exact (((Below.refl _ _).alloc (Nat.le_refl _) _).alloc (by simp only [World.size_alloc] <;> omega) _)

set_option maxHeartbeats 400000 in
theorem prput_all (c : List Nat) (i : Int) (v : Nat) (w : World) (hp : Pg c) :
    Calls Try.prog 22 #[.agg (W8 c), .int .i64 i, .int .u64 v] w fun e w' => e = .returned (.tuple #[.agg (W8 (wR c i v)), .int .i64 (wE i)]) ∧ Below w.heap.size w w' := by
  unfold wR wE
  by_cases h : okW i = true
  · rw [if_pos h, if_pos h]
    obtain ⟨j, rfl, hj⟩ := okW_nat h
    have hjs : j < (W8 c).size := by rw [W8_size, hp.1]; exact hj
    have hl := Lib.hid (show (c.set j v).length = 8 by rw [List.length_set, hp.1])
    simp only [Int.toNat_natCast]
    clear h
    go_enter Try.func22, Try.ntmps22
    go_wp2_with (first | refine ld24 rfl _ rfl _ rfl (c.set j v) hl.out 24 (h2_0 _ _ _) ?_ | refine st24m rfl _ _ rfl (c.set j v) (w.heap.size + 1) (World.size_alloc _ _).symm rfl rfl hl.out rfl ?_)
    refine bodyPost_ret (v := .tuple #[.agg (W8 (c.set j v)), .int .i64 0]) ?_ rfl ⟨rfl, ?_⟩
    · exact res_cell24 (fn := Try.f22) (p := 6) (u := 7) rfl _ _ (w.heap.size + 1) 24 (c.set j v) hl.out (by rfl) (h2_1 _ _ _)
    · exact (((Below.refl _ _).alloc (Nat.le_refl _) _).alloc (by simp only [World.size_alloc] <;> omega) _)
  · rw [if_neg h, if_neg h]
    rcases okW_not h with h1 | h1
    all_goals
      clear h
      go_enter Try.func22, Try.ntmps22
      go_wp2
      refine bodyPost_ret (v := .tuple #[.agg (W8 (List.replicate 8 0)), .int .i64 2]) ?_ rfl ⟨rfl, ?_⟩
      · refine res_cell24 (fn := Try.f22) (p := 6) (u := 7) rfl _ _ (w.heap.size + 1) 24 (List.replicate 8 0) (by simp) ?_ ?_
        · rfl
        · exact (h2_1 _ _ _)
      · exact (((Below.refl _ _).alloc (Nat.le_refl _) _).alloc (by simp only [World.size_alloc] <;> omega) _)

set_option maxHeartbeats 1000000 in
theorem pageWords_walk (c : List Nat) (i : Int) (v : Nat) (w : World) (hp : Pg c) :
    Calls Try.prog 5 #[.agg (W8 c), .int .i64 i, .int .u64 v] w fun e w' => e = .returned (.bool true) ∧ Below w.heap.size w w' := by
  have Gw0 := Lib.hid (h1_0 w (.cells (W8 c) 24))
  have Bw0 : Hid (Below w.heap.size w (w.alloc (.cells (W8 c) 24))) := ((Below.refl _ _).alloc (Nat.le_refl _) _)
  go_enter Try.func5, Try.ntmps5
  go_wp2_with (refine ld24 rfl _ rfl _ rfl c hp.1 24 Gw0.out ?_)
  refine (get_all c i _ hp).mono ?_
  rintro e w1 ⟨rfl, hb⟩
  have Gw1 := Lib.hid (bkeep hb Gw0.out)
  have Bw1 := Lib.hid (btrans Bw0.out hb)
  clear hb Gw0 Bw0
  go_wp2_with (refine ld24 rfl _ rfl _ rfl c hp.1 24 Gw1.out ?_)
  refine (rget_all c i _ hp).mono ?_
  rintro e w2 ⟨rfl, hb⟩
  have Gw2 := Lib.hid (bkeep hb Gw1.out)
  have Bw2 := Lib.hid (btrans Bw1.out hb)
  clear hb Gw1 Bw1
  go_wp2_with (refine ld24 rfl _ rfl _ rfl c hp.1 24 Gw2.out ?_)
  refine (pput_all c i v _ hp).mono ?_
  rintro e w3 ⟨rfl, hb⟩
  have Gw3 := Lib.hid (bkeep hb Gw2.out)
  have Bw3 := Lib.hid (btrans Bw2.out hb)
  clear hb Gw2 Bw2
  have hl := Lib.hid (wR_length hp i v)
  have G6 := Lib.hid (hold1 Gw3.out (.cells (W8 (wR c i v)) 24))
  have B6 := Lib.hid (balloc Bw3.out (.cells (W8 (wR c i v)) 24))
  have C6 := Lib.hid (h1_0 w3 (.cells (W8 (wR c i v)) 24))
  go_wp2_with (first | refine st24n rfl _ _ rfl (wR c i v) rfl rfl hl.out rfl ?_ | refine ld24 rfl _ rfl _ rfl c hp.1 24 G6.out ?_)
  refine (prput_all c i v _ hp).mono ?_
  rintro e w6 ⟨rfl, hb⟩
  have C7 := Lib.hid (bkeep hb C6.out)
  have B7 := Lib.hid (btrans B6.out hb)
  clear hb G6 B6 C6 Gw3 Bw3
  have he := run_eql24 (wR c i v) (wR c i v) hl.out hl.out
  rw [beq_self_eq_true] at he
  go_wp2_with (first | refine st24n rfl _ _ rfl (wR c i v) rfl rfl hl.out rfl ?_ | refine ldg24 rfl _ rfl w3.heap.size rfl (wR c i v) hl.out 24 (hold1 C7.out _) ?_ | refine ldg24 rfl _ rfl w6.heap.size rfl (wR c i v) hl.out 24 (h1_0 _ _) ?_)
  refine (awake_any _).mono ?_
  rintro e w7 ⟨rfl, hb⟩
  have B8 := Lib.hid (btrans (balloc B7.out _) hb)
  clear hb
  go_wp2
  go_ret
  exact ⟨rfl, B8.out⟩

end Go.Proofs.Ytbdhjiadomifeaa
