/- Helper facts for the statements of this seat; no statement itself. -/
import Derived.Test.YtfploaaelfjadaaA
import Derived.Test.YtfploaaelfjadaaComK
import Derived.Outline
namespace Go.Proofs.Ytfploaaelfjadaa
open Go.RowKit
set_option linter.unusedSimpArgs false
set_option linter.unusedVariables false
set_option linter.unnecessarySimpa false

/-- The cells of a tally. -/
theorem t15 {w : World} {g ty : Nat} {t : T} (h : w.heap[g]? = some (.cells (tC t) ty (0, 0))) : w.cell? ⟨g, 0, none⟩ = some (.int .i64 t.fr) ∧ w.cell? ⟨g, 1, none⟩ = some (.int .i64 t.mn) ∧ w.cell? ⟨g, 2, none⟩ = some (.int .i64 t.lo) ∧ w.cell? ⟨g, 3, none⟩ = some (.int .i64 t.hi) ∧ w.cell? ⟨g, 4, none⟩ = some (.bool t.aw) ∧ w.cell? ⟨g, 5, none⟩ = some (.int .i64 t.ob) ∧ w.cell? ⟨g, 6, none⟩ = some (.int .i64 t.ac) ∧ w.cell? ⟨g, 7, none⟩ = some (.int .i64 t.ia) ∧ w.cell? ⟨g, 8, none⟩ = some (.int .i64 t.tg) ∧ w.cell? ⟨g, 9, none⟩ = some (.bool t.rf) ∧ w.cell? ⟨g, 10, none⟩ = some (.int .i64 t.wr) ∧ w.cell? ⟨g, 11, none⟩ = some (.int .i64 t.cp) ∧ w.cell? ⟨g, 12, none⟩ = some (.int .i64 t.op) ∧ w.cell? ⟨g, 13, none⟩ = some (.int .i64 t.rm) ∧ w.cell? ⟨g, 14, none⟩ = some (.int .i64 t.sl) :=
  ⟨setRow_cell h rfl, setRow_cell h rfl, setRow_cell h rfl, setRow_cell h rfl, setRow_cell h rfl, setRow_cell h rfl, setRow_cell h rfl, setRow_cell h rfl, setRow_cell h rfl, setRow_cell h rfl, setRow_cell h rfl, setRow_cell h rfl, setRow_cell h rfl, setRow_cell h rfl, setRow_cell h rfl⟩

/-- Whether numbers are from 0 to a greatest one. -/
def uptoB (m : Int) : List Int → Bool
  | [] => true
  | x :: l => decide (0 ≤ x ∧ x ≤ m) && uptoB m l
theorem upto_no (m : Int) (l : List Int) (k : Nat) (hk : k < l.length) (h : ¬ (0 ≤ l.getD k 0 ∧ l.getD k 0 ≤ m)) : uptoB m l = false := by
  induction l generalizing k with
  | nil => simp at hk
  | cons x l ih =>
    cases k with
    | zero => unfold uptoB; rw [decide_eq_false (show ¬ (0 ≤ x ∧ x ≤ m) from h)]; rfl
    | succ k => unfold uptoB; rw [ih k (by simpa using hk) h, Bool.and_false]
theorem upto_yes (m : Int) (l : List Int) (h : ∀ k, k < l.length → 0 ≤ l.getD k 0 ∧ l.getD k 0 ≤ m) : uptoB m l = true := by
  induction l with
  | nil => rfl
  | cons x l ih =>
    unfold uptoB
    rw [decide_eq_true (show 0 ≤ x ∧ x ≤ m from h 0 (by simp)), ih (fun k hk => h (k + 1) (by simpa using hk))]
    rfl

set_option maxHeartbeats 1000000 in
theorem upto_any (m : Int) (l : List Int) (g n : Nat) (w : World) (hn : n = l.length) (h6 : n ≤ 6) (hc : ∀ k, k < n → w.cell? ⟨g, k, none⟩ = some (.int .i64 (l.getD k 0))) :
    Calls Try.prog 37 #[.int .i64 m, .slice (some ⟨g, 0, none⟩) n n] w fun e w' => e = .returned (.bool (uptoB m l)) ∧ w = w' := by
  have HC := Lib.hid hc
  have HN := Lib.hid hn
  clear hc hn
  go_enter Try.func37, Try.ntmps37
  go_wp2_with fail
  go_loop [5] (fun i => ∃ k : Nat, k ≤ n ∧ i = .int .i64 k ∧ Hid (∀ j, j < k → 0 ≤ l.getD j 0 ∧ l.getD j 0 ≤ m)) (fun i => n - (intOf i).toNat)
  case atStart => exact ⟨0, by omega, rfl, fun j hj => by omega⟩
  case round =>
    obtain ⟨k, hk, rfl, hp⟩ := hrel
    by_cases hlt : k < n
    · have c0 := HC.out k hlt
      have i1 : (0 : Int) ≤ (k : Int) := by omega
      have i2 : (k : Int) < (n : Int) := by omega
      have HF := Lib.hid (upto_no m l k (by rw [← HN.out]; exact hlt))
      have HT : Hid (0 ≤ l.getD k 0 → l.getD k 0 ≤ m → ∀ j, j < k + 1 → 0 ≤ l.getD j 0 ∧ l.getD j 0 ≤ m) := fun h1 h2 j hj => by
        by_cases e : j = k
        · subst e; exact ⟨h1, h2⟩
        · exact hp.out j (by omega)
      generalize l.getD k 0 = x at *
      by_cases h1 : 0 ≤ x
      · by_cases h2 : x ≤ m
        · have HT2 := Lib.hid (HT.out h1 h2)
          clear HT HF
          go_wp2_with fail
          go_round
          case rel => exact ⟨k + 1, by omega, by go_num, HT2⟩
          case measure => simp [intOf]; omega
        · have HF2 := Lib.hid (HF.out (by omega))
          clear HT HF
          go_wp2_with fail
          go_ret
          exact ⟨by rw [HF2.out]; rfl, rfl⟩
      · have HF2 := Lib.hid (HF.out (by omega))
        clear HT HF
        go_wp2_with fail
        go_ret
        exact ⟨by rw [HF2.out]; rfl, rfl⟩
    · obtain rfl : k = n := by omega
      go_wp2_with fail
      go_ret
      exact ⟨by rw [upto_yes m l (by rw [← HN.out]; exact hp.out)]; rfl, rfl⟩
theorem ck1_upto (t : T) : uptoB 256 [t.fr, t.ob, t.ac, t.ia, t.tg, t.sl] = ck1 t := by
  unfold uptoB uptoB uptoB uptoB uptoB uptoB uptoB ck1
  rw [Bool.eq_iff_iff]
  simp only [Bool.and_eq_true, decide_eq_true_eq, and_true]
theorem ck4_upto (t : T) : uptoB 32 [t.op, t.rm] = ck4 t := by
  unfold uptoB uptoB uptoB ck4
  rw [Bool.eq_iff_iff]
  simp only [Bool.and_eq_true, decide_eq_true_eq, and_true]
/-- Check's number, in the words of the reference. -/
def ckR (a b : Bool) (t : T) : Int := if a = true ∧ (0 ≤ t.mn ∧ t.mn < t.lo ∧ t.lo < t.hi ∧ t.hi ≤ 256) ∧ (1 ≤ t.cp ∧ t.cp ≤ 16 ∧ 0 ≤ t.wr ∧ t.wr ≤ t.cp) ∧ b = true then (if t.rf = true ∧ t.ia = 0 then 3 else 0) else 2
theorem chk_r (t : T) : chk t = ckR (ck1 t) (ck4 t) t := by
  unfold ckR chk
  have e5 : (if ck5 t = true then (0 : Int) else 3) = if t.rf = true ∧ t.ia = 0 then 3 else 0 := by
    unfold ck5
    cases t.rf <;> by_cases hi : t.ia = 0 <;> simp [hi]
  rw [e5]
  have e6 : ((ck1 t && ck2 t && ck3 t && ck4 t) = true) ↔ (ck1 t = true ∧ (0 ≤ t.mn ∧ t.mn < t.lo ∧ t.lo < t.hi ∧ t.hi ≤ 256) ∧ (1 ≤ t.cp ∧ t.cp ≤ 16 ∧ 0 ≤ t.wr ∧ t.wr ≤ t.cp) ∧ ck4 t = true) := by
    unfold ck2 ck3
    simp only [Bool.and_eq_true, decide_eq_true_eq]
    constructor
    · rintro ⟨⟨⟨a, b⟩, c⟩, d⟩; exact ⟨a, b, c, d⟩
    · rintro ⟨a, b, c, d⟩; exact ⟨⟨⟨a, b⟩, c⟩, d⟩
  simp only [e6]
theorem cells_list {w : World} {g ty : Nat} (l : List Int) (h : w.heap[g]? = some (.cells (l.map (Value.int .i64)).toArray ty (0, 0))) (k : Nat) (hk : k < l.length) : w.cell? ⟨g, k, none⟩ = some (.int .i64 (l.getD k 0)) := by
  refine setRow_cell h ?_
  simp [List.getD, hk]

set_option maxRecDepth 100000 in
set_option maxHeartbeats 2000000 in
theorem refCheck_any (t : T) (w : World) : Calls Try.prog 12 #[TV t] w fun e w' => e = .returned (.int .i64 (chk t)) ∧ Below w.heap.size w w' := by
  have HR := Lib.hid (chk_r t)
  have H1 := Lib.hid (ck1_upto t)
  have H4 := Lib.hid (ck4_upto t)
  generalize chk t = r at *
  generalize ck1 t = b1 at *
  generalize ck4 t = b4 at *
  go_enter Try.func12, Try.ntmps12
  go_wp2_with fail
  refine (upto_any 256 [t.fr, t.ob, t.ac, t.ia, t.tg, t.sl] _ 6 _ rfl (by omega) ?hc).mono ?_
  case hc => exact cells_list [t.fr, t.ob, t.ac, t.ia, t.tg, t.sl] (h2_1 _ _ _)
  rintro e w1 ⟨rfl, rfl⟩
  rw [H1.out]
  clear H1
  cases b1 with
  | false =>
    go_wp2_with fail
    go_ret
    refine ⟨ret_int ?_, (((Below.refl _ _).alloc (Nat.le_refl _) _).alloc (by simp only [World.size_alloc] <;> omega) _)⟩
    rw [HR.out]
    exact (if_neg (fun h => by cases h.1)).symm
  | true =>
    go_wp2_with (((with_reducible refine (upto_any 32 [t.op, t.rm] _ 2 _ ?z1 ?z2 ?z3).mono ?_); (case z1 => rfl); (case z2 => omega); (case z3 => exact cells_list [t.op, t.rm] (h3_2 _ _ _ _)); rintro e w2 ⟨rfl, rfl⟩; rw [H4.out]; cases b4))
    all_goals
      go_ret
      refine ⟨ret_int ?_, by first | exact (((Below.refl _ _).alloc (Nat.le_refl _) _).alloc (by simp only [World.size_alloc] <;> omega) _) | exact ((((Below.refl _ _).alloc (Nat.le_refl _) _).alloc (by simp only [World.size_alloc] <;> omega) _).alloc (by simp only [World.size_alloc] <;> omega) _)⟩
      rw [HR.out]
      clear HR
      unfold ckR
      first
        | (rw [if_neg (by omega)]; done)
        | (rw [if_neg (fun hh => by cases hh.2.2.2)]; done)
        | (rw [if_pos (by refine ⟨rfl, by omega, by omega, rfl⟩), if_pos ⟨‹_›, beq_iff_eq.1 ‹_›⟩]; done)
        | (rw [if_pos (by refine ⟨rfl, by omega, by omega, rfl⟩), if_neg (fun hh => by simp_all)]; done)
        | trace_state
end Go.Proofs.Ytfploaaelfjadaa
