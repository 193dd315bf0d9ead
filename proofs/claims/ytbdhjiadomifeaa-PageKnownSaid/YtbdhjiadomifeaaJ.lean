/- Helper facts for the statements of this seat; no statement itself. -/
import Derived.Test.YtbdhjiadomifeaaI
import Derived.ChangeKeysEq
namespace Go.Proofs.Ytbdhjiadomifeaa
open Go.RowKit
set_option linter.unusedSimpArgs false
set_option linter.unusedVariables false
set_option linter.unnecessarySimpa false

theorem run_items (d : Nat) (c e : List Nat) (w : World) : ∀ is : List Nat, (∀ i ∈ is, i < c.length ∧ i < e.length) →
    (Op.eqItems (d + 1) 22 1 (W8 c) (W8 e) is).run Try.prog w = .ok (is.all fun i => c.getD i 0 == e.getD i 0) w
  | [], _ => by simp [Op.eqItems]
  | i :: is, h => by
    have hi := h i (by simp)
    have ih := run_items d c e w is (fun j hj => h j (by simp [hj]))
    have p1 : (part 22 (W8 c) i).run Try.prog w = .ok (.int .u64 ((c.getD i 0 : Nat) : Int)) w := by
      simp [part, Sem.run_bind, agg22, W8_get? c i hi.1]
    have p2 : (part 22 (W8 e) i).run Try.prog w = .ok (.int .u64 ((e.getD i 0 : Nat) : Int)) w := by
      simp [part, Sem.run_bind, agg22, W8_get? e i hi.2]
    have p3 : (Op.equalIn (d + 1) 22 (.int .u64 ((c.getD i 0 : Nat) : Int)) (.int .u64 ((e.getD i 0 : Nat) : Int))).run Try.prog w = .ok (c.getD i 0 == e.getD i 0) w := by
      have e1 : (((c.getD i 0 : Nat) : Int) == ((e.getD i 0 : Nat) : Int)) = (c.getD i 0 == e.getD i 0) := by
        rw [Bool.eq_iff_iff]; simp only [beq_iff_eq]; omega
      generalize c.getD i 0 = x at *
      generalize e.getD i 0 = y at *
      simp [Op.equalIn, Sem.run_bind, run_underlying Try.underlying22, e1]
    simp only [Op.eqItems, Sem.run_bind, Nat.mul_one, p1, p2, p3, Result.andThen_ok, List.all_cons]
    by_cases hb : (c.getD i 0 == e.getD i 0) = true
    · simp only [hb, Bool.not_true, Bool.false_eq_true, if_false, ih, Bool.true_and]
    · simp only [Bool.not_eq_true] at hb
      simp only [hb, Bool.not_false, if_true, Sem.run_pure, Bool.false_and]

theorem cells22 : Try.prog.cellsOf 22 = 1 := by kernel_rfl

theorem all_eq (c e : List Nat) (hc : c.length = 8) (he : e.length = 8) : ((List.range 8).all fun i => c.getD i 0 == e.getD i 0) = (c == e) := by
  rw [Bool.eq_iff_iff]
  simp only [List.all_eq_true, List.mem_range, beq_iff_eq]
  constructor
  · intro h; exact ext_getD (by omega) (fun j hj => h j (by omega))
  · intro h; subst h; simp

theorem run_equal24 (c e : List Nat) (hc : c.length = 8) (he : e.length = 8) (w : World) : (Op.equal 24 (.agg (W8 c)) (.agg (W8 e))).run Try.prog w = .ok (c == e) w := by
  obtain ⟨i, hi⟩ : ∃ i, Try.prog.info? 22 = some i := by
    cases h : Try.prog.info? 22 with
    | none => have := size22; simp [h] at this
    | some i => exact ⟨i, rfl⟩
  show (Op.equalIn (9998 + 1 + 1) 24 _ _).run Try.prog w = _
  rw [run_equalIn_array w (9998 + 1) (W8 c) (W8 e) Try.underlying24 hi, cells22, run_items 9998 c e w _ (fun i h => by simp at h; omega), all_eq c e hc he]

theorem run_eql24 (c e : List Nat) (hc : c.length = 8) (he : e.length = 8) (w : World) : (binOp .eql 24 (.agg (W8 c)) (.agg (W8 e))).run Try.prog w = .ok (.bool (c == e)) w := by
  simp only [binOp]
  simp [run_equal24 c e hc he w]
theorem run_neq24 (c e : List Nat) (hc : c.length = 8) (he : e.length = 8) (w : World) : (binOp .neq 24 (.agg (W8 c)) (.agg (W8 e))).run Try.prog w = .ok (.bool (!(c == e))) w := by
  simp only [binOp]
  simp [run_equal24 c e hc he w]

/-- What the functions on bytes give, whatever the place. -/
def eR (a n : Int) : Int := if inB a n = true then 0 else 2
def bR (c : List Nat) (a n : Int) : Nat := if inB a n = true then num c a.toNat n.toNat else 0
def sR (c : List Nat) (a n : Int) : Int := if inB a n = true then sgn n.toNat (num c a.toNat n.toNat) else 0
def pR (c : List Nat) (a n : Int) (v : Nat) : List Nat := if inB a n = true then putL c a.toNat v n.toNat else List.replicate 8 0
theorem pR_length {c : List Nat} (hp : Pg c) (a n : Int) (v : Nat) : (pR c a n v).length = 8 := by
  unfold pR
  by_cases h : inB a n = true
  · rw [if_pos h]
    obtain ⟨i, m, rfl, rfl, h1, h2, h3⟩ := inB_true h
    exact (putL_pg hp _ _ _ (by simpa using h3)).1
  · rw [if_neg h]; simp

theorem bytes_all (c : List Nat) (a n : Int) (w : World) (hp : Pg c) :
    Calls Try.prog 11 #[.agg (W8 c), .int .i64 a, .int .i64 n] w fun e w' => e = .returned (.tuple #[.int .u64 ((bR c a n : Nat) : Int), .int .i64 (eR a n)]) ∧ Below w.heap.size w w' := by
  unfold bR eR
  by_cases h : inB a n = true
  · rw [if_pos h, if_pos h]
    obtain ⟨i, m, rfl, rfl, h1, h2, h3⟩ := inB_true h
    exact bytes_ok c i m w h1 h2 h3 hp.1 hp.2
  · have h' : inB a n = false := by simpa using h
    rw [if_neg h, if_neg h]
    exact bytes_bad c a n w h'

theorem rbytes_all (c : List Nat) (a n : Int) (w : World) (hp : Pg c) :
    Calls Try.prog 12 #[.agg (W8 c), .int .i64 a, .int .i64 n] w fun e w' => e = .returned (.tuple #[.int .u64 ((bR c a n : Nat) : Int), .int .i64 (eR a n)]) ∧ Below w.heap.size w w' := by
  unfold bR eR
  by_cases h : inB a n = true
  · rw [if_pos h, if_pos h]
    obtain ⟨i, m, rfl, rfl, h1, h2, h3⟩ := inB_true h
    exact rbytes_ok c i m w h1 h2 h3 hp
  · have h' : inB a n = false := by simpa using h
    rw [if_neg h, if_neg h]
    exact rbytes_bad c a n w h'

theorem signed_all (c : List Nat) (a n : Int) (w : World) (hp : Pg c) :
    Calls Try.prog 13 #[.agg (W8 c), .int .i64 a, .int .i64 n] w fun e w' => e = .returned (.tuple #[.int .i64 (sR c a n), .int .i64 (eR a n)]) ∧ Below w.heap.size w w' := by
  unfold sR eR
  by_cases h : inB a n = true
  · rw [if_pos h, if_pos h]
    obtain ⟨i, m, rfl, rfl, h1, h2, h3⟩ := inB_true h
    exact signed_ok c i m w h1 h2 h3 hp
  · have h' : inB a n = false := by simpa using h
    rw [if_neg h, if_neg h]
    exact signed_bad c a n w hp h'

theorem rsigned_all (c : List Nat) (a n : Int) (w : World) (hp : Pg c) :
    Calls Try.prog 14 #[.agg (W8 c), .int .i64 a, .int .i64 n] w fun e w' => e = .returned (.tuple #[.int .i64 (sR c a n), .int .i64 (eR a n)]) ∧ Below w.heap.size w w' := by
  unfold sR eR
  by_cases h : inB a n = true
  · rw [if_pos h, if_pos h]
    obtain ⟨i, m, rfl, rfl, h1, h2, h3⟩ := inB_true h
    exact rsigned_ok c i m w h1 h2 h3 hp
  · have h' : inB a n = false := by simpa using h
    rw [if_neg h, if_neg h]
    exact rsigned_bad c a n w hp h'

theorem put_all (c : List Nat) (a n : Int) (v : Nat) (w : World) (hp : Pg c) (hv : v < 18446744073709551616) :
    Calls Try.prog 15 #[.agg (W8 c), .int .i64 a, .int .i64 n, .int .u64 v] w fun e w' => e = .returned (.tuple #[.agg (W8 (pR c a n v)), .int .i64 (eR a n)]) ∧ Below w.heap.size w w' := by
  unfold pR eR
  by_cases h : inB a n = true
  · rw [if_pos h, if_pos h]
    obtain ⟨i, m, rfl, rfl, h1, h2, h3⟩ := inB_true h
    simp only [Int.toNat_natCast]
    rw [← putB_eq c hp i v m h3]
    exact put_ok c i m v w h1 h2 h3 hv hp
  · have h' : inB a n = false := by simpa using h
    rw [if_neg h, if_neg h]
    exact put_bad c a n v w h'

theorem rput_all (c : List Nat) (a n : Int) (v : Nat) (w : World) (hp : Pg c) (hv : v < 18446744073709551616) :
    Calls Try.prog 16 #[.agg (W8 c), .int .i64 a, .int .i64 n, .int .u64 v] w fun e w' => e = .returned (.tuple #[.agg (W8 (pR c a n v)), .int .i64 (eR a n)]) ∧ Below w.heap.size w w' := by
  unfold pR eR
  by_cases h : inB a n = true
  · rw [if_pos h, if_pos h]
    obtain ⟨i, m, rfl, rfl, h1, h2, h3⟩ := inB_true h
    simp only [Int.toNat_natCast]
    exact rput_ok c i m v w h1 h2 h3 hv hp
  · have h' : inB a n = false := by simpa using h
    rw [if_neg h, if_neg h]
    exact rput_bad c a n v w h'

end Go.Proofs.Ytbdhjiadomifeaa
