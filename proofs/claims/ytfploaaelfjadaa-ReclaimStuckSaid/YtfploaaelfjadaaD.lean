/- Helper facts for the statements of this seat; no statement itself. -/
import Derived.Test.YtfploaaelfjadaaA
import Derived.Test.YtfploaaelfjadaaComK
import Derived.Outline
namespace Go.Proofs.Ytfploaaelfjadaa
open Go.RowKit
set_option linter.unusedSimpArgs false
set_option linter.unusedVariables false
set_option linter.unnecessarySimpa false

def mx (x y : Int) : Int := if y > x then y else x
theorem run_max6 (P : Program) (ts : Array TypeId) (t : TypeId) (x1 x2 x3 x4 x5 x6 : Int) (w : World) : Sem.run P (Builtin.max_ ts t #[.int .u64 x1, .int .u64 x2, .int .u64 x3, .int .u64 x4, .int .u64 x5, .int .u64 x6]) w = .ok (.int .u64 (mx (mx (mx (mx (mx x1 x2) x3) x4) x5) x6)) w := by
  simp [Builtin.max_, Builtin.max2, mx]

theorem mx_le (x y n : Int) : mx x y ≤ n ↔ x ≤ n ∧ y ≤ n := by unfold mx; split <;> omega
/-- The numbers are numbers of 64 bits. -/
def In64 (x : Int) : Prop := -9223372036854775808 ≤ x ∧ x ≤ 9223372036854775807
def W64 (t : T) : Prop := In64 t.fr ∧ In64 t.ob ∧ In64 t.ac ∧ In64 t.ia ∧ In64 t.tg ∧ In64 t.sl ∧ In64 t.wr ∧ In64 t.op ∧ In64 t.rm
theorem u_le {x n : Int} (h : In64 x) (h0 : 0 ≤ n) (hn : n ≤ 65535) : IntKind.u64.wrap x ≤ n ↔ 0 ≤ x ∧ x ≤ n := by
  unfold In64 at h
  have e : IntKind.u64.wrap x = x % 18446744073709551616 := by simp [IntKind.wrap, IntKind.signed, IntKind.bits]
  rw [e]
  omega
/-- Check's number, in the words of the code. -/
def ckU (a b : Int) (t : T) : Int := if a ≤ 256 ∧ (0 ≤ t.mn ∧ t.mn < t.lo ∧ t.lo < t.hi ∧ t.hi ≤ 256) ∧ (1 ≤ t.cp ∧ t.cp ≤ 16 ∧ IntKind.u64.wrap t.wr ≤ t.cp) ∧ b ≤ 32 then (if t.rf = true ∧ t.ia = 0 then 3 else 0) else 2
theorem chk_u (t : T) (h : W64 t) : chk t = ckU (mx (mx (mx (mx (mx (IntKind.u64.wrap t.fr) (IntKind.u64.wrap t.ob)) (IntKind.u64.wrap t.ac)) (IntKind.u64.wrap t.ia)) (IntKind.u64.wrap t.tg)) (IntKind.u64.wrap t.sl)) (if IntKind.u64.wrap t.op < IntKind.u64.wrap t.rm then IntKind.u64.wrap t.rm else IntKind.u64.wrap t.op) t := by
  obtain ⟨h1, h2, h3, h4, h5, h6, h7, h8, h9⟩ := h
  have e2 : (if IntKind.u64.wrap t.op < IntKind.u64.wrap t.rm then IntKind.u64.wrap t.rm else IntKind.u64.wrap t.op) = mx (IntKind.u64.wrap t.op) (IntKind.u64.wrap t.rm) := rfl
  unfold ckU chk
  rw [e2]
  simp only [mx_le, u_le h1 (show (0:Int) ≤ 256 by omega) (by omega), u_le h2 (show (0:Int) ≤ 256 by omega) (by omega), u_le h3 (show (0:Int) ≤ 256 by omega) (by omega), u_le h4 (show (0:Int) ≤ 256 by omega) (by omega), u_le h5 (show (0:Int) ≤ 256 by omega) (by omega), u_le h6 (show (0:Int) ≤ 256 by omega) (by omega), u_le h8 (show (0:Int) ≤ 32 by omega) (by omega), u_le h9 (show (0:Int) ≤ 32 by omega) (by omega)]
  have e3 : (1 ≤ t.cp ∧ t.cp ≤ 16 ∧ IntKind.u64.wrap t.wr ≤ t.cp) ↔ (1 ≤ t.cp ∧ t.cp ≤ 16 ∧ 0 ≤ t.wr ∧ t.wr ≤ t.cp) := by
    constructor
    · intro ⟨a, b, c⟩; exact ⟨a, b, (u_le h7 (by omega) (by omega)).1 c⟩
    · intro ⟨a, b, c⟩; exact ⟨a, b, (u_le h7 (by omega) (by omega)).2 c⟩
  simp only [e3]
  have e5 : (if ck5 t = true then (0 : Int) else 3) = if t.rf = true ∧ t.ia = 0 then 3 else 0 := by
    unfold ck5
    cases t.rf <;> by_cases hi : t.ia = 0 <;> simp [hi]
  rw [e5]
  have e6 : ((ck1 t && ck2 t && ck3 t && ck4 t) = true) ↔ ((((((0 ≤ t.fr ∧ t.fr ≤ 256) ∧ 0 ≤ t.ob ∧ t.ob ≤ 256) ∧ 0 ≤ t.ac ∧ t.ac ≤ 256) ∧ 0 ≤ t.ia ∧ t.ia ≤ 256) ∧ 0 ≤ t.tg ∧ t.tg ≤ 256) ∧ 0 ≤ t.sl ∧ t.sl ≤ 256) ∧ (0 ≤ t.mn ∧ t.mn < t.lo ∧ t.lo < t.hi ∧ t.hi ≤ 256) ∧ (1 ≤ t.cp ∧ t.cp ≤ 16 ∧ 0 ≤ t.wr ∧ t.wr ≤ t.cp) ∧ (0 ≤ t.op ∧ t.op ≤ 32) ∧ 0 ≤ t.rm ∧ t.rm ≤ 32 := by
    unfold ck1 ck2 ck3 ck4
    simp only [Bool.and_eq_true, decide_eq_true_eq]
    constructor
    · rintro ⟨⟨⟨⟨a, b, c, d, e, f⟩, g⟩, i⟩, j⟩; exact ⟨⟨⟨⟨⟨⟨a, b⟩, c⟩, d⟩, e⟩, f⟩, g, i, j⟩
    · rintro ⟨⟨⟨⟨⟨⟨a, b⟩, c⟩, d⟩, e⟩, f⟩, g, i, j⟩; exact ⟨⟨⟨⟨a, b, c, d, e, f⟩, g⟩, i⟩, j⟩
  simp only [e6]

set_option maxRecDepth 100000 in
set_option maxHeartbeats 2000000 in
theorem check_any (t : T) (w : World) (h : W64 t) : Calls Try.prog 11 #[TV t] w fun e w' => e = .returned (.int .i64 (chk t)) ∧ Below w.heap.size w w' := by
  have HR := Lib.hid (chk_u t h)
  generalize chk t = r at *
  clear h
  have hm := run_max6 Try.prog #[49, 49, 49, 49, 49, 49] 49
  go_enter Try.func11, Try.ntmps11
  go_wp2_with fail
  all_goals
    clear hm
    go_ret
    refine ⟨ret_int ?_, ((Below.refl _ _).alloc (Nat.le_refl _) _)⟩
    rw [HR.out]
    clear HR
    unfold ckU
    generalize mx _ _ = A at *
    generalize (if IntKind.u64.wrap t.op < IntKind.u64.wrap t.rm then IntKind.u64.wrap t.rm else IntKind.u64.wrap t.op) = B at *
    generalize IntKind.u64.wrap t.wr = C at *
    first
      | (rw [if_neg (by omega)]; done)
      | (rw [if_pos (by omega), if_pos ⟨‹_›, beq_iff_eq.1 ‹_›⟩]; done)
      | (rw [if_pos (by omega), if_neg (fun hh => by simp_all)]; done)
      | trace_state
end Go.Proofs.Ytfploaaelfjadaa
