/- Helper facts for the statements of this seat; no statement itself. -/
import Derived.Test.YtgdcgmnfgbdiiaaA
import Derived.Deep.RegionLaw
import Derived.StillTailTactics
import Derived.Outline
namespace Go.Proofs.Ytgdcgmnfgbdiiaa
open Go.RowKit
set_option linter.unusedSimpArgs false
set_option linter.unusedVariables false
set_option linter.unnecessarySimpa false

/-- The cells of a state. -/
def stC (t : St) : Array Value := (Value.int .u16 (enc t.a) :: t.s.map Value.bool).toArray
theorem stC_size {t : St} (h : t.Wf) : (stC t).size = 257 := by simp [stC, h.2]
theorem stC_one (t : St) : (stC t).all (·.oneCell') = true := by
  simp [stC, Value.oneCell', Array.all_eq_true]
theorem stC_0 {w : World} {g ty : Nat} {t : St} (h : w.heap[g]? = some (.cells (stC t) ty (0, 0))) : w.cell? ⟨g, 0, none⟩ = some (.int .u16 (enc t.a)) := setRow_cell h (by simp [stC])
theorem stC_k {w : World} {g ty : Nat} {t : St} (h : w.heap[g]? = some (.cells (stC t) ty (0, 0))) (k : Nat) (hk : k < t.s.length) : w.cell? ⟨g, 1 + k, none⟩ = some (.bool (t.s.getD k false)) := by
  refine setRow_cell h ?_
  rw [Nat.add_comm]
  simp [stC, List.getD, hk]
theorem stC_put0 {w : World} {g ty : Nat} {t : St} (h : w.heap[g]? = some (.cells (stC t) ty (0, 0))) (a' : List Bool) : w.setCell ⟨g, 0, none⟩ (.int .u16 (enc a')) = w.setRow g (stC { t with a := a' }) := by
  rw [setCell_eq_setRow w g 0 _ ty (0, 0) _ h]
  simp [stC]
theorem stC_putk {w : World} {g ty : Nat} {t : St} (h : w.heap[g]? = some (.cells (stC t) ty (0, 0))) (k : Nat) (b : Bool) : w.setCell ⟨g, 1 + k, none⟩ (.bool b) = w.setRow g (stC { t with s := t.s.set k b }) := by
  rw [setCell_eq_setRow w g (1 + k) _ ty (0, 0) _ h, Nat.add_comm]
  simp [stC, List.map_set]
/-- What a method of a state leaves. -/
def Left (g ty : Nat) (t : St) (w w' : World) : Prop := w'.heap[g]? = some (.cells (stC t) ty (0, 0)) ∧ But g w w'

theorem left_a {w : World} {g ty : Nat} {t : St} (h : w.heap[g]? = some (.cells (stC t) ty (0, 0))) (a' : List Bool) (o : Obj) : Left g ty { t with a := a' } w ((w.setCell ⟨g, 0, none⟩ (.int .u16 (enc a'))).alloc o).drew := by
  rw [stC_put0 h]
  exact ⟨hold1 (setRow_heap _ _ _ _ _ _ h) _, ((But.row g w _).alloc _).drew⟩
theorem left_s {w : World} {g ty : Nat} {t : St} (h : w.heap[g]? = some (.cells (stC t) ty (0, 0))) (k : Nat) (b : Bool) (o : Obj) : Left g ty { t with s := t.s.set k b } w ((w.setCell ⟨g, 1 + k, none⟩ (.bool b)).alloc o).drew := by
  rw [stC_putk h]
  exact ⟨hold1 (setRow_heap _ _ _ _ _ _ h) _, ((But.row g w _).alloc _).drew⟩
theorem left_0 {w : World} {g ty : Nat} {t : St} (h : w.heap[g]? = some (.cells (stC t) ty (0, 0))) (o : Obj) : Left g ty t w (w.alloc o) := ⟨hold1 h _, (But.refl g w).alloc _⟩
theorem Left.drew {w w' : World} {g ty : Nat} {t : St} (h : Left g ty t w w') : Left g ty t w w'.drew := ⟨h.1, h.2.drew⟩
theorem Left.drewN {w w' : World} {g ty : Nat} {t : St} (h : Left g ty t w w') (n : Nat) : Left g ty t w (w'.drewN n) := ⟨h.1, h.2.trans (But.of (bdrewN (Below.refl _ _) n))⟩

set_option maxRecDepth 100000 in
set_option maxHeartbeats 1000000 in
theorem pay1 (t : St) (g ty : Nat) (x : Int) (w : World) (hw : t.Wf) (hg : w.heap[g]? = some (.cells (stC t) ty (0, 0))) (h0 : 0 ≤ x) (h8 : x ≤ 8) : Calls Try.prog 51 #[.pointer (some ⟨g, 0, none⟩), .agg #[.int .i64 1, .int .i64 x]] w fun e w' => (∃ v, e = .returned v) ∧ Left g ty { t with a := t.a.set x.toNat false } w w' := by
  have HG := Lib.hid hg
  have hlt := lt_of_some hg
  have c0 : (w.alloc (.cells #[.int .i64 1, .int .i64 x] 37)).cell? ⟨g, 0, none⟩ = some (.int .u16 (enc t.a)) := cellA (stC_0 hg) _
  have f0 : (w.alloc (.cells #[.int .i64 1, .int .i64 x] 37)).frozen? ⟨g, 0, none⟩ = false := fr (hold1 hg _)
  have HL := Lib.hid hw
  have HA : Hid (t.a.length = 9) := hw.1
  clear hg hw
  go_enter Try.func51, Try.ntmps51
  go_wp2_with fail
  go_region_law (first | (go_simp; go_at_call 55; (with_reducible refine (without_any t.a x _ HA.out (by omega) h8).mono ?_); rintro e w1 ⟨rfl, rfl⟩))
  all_goals
    go_wp2_with fail
    go_end0
    exact ⟨⟨_, rfl⟩, left_a HG.out _ _⟩
set_option maxRecDepth 100000 in
set_option maxHeartbeats 1000000 in
theorem pay3 (t : St) (g ty : Nat) (x : Int) (w : World) (hw : t.Wf) (hg : w.heap[g]? = some (.cells (stC t) ty (0, 0))) (h0 : 0 ≤ x) (h8 : x ≤ 8) : Calls Try.prog 51 #[.pointer (some ⟨g, 0, none⟩), .agg #[.int .i64 3, .int .i64 x]] w fun e w' => (∃ v, e = .returned v) ∧ Left g ty { t with a := t.a.set x.toNat false } w w' := by
  have HG := Lib.hid hg
  have hlt := lt_of_some hg
  have c0 : (w.alloc (.cells #[.int .i64 3, .int .i64 x] 37)).cell? ⟨g, 0, none⟩ = some (.int .u16 (enc t.a)) := cellA (stC_0 hg) _
  have f0 : (w.alloc (.cells #[.int .i64 3, .int .i64 x] 37)).frozen? ⟨g, 0, none⟩ = false := fr (hold1 hg _)
  have HL := Lib.hid hw
  have HA : Hid (t.a.length = 9) := hw.1
  clear hg hw
  go_enter Try.func51, Try.ntmps51
  go_wp2_with fail
  go_region_law (first | (go_simp; go_at_call 55; (with_reducible refine (without_any t.a x _ HA.out (by omega) h8).mono ?_); rintro e w1 ⟨rfl, rfl⟩))
  all_goals
    go_wp2_with fail
    go_end0
    exact ⟨⟨_, rfl⟩, left_a HG.out _ _⟩
set_option maxRecDepth 100000 in
set_option maxHeartbeats 1000000 in
theorem pay5 (t : St) (g ty : Nat) (x : Nat) (w : World) (hw : t.Wf) (hg : w.heap[g]? = some (.cells (stC t) ty (0, 0))) (h8 : x < 256) : Calls Try.prog 51 #[.pointer (some ⟨g, 0, none⟩), .agg #[.int .i64 5, .int .i64 (x : Int)]] w fun e w' => (∃ v, e = .returned v) ∧ Left g ty { t with s := t.s.set x false } w w' := by
  have HG := Lib.hid hg
  have hlt := lt_of_some hg
  have c0 : (w.alloc (.cells #[.int .i64 5, .int .i64 x] 37)).cell? ⟨g, 0, none⟩ = some (.int .u16 (enc t.a)) := cellA (stC_0 hg) _
  have f0 : (w.alloc (.cells #[.int .i64 5, .int .i64 x] 37)).frozen? ⟨g, 0, none⟩ = false := fr (hold1 hg _)
  have HL := Lib.hid hw
  have HA : Hid (t.a.length = 9) := hw.1
  clear hg hw
  have i1 : (0 : Int) ≤ (x : Int) := by omega
  have i2 : (x : Int) < 256 := by omega
  have c1 : (w.alloc (.cells #[.int .i64 5, .int .i64 x] 37)).cell? ⟨g, 1 + x, none⟩ = some (.bool (t.s.getD x false)) := cellA (stC_k HG.out x (by rw [HL.out.2]; exact h8)) _
  have f1 : (w.alloc (.cells #[.int .i64 5, .int .i64 x] 37)).frozen? ⟨g, 1 + x, none⟩ = false := fr (hold1 HG.out _)
  go_enter Try.func51, Try.ntmps51
  go_wp2_with fail
  go_region
  all_goals
    go_wp2_with fail
    go_end0
    exact ⟨⟨_, rfl⟩, left_s HG.out _ _ _⟩
set_option maxRecDepth 100000 in
set_option maxHeartbeats 1000000 in
theorem pay2 (t : St) (g ty : Nat) (x : Int) (w : World) (hw : t.Wf) (hg : w.heap[g]? = some (.cells (stC t) ty (0, 0))) : Calls Try.prog 51 #[.pointer (some ⟨g, 0, none⟩), .agg #[.int .i64 2, .int .i64 x]] w fun e w' => (∃ v, e = .returned v) ∧ Left g ty t w w' := by
  have HG := Lib.hid hg
  have hlt := lt_of_some hg
  have c0 : (w.alloc (.cells #[.int .i64 2, .int .i64 x] 37)).cell? ⟨g, 0, none⟩ = some (.int .u16 (enc t.a)) := cellA (stC_0 hg) _
  have f0 : (w.alloc (.cells #[.int .i64 2, .int .i64 x] 37)).frozen? ⟨g, 0, none⟩ = false := fr (hold1 hg _)
  have HL := Lib.hid hw
  have HA : Hid (t.a.length = 9) := hw.1
  clear hg hw
  go_enter Try.func51, Try.ntmps51
  go_wp2_with fail
  go_end0
  exact ⟨⟨_, rfl⟩, left_0 HG.out _⟩
set_option maxRecDepth 100000 in
set_option maxHeartbeats 1000000 in
theorem pay4 (t : St) (g ty : Nat) (x : Int) (w : World) (hw : t.Wf) (hg : w.heap[g]? = some (.cells (stC t) ty (0, 0))) : Calls Try.prog 51 #[.pointer (some ⟨g, 0, none⟩), .agg #[.int .i64 4, .int .i64 x]] w fun e w' => (∃ v, e = .returned v) ∧ Left g ty t w w' := by
  have HG := Lib.hid hg
  have hlt := lt_of_some hg
  have c0 : (w.alloc (.cells #[.int .i64 4, .int .i64 x] 37)).cell? ⟨g, 0, none⟩ = some (.int .u16 (enc t.a)) := cellA (stC_0 hg) _
  have f0 : (w.alloc (.cells #[.int .i64 4, .int .i64 x] 37)).frozen? ⟨g, 0, none⟩ = false := fr (hold1 hg _)
  have HL := Lib.hid hw
  have HA : Hid (t.a.length = 9) := hw.1
  clear hg hw
  go_enter Try.func51, Try.ntmps51
  go_wp2_with fail
  go_end0
  exact ⟨⟨_, rfl⟩, left_0 HG.out _⟩
end Go.Proofs.Ytgdcgmnfgbdiiaa
