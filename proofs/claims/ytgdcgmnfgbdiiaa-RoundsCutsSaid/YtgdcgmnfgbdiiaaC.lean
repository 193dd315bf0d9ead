/- Helper facts for the statements of this seat; no statement itself. -/
import Derived.Test.YtgdcgmnfgbdiiaaB
import Derived.Outline
namespace Go.Proofs.Ytgdcgmnfgbdiiaa
open Go.RowKit
set_option linter.unusedSimpArgs false
set_option linter.unusedVariables false
set_option linter.unnecessarySimpa false

theorem left_a2 {w W : World} {g ty : Nat} {t : St} (h : W.heap[g]? = some (.cells (stC t) ty (0, 0))) (hb : But g w W) (a' : List Bool) : Left g ty { t with a := a' } w (W.setCell ⟨g, 0, none⟩ (.int .u16 (enc a'))).drew := by
  rw [stC_put0 h]
  exact ⟨setRow_heap _ _ _ _ _ _ h, (hb.trans (But.row g W _)).drew⟩
theorem left_a3 {w W : World} {g ty e : Nat} {t : St} {o : Obj} (h : W.heap[g]? = some (.cells (stC t) ty (0, 0)) ∧ W.heap[e]? = some o ∧ But g w W) (he : e ≠ g) (a' : List Bool) : (W.setCell ⟨g, 0, none⟩ (.int .u16 (enc a'))).drew.heap[g]? = some (.cells (stC { t with a := a' }) ty (0, 0)) ∧ (W.setCell ⟨g, 0, none⟩ (.int .u16 (enc a'))).drew.heap[e]? = some o ∧ But g w (W.setCell ⟨g, 0, none⟩ (.int .u16 (enc a'))).drew := by
  rw [stC_put0 h.1]
  exact ⟨setRow_heap _ _ _ _ _ _ h.1, (setRow_other _ _ _ _ he).trans h.2.1, (h.2.2.trans (But.row g W _)).drew⟩
theorem left_s2 {w W : World} {g ty : Nat} {t : St} (h : W.heap[g]? = some (.cells (stC t) ty (0, 0))) (hb : But g w W) (k : Nat) (b : Bool) : Left g ty { t with s := t.s.set k b } w (W.setCell ⟨g, 1 + k, none⟩ (.bool b)).drew := by
  rw [stC_putk h]
  exact ⟨setRow_heap _ _ _ _ _ _ h, (hb.trans (But.row g W _)).drew⟩

set_option maxRecDepth 100000 in
set_option maxHeartbeats 2000000 in
theorem ap_kind (t : St) (g ty : Nat) (k x : Int) (w : World) (hw : t.Wf) (hg : w.heap[g]? = some (.cells (stC t) ty (0, 0))) (h1 : (k == 1) = false) (h2 : (k == 2) = false) (h3 : (k == 3) = false) (h4 : (k == 4) = false) (h5 : (k == 5) = false) : Calls Try.prog 41 #[.pointer (some ⟨g, 0, none⟩), .agg #[.int .i64 k, .int .i64 x]] w fun e w' => e = .returned (.int .i64 16) ∧ Left g ty t w w' := by
  have HG := Lib.hid hg
  have hlt := lt_of_some hg
  have c0 : (w.alloc (.cells #[.int .i64 k, .int .i64 x] 37)).cell? ⟨g, 0, none⟩ = some (.int .u16 (enc t.a)) := cellA (stC_0 hg) _
  have f0 : (w.alloc (.cells #[.int .i64 k, .int .i64 x] 37)).frozen? ⟨g, 0, none⟩ = false := fr (hold1 hg _)
  have HL := Lib.hid hw
  have HA : Hid (t.a.length = 9) := hw.1
  clear hg hw
  go_enter Try.func41, Try.ntmps41
  go_wp2_with fail
  go_ret
  exact ⟨rfl, left_0 HG.out _⟩
set_option maxRecDepth 100000 in
set_option maxHeartbeats 2000000 in
theorem ap_pick (t : St) (g ty : Nat) (x : Int) (w : World) (hw : t.Wf) (hg : w.heap[g]? = some (.cells (stC t) ty (0, 0))) (h0 : 0 ≤ x) (h8 : x ≤ 8) : Calls Try.prog 41 #[.pointer (some ⟨g, 0, none⟩), .agg #[.int .i64 1, .int .i64 x]] w fun e w' => e = .returned (.int .i64 0) ∧ Left g ty t w w' := by
  have HG := Lib.hid hg
  have hlt := lt_of_some hg
  have c0 : (w.alloc (.cells #[.int .i64 1, .int .i64 x] 37)).cell? ⟨g, 0, none⟩ = some (.int .u16 (enc t.a)) := cellA (stC_0 hg) _
  have f0 : (w.alloc (.cells #[.int .i64 1, .int .i64 x] 37)).frozen? ⟨g, 0, none⟩ = false := fr (hold1 hg _)
  have HL := Lib.hid hw
  have HA : Hid (t.a.length = 9) := hw.1
  clear hg hw
  go_enter Try.func41, Try.ntmps41
  go_wp2_with fail
  go_ret
  exact ⟨rfl, left_0 HG.out _⟩
set_option maxRecDepth 100000 in
set_option maxHeartbeats 2000000 in
theorem ap_low1 (t : St) (g ty : Nat) (x : Int) (w : World) (hw : t.Wf) (hg : w.heap[g]? = some (.cells (stC t) ty (0, 0))) (h : x < 0) : Calls Try.prog 41 #[.pointer (some ⟨g, 0, none⟩), .agg #[.int .i64 1, .int .i64 x]] w fun e w' => e = .returned (.int .i64 2) ∧ Left g ty t w w' := by
  have HG := Lib.hid hg
  have hlt := lt_of_some hg
  have c0 : (w.alloc (.cells #[.int .i64 1, .int .i64 x] 37)).cell? ⟨g, 0, none⟩ = some (.int .u16 (enc t.a)) := cellA (stC_0 hg) _
  have f0 : (w.alloc (.cells #[.int .i64 1, .int .i64 x] 37)).frozen? ⟨g, 0, none⟩ = false := fr (hold1 hg _)
  have HL := Lib.hid hw
  have HA : Hid (t.a.length = 9) := hw.1
  clear hg hw
  go_enter Try.func41, Try.ntmps41
  go_wp2_with fail
  go_ret
  exact ⟨rfl, left_0 HG.out _⟩
set_option maxRecDepth 100000 in
set_option maxHeartbeats 2000000 in
theorem ap_high1 (t : St) (g ty : Nat) (x : Int) (w : World) (hw : t.Wf) (hg : w.heap[g]? = some (.cells (stC t) ty (0, 0))) (h0 : 0 ≤ x) (h : 8 < x) : Calls Try.prog 41 #[.pointer (some ⟨g, 0, none⟩), .agg #[.int .i64 1, .int .i64 x]] w fun e w' => e = .returned (.int .i64 2) ∧ Left g ty t w w' := by
  have HG := Lib.hid hg
  have hlt := lt_of_some hg
  have c0 : (w.alloc (.cells #[.int .i64 1, .int .i64 x] 37)).cell? ⟨g, 0, none⟩ = some (.int .u16 (enc t.a)) := cellA (stC_0 hg) _
  have f0 : (w.alloc (.cells #[.int .i64 1, .int .i64 x] 37)).frozen? ⟨g, 0, none⟩ = false := fr (hold1 hg _)
  have HL := Lib.hid hw
  have HA : Hid (t.a.length = 9) := hw.1
  clear hg hw
  go_enter Try.func41, Try.ntmps41
  go_wp2_with fail
  go_ret
  exact ⟨rfl, left_0 HG.out _⟩
set_option maxRecDepth 100000 in
set_option maxHeartbeats 2000000 in
theorem ap_low2 (t : St) (g ty : Nat) (x : Int) (w : World) (hw : t.Wf) (hg : w.heap[g]? = some (.cells (stC t) ty (0, 0))) (h : x < 1) : Calls Try.prog 41 #[.pointer (some ⟨g, 0, none⟩), .agg #[.int .i64 2, .int .i64 x]] w fun e w' => e = .returned (.int .i64 2) ∧ Left g ty t w w' := by
  have HG := Lib.hid hg
  have hlt := lt_of_some hg
  have c0 : (w.alloc (.cells #[.int .i64 2, .int .i64 x] 37)).cell? ⟨g, 0, none⟩ = some (.int .u16 (enc t.a)) := cellA (stC_0 hg) _
  have f0 : (w.alloc (.cells #[.int .i64 2, .int .i64 x] 37)).frozen? ⟨g, 0, none⟩ = false := fr (hold1 hg _)
  have HL := Lib.hid hw
  have HA : Hid (t.a.length = 9) := hw.1
  clear hg hw
  go_enter Try.func41, Try.ntmps41
  go_wp2_with fail
  go_ret
  exact ⟨rfl, left_0 HG.out _⟩
set_option maxRecDepth 100000 in
set_option maxHeartbeats 2000000 in
theorem ap_high2 (t : St) (g ty : Nat) (x : Int) (w : World) (hw : t.Wf) (hg : w.heap[g]? = some (.cells (stC t) ty (0, 0))) (h0 : 1 ≤ x) (h : 8 < x) : Calls Try.prog 41 #[.pointer (some ⟨g, 0, none⟩), .agg #[.int .i64 2, .int .i64 x]] w fun e w' => e = .returned (.int .i64 2) ∧ Left g ty t w w' := by
  have HG := Lib.hid hg
  have hlt := lt_of_some hg
  have c0 : (w.alloc (.cells #[.int .i64 2, .int .i64 x] 37)).cell? ⟨g, 0, none⟩ = some (.int .u16 (enc t.a)) := cellA (stC_0 hg) _
  have f0 : (w.alloc (.cells #[.int .i64 2, .int .i64 x] 37)).frozen? ⟨g, 0, none⟩ = false := fr (hold1 hg _)
  have HL := Lib.hid hw
  have HA : Hid (t.a.length = 9) := hw.1
  clear hg hw
  go_enter Try.func41, Try.ntmps41
  go_wp2_with fail
  go_ret
  exact ⟨rfl, left_0 HG.out _⟩
set_option maxRecDepth 100000 in
set_option maxHeartbeats 2000000 in
theorem ap_low3 (t : St) (g ty : Nat) (x : Int) (w : World) (hw : t.Wf) (hg : w.heap[g]? = some (.cells (stC t) ty (0, 0))) (h : x < 1) : Calls Try.prog 41 #[.pointer (some ⟨g, 0, none⟩), .agg #[.int .i64 3, .int .i64 x]] w fun e w' => e = .returned (.int .i64 2) ∧ Left g ty t w w' := by
  have HG := Lib.hid hg
  have hlt := lt_of_some hg
  have c0 : (w.alloc (.cells #[.int .i64 3, .int .i64 x] 37)).cell? ⟨g, 0, none⟩ = some (.int .u16 (enc t.a)) := cellA (stC_0 hg) _
  have f0 : (w.alloc (.cells #[.int .i64 3, .int .i64 x] 37)).frozen? ⟨g, 0, none⟩ = false := fr (hold1 hg _)
  have HL := Lib.hid hw
  have HA : Hid (t.a.length = 9) := hw.1
  clear hg hw
  go_enter Try.func41, Try.ntmps41
  go_wp2_with fail
  go_ret
  exact ⟨rfl, left_0 HG.out _⟩
set_option maxRecDepth 100000 in
set_option maxHeartbeats 2000000 in
theorem ap_high3 (t : St) (g ty : Nat) (x : Int) (w : World) (hw : t.Wf) (hg : w.heap[g]? = some (.cells (stC t) ty (0, 0))) (h0 : 1 ≤ x) (h : 8 < x) : Calls Try.prog 41 #[.pointer (some ⟨g, 0, none⟩), .agg #[.int .i64 3, .int .i64 x]] w fun e w' => e = .returned (.int .i64 2) ∧ Left g ty t w w' := by
  have HG := Lib.hid hg
  have hlt := lt_of_some hg
  have c0 : (w.alloc (.cells #[.int .i64 3, .int .i64 x] 37)).cell? ⟨g, 0, none⟩ = some (.int .u16 (enc t.a)) := cellA (stC_0 hg) _
  have f0 : (w.alloc (.cells #[.int .i64 3, .int .i64 x] 37)).frozen? ⟨g, 0, none⟩ = false := fr (hold1 hg _)
  have HL := Lib.hid hw
  have HA : Hid (t.a.length = 9) := hw.1
  clear hg hw
  go_enter Try.func41, Try.ntmps41
  go_wp2_with fail
  go_ret
  exact ⟨rfl, left_0 HG.out _⟩
set_option maxRecDepth 100000 in
set_option maxHeartbeats 2000000 in
theorem ap_low4 (t : St) (g ty : Nat) (x : Int) (w : World) (hw : t.Wf) (hg : w.heap[g]? = some (.cells (stC t) ty (0, 0))) (h : x < 0) : Calls Try.prog 41 #[.pointer (some ⟨g, 0, none⟩), .agg #[.int .i64 4, .int .i64 x]] w fun e w' => e = .returned (.int .i64 2) ∧ Left g ty t w w' := by
  have HG := Lib.hid hg
  have hlt := lt_of_some hg
  have c0 : (w.alloc (.cells #[.int .i64 4, .int .i64 x] 37)).cell? ⟨g, 0, none⟩ = some (.int .u16 (enc t.a)) := cellA (stC_0 hg) _
  have f0 : (w.alloc (.cells #[.int .i64 4, .int .i64 x] 37)).frozen? ⟨g, 0, none⟩ = false := fr (hold1 hg _)
  have HL := Lib.hid hw
  have HA : Hid (t.a.length = 9) := hw.1
  clear hg hw
  go_enter Try.func41, Try.ntmps41
  go_wp2_with fail
  go_ret
  exact ⟨rfl, left_0 HG.out _⟩
set_option maxRecDepth 100000 in
set_option maxHeartbeats 2000000 in
theorem ap_high4 (t : St) (g ty : Nat) (x : Int) (w : World) (hw : t.Wf) (hg : w.heap[g]? = some (.cells (stC t) ty (0, 0))) (h0 : 0 ≤ x) (h : 255 < x) : Calls Try.prog 41 #[.pointer (some ⟨g, 0, none⟩), .agg #[.int .i64 4, .int .i64 x]] w fun e w' => e = .returned (.int .i64 2) ∧ Left g ty t w w' := by
  have HG := Lib.hid hg
  have hlt := lt_of_some hg
  have c0 : (w.alloc (.cells #[.int .i64 4, .int .i64 x] 37)).cell? ⟨g, 0, none⟩ = some (.int .u16 (enc t.a)) := cellA (stC_0 hg) _
  have f0 : (w.alloc (.cells #[.int .i64 4, .int .i64 x] 37)).frozen? ⟨g, 0, none⟩ = false := fr (hold1 hg _)
  have HL := Lib.hid hw
  have HA : Hid (t.a.length = 9) := hw.1
  clear hg hw
  go_enter Try.func41, Try.ntmps41
  go_wp2_with fail
  go_ret
  exact ⟨rfl, left_0 HG.out _⟩
set_option maxRecDepth 100000 in
set_option maxHeartbeats 2000000 in
theorem ap_low5 (t : St) (g ty : Nat) (x : Int) (w : World) (hw : t.Wf) (hg : w.heap[g]? = some (.cells (stC t) ty (0, 0))) (h : x < 0) : Calls Try.prog 41 #[.pointer (some ⟨g, 0, none⟩), .agg #[.int .i64 5, .int .i64 x]] w fun e w' => e = .returned (.int .i64 2) ∧ Left g ty t w w' := by
  have HG := Lib.hid hg
  have hlt := lt_of_some hg
  have c0 : (w.alloc (.cells #[.int .i64 5, .int .i64 x] 37)).cell? ⟨g, 0, none⟩ = some (.int .u16 (enc t.a)) := cellA (stC_0 hg) _
  have f0 : (w.alloc (.cells #[.int .i64 5, .int .i64 x] 37)).frozen? ⟨g, 0, none⟩ = false := fr (hold1 hg _)
  have HL := Lib.hid hw
  have HA : Hid (t.a.length = 9) := hw.1
  clear hg hw
  go_enter Try.func41, Try.ntmps41
  go_wp2_with fail
  go_ret
  exact ⟨rfl, left_0 HG.out _⟩
set_option maxRecDepth 100000 in
set_option maxHeartbeats 2000000 in
theorem ap_high5 (t : St) (g ty : Nat) (x : Int) (w : World) (hw : t.Wf) (hg : w.heap[g]? = some (.cells (stC t) ty (0, 0))) (h0 : 0 ≤ x) (h : 255 < x) : Calls Try.prog 41 #[.pointer (some ⟨g, 0, none⟩), .agg #[.int .i64 5, .int .i64 x]] w fun e w' => e = .returned (.int .i64 2) ∧ Left g ty t w w' := by
  have HG := Lib.hid hg
  have hlt := lt_of_some hg
  have c0 : (w.alloc (.cells #[.int .i64 5, .int .i64 x] 37)).cell? ⟨g, 0, none⟩ = some (.int .u16 (enc t.a)) := cellA (stC_0 hg) _
  have f0 : (w.alloc (.cells #[.int .i64 5, .int .i64 x] 37)).frozen? ⟨g, 0, none⟩ = false := fr (hold1 hg _)
  have HL := Lib.hid hw
  have HA : Hid (t.a.length = 9) := hw.1
  clear hg hw
  go_enter Try.func41, Try.ntmps41
  go_wp2_with fail
  go_ret
  exact ⟨rfl, left_0 HG.out _⟩
set_option maxRecDepth 100000 in
set_option maxHeartbeats 2000000 in
theorem ap_state2 (t : St) (g ty : Nat) (x : Int) (w : World) (hw : t.Wf) (hg : w.heap[g]? = some (.cells (stC t) ty (0, 0))) (h0 : 1 ≤ x) (h8 : x ≤ 8) (hv : t.a.getD x.toNat false = true) : Calls Try.prog 41 #[.pointer (some ⟨g, 0, none⟩), .agg #[.int .i64 2, .int .i64 x]] w fun e w' => e = .returned (.int .i64 9) ∧ Left g ty t w w' := by
  have HG := Lib.hid hg
  have hlt := lt_of_some hg
  have c0 : (w.alloc (.cells #[.int .i64 2, .int .i64 x] 37)).cell? ⟨g, 0, none⟩ = some (.int .u16 (enc t.a)) := cellA (stC_0 hg) _
  have f0 : (w.alloc (.cells #[.int .i64 2, .int .i64 x] 37)).frozen? ⟨g, 0, none⟩ = false := fr (hold1 hg _)
  have HL := Lib.hid hw
  have HA : Hid (t.a.length = 9) := hw.1
  clear hg hw
  have HS := Lib.hid (fun w => has_any t.a x w HA.out (by omega) h8)
  rw [hv] at HS
  clear hv
  go_enter Try.func41, Try.ntmps41
  go_wp2_with fail
  go_quiet ((go_at_call 54; exact quiet_same (HS.out _)))
  go_wp2_with fail
  go_ret
  exact ⟨rfl, (left_0 HG.out _).drewN _⟩
set_option maxRecDepth 100000 in
set_option maxHeartbeats 2000000 in
theorem ap_state3 (t : St) (g ty : Nat) (x : Int) (w : World) (hw : t.Wf) (hg : w.heap[g]? = some (.cells (stC t) ty (0, 0))) (h0 : 1 ≤ x) (h8 : x ≤ 8) (hv : t.a.getD x.toNat false = false) : Calls Try.prog 41 #[.pointer (some ⟨g, 0, none⟩), .agg #[.int .i64 3, .int .i64 x]] w fun e w' => e = .returned (.int .i64 9) ∧ Left g ty t w w' := by
  have HG := Lib.hid hg
  have hlt := lt_of_some hg
  have c0 : (w.alloc (.cells #[.int .i64 3, .int .i64 x] 37)).cell? ⟨g, 0, none⟩ = some (.int .u16 (enc t.a)) := cellA (stC_0 hg) _
  have f0 : (w.alloc (.cells #[.int .i64 3, .int .i64 x] 37)).frozen? ⟨g, 0, none⟩ = false := fr (hold1 hg _)
  have HL := Lib.hid hw
  have HA : Hid (t.a.length = 9) := hw.1
  clear hg hw
  have HS := Lib.hid (fun w => has_any t.a x w HA.out (by omega) h8)
  rw [hv] at HS
  clear hv
  go_enter Try.func41, Try.ntmps41
  go_wp2_with fail
  go_quiet ((go_at_call 54; exact quiet_same (HS.out _)))
  go_wp2_with fail
  go_ret
  exact ⟨rfl, (left_0 HG.out _).drewN _⟩
set_option maxRecDepth 100000 in
set_option maxHeartbeats 2000000 in
theorem ap_unblock (t : St) (g ty : Nat) (x : Int) (w : World) (hw : t.Wf) (hg : w.heap[g]? = some (.cells (stC t) ty (0, 0))) (h0 : 1 ≤ x) (h8 : x ≤ 8) (hv : t.a.getD x.toNat false = true) : Calls Try.prog 41 #[.pointer (some ⟨g, 0, none⟩), .agg #[.int .i64 3, .int .i64 x]] w fun e w' => e = .returned (.int .i64 0) ∧ Left g ty { t with a := t.a.set x.toNat false } w w' := by
  have HG := Lib.hid hg
  have hlt := lt_of_some hg
  have c0 : (w.alloc (.cells #[.int .i64 3, .int .i64 x] 37)).cell? ⟨g, 0, none⟩ = some (.int .u16 (enc t.a)) := cellA (stC_0 hg) _
  have f0 : (w.alloc (.cells #[.int .i64 3, .int .i64 x] 37)).frozen? ⟨g, 0, none⟩ = false := fr (hold1 hg _)
  have HL := Lib.hid hw
  have HA : Hid (t.a.length = 9) := hw.1
  clear hg hw
  have HS := Lib.hid (fun w => has_any t.a x w HA.out (by omega) h8)
  rw [hv] at HS
  clear hv
  go_enter Try.func41, Try.ntmps41
  go_wp2_with fail
  go_quiet ((go_at_call 54; exact quiet_same (HS.out _)))
  go_wp2_with fail
  have X1 : Hid (((w.alloc (.cells #[.int .i64 3, .int .i64 x] 37)).drewN nq).heap[g]? = some (.cells (stC t) ty (0, 0)) ∧ ((w.alloc (.cells #[.int .i64 3, .int .i64 x] 37)).drewN nq).heap[w.heap.size]? = some (.cells #[.int .i64 3, .int .i64 x] 37 (0, 0)) ∧ But g w ((w.alloc (.cells #[.int .i64 3, .int .i64 x] 37)).drewN nq)) := ⟨((left_0 HG.out _).drewN nq).1, h1_0 _ _, ((left_0 HG.out _).drewN nq).2⟩
  generalize (w.alloc (.cells #[.int .i64 3, .int .i64 x] 37)).drewN nq = W1 at *
  clear c0 f0
  have c0 : W1.cell? ⟨g, 0, none⟩ = some (.int .u16 (enc t.a)) := stC_0 X1.out.1
  have f0 : W1.frozen? ⟨g, 0, none⟩ = false := fr X1.out.1
  obtain ⟨d0, d1⟩ := c2 X1.out.2.1
  go_region_law (first | (go_simp; go_at_call 55; (with_reducible refine (without_any t.a x _ HA.out (by omega) h8).mono ?_); rintro e w1 ⟨rfl, rfl⟩))
  all_goals
    have Y := Lib.hid (left_a3 X1.out (by omega) (t.a.set x.toNat false))
    generalize (W1.setCell ⟨g, 0, none⟩ (.int .u16 (enc (t.a.set x.toNat false)))).drew = W2 at *
    clear X1 c0 f0 d0 d1
    obtain ⟨d0, d1⟩ := c2 Y.out.2.1
    go_wp2_with fail
    go_ret
    exact ⟨rfl, Y.out.1, Y.out.2.2⟩
set_option maxRecDepth 100000 in
set_option maxHeartbeats 2000000 in
theorem ap_block (t : St) (g ty : Nat) (x : Int) (w : World) (hw : t.Wf) (hg : w.heap[g]? = some (.cells (stC t) ty (0, 0))) (h0 : 1 ≤ x) (h8 : x ≤ 8) (hv : t.a.getD x.toNat false = false) : Calls Try.prog 41 #[.pointer (some ⟨g, 0, none⟩), .agg #[.int .i64 2, .int .i64 x]] w fun e w' => e = .returned (.int .i64 0) ∧ Left g ty { t with a := t.a.set x.toNat true } w w' := by
  have HG := Lib.hid hg
  have hlt := lt_of_some hg
  have c0 : (w.alloc (.cells #[.int .i64 2, .int .i64 x] 37)).cell? ⟨g, 0, none⟩ = some (.int .u16 (enc t.a)) := cellA (stC_0 hg) _
  have f0 : (w.alloc (.cells #[.int .i64 2, .int .i64 x] 37)).frozen? ⟨g, 0, none⟩ = false := fr (hold1 hg _)
  have HL := Lib.hid hw
  have HA : Hid (t.a.length = 9) := hw.1
  clear hg hw
  have HT : Hid ((t.a.set x.toNat false).set x.toNat true = t.a.set x.toNat true ∧ (t.a.set x.toNat false).length = 9) := ⟨by rw [List.set_set], by rw [List.length_set]; exact HA.out⟩
  have HS := Lib.hid (fun w => has_any t.a x w HA.out (by omega) h8)
  rw [hv] at HS
  clear hv
  go_enter Try.func41, Try.ntmps41
  go_wp2_with fail
  go_quiet ((go_at_call 54; exact quiet_same (HS.out _)))
  go_wp2_with fail
  have X1 : Hid (((w.alloc (.cells #[.int .i64 2, .int .i64 x] 37)).drewN nq).heap[g]? = some (.cells (stC t) ty (0, 0)) ∧ ((w.alloc (.cells #[.int .i64 2, .int .i64 x] 37)).drewN nq).heap[w.heap.size]? = some (.cells #[.int .i64 2, .int .i64 x] 37 (0, 0)) ∧ But g w ((w.alloc (.cells #[.int .i64 2, .int .i64 x] 37)).drewN nq)) := ⟨((left_0 HG.out _).drewN nq).1, h1_0 _ _, ((left_0 HG.out _).drewN nq).2⟩
  generalize (w.alloc (.cells #[.int .i64 2, .int .i64 x] 37)).drewN nq = W1 at *
  clear c0 f0
  have c0 : W1.cell? ⟨g, 0, none⟩ = some (.int .u16 (enc t.a)) := stC_0 X1.out.1
  have f0 : W1.frozen? ⟨g, 0, none⟩ = false := fr X1.out.1
  obtain ⟨d0, d1⟩ := c2 X1.out.2.1
  go_region_law (first | (go_simp; go_at_call 55; (with_reducible refine (without_any t.a x _ HA.out (by omega) h8).mono ?_); rintro e w1 ⟨rfl, rfl⟩))
  all_goals
    have Y := Lib.hid (left_a3 X1.out (by omega) (t.a.set x.toNat false))
    generalize (W1.setCell ⟨g, 0, none⟩ (.int .u16 (enc (t.a.set x.toNat false)))).drew = W2 at *
    clear X1 c0 f0 d0 d1
    obtain ⟨d0, d1⟩ := c2 Y.out.2.1
    have c0 : W2.cell? ⟨g, 0, none⟩ = some (.int .u16 (enc (t.a.set x.toNat false))) := stC_0 (t := { t with a := t.a.set x.toNat false }) Y.out.1
    have f0 : W2.frozen? ⟨g, 0, none⟩ = false := fr Y.out.1
    go_wp2_with fail
    go_region_law (first | (go_simp; go_at_call 53; (with_reducible refine (with_any (t.a.set x.toNat false) x _ HT.out.2 (by omega) h8).mono ?_); rintro e w1 ⟨rfl, rfl⟩))
    all_goals
      go_wp2_with fail
      go_ret
      exact ⟨rfl, left_a2 (t := { t with a := t.a.set x.toNat false }) Y.out.1 Y.out.2.2 (t.a.set x.toNat true)⟩
set_option maxRecDepth 100000 in
set_option maxHeartbeats 2000000 in
theorem ap_state4 (t : St) (g ty : Nat) (x : Nat) (w : World) (hw : t.Wf) (hg : w.heap[g]? = some (.cells (stC t) ty (0, 0))) (h8 : x < 256) (hv : t.s.getD x false = true) : Calls Try.prog 41 #[.pointer (some ⟨g, 0, none⟩), .agg #[.int .i64 4, .int .i64 (x : Int)]] w fun e w' => e = .returned (.int .i64 9) ∧ Left g ty t w w' := by
  have HG := Lib.hid hg
  have hlt := lt_of_some hg
  have c0 : (w.alloc (.cells #[.int .i64 4, .int .i64 (x : Int)] 37)).cell? ⟨g, 0, none⟩ = some (.int .u16 (enc t.a)) := cellA (stC_0 hg) _
  have f0 : (w.alloc (.cells #[.int .i64 4, .int .i64 (x : Int)] 37)).frozen? ⟨g, 0, none⟩ = false := fr (hold1 hg _)
  have HL := Lib.hid hw
  have HA : Hid (t.a.length = 9) := hw.1
  clear hg hw
  have i1 : (0 : Int) ≤ (x : Int) := by omega
  have i2 : (x : Int) < 256 := by omega
  have i3 : (x : Int) ≤ 255 := by omega
  have c1 : (w.alloc (.cells #[.int .i64 4, .int .i64 (x : Int)] 37)).cell? ⟨g, 1 + x, none⟩ = some (.bool (t.s.getD x false)) := cellA (stC_k HG.out x (by rw [HL.out.2]; exact h8)) _
  rw [hv] at c1
  clear hv
  go_enter Try.func41, Try.ntmps41
  go_wp2_with fail
  go_quiet (fail)
  go_wp2_with fail
  go_ret
  exact ⟨rfl, (left_0 HG.out _).drewN _⟩
set_option maxRecDepth 100000 in
set_option maxHeartbeats 2000000 in
theorem ap_slot4 (t : St) (g ty : Nat) (x : Nat) (w : World) (hw : t.Wf) (hg : w.heap[g]? = some (.cells (stC t) ty (0, 0))) (h8 : x < 256) (hv : t.s.getD x false = false) : Calls Try.prog 41 #[.pointer (some ⟨g, 0, none⟩), .agg #[.int .i64 4, .int .i64 (x : Int)]] w fun e w' => e = .returned (.int .i64 0) ∧ Left g ty { t with s := t.s.set x true } w w' := by
  have HG := Lib.hid hg
  have hlt := lt_of_some hg
  have c0 : (w.alloc (.cells #[.int .i64 4, .int .i64 (x : Int)] 37)).cell? ⟨g, 0, none⟩ = some (.int .u16 (enc t.a)) := cellA (stC_0 hg) _
  have f0 : (w.alloc (.cells #[.int .i64 4, .int .i64 (x : Int)] 37)).frozen? ⟨g, 0, none⟩ = false := fr (hold1 hg _)
  have HL := Lib.hid hw
  have HA : Hid (t.a.length = 9) := hw.1
  clear hg hw
  have i1 : (0 : Int) ≤ (x : Int) := by omega
  have i2 : (x : Int) < 256 := by omega
  have i3 : (x : Int) ≤ 255 := by omega
  have c1 : (w.alloc (.cells #[.int .i64 4, .int .i64 (x : Int)] 37)).cell? ⟨g, 1 + x, none⟩ = some (.bool (t.s.getD x false)) := cellA (stC_k HG.out x (by rw [HL.out.2]; exact h8)) _
  rw [hv] at c1
  clear hv
  go_enter Try.func41, Try.ntmps41
  go_wp2_with fail
  go_quiet (fail)
  clear c1
  go_wp2_with fail
  have X1 : Hid (((w.alloc (.cells #[.int .i64 4, .int .i64 (x : Int)] 37)).drewN nq).heap[g]? = some (.cells (stC t) ty (0, 0)) ∧ ((w.alloc (.cells #[.int .i64 4, .int .i64 (x : Int)] 37)).drewN nq).heap[w.heap.size]? = some (.cells #[.int .i64 4, .int .i64 (x : Int)] 37 (0, 0)) ∧ But g w ((w.alloc (.cells #[.int .i64 4, .int .i64 (x : Int)] 37)).drewN nq)) := ⟨((left_0 HG.out _).drewN nq).1, h1_0 _ _, ((left_0 HG.out _).drewN nq).2⟩
  generalize (w.alloc (.cells #[.int .i64 4, .int .i64 (x : Int)] 37)).drewN nq = W1 at *
  clear c0 f0
  have c0 : W1.cell? ⟨g, 0, none⟩ = some (.int .u16 (enc t.a)) := stC_0 X1.out.1
  have f0 : W1.frozen? ⟨g, 0, none⟩ = false := fr X1.out.1
  obtain ⟨d0, d1⟩ := c2 X1.out.2.1
  have c1 : W1.cell? ⟨g, 1 + x, none⟩ = some (.bool (t.s.getD x false)) := stC_k X1.out.1 x (by rw [HL.out.2]; exact h8)
  have f1 : W1.frozen? ⟨g, 1 + x, none⟩ = false := fr X1.out.1
  go_region
  all_goals
    go_wp2_with fail
    go_ret
    exact ⟨rfl, left_s2 X1.out.1 X1.out.2.2 x true⟩
set_option maxRecDepth 100000 in
set_option maxHeartbeats 2000000 in
theorem ap_state5 (t : St) (g ty : Nat) (x : Nat) (w : World) (hw : t.Wf) (hg : w.heap[g]? = some (.cells (stC t) ty (0, 0))) (h8 : x < 256) (hv : t.s.getD x false = false) : Calls Try.prog 41 #[.pointer (some ⟨g, 0, none⟩), .agg #[.int .i64 5, .int .i64 (x : Int)]] w fun e w' => e = .returned (.int .i64 9) ∧ Left g ty t w w' := by
  have HG := Lib.hid hg
  have hlt := lt_of_some hg
  have c0 : (w.alloc (.cells #[.int .i64 5, .int .i64 (x : Int)] 37)).cell? ⟨g, 0, none⟩ = some (.int .u16 (enc t.a)) := cellA (stC_0 hg) _
  have f0 : (w.alloc (.cells #[.int .i64 5, .int .i64 (x : Int)] 37)).frozen? ⟨g, 0, none⟩ = false := fr (hold1 hg _)
  have HL := Lib.hid hw
  have HA : Hid (t.a.length = 9) := hw.1
  clear hg hw
  have i1 : (0 : Int) ≤ (x : Int) := by omega
  have i2 : (x : Int) < 256 := by omega
  have i3 : (x : Int) ≤ 255 := by omega
  have c1 : (w.alloc (.cells #[.int .i64 5, .int .i64 (x : Int)] 37)).cell? ⟨g, 1 + x, none⟩ = some (.bool (t.s.getD x false)) := cellA (stC_k HG.out x (by rw [HL.out.2]; exact h8)) _
  rw [hv] at c1
  clear hv
  go_enter Try.func41, Try.ntmps41
  go_wp2_with fail
  go_quiet (fail)
  go_wp2_with fail
  go_ret
  exact ⟨rfl, (left_0 HG.out _).drewN _⟩
set_option maxRecDepth 100000 in
set_option maxHeartbeats 2000000 in
theorem ap_slot5 (t : St) (g ty : Nat) (x : Nat) (w : World) (hw : t.Wf) (hg : w.heap[g]? = some (.cells (stC t) ty (0, 0))) (h8 : x < 256) (hv : t.s.getD x false = true) : Calls Try.prog 41 #[.pointer (some ⟨g, 0, none⟩), .agg #[.int .i64 5, .int .i64 (x : Int)]] w fun e w' => e = .returned (.int .i64 0) ∧ Left g ty { t with s := t.s.set x false } w w' := by
  have HG := Lib.hid hg
  have hlt := lt_of_some hg
  have c0 : (w.alloc (.cells #[.int .i64 5, .int .i64 (x : Int)] 37)).cell? ⟨g, 0, none⟩ = some (.int .u16 (enc t.a)) := cellA (stC_0 hg) _
  have f0 : (w.alloc (.cells #[.int .i64 5, .int .i64 (x : Int)] 37)).frozen? ⟨g, 0, none⟩ = false := fr (hold1 hg _)
  have HL := Lib.hid hw
  have HA : Hid (t.a.length = 9) := hw.1
  clear hg hw
  have i1 : (0 : Int) ≤ (x : Int) := by omega
  have i2 : (x : Int) < 256 := by omega
  have i3 : (x : Int) ≤ 255 := by omega
  have c1 : (w.alloc (.cells #[.int .i64 5, .int .i64 (x : Int)] 37)).cell? ⟨g, 1 + x, none⟩ = some (.bool (t.s.getD x false)) := cellA (stC_k HG.out x (by rw [HL.out.2]; exact h8)) _
  rw [hv] at c1
  clear hv
  go_enter Try.func41, Try.ntmps41
  go_wp2_with fail
  go_quiet (fail)
  clear c1
  go_wp2_with fail
  have X1 : Hid (((w.alloc (.cells #[.int .i64 5, .int .i64 (x : Int)] 37)).drewN nq).heap[g]? = some (.cells (stC t) ty (0, 0)) ∧ ((w.alloc (.cells #[.int .i64 5, .int .i64 (x : Int)] 37)).drewN nq).heap[w.heap.size]? = some (.cells #[.int .i64 5, .int .i64 (x : Int)] 37 (0, 0)) ∧ But g w ((w.alloc (.cells #[.int .i64 5, .int .i64 (x : Int)] 37)).drewN nq)) := ⟨((left_0 HG.out _).drewN nq).1, h1_0 _ _, ((left_0 HG.out _).drewN nq).2⟩
  generalize (w.alloc (.cells #[.int .i64 5, .int .i64 (x : Int)] 37)).drewN nq = W1 at *
  clear c0 f0
  have c0 : W1.cell? ⟨g, 0, none⟩ = some (.int .u16 (enc t.a)) := stC_0 X1.out.1
  have f0 : W1.frozen? ⟨g, 0, none⟩ = false := fr X1.out.1
  obtain ⟨d0, d1⟩ := c2 X1.out.2.1
  have c1 : W1.cell? ⟨g, 1 + x, none⟩ = some (.bool (t.s.getD x false)) := stC_k X1.out.1 x (by rw [HL.out.2]; exact h8)
  have f1 : W1.frozen? ⟨g, 1 + x, none⟩ = false := fr X1.out.1
  go_region
  all_goals
    go_wp2_with fail
    go_ret
    exact ⟨rfl, left_s2 X1.out.1 X1.out.2.2 x false⟩

def Apd (t : St) (g ty : Nat) (k x : Int) (w : World) (e : Ending) (w' : World) : Prop := e = .returned (.int .i64 (apE t k x)) ∧ Left g ty (apS t k x) w w'
theorem apd_err {t : St} {g ty : Nat} {k x r : Int} {w : World} {e : Ending} {w' : World} (hr : apE t k x = r) (h0 : r ≠ 0) (h : e = .returned (.int .i64 r) ∧ Left g ty t w w') : Apd t g ty k x w e w' := by
  have hs : apS t k x = t := by unfold apS; rw [hr, if_neg h0]
  unfold Apd
  rw [hr, hs]
  exact h
theorem apd_ok {t t' : St} {g ty : Nat} {k x : Int} {w : World} {e : Ending} {w' : World} (hr : apE t k x = 0) (hs : apS t k x = t') (h : e = .returned (.int .i64 0) ∧ Left g ty t' w w') : Apd t g ty k x w e w' := by
  unfold Apd
  rw [hr, hs]
  exact h
theorem apply_any (t : St) (g ty : Nat) (k x : Int) (w : World) (hw : t.Wf) (hg : w.heap[g]? = some (.cells (stC t) ty (0, 0))) : Calls Try.prog 41 #[.pointer (some ⟨g, 0, none⟩), .agg #[.int .i64 k, .int .i64 x]] w (Apd t g ty k x w) := by
  by_cases k1 : k = 1
  · subst k1
    by_cases hx : 0 ≤ x ∧ x ≤ 8
    · have e : apE t 1 x = 0 := by unfold apE; rw [if_pos rfl, if_pos hx]
      have s : apS t 1 x = t := by unfold apS; rw [if_pos e, if_neg (by omega), if_neg (by omega)]
      exact (ap_pick t g ty x w hw hg hx.1 hx.2).mono fun _ _ h => apd_ok e s h
    · have e : apE t 1 x = 2 := by unfold apE; rw [if_pos rfl, if_neg hx]
      by_cases h0 : x < 0
      · exact (ap_low1 t g ty x w hw hg h0).mono fun _ _ h => apd_err e (by omega) h
      · exact (ap_high1 t g ty x w hw hg (by omega) (by omega)).mono fun _ _ h => apd_err e (by omega) h
  by_cases k2 : k = 2
  · subst k2
    by_cases hx : 1 ≤ x ∧ x ≤ 8
    · cases hv : t.a.getD x.toNat false with
      | true =>
        have e : apE t 2 x = 9 := by unfold apE; rw [if_neg (by omega), if_pos (by omega), if_pos hx, hv, if_pos (by decide)]
        exact (ap_state2 t g ty x w hw hg hx.1 hx.2 hv).mono fun _ _ h => apd_err e (by omega) h
      | false =>
        have e : apE t 2 x = 0 := by unfold apE; rw [if_neg (by omega), if_pos (by omega), if_pos hx, hv, if_neg (by decide)]
        have s : apS t 2 x = { t with a := t.a.set x.toNat true } := by unfold apS; rw [if_pos e, if_pos (by omega)]; rfl
        exact (ap_block t g ty x w hw hg hx.1 hx.2 hv).mono fun _ _ h => apd_ok e s h
    · have e : apE t 2 x = 2 := by unfold apE; rw [if_neg (by omega), if_pos (by omega), if_neg hx]
      by_cases h0 : x < 1
      · exact (ap_low2 t g ty x w hw hg h0).mono fun _ _ h => apd_err e (by omega) h
      · exact (ap_high2 t g ty x w hw hg (by omega) (by omega)).mono fun _ _ h => apd_err e (by omega) h
  by_cases k3 : k = 3
  · subst k3
    by_cases hx : 1 ≤ x ∧ x ≤ 8
    · cases hv : t.a.getD x.toNat false with
      | false =>
        have e : apE t 3 x = 9 := by unfold apE; rw [if_neg (by omega), if_pos (by omega), if_pos hx, hv, if_pos (by decide)]
        exact (ap_state3 t g ty x w hw hg hx.1 hx.2 hv).mono fun _ _ h => apd_err e (by omega) h
      | true =>
        have e : apE t 3 x = 0 := by unfold apE; rw [if_neg (by omega), if_pos (by omega), if_pos hx, hv, if_neg (by decide)]
        have s : apS t 3 x = { t with a := t.a.set x.toNat false } := by unfold apS; rw [if_pos e, if_pos (by omega)]; rfl
        exact (ap_unblock t g ty x w hw hg hx.1 hx.2 hv).mono fun _ _ h => apd_ok e s h
    · have e : apE t 3 x = 2 := by unfold apE; rw [if_neg (by omega), if_pos (by omega), if_neg hx]
      by_cases h0 : x < 1
      · exact (ap_low3 t g ty x w hw hg h0).mono fun _ _ h => apd_err e (by omega) h
      · exact (ap_high3 t g ty x w hw hg (by omega) (by omega)).mono fun _ _ h => apd_err e (by omega) h
  by_cases k4 : k = 4
  · subst k4
    by_cases hx : 0 ≤ x ∧ x ≤ 255
    · obtain ⟨y, rfl⟩ := Int.eq_ofNat_of_zero_le hx.1
      have hy : y < 256 := by omega
      cases hv : t.s.getD y false with
      | true =>
        have e : apE t 4 (y : Int) = 9 := by unfold apE; rw [if_neg (by omega), if_neg (by omega), if_pos (by omega), if_pos hx, Int.toNat_natCast, hv, if_pos (by decide)]
        exact (ap_state4 t g ty y w hw hg hy hv).mono fun _ _ h => apd_err e (by omega) h
      | false =>
        have e : apE t 4 (y : Int) = 0 := by unfold apE; rw [if_neg (by omega), if_neg (by omega), if_pos (by omega), if_pos hx, Int.toNat_natCast, hv, if_neg (by decide)]
        have s : apS t 4 (y : Int) = { t with s := t.s.set y true } := by unfold apS; rw [if_pos e, if_neg (by omega), if_pos (by omega)]; rfl
        exact (ap_slot4 t g ty y w hw hg hy hv).mono fun _ _ h => apd_ok e s h
    · have e : apE t 4 x = 2 := by unfold apE; rw [if_neg (by omega), if_neg (by omega), if_pos (by omega), if_neg hx]
      by_cases h0 : x < 0
      · exact (ap_low4 t g ty x w hw hg h0).mono fun _ _ h => apd_err e (by omega) h
      · exact (ap_high4 t g ty x w hw hg (by omega) (by omega)).mono fun _ _ h => apd_err e (by omega) h
  by_cases k5 : k = 5
  · subst k5
    by_cases hx : 0 ≤ x ∧ x ≤ 255
    · obtain ⟨y, rfl⟩ := Int.eq_ofNat_of_zero_le hx.1
      have hy : y < 256 := by omega
      cases hv : t.s.getD y false with
      | false =>
        have e : apE t 5 (y : Int) = 9 := by unfold apE; rw [if_neg (by omega), if_neg (by omega), if_pos (by omega), if_pos hx, Int.toNat_natCast, hv, if_pos (by decide)]
        exact (ap_state5 t g ty y w hw hg hy hv).mono fun _ _ h => apd_err e (by omega) h
      | true =>
        have e : apE t 5 (y : Int) = 0 := by unfold apE; rw [if_neg (by omega), if_neg (by omega), if_pos (by omega), if_pos hx, Int.toNat_natCast, hv, if_neg (by decide)]
        have s : apS t 5 (y : Int) = { t with s := t.s.set y false } := by unfold apS; rw [if_pos e, if_neg (by omega), if_pos (by omega)]; rfl
        exact (ap_slot5 t g ty y w hw hg hy hv).mono fun _ _ h => apd_ok e s h
    · have e : apE t 5 x = 2 := by unfold apE; rw [if_neg (by omega), if_neg (by omega), if_pos (by omega), if_neg hx]
      by_cases h0 : x < 0
      · exact (ap_low5 t g ty x w hw hg h0).mono fun _ _ h => apd_err e (by omega) h
      · exact (ap_high5 t g ty x w hw hg (by omega) (by omega)).mono fun _ _ h => apd_err e (by omega) h
  have e : apE t k x = 16 := by unfold apE; rw [if_neg k1, if_neg (by omega), if_neg (by omega)]
  exact (ap_kind t g ty k x w hw hg (by simpa using k1) (by simpa using k2) (by simpa using k3) (by simpa using k4) (by simpa using k5)).mono fun _ _ h => apd_err e (by omega) h
end Go.Proofs.Ytgdcgmnfgbdiiaa
