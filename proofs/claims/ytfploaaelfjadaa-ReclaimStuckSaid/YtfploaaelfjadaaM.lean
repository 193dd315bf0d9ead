/- Helper facts for the statements of this seat; no statement itself. -/
import Derived.Test.YtfploaaelfjadaaL
import Derived.Test.YtfploaaelfjadaaGB
import Derived.Test.YtfploaaelfjadaaGC
import Derived.Outline
namespace Go.Proofs.Ytfploaaelfjadaa
open Go.RowKit
set_option linter.unusedSimpArgs false
set_option linter.unusedVariables false
set_option linter.unnecessarySimpa false

section
variable {ops : Array Oper} {rest : List Oper} {o : Oper} {a : Act} {w : World} {Q : Exit → Act → World → Prop}
/-- A whole tally loaded, and stored into the block that was made last. -/
theorem ldT (hgd : o.guard = none) (x : Operand) (ho : o.op = .load 23 x) (g : Nat) (hx : a.eval x = .pointer (some ⟨g, 0, none⟩)) (t : T) (ty : TypeId) (hg : Hid (w.heap[g]? = some (.cells (tC t) ty (0, 0))))
    (h : wpList Try.prog ops Q rest (a.put o.dst (TV t)) w) : wpList Try.prog ops Q (o :: rest) a w :=
  wpList_load_row hgd 23 x ho g hx ty (tC t) (0, 0) _ hg.out Try.underlying23 rfl size23 h
theorem stTn {W : World} {old : Array Value} {ty : TypeId} (hgd : o.guard = none) (x y : Operand) (ho : o.op = .store 23 x y) (t : T) (hx : a.eval x = .pointer (some ⟨W.heap.size, 0, none⟩)) (hy : a.eval y = TV t) (hd : old.size = 15)
    (h : wpList Try.prog ops Q rest (a.put o.dst undef) (W.alloc (.cells (tC t) ty))) : wpList Try.prog ops Q (o :: rest) a (W.alloc (.cells old ty)) :=
  wpList_store_row hgd 23 x y ho W.heap.size (tC t) hx hy ty old (h1_0 _ _) size23 (by rw [hd]; rfl) (tC_one t) (by rw [World.setRow_alloc_new]; exact h)
end
/-- The chapter's tally. -/
def shT : T := ⟨5, 5, 8, 12, false, 0, 3, 2, 2, false, 0, 2, 0, 4, 9⟩
theorem w64_of {t : T} (h : Ok t) : W64 t := by
  unfold W64 In64
  have h1 := h.fr
  have h2 := h.ob
  have h3 := h.ac
  have h4 := h.ia
  have h5 := h.tg
  have h6 := h.sl
  have h7 := h.wr
  have h8 := h.cp
  have h9 := h.op
  have h10 := h.rm
  omega
theorem okS {t : T} (h : chk t = 0) : W64 t := w64_of (chk_ok h)
set_option maxRecDepth 100000 in
set_option maxHeartbeats 1000000 in
theorem shown_any (w : World) : Calls Try.prog 29 #[] w fun e w' => e = .returned (TV shT) ∧ Below w.heap.size w w' := by
  go_enter Try.func29, Try.ntmps29
  go_wp2
  exact bodyPost_ret (v := TV shT) (by simp [results, Try.results29, go_sem, shT]) rfl ⟨rfl, ((Below.refl _ _).alloc (Nat.le_refl _) _)⟩

set_option maxRecDepth 100000 in
set_option maxHeartbeats 1000000 in
theorem direct_yes (t : T) (k : Int) (w : World) (hc : chk t = 0) (h1 : dir t = k) : Calls Try.prog 32 #[TV t, .int .i64 k] w fun e w' => e = .returned (.bool true) ∧ Below w.heap.size w w' := by
  have H1 : Hid (drL t = k ∧ chk t = 0 ∧ W64 t) := ⟨by unfold drL; rw [if_pos hc, h1], hc, okS hc⟩
  clear h1 hc
  have hk : (k == k) = true := beq_self_eq_true k
  go_enter Try.func32, Try.ntmps32
  go_wp2_with fail
  refine (pDirect_any t _ H1.out.2.2).mono ?_
  rintro e w1 ⟨rfl, hb⟩
  rw [H1.out.1, H1.out.2.1]
  have B1 := Lib.hid (bfirst _ _ hb).2
  clear hb
  go_wp2_with fail
  go_ret
  exact ⟨rfl, B1.out⟩
set_option maxRecDepth 100000 in
set_option maxHeartbeats 1000000 in
theorem back_yes (t : T) (k : Int) (w : World) (hc : chk t = 0) (h1 : bgd t = k) : Calls Try.prog 30 #[TV t, .int .i64 k] w fun e w' => e = .returned (.bool true) ∧ Below w.heap.size w w' := by
  have H1 : Hid (bgL t = k ∧ chk t = 0 ∧ W64 t) := ⟨by unfold bgL; rw [if_pos hc, h1], hc, okS hc⟩
  clear h1 hc
  have hk : (k == k) = true := beq_self_eq_true k
  go_enter Try.func30, Try.ntmps30
  go_wp2_with fail
  refine (pBack_any t _ H1.out.2.2).mono ?_
  rintro e w1 ⟨rfl, hb⟩
  rw [H1.out.1, H1.out.2.1]
  have B1 := Lib.hid (bfirst _ _ hb).2
  clear hb
  go_wp2_with fail
  go_ret
  exact ⟨rfl, B1.out⟩
end Go.Proofs.Ytfploaaelfjadaa
