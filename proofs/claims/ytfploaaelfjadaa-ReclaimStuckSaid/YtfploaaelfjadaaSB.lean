/- Helper facts for the statements of this seat; no statement itself. -/
import Derived.Test.YtfploaaelfjadaaSA
import Derived.Outline
namespace Go.Proofs.Ytfploaaelfjadaa
open Go.RowKit
set_option linter.unusedSimpArgs false
set_option linter.unusedVariables false
set_option linter.unnecessarySimpa false

theorem setRow_alloc_lt (W : World) (o : Obj) (g : Nat) (cs : Array Value) (hg : g < W.heap.size) : (W.alloc o).setRow g cs = (W.setRow g cs).alloc o := by
  simp only [World.setRow, World.alloc]
  congr 1
  apply Array.ext_getElem?
  intro i
  rw [Array.getElem?_modify, Array.getElem?_push, Array.getElem?_push, Array.getElem?_modify, Array.size_modify]
  by_cases h : i = W.heap.size
  · subst h
    rw [if_pos rfl, if_neg (by omega), if_pos rfl]
  · rw [if_neg h, if_neg h]
section
variable {ops : Array Oper} {rest : List Oper} {o : Oper} {a : Act} {w : World} {Q : Exit → Act → World → Prop}
/-- A tally stored into the first, the second, the third of three new blocks. -/
theorem st3a {W : World} {old : Array Value} {ty : TypeId} {o1 o2 : Obj} (hgd : o.guard = none) (x y : Operand) (ho : o.op = .store 23 x y) (t : T) (hx : a.eval x = .pointer (some ⟨W.heap.size, 0, none⟩)) (hy : a.eval y = TV t) (hd : old.size = 15)
    (h : wpList Try.prog ops Q rest (a.put o.dst undef) (((W.alloc (.cells (tC t) ty)).alloc o1).alloc o2)) : wpList Try.prog ops Q (o :: rest) a (((W.alloc (.cells old ty)).alloc o1).alloc o2) :=
  wpList_store_row hgd 23 x y ho W.heap.size (tC t) hx hy ty old (h3_0 _ _ _ _) size23 (by rw [hd]; rfl) (tC_one t) (by rw [setRow_alloc_lt _ _ _ _ (by simp only [World.size_alloc] <;> omega), setRow_alloc_lt _ _ _ _ (by simp only [World.size_alloc] <;> omega), World.setRow_alloc_new]; exact h)
theorem st3b {W : World} {old : Array Value} {ty : TypeId} {o0 o2 : Obj} (hgd : o.guard = none) (x y : Operand) (ho : o.op = .store 23 x y) (t : T) (hx : a.eval x = .pointer (some ⟨W.heap.size + 1, 0, none⟩)) (hy : a.eval y = TV t) (hd : old.size = 15)
    (h : wpList Try.prog ops Q rest (a.put o.dst undef) (((W.alloc o0).alloc (.cells (tC t) ty)).alloc o2)) : wpList Try.prog ops Q (o :: rest) a (((W.alloc o0).alloc (.cells old ty)).alloc o2) :=
  wpList_store_row hgd 23 x y ho (W.heap.size + 1) (tC t) hx hy ty old (h3_1 _ _ _ _) size23 (by rw [hd]; rfl) (tC_one t) (by
    rw [setRow_alloc_lt _ _ _ _ (by simp only [World.size_alloc] <;> omega)]
    have := World.setRow_alloc_new (W.alloc o0) old (tC t) ty
    rw [World.size_alloc] at this
    rw [this]; exact h)
theorem st3c {W : World} {old : Array Value} {ty : TypeId} {o0 o1 : Obj} (hgd : o.guard = none) (x y : Operand) (ho : o.op = .store 23 x y) (t : T) (hx : a.eval x = .pointer (some ⟨W.heap.size + 1 + 1, 0, none⟩)) (hy : a.eval y = TV t) (hd : old.size = 15)
    (h : wpList Try.prog ops Q rest (a.put o.dst undef) (((W.alloc o0).alloc o1).alloc (.cells (tC t) ty))) : wpList Try.prog ops Q (o :: rest) a (((W.alloc o0).alloc o1).alloc (.cells old ty)) :=
  wpList_store_row hgd 23 x y ho (W.heap.size + 1 + 1) (tC t) hx hy ty old (h3_2 _ _ _ _) size23 (by rw [hd]; rfl) (tC_one t) (by
    have := World.setRow_alloc_new ((W.alloc o0).alloc o1) old (tC t) ty
    rw [World.size_alloc, World.size_alloc] at this
    rw [this]; exact h)
end
theorem isIntsL {W : World} {g : Nat} {t : TypeId} (l : List Int) (hl : l.length ≤ 4294967296) (h : W.heap[g]? = some (.cells (l.map (Value.int .i64)).toArray t (0, 0))) : IsInts W (.slice (some ⟨g, 0, none⟩) l.length l.length) l :=
  ⟨_, _, _, rfl, rfl, hl, .inr ⟨g, 0, rfl, fun k hk => by
    refine setRow_cell h ?_
    simp [List.getD, hk]⟩⟩
def kA : T := { shT with aw := true, tg := 3 }
def kB : T := { shT with aw := true, rf := true }
def kC : T := { shT with aw := true, ob := 1 }
def kF : T := { shT with ob := 5 }
def kX : T := { shT with sl := 0 }
def kY : T := { shT with sl := 0, wr := 1 }
def kZ : T := { shT with sl := 0, op := 1 }
def kY2 : T := { shT with sl := 0, wr := 2 }
theorem kfacts : (chk kA = 0 ∧ bgd kA = 2) ∧ (chk kB = 0 ∧ bgd kB = 3) ∧ (chk kC = 0 ∧ bgd kC = 1) ∧ (chk kF = 0 ∧ sh kF + wt kF = 4) ∧ (chk kX = 0 ∧ dir kX = 6) ∧ (chk kY = 0 ∧ dir kY = 5) ∧ (chk kZ = 0 ∧ dir kZ = 5) ∧ (chk kY2 = 0 ∧ hnd kY2 = [2, 4]) := by decide +kernel
theorem kplans : planL shT 4 = [4, 4, 5, 5] ∧ planL kF 3 = [1, 1, 4] := by decide +kernel
theorem kafter : afE shT 4 = 0 ∧ afE shT 1 = 3 ∧ afE shT 6 = 2 := by decide +kernel
theorem kafter2 : (afR shT 4).ia = 1 ∧ (afR shT 4).rm = 3 ∧ (afR shT 4).sl = 8 ∧ (afR shT 4).wr = 1 ∧ (afR shT 4).ac = 3 := by decide +kernel
theorem kwakes : (chk { shT with fr := 8, aw := false } = 0 ∧ wks { shT with fr := 8, aw := false } = false) ∧ (chk { shT with fr := 8, aw := true } = 0 ∧ wks { shT with fr := 8, aw := true } = true) ∧ (chk { shT with fr := 12, aw := true } = 0 ∧ wks { shT with fr := 12, aw := true } = false) := by decide +kernel
theorem kstuck : skL shT = false := by decide +kernel
theorem ksteps : spL kF = 4 := by
  have h := kfacts.2.2.2.1
  have := stpL_eq (chk_ok h.1)
  unfold spL
  rw [if_pos h.1]
  omega
theorem khind : hnL kY2 = [2, 4] := by decide +kernel
end Go.Proofs.Ytfploaaelfjadaa
