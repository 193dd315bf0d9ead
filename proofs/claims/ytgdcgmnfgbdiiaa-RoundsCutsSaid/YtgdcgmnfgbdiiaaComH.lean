/- Helper facts for the statements of this seat; no statement itself. -/
import Derived.Test.YtgdcgmnfgbdiiaaComI
namespace Go.Proofs.Ytgdcgmnfgbdiiaa
open Go.RowKit
set_option linter.unusedSimpArgs false
set_option linter.unusedVariables false
set_option linter.unnecessarySimpa false

/-- Blocks of cells that a world holds, newest first. -/
def HB : List (Nat × Array Value × TypeId) → World → Prop
  | [], _ => True
  | x :: L, W => W.heap[x.1]? = some (.cells x.2.1 x.2.2 (0, 0)) ∧ HB L W
theorem HB.keep {L : List (Nat × Array Value × TypeId)} {W W' : World} (h : HB L W) (hb : Below W.heap.size W W') : HB L W' := by
  induction L with
  | nil => trivial
  | cons x L ih => exact ⟨bkeep hb h.1, ih h.2⟩
theorem HB.alloc {L : List (Nat × Array Value × TypeId)} {W : World} (h : HB L W) (o : Obj) : HB L (W.alloc o) := by
  induction L with
  | nil => trivial
  | cons x L ih => exact ⟨hold1 h.1 o, ih h.2⟩
theorem HB.drew {L : List (Nat × Array Value × TypeId)} {W : World} (h : HB L W) : HB L W.drew := by
  induction L with
  | nil => trivial
  | cons x L ih => exact ⟨h.1, ih h.2⟩
theorem HB.push {L : List (Nat × Array Value × TypeId)} {W : World} (h : HB L W) (cs : Array Value) (t : TypeId) : HB ((W.heap.size, cs, t) :: L) (W.alloc (.cells cs t)) := ⟨h1_0 W _, h.alloc _⟩
/-- The blocks lie at or beyond a place. -/
theorem HB.set {g : Nat} {cs cs' : Array Value} {t : TypeId} {L : List (Nat × Array Value × TypeId)} {W : World} (h : HB ((g, cs, t) :: L) W) (hd : ∀ x ∈ L, x.1 ≠ g) : HB ((g, cs', t) :: L) (W.setRow g cs') := by
  refine ⟨setRow_heap _ _ _ _ _ _ h.1, ?_⟩
  have h2 := h.2
  clear h
  induction L with
  | nil => trivial
  | cons x L ih => exact ⟨(setRow_other _ _ _ _ (hd x (by simp))).trans h2.1, ih (fun y hy => hd y (by simp [hy])) h2.2⟩
theorem c1 {w : World} {g : Nat} {t : TypeId} {a : Value} (h : w.heap[g]? = some (.cells #[a] t (0, 0))) : w.cell? ⟨g, 0, none⟩ = some a := setRow_cell h rfl
theorem c2 {w : World} {g : Nat} {t : TypeId} {a b : Value} (h : w.heap[g]? = some (.cells #[a, b] t (0, 0))) : w.cell? ⟨g, 0, none⟩ = some a ∧ w.cell? ⟨g, 1, none⟩ = some b := ⟨setRow_cell h rfl, setRow_cell h rfl⟩
theorem c3 {w : World} {g : Nat} {t : TypeId} {a b c : Value} (h : w.heap[g]? = some (.cells #[a, b, c] t (0, 0))) : w.cell? ⟨g, 0, none⟩ = some a ∧ w.cell? ⟨g, 1, none⟩ = some b ∧ w.cell? ⟨g, 2, none⟩ = some c := ⟨setRow_cell h rfl, setRow_cell h rfl, setRow_cell h rfl⟩
theorem fr {w : World} {g j : Nat} {t : TypeId} {cs : Array Value} (h : w.heap[g]? = some (.cells cs t (0, 0))) : w.frozen? ⟨g, j, none⟩ = false := frozen_of_row w g j cs t h
theorem heapD (w : World) : w.drew.heap = w.heap := rfl
theorem cellD {w : World} {a : Addr} {v : Value} (h : w.cell? a = some v) : w.drew.cell? a = some v := h
theorem cellA {w : World} {a : Addr} {v : Value} (h : w.cell? a = some v) (o : Obj) : (w.alloc o).cell? a = some v := (World.cell?_alloc_lt w o a (cell_lt h)).trans h
theorem cellS {w : World} {a : Addr} {v : Value} (h : w.cell? a = some v) (p : Addr) (x : Value) (hp : p.block ≠ a.block) : (w.setCell p x).cell? a = some v := by
  rw [World.cell?_setCell_other]
  · exact h
  · intro e; exact hp (by rw [e])
theorem cellB {W w : World} {a : Addr} {v : Value} (hb : Below W.heap.size W w) (h : W.cell? a = some v) : w.cell? a = some v := (hb.cell (cell_lt h)).trans h
theorem bcell {W w1 : World} (hb : Below W.heap.size W w1) : (∀ b o, b < W.heap.size → w1.cell? ⟨b, o, none⟩ = W.cell? ⟨b, o, none⟩) ∧ (∀ b o, b < W.heap.size → w1.frozen? ⟨b, o, none⟩ = W.frozen? ⟨b, o, none⟩) :=
  ⟨fun b o h => hb.cell (p := ⟨b, o, none⟩) h, fun b o h => hb.frozen (p := ⟨b, o, none⟩) h⟩
end Go.Proofs.Ytgdcgmnfgbdiiaa
