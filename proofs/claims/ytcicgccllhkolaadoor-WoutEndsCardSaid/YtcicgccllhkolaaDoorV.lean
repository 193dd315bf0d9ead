/- Helper facts for the statements of this seat; no statement itself. -/
import Derived.Test.YtcicgccllhkolaaDoorU
import Derived.Deep.RegionHeld3
import Derived.Deep.DeepCutAuto
import Derived.Outline
namespace Go.Proofs.YtcicgccllhkolaaDoor
open Go.RowKit
set_option linter.unusedSimpArgs false
set_option linter.unusedVariables false
set_option linter.unnecessarySimpa false

/-- The page of WoutEnds, and the world. -/
def EN (w : World) (g : Nat) (s r c : Int) (W : World) : Prop := HB [(g, pgC s r c, 23)] W ∧ Below w.heap.size w W ∧ w.heap.size ≤ g
theorem EN.keep {w wr w' : World} {g : Nat} {s r c : Int} (h : EN w g s r c wr) (hb : Below wr.heap.size wr w') : EN w g s r c w' := ⟨h.1.keep hb, btrans h.2.1 hb, h.2.2⟩
theorem EN.alloc {w wr : World} {g : Nat} {s r c : Int} (h : EN w g s r c wr) (o : Obj) : EN w g s r c (wr.alloc o) := ⟨h.1.alloc o, balloc h.2.1 o, h.2.2⟩
theorem EN.drew {w wr : World} {g : Nat} {s r c : Int} (h : EN w g s r c wr) : EN w g s r c wr.drew := ⟨h.1.drew, h.2.1.drew, h.2.2⟩
theorem EN.sc {w wr : World} {g : Nat} {s r c : Int} (h : EN w g s r c wr) (p : Addr) (v : Value) (hp : g < p.block) : EN w g s r c (wr.setCell p v) :=
  ⟨⟨by rw [heap_setCell_other _ _ _ _ (by simp only []; omega)]; exact h.1.1, trivial⟩, h.2.1.setCell (by have := h.2.2; omega) _, h.2.2⟩
theorem EN.set {w wr : World} {g : Nat} {s r c : Int} (h : EN w g s r c wr) (s' r' c' : Int) : EN w g s' r' c' (wr.setRow g (pgC s' r' c')) :=
  ⟨h.1.set (fun x hx => by simp at hx), below_setRow h.2.1 h.2.2 _, h.2.2⟩
theorem EN.lt {w wr : World} {g : Nat} {s r c : Int} (h : EN w g s r c wr) : g < wr.heap.size := lt_of_some h.1.1

theorem undo_claim {s r c : Int} (h : chk s r c = 0) (he : xE s r c 4 3 = 0) : xE (xS s r c 4 3) (xR s r c 4 3) (xC s r c 4 3) 5 0 = 0 ∧ xS (xS s r c 4 3) (xR s r c 4 3) (xC s r c 4 3) 5 0 = s ∧ xR (xS s r c 4 3) (xR s r c 4 3) (xC s r c 4 3) 5 0 = r ∧ xC (xS s r c 4 3) (xR s r c 4 3) (xC s r c 4 3) 5 0 = c := by
  have hx := chk_x h he
  have h4 : xS s r c 4 3 = 3 ∧ xR s r c 4 3 = r ∧ xC s r c 4 3 = 3 ∧ s = 2 ∧ c = 0 := by
    unfold xE at he
    rw [if_pos h] at he
    unfold xS xR xC nS nR nC
    rw [if_pos h, if_pos h, if_pos h, if_pos he, if_pos he, if_pos he]
    rcases chk_cases h with ⟨rfl, rfl, h1, h2⟩ | ⟨rfl, rfl, rfl⟩ | ⟨rfl, rfl, h1, h2⟩ | ⟨rfl, h3, h4, h1, h2⟩ | ⟨rfl, rfl, h1, h2⟩ | ⟨rfl, rfl, rfl⟩ | ⟨rfl, rfl, h1, h2⟩ | ⟨rfl, rfl, rfl⟩ <;> simp [nE, evk, psb, aS, aR, aC] at he ⊢
  obtain ⟨e1, e2, e3, rfl, rfl⟩ := h4
  rw [e1, e2, e3] at hx ⊢
  unfold xE xS xR xC nS nR nC
  rw [if_pos hx, if_pos hx, if_pos hx, if_pos hx]
  simp [nE, evk, psb, aS, aR, aC]
theorem undo_share {s r c : Int} (h : chk s r c = 0) (he : xE s r c 1 0 = 0) : xE (xS s r c 1 0) (xR s r c 1 0) (xC s r c 1 0) 2 0 = 0 ∧ xS (xS s r c 1 0) (xR s r c 1 0) (xC s r c 1 0) 2 0 = s ∧ xR (xS s r c 1 0) (xR s r c 1 0) (xC s r c 1 0) 2 0 = r ∧ xC (xS s r c 1 0) (xR s r c 1 0) (xC s r c 1 0) 2 0 = c ∧ xS s r c 1 0 = s := by
  have hx := chk_x h he
  have h4 : xS s r c 1 0 = s ∧ xR s r c 1 0 = r + 1 ∧ xC s r c 1 0 = c ∧ s ≠ 6 ∧ 1 ≤ r := by
    unfold xE at he
    rw [if_pos h] at he
    unfold xS xR xC nS nR nC
    rw [if_pos h, if_pos h, if_pos h, if_pos he, if_pos he, if_pos he]
    rcases chk_cases h with ⟨rfl, rfl, h1, h2⟩ | ⟨rfl, rfl, rfl⟩ | ⟨rfl, rfl, h1, h2⟩ | ⟨rfl, h3, h4, h1, h2⟩ | ⟨rfl, rfl, h1, h2⟩ | ⟨rfl, rfl, rfl⟩ | ⟨rfl, rfl, h1, h2⟩ | ⟨rfl, rfl, rfl⟩ <;> simp [nE, evk, psb, aS, aR, aC] at he ⊢ <;> omega
  obtain ⟨e1, e2, e3, h6, hr⟩ := h4
  rw [e1, e2, e3] at hx ⊢
  have a1 : nE s (r + 1) 2 0 = 0 := by
    simp [nE, evk, psb]; omega
  unfold xE xS xR xC nS nR nC
  rw [if_pos hx, if_pos hx, if_pos hx, if_pos hx, a1]
  have a2 : ¬ (r + 1 = 1) := by omega
  simp [aS, aR, aC, a2]
theorem done_of {s r c : Int} (h : chk s r c = 0) (he : xE s r c 6 0 = 0) : (s = 3 ∧ 1 ≤ c ∧ xS s r c 6 0 = 5 ∧ xR s r c 6 0 = r - 1 ∧ xC s r c 6 0 = 0) ∨ (c = 0 ∧ 1 ≤ r ∧ xS s r c 6 0 = 4 ∧ xR s r c 6 0 = r ∧ xC s r c 6 0 = 0) ∨ (c = 0 ∧ r = 0 ∧ xS s r c 6 0 = 6) := by
  unfold xE at he
  rw [if_pos h] at he
  unfold xS xR xC nS nR nC
  rw [if_pos h, if_pos h, if_pos h, if_pos he, if_pos he, if_pos he]
  rcases chk_cases h with ⟨rfl, rfl, h1, h2⟩ | ⟨rfl, rfl, rfl⟩ | ⟨rfl, rfl, h1, h2⟩ | ⟨rfl, h3, h4, h1, h2⟩ | ⟨rfl, rfl, h1, h2⟩ | ⟨rfl, rfl, rfl⟩ | ⟨rfl, rfl, h1, h2⟩ | ⟨rfl, rfl, rfl⟩ <;> simp [nE, evk, psb, aS, aR, aC] at he ⊢ <;> omega
/-- How many rounds are left at the most. -/
def mu (s r : Int) : Int := if s = 6 then 0 else if s = 1 ∨ s = 4 then r else if s = 2 then r + 1 else r + 2
/-- The kinds that WoutEnds tries. -/
def kd (j : Nat) : Int := if j = 0 then 5 else if j = 1 then 2 else 6
theorem some_ok {s r c : Int} (h : chk s r c = 0) (h5 : s ≠ 5) (h6 : s ≠ 6) (e0 : xE s r c 5 0 ≠ 0) (e1 : xE s r c 2 0 ≠ 0) (e2 : xE s r c 6 0 ≠ 0) : False := by
  unfold xE at e0 e1 e2
  rw [if_pos h] at e0 e1 e2
  rcases chk_cases h with ⟨rfl, rfl, h1, h2⟩ | ⟨rfl, rfl, rfl⟩ | ⟨rfl, rfl, h1, h2⟩ | ⟨rfl, h3, h4, h1, h2⟩ | ⟨rfl, rfl, h1, h2⟩ | ⟨rfl, rfl, rfl⟩ | ⟨rfl, rfl, h1, h2⟩ | ⟨rfl, rfl, rfl⟩ <;> simp [nE, evk, psb] at * <;> omega
theorem mu_step {s r c : Int} {j : Nat} (h : chk s r c = 0) (h5 : s ≠ 5) (h6 : s ≠ 6) (hj : j < 3) (e0 : 0 < j → xE s r c 5 0 ≠ 0) (e1 : 1 < j → xE s r c 2 0 ≠ 0) (he : xE s r c (kd j) 0 = 0) :
    xS s r c (kd j) 0 ≠ 5 ∧ mu (xS s r c (kd j) 0) (xR s r c (kd j) 0) + 1 ≤ mu s r := by
  have hj3 : j = 0 ∨ j = 1 ∨ j = 2 := by omega
  unfold xE at he e0 e1
  rw [if_pos h] at he e0 e1
  unfold xS xR nS nR
  rw [if_pos h, if_pos h, if_pos he, if_pos he]
  rcases hj3 with rfl | rfl | rfl <;> rcases chk_cases h with ⟨rfl, rfl, h1, h2⟩ | ⟨rfl, rfl, rfl⟩ | ⟨rfl, rfl, h1, h2⟩ | ⟨rfl, h3, h4, h1, h2⟩ | ⟨rfl, rfl, h1, h2⟩ | ⟨rfl, rfl, rfl⟩ | ⟨rfl, rfl, h1, h2⟩ | ⟨rfl, rfl, rfl⟩ <;> simp [nE, evk, psb, aS, aR, aC, kd, mu] at * <;> (repeat' split) <;> omega

theorem EN.far {w wr : World} {g : Nat} {s r c : Int} (h : EN w g s r c wr) {g' : Nat} (hg : g < g') (cs : Array Value) : EN w g s r c (wr.setRow g' cs) :=
  ⟨⟨(setRow_other _ _ _ _ (by simp only []; omega)).trans h.1.1, trivial⟩, below_setRow h.2.1 (by have := h.2.2; omega) _, h.2.2⟩
/-- Beside it the page as it was. -/
def LP (w : World) (g gw : Nat) (s r c s' r' c' : Int) (W : World) : Prop := EN w g s' r' c' W ∧ W.heap[gw]? = some (.cells (pgC s r c) 23 (0, 0)) ∧ g < gw
theorem LP.keep {w W W' : World} {g gw : Nat} {s r c s' r' c' : Int} (h : LP w g gw s r c s' r' c' W) (hb : Below W.heap.size W W') : LP w g gw s r c s' r' c' W' := ⟨h.1.keep hb, bkeep hb h.2.1, h.2.2⟩
theorem LP.alloc {w W : World} {g gw : Nat} {s r c s' r' c' : Int} (h : LP w g gw s r c s' r' c' W) (o : Obj) : LP w g gw s r c s' r' c' (W.alloc o) := ⟨h.1.alloc o, hold1 h.2.1 o, h.2.2⟩
theorem LP.drew {w W : World} {g gw : Nat} {s r c s' r' c' : Int} (h : LP w g gw s r c s' r' c' W) : LP w g gw s r c s' r' c' W.drew := ⟨h.1.drew, h.2.1, h.2.2⟩
theorem LP.far {w W : World} {g gw : Nat} {s r c s' r' c' : Int} (h : LP w g gw s r c s' r' c' W) {g' : Nat} (hg : gw < g') (cs : Array Value) : LP w g gw s r c s' r' c' (W.setRow g' cs) :=
  ⟨h.1.far (by have := h.2.2; omega) _, (setRow_other _ _ _ _ (by omega)).trans h.2.1, h.2.2⟩
theorem LP.set {w W : World} {g gw : Nat} {s r c s' r' c' : Int} (h : LP w g gw s r c s' r' c' W) (a b d : Int) : LP w g gw s r c a b d (W.setRow g (pgC a b d)) :=
  ⟨h.1.set a b d, (setRow_other _ _ _ _ (by have := h.2.2; omega)).trans h.2.1, h.2.2⟩
theorem LP.lt {w W : World} {g gw : Nat} {s r c s' r' c' : Int} (h : LP w g gw s r c s' r' c' W) : gw < W.heap.size := lt_of_some h.2.1
/-- Beside them the kinds that are tried. -/
def LI (w : World) (g gw gl : Nat) (s r c s' r' c' : Int) (W : World) : Prop := LP w g gw s r c s' r' c' W ∧ W.heap[gl]? = some (.cells #[.int .i64 5, .int .i64 2, .int .i64 6] 3 (0, 0)) ∧ gw < gl
theorem LI.keep {w W W' : World} {g gw gl : Nat} {s r c s' r' c' : Int} (h : LI w g gw gl s r c s' r' c' W) (hb : Below W.heap.size W W') : LI w g gw gl s r c s' r' c' W' := ⟨h.1.keep hb, bkeep hb h.2.1, h.2.2⟩
theorem LI.alloc {w W : World} {g gw gl : Nat} {s r c s' r' c' : Int} (h : LI w g gw gl s r c s' r' c' W) (o : Obj) : LI w g gw gl s r c s' r' c' (W.alloc o) := ⟨h.1.alloc o, hold1 h.2.1 o, h.2.2⟩
theorem LI.drew {w W : World} {g gw gl : Nat} {s r c s' r' c' : Int} (h : LI w g gw gl s r c s' r' c' W) : LI w g gw gl s r c s' r' c' W.drew := ⟨h.1.drew, h.2.1, h.2.2⟩
theorem LI.far {w W : World} {g gw gl : Nat} {s r c s' r' c' : Int} (h : LI w g gw gl s r c s' r' c' W) {g' : Nat} (hg : gl < g') (cs : Array Value) : LI w g gw gl s r c s' r' c' (W.setRow g' cs) :=
  ⟨h.1.far (by have := h.2.2; omega) _, (setRow_other _ _ _ _ (by omega)).trans h.2.1, h.2.2⟩
theorem LI.lt {w W : World} {g gw gl : Nat} {s r c s' r' c' : Int} (h : LI w g gw gl s r c s' r' c' W) : gl < W.heap.size := lt_of_some h.2.1
theorem LI.cell {w W : World} {g gw gl : Nat} {s r c s' r' c' : Int} (h : LI w g gw gl s r c s' r' c' W) (j : Nat) (hj : j < 3) : W.cell? ⟨gl, j, none⟩ = some (.int .i64 (kd j)) := by
  have : j = 0 ∨ j = 1 ∨ j = 2 := by omega
  rcases this with rfl | rfl | rfl <;> exact setRow_cell h.2.1 rfl
theorem mu_pos {s r c : Int} (h : chk s r c = 0) (h6 : s ≠ 6) : 1 ≤ mu s r := by
  rcases chk_cases h with ⟨rfl, rfl, h1, h2⟩ | ⟨rfl, rfl, rfl⟩ | ⟨rfl, rfl, h1, h2⟩ | ⟨rfl, h3, h4, h1, h2⟩ | ⟨rfl, rfl, h1, h2⟩ | ⟨rfl, rfl, rfl⟩ | ⟨rfl, rfl, h1, h2⟩ | ⟨rfl, rfl, rfl⟩ <;> simp [mu] at * <;> omega
theorem tried {s r c : Int} {j : Nat} (hj : j < 3) (h : (0 < j → xE s r c 5 0 ≠ 0) ∧ (1 < j → xE s r c 2 0 ≠ 0) ∧ (2 < j → xE s r c 6 0 ≠ 0)) (he : xE s r c (kd j) 0 ≠ 0) :
    (0 < j + 1 → xE s r c 5 0 ≠ 0) ∧ (1 < j + 1 → xE s r c 2 0 ≠ 0) ∧ (2 < j + 1 → xE s r c 6 0 ≠ 0) := by
  have : j = 0 ∨ j = 1 ∨ j = 2 := by omega
  rcases this with rfl | rfl | rfl
  · exact ⟨fun _ => he, fun h => absurd h (by omega), fun h => absurd h (by omega)⟩
  · exact ⟨fun _ => h.1 (by omega), fun _ => he, fun h => absurd h (by omega)⟩
  · exact ⟨fun _ => h.1 (by omega), fun _ => h.2.1 (by omega), fun _ => he⟩

end Go.Proofs.YtcicgccllhkolaaDoor
