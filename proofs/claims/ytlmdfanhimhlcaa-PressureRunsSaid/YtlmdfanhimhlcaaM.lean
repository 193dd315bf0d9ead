/- Helper facts for the statements of this seat; no statement itself. -/
import Derived.Test.YtlmdfanhimhlcaaL
import Derived.Outline
namespace Go.Proofs.Ytlmdfanhimhlcaa
open Go.RowKit
set_option linter.unusedSimpArgs false
set_option linter.unusedVariables false
set_option linter.unnecessarySimpa false

/-- Nothing below a place is touched but two blocks. -/
def Tw (gs go base : Nat) (W W' : World) : Prop := W'.os = W.os ∧ W'.tape = W.tape ∧ W'.output = W.output ∧ W.heap.size ≤ W'.heap.size ∧ ∀ k, k < base → k ≠ gs → k ≠ go → W'.heap[k]? = W.heap[k]?
theorem Tw.set {gs go base : Nat} {W W' : World} (h : Tw gs go base W W') (p : Addr) (hp : p.block = gs ∨ p.block = go ∨ base ≤ p.block) (v : Value) : Tw gs go base W (W'.setCell p v) :=
  ⟨h.1, h.2.1, h.2.2.1, by have := (KeepsWalks.setCell W' p v).size; have := h.2.2.2.1; omega, fun k hk h1 h2 => (heap_setCell_other _ _ _ _ (by rcases hp with hp | hp | hp <;> omega)).trans (h.2.2.2.2 k hk h1 h2)⟩
theorem Tw.refl (gs go base : Nat) (W : World) : Tw gs go base W W := ⟨rfl, rfl, rfl, Nat.le_refl _, fun _ _ _ _ => rfl⟩
theorem Tw.of {gs go base : Nat} {W W' : World} (h : Below base W W') : Tw gs go base W W' := ⟨h.os, h.tape, h.output, h.size, fun k hk _ _ => h.block k hk⟩
def AddP (i : Int) (aw o : Bool) (gs go base : Nat) (s : List (Int × Int)) (W : World) (e : Ending) (W' : World) : Prop :=
  (∃ u, e = .returned u) ∧ ∃ v', Boxed W' gs 45 v' ∧ Boxed W' go 4 (.bool aw) ∧ OwnSp W' base v' (stp s o i aw) ∧ KeepsOthers W W' ∧ Tw gs go base W W'
theorem boxO {W : World} {B : Nat} {t : TypeId} {v : Value} (h : Boxed W B t v) (p : Addr) (hp : p.block ≠ B) (x : Value) : Boxed (W.setCell p x) B t v := (heap_setCell_other _ _ _ _ (fun e => hp e.symm)).trans h
theorem OwnSp.other {W : World} {base : Nat} {v : Value} {s : List (Int × Int)} (h : OwnSp W base v s) (p : Addr) (hp : p.block < base) (x : Value) : OwnSp (W.setCell p x) base v s := by
  obtain ⟨h1, h2 | ⟨g, cap, cur, hv, h3, hg, h4⟩⟩ := h
  · exact ⟨h1, .inl h2⟩
  · exact ⟨h1, .inr ⟨g, cap, cur, hv, h3, (heap_setCell_other _ _ _ _ (by omega)).trans hg, h4⟩⟩

theorem sp_succ {W : World} {base : Nat} {v : Value} {s : List (Int × Int)} {x : Int × Int} (h : OwnSp W base v (s ++ [x])) : ∃ g cap, v = .slice (some ⟨g, 0, none⟩) (s.length + 1) cap := by
  unfold OwnSp at h
  rw [List.length_append] at h
  exact ownsRow_succ h
theorem keep_row {W w' : World} {tmp : Obj} {base : Nat} {v : Value} {s : List (Int × Int)} (hg : (W.alloc tmp).grownBy w' v.ownBlock) (h : OwnSp W base v s) : KeepsOthers (W.alloc tmp) w' := by
  refine KeepsOthers.of_grownBy hg fun j o ej hj => ?_
  rcases (h.alloc tmp).2 with ⟨rfl, _⟩ | ⟨g, cap, cur, rfl, _, hgb, _⟩
  · simp [Value.ownBlock] at ej
  · obtain rfl : g = j := by simpa [Value.ownBlock] using ej
    rw [hgb] at hj; cases hj; rfl

set_option maxHeartbeats 2000000 in
theorem add_any (i : Int) (aw o : Bool) (gs go base : Nat) (v : Value) (s : List (Int × Int)) (W : World) (hs : Boxed W gs 45 v) (ho : Boxed W go 4 (.bool o)) (hown : OwnSp W base v s) (hne : o = true → s ≠ [])
    (h1 : gs < base) (h2 : go < base) (h3 : gs ≠ go) (h4 : base ≤ W.heap.size) (h5 : s.length ≤ 1000) :
    Calls Try.prog 42 #[.int .i64 i, .bool aw, .pointer (some ⟨go, 0, none⟩), .pointer (some ⟨gs, 0, none⟩)] W (AddP i aw o gs go base s W) := by
  have HS := Lib.hid hs
  have HO := Lib.hid ho
  have HW := Lib.hid hown
  have c0 := hs.cell
  have c1x := ho.cell
  have f0 := hs.frozen
  have f1 := ho.frozen
  clear hs ho hown
  cases aw
  · go_enter Try.func42, Try.ntmps42
    go_wp2_with fail
    go_end0
    exact ⟨⟨_, rfl⟩, v, boxO HS.out _ (by simp only []; omega) _, HO.out.set _, HW.out.other _ (by simp only []; omega) _, KeepsOthers.setCell _ _ _, (Tw.refl _ _ _ _).set _ (by simp) _⟩
  cases o
  · go_enter Try.func42, Try.ntmps42
    go_wp2_with (((with_reducible refine append_sp ?b1 (.tmp 20) (.tmp 24) ?b2 base v s i i 49 W.heap.size ?b3 ?b4 ?b5 HW ?b6 ?b7 ?_); (case b1 => rfl); (case b2 => rfl); (case b3 => rfl); (case b4 => rfl); (case b5 => rfl); (case b6 => omega); (case b7 => omega)); intro v' w4 ho4 hb4 hg4; obtain ⟨g', cap', hv'⟩ := sp_succ ho4.out; subst hv'; have S4 : Hid (Boxed w4 gs 45 v ∧ Boxed w4 go 4 (.bool false)) := ⟨(hb4.out.block gs h1).trans HS.out, (hb4.out.block go h2).trans HO.out⟩; have d0 := S4.out.1.cell; have d1 := S4.out.2.cell; have e0 := S4.out.1.frozen; have e1 := S4.out.2.frozen)
    go_end0
    refine ⟨⟨_, rfl⟩, _, boxO (S4.out.1.set _) _ (by simp only []; omega) _, (boxO S4.out.2 _ (by simp only []; omega) _).set _, (ho4.out.other _ (by simp only []; omega) _).other _ (by simp only []; omega) _, ?_, ((Tw.of hb4.out).set _ (by simp) _).set _ (by simp) _⟩
    exact (((KeepsOthers.alloc _ _).trans (keep_row hg4.out HW.out)).trans (KeepsOthers.setCell _ _ _)).trans (KeepsOthers.setCell _ _ _)
  · have hne' := hne rfl
    have hp := List.length_pos_iff.2 hne'
    obtain ⟨g, cap, rfl, g1, g2, g3, ⟨x, g4⟩, g5, g6, cur, g7⟩ := HW.out.store hne' i
    have G6 := Lib.hid g6
    have G7 := Lib.hid g7
    have f2 := g5 ((s.length - 1) * 2 + 1)
    have r1 : IntKind.i64.wrap ((s.length : Int) - 1) = ((s.length - 1 : Nat) : Int) := by rw [IntWalk.i64_in _ (by omega)]; omega
    have r2 : (0 : Int) ≤ ((s.length - 1 : Nat) : Int) := by omega
    have r3 : ((s.length - 1 : Nat) : Int) < (s.length : Int) := by omega
    clear g5 g6 g7 hne'
    generalize hm : s.length - 1 = m at *
    have HM := Lib.hid hm
    clear hm
    go_enter Try.func42, Try.ntmps42
    go_wp2_with fail
    go_end0
    have hgs : g ≠ gs := by omega
    refine ⟨⟨_, rfl⟩, _, boxO (boxO HS.out _ (by simp only []; omega) _) _ (by simp only []; omega) _, (boxO HO.out _ (by simp only []; omega) _).set _, ?_, (KeepsOthers.setCell _ _ _).trans (KeepsOthers.setCell _ _ _), ((Tw.refl _ _ _ _).set _ (by simp only []; omega) _).set _ (by simp) _⟩
    exact G6.out.other _ (by simp only []; omega) _
end Go.Proofs.Ytlmdfanhimhlcaa
