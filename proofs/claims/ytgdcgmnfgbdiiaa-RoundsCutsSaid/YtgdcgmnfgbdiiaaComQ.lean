/- The law of ComR with a relation of its own that a round keeps; no statement of the seat. -/
import Derived.RangeFuncNested
import Derived.RangeFuncBound
import Derived.RangeFuncCalls
import Derived.RangeFuncLeaves
import Derived.Shelf.Abstract
import Derived.Shelf.RegionOpen
import Derived.WalkKit
import Derived.OwnWalkIn
import Derived.TacticsInMore
import Derived.LoopNIn
import Derived.LoopIn
import Derived.Test.YtgdcgmnfgbdiiaaComS
namespace Go.Proofs.Ytgdcgmnfgbdiiaa
open Go.RowKit Go.Shelf
set_option linter.unusedSimpArgs false
set_option linter.unusedVariables false
set_option linter.unnecessarySimpa false

/-- What an iterator promises. -/
def SeqD {α : Type} (Kp : World → World → Prop) (B : Nat) (F : Fence) (n : Nat) (P : Program) (g : Nat) (lb : Array Value) (encs : α → Array Value) (ty : TypeId) (S Sp : List α → World → Prop) (N : Nat) (w : World) : Prop :=
  ∀ (l : Nat) (J Jx : List α → World → Prop) (W : World), Below w.heap.size w W → AbC B ty J → AbC B ty Jx →
    (∀ pre x W1, J pre W1 → pre.length < N → YieldAt F (n - 1) P l (encs x) W1 fun e W' => (e = .returned (.bool true) ∧ J (pre ++ [x]) W' ∧ Kp W1 W') ∨ (e = .returned (.bool false) ∧ Jx (pre ++ [x]) W')) →
    J [] W →
    CallsIn F n P g (#[.func (.yield l) #[] #[]] ++ lb) W fun e W' => (∃ v, e = .returned v) ∧ ((∃ xs, S xs W' ∧ J xs W') ∨ (∃ pre, Sp pre W' ∧ Jx pre W'))
/-- How a round may end. -/
def EndD {α : Type} (Kp : World → World → Prop) (B : Nat) (I : List α → World → Prop) (Ix : Code → List α → World → Prop) (xs : List α) (W : World) : Exit → Act → World → Prop
  | .normal, _, W' => KeepsFrom B W W' ∧ Kp W W' ∧ I xs W'
  | .ret, _, W' => KeepsFrom B W W' ∧ Ix .ret xs W'
  | .exit id, _, W' => KeepsFrom B W W' ∧ Ix (.exit id) xs W'
  | .goto _, _, _ => False
  | .panic _, _, _ => False
  | .outgrown, _, _ => False
section
variable {α : Type} {F : Fence} {n : Nat} {P : Program} {ps : Array Tmp} {assign body : Code} {a : Act} {ty : TypeId}
/-- One round, behind the yield. -/
theorem round_d {Kp : World → World → Prop} {fn : FuncId} {B N : Nat} (hKt : ∀ {A B C : World}, Kp A B → Kp B C → Kp A C) (hKb : ∀ (W : World) (l : Nat) (o o' : Obj), B ≤ l → W.heap[l]? = some o → o.isCells = false → Kp W (W.putObj l o')) (hfn : F.fn fn) {encs : α → Array Value} (hps : ∀ x, (encs x).size = ps.size) (I : List α → World → Prop) (Ix : Code → List α → World → Prop) (hI : AbR B I) (hIx : ∀ c, AbR B (Ix c)) (a₁ : α → Act)
    (hassign : ∀ (l : Nat) (x : α) (W : World) (K : Act → World → Prop), K (a₁ x) W →
      assign.wpIn (F.inRound l) (n - 1 - 1) P (Exit.then K (fun _ _ _ => False)) { tmps := (ps.zip (encs x)).foldl (fun t (p, v) => t.setIfInBounds p v) a.tmps, defers := [] } W)
    (hbody : ∀ (l : Nat) (pre : List α) (x : α) (W : World), I pre W → pre.length < N → body.wpIn (F.inRound l) (n - 1 - 1) P (EndD Kp B I Ix (pre ++ [x]) W) (a₁ x) W)
    (pre : List α) (x : α) (W : World) (hi : I pre W) (hk : Bk fn a ps assign body B .ready none W) (hlen : pre.length < N) :
    YieldAt F (n - 1 - 1) P (B + 1) (encs x) W fun e W' =>
      (e = .returned (.bool true) ∧ (I (pre ++ [x]) W' ∧ Bk fn a ps assign body B .ready none W') ∧ Kp W W') ∨ (e = .returned (.bool false) ∧ ∃ c, Ix c (pre ++ [x]) W' ∧ Bk fn a ps assign body B .done (some c) W') := by
  refine ⟨fn, _, assign, body, run_yield (P := P) (args := encs x) hk.1 (hps x), roundIn_of_wpIn hfn (hassign _ x W _ ⟨_, run_beginRound hk.1 rfl, ?_⟩)⟩
  have hk2 : Bk fn a ps assign body B .busy none (W.putObj (B + 1) (.loop (recOf fn a ps assign body B .busy none))) := hk.turn
  have t2 : Kp W (W.putObj (B + 1) (.loop (recOf fn a ps assign body B .busy none))) := hKb _ _ _ _ (by omega) hk.1 rfl
  refine wpIn_mono (hbody _ pre x _ (hI _ _ _ _ _ hi (by omega) hk.1 rfl) hlen) ?_
  rintro e a3 W3 hp
  cases e with
  | normal =>
    obtain ⟨h1, h2, h3⟩ := hp
    have h4 := hk2.kept h1
    exact ⟨_, _, run_endRound (P := P) none h4.1, .inl ⟨rfl, ⟨hI _ _ _ _ _ h3 (by omega) h4.1 rfl, h4.turn⟩, hKt (hKt t2 h2) (hKb _ _ _ _ (by omega) h4.1 rfl)⟩⟩
  | ret =>
    obtain ⟨h1, h3⟩ := hp
    have h4 := hk2.kept h1
    exact ⟨_, _, run_endRound (P := P) (some .ret) h4.1, .inr ⟨rfl, .ret, hIx _ _ _ _ _ _ h3 (by omega) h4.1 rfl, h4.turn⟩⟩
  | exit id =>
    obtain ⟨h1, h3⟩ := hp
    have h4 := hk2.kept h1
    exact ⟨_, _, run_endRound (P := P) (some (.exit id)) h4.1, .inr ⟨rfl, .exit id, hIx _ _ _ _ _ _ h3 (by omega) h4.1 rfl, h4.turn⟩⟩
  | goto t => exact hp.elim
  | panic ch => exact hp.elim
  | outgrown => exact hp.elim

/-- The law. -/
theorem range_d {Kp : World → World → Prop} {g : Operand} {Q : Exit → Act → World → Prop} {w : World} (hro : F.round = none) (h1 : 1 ≤ n) {gf : Nat} {lb : Array Value} (hg : a.eval g = .func (.func gf) #[] lb) (hFg : F.fn gf)
    (eg : ∀ args w, (callFunc gf args).run P w = .ok (.enter gf args) w) {encs : α → Array Value} {S Sp : List α → World → Prop} {N : Nat} {B0 : Nat} (hseq : SeqD Kp B0 F (n - 1) P gf lb encs ty S Sp N w)
    (hKt : ∀ {A B C : World}, Kp A B → Kp B C → Kp A C) (hKb : ∀ (W : World) (l : Nat) (o o' : Obj), w.heap.size ≤ l → W.heap[l]? = some o → o.isCells = false → Kp W (W.putObj l o')) (hS : AbR w.heap.size S) (hSp : AbR w.heap.size Sp) (hps : ∀ x, (encs x).size = ps.size)
    (I : List α → World → Prop) (Ix : Code → List α → World → Prop) (hI : AbR w.heap.size I) (hIx : ∀ c, AbR w.heap.size (Ix c)) (hJ : AbC B0 ty I) (hJx : ∀ c, AbC B0 ty (Ix c)) (h0 : I [] w) (a₁ : α → Act)
    (hassign : ∀ (l : Nat) (x : α) (W : World) (K : Act → World → Prop), K (a₁ x) W →
      assign.wpIn (F.inRound l) (n - 1 - 1) P (Exit.then K (fun _ _ _ => False)) { tmps := (ps.zip (encs x)).foldl (fun t (p, v) => t.setIfInBounds p v) a.tmps, defers := [] } W)
    (hbody : ∀ (l : Nat) (pre : List α) (x : α) (W : World), I pre W → pre.length < N → body.wpIn (F.inRound l) (n - 1 - 1) P (EndD Kp w.heap.size I Ix (pre ++ [x]) W) (a₁ x) W)
    (hdone : ∀ (D : Nat) (xs : List α) (W : World), w.heap.size ≤ D → S xs W → I xs W → W.heap[D]? = some (.deferred (some [])) → Q .normal { a with defers := { target := .collected D, args := #[] } :: a.defers } W)
    (hstop : ∀ (D : Nat) (c : Code) (pre : List α) (W : World), w.heap.size ≤ D → Sp pre W → Ix c pre W → W.heap[D]? = some (.deferred (some [])) → c.wpIn F n P Q { a with defers := { target := .collected D, args := #[] } :: a.defers } W) :
    (Code.rangeFunc g ps assign body).wpIn F n P Q a w := by
  refine wpIn_rangeFunc fun fn hfn => ?_
  rw [hro]
  have hb1 : Below w.heap.size w ((w.alloc (.deferred (some []))).alloc (.loop (recOf fn a ps assign body w.heap.size .ready none))) := (((Below.refl _ _).alloc (Nat.le_refl _) _).alloc (by simp only [World.size_alloc] <;> omega) _)
  have hk1 : Bk fn a ps assign body w.heap.size .ready none ((w.alloc (.deferred (some []))).alloc (.loop (recOf fn a ps assign body w.heap.size .ready none))) := ⟨h2_1 _ _ _, h2_0 _ _ _⟩
  refine ⟨w.heap.size + 1, [{ target := .collected w.heap.size, args := #[] }], (w.alloc (.deferred (some []))).alloc (.loop (recOf fn a ps assign body w.heap.size .ready none)), { target := .fn (.func gf) lb, args := #[.func (.yield (w.heap.size + 1)) #[] #[]] }, (w.alloc (.deferred (some []))).alloc (.loop (recOf fn a ps assign body w.heap.size .ready none)), gf, #[.func (.yield (w.heap.size + 1)) #[] #[]] ++ lb, (w.alloc (.deferred (some []))).alloc (.loop (recOf fn a ps assign body w.heap.size .ready none)), run_enterLoop_outer _ _ _ _ _, ?_, ?_, ?_, fun _ => h1, ?_⟩
  · simp only [resolve, hg]
    simp [go_sem]
  · intro f' hf'
    simp [Target.leads] at hf'
    subst hf'
    exact hFg
  · simp [invoke, go_sem, eg]
  · refine (hseq (w.heap.size + 1) (fun pre W => I pre W ∧ Bk fn a ps assign body w.heap.size .ready none W) (fun pre W => ∃ c, Ix c pre W ∧ Bk fn a ps assign body w.heap.size .done (some c) W) _ hb1
      (fun s A B row hs hg' hr => ⟨hJ s A B row hs.1 hg' hr, hs.2.abides hg' (fun r e => (hr r e).2)⟩) (fun s A B row hs hg' hr => by
        obtain ⟨c, hc, hk⟩ := hs
        exact ⟨c, hJx c s A B row hc hg' hr, hk.abides hg' (fun r e => (hr r e).2)⟩)
      (fun pre x W hs hlen => round_d (Kp := Kp) hKt hKb hfn hps I Ix hI hIx a₁ hassign hbody pre x W hs.1 hs.2 hlen)
      ⟨hJ.below h0 hb1, hk1⟩).mono ?_
    rintro e W2 ⟨⟨v, rfl⟩, (⟨xs, hx, hi, hk⟩ | ⟨pre, hx, c, hi, hk⟩)⟩
    · exact ⟨none, _, run_endLoop (P := P) hk.1 (by simp [recOf]), hdone _ xs _ (Nat.le_refl _) (hS _ _ _ _ _ hx (by omega) hk.1 rfl) (hI _ _ _ _ _ hi (by omega) hk.1 rfl) ((World.putObj_heap_other (by omega)).trans hk.2)⟩
    · exact ⟨some c, _, run_endLoop (P := P) hk.1 (by simp [recOf]), hstop _ c pre _ (Nat.le_refl _) (hSp _ _ _ _ _ hx (by omega) hk.1 rfl) (hIx c _ _ _ _ _ hi (by omega) hk.1 rfl) ((World.putObj_heap_other (by omega)).trans hk.2)⟩
end
end Go.Proofs.Ytgdcgmnfgbdiiaa
