/- A law for a range over a function whose iterator keeps state of its own in cells of one type; no statement of the seat. -/
import Derived.RangeFuncNested
import Derived.RangeFuncBound
import Derived.RangeFuncCalls
import Derived.RangeFuncLeaves
import Derived.Shelf.Abstract
import Derived.Shelf.RegionOpen
import Derived.WalkKit
import Derived.OwnWalkIn
import Derived.TacticsInMore
import Derived.LoopNIn
import Derived.LoopIn
import Derived.Test.YtgdcgmnfgbdiiaaComK
namespace Go.Proofs.Ytgdcgmnfgbdiiaa
open Go.RowKit Go.Shelf
set_option linter.unusedSimpArgs false
set_option linter.unusedVariables false
set_option linter.unnecessarySimpa false

/-- The blocks of one type of cells: the iterator's own. Whoever runs a round leaves them. -/
def KT (ty : TypeId) (W W' : World) : Prop := ∀ (k : Nat) (cs : Array Value) (fz : Nat × Nat), W.heap[k]? = some (Obj.cells cs ty fz) → W'.heap[k]? = some (Obj.cells cs ty fz)
theorem KT.refl (ty : TypeId) (W : World) : KT ty W W := fun _ _ _ h => h
theorem KT.trans {ty : TypeId} {A B C : World} (h : KT ty A B) (k : KT ty B C) : KT ty A C := fun i cs fz hi => k i cs fz (h i cs fz hi)
theorem KT.putObj {ty : TypeId} {W : World} {l : Nat} {o : Obj} (h : W.heap[l]? = some o) (hc : o.isCells = false) (o' : Obj) : KT ty W (W.putObj l o') := fun k cs fz hk => by
  refine (World.putObj_heap_other ?_).trans hk
  intro e
  subst e
  rw [h] at hk
  cases hk
  cases hc
theorem KT.below {ty : TypeId} {W W' : World} (h : Below W.heap.size W W') : KT ty W W' := fun k cs fz hk => bkeep h hk
/-- What the iterator's own writes leave as it is. -/
def AbC {β : Type} (B : Nat) (ty : TypeId) (J : β → World → Prop) : Prop := ∀ s W W' row, J s W → W.grownBy W' row → (∀ r, row = some r → B ≤ r ∧ ∃ cs fz, W.heap[r]? = some (.cells cs ty fz)) → J s W'
theorem AbC.below {β : Type} {B : Nat} {ty : TypeId} {J : β → World → Prop} (h : AbC B ty J) {s : β} {W W' : World} (hs : J s W) (hb : Below W.heap.size W W') : J s W' :=
  h s W W' none hs ⟨hb.os, hb.tape, hb.output, hb.size, fun k hk _ => hb.block k hk⟩ (fun r e => by cases e)
/-- What the loop's record turns leave as it is. -/
def AbR {β : Type} (B : Nat) (J : β → World → Prop) : Prop := ∀ s W l o o', J s W → B ≤ l → W.heap[l]? = some o → o.isCells = false → J s (W.putObj l o')
/-- What an iterator promises. -/
def SeqC {α : Type} (B : Nat) (F : Fence) (n : Nat) (P : Program) (g : Nat) (lb : Array Value) (encs : α → Array Value) (ty : TypeId) (S Sp : List α → World → Prop) (N : Nat) (w : World) : Prop :=
  ∀ (l : Nat) (J Jx : List α → World → Prop) (W : World), Below w.heap.size w W → AbC B ty J → AbC B ty Jx →
    (∀ pre x W1, J pre W1 → pre.length < N → YieldAt F (n - 1) P l (encs x) W1 fun e W' => (e = .returned (.bool true) ∧ J (pre ++ [x]) W' ∧ KT ty W1 W') ∨ (e = .returned (.bool false) ∧ Jx (pre ++ [x]) W')) →
    J [] W →
    CallsIn F n P g (#[.func (.yield l) #[] #[]] ++ lb) W fun e W' => (∃ v, e = .returned v) ∧ ((∃ xs, S xs W' ∧ J xs W') ∨ (∃ pre, Sp pre W' ∧ Jx pre W'))
/-- How a round may end. -/
def EndC {α : Type} (B : Nat) (ty : TypeId) (I : List α → World → Prop) (Ix : Code → List α → World → Prop) (xs : List α) (W : World) : Exit → Act → World → Prop
  | .normal, _, W' => KeepsFrom B W W' ∧ KT ty W W' ∧ I xs W'
  | .ret, _, W' => KeepsFrom B W W' ∧ Ix .ret xs W'
  | .exit id, _, W' => KeepsFrom B W W' ∧ Ix (.exit id) xs W'
  | .goto _, _, _ => False
  | .panic _, _, _ => False
  | .outgrown, _, _ => False
/-- The loop's record. -/
def recOf (fn : FuncId) (a : Act) (ps : Array Tmp) (assign body : Code) (B : Nat) (st : LoopState) (pe : Option Code) : Loop := { state := st, pending := pe, fn := fn, tmps := a.tmps, params := ps, assign := assign, body := body, defers := B }
/-- The two blocks of the loop's book-keeping. -/
def Bk (fn : FuncId) (a : Act) (ps : Array Tmp) (assign body : Code) (B : Nat) (st : LoopState) (pe : Option Code) (W : World) : Prop :=
  W.heap[B + 1]? = some (.loop (recOf fn a ps assign body B st pe)) ∧ W.heap[B]? = some (.deferred (some []))
theorem Bk.turn {fn : FuncId} {a : Act} {ps : Array Tmp} {assign body : Code} {B : Nat} {st st' : LoopState} {pe pe' : Option Code} {W : World} (h : Bk fn a ps assign body B st pe W) :
    Bk fn a ps assign body B st' pe' (W.putObj (B + 1) (.loop (recOf fn a ps assign body B st' pe'))) :=
  ⟨World.putObj_heap_same (lt_of_some h.1), (World.putObj_heap_other (by omega)).trans h.2⟩
theorem Bk.kept {fn : FuncId} {a : Act} {ps : Array Tmp} {assign body : Code} {B : Nat} {st : LoopState} {pe : Option Code} {W W' : World} (h : Bk fn a ps assign body B st pe W) (hk : KeepsFrom B W W') :
    Bk fn a ps assign body B st pe W' := ⟨hk.same _ _ (by omega) h.1 rfl, hk.same _ _ (Nat.le_refl _) h.2 rfl⟩
theorem Bk.abides {fn : FuncId} {a : Act} {ps : Array Tmp} {assign body : Code} {B : Nat} {st : LoopState} {pe : Option Code} {ty : TypeId} {W W' : World} {row : Option Nat} (h : Bk fn a ps assign body B st pe W)
    (hg : W.grownBy W' row) (hr : ∀ r, row = some r → ∃ cs fz, W.heap[r]? = some (.cells cs ty fz)) : Bk fn a ps assign body B st pe W' := by
  have key : ∀ (k : Nat) (o : Obj), W.heap[k]? = some o → o.isCells = false → W'.heap[k]? = some o := fun k o hk ho => by
    refine (hg.block k (lt_of_some hk) ?_).trans hk
    intro e
    obtain ⟨cs, fz, hc⟩ := hr k e.symm
    rw [hk] at hc
    cases hc
    cases ho
  exact ⟨key _ _ h.1 rfl, key _ _ h.2 rfl⟩

/-- A block of another type, or below, stays; so does all below. -/
theorem abC_heap {β : Type} {B : Nat} {ty ty' : TypeId} (hne : ty' ≠ ty) (g : Nat) (f : β → Array Value) : AbC B ty (fun (s : β) W => W.heap[g]? = some (.cells (f s) ty' (0, 0))) := fun s W W' row hs hg hr => by
  refine (hg.block g (lt_of_some hs) ?_).trans hs
  intro e
  obtain ⟨_, cs, fz, hc⟩ := hr g e.symm
  rw [show W.heap[g]? = _ from hs] at hc
  cases hc
  exact hne rfl
theorem abC_below {β : Type} {B B' : Nat} {ty : TypeId} (hB : B' ≤ B) (w : World) (hw : B' ≤ w.heap.size) : AbC B ty (fun (_ : β) W => Below B' w W) := fun s W W' row hs hg hr =>
  hs.grown hg (Nat.le_trans hw hs.size) (fun k e => by have := (hr k e).1; omega)
theorem abC_pure {β : Type} {B : Nat} {ty : TypeId} (p : β → Prop) : AbC B ty (fun (s : β) _ => p s) := fun _ _ _ _ hs _ _ => hs
theorem AbC.and {β : Type} {B : Nat} {ty : TypeId} {I J : β → World → Prop} (h : AbC B ty I) (k : AbC B ty J) : AbC B ty (fun s W => I s W ∧ J s W) := fun s W W' row hs hg hr => ⟨h s W W' row hs.1 hg hr, k s W W' row hs.2 hg hr⟩
theorem AbR.and {β : Type} {B : Nat} {I J : β → World → Prop} (h : AbR B I) (k : AbR B J) : AbR B (fun s W => I s W ∧ J s W) := fun s W l o o' hs hl ho hc => ⟨h s W l o o' hs.1 hl ho hc, k s W l o o' hs.2 hl ho hc⟩
theorem abR_pure {β : Type} {B : Nat} (p : β → Prop) : AbR B (fun (s : β) _ => p s) := fun _ _ _ _ _ hs _ _ _ => hs
theorem abR_cells {β : Type} {B : Nat} {ty : TypeId} (g : Nat) (f : β → Array Value) : AbR B (fun (s : β) W => W.heap[g]? = some (.cells (f s) ty (0, 0))) := fun s W l o o' hs hl ho hc => by
  refine (World.putObj_heap_other ?_).trans hs
  intro e
  subst e
  rw [show W.heap[g]? = _ from hs] at ho
  cases ho
  cases hc
theorem abR_below {β : Type} {B B' : Nat} (hB : B' ≤ B) (w : World) : AbR B (fun (_ : β) W => Below B' w W) := fun s W l o o' hs hl ho hc =>
  ⟨hs.os, hs.tape, hs.output, by have := hs.size; simpa using this, fun k hk => (World.putObj_heap_other (by omega)).trans (hs.block k hk)⟩
/-- A box that holds a slice of integers of the call's own. -/
def BoxI (W : World) (g ty base : Nat) (l : List Int) : Prop := ∃ v, W.heap[g]? = some (.cells #[v] ty (0, 0)) ∧ Own W base v l
theorem heap_abides {B ty t g : Nat} {W W' : World} {row : Option Nat} {cs : Array Value} {fz : Nat × Nat} (hne : t ≠ ty) (hs : W.heap[g]? = some (.cells cs t fz)) (hg : W.grownBy W' row) (hr : ∀ r, row = some r → B ≤ r ∧ ∃ cs fz, W.heap[r]? = some (.cells cs ty fz)) : W'.heap[g]? = some (.cells cs t fz) := by
  refine (hg.block g (lt_of_some hs) ?_).trans hs
  intro e
  obtain ⟨_, cs, fz, hc⟩ := hr g e.symm
  rw [hs] at hc
  cases hc
  exact hne rfl
theorem heap_turned {B t g l : Nat} {W : World} {o : Obj} {cs : Array Value} {fz : Nat × Nat} (hs : W.heap[g]? = some (.cells cs t fz)) (ho : W.heap[l]? = some o) (hc : o.isCells = false) (o' : Obj) : (W.putObj l o').heap[g]? = some (.cells cs t fz) := by
  refine (World.putObj_heap_other ?_).trans hs
  intro e
  subst e
  rw [hs] at ho
  cases ho
  cases hc
theorem abC_boxI {β : Type} {B ty t : Nat} (h1 : t ≠ ty) (h2 : 3 ≠ ty) (g base : Nat) (f : β → List Int) : AbC B ty (fun (s : β) W => BoxI W g t base (f s)) := fun s W W' row hs hg hr => by
  obtain ⟨v, hv, h3, ho⟩ := hs
  refine ⟨v, heap_abides h1 hv hg hr, h3, ?_⟩
  rcases ho with ho | ⟨b, cap, cur, e, hb, hh, hrest⟩
  · exact .inl ho
  · exact .inr ⟨b, cap, cur, e, hb, heap_abides h2 hh hg hr, hrest⟩
theorem abR_boxI {β : Type} {B t : Nat} (g base : Nat) (f : β → List Int) : AbR B (fun (s : β) W => BoxI W g t base (f s)) := fun s W l o o' hs hl ho hc => by
  obtain ⟨v, hv, h3, hw⟩ := hs
  refine ⟨v, heap_turned (B := B) hv ho hc o', h3, ?_⟩
  rcases hw with hw | ⟨b, cap, cur, e, hb, hh, hrest⟩
  · exact .inl hw
  · exact .inr ⟨b, cap, cur, e, hb, heap_turned (B := B) hh ho hc o', hrest⟩

section
variable {α : Type} {F : Fence} {n : Nat} {P : Program} {ps : Array Tmp} {assign body : Code} {a : Act} {ty : TypeId}
/-- One round, behind the yield. -/
theorem round_c {fn : FuncId} {B N : Nat} (hfn : F.fn fn) {encs : α → Array Value} (hps : ∀ x, (encs x).size = ps.size) (I : List α → World → Prop) (Ix : Code → List α → World → Prop) (hI : AbR B I) (hIx : ∀ c, AbR B (Ix c)) (a₁ : α → Act)
    (hassign : ∀ (l : Nat) (x : α) (W : World) (K : Act → World → Prop), K (a₁ x) W →
      assign.wpIn (F.inRound l) (n - 1 - 1) P (Exit.then K (fun _ _ _ => False)) { tmps := (ps.zip (encs x)).foldl (fun t (p, v) => t.setIfInBounds p v) a.tmps, defers := [] } W)
    (hbody : ∀ (l : Nat) (pre : List α) (x : α) (W : World), I pre W → pre.length < N → body.wpIn (F.inRound l) (n - 1 - 1) P (EndC B ty I Ix (pre ++ [x]) W) (a₁ x) W)
    (pre : List α) (x : α) (W : World) (hi : I pre W) (hk : Bk fn a ps assign body B .ready none W) (hlen : pre.length < N) :
    YieldAt F (n - 1 - 1) P (B + 1) (encs x) W fun e W' =>
      (e = .returned (.bool true) ∧ (I (pre ++ [x]) W' ∧ Bk fn a ps assign body B .ready none W') ∧ KT ty W W') ∨ (e = .returned (.bool false) ∧ ∃ c, Ix c (pre ++ [x]) W' ∧ Bk fn a ps assign body B .done (some c) W') := by
  refine ⟨fn, _, assign, body, run_yield (P := P) (args := encs x) hk.1 (hps x), roundIn_of_wpIn hfn (hassign _ x W _ ⟨_, run_beginRound hk.1 rfl, ?_⟩)⟩
  have hk2 : Bk fn a ps assign body B .busy none (W.putObj (B + 1) (.loop (recOf fn a ps assign body B .busy none))) := hk.turn
  have t2 : KT ty W (W.putObj (B + 1) (.loop (recOf fn a ps assign body B .busy none))) := KT.putObj hk.1 rfl _
  refine wpIn_mono (hbody _ pre x _ (hI _ _ _ _ _ hi (by omega) hk.1 rfl) hlen) ?_
  rintro e a3 W3 hp
  cases e with
  | normal =>
    obtain ⟨h1, h2, h3⟩ := hp
    have h4 := hk2.kept h1
    exact ⟨_, _, run_endRound (P := P) none h4.1, .inl ⟨rfl, ⟨hI _ _ _ _ _ h3 (by omega) h4.1 rfl, h4.turn⟩, (t2.trans h2).trans (KT.putObj h4.1 rfl _)⟩⟩
  | ret =>
    obtain ⟨h1, h3⟩ := hp
    have h4 := hk2.kept h1
    exact ⟨_, _, run_endRound (P := P) (some .ret) h4.1, .inr ⟨rfl, .ret, hIx _ _ _ _ _ _ h3 (by omega) h4.1 rfl, h4.turn⟩⟩
  | exit id =>
    obtain ⟨h1, h3⟩ := hp
    have h4 := hk2.kept h1
    exact ⟨_, _, run_endRound (P := P) (some (.exit id)) h4.1, .inr ⟨rfl, .exit id, hIx _ _ _ _ _ _ h3 (by omega) h4.1 rfl, h4.turn⟩⟩
  | goto t => exact hp.elim
  | panic ch => exact hp.elim
  | outgrown => exact hp.elim

/-- The law. -/
theorem range_c {g : Operand} {Q : Exit → Act → World → Prop} {w : World} (hro : F.round = none) (h1 : 1 ≤ n) {gf : Nat} {lb : Array Value} (hg : a.eval g = .func (.func gf) #[] lb) (hFg : F.fn gf)
    (eg : ∀ args w, (callFunc gf args).run P w = .ok (.enter gf args) w) {encs : α → Array Value} {S Sp : List α → World → Prop} {N : Nat} {B0 : Nat} (hseq : SeqC B0 F (n - 1) P gf lb encs ty S Sp N w)
    (hS : AbR w.heap.size S) (hSp : AbR w.heap.size Sp) (hps : ∀ x, (encs x).size = ps.size)
    (I : List α → World → Prop) (Ix : Code → List α → World → Prop) (hI : AbR w.heap.size I) (hIx : ∀ c, AbR w.heap.size (Ix c)) (hJ : AbC B0 ty I) (hJx : ∀ c, AbC B0 ty (Ix c)) (h0 : I [] w) (a₁ : α → Act)
    (hassign : ∀ (l : Nat) (x : α) (W : World) (K : Act → World → Prop), K (a₁ x) W →
      assign.wpIn (F.inRound l) (n - 1 - 1) P (Exit.then K (fun _ _ _ => False)) { tmps := (ps.zip (encs x)).foldl (fun t (p, v) => t.setIfInBounds p v) a.tmps, defers := [] } W)
    (hbody : ∀ (l : Nat) (pre : List α) (x : α) (W : World), I pre W → pre.length < N → body.wpIn (F.inRound l) (n - 1 - 1) P (EndC w.heap.size ty I Ix (pre ++ [x]) W) (a₁ x) W)
    (hdone : ∀ (D : Nat) (xs : List α) (W : World), w.heap.size ≤ D → S xs W → I xs W → W.heap[D]? = some (.deferred (some [])) → Q .normal { a with defers := { target := .collected D, args := #[] } :: a.defers } W)
    (hstop : ∀ (D : Nat) (c : Code) (pre : List α) (W : World), w.heap.size ≤ D → Sp pre W → Ix c pre W → W.heap[D]? = some (.deferred (some [])) → c.wpIn F n P Q { a with defers := { target := .collected D, args := #[] } :: a.defers } W) :
    (Code.rangeFunc g ps assign body).wpIn F n P Q a w := by
  refine wpIn_rangeFunc fun fn hfn => ?_
  rw [hro]
  have hb1 : Below w.heap.size w ((w.alloc (.deferred (some []))).alloc (.loop (recOf fn a ps assign body w.heap.size .ready none))) := (((Below.refl _ _).alloc (Nat.le_refl _) _).alloc (by simp only [World.size_alloc] <;> omega) _)
  have hk1 : Bk fn a ps assign body w.heap.size .ready none ((w.alloc (.deferred (some []))).alloc (.loop (recOf fn a ps assign body w.heap.size .ready none))) := ⟨h2_1 _ _ _, h2_0 _ _ _⟩
  refine ⟨w.heap.size + 1, [{ target := .collected w.heap.size, args := #[] }], (w.alloc (.deferred (some []))).alloc (.loop (recOf fn a ps assign body w.heap.size .ready none)), { target := .fn (.func gf) lb, args := #[.func (.yield (w.heap.size + 1)) #[] #[]] }, (w.alloc (.deferred (some []))).alloc (.loop (recOf fn a ps assign body w.heap.size .ready none)), gf, #[.func (.yield (w.heap.size + 1)) #[] #[]] ++ lb, (w.alloc (.deferred (some []))).alloc (.loop (recOf fn a ps assign body w.heap.size .ready none)), run_enterLoop_outer _ _ _ _ _, ?_, ?_, ?_, fun _ => h1, ?_⟩
  · simp only [resolve, hg]
    simp [go_sem]
  · intro f' hf'
    simp [Target.leads] at hf'
    subst hf'
    exact hFg
  · simp [invoke, go_sem, eg]
  · refine (hseq (w.heap.size + 1) (fun pre W => I pre W ∧ Bk fn a ps assign body w.heap.size .ready none W) (fun pre W => ∃ c, Ix c pre W ∧ Bk fn a ps assign body w.heap.size .done (some c) W) _ hb1
      (fun s A B row hs hg' hr => ⟨hJ s A B row hs.1 hg' hr, hs.2.abides hg' (fun r e => (hr r e).2)⟩) (fun s A B row hs hg' hr => by
        obtain ⟨c, hc, hk⟩ := hs
        exact ⟨c, hJx c s A B row hc hg' hr, hk.abides hg' (fun r e => (hr r e).2)⟩)
      (fun pre x W hs hlen => round_c hfn hps I Ix hI hIx a₁ hassign hbody pre x W hs.1 hs.2 hlen)
      ⟨hJ.below h0 hb1, hk1⟩).mono ?_
    rintro e W2 ⟨⟨v, rfl⟩, (⟨xs, hx, hi, hk⟩ | ⟨pre, hx, c, hi, hk⟩)⟩
    · exact ⟨none, _, run_endLoop (P := P) hk.1 (by simp [recOf]), hdone _ xs _ (Nat.le_refl _) (hS _ _ _ _ _ hx (by omega) hk.1 rfl) (hI _ _ _ _ _ hi (by omega) hk.1 rfl) ((World.putObj_heap_other (by omega)).trans hk.2)⟩
    · exact ⟨some c, _, run_endLoop (P := P) hk.1 (by simp [recOf]), hstop _ c pre _ (Nat.le_refl _) (hSp _ _ _ _ _ hx (by omega) hk.1 rfl) (hIx c _ _ _ _ _ hi (by omega) hk.1 rfl) ((World.putObj_heap_other (by omega)).trans hk.2)⟩
end
end Go.Proofs.Ytgdcgmnfgbdiiaa
