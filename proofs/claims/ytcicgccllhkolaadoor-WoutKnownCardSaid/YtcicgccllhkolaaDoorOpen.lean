/- How the arguments of this seat's laws read, and the package variable: helper facts, no statement of the seat. -/
import Derived.Test.YtcicgccllhkolaaDoorQ
import Derived.Test.YtcicgccllhkolaaDoorTie
import Derived.Test.YtcicgccllhkolaaDoorCards
import Derived.ProofKit
import Derived.OpenShut
import Derived.LaidMore
import Derived.Stop.Joined
import Derived.Lib.SmallJoins
import Derived.Deep.SlicePairs
namespace Go.Proofs.YtcicgccllhkolaaDoor
open Go.ChangeShapes Go.WideShapes Go.ChangeAt Go.WideMaps Go.WideElems Go.RowKit Go.Joins
set_option linter.unusedSimpArgs false
set_option linter.unusedVariables false
set_option linter.unnecessarySimpa false

theorem spot_of {w : World} {a : Addr} {v : Value} (h : w.cell? a = some v) : a.spot = none := by
  unfold World.cell? at h
  split at h
  · by_cases hs : a.spot.isSome = true
    · rw [if_pos hs] at h; cases h
    · simpa using hs
  · cases h

theorem add_plain (b off k : Nat) : (⟨b, off, none⟩ : Addr).add k = ⟨b, off + k, none⟩ := by
  unfold Addr.add
  by_cases h : k = 0
  · subst h; simp
  · simp [h]

section
variable {H : Type} {enc : TypeId × Value → H} {W : World} {b base : Nat} {spare : Nat → Bool} {held : Bool} {v : Value} {d : DataW H} {p : List MemPlace} {r : Reach}

theorem open_w (hv : Value.okWide Tryd.prog W r b 23 v) (h : DataW.Trod enc Tryd.prog W base spare held 23 v d p) : ∃ s r c : Int, v = WV s r c := by
  obtain ⟨c0, c1, c2, y0, y1, y2, m, rfl, rfl, rfl, hy0, hy1, hy2⟩ := open_agg3 Tryd.underlying23 (by kernel_rfl) (by kernel_rfl) hv h
  obtain ⟨a, e0, _, _⟩ := DataW.trod_int Tryd.underlying3 hy0
  obtain ⟨n, e1, _, _⟩ := DataW.trod_int Tryd.underlying3 hy1
  obtain ⟨x, e2, _, wx⟩ := DataW.trod_int Tryd.underlying3 hy2
  simp only [List.cons.injEq, and_true] at e0 e1 e2
  subst e0 e1 e2
  exact ⟨a, n, x, rfl⟩
theorem open_e (hv : Value.okWide Tryd.prog W r b 32 v) (h : DataW.Trod enc Tryd.prog W base spare held 32 v d p) : ∃ k p : Int, v = EV k p := by
  obtain ⟨c0, c1, y0, y1, m, rfl, rfl, rfl, hy0, hy1⟩ := open_agg2 Tryd.underlying32 (by kernel_rfl) (by kernel_rfl) hv h
  obtain ⟨a, e0, _, _⟩ := DataW.trod_int Tryd.underlying3 hy0
  obtain ⟨n, e1, _, _⟩ := DataW.trod_int Tryd.underlying3 hy1
  simp only [List.cons.injEq, and_true] at e0 e1
  subst e0 e1
  exact ⟨a, n, rfl⟩
theorem open_evs (hv : Value.okWide Tryd.prog W r b 40 v) (h : DataW.Trod enc Tryd.prog W base spare held 40 v d p) : ∃ a n cap, v = .slice a n cap ∧ (n ≤ 40 → ∃ l, IsEvs W v l) := by
  obtain ⟨a, n, cap, rfl⟩ := okWide_slice Tryd.underlying40 hv
  refine ⟨a, n, cap, rfl, fun hn => ?_⟩
  obtain ⟨fu, hf⟩ := h
  rcases Go.Deep.open_slice_pairs Tryd.underlying40 Tryd.underlying32 (by kernel_rfl) rfl rfl (by kernel_rfl) (by kernel_rfl) hf with ⟨h0, _⟩ | ⟨a', len, cap', m, k, V0, V1, D0, D1, P0, P1', hcs, _, hl, _, hm, _, hi⟩
  · simp only [Value.cells, List.cons.injEq, and_true] at h0
    cases h0
    exact ⟨[], _, _, _, rfl, rfl, by simp, .inl rfl⟩
  · simp only [Value.cells, List.cons.injEq, and_true] at hcs
    cases hcs
    have hlm : n ≤ m := by rw [hm]; split <;> omega
    have hex : ∀ i : Nat, ∃ x : Int × Int, i < n → W.cell? (a'.add (i * 2)) = some (.int .i64 x.1) ∧ W.cell? (a'.add (i * 2 + 1)) = some (.int .i64 x.2) := by
      intro i
      by_cases h8 : i < n
      · obtain ⟨h1, h2, h3, h4⟩ := hi i (by omega)
        obtain ⟨x, e0, _, _⟩ := DataW.trod_int Tryd.underlying3 h3
        obtain ⟨y, e1, _, _⟩ := DataW.trod_int Tryd.underlying3 h4
        simp only [List.cons.injEq, and_true] at e0 e1
        rw [e0] at h1
        rw [e1] at h2
        exact ⟨(x, y), fun _ => ⟨h1, h2⟩⟩
      · exact ⟨(0, 0), fun h => absurd h h8⟩
    let f : Nat → Int × Int := fun i => Classical.choose (hex i)
    have hf : ∀ i, i < n → W.cell? (a'.add (i * 2)) = some (.int .i64 (f i).1) ∧ W.cell? (a'.add (i * 2 + 1)) = some (.int .i64 (f i).2) := fun i => Classical.choose_spec (hex i)
    refine ⟨(List.range n).map f, _, _, _, rfl, by simp, by simp; omega, ?_⟩
    by_cases h0 : n = 0
    · subst h0; exact .inl rfl
    · right
      obtain ⟨bb, off, sp⟩ := a'
      obtain rfl : sp = none := spot_of (hf 0 (by omega)).1
      refine ⟨bb, off, rfl, fun k hk => ?_⟩
      have hk2 : k < n := by simpa using hk
      obtain ⟨h1, h2⟩ := hf k hk2
      have e : ((List.range n).map f).getD k (0, 0) = f k := by simp [List.getD, hk2]
      rw [e]
      rw [add_plain] at h1 h2
      exact ⟨h1, h2⟩
theorem open_nums (hv : Value.okWide Tryd.prog W r b 43 v) (h : DataW.Trod enc Tryd.prog W base spare held 43 v d p) :
    ∃ a n cap, v = .slice a n cap ∧ n ≤ 9223372036854775807 ∧ (n = 0 ∨ ∃ bb off, ∃ zs : List Int, a = some ⟨bb, off, none⟩ ∧ ∀ k, k < n → W.cell? ⟨bb, off + k, none⟩ = some (.int .i64 (zs.getD k 0))) := by
  obtain ⟨a, n, cap, rfl⟩ := okWide_slice Tryd.underlying43 hv
  obtain ⟨fu, hf⟩ := h
  rcases open_ints Tryd.underlying43 Tryd.underlying3 (by kernel_rfl) hf with ⟨h0, _⟩ | ⟨a', len, cap', zs, hcs, _, hl, hm, hz, _, hi, _⟩
  · simp only [Value.cells, List.cons.injEq, and_true] at h0
    cases h0
    exact ⟨_, _, _, rfl, by omega, .inl rfl⟩
  · simp only [Value.cells, List.cons.injEq, and_true] at hcs
    cases hcs
    have hlm : n ≤ zs.length := by rw [hz]; split <;> omega
    unfold maxLen at hm
    refine ⟨_, _, _, rfl, by omega, ?_⟩
    by_cases h0 : n = 0
    · exact .inl h0
    · right
      obtain ⟨bb, off, sp⟩ := a'
      obtain rfl : sp = none := spot_of (hi 0 (by omega))
      exact ⟨bb, off, zs, rfl, fun k hk => by have := hi k (by omega); rwa [add_plain] at this⟩
end

theorem own : ownKnob Tryd.prog.godebug = none := by kernel_rfl
theorem laidOut : laidOutB Tryd.prog = true := by kernel_rfl
theorem gClaim : Tryd.prog.globalNamed "headgate/headgatelaw20.claim" = some 0 := by kernel_rfl
theorem tClaim : (Tryd.prog.globals[0]?).map (·.type) = some 32 := by kernel_rfl
/-- What the rows list. -/
def laidL : List (String × DataW Unit) := [("headgate/headgatelaw20.claim", Rows.laid_headgate_headgatelaw20_claim)]
theorem door_met (os : Os) (args : Array Value) : laidMetH Tryd.prog laidL ((World.doorLaid Tryd.prog 14 os).forCall (fun _ _ => 0) ⟨#[], args, []⟩).memory :=
  laidMetH_of_parts3 (fuel := 8) (laidMet_of_run' 8 (by kernel_rfl) (by kernel_rfl)) (by kernel_rfl) (by kernel_rfl)
/-- What the condition gives the walks: the variable's two cells. -/
theorem of_laid {W : World} (h : laidMetH Tryd.prog laidL W) : CL W := by
  rw [MakeChecks.laidMetH_plain _ _ _ (by kernel_rfl)] at h
  obtain ⟨ps, ⟨g0, t0, cs0, f0, p0, q0, hg0, ht0, hv0, hd0, _, _⟩, _, _⟩ := h
  obtain rfl := Option.some.inj (gClaim.symm.trans hg0)
  obtain rfl := Option.some.inj (tClaim.symm.trans ht0)
  obtain ⟨xs, n', hn', hy, hlen, hyl, hf⟩ := DataW.trod_struct Tryd.underlying32 hd0
  have c32 : Tryd.prog.cellsOf 32 = 2 := by kernel_rfl
  have c3' : Tryd.prog.cellsOf 3 = 1 := by kernel_rfl
  have v0 := World.var?_cell hg0 hv0 0
  have v1 := World.var?_cell hg0 hv0 1
  obtain ⟨cl⟩ := cs0
  have g0 := hf 0 _ rfl
  have g1 := hf 1 _ rfl
  match cl, hlen.trans c32, xs, hyl with
  | [a0, a1], _, [y0, y1], _ =>
    have g0' : DataW.trod (fun _ => ()) Tryd.prog W 0 (fun _ => true) false n' 3 (List.take (Tryd.prog.cellsOf 3) [a0, a1]) = some y0 := g0
    have g1' : DataW.trod (fun _ => ()) Tryd.prog W 0 (fun _ => true) false n' 3 (List.take (Tryd.prog.cellsOf 3) [a1]) = some y1 := g1
    rw [c3'] at g0' g1'
    simp only [List.take_succ_cons, List.take_zero] at g0' g1'
    obtain ⟨x, e0, e0', _⟩ := DataW.trod_int Tryd.underlying3 g0'
    obtain ⟨y, e1, e1', _⟩ := DataW.trod_int Tryd.underlying3 g1'
    simp only [List.cons.injEq, and_true] at e0 e1
    subst e0 e1
    rw [e0', e1'] at hy
    simp [Rows.laid_headgate_headgatelaw20_claim] at hy
    obtain ⟨⟨rfl, rfl⟩, _⟩ := hy
    exact ⟨by simpa using v0, by simpa using v1⟩
end Go.Proofs.YtcicgccllhkolaaDoor
