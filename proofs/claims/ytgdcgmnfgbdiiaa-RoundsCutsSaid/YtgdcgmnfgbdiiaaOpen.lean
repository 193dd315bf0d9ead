/- How the arguments of this seat's laws read: helper facts, no statement of the seat. -/
import Derived.Test.YtgdcgmnfgbdiiaaK
import Derived.Test.YtgdcgmnfgbdiiaaI
import Derived.Test.YtgdcgmnfgbdiiaaComAt
import Derived.ProofKit
import Derived.OpenShut
import Derived.Lib.SmallJoins
import Derived.Deep.SlicePairs
namespace Go.Proofs.Ytgdcgmnfgbdiiaa
open Go.ChangeShapes Go.WideShapes Go.ChangeAt Go.WideMaps Go.WideElems Go.RowKit Go.Joins
set_option linter.unusedSimpArgs false
set_option linter.unusedVariables false
set_option linter.unnecessarySimpa false

theorem spot_of {w : World} {a : Addr} {v : Value} (h : w.cell? a = some v) : a.spot = none := by
  unfold World.cell? at h
  split at h
  · by_cases hs : a.spot.isSome = true
    · rw [if_pos hs] at h; cases h
    · simpa using hs
  · cases h
theorem add_plain (b off k : Nat) : (⟨b, off, none⟩ : Addr).add k = ⟨b, off + k, none⟩ := by
  unfold Addr.add
  by_cases h : k = 0
  · subst h; simp
  · simp [h]
/-- A slice that reads as integers where it is not too long. -/
def Ints? (W : World) (a : Option Addr) (n cap : Nat) : Prop := n ≤ 9223372036854775807 ∧ (n ≤ 4294967296 → ∃ l, l.length = n ∧ IsInts W (.slice a n cap) l)

section
variable {H : Type} {enc : TypeId × Value → H} {W : World} {b base : Nat} {spare : Nat → Bool} {held : Bool} {v : Value} {d : DataW H} {p : List MemPlace} {r : Reach}

theorem open_row {fu : Nat} {c : Value} {y : DataW H × List MemPlace} (hf : DataW.trod enc Try.prog W base spare held fu 22 [c] = some y) :
    ∃ a n cap, c = .slice a n cap ∧ n ≤ 9223372036854775807 ∧ (n = 0 ∨ ∃ bb off, ∃ zs : List Int, a = some ⟨bb, off, none⟩ ∧ n ≤ zs.length ∧ ∀ k, k < n → W.cell? ⟨bb, off + k, none⟩ = some (.int .i64 (zs.getD k 0))) := by
  rcases open_ints Try.underlying22 Try.underlying3 (by kernel_rfl) hf with ⟨h0, _⟩ | ⟨a', len, cap', zs, hcs, _, hl, hm, hz, _, hi, _⟩
  · simp only [List.cons.injEq, and_true] at h0
    cases h0
    exact ⟨_, _, _, rfl, by omega, .inl rfl⟩
  · simp only [List.cons.injEq, and_true] at hcs
    cases hcs
    have hlm : len ≤ zs.length := by rw [hz]; split <;> omega
    unfold maxLen at hm
    refine ⟨_, _, _, rfl, by omega, ?_⟩
    by_cases h0 : len = 0
    · exact .inl h0
    · right
      obtain ⟨bb, off, sp⟩ := a'
      obtain rfl : sp = none := spot_of (hi 0 (by omega))
      exact ⟨bb, off, zs, rfl, hlm, fun k hk => by have := hi k (by omega); rwa [add_plain] at this⟩
theorem open_nums (hv : Value.okWide Try.prog W r b 22 v) (h : DataW.Trod enc Try.prog W base spare held 22 v d p) :
    ∃ a n cap, v = .slice a n cap ∧ n ≤ 9223372036854775807 ∧ SomeInts W a n := by
  obtain ⟨a, n, cap, rfl⟩ := okWide_slice Try.underlying22 hv
  obtain ⟨fu, hf⟩ := h
  obtain ⟨a', n', cap', e, h1, h2⟩ := open_row hf
  cases e
  exact ⟨_, _, _, rfl, h1, h2⟩
theorem ints_of {a : Option Addr} {n cap : Nat} (h1 : n ≤ 9223372036854775807) (h2 : n = 0 ∨ ∃ bb off, ∃ zs : List Int, a = some ⟨bb, off, none⟩ ∧ n ≤ zs.length ∧ ∀ k, k < n → W.cell? ⟨bb, off + k, none⟩ = some (.int .i64 (zs.getD k 0))) : Ints? W a n cap := by
  refine ⟨h1, fun hn => ?_⟩
  rcases h2 with rfl | ⟨bb, off, zs, rfl, hz, hc⟩
  · exact ⟨[], rfl, IsInts.nil _ _ _⟩
  · refine ⟨zs.take n, by simp; omega, _, _, _, rfl, by simp; omega, by simp; omega, .inr ⟨bb, off, rfl, fun k hk => ?_⟩⟩
    have hk2 : k < n := by simp at hk; omega
    rw [hc k hk2]
    simp [List.getD, List.getElem?_take, hk2]
theorem open_mo (hv : Value.okWide Try.prog W r b 25 v) (h : DataW.Trod enc Try.prog W base spare held 25 v d p) :
    ∃ a n c a' n' c', v = .agg #[.slice a n c, .slice a' n' c'] ∧ Ints? W a n c ∧ Ints? W a' n' c' := by
  obtain ⟨c0, c1, y0, y1, m, rfl, rfl, rfl, hy0, hy1⟩ := open_agg2 Try.underlying25 (by kernel_rfl) (by kernel_rfl) hv h
  obtain ⟨a, n, c, rfl, h1, h2⟩ := open_row hy0
  obtain ⟨a', n', c', rfl, h3, h4⟩ := open_row hy1
  exact ⟨_, _, _, _, _, _, rfl, ints_of h1 h2, ints_of h3 h4⟩
theorem open_log (hv : Value.okWide Try.prog W r b 26 v) (h : DataW.Trod enc Try.prog W base spare held 26 v d p) : ∃ a n cap, v = .slice a n cap ∧ n ≤ 9223372036854775807 ∧ n ≤ cap ∧ (n ≤ 4294967296 → ∃ l, l.length = n ∧ IsLog W (.slice a n cap) l) := by
  obtain ⟨a, n, cap, rfl⟩ := okWide_slice Try.underlying26 hv
  obtain ⟨fu, hf⟩ := h
  rcases Go.Deep.open_slice_pairs Try.underlying26 Try.underlying37 (by kernel_rfl) rfl rfl (by kernel_rfl) (by kernel_rfl) hf with ⟨h0, _⟩ | ⟨a', len, cap', m, k, V0, V1, D0, D1, P0, P1', hcs, _, hl, hmx, hm, _, hi⟩
  · simp only [Value.cells, List.cons.injEq, and_true] at h0
    cases h0
    exact ⟨_, _, _, rfl, by omega, by omega, fun _ => ⟨[], rfl, IsLog.nil _ _ _⟩⟩
  · simp only [Value.cells, List.cons.injEq, and_true] at hcs
    cases hcs
    have hlm : n ≤ m := by rw [hm]; split <;> omega
    have hex : ∀ i : Nat, ∃ x : Int × Int, i < n → W.cell? (a'.add (i * 2)) = some (.int .i64 x.1) ∧ W.cell? (a'.add (i * 2 + 1)) = some (.int .i64 x.2) := by
      intro i
      by_cases h8 : i < n
      · obtain ⟨h1, h2, h3, h4⟩ := hi i (by omega)
        obtain ⟨x, e0, _, _⟩ := DataW.trod_int Try.underlying3 h3
        obtain ⟨y, e1, _, _⟩ := DataW.trod_int Try.underlying3 h4
        simp only [List.cons.injEq, and_true] at e0 e1
        rw [e0] at h1
        rw [e1] at h2
        exact ⟨(x, y), fun _ => ⟨h1, h2⟩⟩
      · exact ⟨(0, 0), fun h => absurd h h8⟩
    let f : Nat → Int × Int := fun i => Classical.choose (hex i)
    have hf : ∀ i, i < n → W.cell? (a'.add (i * 2)) = some (.int .i64 (f i).1) ∧ W.cell? (a'.add (i * 2 + 1)) = some (.int .i64 (f i).2) := fun i => Classical.choose_spec (hex i)
    unfold maxLen at hmx
    refine ⟨_, _, _, rfl, by omega, by omega, fun hn => ⟨(List.range n).map f, by simp, _, _, _, rfl, by simp, by simp; omega, ?_⟩⟩
    by_cases h0 : n = 0
    · subst h0; exact .inl rfl
    · right
      obtain ⟨bb, off, sp⟩ := a'
      obtain rfl : sp = none := spot_of (hf 0 (by omega)).1
      refine ⟨bb, off, rfl, fun k hk => ?_⟩
      have hk2 : k < n := by simpa using hk
      obtain ⟨h1, h2⟩ := hf k hk2
      have e : ((List.range n).map f).getD k (0, 0) = f k := by simp [List.getD, hk2]
      rw [e]
      rw [add_plain] at h1 h2
      exact ⟨h1, h2⟩
end
end Go.Proofs.Ytgdcgmnfgbdiiaa
