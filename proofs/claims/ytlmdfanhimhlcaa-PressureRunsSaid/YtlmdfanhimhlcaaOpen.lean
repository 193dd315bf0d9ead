/- How the arguments of this seat's laws read: helper facts, no statement of the seat. -/
import Derived.Test.YtlmdfanhimhlcaaG
import Derived.ProofKit
import Derived.OpenShut
import Derived.Lib.SmallJoins
namespace Go.Proofs.Ytlmdfanhimhlcaa
open Go.ChangeShapes Go.WideShapes Go.ChangeAt Go.RowKit Go.Joins
set_option linter.unusedSimpArgs false
set_option linter.unusedVariables false
set_option linter.unnecessarySimpa false

theorem spot_of {w : World} {a : Addr} {v : Value} (h : w.cell? a = some v) : a.spot = none := by
  unfold World.cell? at h
  split at h
  · by_cases hs : a.spot.isSome = true
    · rw [if_pos hs] at h; cases h
    · simpa using hs
  · cases h
theorem add_plain (b off k : Nat) : (⟨b, off, none⟩ : Addr).add k = ⟨b, off + k, none⟩ := by
  unfold Addr.add
  by_cases h : k = 0
  · subst h; simp
  · simp [h]

section
variable {H : Type} {enc : TypeId × Value → H} {W : World} {b base : Nat} {spare : Nat → Bool} {held : Bool} {v : Value} {d : DataW H} {p : List MemPlace} {r : Reach}

theorem open_m (hv : Value.okWide Try.prog W r b 23 v) (h : DataW.Trod enc Try.prog W base spare held 23 v d p) : ∃ a b c : Int, v = MV a b c := by
  obtain ⟨c0, c1, c2, y0, y1, y2, m, rfl, rfl, rfl, hy0, hy1, hy2⟩ := open_agg3 Try.underlying23 (by kernel_rfl) (by kernel_rfl) hv h
  obtain ⟨a, e0, _, _⟩ := DataW.trod_int Try.underlying3 hy0
  obtain ⟨n, e1, _, _⟩ := DataW.trod_int Try.underlying3 hy1
  obtain ⟨x, e2, _, wx⟩ := DataW.trod_int Try.underlying3 hy2
  simp only [List.cons.injEq, and_true] at e0 e1 e2
  subst e0 e1 e2
  exact ⟨a, n, x, rfl⟩
theorem open_nums (hv : Value.okWide Try.prog W r b 36 v) (h : DataW.Trod enc Try.prog W base spare held 36 v d p) :
    ∃ a n cap, v = .slice a n cap ∧ n ≤ 9223372036854775807 ∧ (n = 0 ∨ ∃ bb off, ∃ zs : List Int, a = some ⟨bb, off, none⟩ ∧ n ≤ zs.length ∧ ∀ k, k < n → W.cell? ⟨bb, off + k, none⟩ = some (.int .i64 (zs.getD k 0))) := by
  obtain ⟨a, n, cap, rfl⟩ := okWide_slice Try.underlying36 hv
  obtain ⟨fu, hf⟩ := h
  rcases open_ints Try.underlying36 Try.underlying3 (by kernel_rfl) hf with ⟨h0, _⟩ | ⟨a', len, cap', zs, hcs, _, hl, hm, hz, _, hi, _⟩
  · simp only [Value.cells, List.cons.injEq, and_true] at h0
    cases h0
    exact ⟨_, _, _, rfl, by omega, .inl rfl⟩
  · simp only [Value.cells, List.cons.injEq, and_true] at hcs
    cases hcs
    have hlm : n ≤ zs.length := by rw [hz]; split <;> omega
    unfold maxLen at hm
    refine ⟨_, _, _, rfl, by omega, ?_⟩
    by_cases h0 : n = 0
    · exact .inl h0
    · right
      obtain ⟨bb, off, sp⟩ := a'
      obtain rfl : sp = none := spot_of (hi 0 (by omega))
      exact ⟨bb, off, zs, rfl, hlm, fun k hk => by have := hi k (by omega); rwa [add_plain] at this⟩
end
end Go.Proofs.Ytlmdfanhimhlcaa
