/- How the arguments of this seat's laws read: helper facts, no statement of the seat. -/
import Derived.Test.YtbdhjiadomifeaaD
import Derived.ProofKit
import Derived.OpenShut
import Derived.Lib.SmallJoins
namespace Go.Proofs.Ytbdhjiadomifeaa
open Go.ChangeShapes Go.WideShapes Go.ChangeAt Go.RowKit Go.Joins
set_option linter.unusedSimpArgs false
set_option linter.unusedVariables false
set_option linter.unnecessarySimpa false

theorem u64_nat {n : Int} (h : (Lit.int .u64 n).wf = true) : ∃ x : Nat, n = x ∧ x < 18446744073709551616 := by
  have := bounds_u64 h
  exact ⟨n.toNat, by omega, by omega⟩

theorem cells_one {k : Nat} {cs : List Value} {v : Value} (h : (cs.drop k).take 1 = [v]) : cs[k]? = some v := by
  have : ((cs.drop k).take 1)[0]? = some v := by rw [h]; rfl
  simpa [List.getElem?_take, List.getElem?_drop] using this

section
variable {H : Type} {enc : TypeId × Value → H} {W : World} {b base : Nat} {spare : Nat → Bool} {held : Bool} {v : Value} {d : DataW H} {p : List MemPlace} {r : Reach}

theorem open_u64 (hv : Value.okWide Try.prog W r b 22 v) (h : DataW.Trod enc Try.prog W base spare held 22 v d p) : ∃ x : Nat, x < 18446744073709551616 ∧ v = .int .u64 x := by
  obtain ⟨n, rfl, rfl, rfl, wn⟩ := open_int Try.underlying22 hv h
  obtain ⟨x, rfl, hx⟩ := u64_nat wn
  exact ⟨x, hx, rfl⟩

theorem open_page (hv : Value.okWide Try.prog W r b 24 v) (h : DataW.Trod enc Try.prog W base spare held 24 v d p) : ∃ c, Pg c ∧ v = .agg (W8 c) := by
  simp only [Value.okWide, Try.underlying24] at hv
  obtain ⟨cs, rfl, hsz, _⟩ := hv
  obtain ⟨fuel, hf⟩ := h
  obtain ⟨xs, m, _, _, hl, hx, hi⟩ := DataW.trod_array Try.underlying24 hf
  have hc22 : Try.prog.cellsOf 22 = 1 := by kernel_rfl
  have hc24 : Try.prog.cellsOf 24 = 8 := by kernel_rfl
  simp only [hc22, Nat.mul_one, Value.cells] at hi
  have hex : ∀ i : Nat, ∃ x : Nat, i < 8 → x < 18446744073709551616 ∧ cs[i]? = some (.int .u64 (x : Int)) := by
    intro i
    by_cases h8 : i < 8
    · have h1 := hi i h8
      rw [List.getElem?_eq_getElem (by omega)] at h1
      obtain ⟨n, e1, _, wn⟩ := DataW.trod_int Try.underlying22 h1
      obtain ⟨x, rfl, hx⟩ := u64_nat wn
      exact ⟨x, fun _ => ⟨hx, by simpa using cells_one e1⟩⟩
    · exact ⟨0, fun h => absurd h h8⟩
  let f : Nat → Nat := fun i => Classical.choose (hex i)
  have hf : ∀ i, i < 8 → f i < 18446744073709551616 ∧ cs[i]? = some (.int .u64 (f i : Int)) := fun i => Classical.choose_spec (hex i)
  refine ⟨(List.range 8).map f, ⟨by simp, ?_⟩, ?_⟩
  · intro x hx
    simp only [List.mem_map, List.mem_range] at hx
    obtain ⟨i, h8, rfl⟩ := hx
    exact (hf i h8).1
  · congr 1
    apply Array.ext_getElem?
    intro i
    by_cases h8 : i < 8
    · rw [(hf i h8).2]
      simp [W8, h8]
    · have e1 : cs[i]? = none := by simp; omega
      have hn : ((List.range 8).map f).length ≤ i := by simp only [List.length_map, List.length_range]; omega
      have e2 : (W8 ((List.range 8).map f))[i]? = none := by rw [Array.getElem?_eq_none_iff, W8_size]; exact hn
      rw [e1, e2]

theorem open_ask (hv : Value.okWide Try.prog W r b 26 v) (h : DataW.Trod enc Try.prog W base spare held 26 v d p) : ∃ (a n : Int) (x : Nat), x < 18446744073709551616 ∧ v = .agg #[.int .i64 a, .int .i64 n, .int .u64 x] := by
  obtain ⟨c0, c1, c2, y0, y1, y2, m, rfl, rfl, rfl, hy0, hy1, hy2⟩ := open_agg3 Try.underlying26 (by kernel_rfl) (by kernel_rfl) hv h
  obtain ⟨a, e0, _, _⟩ := DataW.trod_int Try.underlying3 hy0
  obtain ⟨n, e1, _, _⟩ := DataW.trod_int Try.underlying3 hy1
  obtain ⟨x, e2, _, wx⟩ := DataW.trod_int Try.underlying22 hy2
  simp only [List.cons.injEq, and_true] at e0 e1 e2
  subst e0 e1 e2
  obtain ⟨x, rfl, hx⟩ := u64_nat wx
  exact ⟨a, n, x, hx, rfl⟩
end
end Go.Proofs.Ytbdhjiadomifeaa
