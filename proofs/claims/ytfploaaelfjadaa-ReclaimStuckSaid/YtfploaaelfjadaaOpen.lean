/- How the arguments of this seat's laws read: helper facts, no statement of the seat. -/
import Derived.Test.YtfploaaelfjadaaD
import Derived.ProofKit
import Derived.OpenShut
import Derived.Lib.SmallJoins
namespace Go.Proofs.Ytfploaaelfjadaa
open Go.ChangeShapes Go.WideShapes Go.ChangeAt Go.RowKit Go.Joins Go.Deep
set_option linter.unusedSimpArgs false
set_option linter.unusedVariables false
set_option linter.unnecessarySimpa false

theorem spot_of {w : World} {a : Addr} {v : Value} (h : w.cell? a = some v) : a.spot = none := by
  unfold World.cell? at h
  split at h
  · by_cases hs : a.spot.isSome = true
    · rw [if_pos hs] at h; cases h
    · simpa using hs
  · cases h
theorem add_plain (b off k : Nat) : (⟨b, off, none⟩ : Addr).add k = ⟨b, off + k, none⟩ := by
  unfold Addr.add
  by_cases h : k = 0
  · subst h; simp
  · simp [h]

section
variable {H : Type} {enc : TypeId × Value → H} {W : World} {b base : Nat} {spare : Nat → Bool} {held : Bool} {v : Value} {d : DataW H} {p : List MemPlace} {r : Reach}

theorem open_fields {t : TypeId} {fs : Array Field} (hs : Try.prog.underlying t = some (.struct fs)) (hone : oneCellFields Try.prog fs = true) (hC : Try.prog.cellsOf t = fs.size)
    (hv : Value.okWide Try.prog W r b t v) (h : DataW.Trod enc Try.prog W base spare held t v d p) :
    ∃ (cs : Array Value) (n : Nat), v = .agg cs ∧ cs.size = fs.size ∧ ∀ (j : Nat) (f : Field), fs[j]? = some f → ∃ (c : Value) (y : DataW H × List MemPlace), cs[j]? = some c ∧ DataW.trod enc Try.prog W base spare held n f.type [c] = some y := by
  obtain ⟨cs, rfl, hsz⟩ := okWide_struct hs hv
  obtain ⟨fuel, hf⟩ := h
  obtain ⟨ys, n', hn', hy, hlen, hyl, hk⟩ := DataW.trod_struct hs hf
  refine ⟨cs, n', rfl, hsz.trans hC, fun j f hj => ?_⟩
  have hjl : j < fs.size := (Array.getElem?_eq_some_iff.1 hj).1
  have hjc : j < cs.size := by rw [hsz, hC]; exact hjl
  obtain ⟨ho, hkk⟩ := hone_of hone j f hj
  have h1 := hk j f hj
  rw [ho, hkk] at h1
  have hone' : (((Value.agg cs).cells.toList).drop j).take 1 = [cs[j]] := by
    show (cs.toList.drop j).take 1 = _
    rw [List.drop_eq_getElem_cons (by simpa using hjc)]
    simp
  rw [hone'] at h1
  have hys : ys[j]? = some (ys[j]'(by omega)) := List.getElem?_eq_getElem (by omega)
  exact ⟨cs[j], _, Array.getElem?_eq_getElem hjc, h1.trans hys⟩
theorem wf64 {x : Int} (h : (Lit.int .i64 x).wf = true) : In64 x := by
  unfold In64
  simpa [Lit.wf, IntKind.min, IntKind.max, IntKind.signed, IntKind.bits] using h
theorem arr15 {cs : Array Value} (h : cs.size = 15) : cs = #[cs[0], cs[1], cs[2], cs[3], cs[4], cs[5], cs[6], cs[7], cs[8], cs[9], cs[10], cs[11], cs[12], cs[13], cs[14]] := by
  obtain ⟨l⟩ := cs
  simp only [List.size_toArray] at h
  match l, h with
  | [a0, a1, a2, a3, a4, a5, a6, a7, a8, a9, a10, a11, a12, a13, a14], _ => rfl
theorem fld_int {cs : Array Value} {n j : Nat} {f : Field} (hf : f.type = 3) (h : ∃ (c : Value) (y : DataW H × List MemPlace), cs[j]? = some c ∧ DataW.trod enc Try.prog W base spare held n f.type [c] = some y) : ∃ x : Int, cs[j]? = some (.int .i64 x) ∧ In64 x := by
  obtain ⟨c, y, h1, h2⟩ := h
  rw [hf] at h2
  obtain ⟨x, e, _, wx⟩ := DataW.trod_int Try.underlying3 h2
  simp only [List.cons.injEq, and_true] at e
  subst e
  exact ⟨x, h1, wf64 wx⟩
theorem fld_bool {cs : Array Value} {n j : Nat} {f : Field} (hf : f.type = 4) (h : ∃ (c : Value) (y : DataW H × List MemPlace), cs[j]? = some c ∧ DataW.trod enc Try.prog W base spare held n f.type [c] = some y) : ∃ x : Bool, cs[j]? = some (.bool x) := by
  obtain ⟨c, y, h1, h2⟩ := h
  rw [hf] at h2
  obtain ⟨x, e, _⟩ := DataW.trod_bool Try.underlying4 h2
  simp only [List.cons.injEq, and_true] at e
  subst e
  exact ⟨x, h1⟩
theorem open_t (hv : Value.okWide Try.prog W r b 23 v) (h : DataW.Trod enc Try.prog W base spare held 23 v d p) : ∃ t : T, v = TV t ∧ W64 t := by
  obtain ⟨cs, n, rfl, hsz, hf⟩ := open_fields Try.underlying23 (by kernel_rfl) (by kernel_rfl) hv h
  obtain ⟨x0, e0, k0⟩ := fld_int rfl (hf 0 _ rfl)
  obtain ⟨x1, e1, k1⟩ := fld_int rfl (hf 1 _ rfl)
  obtain ⟨x2, e2, k2⟩ := fld_int rfl (hf 2 _ rfl)
  obtain ⟨x3, e3, k3⟩ := fld_int rfl (hf 3 _ rfl)
  obtain ⟨x4, e4⟩ := fld_bool rfl (hf 4 _ rfl)
  obtain ⟨x5, e5, k5⟩ := fld_int rfl (hf 5 _ rfl)
  obtain ⟨x6, e6, k6⟩ := fld_int rfl (hf 6 _ rfl)
  obtain ⟨x7, e7, k7⟩ := fld_int rfl (hf 7 _ rfl)
  obtain ⟨x8, e8, k8⟩ := fld_int rfl (hf 8 _ rfl)
  obtain ⟨x9, e9⟩ := fld_bool rfl (hf 9 _ rfl)
  obtain ⟨x10, e10, k10⟩ := fld_int rfl (hf 10 _ rfl)
  obtain ⟨x11, e11, k11⟩ := fld_int rfl (hf 11 _ rfl)
  obtain ⟨x12, e12, k12⟩ := fld_int rfl (hf 12 _ rfl)
  obtain ⟨x13, e13, k13⟩ := fld_int rfl (hf 13 _ rfl)
  obtain ⟨x14, e14, k14⟩ := fld_int rfl (hf 14 _ rfl)
  refine ⟨⟨x0, x1, x2, x3, x4, x5, x6, x7, x8, x9, x10, x11, x12, x13, x14⟩, ?_, k0, k5, k6, k7, k8, k14, k10, k12, k13⟩
  have g : ∀ (j : Nat) (hj : j < cs.size) (u : Value), cs[j]? = some u → cs[j] = u := fun j hj u hu => by rw [Array.getElem?_eq_getElem hj] at hu; exact Option.some.inj hu
  have h15 : cs.size = 15 := hsz
  rw [arr15 h15]
  rw [g 0 (by omega) _ e0, g 1 (by omega) _ e1, g 2 (by omega) _ e2, g 3 (by omega) _ e3, g 4 (by omega) _ e4, g 5 (by omega) _ e5, g 6 (by omega) _ e6, g 7 (by omega) _ e7, g 8 (by omega) _ e8, g 9 (by omega) _ e9, g 10 (by omega) _ e10, g 11 (by omega) _ e11, g 12 (by omega) _ e12, g 13 (by omega) _ e13, g 14 (by omega) _ e14]
theorem open_nums (hv : Value.okWide Try.prog W r b 28 v) (h : DataW.Trod enc Try.prog W base spare held 28 v d p) :
    ∃ a n cap, v = .slice a n cap ∧ n ≤ 9223372036854775807 ∧ (n = 0 ∨ ∃ bb off, ∃ zs : List Int, a = some ⟨bb, off, none⟩ ∧ n ≤ zs.length ∧ ∀ k, k < n → W.cell? ⟨bb, off + k, none⟩ = some (.int .i64 (zs.getD k 0))) := by
  obtain ⟨a, n, cap, rfl⟩ := okWide_slice Try.underlying28 hv
  obtain ⟨fu, hf⟩ := h
  rcases open_ints Try.underlying28 Try.underlying3 (by kernel_rfl) hf with ⟨h0, _⟩ | ⟨a', len, cap', zs, hcs, _, hl, hm, hz, _, hi, _⟩
  · simp only [Value.cells, List.cons.injEq, and_true] at h0
    cases h0
    exact ⟨_, _, _, rfl, by omega, .inl rfl⟩
  · simp only [Value.cells, List.cons.injEq, and_true] at hcs
    cases hcs
    have hlm : n ≤ zs.length := by rw [hz]; split <;> omega
    unfold maxLen at hm
    refine ⟨_, _, _, rfl, by omega, ?_⟩
    by_cases h0 : n = 0
    · exact .inl h0
    · right
      obtain ⟨bb, off, sp⟩ := a'
      obtain rfl : sp = none := spot_of (hi 0 (by omega))
      exact ⟨bb, off, zs, rfl, hlm, fun k hk => by have := hi k (by omega); rwa [add_plain] at this⟩
end
end Go.Proofs.Ytfploaaelfjadaa
