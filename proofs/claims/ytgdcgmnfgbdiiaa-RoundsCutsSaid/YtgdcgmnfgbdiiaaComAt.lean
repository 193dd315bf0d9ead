/- Reading a list of numbers at a place that it may not have: helper facts, no statement of the seat. -/
import Derived.Test.YtgdcgmnfgbdiiaaComK
namespace Go.Proofs.Ytgdcgmnfgbdiiaa
open Go.RowKit
set_option linter.unusedSimpArgs false
set_option linter.unusedVariables false
set_option linter.unnecessarySimpa false
/-- The value is a slice that holds integers, whichever. -/
def SomeInts (w : World) (ad : Option Addr) (n : Nat) : Prop := n = 0 ∨ ∃ bb off, ∃ zs : List Int, ad = some ⟨bb, off, none⟩ ∧ n ≤ zs.length ∧ ∀ k, k < n → w.cell? ⟨bb, off + k, none⟩ = some (.int .i64 (zs.getD k 0))
theorem SomeInts.keep {w w' : World} {ad : Option Addr} {n : Nat} (h : SomeInts w ad n) (hb : Below w.heap.size w w') : SomeInts w' ad n := by
  rcases h with h | ⟨bb, off, zs, h1, h2, h3⟩
  · exact .inl h
  · exact .inr ⟨bb, off, zs, h1, h2, fun k hk => cellB hb (h3 k hk)⟩
def RetInt (w : World) (e : Ending) (w' : World) : Prop := (∃ x, e = .returned (.int .i64 x)) ∧ w = w'
set_option maxHeartbeats 1000000 in
theorem at_any (ad : Option Addr) (n cap k : Nat) (w : World) (hn : n ≤ 9223372036854775807) (hk : k ≤ 100000) (hl : SomeInts w ad n) : Calls Try.prog 33 #[.slice ad n cap, .int .i64 k] w (RetInt w) := by
  have d0 : decide ((k : Int) < 0) = false := decide_eq_false (by omega)
  by_cases hlt : k < n
  · rcases hl with h | ⟨bb, off, zs, rfl, h2, h3⟩
    · omega
    have c0 := h3 k hlt
    have i1 : (0 : Int) ≤ (k : Int) := by omega
    have i2 : (k : Int) < (n : Int) := by omega
    clear h3 h2
    go_enter Try.func33, Try.ntmps33
    go_wp2_with fail
    go_ret
    exact ⟨⟨_, rfl⟩, rfl⟩
  · have i1 : (0 : Int) ≤ (k : Int) := by omega
    have i2 : (n : Int) ≤ (k : Int) := by omega
    go_enter Try.func33, Try.ntmps33
    go_wp2_with fail
    go_ret
    exact ⟨⟨_, rfl⟩, rfl⟩
end Go.Proofs.Ytgdcgmnfgbdiiaa
