/- Plain numbers of pages (bytes, words) and the walk's laws on whole arrays: helper facts, no statement of the seat. -/
import Derived.Test.YtbdhjiadomifeaaRows
import Derived.WalkKit
import Derived.WalkSpells
import Derived.WalkLawsBesides
import Derived.Laws.Rows
import Derived.Laws.Tables
import Derived.Laws.BitsAllLaws
import Derived.Deep.WholeRow
import Derived.Lib.Hide
namespace Go.Proofs.Ytbdhjiadomifeaa
open Go.RowKit
set_option linter.unusedSimpArgs false
set_option linter.unusedVariables false
set_option linter.unnecessarySimpa false

/-- A page's words as cells. -/
def W8 (c : List Nat) : Array Value := (c.map fun (x : Nat) => Value.int .u64 (x : Int)).toArray
/-- Bytes as cells. -/
def B8 (c : List Nat) : Array Value := (c.map fun (x : Nat) => Value.int .u8 (x : Int)).toArray

theorem W8_size (c : List Nat) : (W8 c).size = c.length := by simp [W8]
theorem B8_size (c : List Nat) : (B8 c).size = c.length := by simp [B8]
theorem W8_get? (c : List Nat) (i : Nat) (h : i < c.length) : (W8 c)[i]? = some (.int .u64 ((c.getD i 0 : Nat) : Int)) := by simp [W8, h]
theorem B8_get? (c : List Nat) (i : Nat) (h : i < c.length) : (B8 c)[i]? = some (.int .u8 ((c.getD i 0 : Nat) : Int)) := by simp [B8, h]
theorem W8_one (c : List Nat) : (W8 c).all (·.oneCell') = true := by simp [W8, Value.oneCell']
theorem B8_one (c : List Nat) : (B8 c).all (·.oneCell') = true := by simp [B8, Value.oneCell']
theorem W8_set (c : List Nat) (i x : Nat) : (W8 c).setIfInBounds i (.int .u64 (x : Int)) = W8 (c.set i x) := by simp [W8, List.map_set]
theorem B8_set (c : List Nat) (i x : Nat) : (B8 c).setIfInBounds i (.int .u8 (x : Int)) = B8 (c.set i x) := by simp [B8, List.map_set]
theorem W8_inj {c d : List Nat} (h : W8 c = W8 d) : c = d := by
  have h1 : c.map (fun (x : Nat) => Value.int .u64 (x : Int)) = d.map (fun (x : Nat) => Value.int .u64 (x : Int)) := by simpa [W8] using h
  exact (List.map_inj_right (fun x y hxy => by simp at hxy; omega)).1 h1

section
variable {P : Program}
/-- An array's element, by an index within it. -/
theorem run_index_at (t e : TypeId) (n : Nat) (cs : Array Value) (k : Nat) (v : Value) (hu : P.underlying t = some (.array n e)) (he : (P.info? e).map (·.size) = some 1) (hag : ∀ w, (isAgg e).run P w = .ok false w) (hk : k < n) (hv : cs[k]? = some v) (w : World) :
    (Instr.index t (.agg cs) (.int .i64 (k : Int))).run P w = .ok v w := by
  cases hq : P.info? e with
  | none => simp [hq] at he
  | some i =>
    have hs : i.size = 1 := by simpa [hq] using he
    have hk2 : ¬ n ≤ k := by omega
    simp [Instr.index, Sem.run_bind, asIntOf, run_underlying hu w, hk2, sizeOf, typeInfo, hq, hs, part, hag, hv]
end
end Go.Proofs.Ytbdhjiadomifeaa
