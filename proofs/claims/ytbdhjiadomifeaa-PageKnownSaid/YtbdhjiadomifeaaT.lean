/- Helper facts for the statements of this seat; no statement itself. -/
import Derived.Test.YtbdhjiadomifeaaR
import Derived.Laws.BytesArg
import Derived.Laws.Concat
namespace Go.Proofs.Ytbdhjiadomifeaa
open Go.RowKit
set_option linter.unusedSimpArgs false
set_option linter.unusedVariables false
set_option linter.unnecessarySimpa false

/-- The byte of a hexadecimal digit. -/
def dg (d : Nat) : Int := if d < 10 then 48 + (d : Int) else 87 + (d : Int)
/-- The first j digits of a word. -/
def hexW (x : Nat) : Nat → List Int
  | 0 => []
  | j + 1 => hexW x j ++ [dg (x / 16 ^ (15 - j) % 16)]
/-- What stands ahead of the digits of word k. -/
def sep (l : List Int) (k : Nat) : List Int := if k = 0 then l else l ++ [32]
/-- The text of the first k words. -/
def txt (c : List Nat) : Nat → List Int
  | 0 => []
  | k + 1 => sep (txt c k) k ++ hexW (c.getD k 0) 16

theorem hexW_length (x j : Nat) : (hexW x j).length = j := by
  induction j with
  | zero => rfl
  | succ j ih => simp [hexW, ih]
theorem sep_length (l : List Int) (k : Nat) : (sep l k).length ≤ l.length + 1 := by
  unfold sep; split <;> simp
theorem txt_length (c : List Nat) (k : Nat) : (txt c k).length ≤ 17 * k := by
  induction k with
  | zero => simp [txt]
  | succ k ih =>
    have := sep_length (txt c k) k
    simp only [txt, List.length_append, hexW_length]
    omega

/-- A slice of bytes of the call's own. -/
def OwnB (w : World) (base : Nat) (v : Value) (l : List Int) : Prop := w.ownsRow base 5 1 v l.length (l.map (Value.int .u8))
theorem infoByte : (Try.prog.info? 5).map (fun i => (i.zero, i.size, i.bytes)) = some (some (.int .u8 0), 1, 1) := by kernel_rfl

theorem append_byte {ops : Array Oper} {rest : List Oper} {o : Oper} {a : Act} {W : World} {Q : Exit → Act → World → Prop} (hgd : o.guard = none) (s x : Operand)
    (ho : o.op = .call { callee := .builtin .append, args := #[s, x], argTypes := #[60, 60] }) (base : Nat) (v : Value) (l : List Int) (y : Int) (ty : TypeId)
    (hs : a.eval s = v) (hx : a.eval x = .slice (some ⟨W.heap.size, 0, none⟩) 1 1) (hown : Hid (OwnB W base v l)) (hl : l.length < 4294967296) (hbase : base ≤ W.heap.size)
    (h : ∀ v' w', Hid (OwnB w' base v' (l ++ [y])) → Hid (Below base W w') → wpList Try.prog ops Q rest (a.put o.dst v') w') : wpList Try.prog ops Q (o :: rest) a (W.alloc (.cells #[.int .u8 y] ty)) := by
  obtain ⟨i, hi, hz, hs1, hby⟩ := info_parts infoByte
  refine wpList_append_own (W.alloc (.cells #[.int .u8 y] ty)) hgd s x 60 ho base 5 i (.int .u8 0) 1 1 Try.underlying60 hi hz hs1 hby rfl (by decide) v l.length (l.map (Value.int .u8)) hs (World.ownsRow.alloc hown.out _)
    ⟨W.heap.size, 0, none⟩ 1 1 [.int .u8 y] hx rfl ?_ ?_ ?_ ?_ ?_ ?_
  · intro j u hj
    have : j = 0 := by
      have := (List.getElem?_eq_some_iff.1 hj).1
      simp at this; omega
    subst this
    simp at hj; subst hj
    exact setRow_cell (t := ty) (h1_0 W _) rfl
  · intro u hu; simp at hu; subst hu; rfl
  · simp only [maxLen]; omega
  · omega
  · simp only [World.size_alloc] <;> omega
  · intro v' w' h1 h2 _
    refine h v' w' ?_ ?_
    · show w'.ownsRow _ _ _ _ _ _
      simpa using h1
    · exact Below.grown (Below.alloc (Below.refl _ _) hbase _) h2 (by simp only [World.size_alloc] <;> omega) (fun k hk => (World.ownsRow.lt hown.out k hk).1)

/-- string(out) of such a slice. -/
theorem OwnB.str {w : World} {base : Nat} {v : Value} {l : List Int} (h : OwnB w base v l) (hl : l ≠ []) : (convert 60 9 v).run Try.prog w = .ok (.string (strOfNums l)) w := by
  obtain ⟨_, h | ⟨g, cap, cur, hv, _, hg, _, _, _, ht⟩⟩ := h
  · exact absurd (List.length_eq_zero_iff.1 h.2) hl
  · rw [hv]
    refine run_convert_bytes_arg w 60 5 Try.underlying60 Try.underlying5 g 0 l.length cap l rfl (fun k hk => ?_) 9 Try.underlying9
    rw [cell_of_row w g (0 + k) cur _ (0, 0) hg]
    have h2 : (cur.toList.take (l.length * 1))[k]? = some (.int .u8 (l.getD k 0)) := by rw [ht]; simp [hk]
    rw [List.getElem?_take] at h2
    simpa [hk] using h2

/-- The constant with the digits. -/
def hexS : ByteArray := ⟨#[48, 49, 50, 51, 52, 53, 54, 55, 56, 57, 97, 98, 99, 100, 101, 102]⟩
theorem lt16 {d : Nat} (h : d < 16) : d = 0 ∨ d = 1 ∨ d = 2 ∨ d = 3 ∨ d = 4 ∨ d = 5 ∨ d = 6 ∨ d = 7 ∨ d = 8 ∨ d = 9 ∨ d = 10 ∨ d = 11 ∨ d = 12 ∨ d = 13 ∨ d = 14 ∨ d = 15 := by omega

theorem run_digit (d : Nat) (h : d < 16) (w : World) : (Instr.index 9 (.string hexS) (.int .u64 (d : Int))).run Try.prog w = .ok (.int .u8 (dg d)) w := by
  rcases lt16 h with rfl | rfl | rfl | rfl | rfl | rfl | rfl | rfl | rfl | rfl | rfl | rfl | rfl | rfl | rfl | rfl <;> rfl

theorem run_digitS (d : Nat) (h : d < 16) (w : World) : (Instr.slice 9 (.string hexS) (some (.int .u64 (d : Int))) (some (.int .u64 ((d : Int) + 1))) none).run Try.prog w = .ok (.string (strOfNums [dg d])) w := by
  rcases lt16 h with rfl | rfl | rfl | rfl | rfl | rfl | rfl | rfl | rfl | rfl | rfl | rfl | rfl | rfl | rfl | rfl <;> rfl

theorem strOfNums_append (a b : List Int) : strOfNums a ++ strOfNums b = strOfNums (a ++ b) := by
  unfold strOfNums
  rw [ByteArray.mk_append_mk, List.map_append]

theorem run_cat (a b : List Int) (ha : a.length ≤ 1000) (hb : b.length ≤ 1000) (w : World) : (binOp .add 9 (.string (strOfNums a)) (.string (strOfNums b))).run Try.prog w = .ok (.string (strOfNums (a ++ b))) w := by
  have h1 := strOfNums_size a
  have h2 := strOfNums_size b
  rw [← strOfNums_append]
  simp only [binOp]
  rw [run_string_add_sum w _ _ (by omega)]

end Go.Proofs.Ytbdhjiadomifeaa
