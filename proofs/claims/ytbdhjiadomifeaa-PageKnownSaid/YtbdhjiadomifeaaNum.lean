/- Plain numbers: the little-endian number of a list of bytes, the bytes of a page: helper facts, no statement of the seat. -/
import Derived.Test.YtbdhjiadomifeaaBase
namespace Go.Proofs.Ytbdhjiadomifeaa
open Go.RowKit
set_option linter.unusedSimpArgs false
set_option linter.unusedVariables false
set_option linter.unnecessarySimpa false

/-- The number whose bytes, little end first, are these. -/
def le : List Nat → Nat
  | [] => 0
  | b :: bs => b + 256 * le bs

theorem le_append (a b : List Nat) : le (a ++ b) = le a + 256 ^ a.length * le b := by
  induction a with
  | nil => simp [le]
  | cons x xs ih =>
    simp only [List.cons_append, le, ih, List.length_cons, Nat.pow_succ]
    rw [Nat.mul_add, Nat.mul_comm (256 ^ xs.length) 256, Nat.mul_assoc]
    omega

theorem le_lt (a : List Nat) (h : ∀ x ∈ a, x < 256) : le a < 256 ^ a.length := by
  induction a with
  | nil => simp [le]
  | cons x xs ih =>
    have h1 := ih (fun y hy => h y (by simp [hy]))
    have h2 := h x (by simp)
    simp only [le, List.length_cons, Nat.pow_succ]
    generalize 256 ^ xs.length = p at *
    omega

theorem le_take_succ (a : List Nat) (k : Nat) (h : k < a.length) : le (a.take (k + 1)) = le (a.take k) + a.getD k 0 * 256 ^ k := by
  rw [List.take_succ_eq_append_getElem h, le_append]
  simp [le, Nat.min_eq_left (Nat.le_of_lt h), List.getD, h, Nat.mul_comm]

theorem pow256 (k : Nat) : 256 ^ k = 2 ^ (8 * k) := by rw [Nat.pow_mul]

theorem lt8 {k : Nat} (h : k < 8) : k = 0 ∨ k = 1 ∨ k = 2 ∨ k = 3 ∨ k = 4 ∨ k = 5 ∨ k = 6 ∨ k = 7 := by omega

/-- A byte is joined to what lies below it. -/
theorem gstep (x b k : Nat) (hk : k < 8) (hx : x < 256 ^ k) (hb : b < 256) :
    bits .or .u64 (x : Int) (IntKind.u64.wrap (IntKind.u64.wrap (b : Int) * 2 ^ (8 * k))) = ((x + b * 256 ^ k : Nat) : Int) := by
  have hle : b * 256 ^ k < 18446744073709551616 := by
    rcases lt8 hk with rfl | rfl | rfl | rfl | rfl | rfl | rfl | rfl <;> omega
  have hx2 : x < 18446744073709551616 := by
    rcases lt8 hk with rfl | rfl | rfl | rfl | rfl | rfl | rfl | rfl <;> omega
  have e1 : IntKind.u64.wrap (b : Int) = (b : Int) := by rw [IntKind.wrap_u64]; omega
  have e2 : ((b : Int) * 2 ^ (8 * k)) = ((b * 256 ^ k : Nat) : Int) := by rw [pow256]; simp
  have e3 : IntKind.u64.wrap ((b * 256 ^ k : Nat) : Int) = ((b * 256 ^ k : Nat) : Int) := by rw [IntKind.wrap_u64]; omega
  rw [e1, e2, e3, u64_or_nat x (b * 256 ^ k) hx2 hle, Nat.or_comm, nat_join (8 * k) (b * 256 ^ k) x (by rw [pow256]; simp) (by rw [← pow256]; exact hx), Nat.add_comm]

/-- The n bytes of a number, little end first. -/
def bytesN : Nat → Nat → List Nat
  | 0, _ => []
  | n + 1, v => v % 256 :: bytesN n (v / 256)

theorem bytesN_length (n v : Nat) : (bytesN n v).length = n := by
  induction n generalizing v with
  | zero => rfl
  | succ n ih => simp [bytesN, ih]

theorem bytesN_lt (n v : Nat) : ∀ x ∈ bytesN n v, x < 256 := by
  induction n generalizing v with
  | zero => simp [bytesN]
  | succ n ih => intro x hx; simp [bytesN] at hx; rcases hx with rfl | hx; omega; exact ih _ x hx

theorem bytesN_get (n v k : Nat) (h : k < n) : (bytesN n v).getD k 0 = v / 256 ^ k % 256 := by
  induction n generalizing v k with
  | zero => omega
  | succ n ih =>
    cases k with
    | zero => simp [bytesN]
    | succ k => 
      have := ih (v / 256) k (by omega)
      simp [bytesN] at this ⊢
      rw [this, Nat.div_div_eq_div_mul, Nat.pow_succ, Nat.mul_comm]

theorem le_bytesN (n v : Nat) : le (bytesN n v) = v % 256 ^ n := by
  induction n generalizing v with
  | zero => simp [bytesN, le, Nat.mod_one]
  | succ n ih =>
    simp only [bytesN, le, ih, Nat.pow_succ]
    rw [Nat.mul_comm (256 ^ n) 256, Nat.mod_mul]


theorem getD_mem (a : List Nat) (k : Nat) (h : k < a.length) : a.getD k 0 ∈ a := by
  simp [List.getD, h]

/-- Bytes, from a place on replaced by the bytes of a number. -/
def spr (bs : List Nat) (off k v : Nat) : List Nat := bs.take off ++ (bytesN k v ++ bs.drop (off + k))

theorem spr_length (bs : List Nat) (off k v : Nat) (h : off + k ≤ bs.length) : (spr bs off k v).length = bs.length := by
  simp [spr, bytesN_length]; omega

theorem spr_zero (bs : List Nat) (off v : Nat) : spr bs off 0 v = bs := by simp [spr, bytesN]

theorem spr_get (bs : List Nat) (off k v j : Nat) (h : off + k ≤ bs.length) : (spr bs off k v).getD j 0 = if off ≤ j ∧ j < off + k then v / 256 ^ (j - off) % 256 else bs.getD j 0 := by
  unfold spr
  simp only [List.getD_eq_getElem?_getD, List.getElem?_append, List.length_take, bytesN_length, Nat.min_eq_left (show off ≤ bs.length by omega)]
  by_cases h1 : j < off
  · rw [if_pos h1, if_neg (by omega), List.getElem?_take, if_pos h1]
  · rw [if_neg h1]
    by_cases h2 : j < off + k
    · rw [if_pos (by omega), if_pos (by omega), ← List.getD_eq_getElem?_getD, bytesN_get _ _ _ (by omega)]
    · rw [if_neg (by omega), if_neg (by omega), List.getElem?_drop, show off + k + (j - off - k) = j by omega]

theorem ext_getD {a b : List Nat} (hl : a.length = b.length) (h : ∀ j, j < a.length → a.getD j 0 = b.getD j 0) : a = b := by
  refine List.ext_getElem hl (fun j h1 h2 => ?_)
  have := h j h1
  simpa [List.getD, h1, h2] using this

theorem spr_succ (bs : List Nat) (off k v : Nat) (h : off + k < bs.length) : (spr bs off k v).set (off + k) (v / 256 ^ k % 256) = spr bs off (k + 1) v := by
  refine ext_getD (by simp [spr_length _ _ _ _ (show off + (k + 1) ≤ bs.length by omega), spr_length _ _ _ _ (show off + k ≤ bs.length by omega)]) (fun j hj => ?_)
  rw [List.length_set, spr_length _ _ _ _ (by omega)] at hj
  rw [spr_get _ _ _ _ _ (by omega)]
  simp only [List.getD_eq_getElem?_getD, List.getElem?_set, spr_length _ _ _ _ (show off + k ≤ bs.length by omega)]
  by_cases e : off + k = j
  · subst e
    rw [if_pos rfl, if_pos hj, if_pos (by omega), show off + k - off = k by omega]
    rfl
  · rw [if_neg e, ← List.getD_eq_getElem?_getD, spr_get _ _ _ _ _ (by omega)]
    by_cases h2 : off ≤ j ∧ j < off + k
    · rw [if_pos h2, if_pos (by omega)]
    · rw [if_neg h2, if_neg (by omega), List.getD_eq_getElem?_getD]

end Go.Proofs.Ytbdhjiadomifeaa
