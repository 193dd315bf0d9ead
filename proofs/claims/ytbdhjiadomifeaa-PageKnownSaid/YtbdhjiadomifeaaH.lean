/- Helper facts for the statements of this seat; no statement itself. -/
import Derived.Test.YtbdhjiadomifeaaG
namespace Go.Proofs.Ytbdhjiadomifeaa
open Go.RowKit
set_option linter.unusedSimpArgs false
set_option linter.unusedVariables false
set_option linter.unnecessarySimpa false

theorem wpart_get (bs : List Nat) (k j : Nat) (hk : k ≤ 8) (hj : j < 8) : (wpart bs k).getD j 0 = if j < k then le ((bs.drop (8 * j)).take 8) else 0 := by
  induction k with
  | zero =>
    rw [if_neg (by omega)]
    show (List.replicate 8 0).getD j 0 = 0
    rw [List.getD_eq_getElem?_getD, List.getElem?_replicate]
    split <;> rfl
  | succ k ih =>
    simp only [wpart, List.getD_eq_getElem?_getD, List.getElem?_set, wpart_length]
    by_cases e : k = j
    · subst e
      rw [if_pos rfl, if_pos hj, if_pos (by omega)]; rfl
    · rw [if_neg e, ← List.getD_eq_getElem?_getD, ih (by omega)]
      by_cases h : j < k
      · rw [if_pos h, if_pos (by omega)]
      · rw [if_neg h, if_neg (by omega)]

theorem part_word (c : List Nat) (j : Nat) (hj : j < 8) : ((byts c 8).drop (8 * j)).take 8 = bytesN 8 (c.getD j 0) := by
  have hl := byts_length c 8 (by omega)
  refine ext_getD (by simp [bytesN_length, hl]; omega) (fun i hi => ?_)
  have hi8 : i < 8 := by simp [hl] at hi; omega
  rw [getD_part _ _ _ _ hi8, byts_get c 8 _ (by omega) (by omega), bytesN_get _ _ _ hi8]
  unfold bya
  rw [show (8 * j + i) / 8 = j by omega, show (8 * j + i) % 8 = i by omega]

theorem num_word (c : List Nat) (hp : Pg c) (j : Nat) (hj : j < 8) : le (((byts c 8).drop (8 * j)).take 8) = c.getD j 0 := by
  rw [part_word c j hj, le_bytesN]
  have := pg_lt hp j
  exact Nat.mod_eq_of_lt (by simpa using this)

theorem words_bytes (c : List Nat) (hp : Pg c) : wpart (byts c 8) 8 = c := by
  refine ext_getD (by rw [wpart_length, hp.1]) (fun j hj => ?_)
  rw [wpart_length] at hj
  rw [wpart_get _ _ _ (by omega) hj, if_pos hj, num_word c hp j hj]

theorem setB_byte (x m b i : Nat) (hm : m < 8) (hi : i < 8) (hx : x < 18446744073709551616) (hb : b < 256) :
    (x - x / 256 ^ m % 256 * 256 ^ m + b * 256 ^ m) / 256 ^ i % 256 = if i = m then b else x / 256 ^ i % 256 := by
  rcases lt8 hm with rfl | rfl | rfl | rfl | rfl | rfl | rfl | rfl <;> rcases lt8 hi with rfl | rfl | rfl | rfl | rfl | rfl | rfl | rfl <;> simp only [Nat.reducePow, Nat.reduceEqDiff, if_true, if_false] <;> omega

theorem setB_bya (c : List Nat) (hp : Pg c) (i b j : Nat) (hi : i < 64) (hj : j < 64) (hb : b < 256) : bya (setB c i b) j = if j = i then b else bya c j := by
  unfold bya setB
  simp only [List.getD_eq_getElem?_getD, List.getElem?_set, hp.1]
  by_cases e : i / 8 = j / 8
  · rw [if_pos e, if_pos (by omega)]
    simp only [← List.getD_eq_getElem?_getD]
    have := setB_byte (c.getD (i / 8) 0) (i % 8) b (j % 8) (by omega) (by omega) (pg_lt hp _) hb
    simp only [bya, Option.getD_some]
    rw [this, ← e]
    by_cases e2 : j = i
    · rw [if_pos e2, if_pos (by omega)]
    · rw [if_neg e2, if_neg (by omega)]
  · rw [if_neg e, if_neg (by omega)]

theorem byts_setB (c : List Nat) (hp : Pg c) (i b : Nat) (hi : i < 64) (hb : b < 256) : byts (setB c i b) 8 = (byts c 8).set i b := by
  refine ext_getD (by simp [byts_length]) (fun j hj => ?_)
  rw [byts_length _ _ (by omega)] at hj
  rw [byts_get _ _ _ (by omega) (by omega), setB_bya c hp i b j hi hj hb]
  simp only [List.getD_eq_getElem?_getD, List.getElem?_set, byts_length c 8 (Nat.le_refl _)]
  by_cases e : i = j
  · rw [if_pos e.symm, if_pos e, if_pos hi]; rfl
  · rw [if_neg (fun h => e h.symm), if_neg e, ← List.getD_eq_getElem?_getD, byts_get _ _ _ (by omega) (by omega)]

theorem spr_putL (c : List Nat) (hp : Pg c) (a v k : Nat) (h : a + k ≤ 64) : spr (byts c 8) a k v = byts (putL c a v k) 8 := by
  induction k with
  | zero => rw [spr_zero]; rfl
  | succ k ih =>
    rw [← spr_succ _ _ _ _ (by rw [byts_length c 8 (by omega)]; omega), ih (by omega), putL, byts_setB _ (putL_pg hp a v k (by omega)) _ _ (by omega) (Nat.mod_lt _ (by omega))]

theorem putB_eq (c : List Nat) (hp : Pg c) (a v n : Nat) (h : a + n ≤ 64) : putB c a n v = putL c a v n := by
  unfold putB
  rw [spr_putL c hp a v n h, words_bytes _ (putL_pg hp a v n h)]

end Go.Proofs.Ytbdhjiadomifeaa
