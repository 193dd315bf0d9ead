/- Helper facts for the statements of this seat; no statement itself. -/
import Derived.Test.YtbdhjiadomifeaaZA
namespace Go.Proofs.Ytbdhjiadomifeaa
open Go.RowKit
set_option linter.unusedSimpArgs false
set_option linter.unusedVariables false
set_option linter.unnecessarySimpa false

/-- The byte that stands at a place of a page's text. -/
def exB (c : List Nat) (i : Nat) : Int := if i % 17 = 16 then 32 else dg (c.getD (i / 17) 0 / 16 ^ (15 - i % 17) % 16)

theorem hexW_get (x m j : Nat) (h : j < m) : (hexW x m).getD j 0 = dg (x / 16 ^ (15 - j) % 16) := by
  induction m with
  | zero => omega
  | succ m ih =>
    simp only [hexW]
    rw [List.getD_eq_getElem?_getD, List.getElem?_append, hexW_length]
    by_cases e : j < m
    · rw [if_pos e, ← List.getD_eq_getElem?_getD, ih e]
    · rw [if_neg e, show j - m = 0 by omega, show j = m by omega]; rfl

theorem txt_sep (c : List Nat) (m : Nat) : (sep (txt c m) m).length = 17 * m ∧ ∀ i, i < 17 * m → (sep (txt c m) m).getD i 0 = exB c i := by
  induction m with
  | zero => exact ⟨rfl, fun i hi => by omega⟩
  | succ m ih =>
    have hl : (txt c (m + 1)).length = 17 * m + 16 := by simp only [txt, List.length_append, hexW_length]; rw [ih.1]
    refine ⟨by unfold sep; rw [if_neg (by omega)]; simp only [List.length_append, hl, List.length_singleton]; omega, fun i hi => ?_⟩
    unfold sep
    rw [if_neg (by omega), List.getD_eq_getElem?_getD, List.getElem?_append, hl]
    by_cases h1 : i < 17 * m + 16
    · rw [if_pos h1, ← List.getD_eq_getElem?_getD]
      simp only [txt]
      rw [List.getD_eq_getElem?_getD, List.getElem?_append, ih.1]
      by_cases h2 : i < 17 * m
      · rw [if_pos h2, ← List.getD_eq_getElem?_getD, ih.2 i h2]
      · rw [if_neg h2, ← List.getD_eq_getElem?_getD, hexW_get _ _ _ (by omega)]
        unfold exB
        rw [if_neg (by omega), show i / 17 = m by omega, show i % 17 = i - 17 * m by omega]
    · rw [if_neg h1, show i - (17 * m + 16) = 0 by omega]
      unfold exB
      rw [if_pos (by omega)]; rfl

theorem txt8 (c : List Nat) : (txt c 8).length = 135 ∧ ∀ i, i < 135 → (txt c 8).getD i 0 = exB c i := by
  have h := txt_sep c 7
  have hl : (txt c 8).length = 135 := by simp only [txt, List.length_append, hexW_length]; have := h.1; simp only [txt] at this; omega
  refine ⟨hl, fun i hi => ?_⟩
  show (sep (txt c 7) 7 ++ hexW (c.getD 7 0) 16).getD i 0 = _
  rw [List.getD_eq_getElem?_getD, List.getElem?_append, h.1]
  by_cases h2 : i < 17 * 7
  · rw [if_pos h2, ← List.getD_eq_getElem?_getD, h.2 i h2]
  · rw [if_neg h2, ← List.getD_eq_getElem?_getD, hexW_get _ _ _ (by omega)]
    unfold exB
    rw [if_neg (by omega), show i / 17 = 7 by omega, show i % 17 = i - 17 * 7 by omega]

theorem rep_get (q : Nat) : (List.replicate 8 0 : List Nat).getD q 0 = 0 := by
  rw [List.getD_eq_getElem?_getD, List.getElem?_replicate]
  split <;> rfl

theorem dg_range (d : Nat) (h : d < 16) : (48 ≤ dg d ∧ dg d ≤ 57) ∨ (97 ≤ dg d ∧ dg d ≤ 102) := by unfold dg; split <;> omega
theorem hxv_dg (d : Nat) (h : d < 16) : hxv (dg d).toNat = d := by unfold dg hxv; split <;> split <;> omega
theorem isHx_dg (d : Nat) (h : d < 16) : isHx (dg d).toNat = true := by
  have := dg_range d h
  simp [isHx]; omega
theorem dg_hxv (b : Nat) (h : isHx b = true) : dg (hxv b) = (b : Int) := by
  simp [isHx] at h
  unfold dg hxv
  split <;> split <;> omega

theorem exB_range (c : List Nat) (i : Nat) : 0 ≤ exB c i ∧ exB c i < 256 := by
  unfold exB
  split
  · omega
  · have := dg_range (c.getD (i / 17) 0 / 16 ^ (15 - i % 17) % 16) (Nat.mod_lt _ (by omega))
    omega

theorem bt_str (l : List Int) (i : Nat) (hi : i < l.length) (hr : 0 ≤ l.getD i 0 ∧ l.getD i 0 < 256) : ((bt (strOfNums l) i : Nat) : Int) = l.getD i 0 := by
  unfold bt
  rw [strOfNums_data, List.getD_eq_getElem?_getD, List.getElem?_map, List.getElem?_eq_getElem hi]
  rw [List.getD_eq_getElem?_getD, List.getElem?_eq_getElem hi] at hr ⊢
  simp only [Option.map_some, Option.getD_some] at hr ⊢
  rw [UInt8.toNat_ofNat']
  omega

/-- A word, of which the first digits have been read. -/
theorem cont_text (c : List Nat) (hp : Pg c) (s : ByteArray) (hb : ∀ i, i < 135 → ((bt s i : Nat) : Int) = exB c i) (k : Nat) (hk : k ≤ 135) :
    GoodK s k ∧ ∀ q, q < 8 → (contK s k).getD q 0 = c.getD q 0 / 16 ^ (16 - min 16 (k - 17 * q)) := by
  induction k with
  | zero =>
    refine ⟨fun j hj => by omega, fun q hq => ?_⟩
    have := pg_lt hp q
    rw [show 16 - min 16 (0 - 17 * q) = 16 by omega, Nat.div_eq_of_lt (by simpa using this)]
    exact rep_get q
  | succ k ih =>
    obtain ⟨ihg, ihv⟩ := ih (by omega)
    have hbk := hb k (by omega)
    have hbn : bt s k = (exB c k).toNat := by omega
    by_cases h16 : k % 17 = 16
    · have hex : exB c k = 32 := by unfold exB; rw [if_pos h16]
      have hok : okB (bt s k) k = true := by unfold okB; rw [if_pos h16, hbn, hex]; rfl
      refine ⟨good_succ ihg hok, fun q hq => ?_⟩
      simp only [contK, stepC]
      rw [if_pos h16, ihv q hq]
      congr 2
      omega
    · have hd16 : c.getD (k / 17) 0 / 16 ^ (15 - k % 17) % 16 < 16 := Nat.mod_lt _ (by omega)
      have hex : exB c k = dg (c.getD (k / 17) 0 / 16 ^ (15 - k % 17) % 16) := by unfold exB; rw [if_neg h16]
      have hok : okB (bt s k) k = true := by unfold okB; rw [if_neg h16, hbn, hex]; exact isHx_dg _ hd16
      refine ⟨good_succ ihg hok, fun q hq => ?_⟩
      have hpl := (contK_pg s k ihg).1
      simp only [contK, stepC]
      rw [if_neg h16, getD_set _ _ _ _ (by rw [hpl]; omega)]
      by_cases e : q = k / 17
      · rw [if_pos e, ihv (k / 17) (by omega), hbn, hex, hxv_dg _ hd16, e]
        have hm : k - 17 * (k / 17) = k % 17 := by omega
        rw [hm, show k + 1 - 17 * (k / 17) = k % 17 + 1 by omega, show min 16 (k % 17) = k % 17 by omega, show min 16 (k % 17 + 1) = k % 17 + 1 by omega, show 16 - (k % 17 + 1) = 15 - k % 17 by omega, show 16 - k % 17 = (15 - k % 17) + 1 by omega]
        have hlt := pg_lt hp (k / 17)
        generalize c.getD (k / 17) 0 = x at *
        generalize 15 - k % 17 = r at *
        have e1 : x / 16 ^ (r + 1) = x / 16 ^ r / 16 := by rw [Nat.pow_succ, Nat.div_div_eq_div_mul]
        rw [e1]
        have hle : x / 16 ^ r ≤ x := Nat.div_le_self _ _
        generalize x / 16 ^ r = y at *
        omega
      · rw [if_neg e, ihv q hq]
        congr 2
        omega

theorem parse_text (c : List Nat) (hp : Pg c) : prC (strOfNums (txt c 8)) = c ∧ prE (strOfNums (txt c 8)) = 0 ∧ prA (strOfNums (txt c 8)) = 0 := by
  have ht := txt8 c
  have hsz : (strOfNums (txt c 8)).size = 135 := by rw [strOfNums_size, ht.1]
  have hb : ∀ i, i < 135 → ((bt (strOfNums (txt c 8)) i : Nat) : Int) = exB c i := fun i hi => by
    rw [← ht.2 i hi]
    exact bt_str _ i (by omega) (by rw [ht.2 i hi]; exact exB_range c i)
  obtain ⟨hg, hv⟩ := cont_text c hp _ hb 135 (Nat.le_refl _)
  have hbad : bad (strOfNums (txt c 8)) = 135 := by rw [← hsz]; exact bad_end _ (by rw [hsz]; exact hg)
  have hc : contK (strOfNums (txt c 8)) 135 = c := by
    refine ext_getD (by rw [(contK_pg _ _ hg).1, hp.1]) (fun q hq => ?_)
    rw [(contK_pg _ _ hg).1] at hq
    rw [hv q hq, show 16 - min 16 (135 - 17 * q) = 0 by omega]; simp
  unfold prC prE prA
  rw [hbad, hsz]
  simp only [Nat.lt_irrefl, if_false]
  exact ⟨hc, trivial, trivial⟩

/-! ### What is read has this text -/
theorem badK_le (s : ByteArray) (f k : Nat) : k ≤ badK s k f ∧ badK s k f ≤ k + f ∧ ∀ j, k ≤ j → j < badK s k f → okB (bt s j) j = true := by
  induction f generalizing k with
  | zero => simp only [badK]; exact ⟨by omega, by omega, fun j h1 h2 => by omega⟩
  | succ f ih =>
    simp only [badK]
    by_cases h : okB (bt s k) k = true
    · rw [if_pos h]
      obtain ⟨h1, h2, h3⟩ := ih (k + 1)
      refine ⟨by omega, by omega, fun j hj1 hj2 => ?_⟩
      by_cases e : j = k
      · rw [e]; exact h
      · exact h3 j (by omega) hj2
    · rw [if_neg h]; exact ⟨by omega, by omega, fun j h1 h2 => by omega⟩

theorem digits_back (s : ByteArray) (k : Nat) (hg : GoodK s k) (hk : k ≤ 135) :
    ∀ q, q < 8 → (contK s k).getD q 0 < 16 ^ (min 16 (k - 17 * q)) ∧ ∀ j, j < min 16 (k - 17 * q) → (contK s k).getD q 0 / 16 ^ (min 16 (k - 17 * q) - 1 - j) % 16 = hxv (bt s (17 * q + j)) := by
  induction k with
  | zero =>
    intro q hq
    refine ⟨?_, fun j hj => by omega⟩
    rw [show min 16 (0 - 17 * q) = 0 by omega]
    show (List.replicate 8 0).getD q 0 < 1
    rw [rep_get q]; omega
  | succ k ih =>
    have ih := ih (fun j hj => hg j (by omega)) (by omega)
    have hpl := (contK_pg s k (fun j hj => hg j (by omega))).1
    have hok := hg k (by omega)
    intro q hq
    simp only [contK, stepC]
    by_cases h16 : k % 17 = 16
    · rw [if_pos h16, show min 16 (k + 1 - 17 * q) = min 16 (k - 17 * q) by omega]
      exact ih q hq
    · rw [if_neg h16, getD_set _ _ _ _ (by rw [hpl]; omega)]
      by_cases e : q = k / 17
      · rw [if_pos e]
        obtain ⟨h1, h2⟩ := ih q hq
        rw [← e]
        have hm : min 16 (k - 17 * q) = k % 17 := by omega
        have hm2 : min 16 (k + 1 - 17 * q) = k % 17 + 1 := by omega
        rw [hm] at h1 h2
        rw [hm2]
        unfold okB at hok
        rw [if_neg h16] at hok
        have hv := hxv_lt hok
        have hle : (16 : Nat) ^ (k % 17) ≤ 16 ^ 15 := Nat.pow_le_pow_right (by omega) (by omega)
        have hno : (contK s k).getD q 0 * 16 % 18446744073709551616 = (contK s k).getD q 0 * 16 := Nat.mod_eq_of_lt (by omega)
        rw [hno]
        have hkq : k = 17 * q + k % 17 := by omega
        generalize (contK s k).getD q 0 = x at *
        refine ⟨?_, fun j hj => ?_⟩
        · rw [Nat.pow_succ]
          generalize (16 : Nat) ^ (k % 17) = p at *
          omega
        · by_cases ej : j = k % 17
          · rw [ej, show k % 17 + 1 - 1 - k % 17 = 0 by omega, ← hkq]
            simp only [Nat.pow_zero, Nat.div_one]
            omega
          · have h3 := h2 j (by omega)
            rw [show k % 17 + 1 - 1 - j = (k % 17 - 1 - j) + 1 by omega, Nat.pow_succ', ← Nat.div_div_eq_div_mul, show (x * 16 + hxv (bt s k)) / 16 = x by omega]
            exact h3
      · rw [if_neg e, show min 16 (k + 1 - 17 * q) = min 16 (k - 17 * q) by omega]
        exact ih q hq

theorem text_parse (s : ByteArray) (h : prE s = 0) : strOfNums (txt (prC s) 8) = s := by
  have hs : ¬ 135 < s.size := fun hc => by unfold prE at h; rw [if_pos hc] at h; omega
  have hb : ¬ bad s < 135 := fun hc => by unfold prE at h; rw [if_neg hs, if_pos hc] at h; omega
  have hbl := badK_le s s.size 0
  have hsz : s.size = 135 := by have : bad s ≤ 0 + s.size := hbl.2.1; omega
  have hg : GoodK s 135 := fun j hj => hbl.2.2 j (by omega) (by show j < bad s; omega)
  have hc : prC s = contK s 135 := by unfold prC; rw [if_neg hs, if_neg hb]
  have hex : ∀ i, i < 135 → exB (contK s 135) i = ((bt s i : Nat) : Int) := fun i hi => by
    have hok := hg i hi
    unfold okB at hok
    unfold exB
    by_cases h16 : i % 17 = 16
    · rw [if_pos h16] at hok ⊢
      have : bt s i = 32 := by simpa using hok
      omega
    · rw [if_neg h16] at hok ⊢
      have hd := (digits_back s 135 hg (Nat.le_refl _) (i / 17) (by omega)).2 (i % 17) (by omega)
      rw [show min 16 (135 - 17 * (i / 17)) = 16 by omega, show 16 - 1 - i % 17 = 15 - i % 17 by omega, show 17 * (i / 17) + i % 17 = i by omega] at hd
      rw [hd]
      exact dg_hxv _ hok
  rw [hc]
  have ht := txt8 (contK s 135)
  apply ByteArray.ext
  apply Array.ext'
  rw [strOfNums_data]
  refine List.ext_getElem (by rw [List.length_map, ht.1]; exact hsz.symm) (fun i h1 h2 => ?_)
  rw [List.length_map, ht.1] at h1
  have hg1 : (txt (contK s 135) 8)[i]'(by rw [ht.1]; exact h1) = ((bt s i : Nat) : Int) := by
    have := ht.2 i h1
    rw [List.getD_eq_getElem?_getD, List.getElem?_eq_getElem (by rw [ht.1]; exact h1)] at this
    rw [← hex i h1, ← this]; rfl
  rw [List.getElem_map, hg1]
  have hbt : bt s i = (s.data.toList[i]'h2).toNat := by unfold bt; rw [List.getD_eq_getElem?_getD, List.getElem?_eq_getElem h2]; rfl
  rw [hbt]
  simp

end Go.Proofs.Ytbdhjiadomifeaa
