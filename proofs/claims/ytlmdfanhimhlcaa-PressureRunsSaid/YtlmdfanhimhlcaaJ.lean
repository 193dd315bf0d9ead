/- Helper facts for the statements of this seat; no statement itself. -/
import Derived.Test.YtlmdfanhimhlcaaH
import Derived.Deep.RegionHeld3
import Derived.Outline
namespace Go.Proofs.Ytlmdfanhimhlcaa
open Go.RowKit
set_option linter.unusedSimpArgs false
set_option linter.unusedVariables false
set_option linter.unnecessarySimpa false

/-- What 'history' gives: a short list of small numbers. -/
def IsIntsC (w : World) (v : Value) (l : List Int) : Prop := (v = .slice none 0 0 ∧ l = []) ∨ ∃ g cap, v = .slice (some ⟨g, 0, none⟩) l.length cap ∧ l.length ≤ cap ∧ cap ≤ 9223372036854775807 ∧ ∀ k, k < l.length → w.cell? ⟨g, k, none⟩ = some (.int .i64 (l.getD k 0))
def Hist (w : World) (e : Ending) (w' : World) : Prop := ∃ v l, (l.length ≤ 40 ∧ ∀ k, k < l.length → 0 ≤ l.getD k 0 ∧ l.getD k 0 < 20) ∧ e = .returned v ∧ IsIntsC w' v l ∧ Below w.heap.size w w'
theorem Own.intsC {w : World} {base : Nat} {v : Value} {l : List Int} (h : Own w base v l) : IsIntsC w v l := by
  obtain ⟨_, h | ⟨g, cap, cur, hv, _, hg, hc, hm, _, ht⟩⟩ := h
  · obtain ⟨rfl, h0⟩ := h
    exact .inl ⟨rfl, List.length_eq_zero_iff.1 h0⟩
  · unfold maxLen at hm
    refine .inr ⟨g, cap, hv, hc, hm, fun k hk => ?_⟩
    rw [cell_of_row w g k cur _ (0, 0) hg]
    have h2 : (cur.toList.take (l.length * 1))[k]? = some (.int .i64 (l.getD k 0)) := by rw [ht]; simp [hk]
    rw [List.getElem?_take] at h2
    simpa [hk] using h2
theorem IsIntsC.ints {w : World} {v : Value} {l : List Int} (h : IsIntsC w v l) (hl : l.length ≤ 4294967296) : IsInts w v l := by
  rcases h with ⟨rfl, rfl⟩ | ⟨g, cap, rfl, _, _, hc⟩
  · exact IsInts.nil _ _ _
  · exact ⟨_, _, _, rfl, rfl, hl, .inr ⟨g, 0, rfl, fun k hk => by rw [Nat.zero_add]; exact hc k hk⟩⟩
theorem IsIntsC.keep {w w' : World} {v : Value} {l : List Int} (h : IsIntsC w v l) (hb : Below w.heap.size w w') : IsIntsC w' v l := by
  rcases h with h | ⟨g, cap, h1, h2, h3, hc⟩
  · exact .inl h
  · exact .inr ⟨g, cap, h1, h2, h3, fun k hk => cellB hb (hc k hk)⟩
theorem small_snoc {l : List Int} {x : Int} (h : ∀ k, k < l.length → 0 ≤ l.getD k 0 ∧ l.getD k 0 < 20) (h1 : 0 ≤ x) (h2 : x < 20) : ∀ k, k < (l ++ [x]).length → 0 ≤ (l ++ [x]).getD k 0 ∧ (l ++ [x]).getD k 0 < 20 := by
  intro k hk
  by_cases e : k < l.length
  · have : (l ++ [x]).getD k 0 = l.getD k 0 := by simp [List.getD, List.getElem?_append_left e]
    rw [this]; exact h k e
  · have e2 : k = l.length := by simp at hk; omega
    subst e2
    simp [List.getD]
    exact ⟨h1, h2⟩

set_option maxHeartbeats 1000000 in
theorem history_any (a : Option Addr) (n cap : Nat) (w : World) (hn : n ≤ 9223372036854775807)
    (hl : n = 0 ∨ ∃ bb off, ∃ zs : List Int, a = some ⟨bb, off, none⟩ ∧ n ≤ zs.length ∧ ∀ k, k < n → w.cell? ⟨bb, off + k, none⟩ = some (.int .i64 (zs.getD k 0))) :
    Calls Try.prog 20 #[.slice a n cap] w (Hist w) := by
  have HL := Lib.hid hl
  clear hl
  go_enter Try.func20, Try.ntmps20
  go_wp2_with fail
  go_loopw [3, 4] (fun v i wr => ∃ (k : Nat) (l : List Int), k ≤ n ∧ k ≤ 40 ∧ i = .int .i64 k ∧ l.length = k ∧ Hid (∀ j, j < l.length → 0 ≤ l.getD j 0 ∧ l.getD j 0 < 20) ∧ Hid (Own wr w.heap.size v l) ∧ Hid (Below w.heap.size w wr)) (fun _ i _ => 40 - (intOf i).toNat)
  case atStart => exact ⟨0, [], by omega, by omega, rfl, rfl, fun j hj => absurd hj (by simp), Own.nil _ _, Below.refl _ _⟩
  case round =>
    obtain ⟨k, l, hk, hk4, rfl, hlen, hs, ho, hB⟩ := hrel
    have HE := Lib.hid hlen
    have hll : l.length ≤ 40 := by omega
    clear hlen
    by_cases hkn : k < n ∧ k < 40
    · obtain ⟨hkn, hk40⟩ := hkn
      obtain ⟨bb, off, zs, rfl, _, hz⟩ : ∃ bb off, ∃ zs : List Int, a = some ⟨bb, off, none⟩ ∧ n ≤ zs.length ∧ ∀ k, k < n → w.cell? ⟨bb, off + k, none⟩ = some (.int .i64 (zs.getD k 0)) := by
        rcases HL.out with h0 | h0
        · omega
        · exact h0
      have c0 := cellB hB.out (hz k hkn)
      have i1 : (0 : Int) ≤ (k : Int) := by omega
      have i2 : (k : Int) < (n : Int) := by omega
      have hsz := hB.out.size
      generalize zs.getD k 0 = z at *
      clear hz
      obtain ⟨m1, m2⟩ := mod_b z 20 (by omega)
      go_wp2_with fail
      refine (mod_any z 20 _ (by omega) (by omega)).mono ?_
      rintro e w2 ⟨rfl, rfl⟩
      have HS2 := Lib.hid (small_snoc hs.out m1 m2)
      generalize z % 20 = y at *
      go_wp2_with (((with_reducible refine append_intz ?b1 (.tmp 15) (.tmp 21) ?b2 w.heap.size u3 l y 3 wr.heap.size ?b3 ?b4 ?b5 ho ?b6 ?b7 ?_); (case b1 => rfl); (case b2 => rfl); (case b3 => rfl); (case b4 => rfl); (case b5 => rfl); (case b6 => omega); (case b7 => omega)); intro v' w4 ho4 hb4)
      go_roundw
      case rel => exact ⟨k + 1, l ++ [y], by omega, by omega, by go_num, by rw [List.length_append, HE.out]; rfl, HS2, ho4, hB.out.trans hb4.out⟩
      case measure => simp [intOf]; omega
    · have hstop : n ≤ k ∨ (k < n ∧ 40 ≤ k) := by omega
      clear hkn
      rcases hstop with h1 | ⟨h1, h2⟩
      · have h5 : decide ((k : Int) < (n : Int)) = false := by simp; omega
        go_wp2_with fail
        go_ret
        exact ⟨_, l, ⟨hll, hs.out⟩, rfl, ho.out.intsC, hB.out⟩
      · have h5 : (k : Int) < (n : Int) := by omega
        have h6 : decide ((k : Int) < 40) = false := by simp; omega
        go_wp2_with fail
        go_ret
        exact ⟨_, l, ⟨hll, hs.out⟩, rfl, ho.out.intsC, hB.out⟩

/-- The worst level of the first numbers, and where it is. -/
def wsL (a b c : Int) (l : List Int) : Nat → Int
  | 0 => 0
  | k + 1 => if wsL a b c l k < lvl a b c (l.getD k 0) then lvl a b c (l.getD k 0) else wsL a b c l k
def wsA (a b c : Int) (l : List Int) : Nat → Int
  | 0 => -1
  | k + 1 => if k = 0 ∨ wsL a b c l k < lvl a b c (l.getD k 0) then (k : Int) else wsA a b c l k
theorem lvl_b (a b c n : Int) : 0 ≤ lvl a b c n ∧ lvl a b c n ≤ 3 := by unfold lvl; repeat' split <;> omega
theorem wsL_b (a b c : Int) (l : List Int) (k : Nat) : 0 ≤ wsL a b c l k ∧ wsL a b c l k ≤ 3 := by
  induction k with
  | zero => simp [wsL]
  | succ k ih => unfold wsL; have := lvl_b a b c (l.getD k 0); split <;> omega
theorem wsA_b (a b c : Int) (l : List Int) (k : Nat) : -1 ≤ wsA a b c l k ∧ wsA a b c l k ≤ k ∧ (0 < k → 0 ≤ wsA a b c l k) := by
  induction k with
  | zero => simp [wsA]
  | succ k ih =>
    unfold wsA
    by_cases h : k = 0
    · subst h; simp
    · split
      · omega
      · have := ih.2.2 (by omega); omega
theorem ws_first (a b c : Int) (l : List Int) : wsL a b c l 1 = lvl a b c (l.getD 0 0) := by
  show (if (0 : Int) < lvl a b c (l.getD 0 0) then lvl a b c (l.getD 0 0) else 0) = _
  have := lvl_b a b c (l.getD 0 0)
  split <;> omega
/-- What Worst gives. -/
def woL (a b c : Int) (l : List Int) : Int := if snd a b c l = 0 then wsL a b c l l.length else 0
def woA (a b c : Int) (l : List Int) : Int := if snd a b c l = 0 then wsA a b c l l.length else 0
theorem ret3_iii {a a' b b' : Int} {x y : Int} (h1 : a = a') (h2 : b = b') (h3 : x = y) : Ending.returned (.tuple #[.int .i64 a, .int .i64 b, .int .i64 x]) = .returned (.tuple #[.int .i64 a', .int .i64 b', .int .i64 y]) := by rw [h1, h2, h3]

set_option maxHeartbeats 1000000 in
theorem worst_bad (a b c : Int) (v : Value) (l : List Int) (w : World) (hs : snd a b c l ≠ 0) (hi : IsInts w v l) :
    Calls Try.prog 23 #[MV a b c, v] w fun e w' => e = .returned (.tuple #[.int .i64 0, .int .i64 0, .int .i64 (snd a b c l)]) ∧ Below w.heap.size w w' := by
  have h' : (snd a b c l != 0) = true := by simpa using hs
  have HI := Lib.hid hi
  clear hs hi
  go_enter Try.func23, Try.ntmps23
  go_wp2_with fail
  refine (sound_any a b c v l _ (HI.out.keep ((Below.refl _ _).alloc (Nat.le_refl _) _))).mono ?_
  rintro e w1 ⟨rfl, hb⟩
  have B1 := Lib.hid (bfirst _ _ hb).2
  clear hb
  go_wp2_with fail
  go_ret3
  exact ⟨rfl, B1.out⟩

set_option maxHeartbeats 1000000 in
theorem rworst_bad (a b c : Int) (v : Value) (l : List Int) (w : World) (hs : snd a b c l ≠ 0) (hi : IsInts w v l) :
    Calls Try.prog 29 #[MV a b c, v] w fun e w' => e = .returned (.tuple #[.int .i64 0, .int .i64 0, .int .i64 (snd a b c l)]) ∧ Below w.heap.size w w' := by
  have h' : (snd a b c l != 0) = true := by simpa using hs
  have HI := Lib.hid hi
  clear hs hi
  go_enter Try.func29, Try.ntmps29
  go_wp2_with fail
  refine (asks_any a b c v l _ (HI.out.keep ((Below.refl _ _).alloc (Nat.le_refl _) _))).mono ?_
  rintro e w1 ⟨rfl, hb⟩
  have B1 := Lib.hid (bfirst _ _ hb).2
  clear hb
  go_wp2_with fail
  go_ret3
  exact ⟨rfl, B1.out⟩

theorem four {W : World} {g b0 j : Nat} {a b c y : Int} (h : W.heap[g]? = some (.cells (mC a b c) 23 (0, 0))) (hc : W.cell? ⟨b0, j, none⟩ = some (.int .i64 y)) :
    W.cell? ⟨g, 0, none⟩ = some (.int .i64 a) ∧ W.cell? ⟨g, 1, none⟩ = some (.int .i64 b) ∧ W.cell? ⟨g, 2, none⟩ = some (.int .i64 c) ∧ W.cell? ⟨b0, j, none⟩ = some (.int .i64 y) := ⟨(c3 h).1, (c3 h).2.1, (c3 h).2.2, hc⟩

set_option maxHeartbeats 2000000 in
theorem worst_loop (a b c : Int) (b0 off n cap : Nat) (l : List Int) (w : World) (hs : snd a b c l = 0) (hn : n = l.length) (hn4 : n ≤ 400) (hi : IsInts w (.slice (some ⟨b0, off, none⟩) n cap) l)
    (hl : ∀ k, k < n → w.cell? ⟨b0, off + k, none⟩ = some (.int .i64 (l.getD k 0))) :
    Calls Try.prog 23 #[MV a b c, .slice (some ⟨b0, off, none⟩) n cap] w fun e w' => e = .returned (.tuple #[.int .i64 (wsL a b c l n), .int .i64 (wsA a b c l n), .int .i64 0]) ∧ Below w.heap.size w w' := by
  have HS := Lib.hid hs
  have HN0 := Lib.hid hn
  have HL := Lib.hid hl
  have HI := Lib.hid hi
  clear hs hn hl hi
  go_enter Try.func23, Try.ntmps23
  go_wp2_with fail
  refine (sound_any a b c _ l _ (HI.out.keep ((Below.refl _ _).alloc (Nat.le_refl _) _))).mono ?_
  rintro e w1 ⟨rfl, hb⟩
  rw [HS.out]
  have H1 : Hid (w1.heap[w.heap.size]? = some (.cells (mC a b c) 23 (0, 0)) ∧ Below w.heap.size w w1) := bfirst _ _ hb
  clear hb
  go_wp2_with fail
  go_loopw [4, 5, 19] (fun vl va i wr => ∃ k : Nat, k ≤ n ∧ i = .int .i64 k ∧ vl = .int .i64 (wsL a b c l k) ∧ va = .int .i64 (wsA a b c l k) ∧ Hid (wr.heap[w.heap.size]? = some (.cells (mC a b c) 23 (0, 0)) ∧ Below w.heap.size w wr)) (fun _ _ i _ => n - (intOf i).toNat)
  case atStart => exact ⟨0, by omega, rfl, rfl, rfl, H1⟩
  case round =>
    obtain ⟨k, hk, rfl, rfl, rfl, hw⟩ := hrel
    by_cases hkn : k < n
    · have c0 := cellB hw.out.2 (HL.out k hkn)
      obtain ⟨q0, q1, q2⟩ := c3 hw.out.1
      have i1 : (0 : Int) ≤ (k : Int) := by omega
      have i2 : (k : Int) < (n : Int) := by omega
      have HN : Hid (wsL a b c l (k + 1) = if wsL a b c l k < lvl a b c (l.getD k 0) then lvl a b c (l.getD k 0) else wsL a b c l k) := rfl
      have HA : Hid (wsA a b c l (k + 1) = if k = 0 ∨ wsL a b c l k < lvl a b c (l.getD k 0) then (k : Int) else wsA a b c l k) := rfl
      have hA0 : (k = 0 → wsA a b c l k = -1) ∧ (¬ k = 0 → 0 ≤ wsA a b c l k) := ⟨fun h => by subst h; rfl, fun h => (wsA_b a b c l k).2.2 (by omega)⟩
      have hL0 : k = 0 → wsL a b c l k = 0 := fun h => by subst h; rfl
      obtain ⟨z1, z2⟩ := lvl_b a b c (l.getD k 0)
      generalize l.getD k 0 = y at *
      obtain ⟨z, hz⟩ : ∃ z, lvl a b c y = z := ⟨_, rfl⟩
      rw [hz] at HN HA z1 z2
      have HZ := Lib.hid hz
      clear hz
      generalize wsL a b c l k = L at *
      generalize wsA a b c l k = A at *
      by_cases hk0 : k = 0
      · have HL2 : Hid (wsL a b c l (k + 1) = z) := by show _ = _; rw [HN.out]; exact (by have := hL0 hk0; split <;> omega)
        have HA2 : Hid (wsA a b c l (k + 1) = (k : Int)) := by show _ = _; rw [HA.out]; exact (if_pos (.inl hk0))
        have hA1 : (A == -1) = true := by rw [beq_iff_eq]; exact hA0.1 hk0
        have hA2 : A < 0 := by have := hA0.1 hk0; omega
        have hA3 : decide (A < 0) = true := by simpa using hA2
        clear hA0 hL0 hk0
        go_wp2_with fail
        refine (levelOf_any a b c y _).mono ?_
        rintro e w3 ⟨rfl, hb⟩
        rw [HZ.out]
        have H3 : Hid (w3.heap[w.heap.size]? = some (.cells (mC a b c) 23 (0, 0)) ∧ Below w.heap.size w w3) := ⟨bkeep hb hw.out.1, btrans hw.out.2 hb⟩
        clear hb
        go_wp2_with fail
        go_roundw
        case rel => exact ⟨k + 1, by omega, by go_num, by rw [HL2.out], by rw [HA2.out], H3⟩
        case measure => simp [intOf]; omega
      by_cases hlz : L < z
      · have HL2 : Hid (wsL a b c l (k + 1) = z) := by show _ = _; rw [HN.out]; exact (if_pos hlz)
        have HA2 : Hid (wsA a b c l (k + 1) = (k : Int)) := by show _ = _; rw [HA.out]; exact (if_pos (.inr hlz))
        have hA4 : 0 ≤ A := hA0.2 hk0
        have hA1 : (A == -1) = false := by rw [beq_eq_false_iff_ne]; omega
        have hA3 : decide (A < 0) = false := by simp; omega
        have hA5 : decide (L < z) = true := by simpa using hlz
        clear hA0 hL0 hk0 hlz
        go_wp2_with fail
        refine (levelOf_any a b c y _).mono ?_
        rintro e w3 ⟨rfl, hb⟩
        rw [HZ.out]
        have H3 : Hid (w3.heap[w.heap.size]? = some (.cells (mC a b c) 23 (0, 0)) ∧ Below w.heap.size w w3) := ⟨bkeep hb hw.out.1, btrans hw.out.2 hb⟩
        clear hb
        go_wp2_with fail
        go_roundw
        case rel => exact ⟨k + 1, by omega, by go_num, by rw [HL2.out], by rw [HA2.out], H3⟩
        case measure => simp [intOf]; omega
      · have HL2 : Hid (wsL a b c l (k + 1) = L) := by show _ = _; rw [HN.out]; exact (if_neg hlz)
        have HA2 : Hid (wsA a b c l (k + 1) = A) := by show _ = _; rw [HA.out]; exact (if_neg (fun h => h.elim hk0 hlz))
        have hA4 : 0 ≤ A := hA0.2 hk0
        have hA1 : (A == -1) = false := by rw [beq_eq_false_iff_ne]; omega
        have hA3 : decide (A < 0) = false := by simp; omega
        have hA5 : decide (L < z) = false := by simpa using hlz
        have hA6 : z ≤ L := by omega
        clear hA0 hL0 hk0 hlz
        go_wp2_with fail
        refine (levelOf_any a b c y _).mono ?_
        rintro e w3 ⟨rfl, hb⟩
        rw [HZ.out]
        have H3 : Hid (w3.heap[w.heap.size]? = some (.cells (mC a b c) 23 (0, 0)) ∧ Below w.heap.size w w3) := ⟨bkeep hb hw.out.1, btrans hw.out.2 hb⟩
        clear hb
        go_wp2_with fail
        go_roundw
        case rel => exact ⟨k + 1, by omega, by go_num, by rw [HL2.out], by rw [HA2.out], H3⟩
        case measure => simp [intOf]; omega
    · have HE : Hid (k = n) := by show _ = _; omega
      have hle : n ≤ k := by omega
      go_wp2_with fail
      go_ret3
      exact ⟨ret3_iii (by rw [HE.out]) (by rw [HE.out]) rfl, hw.out.2⟩
set_option maxHeartbeats 1000000 in
theorem worst_nil (a b c : Int) (ad : Option Addr) (cap : Nat) (w : World) (hs : snd a b c [] = 0) :
    Calls Try.prog 23 #[MV a b c, .slice ad 0 cap] w fun e w' => e = .returned (.tuple #[.int .i64 0, .int .i64 (-1), .int .i64 0]) ∧ Below w.heap.size w w' := by
  have HS := Lib.hid hs
  clear hs
  go_enter Try.func23, Try.ntmps23
  go_wp2_with fail
  refine (sound_any a b c _ [] _ (IsInts.nil _ _ _)).mono ?_
  rintro e w1 ⟨rfl, hb⟩
  rw [HS.out]
  have B1 := Lib.hid (bfirst _ _ hb).2
  clear hb
  go_wp2_with fail
  refine wp_loop_rounds 1 ?_
  rw [rounds_succ]
  go_wp2_with fail
  go_ret3
  exact ⟨rfl, B1.out⟩
theorem worst_any (a b c : Int) (v : Value) (l : List Int) (w : World) (hi : IsInts w v l) :
    Calls Try.prog 23 #[MV a b c, v] w fun e w' => e = .returned (.tuple #[.int .i64 (woL a b c l), .int .i64 (woA a b c l), .int .i64 (snd a b c l)]) ∧ Below w.heap.size w w' := by
  unfold woL woA
  by_cases hs : snd a b c l = 0
  · rw [if_pos hs, if_pos hs, hs]
    have hi' := hi
    obtain ⟨ad, n, cap, rfl, hn, hn2, h⟩ := hi
    have h4 := snd_len hs
    rcases h with rfl | ⟨b0, off, rfl, h⟩
    · obtain rfl : n = 0 := hn
      exact worst_nil a b c ad cap w hs
    · have := worst_loop a b c b0 off n cap l w hs hn (by omega) hi' (by rw [hn]; exact h)
      rw [hn] at this
      rw [hn]
      exact this
  · rw [if_neg hs, if_neg hs]; exact worst_bad a b c v l w hs hi

set_option maxHeartbeats 2000000 in
theorem rworst_loop (a b c : Int) (b0 off n cap : Nat) (l : List Int) (w : World) (hs : snd a b c l = 0) (hn : n = l.length) (hn4 : n ≤ 400) (hi : IsInts w (.slice (some ⟨b0, off, none⟩) n cap) l)
    (hl : ∀ k, k < n → w.cell? ⟨b0, off + k, none⟩ = some (.int .i64 (l.getD k 0))) :
    Calls Try.prog 29 #[MV a b c, .slice (some ⟨b0, off, none⟩) n cap] w fun e w' => e = .returned (.tuple #[.int .i64 (wsL a b c l n), .int .i64 (wsA a b c l n), .int .i64 0]) ∧ Below w.heap.size w w' := by
  have HS := Lib.hid hs
  have HN0 := Lib.hid hn
  have HL := Lib.hid hl
  have HI := Lib.hid hi
  clear hs hn hl hi
  go_enter Try.func29, Try.ntmps29
  go_wp2_with fail
  refine (asks_any a b c _ l _ (HI.out.keep ((Below.refl _ _).alloc (Nat.le_refl _) _))).mono ?_
  rintro e w1 ⟨rfl, hb⟩
  rw [HS.out]
  have H1 : Hid (w1.heap[w.heap.size]? = some (.cells (mC a b c) 23 (0, 0)) ∧ Below w.heap.size w w1) := bfirst _ _ hb
  clear hb
  go_wp2_with fail
  go_loopw [8, 9, 10] (fun vl va i wr => ∃ k : Nat, k ≤ n ∧ i = .int .i64 k ∧ vl = .int .i64 (wsL a b c l k) ∧ va = .int .i64 (wsA a b c l k) ∧ Hid (wr.heap[w.heap.size]? = some (.cells (mC a b c) 23 (0, 0)) ∧ Below w.heap.size w wr)) (fun _ _ i _ => n - (intOf i).toNat)
  case atStart => exact ⟨0, by omega, rfl, rfl, rfl, H1⟩
  case round =>
    obtain ⟨k, hk, rfl, rfl, rfl, hw⟩ := hrel
    by_cases hkn : k < n
    · have c0 := cellB hw.out.2 (HL.out k hkn)
      obtain ⟨q0, q1, q2⟩ := c3 hw.out.1
      have i1 : (0 : Int) ≤ (k : Int) := by omega
      have i2 : (k : Int) < (n : Int) := by omega
      have HN : Hid (wsL a b c l (k + 1) = if wsL a b c l k < lvl a b c (l.getD k 0) then lvl a b c (l.getD k 0) else wsL a b c l k) := rfl
      have HA : Hid (wsA a b c l (k + 1) = if k = 0 ∨ wsL a b c l k < lvl a b c (l.getD k 0) then (k : Int) else wsA a b c l k) := rfl
      have hA0 : (k = 0 → wsA a b c l k = -1) ∧ (¬ k = 0 → 0 ≤ wsA a b c l k) := ⟨fun h => by subst h; rfl, fun h => (wsA_b a b c l k).2.2 (by omega)⟩
      have hL0 : k = 0 → wsL a b c l k = 0 := fun h => by subst h; rfl
      obtain ⟨z1, z2⟩ := lvl_b a b c (l.getD k 0)
      generalize l.getD k 0 = y at *
      obtain ⟨z, hz⟩ : ∃ z, lvl a b c y = z := ⟨_, rfl⟩
      rw [hz] at HN HA z1 z2
      have HZ := Lib.hid hz
      clear hz
      generalize wsL a b c l k = L at *
      generalize wsA a b c l k = A at *
      by_cases hk0 : k = 0
      · have HL2 : Hid (wsL a b c l (k + 1) = z) := by show _ = _; rw [HN.out]; exact (by have := hL0 hk0; split <;> omega)
        have HA2 : Hid (wsA a b c l (k + 1) = (k : Int)) := by show _ = _; rw [HA.out]; exact (if_pos (.inl hk0))
        have hA1 : (A == -1) = true := by rw [beq_iff_eq]; exact hA0.1 hk0
        have hA2 : A < 0 := by have := hA0.1 hk0; omega
        have hA3 : decide (A < 0) = true := by simpa using hA2
        clear hA0 hL0 hk0
        go_wp2_with fail
        have s0 := four hw.out.1 c0
        go_region_held3 (fun w' => w'.cell? ⟨w.heap.size, 0, none⟩ = some (.int .i64 a) ∧ w'.cell? ⟨w.heap.size, 1, none⟩ = some (.int .i64 b) ∧ w'.cell? ⟨w.heap.size, 2, none⟩ = some (.int .i64 c) ∧ w'.cell? ⟨b0, off + k, none⟩ = some (.int .i64 y))
          (first | exact s0 | exact s1)
          ((go_at_call 38; (with_reducible refine (rlevel_any a b c y wr.drew).mono ?_); rintro e w3 ⟨rfl, hb⟩; rw [HZ.out]; have H3 : Hid (w3.heap[w.heap.size]? = some (.cells (mC a b c) 23 (0, 0)) ∧ Below w.heap.size w w3) := ⟨bkeep (wr := wr.drew) hb hw.out.1, btrans hw.out.2.drew hb⟩; have s1 := four H3.out.1 (cellB (W := wr.drew) hb c0); clear hb))
        clear s0 s1
        go_wp2_with fail
        go_roundw
        case rel => exact ⟨k + 1, by omega, by go_num, by rw [HL2.out], by rw [HA2.out], H3⟩
        case measure => simp [intOf]; omega
      by_cases hlz : L < z
      · have HL2 : Hid (wsL a b c l (k + 1) = z) := by show _ = _; rw [HN.out]; exact (if_pos hlz)
        have HA2 : Hid (wsA a b c l (k + 1) = (k : Int)) := by show _ = _; rw [HA.out]; exact (if_pos (.inr hlz))
        have hA4 : 0 ≤ A := hA0.2 hk0
        have hA1 : (A == -1) = false := by rw [beq_eq_false_iff_ne]; omega
        have hA3 : decide (A < 0) = false := by simp; omega
        have hA5 : decide (L < z) = true := by simpa using hlz
        clear hA0 hL0 hk0 hlz
        go_wp2_with fail
        have s0 := four hw.out.1 c0
        go_region_held3 (fun w' => w'.cell? ⟨w.heap.size, 0, none⟩ = some (.int .i64 a) ∧ w'.cell? ⟨w.heap.size, 1, none⟩ = some (.int .i64 b) ∧ w'.cell? ⟨w.heap.size, 2, none⟩ = some (.int .i64 c) ∧ w'.cell? ⟨b0, off + k, none⟩ = some (.int .i64 y))
          (first | exact s0 | exact s1)
          ((go_at_call 38; (with_reducible refine (rlevel_any a b c y wr.drew).mono ?_); rintro e w3 ⟨rfl, hb⟩; rw [HZ.out]; have H3 : Hid (w3.heap[w.heap.size]? = some (.cells (mC a b c) 23 (0, 0)) ∧ Below w.heap.size w w3) := ⟨bkeep (wr := wr.drew) hb hw.out.1, btrans hw.out.2.drew hb⟩; have s1 := four H3.out.1 (cellB (W := wr.drew) hb c0); clear hb))
        clear s0 s1
        go_wp2_with fail
        go_roundw
        case rel => exact ⟨k + 1, by omega, by go_num, by rw [HL2.out], by rw [HA2.out], H3⟩
        case measure => simp [intOf]; omega
      · have HL2 : Hid (wsL a b c l (k + 1) = L) := by show _ = _; rw [HN.out]; exact (if_neg hlz)
        have HA2 : Hid (wsA a b c l (k + 1) = A) := by show _ = _; rw [HA.out]; exact (if_neg (fun h => h.elim hk0 hlz))
        have hA4 : 0 ≤ A := hA0.2 hk0
        have hA1 : (A == -1) = false := by rw [beq_eq_false_iff_ne]; omega
        have hA3 : decide (A < 0) = false := by simp; omega
        have hA5 : decide (L < z) = false := by simpa using hlz
        have hA6 : z ≤ L := by omega
        clear hA0 hL0 hk0 hlz
        go_wp2_with fail
        have s0 := four hw.out.1 c0
        go_region_held3 (fun w' => w'.cell? ⟨w.heap.size, 0, none⟩ = some (.int .i64 a) ∧ w'.cell? ⟨w.heap.size, 1, none⟩ = some (.int .i64 b) ∧ w'.cell? ⟨w.heap.size, 2, none⟩ = some (.int .i64 c) ∧ w'.cell? ⟨b0, off + k, none⟩ = some (.int .i64 y))
          (first | exact s0 | exact s1)
          ((go_at_call 38; (with_reducible refine (rlevel_any a b c y wr.drew).mono ?_); rintro e w3 ⟨rfl, hb⟩; rw [HZ.out]; have H3 : Hid (w3.heap[w.heap.size]? = some (.cells (mC a b c) 23 (0, 0)) ∧ Below w.heap.size w w3) := ⟨bkeep (wr := wr.drew) hb hw.out.1, btrans hw.out.2.drew hb⟩; have s1 := four H3.out.1 (cellB (W := wr.drew) hb c0); clear hb))
        clear s0 s1
        go_wp2_with fail
        go_roundw
        case rel => exact ⟨k + 1, by omega, by go_num, by rw [HL2.out], by rw [HA2.out], H3⟩
        case measure => simp [intOf]; omega
    · have HE : Hid (k = n) := by show _ = _; omega
      have hle : n ≤ k := by omega
      go_wp2_with fail
      go_ret3
      exact ⟨ret3_iii (by rw [HE.out]) (by rw [HE.out]) rfl, hw.out.2⟩
set_option maxHeartbeats 1000000 in
theorem rworst_nil (a b c : Int) (ad : Option Addr) (cap : Nat) (w : World) (hs : snd a b c [] = 0) :
    Calls Try.prog 29 #[MV a b c, .slice ad 0 cap] w fun e w' => e = .returned (.tuple #[.int .i64 0, .int .i64 (-1), .int .i64 0]) ∧ Below w.heap.size w w' := by
  have HS := Lib.hid hs
  clear hs
  go_enter Try.func29, Try.ntmps29
  go_wp2_with fail
  refine (asks_any a b c _ [] _ (IsInts.nil _ _ _)).mono ?_
  rintro e w1 ⟨rfl, hb⟩
  rw [HS.out]
  have B1 := Lib.hid (bfirst _ _ hb).2
  clear hb
  go_wp2_with fail
  refine wp_loop_rounds 1 ?_
  rw [rounds_succ]
  go_wp2_with fail
  go_ret3
  exact ⟨rfl, B1.out⟩
theorem rworst_any (a b c : Int) (v : Value) (l : List Int) (w : World) (hi : IsInts w v l) :
    Calls Try.prog 29 #[MV a b c, v] w fun e w' => e = .returned (.tuple #[.int .i64 (woL a b c l), .int .i64 (woA a b c l), .int .i64 (snd a b c l)]) ∧ Below w.heap.size w w' := by
  unfold woL woA
  by_cases hs : snd a b c l = 0
  · rw [if_pos hs, if_pos hs, hs]
    have hi' := hi
    obtain ⟨ad, n, cap, rfl, hn, hn2, h⟩ := hi
    have h4 := snd_len hs
    rcases h with rfl | ⟨b0, off, rfl, h⟩
    · obtain rfl : n = 0 := hn
      exact rworst_nil a b c ad cap w hs
    · have := rworst_loop a b c b0 off n cap l w hs hn (by omega) hi' (by rw [hn]; exact h)
      rw [hn] at this
      rw [hn]
      exact this
  · rw [if_neg hs, if_neg hs]; exact rworst_bad a b c v l w hs hi
end Go.Proofs.Ytlmdfanhimhlcaa
