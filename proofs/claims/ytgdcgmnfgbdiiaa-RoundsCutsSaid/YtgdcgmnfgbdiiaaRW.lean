/- Helper facts for the statements of this seat; no statement itself. -/
import Derived.Test.YtgdcgmnfgbdiiaaAQ
import Derived.Test.YtgdcgmnfgbdiiaaPG
import Derived.Test.YtgdcgmnfgbdiiaaHS
import Derived.Test.YtgdcgmnfgbdiiaaOC
import Derived.Test.YtgdcgmnfgbdiiaaTK
import Derived.Outline
namespace Go.Proofs.Ytgdcgmnfgbdiiaa
open Go.RowKit
set_option linter.unusedSimpArgs false
set_option linter.unusedVariables false
set_option linter.unnecessarySimpa false

set_option maxHeartbeats 2000000 in
theorem rwithout_any (v : Value) (l : List Int) (x : Int) (w : World) (hl : IsInts w v l) : Calls Try.prog 58 #[v, .int .i64 x] w fun e w' => ∃ v', e = .returned v' ∧ Own w' w.heap.size v' (delL x l) ∧ Below w.heap.size w w' := by
  obtain ⟨ad, n, cap, rfl⟩ := hl.slice
  obtain ⟨rfl, hn⟩ := hl.len
  have HL := Lib.hid hl
  clear hl
  go_enter Try.func58, Try.ntmps58
  go_wp2_with fail
  go_loopw [5, 6] (fun v i wr => ∃ k : Nat, k ≤ l.length ∧ i = .int .i64 k ∧ Hid (Own wr w.heap.size v (delL x (l.take k))) ∧ Hid (Below w.heap.size w wr)) (fun _ i _ => l.length - (intOf i).toNat)
  case atStart => exact ⟨0, by omega, rfl, Own.nil _ _, Below.refl _ _⟩
  case round =>
    obtain ⟨k, hk, rfl, ho, hb⟩ := hrel
    by_cases hlt : k < l.length
    · obtain ⟨bb, off, rfl, c0⟩ := (HL.out.keep hb.out).at k hlt
      have i1 : (0 : Int) ≤ (k : Int) := by omega
      have i2 : (k : Int) < (l.length : Int) := by omega
      have HT := Lib.hid (delL_take x l k hlt)
      have hln : (delL x (l.take k)).length ≤ k := by have := delL_len x (l.take k); rw [List.length_take] at this; omega
      have hsz := hb.out.size
      generalize l.getD k 0 = y at *
      by_cases e : y = x
      · have e2 : (y != x) = false := by simpa using e
        have HT2 : Hid (delL x (l.take (k + 1)) = delL x (l.take k)) := by rw [HT.out, if_neg (by rw [e2]; decide)]; rfl
        clear HT e
        go_wp2_with fail
        go_roundw
        case rel => exact ⟨k + 1, by omega, by go_num, by rw [HT2.out]; exact ho, hb⟩
        case measure => simp [intOf]; omega
      · have e2 : (y != x) = true := by simpa using e
        have HT2 : Hid (delL x (l.take (k + 1)) = delL x (l.take k) ++ [y]) := by rw [HT.out, if_pos e2]; rfl
        clear HT e
        go_wp2_with (((with_reducible refine append_intz ?b1 (.tmp 19) (.tmp 24) ?b2 w.heap.size u5 (delL x (l.take k)) y 3 wr.heap.size ?b3 ?b4 ?b5 ho ?b6 ?b7 ?_); (case b1 => rfl); (case b2 => rfl); (case b3 => rfl); (case b4 => rfl); (case b5 => rfl); (case b6 => omega); (case b7 => omega)); intro v' w4 ho4 hb4)
        go_roundw
        case rel => exact ⟨k + 1, by omega, by go_num, by rw [HT2.out]; exact ho4, hb.out.trans hb4.out⟩
        case measure => simp [intOf]; omega
    · obtain rfl : k = l.length := by omega
      go_wp2_with fail
      go_ret
      refine ⟨_, rfl, ?_, hb.out⟩
      have := ho.out
      rw [List.take_length] at this
      exact this
/-- The rest of a slice. -/
theorem IsInts.drop {w : World} {a : Option Addr} {cap : Nat} {l : List Int} (h : IsInts w (.slice a l.length cap) l) (k : Nat) (hk : k ≤ l.length) (c : Nat) : IsInts w (.slice (Option.map (fun x => x.add k) a) (l.length - k) c) (l.drop k) := by
  obtain ⟨a', n', c', e, h1, h2, h3⟩ := h
  cases e
  refine ⟨_, _, _, rfl, by simp, by simp; omega, ?_⟩
  rcases h3 with rfl | ⟨b, off, rfl, hc⟩
  · left; simp
  · right
    refine ⟨b, off + k, by rw [Option.map_some, addN], fun j hj => ?_⟩
    have hj2 : k + j < l.length := by simp at hj; omega
    have e : (l.drop k).getD j 0 = l.getD (k + j) 0 := by simp [List.getD, List.getElem?_drop]
    rw [e, Nat.add_assoc]
    exact hc (k + j) hj2
theorem IsInts.end {w : World} {a : Option Addr} {l : List Int} (k : Nat) (hk : k = l.length) (c : Nat) : IsInts w (.slice a (l.length - k) c) (l.drop k) := by
  subst hk
  rw [Nat.sub_self, List.drop_length]
  exact IsInts.nil _ _ _
theorem one_grown {W W' : World} {b : Nat} {x : Int} {row : Option Nat} (h : IsInts W (.slice (some ⟨b, 0, none⟩) 1 1) [x]) (hg : W.grownBy W' row) (hne : some b ≠ row) : IsInts W' (.slice (some ⟨b, 0, none⟩) 1 1) [x] := by
  obtain ⟨b', off, e, hc⟩ := h.at 0 (by simp)
  cases e
  refine ⟨_, _, _, rfl, rfl, by simp, .inr ⟨b, 0, rfl, fun k hk => ?_⟩⟩
  obtain rfl : k = 0 := by simpa using hk
  exact hg.cell hc hne
set_option maxRecDepth 100000 in
set_option maxHeartbeats 4000000 in
theorem rwith_any (v : Value) (l : List Int) (x : Int) (w : World) (hl : IsInts w v l) (hcap : CapI v) (h5 : l.length ≤ 100000) : Calls Try.prog 57 #[v, .int .i64 x] w fun e w' => ∃ v', e = .returned v' ∧ Own w' w.heap.size v' (insL x l) ∧ Below w.heap.size w w' := by
  obtain ⟨ad, n, cap, rfl⟩ := hl.slice
  obtain ⟨rfl, hn⟩ := hl.len
  have hcp := hcap _ _ _ rfl
  have HL := Lib.hid hl
  clear hl hcap
  go_enter Try.func57, Try.ntmps57
  go_wp2_with fail
  go_loopw [5] (fun i wr => ∃ k : Nat, k ≤ l.length ∧ i = .int .i64 k ∧ Hid (∀ j, j < k → l.getD j 0 < x) ∧ wr = w) (fun i _ => l.length - (intOf i).toNat)
  case atStart => exact ⟨0, by omega, rfl, fun j hj => by omega, rfl⟩
  case round =>
    obtain ⟨k, hk, rfl, hp, rfl⟩ := hrel
    have i1 : (0 : Int) ≤ (k : Int) := by omega
    by_cases hgo : k < l.length ∧ l.getD k 0 < x
    · obtain ⟨hlt, hx⟩ := hgo
      obtain ⟨bb, off, rfl, c0⟩ := HL.out.at k hlt
      have i2 : (k : Int) < (l.length : Int) := by omega
      have HN : Hid (∀ j, j < k + 1 → l.getD j 0 < x) := fun j hj => by
        by_cases ej : j = k
        · subst ej; exact hx
        · exact hp.out j (by omega)
      generalize l.getD k 0 = y at *
      go_wp2_with fail
      go_roundw
      case rel => exact ⟨k + 1, by omega, by go_num, HN, by first | rfl | trivial⟩
      case measure => simp [intOf]; omega
    · have HINS := Lib.hid (insL_split x l k hk hp.out (fun h => by by_cases h2 : l.getD k 0 < x; exact absurd ⟨h, h2⟩ hgo; omega))
      have OA : Hid (Own (wr.drew.alloc (.cells #[] 3)) wr.heap.size (.slice (some ⟨wr.heap.size, 0, none⟩) 0 0) []) := Own.lit wr.drew [] wr.heap.size (Nat.le_refl _) (by decide)
      have IA : Hid (IsInts (wr.drew.alloc (.cells #[] 3)) (.slice ad k cap) (l.take k)) := IsInts.keep (w := wr) (HL.out.take k hk) (balloc (Below.drew (Below.refl _ _)) _)
      have BA : Hid (Below wr.heap.size wr (wr.drew.alloc (.cells #[] 3))) := balloc (Below.drew (Below.refl _ _)) _
      have OB : Hid (Own ((wr.drew.alloc (.cells #[.int .i64 x] 3)).alloc (.cells #[] 3)) wr.heap.size (.slice (some ⟨wr.heap.size + 1, 0, none⟩) 0 0) []) := by
        have := Own.lit (wr.drew.alloc (.cells #[.int .i64 x] 3)) [] wr.heap.size (by simp only [World.size_alloc, heapD]; omega) (by decide)
        simp only [World.size_alloc, heapD] at this
        exact this
      have BB : Hid (Below wr.heap.size wr ((wr.drew.alloc (.cells #[.int .i64 x] 3)).alloc (.cells #[] 3))) := balloc (balloc (Below.drew (Below.refl _ _)) _) _
      have IB : Hid (IsInts ((wr.drew.alloc (.cells #[.int .i64 x] 3)).alloc (.cells #[] 3)) (.slice ad k cap) (l.take k)) := IsInts.keep (w := wr) (HL.out.take k hk) BB.out
      have XB : Hid (IsInts ((wr.drew.alloc (.cells #[.int .i64 x] 3)).alloc (.cells #[] 3)) (.slice (some ⟨wr.heap.size, 0, none⟩) 1 1) [x]) := isIL [x] (by simp) (h2_0 wr.drew _ _)
      have OC : Hid (Own ((wr.drew.alloc (.cells #[] 3)).alloc (.cells #[.int .i64 x] 3)) wr.heap.size (.slice (some ⟨wr.heap.size, 0, none⟩) 0 0) []) := OA.out.alloc _
      have BC : Hid (Below wr.heap.size wr ((wr.drew.alloc (.cells #[] 3)).alloc (.cells #[.int .i64 x] 3))) := balloc (balloc (Below.drew (Below.refl _ _)) _) _
      have IC : Hid (IsInts ((wr.drew.alloc (.cells #[] 3)).alloc (.cells #[.int .i64 x] 3)) (.slice ad k cap) (l.take k)) := IsInts.keep (w := wr) (HL.out.take k hk) BC.out
      have XC : Hid (IsInts ((wr.drew.alloc (.cells #[] 3)).alloc (.cells #[.int .i64 x] 3)) (.slice (some ⟨wr.heap.size + 1, 0, none⟩) 1 1) [x]) := isIL [x] (by simp) (h2_1 wr.drew _ _)
      have HN : Hid (([] : List Int).length + (l.take k).length < 4294967296 ∧ (l.take k).length + [x].length < 4294967296 ∧ (l.take k ++ [x]).length + (l.drop k).length < 4294967296) := by refine ⟨?_, ?_, ?_⟩ <;> (simp; omega)
      have hex : (l.length : Int) ≤ (k : Int) ∨ ((k : Int) < (l.length : Int) ∧ x ≤ l.getD k 0) := by omega
      have HCD : Hid (k < l.length → ∃ bb off, ad = some ⟨bb, off, none⟩ ∧ wr.cell? ⟨bb, off + k, none⟩ = some (.int .i64 (l.getD k 0))) := fun h => HL.out.at k h
      clear hgo
      have i3 : (k : Int) ≤ (l.length : Int) := by omega
      have i4 : (k : Int) ≤ (cap : Int) := by omega
      have i5 : (l.length : Int) ≤ (cap : Int) := by omega
      rcases hex with h1 | ⟨h1, h2⟩
      · clear HCD
        have hkl : k = l.length := by omega
        go_upto_region 4 with fail
        by_cases hck : cap = k
        · have ID : Hid (IsInts wr (.slice ad 0 0) (l.drop k)) := by rw [hkl, List.drop_length]; exact IsInts.nil _ _ _
          subst hck
          have HKL := Lib.hid hkl
          clear hkl h1
          go_region_law (first | ((with_reducible refine step_append_isI ?ma1 (.tmp 20) (.tmp 23) ?ma2 wr.heap.size (.slice (some ⟨wr.heap.size, 0, none⟩) 0 0) (.slice ad cap cap) [] (l.take cap) ?ma3 ?ma4 ?ma5 ?ma6 ?ma7 ?ma8 ?_); (case ma1 => rfl); (case ma2 => rfl); (case ma3 => rfl); (case ma4 => rfl); (case ma5 => exact OA); (case ma6 => exact IA); (case ma7 => exact HN.out.1); (case ma8 => (show wr.heap.size ≤ _; simp only [World.size_alloc, heapD]; omega)); intro v1 w1 ho1 hb1 hg1; have HO1 : Hid (Own (w1.alloc (.cells #[.int .i64 x] 3)) wr.heap.size v1 (l.take cap)) := Own.alloc ho1.out (.cells #[.int .i64 x] 3); have BB1 : Hid (Below wr.heap.size wr w1) := BA.out.trans hb1.out; have HX1 : Hid (IsInts (w1.alloc (.cells #[.int .i64 x] 3)) (.slice (some ⟨w1.heap.size, 0, none⟩) 1 1) [x]) := (isIL [x] (by simp) (h1_0 _ _))) | ((with_reducible refine step_append_isI ?mb1 (.tmp 20) (.tmp 23) ?mb2 wr.heap.size (.slice (some ⟨wr.heap.size + 1, 0, none⟩) 0 0) (.slice ad cap cap) [] (l.take cap) ?mb3 ?mb4 ?mb5 ?mb6 ?mb7 ?mb8 ?_); (case mb1 => rfl); (case mb2 => rfl); (case mb3 => rfl); (case mb4 => rfl); (case mb5 => exact OB); (case mb6 => exact IB); (case mb7 => exact HN.out.1); (case mb8 => (show wr.heap.size ≤ _; simp only [World.size_alloc, heapD]; omega)); intro v1 w1 ho1 hb1 hg1; have HO1 : Hid (Own w1 wr.heap.size v1 (l.take cap)) := ho1; have BB1 : Hid (Below wr.heap.size wr w1) := BB.out.trans hb1.out; have HX1 : Hid (IsInts w1 (.slice (some ⟨wr.heap.size, 0, none⟩) 1 1) [x]) := one_grown XB.out hg1.out (by simp [Value.ownBlock])) | ((with_reducible refine step_append_isI ?mc1 (.tmp 20) (.tmp 23) ?mc2 wr.heap.size (.slice (some ⟨wr.heap.size, 0, none⟩) 0 0) (.slice ad cap cap) [] (l.take cap) ?mc3 ?mc4 ?mc5 ?mc6 ?mc7 ?mc8 ?_); (case mc1 => rfl); (case mc2 => rfl); (case mc3 => rfl); (case mc4 => rfl); (case mc5 => exact OC); (case mc6 => exact IC); (case mc7 => exact HN.out.1); (case mc8 => (show wr.heap.size ≤ _; simp only [World.size_alloc, heapD]; omega)); intro v1 w1 ho1 hb1 hg1; have HO1 : Hid (Own w1 wr.heap.size v1 (l.take cap)) := ho1; have BB1 : Hid (Below wr.heap.size wr w1) := BC.out.trans hb1.out; have HX1 : Hid (IsInts w1 (.slice (some ⟨wr.heap.size + 1, 0, none⟩) 1 1) [x]) := one_grown XC.out hg1.out (by simp [Value.ownBlock])) | ((with_reducible refine step_append_isI ?md1 (.tmp 24) (.tmp 26) ?md2 wr.heap.size v1 (.slice (some ⟨w1.heap.size, 0, none⟩) 1 1) (l.take cap) [x] ?md3 ?md4 ?md5 ?md6 ?md7 ?md8 ?_); (case md1 => rfl); (case md2 => rfl); (case md3 => rfl); (case md4 => rfl); (case md5 => exact HO1); (case md6 => exact HX1); (case md7 => exact HN.out.2.1); (case md8 => (have := BB1.out.size; simp only [World.size_alloc]; omega)); intro v2 w2 ho2 hb2 hg2; have BB2 : Hid (Below wr.heap.size wr w2) := (balloc BB1.out _).trans hb2.out; have HO2 := ho2; have HI2 := Lib.hid (ID.out.keep BB2.out)) | ((with_reducible refine step_append_isI ?me1 (.tmp 24) (.tmp 26) ?me2 wr.heap.size v1 (.slice (some ⟨wr.heap.size, 0, none⟩) 1 1) (l.take cap) [x] ?me3 ?me4 ?me5 ?me6 ?me7 ?me8 ?_); (case me1 => rfl); (case me2 => rfl); (case me3 => rfl); (case me4 => rfl); (case me5 => exact HO1); (case me6 => exact HX1); (case me7 => exact HN.out.2.1); (case me8 => exact BB1.out.size); intro v2 w2 ho2 hb2 hg2; have BB2 : Hid (Below wr.heap.size wr w2) := BB1.out.trans hb2.out; have HO2 := ho2; have HI2 := Lib.hid (ID.out.keep BB2.out)) | ((with_reducible refine step_append_isI ?mf1 (.tmp 24) (.tmp 26) ?mf2 wr.heap.size v1 (.slice (some ⟨wr.heap.size + 1, 0, none⟩) 1 1) (l.take cap) [x] ?mf3 ?mf4 ?mf5 ?mf6 ?mf7 ?mf8 ?_); (case mf1 => rfl); (case mf2 => rfl); (case mf3 => rfl); (case mf4 => rfl); (case mf5 => exact HO1); (case mf6 => exact HX1); (case mf7 => exact HN.out.2.1); (case mf8 => exact BB1.out.size); intro v2 w2 ho2 hb2 hg2; have BB2 : Hid (Below wr.heap.size wr w2) := BB1.out.trans hb2.out; have HO2 := ho2; have HI2 := Lib.hid (ID.out.keep BB2.out)) | ((with_reducible refine step_append_isI ?mg1 (.tmp 27) (.tmp 30) ?mg2 wr.heap.size v2 (.slice ad 0 0) (l.take cap ++ [x]) (l.drop cap) ?mg3 ?mg4 ?mg5 ?mg6 ?mg7 ?mg8 ?_); (case mg1 => rfl); (case mg2 => rfl); (case mg3 => rfl); (case mg4 => rfl); (case mg5 => exact HO2); (case mg6 => exact HI2); (case mg7 => exact HN.out.2.2); (case mg8 => exact BB2.out.size); intro v3 w3 ho3 hb3 hg3; have BB3 : Hid (Below wr.heap.size wr w3) := BB2.out.trans hb3.out) | fail)
          all_goals
            go_wp2_with fail
            go_ret
            refine ⟨v3, rfl, ?_, BB3.out⟩
            rw [HINS.out]
            have := ho3.out
            simpa using this
        · have ID : Hid (IsInts wr (.slice (Option.map (fun x => x.add k) ad) (l.length - k) (cap - k)) (l.drop k)) := HL.out.drop k hk _
          have HKL := Lib.hid hkl
          clear hkl h1
          go_region_law (first | ((with_reducible refine step_append_isI ?na1 (.tmp 20) (.tmp 23) ?na2 wr.heap.size (.slice (some ⟨wr.heap.size, 0, none⟩) 0 0) (.slice ad k cap) [] (l.take k) ?na3 ?na4 ?na5 ?na6 ?na7 ?na8 ?_); (case na1 => rfl); (case na2 => rfl); (case na3 => rfl); (case na4 => rfl); (case na5 => exact OA); (case na6 => exact IA); (case na7 => exact HN.out.1); (case na8 => (show wr.heap.size ≤ _; simp only [World.size_alloc, heapD]; omega)); intro v1 w1 ho1 hb1 hg1; have HO1 : Hid (Own (w1.alloc (.cells #[.int .i64 x] 3)) wr.heap.size v1 (l.take k)) := Own.alloc ho1.out (.cells #[.int .i64 x] 3); have BB1 : Hid (Below wr.heap.size wr w1) := BA.out.trans hb1.out; have HX1 : Hid (IsInts (w1.alloc (.cells #[.int .i64 x] 3)) (.slice (some ⟨w1.heap.size, 0, none⟩) 1 1) [x]) := (isIL [x] (by simp) (h1_0 _ _))) | ((with_reducible refine step_append_isI ?nb1 (.tmp 20) (.tmp 23) ?nb2 wr.heap.size (.slice (some ⟨wr.heap.size + 1, 0, none⟩) 0 0) (.slice ad k cap) [] (l.take k) ?nb3 ?nb4 ?nb5 ?nb6 ?nb7 ?nb8 ?_); (case nb1 => rfl); (case nb2 => rfl); (case nb3 => rfl); (case nb4 => rfl); (case nb5 => exact OB); (case nb6 => exact IB); (case nb7 => exact HN.out.1); (case nb8 => (show wr.heap.size ≤ _; simp only [World.size_alloc, heapD]; omega)); intro v1 w1 ho1 hb1 hg1; have HO1 : Hid (Own w1 wr.heap.size v1 (l.take k)) := ho1; have BB1 : Hid (Below wr.heap.size wr w1) := BB.out.trans hb1.out; have HX1 : Hid (IsInts w1 (.slice (some ⟨wr.heap.size, 0, none⟩) 1 1) [x]) := one_grown XB.out hg1.out (by simp [Value.ownBlock])) | ((with_reducible refine step_append_isI ?nc1 (.tmp 20) (.tmp 23) ?nc2 wr.heap.size (.slice (some ⟨wr.heap.size, 0, none⟩) 0 0) (.slice ad k cap) [] (l.take k) ?nc3 ?nc4 ?nc5 ?nc6 ?nc7 ?nc8 ?_); (case nc1 => rfl); (case nc2 => rfl); (case nc3 => rfl); (case nc4 => rfl); (case nc5 => exact OC); (case nc6 => exact IC); (case nc7 => exact HN.out.1); (case nc8 => (show wr.heap.size ≤ _; simp only [World.size_alloc, heapD]; omega)); intro v1 w1 ho1 hb1 hg1; have HO1 : Hid (Own w1 wr.heap.size v1 (l.take k)) := ho1; have BB1 : Hid (Below wr.heap.size wr w1) := BC.out.trans hb1.out; have HX1 : Hid (IsInts w1 (.slice (some ⟨wr.heap.size + 1, 0, none⟩) 1 1) [x]) := one_grown XC.out hg1.out (by simp [Value.ownBlock])) | ((with_reducible refine step_append_isI ?nd1 (.tmp 24) (.tmp 26) ?nd2 wr.heap.size v1 (.slice (some ⟨w1.heap.size, 0, none⟩) 1 1) (l.take k) [x] ?nd3 ?nd4 ?nd5 ?nd6 ?nd7 ?nd8 ?_); (case nd1 => rfl); (case nd2 => rfl); (case nd3 => rfl); (case nd4 => rfl); (case nd5 => exact HO1); (case nd6 => exact HX1); (case nd7 => exact HN.out.2.1); (case nd8 => (have := BB1.out.size; simp only [World.size_alloc]; omega)); intro v2 w2 ho2 hb2 hg2; have BB2 : Hid (Below wr.heap.size wr w2) := (balloc BB1.out _).trans hb2.out; have HO2 := ho2; have HI2 := Lib.hid (ID.out.keep BB2.out)) | ((with_reducible refine step_append_isI ?ne1 (.tmp 24) (.tmp 26) ?ne2 wr.heap.size v1 (.slice (some ⟨wr.heap.size, 0, none⟩) 1 1) (l.take k) [x] ?ne3 ?ne4 ?ne5 ?ne6 ?ne7 ?ne8 ?_); (case ne1 => rfl); (case ne2 => rfl); (case ne3 => rfl); (case ne4 => rfl); (case ne5 => exact HO1); (case ne6 => exact HX1); (case ne7 => exact HN.out.2.1); (case ne8 => exact BB1.out.size); intro v2 w2 ho2 hb2 hg2; have BB2 : Hid (Below wr.heap.size wr w2) := BB1.out.trans hb2.out; have HO2 := ho2; have HI2 := Lib.hid (ID.out.keep BB2.out)) | ((with_reducible refine step_append_isI ?nf1 (.tmp 24) (.tmp 26) ?nf2 wr.heap.size v1 (.slice (some ⟨wr.heap.size + 1, 0, none⟩) 1 1) (l.take k) [x] ?nf3 ?nf4 ?nf5 ?nf6 ?nf7 ?nf8 ?_); (case nf1 => rfl); (case nf2 => rfl); (case nf3 => rfl); (case nf4 => rfl); (case nf5 => exact HO1); (case nf6 => exact HX1); (case nf7 => exact HN.out.2.1); (case nf8 => exact BB1.out.size); intro v2 w2 ho2 hb2 hg2; have BB2 : Hid (Below wr.heap.size wr w2) := BB1.out.trans hb2.out; have HO2 := ho2; have HI2 := Lib.hid (ID.out.keep BB2.out)) | ((with_reducible refine step_append_isI ?ng1 (.tmp 27) (.tmp 30) ?ng2 wr.heap.size v2 (.slice (Option.map (fun x => x.add k) ad) (l.length - k) (cap - k)) (l.take k ++ [x]) (l.drop k) ?ng3 ?ng4 ?ng5 ?ng6 ?ng7 ?ng8 ?_); (case ng1 => rfl); (case ng2 => rfl); (case ng3 => rfl); (case ng4 => rfl); (case ng5 => exact HO2); (case ng6 => exact HI2); (case ng7 => exact HN.out.2.2); (case ng8 => exact BB2.out.size); intro v3 w3 ho3 hb3 hg3; have BB3 : Hid (Below wr.heap.size wr w3) := BB2.out.trans hb3.out) | fail)
          all_goals
            go_wp2_with fail
            go_ret
            refine ⟨v3, rfl, ?_, BB3.out⟩
            rw [HINS.out]
            have := ho3.out
            simpa using this
      · obtain ⟨bb, off, rfl, c0⟩ := HCD.out (by omega)
        have hck : ¬ cap = k := by omega
        have ID : Hid (IsInts wr (.slice (some ⟨bb, off + k, none⟩) (l.length - k) (cap - k)) (l.drop k)) := by
          have := HL.out.drop k hk (cap - k)
          rw [Option.map_some, addN] at this
          exact this
        generalize l.getD k 0 = y at *
        clear HCD
        go_upto_region 4 with fail
        clear c0 h2
        go_region_law (first | ((with_reducible refine step_append_isI ?qa1 (.tmp 20) (.tmp 23) ?qa2 wr.heap.size (.slice (some ⟨wr.heap.size, 0, none⟩) 0 0) (.slice (some ⟨bb, off, none⟩) k cap) [] (l.take k) ?qa3 ?qa4 ?qa5 ?qa6 ?qa7 ?qa8 ?_); (case qa1 => rfl); (case qa2 => rfl); (case qa3 => rfl); (case qa4 => rfl); (case qa5 => exact OA); (case qa6 => exact IA); (case qa7 => exact HN.out.1); (case qa8 => (show wr.heap.size ≤ _; simp only [World.size_alloc, heapD]; omega)); intro v1 w1 ho1 hb1 hg1; have HO1 : Hid (Own (w1.alloc (.cells #[.int .i64 x] 3)) wr.heap.size v1 (l.take k)) := Own.alloc ho1.out (.cells #[.int .i64 x] 3); have BB1 : Hid (Below wr.heap.size wr w1) := BA.out.trans hb1.out; have HX1 : Hid (IsInts (w1.alloc (.cells #[.int .i64 x] 3)) (.slice (some ⟨w1.heap.size, 0, none⟩) 1 1) [x]) := (isIL [x] (by simp) (h1_0 _ _))) | ((with_reducible refine step_append_isI ?qb1 (.tmp 20) (.tmp 23) ?qb2 wr.heap.size (.slice (some ⟨wr.heap.size + 1, 0, none⟩) 0 0) (.slice (some ⟨bb, off, none⟩) k cap) [] (l.take k) ?qb3 ?qb4 ?qb5 ?qb6 ?qb7 ?qb8 ?_); (case qb1 => rfl); (case qb2 => rfl); (case qb3 => rfl); (case qb4 => rfl); (case qb5 => exact OB); (case qb6 => exact IB); (case qb7 => exact HN.out.1); (case qb8 => (show wr.heap.size ≤ _; simp only [World.size_alloc, heapD]; omega)); intro v1 w1 ho1 hb1 hg1; have HO1 : Hid (Own w1 wr.heap.size v1 (l.take k)) := ho1; have BB1 : Hid (Below wr.heap.size wr w1) := BB.out.trans hb1.out; have HX1 : Hid (IsInts w1 (.slice (some ⟨wr.heap.size, 0, none⟩) 1 1) [x]) := one_grown XB.out hg1.out (by simp [Value.ownBlock])) | ((with_reducible refine step_append_isI ?qc1 (.tmp 20) (.tmp 23) ?qc2 wr.heap.size (.slice (some ⟨wr.heap.size, 0, none⟩) 0 0) (.slice (some ⟨bb, off, none⟩) k cap) [] (l.take k) ?qc3 ?qc4 ?qc5 ?qc6 ?qc7 ?qc8 ?_); (case qc1 => rfl); (case qc2 => rfl); (case qc3 => rfl); (case qc4 => rfl); (case qc5 => exact OC); (case qc6 => exact IC); (case qc7 => exact HN.out.1); (case qc8 => (show wr.heap.size ≤ _; simp only [World.size_alloc, heapD]; omega)); intro v1 w1 ho1 hb1 hg1; have HO1 : Hid (Own w1 wr.heap.size v1 (l.take k)) := ho1; have BB1 : Hid (Below wr.heap.size wr w1) := BC.out.trans hb1.out; have HX1 : Hid (IsInts w1 (.slice (some ⟨wr.heap.size + 1, 0, none⟩) 1 1) [x]) := one_grown XC.out hg1.out (by simp [Value.ownBlock])) | ((with_reducible refine step_append_isI ?qd1 (.tmp 24) (.tmp 26) ?qd2 wr.heap.size v1 (.slice (some ⟨w1.heap.size, 0, none⟩) 1 1) (l.take k) [x] ?qd3 ?qd4 ?qd5 ?qd6 ?qd7 ?qd8 ?_); (case qd1 => rfl); (case qd2 => rfl); (case qd3 => rfl); (case qd4 => rfl); (case qd5 => exact HO1); (case qd6 => exact HX1); (case qd7 => exact HN.out.2.1); (case qd8 => (have := BB1.out.size; simp only [World.size_alloc]; omega)); intro v2 w2 ho2 hb2 hg2; have BB2 : Hid (Below wr.heap.size wr w2) := (balloc BB1.out _).trans hb2.out; have HO2 := ho2; have HI2 := Lib.hid (ID.out.keep BB2.out)) | ((with_reducible refine step_append_isI ?qe1 (.tmp 24) (.tmp 26) ?qe2 wr.heap.size v1 (.slice (some ⟨wr.heap.size, 0, none⟩) 1 1) (l.take k) [x] ?qe3 ?qe4 ?qe5 ?qe6 ?qe7 ?qe8 ?_); (case qe1 => rfl); (case qe2 => rfl); (case qe3 => rfl); (case qe4 => rfl); (case qe5 => exact HO1); (case qe6 => exact HX1); (case qe7 => exact HN.out.2.1); (case qe8 => exact BB1.out.size); intro v2 w2 ho2 hb2 hg2; have BB2 : Hid (Below wr.heap.size wr w2) := BB1.out.trans hb2.out; have HO2 := ho2; have HI2 := Lib.hid (ID.out.keep BB2.out)) | ((with_reducible refine step_append_isI ?qf1 (.tmp 24) (.tmp 26) ?qf2 wr.heap.size v1 (.slice (some ⟨wr.heap.size + 1, 0, none⟩) 1 1) (l.take k) [x] ?qf3 ?qf4 ?qf5 ?qf6 ?qf7 ?qf8 ?_); (case qf1 => rfl); (case qf2 => rfl); (case qf3 => rfl); (case qf4 => rfl); (case qf5 => exact HO1); (case qf6 => exact HX1); (case qf7 => exact HN.out.2.1); (case qf8 => exact BB1.out.size); intro v2 w2 ho2 hb2 hg2; have BB2 : Hid (Below wr.heap.size wr w2) := BB1.out.trans hb2.out; have HO2 := ho2; have HI2 := Lib.hid (ID.out.keep BB2.out)) | ((with_reducible refine step_append_isI ?qg1 (.tmp 27) (.tmp 30) ?qg2 wr.heap.size v2 (.slice (some ⟨bb, off + k, none⟩) (l.length - k) (cap - k)) (l.take k ++ [x]) (l.drop k) ?qg3 ?qg4 ?qg5 ?qg6 ?qg7 ?qg8 ?_); (case qg1 => rfl); (case qg2 => rfl); (case qg3 => rfl); (case qg4 => rfl); (case qg5 => exact HO2); (case qg6 => exact HI2); (case qg7 => exact HN.out.2.2); (case qg8 => exact BB2.out.size); intro v3 w3 ho3 hb3 hg3; have BB3 : Hid (Below wr.heap.size wr w3) := BB2.out.trans hb3.out) | fail)
        all_goals
          go_wp2_with fail
          go_ret
          refine ⟨v3, rfl, ?_, BB3.out⟩
          rw [HINS.out]
          have := ho3.out
          simpa using this
end Go.Proofs.Ytgdcgmnfgbdiiaa
