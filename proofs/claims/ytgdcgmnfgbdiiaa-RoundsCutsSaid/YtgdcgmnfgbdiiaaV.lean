/- Helper facts for the statements of this seat; no statement itself. -/
import Derived.Test.YtgdcgmnfgbdiiaaU
import Derived.Outline
namespace Go.Proofs.Ytgdcgmnfgbdiiaa
open Go.RowKit
set_option linter.unusedSimpArgs false
set_option linter.unusedVariables false
set_option linter.unnecessarySimpa false

/-- What Fair gives. -/
def faC (m : Mo) (j k : Nat) : List (Int × Int) := List.replicate j (10, 0) ++ (m.b.take k).map fun x => (9, x)
def faL (m : Mo) : List (Int × Int) := if ckM m = 0 then faC m m.p.length m.b.length ++ [(9, 0)] else []
def Fai (m : Mo) (w : World) (e : Ending) (w' : World) : Prop := ∃ v, e = .returned (.tuple #[v, .int .i64 (ckM m)]) ∧ IsCm w' v (faL m) ∧ Below w.heap.size w w'
theorem faC_len (m : Mo) (j k : Nat) : (faC m j k).length ≤ j + k := by simp [faC]; omega
theorem faC_p (m : Mo) (j : Nat) : faC m (j + 1) 0 = faC m j 0 ++ [(10, 0)] := by simp [faC, List.replicate_succ']
theorem faC_b (m : Mo) (j k : Nat) (h : k < m.b.length) : faC m j (k + 1) = faC m j k ++ [(9, m.b.getD k 0)] := by
  simp only [faC, List.take_add_one, List.map_append, List.append_assoc]
  simp [List.getD, h]
theorem okA_low {lo hi : Int} {p : Option Int} {l : List Int} (h : ∀ k, k < l.length → okA lo hi p l k) : ∀ k : Nat, k < l.length → lo + k ≤ l.getD k 0
  | 0, hk => by have := (h 0 hk).1; simpa using this
  | k + 1, hk => by
    have h1 := okA_low h k (by omega)
    have h2 := (h (k + 1) hk).2.2.2 (by omega)
    rw [Nat.add_sub_cancel] at h2
    omega
theorem okA_len {lo hi : Int} {p : Option Int} {l : List Int} (h : ∀ k, k < l.length → okA lo hi p l k) (hl : lo ≤ hi + 1) : lo + l.length ≤ hi + 1 := by
  by_cases h0 : l.length = 0
  · omega
  · have h1 := okA_low h (l.length - 1) (by omega)
    have h2 := (h (l.length - 1) (by omega)).2.1
    omega
theorem ckM_len {m : Mo} (h : ckM m = 0) : m.b.length ≤ 8 ∧ m.p.length ≤ 256 := by
  obtain ⟨a, b⟩ := ckM_ok h
  have := okA_len a (by decide)
  have := okA_len b (by decide)
  omega

set_option maxRecDepth 100000 in
set_option maxHeartbeats 2000000 in
theorem fair_any (va vp : Value) (m : Mo) (w : World) (hm : IsM w va vp m) : Calls Try.prog 17 #[.agg #[va, vp]] w (Fai m w) := by
  obtain ⟨aa, na, ca, rfl⟩ := hm.1.slice
  obtain ⟨ap, np, cp, rfl⟩ := hm.2.slice
  obtain ⟨rfl, hla⟩ := hm.1.len
  obtain ⟨rfl, hlp⟩ := hm.2.len
  have HM := Lib.hid hm
  clear hm
  by_cases hc : ckM m = 0
  · have HE : Hid (faL m = faC m m.p.length m.b.length ++ [(9, 0)]) := if_pos hc
    have HN := Lib.hid (ckM_len hc)
    have HC := Lib.hid hc
    clear hc
    go_enter Try.func17, Try.ntmps17
    go_wp2_with fail
    refine (check_any _ _ m _ (HM.out.keep ((Below.refl _ _).alloc (Nat.le_refl _) _))).mono ?_
    rintro e w1 ⟨rfl, hb⟩
    rw [HC.out]
    have X1 := Lib.hid (bfirst _ _ hb).1
    have B1 := Lib.hid (bfirst _ _ hb).2
    clear hb
    obtain ⟨d0, d1⟩ := c2 X1.out
    go_wp2_with fail
    have hsz := B1.out.size
    have hs2 : w.heap.size < w1.heap.size := lt_of_some X1.out
    go_loopw [5, 16] (fun v i wr => ∃ k : Nat, k ≤ m.p.length ∧ i = .int .i64 k ∧ Hid (OwnCm wr w1.heap.size v (faC m k 0)) ∧ Hid (Below w1.heap.size w1 wr)) (fun _ i _ => m.p.length - (intOf i).toNat)
    case atStart => exact ⟨0, by omega, rfl, OwnCm.nil _ _, Below.refl _ _⟩
    case round =>
      obtain ⟨k, hk, rfl, ho, hb⟩ := hrel
      by_cases hlt : k < m.p.length
      · have i1 : (k : Int) < (m.p.length : Int) := by omega
        have HT := Lib.hid (faC_p m k)
        have hln := faC_len m k 0
        have hw1 := hb.out.size
        go_wp2_with (((with_reducible refine append_cm ?b1 (.tmp 18) (.tmp 20) ?b2 w1.heap.size u5 (faC m k 0) 10 0 52 wr.heap.size ?b3 ?b4 ?b5 ho ?b6 ?b7 ?_); (case b1 => rfl); (case b2 => rfl); (case b3 => rfl); (case b4 => rfl); (case b5 => rfl); (case b6 => omega); (case b7 => omega)); rintro v' w4 ho4 hb4)
        go_roundw
        case rel => exact ⟨k + 1, by omega, by go_num, by rw [HT.out]; exact ho4, hb.out.trans hb4.out⟩
        case measure => simp [intOf]; omega
      · obtain rfl : k = m.p.length := by omega
        have X2 := Lib.hid (bkeep hb.out X1.out)
        clear d0 d1
        obtain ⟨d0, d1⟩ := c2 X2.out
        go_wp2_with fail
        have B2 : Hid (Below w.heap.size w wr) := B1.out.trans (hb.out.mono (by omega))
        have O2 := Lib.hid ho.out
        have hw2 := hb.out.size
        clear X2 d0 d1
        go_loopw [5, 7, 26] (fun v q i w2 => ∃ k : Nat, k ≤ m.b.length ∧ i = .int .i64 k ∧ Hid (OwnCm w2 w1.heap.size v (faC m m.p.length k)) ∧ Hid (Below w.heap.size w w2) ∧ w1.heap.size ≤ w2.heap.size) (fun _ _ i _ => m.b.length - (intOf i).toNat)
        case atStart => exact ⟨0, by omega, rfl, O2, B2, hw2⟩
        case round =>
          obtain ⟨k, hk, rfl, ho, hb, hw1⟩ := hrel
          by_cases hlt : k < m.b.length
          · obtain ⟨bb, off, rfl, c0⟩ := (HM.out.keep hb.out).1.at k hlt
            have i1 : (k : Int) < (m.b.length : Int) := by omega
            have i2 : (0 : Int) ≤ (k : Int) := by omega
            have HT := Lib.hid (faC_b m m.p.length k hlt)
            have hln := faC_len m m.p.length k
            have hnn := HN.out
            generalize m.b.getD k 0 = y at *
            go_wp2_with (((with_reducible refine append_cm ?b1 (.tmp 30) (.tmp 33) ?b2 w1.heap.size u5 (faC m m.p.length k) 9 y 52 wr.heap.size ?b3 ?b4 ?b5 ho ?b6 ?b7 ?_); (case b1 => rfl); (case b2 => rfl); (case b3 => rfl); (case b4 => rfl); (case b5 => rfl); (case b6 => omega); (case b7 => omega)); rintro v' w4 ho4 hb4)
            go_roundw
            case rel => exact ⟨k + 1, by omega, by go_num, by rw [HT.out]; exact ho4, hb.out.trans (hb4.out.mono (by omega)), by have := hb4.out.size; omega⟩
            case measure => simp [intOf]; omega
          · obtain rfl : k = m.b.length := by omega
            have hln := faC_len m m.p.length m.b.length
            have hnn := HN.out
            go_wp2_with (((with_reducible refine append_cm ?b1 (.tmp 36) (.tmp 38) ?b2 w1.heap.size u5 (faC m m.p.length m.b.length) 9 0 52 wr.heap.size ?b3 ?b4 ?b5 ho ?b6 ?b7 ?_); (case b1 => rfl); (case b2 => rfl); (case b3 => rfl); (case b4 => rfl); (case b5 => rfl); (case b6 => omega); (case b7 => omega)); rintro v' w4 ho4 hb4)
            go_ret2
            refine ⟨v', by rw [HC.out]; rfl, ?_, hb.out.trans (hb4.out.mono (by omega))⟩
            rw [HE.out]
            exact ho4.out.cm (by simp; omega)
  · have HE : Hid (faL m = []) := if_neg hc
    have hz : (ckM m != 0) = true := by simpa using hc
    clear hc
    go_enter Try.func17, Try.ntmps17
    go_wp2_with fail
    refine (check_any _ _ m _ (HM.out.keep ((Below.refl _ _).alloc (Nat.le_refl _) _))).mono ?_
    rintro e w1 ⟨rfl, hb⟩
    have B1 := Lib.hid (bfirst _ _ hb).2
    clear hb
    go_wp2_with fail
    go_ret2
    exact ⟨_, rfl, by rw [HE.out]; exact IsCm.nil _ _ _, B1.out⟩
end Go.Proofs.Ytgdcgmnfgbdiiaa
