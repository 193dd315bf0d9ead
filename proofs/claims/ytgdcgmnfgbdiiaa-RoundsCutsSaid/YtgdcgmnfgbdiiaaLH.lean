/- Helper facts for the statements of this seat; no statement itself. -/
import Derived.Test.YtgdcgmnfgbdiiaaLG
import Derived.Test.YtgdcgmnfgbdiiaaAR
import Derived.Test.YtgdcgmnfgbdiiaaRV
import Derived.Deep.RegionHeld3
import Derived.Outline
namespace Go.Proofs.Ytgdcgmnfgbdiiaa
open Go.RowKit
set_option linter.unusedSimpArgs false
set_option linter.unusedVariables false
set_option linter.unnecessarySimpa false

theorem res1 {fn : Func} {p : Tmp} (h : fn.results = #[.cell p 25]) (tmps : Array Value) (w : World) (g : Nat) (ty : TypeId) (va vp : Value) (hp : tmps.getD p undef = .pointer (some ⟨g, 0, none⟩)) (hg : w.heap[g]? = some (.cells #[va, vp] ty (0, 0))) :
    (results fn tmps).run Try.prog w = .ok (.agg #[va, vp]) w := results_cell_row h tmps w g ty #[va, vp] (0, 0) _ hp hg Try.underlying25 rfl (by kernel_rfl)
set_option maxRecDepth 100000 in
set_option maxHeartbeats 2000000 in
theorem own_any (va vp : Value) (m : Mo) (w : World) (hm : IsM w va vp m) (h1 : m.b.length < 4294967296) (h2 : m.p.length < 4294967296) : Calls Try.prog 23 #[.agg #[va, vp]] w fun e w' => ∃ va' vp', e = .returned (.agg #[va', vp']) ∧ IsM w' va' vp' m ∧ CapI va' ∧ CapI vp' ∧ Below w.heap.size w w' := by
  obtain ⟨a1, n1, k1, rfl⟩ := hm.1.slice
  obtain ⟨a2, n2, k2, rfl⟩ := hm.2.slice
  have HM := Lib.hid hm
  clear hm
  have HX : Hid (((w.alloc (.cells #[.slice a1 n1 k1, .slice a2 n2 k2] 25)).alloc (.cells #[.slice none 0 0, .slice none 0 0] 25)).heap[w.heap.size]? = some (.cells #[.slice a1 n1 k1, .slice a2 n2 k2] 25 (0, 0))) := h2_0 _ _ _
  have HY : Hid (((w.alloc (.cells #[.slice a1 n1 k1, .slice a2 n2 k2] 25)).alloc (.cells #[.slice none 0 0, .slice none 0 0] 25)).heap[w.heap.size + 1]? = some (.cells #[.slice none 0 0, .slice none 0 0] 25 (0, 0))) := h2_1 _ _ _
  have HB : Hid (Below w.heap.size w ((w.alloc (.cells #[.slice a1 n1 k1, .slice a2 n2 k2] 25)).alloc (.cells #[.slice none 0 0, .slice none 0 0] 25))) := (((Below.refl _ _).alloc (Nat.le_refl _) _).alloc (by simp only [World.size_alloc] <;> omega) _)
  go_enter Try.func23, Try.ntmps23
  go_upto_region 1 with fail
  generalize (w.alloc (.cells #[.slice a1 n1 k1, .slice a2 n2 k2] 25)).alloc (.cells #[.slice none 0 0, .slice none 0 0] 25) = wr at *
  obtain ⟨g, hg⟩ : ∃ g, g = w.heap.size := ⟨_, rfl⟩
  rw [← hg] at HX HY ⊢
  have hgw : w.heap.size ≤ g := by omega
  clear hg
  have hgs : g + 1 < wr.heap.size := lt_of_some HY.out
  have HS := Lib.hid (HM.out.keep HB.out)
  obtain ⟨c0, c1⟩ := c2 HX.out
  go_region_held3 (fun w' => w'.cell? ⟨g, 0, none⟩ = some (.slice a1 n1 k1) ∧ w'.cell? ⟨g, 1, none⟩ = some (.slice a2 n2 k2))
    (refine ⟨?_, ?_⟩ <;> (with_reducible repeat (first | exact c0 | exact c1 | exact cellB B2.out c0 | exact cellB B2.out c1 | exact cellB B1.out c0 | exact cellB B1.out c1 | refine cellD ?_ | refine cellA ?_ _ | (refine cellS ?_ _ _ (by simp only []; omega)))))
    (first | (go_at_call 45; (with_reducible refine (ownInts_any (.slice a1 n1 k1) m.b _ ?k1 ?k2).mono ?_); (case k1 => exact HS.out.1); (case k2 => exact h1); rintro e w1 ⟨v1, rfl, ho1, hb1⟩; have B1 : Hid (Below wr.heap.size wr w1) := btrans (w := wr) (Below.drew (Below.refl _ _)) hb1; have O1 := Lib.hid ho1; clear hb1 ho1) | (go_at_call 45; (with_reducible refine (ownInts_any (.slice a2 n2 k2) m.p _ ?j1 ?j2).mono ?_); (case j1 => exact HS.out.2.keep B1.out); (case j2 => exact h2); rintro e w2 ⟨v2, rfl, ho2, hb2⟩; have B2 : Hid (Below wr.heap.size wr w2) := btrans B1.out hb2; have z1 := IsInts.keep (O1.out.ints (Nat.le_of_lt h1)) hb2; have z2 := ho2.ints (Nat.le_of_lt h2); have y1 := O1.out.cap; have y2 := ho2.cap; obtain ⟨b1, m1, e1, rfl⟩ := z1.slice; obtain ⟨b2, m2, e2, rfl⟩ := z2.slice; have Z1 := Lib.hid z1; have Z2 := Lib.hid z2; have Y1 := Lib.hid y1; have Y2 := Lib.hid y2; have T2 := Lib.hid (bkeep B2.out HY.out); obtain ⟨t0, t1⟩ := c2 T2.out; have f0 := fr (j := 0) T2.out; have f1 := fr (j := 1) T2.out; clear z1 z2 y1 y2 hb2 ho2) | fail)
  all_goals
    rw [set2 T2.out]
    go_wp2_with fail
    exact bodyPost_ret (v := .agg #[.slice b1 m1 e1, .slice b2 m2 e2]) (res1 (fn := Try.f23) (p := 2) rfl _ _ (g + 1) 25 (.slice b1 m1 e1) (.slice b2 m2 e2) rfl (setRow_heap _ _ _ _ _ _ T2.out)) rfl ⟨_, _, rfl, ⟨ints_setRow Z1.out T2.out _, ints_setRow Z2.out T2.out _⟩, Y1.out, Y2.out, below_setRow (btrans HB.out B2.out) (by omega) _⟩
set_option maxRecDepth 100000 in
set_option maxHeartbeats 2000000 in
theorem same_any (va vp ua up : Value) (m : Mo) (w : World) (hm : IsM w va vp m) (hn : IsM w ua up m) : Calls Try.prog 29 #[.agg #[va, vp], .agg #[ua, up]] w fun e w' => e = .returned (.bool true) ∧ Below w.heap.size w w' := by
  obtain ⟨a1, n1, k1, rfl⟩ := hm.1.slice
  obtain ⟨a2, n2, k2, rfl⟩ := hm.2.slice
  obtain ⟨a3, n3, k3, rfl⟩ := hn.1.slice
  obtain ⟨a4, n4, k4, rfl⟩ := hn.2.slice
  have HM := Lib.hid hm
  have HN := Lib.hid hn
  have E1 : Hid ((m.b == m.b) = true) := by show _ = _; simp
  have E2 : Hid ((m.p == m.p) = true) := by show _ = _; simp
  clear hm hn
  go_enter Try.func29, Try.ntmps29
  go_wp2_with fail
  refine (sameInts_any _ _ m.b m.b _ (HM.out.1.keep (((Below.refl _ _).alloc (Nat.le_refl _) _).alloc (by simp only [World.size_alloc] <;> omega) _)) (HN.out.1.keep (((Below.refl _ _).alloc (Nat.le_refl _) _).alloc (by simp only [World.size_alloc] <;> omega) _))).mono ?_
  rintro e w1 ⟨rfl, hb⟩
  rw [E1.out]
  obtain ⟨q0, q1⟩ := c2 (bkeep hb (h2_0 w _ _))
  obtain ⟨r0, r1⟩ := c2 (bkeep hb (h2_1 w _ _))
  have B1 : Hid (Below w.heap.size w w1) := btrans (((Below.refl _ _).alloc (Nat.le_refl _) _).alloc (by simp only [World.size_alloc] <;> omega) _) hb
  clear hb
  go_wp2_with fail
  refine (sameInts_any _ _ m.p m.p _ (HM.out.2.keep B1.out) (HN.out.2.keep B1.out)).mono ?_
  rintro e w2 ⟨rfl, hb⟩
  rw [E2.out]
  have B2 : Hid (Below w.heap.size w w2) := btrans B1.out hb
  clear hb
  go_wp2_with fail
  go_ret
  exact ⟨rfl, B2.out⟩
set_option maxRecDepth 100000 in
set_option maxHeartbeats 2000000 in
theorem unchanged_any (va vb : Value) (l : List En) (w : World) (ha : IsLog w va l) (hb : IsLog w vb l) : Calls Try.prog 31 #[va, vb] w fun e w' => e = .returned (.bool true) ∧ Below w.heap.size w w' := by
  obtain ⟨a1, n1, k1, rfl⟩ := ha.slice
  obtain ⟨a2, n2, k2, rfl⟩ := hb.slice
  obtain ⟨rfl, _⟩ := ha.len
  obtain ⟨rfl, _⟩ := hb.len
  have HA := Lib.hid ha
  have HB := Lib.hid hb
  have e0 : ((l.length : Int) != (l.length : Int)) = false := by simp
  clear ha hb
  go_enter Try.func31, Try.ntmps31
  go_wp2_with fail
  go_loopw [5] (fun i wr => ∃ k : Nat, k ≤ l.length ∧ i = .int .i64 k ∧ Hid (Below w.heap.size w wr)) (fun i _ => l.length - (intOf i).toNat)
  case atStart => exact ⟨0, by omega, rfl, Below.refl _ _⟩
  case round =>
    obtain ⟨k, hk, rfl, hb⟩ := hrel
    by_cases hlt : k < l.length
    · obtain ⟨bb, off, rfl, c0, c1⟩ := (HA.out.keep hb.out).at k hlt
      obtain ⟨bc, ofc, rfl, d0, d1⟩ := (HB.out.keep hb.out).at k hlt
      have i1 : (0 : Int) ≤ (k : Int) := by omega
      have i2 : (k : Int) < (l.length : Int) := by omega
      generalize (l.getD k (0, 0)).1 = kk at *
      generalize (l.getD k (0, 0)).2 = xx at *
      have e1 : (kk == kk) = true := by simp
      have e2 : (xx == xx) = true := by simp
      go_upto_region 6 with fail
      go_quiet (fail)
      go_wp2_with fail
      go_roundw
      case rel => exact ⟨k + 1, by omega, by go_num, bdrewN hb.out _⟩
      case measure => simp [intOf]; omega
    · have i2 : (l.length : Int) ≤ (k : Int) := by omega
      go_wp2_with fail
      go_ret
      exact ⟨rfl, hb.out⟩
/-- Whether the law looks at these lengths. -/
def litB (n1 n2 n : Nat) : Bool := decide (n1 ≤ 20) && (decide (n2 ≤ 300) && (decide (n ≤ 200) || (decide (5000 < n) && decide (n ≤ 5010))))
set_option maxHeartbeats 1000000 in
theorem light_any (a1 a2 a : Option Addr) (n1 n2 n k1 k2 k : Nat) (w : World) (h1 : n1 ≤ 9223372036854775807) (h2 : n2 ≤ 9223372036854775807) (h3 : n ≤ 9223372036854775807) : Calls Try.prog 22 #[.agg #[.slice a1 n1 k1, .slice a2 n2 k2], .slice a n k] w fun e w' => e = .returned (.bool (litB n1 n2 n)) ∧ Below w.heap.size w w' := by
  have HR : Hid (litB n1 n2 n = (decide (n1 ≤ 20) && (decide (n2 ≤ 300) && (decide (n ≤ 200) || (decide (5000 < n) && decide (n ≤ 5010)))))) := rfl
  generalize litB n1 n2 n = r at *
  have cs : ((20 : Int) < (n1 : Int) ∧ r = false) ∨ ((n1 : Int) ≤ 20 ∧ (300 : Int) < (n2 : Int) ∧ r = false) ∨ ((n1 : Int) ≤ 20 ∧ (n2 : Int) ≤ 300 ∧ (n : Int) ≤ 200 ∧ r = true) ∨ ((n1 : Int) ≤ 20 ∧ (n2 : Int) ≤ 300 ∧ (200 : Int) < (n : Int) ∧ (n : Int) ≤ 5000 ∧ r = false) ∨ ((n1 : Int) ≤ 20 ∧ (n2 : Int) ≤ 300 ∧ (5000 : Int) < (n : Int) ∧ (n : Int) ≤ 5010 ∧ r = true) ∨ ((n1 : Int) ≤ 20 ∧ (n2 : Int) ≤ 300 ∧ (5010 : Int) < (n : Int) ∧ r = false) := by
    rw [HR.out]
    by_cases b1 : n1 ≤ 20
    · by_cases b2 : n2 ≤ 300
      · by_cases b3 : n ≤ 200
        · exact .inr (.inr (.inl ⟨by omega, by omega, by omega, by simp [b1, b2, b3]⟩))
        · by_cases b4 : n ≤ 5000
          · exact .inr (.inr (.inr (.inl ⟨by omega, by omega, by omega, by omega, by simp [b1, b2, b3]; omega⟩)))
          · by_cases b5 : n ≤ 5010
            · exact .inr (.inr (.inr (.inr (.inl ⟨by omega, by omega, by omega, by omega, by simp [b1, b2, b5]; omega⟩))))
            · exact .inr (.inr (.inr (.inr (.inr ⟨by omega, by omega, by omega, by simp [b1, b2, b5]; omega⟩))))
      · exact .inr (.inl ⟨by omega, by omega, by simp [b2]⟩)
    · exact .inl ⟨by omega, by simp [b1]⟩
  clear HR
  rcases cs with ⟨c1, rfl⟩ | ⟨c1, c2, rfl⟩ | ⟨c1, c2, c3, rfl⟩ | ⟨c1, c2, c3, c4, rfl⟩ | ⟨c1, c2, c3, c4, rfl⟩ | ⟨c1, c2, c3, rfl⟩
  all_goals
    go_enter Try.func22, Try.ntmps22
    go_wp2_with fail
    go_ret
    exact ⟨by first | rfl | (simp; omega), ((Below.refl _ _).alloc (Nat.le_refl _) _)⟩
end Go.Proofs.Ytgdcgmnfgbdiiaa
