/- Helper facts for the statements of this seat; no statement itself. -/
import Derived.Test.YtlmdfanhimhlcaaG
import Derived.Deep.RegionHeld3
import Derived.Deep.DeepCutAuto
import Derived.Outline
namespace Go.Proofs.Ytlmdfanhimhlcaa
open Go.RowKit
set_option linter.unusedSimpArgs false
set_option linter.unusedVariables false
set_option linter.unnecessarySimpa false

/-- What 'made' gives: small valid marks. -/
def MadeM (w : World) (e : Ending) (w' : World) : Prop := ∃ a b c : Int, (0 ≤ a ∧ a < b ∧ b < c ∧ c ≤ 17) ∧ e = .returned (MV a b c) ∧ Below w.heap.size w w'
theorem mod_b (z k : Int) (h : 1 ≤ k) : 0 ≤ z % k ∧ z % k < k := ⟨Int.emod_nonneg z (by omega), Int.emod_lt_of_pos z (by omega)⟩

set_option maxHeartbeats 2000000 in
theorem made_any (n : Int) (w : World) : Calls Try.prog 18 #[.int .i64 n] w (MadeM w) := by
  obtain ⟨x, hx⟩ : ∃ x, n % 6 = x := ⟨_, rfl⟩
  have xb := mod_b n 6 (by omega)
  rw [hx] at xb
  obtain ⟨x1, x2⟩ := xb
  have HX := Lib.hid hx
  clear hx
  obtain ⟨z, hz⟩ : ∃ z, IntKind.i64.wrap (n.tdiv 6) = z := ⟨_, rfl⟩
  obtain ⟨y, hy⟩ : ∃ y, z % 5 = y := ⟨_, rfl⟩
  have yb := mod_b z 5 (by omega)
  rw [hy] at yb
  obtain ⟨y1, y2⟩ := yb
  have HY := Lib.hid hy
  clear hy
  obtain ⟨u, hu⟩ : ∃ u, IntKind.i64.wrap (n.tdiv 30) = u := ⟨_, rfl⟩
  obtain ⟨v, hv⟩ : ∃ v, u % 6 = v := ⟨_, rfl⟩
  have vb := mod_b u 6 (by omega)
  rw [hv] at vb
  obtain ⟨v1, v2⟩ := vb
  have HV := Lib.hid hv
  clear hv
  go_enter Try.func18, Try.ntmps18
  go_wp2_with fail
  refine (mod_any n 6 _ (by omega) (by omega)).mono ?_
  rintro e w1 ⟨rfl, rfl⟩
  rw [HX.out]
  have r1 : IntKind.i64.wrap (x + 1) = x + 1 := IntWalk.i64_in _ (by omega)
  have r2 : IntKind.i64.wrap (x + 1 + y) = x + 1 + y := IntWalk.i64_in _ (by omega)
  go_wp2_with fail
  go_region_held3 (fun w' => w'.cell? ⟨w.heap.size + 1, 0, none⟩ = some (.int .i64 x)) (go_keep)
    ((go_at_call 19; (with_reducible refine (mod_any z 5 _ ?h1 ?h2).mono ?_); (case h1 => omega); (case h2 => omega); rintro e w' ⟨rfl, rfl⟩; rw [HY.out]))
  have r3 : IntKind.i64.wrap (x + 1 + y + 1) = x + 1 + y + 1 := IntWalk.i64_in _ (by omega)
  have r4 : IntKind.i64.wrap (x + 1 + y + 1 + v) = x + 1 + y + 1 + v := IntWalk.i64_in _ (by omega)
  clear r1 r2
  go_wp2_with fail
  go_region_held3 (fun w' => w'.cell? ⟨w.heap.size + 1, 1, none⟩ = some (.int .i64 (x + 1 + y))) (go_keep)
    ((go_at_call 19; (with_reducible refine (mod_any u 6 _ ?h3 ?h4).mono ?_); (case h3 => omega); (case h4 => omega); rintro e w' ⟨rfl, rfl⟩; rw [HV.out]))
  go_wp2_with fail
  refine bodyPost_ret (v := MV x (x + 1 + y) (x + 1 + y + 1 + v)) (by simp [results, Try.results18, go_sem]) rfl ⟨x, x + 1 + y, x + 1 + y + 1 + v, by omega, rfl, ?_⟩
  first | exact (((Below.refl _ _).alloc (Nat.le_refl _) _).alloc (by simp only [World.size_alloc] <;> omega) _) | exact ((((Below.refl _ _).alloc (Nat.le_refl _) _).alloc (by simp only [World.size_alloc] <;> omega) _)).drew | exact (((((Below.refl _ _).alloc (Nat.le_refl _) _).alloc (by simp only [World.size_alloc] <;> omega) _)).drew).drew

theorem sn1_zero {a b c n : Int} (h1 : 0 ≤ a) (h2 : a < b) (h3 : b < c) (h4 : c ≤ 256) (h5 : 0 ≤ n) (h6 : n ≤ 256) : sn1 a b c n = 0 := by
  unfold sn1 snd
  have hv : chkM a b c = 0 := by unfold chkM; rw [if_neg (by omega), if_neg (by omega)]
  rw [if_pos hv, if_neg (by simp)]
  refine sb_no (bad_no (fun k hk => ?_))
  have : k = 0 := by simp at hk; omega
  subst this
  exact ⟨h5, h6⟩
theorem lvl_mono {a b c p q : Int} (h2 : a < b) (h3 : b < c) (h : p ≤ q) : lvl a b c q ≤ lvl a b c p := by
  unfold lvl
  repeat' split
  all_goals omega
theorem nxt_mono {b c p q : Int} (aw : Bool) (h : p ≤ q) (hb : b < c) (h1 : nxt b c aw q = true) : nxt b c aw p = true := by
  unfold nxt at h1 ⊢
  by_cases h2 : p < b
  · rw [if_pos h2]
  · rw [if_neg h2]
    rw [if_neg (by omega)] at h1
    by_cases h3 : c ≤ p
    · rw [if_pos (by omega)] at h1; cases h1
    · rw [if_neg h3]
      by_cases h4 : c ≤ q
      · rw [if_pos h4] at h1; cases h1
      · rw [if_neg h4] at h1; exact h1
theorem nxt_lt {b c p : Int} {aw : Bool} (hb : b < c) (h : nxt b c aw p = true) : p < c := by
  unfold nxt at h
  by_cases h2 : p < b
  · omega
  · rw [if_neg h2] at h
    by_cases h3 : c ≤ p
    · rw [if_pos h3] at h; cases h
    · omega

set_option maxHeartbeats 4000000 in
set_option maxRecDepth 100000 in
theorem pressureMore_walk (n x y : Int) (w : World) : Calls Try.prog 4 #[.int .i64 n, .int .i64 x, .int .i64 y] w fun e w' => e = .returned (.bool true) ∧ Below w.heap.size w w' := by
  obtain ⟨p, hp⟩ : ∃ p, x % 40 = p := ⟨_, rfl⟩
  have pb := mod_b x 40 (by omega)
  rw [hp] at pb
  obtain ⟨p1, p2⟩ := pb
  have HP := Lib.hid hp
  obtain ⟨q, hq⟩ : ∃ q, y % 40 = q := ⟨_, rfl⟩
  have qb := mod_b y 40 (by omega)
  rw [hq] at qb
  obtain ⟨q1, q2⟩ := qb
  have HQ := Lib.hid hq
  clear hp hq
  go_enter Try.func4, Try.ntmps4
  go_wp2_with fail
  refine (made_any n _).mono ?_
  rintro e w1 ⟨a, b, c, ⟨k1, k2, k3, k4⟩, rfl, hb⟩
  have B1 := Lib.hid hb
  clear hb
  go_wp2_with fail
  refine (mod_any x 40 _ (by omega) (by omega)).mono ?_
  rintro e w2 ⟨rfl, rfl⟩
  rw [HP.out]
  go_wp2_with fail
  refine (mod_any y 40 _ (by omega) (by omega)).mono ?_
  rintro e w2 ⟨rfl, rfl⟩
  rw [HQ.out]
  go_upto_region 2 with fail
  obtain ⟨g, hg⟩ : ∃ x, x = w1.heap.size := ⟨_, rfl⟩
  obtain ⟨W3, hW3⟩ : ∃ x, x = w1.alloc (.cells #[.int .i64 a, .int .i64 b, .int .i64 c] 23) := ⟨_, rfl⟩
  have G3 : Hid (W3.heap[g]? = some (.cells (mC a b c) 23 (0, 0)) ∧ Below w.heap.size w W3) := by rw [hW3, hg]; exact ⟨h1_0 _ _, balloc B1.out _⟩
  rw [← hg, ← hW3]
  clear hg hW3 B1
  go_cut [10, 11] (fun s10 s11 wx => ∃ lo hi : Int, s10 = .int .i64 lo ∧ s11 = .int .i64 hi ∧ (0 ≤ lo ∧ lo ≤ hi ∧ hi < 40) ∧ Hid (wx.heap[g]? = some (.cells (mC a b c) 23 (0, 0)) ∧ Below w.heap.size w wx))
  case first =>
    rcases Int.lt_trichotomy p q with h | h | h
    · go_wp2_with fail
      go_meet
      exact ⟨p, q, rfl, rfl, by omega, G3⟩
    · subst h
      go_wp2_with fail
      go_meet
      exact ⟨p, p, rfl, rfl, by omega, G3⟩
    · go_wp2_with fail
      go_meet
      exact ⟨q, p, rfl, rfl, by omega, G3⟩
  case rest =>
    obtain ⟨lo, hi, rfl, rfl, ⟨l1, l2, l3⟩, H3⟩ := hcut
    clear G3
    have HL : Hid (sn1 a b c lo = 0) := sn1_zero k1 k2 k3 (by omega) l1 (by omega)
    have HH : Hid (sn1 a b c hi = 0) := sn1_zero k1 k2 k3 (by omega) (by omega) (by omega)
    have HLv : Hid (lvR a b c lo = lvl a b c lo ∧ lvR a b c hi = lvl a b c hi) := ⟨if_pos HL.out, if_pos HH.out⟩
    have lm := lvl_mono (a := a) k2 k3 l2
    generalize lvl a b c lo = v1 at *
    generalize lvl a b c hi = v2 at *
    obtain ⟨c0, c1x, c2x⟩ := c3 H3.out.1
    go_wp2_with fail
    refine (level_full a b c lo _).mono ?_
    rintro e w4 ⟨rfl, hb⟩
    rw [HL.out, HLv.out.1]
    have H4 : Hid (w4.heap[g]? = some (.cells (mC a b c) 23 (0, 0)) ∧ Below w.heap.size w w4) := ⟨bkeep hb H3.out.1, btrans H3.out.2 hb⟩
    clear hb c0 c1x c2x
    obtain ⟨c0, c1x, c2x⟩ := c3 H4.out.1
    go_wp2_with fail
    refine (level_full a b c hi _).mono ?_
    rintro e w5 ⟨rfl, hb⟩
    rw [HH.out, HLv.out.2]
    have H5 : Hid (w5.heap[g]? = some (.cells (mC a b c) 23 (0, 0)) ∧ Below w.heap.size w w5) := ⟨bkeep hb H4.out.1, btrans H4.out.2 hb⟩
    clear hb c0 c1x c2x
    go_wp2_with fail
    go_loopw [16] (fun i wr => ∃ k : Nat, k ≤ 2 ∧ i = .int .i64 k ∧ Hid (wr.heap[g]? = some (.cells (mC a b c) 23 (0, 0)) ∧ Below w.heap.size w wr)) (fun i _ => 2 - (intOf i).toNat)
    case atStart => exact ⟨0, by omega, rfl, H5⟩
    case round =>
      clear H3 H4 H5 HLv lm
      obtain ⟨k, hk, rfl, H6⟩ := hrel
      obtain ⟨c0, c1x, c2x⟩ := c3 H6.out.1
      by_cases hk2 : k < 2
      · obtain ⟨was, hwas⟩ : ∃ x, ((k : Int) == 1) = x := ⟨_, rfl⟩
        have HX1 : Hid (nxR a b c was lo = nxt b c was lo ∧ nxR a b c was hi = nxt b c was hi ∧ msR a b c was lo = if nxt b c was lo = true then c - lo else 0) := by
          have h1 : nxR a b c was lo = nxt b c was lo := if_pos HL.out
          exact ⟨h1, if_pos HH.out, by unfold msR; rw [h1]⟩
        have HM : Hid (nxt b c was hi = true → nxt b c was lo = true) := fun h => nxt_mono was l2 k3 h
        have HT : Hid (nxt b c was lo = true → lo < c) := fun h => nxt_lt k3 h
        generalize nxt b c was lo = less at *
        generalize nxt b c was hi = more at *
        go_wp2_with fail
        refine (next_full a b c was lo _).mono ?_
        rintro e w7 ⟨rfl, hb⟩
        rw [HL.out, HX1.out.1]
        have H7 : Hid (w7.heap[g]? = some (.cells (mC a b c) 23 (0, 0)) ∧ Below w.heap.size w w7) := ⟨bkeep hb H6.out.1, btrans H6.out.2 hb⟩
        clear hb c0 c1x c2x
        obtain ⟨c0, c1x, c2x⟩ := c3 H7.out.1
        go_wp2_with fail
        refine (next_full a b c was hi _).mono ?_
        rintro e w8 ⟨rfl, hb⟩
        rw [HH.out, HX1.out.2.1]
        have H8 : Hid (w8.heap[g]? = some (.cells (mC a b c) 23 (0, 0)) ∧ Below w.heap.size w w8) := ⟨bkeep hb H7.out.1, btrans H7.out.2 hb⟩
        clear hb c0 c1x c2x
        obtain ⟨c0, c1x, c2x⟩ := c3 H8.out.1
        go_wp2_with fail
        refine (missing_full a b c was lo _).mono ?_
        rintro e w9 ⟨rfl, hb⟩
        rw [HL.out, HX1.out.2.2]
        have H9 : Hid (w9.heap[g]? = some (.cells (mC a b c) 23 (0, 0)) ∧ Below w.heap.size w w9) := ⟨bkeep hb H8.out.1, btrans H8.out.2 hb⟩
        clear hb c0 c1x c2x H6 H7 H8
        obtain ⟨c0, c1x, c2x⟩ := c3 H9.out.1
        cases less
        · have hmf : more = false := by
            cases more
            · rfl
            · exact absurd (HM.out rfl) (by simp)
          subst hmf
          have hc0 : 0 < c := by omega
          rw [if_neg (by simp)]
          go_wp2_with fail
          go_roundw
          case rel => exact ⟨k + 1, by omega, by go_num, H9⟩
          case measure => simp [intOf]; omega
        · have hlc := HT.out rfl
          rw [if_pos rfl]
          have hz0 : ((c - lo) == 0) = false := by rw [beq_eq_false_iff_ne]; omega
          have HS1 : Hid (sn1 a b c c = 0 ∧ nxR a b c true c = false) := by
            have h1 : sn1 a b c c = 0 := sn1_zero k1 k2 k3 (by omega) (by omega) (by omega)
            refine ⟨h1, ?_⟩
            unfold nxR nxt
            rw [if_pos h1, if_neg (by omega), if_pos (by omega)]
          have HS2 : Hid (sn1 a b c (c - 1) = 0 ∧ nxR a b c true (c - 1) = true) := by
            have h1 : sn1 a b c (c - 1) = 0 := sn1_zero k1 k2 k3 (by omega) (by omega) (by omega)
            refine ⟨h1, ?_⟩
            unfold nxR nxt
            rw [if_pos h1]
            by_cases h : c - 1 < b
            · rw [if_pos h]
            · rw [if_neg h, if_neg (by omega)]
          cases more
          all_goals
            go_wp2_with fail
            rw [show lo + (c - lo) = c by omega]
            refine (next_full a b c true c _).mono ?_
            rintro e wa ⟨rfl, hb⟩
            rw [HS1.out.1, HS1.out.2]
            have Ha : Hid (wa.heap[g]? = some (.cells (mC a b c) 23 (0, 0)) ∧ Below w.heap.size w wa) := ⟨bkeep hb H9.out.1, btrans H9.out.2 hb⟩
            clear hb c0 c1x c2x
            obtain ⟨c0, c1x, c2x⟩ := c3 Ha.out.1
            go_wp2_with fail
            rw [show lo + (c - lo) - 1 = c - 1 by omega]
            refine (next_full a b c true (c - 1) _).mono ?_
            rintro e wb ⟨rfl, hb⟩
            rw [HS2.out.1, HS2.out.2]
            have Hb : Hid (wb.heap[g]? = some (.cells (mC a b c) 23 (0, 0)) ∧ Below w.heap.size w wb) := ⟨bkeep hb Ha.out.1, btrans Ha.out.2 hb⟩
            clear hb c0 c1x c2x
            go_wp2_with fail
            go_roundw
            case rel => exact ⟨k + 1, by omega, by go_num, Hb⟩
            case measure => simp [intOf]; omega
      · have hke : (2 : Int) ≤ (k : Int) := by omega
        go_wp2_with fail
        refine (awake_any _).mono ?_
        rintro e w7 ⟨rfl, hb⟩
        have B7 := Lib.hid (btrans H6.out.2 hb)
        clear hb
        go_wp2_with fail
        go_ret
        exact ⟨rfl, B7.out⟩
end Go.Proofs.Ytlmdfanhimhlcaa
