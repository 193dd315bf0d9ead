/- Helper facts for the statements of this seat; no statement itself. -/
import Derived.Test.YtcicgccllhkolaaDoorV
import Derived.Deep.RegionHeld3
import Derived.Deep.DeepCutAuto
import Derived.Outline
namespace Go.Proofs.YtcicgccllhkolaaDoor
open Go.RowKit
set_option linter.unusedSimpArgs false
set_option linter.unusedVariables false
set_option linter.unnecessarySimpa false

set_option maxHeartbeats 8000000 in
set_option maxRecDepth 100000 in
theorem woutEnds_walk (m : Int) (a : Option Addr) (n cap : Nat) (w : World) (hc : CL w) (hn : n ≤ 9223372036854775807)
    (hl : n = 0 ∨ ∃ bb off, ∃ zs : List Int, a = some ⟨bb, off, none⟩ ∧ ∀ k, k < n → w.cell? ⟨bb, off + k, none⟩ = some (.int .i64 (zs.getD k 0))) :
    Calls Tryd.prog 5 #[.int .i64 m, .slice a n cap] w fun e w' => e = .returned (.bool true) ∧ Below w.heap.size w w' := by
  have HC := Lib.hid hc
  have HL := Lib.hid hl
  clear hc hl
  go_enter Tryd.func5, Tryd.ntmps5
  go_wp2_with fail
  refine (made_walk m a n cap _ hn HL.out).mono ?_
  rintro e w1 ⟨s, r, c, hv, rfl, hb⟩
  have HV := Lib.hid hv
  have cz0 := cellB hb HC.out.1
  have cz1 := cellB hb HC.out.2
  have hz := cell_lt cz0
  have E1 : Hid (EN w w1.heap.size s r c (w1.alloc (.cells (pgC s r c) 23))) := ⟨HB.push (L := []) trivial _ _, balloc hb _, hb.size⟩
  clear hb HL hv
  go_wp2_with fail
  refine (Next_any s r c 4 3 _).mono ?_
  rintro e w2 ⟨rfl, hb⟩
  have E2 := Lib.hid (E1.out.keep hb)
  clear hb cz0 cz1 hz E1
  generalize w1.heap.size = g at *
  obtain ⟨X1, hX1⟩ : ∃ x, x = xE s r c 4 3 := ⟨_, rfl⟩
  obtain ⟨S1, hS1⟩ : ∃ x, x = xS s r c 4 3 := ⟨_, rfl⟩
  obtain ⟨R1, hR1⟩ : ∃ x, x = xR s r c 4 3 := ⟨_, rfl⟩
  obtain ⟨C1, hC1⟩ : ∃ x, x = xC s r c 4 3 := ⟨_, rfl⟩
  rw [← hX1, ← hS1, ← hR1, ← hC1]
  have HU : Hid (X1 = 0 → xE S1 R1 C1 5 0 = 0 ∧ xS S1 R1 C1 5 0 = s ∧ xR S1 R1 C1 5 0 = r ∧ xC S1 R1 C1 5 0 = c) := fun h => by
    rw [hS1, hR1, hC1]; rw [hX1] at h; exact undo_claim HV.out h
  clear hX1 hS1 hR1 hC1
  go_upto_if 38 with fail
  go_cut [] (fun wx => Hid (EN w g s r c wx))
  case first =>
    obtain ⟨W3, hW3⟩ : ∃ x, x = w2.alloc (.cells #[.int .i64 S1, .int .i64 R1, .int .i64 C1] 23) := ⟨_, rfl⟩
    have E3 : Hid (EN w g s r c W3) := by rw [hW3]; exact E2.out.alloc _
    have hsrc : Hid (W3.heap[w2.heap.size]? = some (.cells (pgC S1 R1 C1) 23 (0, 0))) := by rw [hW3]; exact h1_0 _ _
    rw [← hW3]
    clear hW3
    by_cases he : X1 = 0
    · have HV1 := Lib.hid (HU.out he)
      have he2 : (X1 == 0) = true := by simpa using he
      clear he HU
      go_wp2_with fail
      have hsl := lt_of_some hsrc.out
      have hgl := E3.out.lt
      have n0 : W3.heap.size ≠ w2.heap.size := by omega
      have n1 : W3.heap.size + 1 ≠ w2.heap.size := by omega
      obtain ⟨d0, d1, d2⟩ := c3 hsrc.out
      go_region_held3 (fun w' => w'.cell? ⟨w2.heap.size, 0, none⟩ = some (.int .i64 S1) ∧ w'.cell? ⟨w2.heap.size, 1, none⟩ = some (.int .i64 R1) ∧ w'.cell? ⟨w2.heap.size, 2, none⟩ = some (.int .i64 C1))
        (refine ⟨?_, ?_, ?_⟩ <;> (with_reducible repeat (first | exact d0 | exact d1 | exact d2 | exact x0 | exact x1 | exact x2 | refine cellD ?_ | refine cellA ?_ _ | (refine cellS ?_ _ _ (by simp only []; omega)))))
        (first | (go_at_call 13; (with_reducible refine (ev_any _ _).mono ?_); rintro e w4 ⟨rfl, rfl⟩) | (go_at_call 15; (with_reducible refine (Next_any S1 R1 C1 5 0 (W3.alloc (.cells #[.int .i64 5, .int .i64 0] 32)).drew).mono ?_); rintro e w4 ⟨rfl, hb⟩; have E4 := Lib.hid (((E3.out.alloc (.cells #[.int .i64 5, .int .i64 0] 32)).drew).keep hb); have hs4 := Lib.hid (bkeep (wr := (W3.alloc (.cells #[.int .i64 5, .int .i64 0] 32)).drew) hb (hold1 hsrc.out _)); obtain ⟨x0, x1, x2⟩ := c3 hs4.out; rw [HV1.out.1, HV1.out.2.1, HV1.out.2.2.1, HV1.out.2.2.2]; clear hb) | (go_at_call 15; (with_reducible refine (Next_any S1 R1 C1 5 0 ((W3.alloc (.cells #[.int .i64 5, .int .i64 0] 32)).alloc (.cells #[.int .i64 0, .int .i64 0, .int .i64 0] 23)).drew).mono ?_); rintro e w4 ⟨rfl, hb⟩; have E4 := Lib.hid ((((E3.out.alloc (.cells #[.int .i64 5, .int .i64 0] 32)).alloc (.cells #[.int .i64 0, .int .i64 0, .int .i64 0] 23)).drew).keep hb); have hs4 := Lib.hid (bkeep (wr := ((W3.alloc (.cells #[.int .i64 5, .int .i64 0] 32)).alloc (.cells #[.int .i64 0, .int .i64 0, .int .i64 0] 23)).drew) hb (hold2 hsrc.out _ _)); obtain ⟨x0, x1, x2⟩ := c3 hs4.out; rw [HV1.out.1, HV1.out.2.1, HV1.out.2.2.1, HV1.out.2.2.2]; have G9 := Lib.hid (bkeep (wr := ((W3.alloc (.cells #[.int .i64 5, .int .i64 0] 32)).alloc (.cells #[.int .i64 0, .int .i64 0, .int .i64 0] 23)).drew) hb (h2_1 W3 _ _)); obtain ⟨y0, y1, y2⟩ := c3 G9.out; have f0 := fr (j := 0) G9.out; have f1 := fr (j := 1) G9.out; have f2 := fr (j := 2) G9.out; clear hb) | (go_at_call 15; (with_reducible refine (Next_any S1 R1 C1 5 0 ((W3.alloc (.cells #[.int .i64 0, .int .i64 0, .int .i64 0] 23)).alloc (.cells #[.int .i64 5, .int .i64 0] 32)).drew).mono ?_); rintro e w4 ⟨rfl, hb⟩; have E4 := Lib.hid ((((E3.out.alloc (.cells #[.int .i64 0, .int .i64 0, .int .i64 0] 23)).alloc (.cells #[.int .i64 5, .int .i64 0] 32)).drew).keep hb); have hs4 := Lib.hid (bkeep (wr := ((W3.alloc (.cells #[.int .i64 0, .int .i64 0, .int .i64 0] 23)).alloc (.cells #[.int .i64 5, .int .i64 0] 32)).drew) hb (hold2 hsrc.out _ _)); obtain ⟨x0, x1, x2⟩ := c3 hs4.out; rw [HV1.out.1, HV1.out.2.1, HV1.out.2.2.1, HV1.out.2.2.2]; have G9 := Lib.hid (bkeep (wr := ((W3.alloc (.cells #[.int .i64 0, .int .i64 0, .int .i64 0] 23)).alloc (.cells #[.int .i64 5, .int .i64 0] 32)).drew) hb (h2_0 W3 _ _)); obtain ⟨y0, y1, y2⟩ := c3 G9.out; have f0 := fr (j := 0) G9.out; have f1 := fr (j := 1) G9.out; have f2 := fr (j := 2) G9.out; clear hb))
      · skip
        obtain ⟨W5, hW5⟩ : ∃ x, x = w4.alloc (.cells #[.int .i64 s, .int .i64 r, .int .i64 c] 23) := ⟨_, rfl⟩
        have E5 : Hid (EN w g s r c W5) := by rw [hW5]; exact E4.out.alloc _
        have G5 : Hid (W5.heap[w4.heap.size]? = some (.cells #[.int .i64 s, .int .i64 r, .int .i64 c] 23 (0, 0))) := by rw [hW5]; exact h1_0 _ _
        have H5 : Hid (W5.heap[w2.heap.size]? = some (.cells (pgC S1 R1 C1) 23 (0, 0))) := by rw [hW5]; exact hold1 hs4.out _
        rw [← hW5]
        clear hW5 x0 x1 x2 d0 d1 d2
        obtain ⟨g0, g1, g2⟩ := c3 E5.out.1.1
        obtain ⟨v0, v1, v2⟩ := c3 G5.out
        go_wp2_with fail
        go_meet
        exact E5
      · rw [set3 G9.out]
        obtain ⟨W5, hW5⟩ : ∃ x, x = w4.setRow (W3.heap.size + 1) #[.int .i64 s, .int .i64 r, .int .i64 c] := ⟨_, rfl⟩
        have E5 : Hid (EN w g s r c W5) := by rw [hW5]; exact E4.out.far (by omega) _
        have G5 : Hid (W5.heap[(W3.heap.size + 1)]? = some (.cells #[.int .i64 s, .int .i64 r, .int .i64 c] 23 (0, 0))) := by rw [hW5]; exact setRow_heap _ _ _ _ _ _ G9.out
        have H5 : Hid (W5.heap[w2.heap.size]? = some (.cells (pgC S1 R1 C1) 23 (0, 0))) := by rw [hW5]; exact (setRow_other _ _ _ _ (by omega)).trans hs4.out
        rw [← hW5]
        clear hW5 x0 x1 x2 d0 d1 d2 y0 y1 y2 f0 f1 f2
        obtain ⟨g0, g1, g2⟩ := c3 E5.out.1.1
        obtain ⟨v0, v1, v2⟩ := c3 G5.out
        go_wp2_with fail
        go_meet
        exact E5
      · rw [set3 G9.out]
        obtain ⟨W5, hW5⟩ : ∃ x, x = w4.setRow W3.heap.size #[.int .i64 s, .int .i64 r, .int .i64 c] := ⟨_, rfl⟩
        have E5 : Hid (EN w g s r c W5) := by rw [hW5]; exact E4.out.far (by omega) _
        have G5 : Hid (W5.heap[W3.heap.size]? = some (.cells #[.int .i64 s, .int .i64 r, .int .i64 c] 23 (0, 0))) := by rw [hW5]; exact setRow_heap _ _ _ _ _ _ G9.out
        have H5 : Hid (W5.heap[w2.heap.size]? = some (.cells (pgC S1 R1 C1) 23 (0, 0))) := by rw [hW5]; exact (setRow_other _ _ _ _ (by omega)).trans hs4.out
        rw [← hW5]
        clear hW5 x0 x1 x2 d0 d1 d2 y0 y1 y2 f0 f1 f2
        obtain ⟨g0, g1, g2⟩ := c3 E5.out.1.1
        obtain ⟨v0, v1, v2⟩ := c3 G5.out
        go_wp2_with fail
        go_meet
        exact E5
    · have he2 : (X1 == 0) = false := by simpa using he
      clear he
      go_wp2_with fail
      go_meet
      exact E3
  case rest =>
    clear E2 HU
    have E2 := hcut
    clear hcut
    obtain ⟨X2, hX2⟩ : ∃ x, x = xE s r c 1 0 := ⟨_, rfl⟩
    obtain ⟨S2, hS2⟩ : ∃ x, x = xS s r c 1 0 := ⟨_, rfl⟩
    obtain ⟨R2, hR2⟩ : ∃ x, x = xR s r c 1 0 := ⟨_, rfl⟩
    obtain ⟨C2, hC2⟩ : ∃ x, x = xC s r c 1 0 := ⟨_, rfl⟩
    have HX : Hid (xE s r c 1 0 = X2 ∧ xS s r c 1 0 = S2 ∧ xR s r c 1 0 = R2 ∧ xC s r c 1 0 = C2) := ⟨hX2.symm, hS2.symm, hR2.symm, hC2.symm⟩
    have HU : Hid (X2 = 0 → xE S2 R2 C2 2 0 = 0 ∧ xS S2 R2 C2 2 0 = s ∧ xR S2 R2 C2 2 0 = r ∧ xC S2 R2 C2 2 0 = c ∧ S2 = s) := fun h => by
      rw [hS2, hR2, hC2]; rw [hX2] at h; exact undo_share HV.out h
    clear hX2 hS2 hR2 hC2
    go_upto_region 9 with fail
    go_cut [11, 12] (fun s1 s2 wx => ∃ g9 : Nat, s1 = .pointer (some ⟨g9, 0, none⟩) ∧ s2 = .int .i64 X2 ∧ Hid (EN w g s r c wx) ∧ Hid (wx.heap[g9]? = some (.cells (pgC S2 R2 C2) 23 (0, 0))))
    case first =>
      have hsrc := Lib.hid E2.out.1.1
      have hsl := lt_of_some hsrc.out
      have hgl := E2.out.lt
      have n0 : wc.heap.size ≠ g := by omega
      have n1 : wc.heap.size + 1 ≠ g := by omega
      obtain ⟨d0, d1, d2⟩ := c3 hsrc.out
      go_region_held3 (fun w' => w'.cell? ⟨g, 0, none⟩ = some (.int .i64 s) ∧ w'.cell? ⟨g, 1, none⟩ = some (.int .i64 r) ∧ w'.cell? ⟨g, 2, none⟩ = some (.int .i64 c))
        (refine ⟨?_, ?_, ?_⟩ <;> (with_reducible repeat (first | exact d0 | exact d1 | exact d2 | exact x0 | exact x1 | exact x2 | refine cellD ?_ | refine cellA ?_ _ | (refine cellS ?_ _ _ (by simp only []; omega)))))
        (first | (go_at_call 13; (with_reducible refine (ev_any _ _).mono ?_); rintro e w4 ⟨rfl, rfl⟩) | (go_at_call 15; (with_reducible refine (Next_any s r c 1 0 (wc.alloc (.cells #[.int .i64 1, .int .i64 0] 32)).drew).mono ?_); rintro e w4 ⟨rfl, hb⟩; have E4 := Lib.hid (((E2.out.alloc (.cells #[.int .i64 1, .int .i64 0] 32)).drew).keep hb); have hs4 := Lib.hid (bkeep (wr := (wc.alloc (.cells #[.int .i64 1, .int .i64 0] 32)).drew) hb (hold1 hsrc.out _)); obtain ⟨x0, x1, x2⟩ := c3 hs4.out; rw [HX.out.1, HX.out.2.1, HX.out.2.2.1, HX.out.2.2.2]; clear hb) | (go_at_call 15; (with_reducible refine (Next_any s r c 1 0 ((wc.alloc (.cells #[.int .i64 1, .int .i64 0] 32)).alloc (.cells #[.int .i64 0, .int .i64 0, .int .i64 0] 23)).drew).mono ?_); rintro e w4 ⟨rfl, hb⟩; have E4 := Lib.hid ((((E2.out.alloc (.cells #[.int .i64 1, .int .i64 0] 32)).alloc (.cells #[.int .i64 0, .int .i64 0, .int .i64 0] 23)).drew).keep hb); have hs4 := Lib.hid (bkeep (wr := ((wc.alloc (.cells #[.int .i64 1, .int .i64 0] 32)).alloc (.cells #[.int .i64 0, .int .i64 0, .int .i64 0] 23)).drew) hb (hold2 hsrc.out _ _)); obtain ⟨x0, x1, x2⟩ := c3 hs4.out; rw [HX.out.1, HX.out.2.1, HX.out.2.2.1, HX.out.2.2.2]; have G9 := Lib.hid (bkeep (wr := ((wc.alloc (.cells #[.int .i64 1, .int .i64 0] 32)).alloc (.cells #[.int .i64 0, .int .i64 0, .int .i64 0] 23)).drew) hb (h2_1 wc _ _)); obtain ⟨y0, y1, y2⟩ := c3 G9.out; have f0 := fr (j := 0) G9.out; have f1 := fr (j := 1) G9.out; have f2 := fr (j := 2) G9.out; clear hb) | (go_at_call 15; (with_reducible refine (Next_any s r c 1 0 ((wc.alloc (.cells #[.int .i64 0, .int .i64 0, .int .i64 0] 23)).alloc (.cells #[.int .i64 1, .int .i64 0] 32)).drew).mono ?_); rintro e w4 ⟨rfl, hb⟩; have E4 := Lib.hid ((((E2.out.alloc (.cells #[.int .i64 0, .int .i64 0, .int .i64 0] 23)).alloc (.cells #[.int .i64 1, .int .i64 0] 32)).drew).keep hb); have hs4 := Lib.hid (bkeep (wr := ((wc.alloc (.cells #[.int .i64 0, .int .i64 0, .int .i64 0] 23)).alloc (.cells #[.int .i64 1, .int .i64 0] 32)).drew) hb (hold2 hsrc.out _ _)); obtain ⟨x0, x1, x2⟩ := c3 hs4.out; rw [HX.out.1, HX.out.2.1, HX.out.2.2.1, HX.out.2.2.2]; have G9 := Lib.hid (bkeep (wr := ((wc.alloc (.cells #[.int .i64 0, .int .i64 0, .int .i64 0] 23)).alloc (.cells #[.int .i64 1, .int .i64 0] 32)).drew) hb (h2_0 wc _ _)); obtain ⟨y0, y1, y2⟩ := c3 G9.out; have f0 := fr (j := 0) G9.out; have f1 := fr (j := 1) G9.out; have f2 := fr (j := 2) G9.out; clear hb))
      · skip
        obtain ⟨W5, hW5⟩ : ∃ x, x = w4.alloc (.cells #[.int .i64 S2, .int .i64 R2, .int .i64 C2] 23) := ⟨_, rfl⟩
        have E5 : Hid (EN w g s r c W5) := by rw [hW5]; exact E4.out.alloc _
        have G5 : Hid (W5.heap[w4.heap.size]? = some (.cells #[.int .i64 S2, .int .i64 R2, .int .i64 C2] 23 (0, 0))) := by rw [hW5]; exact h1_0 _ _
        have H5 : Hid (W5.heap[g]? = some (.cells (pgC s r c) 23 (0, 0))) := by rw [hW5]; exact hold1 hs4.out _
        rw [← hW5]
        clear hW5 x0 x1 x2 d0 d1 d2
        go_wp2_with fail
        go_meet
        exact ⟨w4.heap.size, rfl, rfl, E5, G5⟩
      · rw [set3 G9.out]
        obtain ⟨W5, hW5⟩ : ∃ x, x = w4.setRow (wc.heap.size + 1) #[.int .i64 S2, .int .i64 R2, .int .i64 C2] := ⟨_, rfl⟩
        have E5 : Hid (EN w g s r c W5) := by rw [hW5]; exact E4.out.far (by omega) _
        have G5 : Hid (W5.heap[(wc.heap.size + 1)]? = some (.cells #[.int .i64 S2, .int .i64 R2, .int .i64 C2] 23 (0, 0))) := by rw [hW5]; exact setRow_heap _ _ _ _ _ _ G9.out
        have H5 : Hid (W5.heap[g]? = some (.cells (pgC s r c) 23 (0, 0))) := by rw [hW5]; exact (setRow_other _ _ _ _ (by omega)).trans hs4.out
        rw [← hW5]
        clear hW5 x0 x1 x2 d0 d1 d2 y0 y1 y2 f0 f1 f2
        go_wp2_with fail
        go_meet
        exact ⟨(wc.heap.size + 1), rfl, rfl, E5, G5⟩
      · rw [set3 G9.out]
        obtain ⟨W5, hW5⟩ : ∃ x, x = w4.setRow wc.heap.size #[.int .i64 S2, .int .i64 R2, .int .i64 C2] := ⟨_, rfl⟩
        have E5 : Hid (EN w g s r c W5) := by rw [hW5]; exact E4.out.far (by omega) _
        have G5 : Hid (W5.heap[wc.heap.size]? = some (.cells #[.int .i64 S2, .int .i64 R2, .int .i64 C2] 23 (0, 0))) := by rw [hW5]; exact setRow_heap _ _ _ _ _ _ G9.out
        have H5 : Hid (W5.heap[g]? = some (.cells (pgC s r c) 23 (0, 0))) := by rw [hW5]; exact (setRow_other _ _ _ _ (by omega)).trans hs4.out
        rw [← hW5]
        clear hW5 x0 x1 x2 d0 d1 d2 y0 y1 y2 f0 f1 f2
        go_wp2_with fail
        go_meet
        exact ⟨wc.heap.size, rfl, rfl, E5, G5⟩
    case rest =>
    clear E2 HX
    obtain ⟨g9, rfl, rfl, E3, hsrc⟩ := hcut
    go_upto_if 59 with fail
    go_cut [] (fun wx => Hid (EN w g s r c wx))
    case first =>
      by_cases he : X2 = 0
      · have HV1 := Lib.hid (HU.out he)
        have he2 : (X2 == 0) = true := by simpa using he
        clear he HU
        have hSs : (S2 != s) = false := by rw [HV1.out.2.2.2.2]; simp
        go_wp2_with fail
        have hsl := lt_of_some hsrc.out
        have hgl := E3.out.lt
        have n0 : wc.heap.size ≠ g9 := by omega
        have n1 : wc.heap.size + 1 ≠ g9 := by omega
        obtain ⟨d0, d1, d2⟩ := c3 hsrc.out
        go_region_held3 (fun w' => w'.cell? ⟨g9, 0, none⟩ = some (.int .i64 S2) ∧ w'.cell? ⟨g9, 1, none⟩ = some (.int .i64 R2) ∧ w'.cell? ⟨g9, 2, none⟩ = some (.int .i64 C2))
          (refine ⟨?_, ?_, ?_⟩ <;> (with_reducible repeat (first | exact d0 | exact d1 | exact d2 | exact x0 | exact x1 | exact x2 | refine cellD ?_ | refine cellA ?_ _ | (refine cellS ?_ _ _ (by simp only []; omega)))))
          (first | (go_at_call 13; (with_reducible refine (ev_any _ _).mono ?_); rintro e w4 ⟨rfl, rfl⟩) | (go_at_call 15; (with_reducible refine (Next_any S2 R2 C2 2 0 (wc.alloc (.cells #[.int .i64 2, .int .i64 0] 32)).drew).mono ?_); rintro e w4 ⟨rfl, hb⟩; have E4 := Lib.hid (((E3.out.alloc (.cells #[.int .i64 2, .int .i64 0] 32)).drew).keep hb); have hs4 := Lib.hid (bkeep (wr := (wc.alloc (.cells #[.int .i64 2, .int .i64 0] 32)).drew) hb (hold1 hsrc.out _)); obtain ⟨x0, x1, x2⟩ := c3 hs4.out; rw [HV1.out.1, HV1.out.2.1, HV1.out.2.2.1, HV1.out.2.2.2.1]; clear hb) | (go_at_call 15; (with_reducible refine (Next_any S2 R2 C2 2 0 ((wc.alloc (.cells #[.int .i64 2, .int .i64 0] 32)).alloc (.cells #[.int .i64 0, .int .i64 0, .int .i64 0] 23)).drew).mono ?_); rintro e w4 ⟨rfl, hb⟩; have E4 := Lib.hid ((((E3.out.alloc (.cells #[.int .i64 2, .int .i64 0] 32)).alloc (.cells #[.int .i64 0, .int .i64 0, .int .i64 0] 23)).drew).keep hb); have hs4 := Lib.hid (bkeep (wr := ((wc.alloc (.cells #[.int .i64 2, .int .i64 0] 32)).alloc (.cells #[.int .i64 0, .int .i64 0, .int .i64 0] 23)).drew) hb (hold2 hsrc.out _ _)); obtain ⟨x0, x1, x2⟩ := c3 hs4.out; rw [HV1.out.1, HV1.out.2.1, HV1.out.2.2.1, HV1.out.2.2.2.1]; have G9 := Lib.hid (bkeep (wr := ((wc.alloc (.cells #[.int .i64 2, .int .i64 0] 32)).alloc (.cells #[.int .i64 0, .int .i64 0, .int .i64 0] 23)).drew) hb (h2_1 wc _ _)); obtain ⟨y0, y1, y2⟩ := c3 G9.out; have f0 := fr (j := 0) G9.out; have f1 := fr (j := 1) G9.out; have f2 := fr (j := 2) G9.out; clear hb) | (go_at_call 15; (with_reducible refine (Next_any S2 R2 C2 2 0 ((wc.alloc (.cells #[.int .i64 0, .int .i64 0, .int .i64 0] 23)).alloc (.cells #[.int .i64 2, .int .i64 0] 32)).drew).mono ?_); rintro e w4 ⟨rfl, hb⟩; have E4 := Lib.hid ((((E3.out.alloc (.cells #[.int .i64 0, .int .i64 0, .int .i64 0] 23)).alloc (.cells #[.int .i64 2, .int .i64 0] 32)).drew).keep hb); have hs4 := Lib.hid (bkeep (wr := ((wc.alloc (.cells #[.int .i64 0, .int .i64 0, .int .i64 0] 23)).alloc (.cells #[.int .i64 2, .int .i64 0] 32)).drew) hb (hold2 hsrc.out _ _)); obtain ⟨x0, x1, x2⟩ := c3 hs4.out; rw [HV1.out.1, HV1.out.2.1, HV1.out.2.2.1, HV1.out.2.2.2.1]; have G9 := Lib.hid (bkeep (wr := ((wc.alloc (.cells #[.int .i64 0, .int .i64 0, .int .i64 0] 23)).alloc (.cells #[.int .i64 2, .int .i64 0] 32)).drew) hb (h2_0 wc _ _)); obtain ⟨y0, y1, y2⟩ := c3 G9.out; have f0 := fr (j := 0) G9.out; have f1 := fr (j := 1) G9.out; have f2 := fr (j := 2) G9.out; clear hb))
        · skip
          obtain ⟨W5, hW5⟩ : ∃ x, x = w4.alloc (.cells #[.int .i64 s, .int .i64 r, .int .i64 c] 23) := ⟨_, rfl⟩
          have E5 : Hid (EN w g s r c W5) := by rw [hW5]; exact E4.out.alloc _
          have G5 : Hid (W5.heap[w4.heap.size]? = some (.cells #[.int .i64 s, .int .i64 r, .int .i64 c] 23 (0, 0))) := by rw [hW5]; exact h1_0 _ _
          have H5 : Hid (W5.heap[g9]? = some (.cells (pgC S2 R2 C2) 23 (0, 0))) := by rw [hW5]; exact hold1 hs4.out _
          rw [← hW5]
          clear hW5 x0 x1 x2 d0 d1 d2
          obtain ⟨g0, g1, g2⟩ := c3 E5.out.1.1
          obtain ⟨v0, v1, v2⟩ := c3 G5.out
          obtain ⟨z0, z1, z2⟩ := c3 H5.out
          go_wp2_with fail
          go_meet
          exact E5
        · rw [set3 G9.out]
          obtain ⟨W5, hW5⟩ : ∃ x, x = w4.setRow (wc.heap.size + 1) #[.int .i64 s, .int .i64 r, .int .i64 c] := ⟨_, rfl⟩
          have E5 : Hid (EN w g s r c W5) := by rw [hW5]; exact E4.out.far (by omega) _
          have G5 : Hid (W5.heap[(wc.heap.size + 1)]? = some (.cells #[.int .i64 s, .int .i64 r, .int .i64 c] 23 (0, 0))) := by rw [hW5]; exact setRow_heap _ _ _ _ _ _ G9.out
          have H5 : Hid (W5.heap[g9]? = some (.cells (pgC S2 R2 C2) 23 (0, 0))) := by rw [hW5]; exact (setRow_other _ _ _ _ (by omega)).trans hs4.out
          rw [← hW5]
          clear hW5 x0 x1 x2 d0 d1 d2 y0 y1 y2 f0 f1 f2
          obtain ⟨g0, g1, g2⟩ := c3 E5.out.1.1
          obtain ⟨v0, v1, v2⟩ := c3 G5.out
          obtain ⟨z0, z1, z2⟩ := c3 H5.out
          go_wp2_with fail
          go_meet
          exact E5
        · rw [set3 G9.out]
          obtain ⟨W5, hW5⟩ : ∃ x, x = w4.setRow wc.heap.size #[.int .i64 s, .int .i64 r, .int .i64 c] := ⟨_, rfl⟩
          have E5 : Hid (EN w g s r c W5) := by rw [hW5]; exact E4.out.far (by omega) _
          have G5 : Hid (W5.heap[wc.heap.size]? = some (.cells #[.int .i64 s, .int .i64 r, .int .i64 c] 23 (0, 0))) := by rw [hW5]; exact setRow_heap _ _ _ _ _ _ G9.out
          have H5 : Hid (W5.heap[g9]? = some (.cells (pgC S2 R2 C2) 23 (0, 0))) := by rw [hW5]; exact (setRow_other _ _ _ _ (by omega)).trans hs4.out
          rw [← hW5]
          clear hW5 x0 x1 x2 d0 d1 d2 y0 y1 y2 f0 f1 f2
          obtain ⟨g0, g1, g2⟩ := c3 E5.out.1.1
          obtain ⟨v0, v1, v2⟩ := c3 G5.out
          obtain ⟨z0, z1, z2⟩ := c3 H5.out
          go_wp2_with fail
          go_meet
          exact E5
      · have he2 : (X2 == 0) = false := by simpa using he
        clear he
        go_wp2_with fail
        go_meet
        exact E3
    case rest =>
    clear E3 HU hsrc
    have E2 := hcut
    clear hcut
    obtain ⟨X3, hX3⟩ : ∃ x, x = xE s r c 6 0 := ⟨_, rfl⟩
    obtain ⟨S3, hS3⟩ : ∃ x, x = xS s r c 6 0 := ⟨_, rfl⟩
    obtain ⟨R3, hR3⟩ : ∃ x, x = xR s r c 6 0 := ⟨_, rfl⟩
    obtain ⟨C3, hC3⟩ : ∃ x, x = xC s r c 6 0 := ⟨_, rfl⟩
    have HX : Hid (xE s r c 6 0 = X3 ∧ xS s r c 6 0 = S3 ∧ xR s r c 6 0 = R3 ∧ xC s r c 6 0 = C3) := ⟨hX3.symm, hS3.symm, hR3.symm, hC3.symm⟩
    have HU : Hid (X3 = 0 → (s = 3 ∧ 1 ≤ c ∧ S3 = 5 ∧ R3 = r - 1 ∧ C3 = 0) ∨ (c = 0 ∧ 1 ≤ r ∧ S3 = 4 ∧ R3 = r ∧ C3 = 0) ∨ (c = 0 ∧ r = 0 ∧ S3 = 6)) := fun h => by
      rw [hS3, hR3, hC3]; rw [hX3] at h; exact done_of HV.out h
    clear hX3 hS3 hR3 hC3
    go_upto_region 14 with fail
    go_cut [15, 16] (fun s1 s2 wx => ∃ g9 : Nat, s1 = .pointer (some ⟨g9, 0, none⟩) ∧ s2 = .int .i64 X3 ∧ Hid (EN w g s r c wx) ∧ Hid (wx.heap[g9]? = some (.cells (pgC S3 R3 C3) 23 (0, 0))))
    case first =>
      have hsrc := Lib.hid E2.out.1.1
      have hsl := lt_of_some hsrc.out
      have hgl := E2.out.lt
      have n0 : wc.heap.size ≠ g := by omega
      have n1 : wc.heap.size + 1 ≠ g := by omega
      obtain ⟨d0, d1, d2⟩ := c3 hsrc.out
      go_region_held3 (fun w' => w'.cell? ⟨g, 0, none⟩ = some (.int .i64 s) ∧ w'.cell? ⟨g, 1, none⟩ = some (.int .i64 r) ∧ w'.cell? ⟨g, 2, none⟩ = some (.int .i64 c))
        (refine ⟨?_, ?_, ?_⟩ <;> (with_reducible repeat (first | exact d0 | exact d1 | exact d2 | exact x0 | exact x1 | exact x2 | refine cellD ?_ | refine cellA ?_ _ | (refine cellS ?_ _ _ (by simp only []; omega)))))
        (first | (go_at_call 13; (with_reducible refine (ev_any _ _).mono ?_); rintro e w4 ⟨rfl, rfl⟩) | (go_at_call 15; (with_reducible refine (Next_any s r c 6 0 (wc.alloc (.cells #[.int .i64 6, .int .i64 0] 32)).drew).mono ?_); rintro e w4 ⟨rfl, hb⟩; have E4 := Lib.hid (((E2.out.alloc (.cells #[.int .i64 6, .int .i64 0] 32)).drew).keep hb); have hs4 := Lib.hid (bkeep (wr := (wc.alloc (.cells #[.int .i64 6, .int .i64 0] 32)).drew) hb (hold1 hsrc.out _)); obtain ⟨x0, x1, x2⟩ := c3 hs4.out; rw [HX.out.1, HX.out.2.1, HX.out.2.2.1, HX.out.2.2.2]; clear hb) | (go_at_call 15; (with_reducible refine (Next_any s r c 6 0 ((wc.alloc (.cells #[.int .i64 6, .int .i64 0] 32)).alloc (.cells #[.int .i64 0, .int .i64 0, .int .i64 0] 23)).drew).mono ?_); rintro e w4 ⟨rfl, hb⟩; have E4 := Lib.hid ((((E2.out.alloc (.cells #[.int .i64 6, .int .i64 0] 32)).alloc (.cells #[.int .i64 0, .int .i64 0, .int .i64 0] 23)).drew).keep hb); have hs4 := Lib.hid (bkeep (wr := ((wc.alloc (.cells #[.int .i64 6, .int .i64 0] 32)).alloc (.cells #[.int .i64 0, .int .i64 0, .int .i64 0] 23)).drew) hb (hold2 hsrc.out _ _)); obtain ⟨x0, x1, x2⟩ := c3 hs4.out; rw [HX.out.1, HX.out.2.1, HX.out.2.2.1, HX.out.2.2.2]; have G9 := Lib.hid (bkeep (wr := ((wc.alloc (.cells #[.int .i64 6, .int .i64 0] 32)).alloc (.cells #[.int .i64 0, .int .i64 0, .int .i64 0] 23)).drew) hb (h2_1 wc _ _)); obtain ⟨y0, y1, y2⟩ := c3 G9.out; have f0 := fr (j := 0) G9.out; have f1 := fr (j := 1) G9.out; have f2 := fr (j := 2) G9.out; clear hb) | (go_at_call 15; (with_reducible refine (Next_any s r c 6 0 ((wc.alloc (.cells #[.int .i64 0, .int .i64 0, .int .i64 0] 23)).alloc (.cells #[.int .i64 6, .int .i64 0] 32)).drew).mono ?_); rintro e w4 ⟨rfl, hb⟩; have E4 := Lib.hid ((((E2.out.alloc (.cells #[.int .i64 0, .int .i64 0, .int .i64 0] 23)).alloc (.cells #[.int .i64 6, .int .i64 0] 32)).drew).keep hb); have hs4 := Lib.hid (bkeep (wr := ((wc.alloc (.cells #[.int .i64 0, .int .i64 0, .int .i64 0] 23)).alloc (.cells #[.int .i64 6, .int .i64 0] 32)).drew) hb (hold2 hsrc.out _ _)); obtain ⟨x0, x1, x2⟩ := c3 hs4.out; rw [HX.out.1, HX.out.2.1, HX.out.2.2.1, HX.out.2.2.2]; have G9 := Lib.hid (bkeep (wr := ((wc.alloc (.cells #[.int .i64 0, .int .i64 0, .int .i64 0] 23)).alloc (.cells #[.int .i64 6, .int .i64 0] 32)).drew) hb (h2_0 wc _ _)); obtain ⟨y0, y1, y2⟩ := c3 G9.out; have f0 := fr (j := 0) G9.out; have f1 := fr (j := 1) G9.out; have f2 := fr (j := 2) G9.out; clear hb))
      · skip
        obtain ⟨W5, hW5⟩ : ∃ x, x = w4.alloc (.cells #[.int .i64 S3, .int .i64 R3, .int .i64 C3] 23) := ⟨_, rfl⟩
        have E5 : Hid (EN w g s r c W5) := by rw [hW5]; exact E4.out.alloc _
        have G5 : Hid (W5.heap[w4.heap.size]? = some (.cells #[.int .i64 S3, .int .i64 R3, .int .i64 C3] 23 (0, 0))) := by rw [hW5]; exact h1_0 _ _
        have H5 : Hid (W5.heap[g]? = some (.cells (pgC s r c) 23 (0, 0))) := by rw [hW5]; exact hold1 hs4.out _
        rw [← hW5]
        clear hW5 x0 x1 x2 d0 d1 d2
        go_wp2_with fail
        go_meet
        exact ⟨w4.heap.size, rfl, rfl, E5, G5⟩
      · rw [set3 G9.out]
        obtain ⟨W5, hW5⟩ : ∃ x, x = w4.setRow (wc.heap.size + 1) #[.int .i64 S3, .int .i64 R3, .int .i64 C3] := ⟨_, rfl⟩
        have E5 : Hid (EN w g s r c W5) := by rw [hW5]; exact E4.out.far (by omega) _
        have G5 : Hid (W5.heap[(wc.heap.size + 1)]? = some (.cells #[.int .i64 S3, .int .i64 R3, .int .i64 C3] 23 (0, 0))) := by rw [hW5]; exact setRow_heap _ _ _ _ _ _ G9.out
        have H5 : Hid (W5.heap[g]? = some (.cells (pgC s r c) 23 (0, 0))) := by rw [hW5]; exact (setRow_other _ _ _ _ (by omega)).trans hs4.out
        rw [← hW5]
        clear hW5 x0 x1 x2 d0 d1 d2 y0 y1 y2 f0 f1 f2
        go_wp2_with fail
        go_meet
        exact ⟨(wc.heap.size + 1), rfl, rfl, E5, G5⟩
      · rw [set3 G9.out]
        obtain ⟨W5, hW5⟩ : ∃ x, x = w4.setRow wc.heap.size #[.int .i64 S3, .int .i64 R3, .int .i64 C3] := ⟨_, rfl⟩
        have E5 : Hid (EN w g s r c W5) := by rw [hW5]; exact E4.out.far (by omega) _
        have G5 : Hid (W5.heap[wc.heap.size]? = some (.cells #[.int .i64 S3, .int .i64 R3, .int .i64 C3] 23 (0, 0))) := by rw [hW5]; exact setRow_heap _ _ _ _ _ _ G9.out
        have H5 : Hid (W5.heap[g]? = some (.cells (pgC s r c) 23 (0, 0))) := by rw [hW5]; exact (setRow_other _ _ _ _ (by omega)).trans hs4.out
        rw [← hW5]
        clear hW5 x0 x1 x2 d0 d1 d2 y0 y1 y2 f0 f1 f2
        go_wp2_with fail
        go_meet
        exact ⟨wc.heap.size, rfl, rfl, E5, G5⟩
    case rest =>
    clear E2 HX
    obtain ⟨g9, rfl, rfl, E3, hsrc⟩ := hcut
    go_upto_if 87 with fail
    go_cut [] (fun wx => Hid (EN w g s r c wx))
    case first =>
      by_cases he : X3 = 0
      · have HV1 := Lib.hid (HU.out he)
        have he2 : (X3 == 0) = true := by simpa using he
        clear he HU
        obtain ⟨q0, q1, q2⟩ := c3 E3.out.1.1
        obtain ⟨z0, z1, z2⟩ := c3 hsrc.out
        have hrb := chk_ok HV.out
        obtain ⟨_, _, hrb1, hrb2⟩ := hrb
        rcases HV1.out with ⟨_, hc1, rfl, rfl, rfl⟩ | ⟨rfl, hr1, rfl, hRr, rfl⟩ | ⟨rfl, rfl, rfl⟩
        · have hc0 : (c == 0) = false := by rw [beq_eq_false_iff_ne]; omega
          have hc2 : 0 < c := by omega
          go_wp2_with fail
          go_meet
          exact E3
        · obtain rfl := hRr.symm
          have hr2 : 0 < r := by omega
          go_wp2_with fail
          go_meet
          exact E3
        · go_wp2_with fail
          go_meet
          exact E3
      · have he2 : (X3 == 0) = false := by simpa using he
        clear he
        go_wp2_with fail
        go_meet
        exact E3
    case rest =>
    clear E3 HU hsrc
    have E2 := hcut
    clear hcut
    obtain ⟨q0, q1, q2⟩ := c3 E2.out.1.1
    by_cases h5 : s = 5
    · subst h5
      go_wp2_with fail
      refine (awake_cl _ (HC.out.below E2.out.2.1)).mono ?_
      rintro e w9 ⟨rfl, hb⟩
      have B9 := Lib.hid (btrans E2.out.2.1 hb)
      clear hb q0 q1 q2
      go_wp2_with fail
      go_ret
      exact ⟨rfl, B9.out⟩
    · have b5 : (s == 5) = false := by simpa using h5
      obtain ⟨_, _, hrb1, hrb2⟩ := chk_ok HV.out
      have HM0 : Hid (mu s r ≤ r + 2) := by show _ ≤ _; unfold mu; repeat' split <;> omega
      have hM1 : Hid (s ≠ 5) := h5
      clear h5
      go_wp2_with fail
      obtain ⟨W4, hW4⟩ : ∃ x, x = wc.alloc (.cells #[.int .i64 s, .int .i64 r, .int .i64 c] 23) := ⟨_, rfl⟩
      obtain ⟨gw, hgw⟩ : ∃ x, x = wc.heap.size := ⟨_, rfl⟩
      have L4 : Hid (LP w g gw s r c s r c W4) := by rw [hW4, hgw]; exact ⟨E2.out.alloc _, h1_0 _ _, E2.out.lt⟩
      rw [← hW4, ← hgw]
      clear hW4 hgw q0 q1 q2 b5 E2
      go_loopw [18] (fun i wr => ∃ (k : Nat) (s' r' c' : Int), i = .int .i64 k ∧ (k : Int) ≤ r + 2 ∧ Hid (chk s' r' c' = 0 ∧ s' ≠ 5 ∧ mu s' r' + k ≤ r + 2) ∧ Hid (LP w g gw s r c s' r' c' wr)) (fun i _ => (r + 2).toNat - (intOf i).toNat)
      case atStart => exact ⟨0, s, r, c, rfl, by omega, ⟨HV.out, hM1.out, by have := HM0.out; omega⟩, L4⟩
      case round =>
        clear L4 HM0 hM1
        obtain ⟨k, s', r', c', rfl, hk, hst, hlp⟩ := hrel
        obtain ⟨q0, q1, q2⟩ := c3 hlp.out.1.1.1
        obtain ⟨p0, p1, p2⟩ := c3 hlp.out.2.1
        have hmu : Hid (s' ≠ 6 → 1 ≤ mu s' r') := fun h6 => mu_pos hst.out.1 h6
        by_cases h6 : s' = 6
        · subst h6
          by_cases hkr : (k : Int) < r + 2
          all_goals
            (try have hkr2 : r + 2 ≤ (k : Int) := by omega)
            go_wp2_with fail
            refine (awake_cl _ (HC.out.below hlp.out.1.2.1)).mono ?_
            rintro e w9 ⟨rfl, hb⟩
            have B9 := Lib.hid (btrans hlp.out.1.2.1 hb)
            clear hb q0 q1 q2
            go_wp2_with fail
            go_ret
            exact ⟨rfl, B9.out⟩
        · have b6 : (s' != 6) = true := by simpa using h6
          have hkr : (k : Int) < r + 2 := by have := hmu.out h6; have := hst.out.2.2; omega
          have H6 := Lib.hid h6
          clear h6 hmu
          obtain ⟨wo, hwo⟩ : ∃ wo : World, wo = wr := ⟨_, rfl⟩
          subst hwo
          go_wp2_with fail
          obtain ⟨W6, hW6⟩ : ∃ x, x = wo.alloc (.cells #[.int .i64 5, .int .i64 2, .int .i64 6] 3) := ⟨_, rfl⟩
          obtain ⟨gl, hgl⟩ : ∃ x, x = wo.heap.size := ⟨_, rfl⟩
          have L6 : Hid (LI w g gw gl s r c s' r' c' W6) := by rw [hW6, hgl]; exact ⟨hlp.out.alloc _, h1_0 _ _, hlp.out.lt⟩
          rw [← hW6, ← hgl]
          clear hW6 hgl q0 q1 q2 p0 p1 p2 hlp
          go_loopw [149] (fun jv wj => ∃ j : Nat, j ≤ 3 ∧ jv = .int .i64 j ∧ Hid ((0 < j → xE s' r' c' 5 0 ≠ 0) ∧ (1 < j → xE s' r' c' 2 0 ≠ 0) ∧ (2 < j → xE s' r' c' 6 0 ≠ 0)) ∧ Hid (LI w g gw gl s r c s' r' c' wj)) (fun jv _ => 3 - (intOf jv).toNat)
          case atStart => exact ⟨0, by omega, rfl, ⟨fun h => absurd h (by omega), fun h => absurd h (by omega), fun h => absurd h (by omega)⟩, L6⟩
          case round =>
            clear L6
            obtain ⟨j, hj, rfl, hx, hli⟩ := hrel
            by_cases hj3 : j < 3
            · have ck := hli.out.cell j hj3
              have HX : Hid (kd j = kd j) := rfl
              obtain ⟨kk, hkk⟩ : ∃ x, x = kd j := ⟨_, rfl⟩
              rw [← hkk] at ck
              have HK := Lib.hid hkk
              clear hkk
              obtain ⟨q0, q1, q2⟩ := c3 hli.out.1.1.1.1
              have hsrc := Lib.hid hli.out.1.1.1.1
              have i1 : (0 : Int) ≤ (j : Int) := by omega
              have i2 : (j : Int) < 3 := by omega
              obtain ⟨X5, hX5⟩ : ∃ x, x = xE s' r' c' kk 0 := ⟨_, rfl⟩
              obtain ⟨S5, hS5⟩ : ∃ x, x = xS s' r' c' kk 0 := ⟨_, rfl⟩
              obtain ⟨R5, hR5⟩ : ∃ x, x = xR s' r' c' kk 0 := ⟨_, rfl⟩
              obtain ⟨C5, hC5⟩ : ∃ x, x = xC s' r' c' kk 0 := ⟨_, rfl⟩
              have HX5 : Hid (xE s' r' c' kk 0 = X5 ∧ xS s' r' c' kk 0 = S5 ∧ xR s' r' c' kk 0 = R5 ∧ xC s' r' c' kk 0 = C5) := ⟨hX5.symm, hS5.symm, hR5.symm, hC5.symm⟩
              clear hX5 hS5 hR5 hC5
              go_wp2_with fail
              have hsl := lt_of_some hsrc.out
              have hgl := hli.out.lt
              have n0 : wr.heap.size ≠ g := by omega
              have n1 : wr.heap.size + 1 ≠ g := by omega
              obtain ⟨d0, d1, d2⟩ := c3 hsrc.out
              go_region_held3 (fun w' => w'.cell? ⟨g, 0, none⟩ = some (.int .i64 s') ∧ w'.cell? ⟨g, 1, none⟩ = some (.int .i64 r') ∧ w'.cell? ⟨g, 2, none⟩ = some (.int .i64 c'))
                (refine ⟨?_, ?_, ?_⟩ <;> (with_reducible repeat (first | exact d0 | exact d1 | exact d2 | exact x0 | exact x1 | exact x2 | refine cellD ?_ | refine cellA ?_ _ | (refine cellS ?_ _ _ (by simp only []; omega)))))
                (first | (go_at_call 13; (with_reducible refine (ev_any _ _).mono ?_); rintro e w4 ⟨rfl, rfl⟩) | (go_at_call 15; (with_reducible refine (Next_any s' r' c' kk 0 (wr.alloc (.cells #[.int .i64 kk, .int .i64 0] 32)).drew).mono ?_); rintro e w4 ⟨rfl, hb⟩; have E4 := Lib.hid (((hli.out.alloc (.cells #[.int .i64 kk, .int .i64 0] 32)).drew).keep hb); have hs4 := Lib.hid (bkeep (wr := (wr.alloc (.cells #[.int .i64 kk, .int .i64 0] 32)).drew) hb (hold1 hsrc.out _)); obtain ⟨x0, x1, x2⟩ := c3 hs4.out; rw [HX5.out.1, HX5.out.2.1, HX5.out.2.2.1, HX5.out.2.2.2]; clear hb) | (go_at_call 15; (with_reducible refine (Next_any s' r' c' kk 0 ((wr.alloc (.cells #[.int .i64 kk, .int .i64 0] 32)).alloc (.cells #[.int .i64 0, .int .i64 0, .int .i64 0] 23)).drew).mono ?_); rintro e w4 ⟨rfl, hb⟩; have E4 := Lib.hid ((((hli.out.alloc (.cells #[.int .i64 kk, .int .i64 0] 32)).alloc (.cells #[.int .i64 0, .int .i64 0, .int .i64 0] 23)).drew).keep hb); have hs4 := Lib.hid (bkeep (wr := ((wr.alloc (.cells #[.int .i64 kk, .int .i64 0] 32)).alloc (.cells #[.int .i64 0, .int .i64 0, .int .i64 0] 23)).drew) hb (hold2 hsrc.out _ _)); obtain ⟨x0, x1, x2⟩ := c3 hs4.out; rw [HX5.out.1, HX5.out.2.1, HX5.out.2.2.1, HX5.out.2.2.2]; have G9 := Lib.hid (bkeep (wr := ((wr.alloc (.cells #[.int .i64 kk, .int .i64 0] 32)).alloc (.cells #[.int .i64 0, .int .i64 0, .int .i64 0] 23)).drew) hb (h2_1 wr _ _)); obtain ⟨y0, y1, y2⟩ := c3 G9.out; have f0 := fr (j := 0) G9.out; have f1 := fr (j := 1) G9.out; have f2 := fr (j := 2) G9.out; clear hb) | (go_at_call 15; (with_reducible refine (Next_any s' r' c' kk 0 ((wr.alloc (.cells #[.int .i64 0, .int .i64 0, .int .i64 0] 23)).alloc (.cells #[.int .i64 kk, .int .i64 0] 32)).drew).mono ?_); rintro e w4 ⟨rfl, hb⟩; have E4 := Lib.hid ((((hli.out.alloc (.cells #[.int .i64 0, .int .i64 0, .int .i64 0] 23)).alloc (.cells #[.int .i64 kk, .int .i64 0] 32)).drew).keep hb); have hs4 := Lib.hid (bkeep (wr := ((wr.alloc (.cells #[.int .i64 0, .int .i64 0, .int .i64 0] 23)).alloc (.cells #[.int .i64 kk, .int .i64 0] 32)).drew) hb (hold2 hsrc.out _ _)); obtain ⟨x0, x1, x2⟩ := c3 hs4.out; rw [HX5.out.1, HX5.out.2.1, HX5.out.2.2.1, HX5.out.2.2.2]; have G9 := Lib.hid (bkeep (wr := ((wr.alloc (.cells #[.int .i64 0, .int .i64 0, .int .i64 0] 23)).alloc (.cells #[.int .i64 kk, .int .i64 0] 32)).drew) hb (h2_0 wr _ _)); obtain ⟨y0, y1, y2⟩ := c3 G9.out; have f0 := fr (j := 0) G9.out; have f1 := fr (j := 1) G9.out; have f2 := fr (j := 2) G9.out; clear hb))
              · skip
                obtain ⟨W5, hW5⟩ : ∃ x, x = w4.alloc (.cells #[.int .i64 S5, .int .i64 R5, .int .i64 C5] 23) := ⟨_, rfl⟩
                have E5 : Hid (LI w g gw gl s r c s' r' c' W5) := by rw [hW5]; exact E4.out.alloc _
                have G5 : Hid (W5.heap[w4.heap.size]? = some (.cells #[.int .i64 S5, .int .i64 R5, .int .i64 C5] 23 (0, 0))) := by rw [hW5]; exact h1_0 _ _
                have H5 : Hid (W5.heap[g]? = some (.cells (pgC s' r' c') 23 (0, 0))) := by rw [hW5]; exact hold1 hs4.out _
                rw [← hW5]
                clear hW5 x0 x1 x2 d0 d1 d2
                by_cases he : X5 = 0
                · have he2 : (X5 == 0) = true := by simpa using he
                  have HN : Hid (chk S5 R5 C5 = 0 ∧ S5 ≠ 5 ∧ mu S5 R5 + (k + 1) ≤ r + 2) := by
                    have e0 : xE s' r' c' kk 0 = 0 := HX5.out.1.trans he
                    have h1 := chk_x hst.out.1 e0
                    rw [HX5.out.2.1, HX5.out.2.2.1, HX5.out.2.2.2] at h1
                    have h2 := mu_step (j := j) hst.out.1 hst.out.2.1 H6.out hj3 hx.out.1 hx.out.2.1 (by rw [← HK.out]; exact e0)
                    rw [← HK.out, HX5.out.2.1, HX5.out.2.2.1] at h2
                    exact ⟨h1, h2.1, by have := hst.out.2.2; have := h2.2; omega⟩
                  clear he
                  obtain ⟨v0, v1, v2⟩ := c3 G5.out
                  go_wp2_with (((with_reducible refine st23 (.tmp 5) (.tmp 162) ?az0 ?bz0 g S5 R5 C5 #[.int .i64 s', .int .i64 r', .int .i64 c'] ?cz0 ?dz0 ?ez0 23 ?fz0 ?_); (case az0 => rfl); (case bz0 => rfl); (case cz0 => rfl); (case dz0 => rfl); (case ez0 => rfl); (case fz0 => exact E5.out.1.1.1.1)))
                  go_roundw
                  case rel => exact ⟨k + 1, S5, R5, C5, by go_num, by omega, ⟨HN.out.1, HN.out.2.1, by have := HN.out.2.2; omega⟩, E5.out.1.set _ _ _⟩
                  case measure => simp [intOf]; omega
                · have he2 : (X5 == 0) = false := by simpa using he
                  have HN : Hid ((0 < j + 1 → xE s' r' c' 5 0 ≠ 0) ∧ (1 < j + 1 → xE s' r' c' 2 0 ≠ 0) ∧ (2 < j + 1 → xE s' r' c' 6 0 ≠ 0)) := by
                    have e0 : xE s' r' c' (kd j) 0 ≠ 0 := by rw [← HK.out, HX5.out.1]; exact he
                    exact tried hj3 hx.out e0
                  clear he
                  go_wp2_with fail
                  go_roundw
                  case rel => exact ⟨j + 1, by omega, by go_num, HN, E5⟩
                  case measure => simp [intOf]; omega
              · rw [set3 G9.out]
                obtain ⟨W5, hW5⟩ : ∃ x, x = w4.setRow (wr.heap.size + 1) #[.int .i64 S5, .int .i64 R5, .int .i64 C5] := ⟨_, rfl⟩
                have E5 : Hid (LI w g gw gl s r c s' r' c' W5) := by rw [hW5]; exact E4.out.far (by omega) _
                have G5 : Hid (W5.heap[(wr.heap.size + 1)]? = some (.cells #[.int .i64 S5, .int .i64 R5, .int .i64 C5] 23 (0, 0))) := by rw [hW5]; exact setRow_heap _ _ _ _ _ _ G9.out
                have H5 : Hid (W5.heap[g]? = some (.cells (pgC s' r' c') 23 (0, 0))) := by rw [hW5]; exact (setRow_other _ _ _ _ (by omega)).trans hs4.out
                rw [← hW5]
                clear hW5 x0 x1 x2 d0 d1 d2 y0 y1 y2 f0 f1 f2
                by_cases he : X5 = 0
                · have he2 : (X5 == 0) = true := by simpa using he
                  have HN : Hid (chk S5 R5 C5 = 0 ∧ S5 ≠ 5 ∧ mu S5 R5 + (k + 1) ≤ r + 2) := by
                    have e0 : xE s' r' c' kk 0 = 0 := HX5.out.1.trans he
                    have h1 := chk_x hst.out.1 e0
                    rw [HX5.out.2.1, HX5.out.2.2.1, HX5.out.2.2.2] at h1
                    have h2 := mu_step (j := j) hst.out.1 hst.out.2.1 H6.out hj3 hx.out.1 hx.out.2.1 (by rw [← HK.out]; exact e0)
                    rw [← HK.out, HX5.out.2.1, HX5.out.2.2.1] at h2
                    exact ⟨h1, h2.1, by have := hst.out.2.2; have := h2.2; omega⟩
                  clear he
                  obtain ⟨v0, v1, v2⟩ := c3 G5.out
                  go_wp2_with (((with_reducible refine st23 (.tmp 5) (.tmp 162) ?az1 ?bz1 g S5 R5 C5 #[.int .i64 s', .int .i64 r', .int .i64 c'] ?cz1 ?dz1 ?ez1 23 ?fz1 ?_); (case az1 => rfl); (case bz1 => rfl); (case cz1 => rfl); (case dz1 => rfl); (case ez1 => rfl); (case fz1 => exact E5.out.1.1.1.1)))
                  go_roundw
                  case rel => exact ⟨k + 1, S5, R5, C5, by go_num, by omega, ⟨HN.out.1, HN.out.2.1, by have := HN.out.2.2; omega⟩, E5.out.1.set _ _ _⟩
                  case measure => simp [intOf]; omega
                · have he2 : (X5 == 0) = false := by simpa using he
                  have HN : Hid ((0 < j + 1 → xE s' r' c' 5 0 ≠ 0) ∧ (1 < j + 1 → xE s' r' c' 2 0 ≠ 0) ∧ (2 < j + 1 → xE s' r' c' 6 0 ≠ 0)) := by
                    have e0 : xE s' r' c' (kd j) 0 ≠ 0 := by rw [← HK.out, HX5.out.1]; exact he
                    exact tried hj3 hx.out e0
                  clear he
                  go_wp2_with fail
                  go_roundw
                  case rel => exact ⟨j + 1, by omega, by go_num, HN, E5⟩
                  case measure => simp [intOf]; omega
              · rw [set3 G9.out]
                obtain ⟨W5, hW5⟩ : ∃ x, x = w4.setRow wr.heap.size #[.int .i64 S5, .int .i64 R5, .int .i64 C5] := ⟨_, rfl⟩
                have E5 : Hid (LI w g gw gl s r c s' r' c' W5) := by rw [hW5]; exact E4.out.far (by omega) _
                have G5 : Hid (W5.heap[wr.heap.size]? = some (.cells #[.int .i64 S5, .int .i64 R5, .int .i64 C5] 23 (0, 0))) := by rw [hW5]; exact setRow_heap _ _ _ _ _ _ G9.out
                have H5 : Hid (W5.heap[g]? = some (.cells (pgC s' r' c') 23 (0, 0))) := by rw [hW5]; exact (setRow_other _ _ _ _ (by omega)).trans hs4.out
                rw [← hW5]
                clear hW5 x0 x1 x2 d0 d1 d2 y0 y1 y2 f0 f1 f2
                by_cases he : X5 = 0
                · have he2 : (X5 == 0) = true := by simpa using he
                  have HN : Hid (chk S5 R5 C5 = 0 ∧ S5 ≠ 5 ∧ mu S5 R5 + (k + 1) ≤ r + 2) := by
                    have e0 : xE s' r' c' kk 0 = 0 := HX5.out.1.trans he
                    have h1 := chk_x hst.out.1 e0
                    rw [HX5.out.2.1, HX5.out.2.2.1, HX5.out.2.2.2] at h1
                    have h2 := mu_step (j := j) hst.out.1 hst.out.2.1 H6.out hj3 hx.out.1 hx.out.2.1 (by rw [← HK.out]; exact e0)
                    rw [← HK.out, HX5.out.2.1, HX5.out.2.2.1] at h2
                    exact ⟨h1, h2.1, by have := hst.out.2.2; have := h2.2; omega⟩
                  clear he
                  obtain ⟨v0, v1, v2⟩ := c3 G5.out
                  go_wp2_with (((with_reducible refine st23 (.tmp 5) (.tmp 162) ?az2 ?bz2 g S5 R5 C5 #[.int .i64 s', .int .i64 r', .int .i64 c'] ?cz2 ?dz2 ?ez2 23 ?fz2 ?_); (case az2 => rfl); (case bz2 => rfl); (case cz2 => rfl); (case dz2 => rfl); (case ez2 => rfl); (case fz2 => exact E5.out.1.1.1.1)))
                  go_roundw
                  case rel => exact ⟨k + 1, S5, R5, C5, by go_num, by omega, ⟨HN.out.1, HN.out.2.1, by have := HN.out.2.2; omega⟩, E5.out.1.set _ _ _⟩
                  case measure => simp [intOf]; omega
                · have he2 : (X5 == 0) = false := by simpa using he
                  have HN : Hid ((0 < j + 1 → xE s' r' c' 5 0 ≠ 0) ∧ (1 < j + 1 → xE s' r' c' 2 0 ≠ 0) ∧ (2 < j + 1 → xE s' r' c' 6 0 ≠ 0)) := by
                    have e0 : xE s' r' c' (kd j) 0 ≠ 0 := by rw [← HK.out, HX5.out.1]; exact he
                    exact tried hj3 hx.out e0
                  clear he
                  go_wp2_with fail
                  go_roundw
                  case rel => exact ⟨j + 1, by omega, by go_num, HN, E5⟩
                  case measure => simp [intOf]; omega
            · obtain rfl : j = 3 := by omega
              exact (some_ok hst.out.1 hst.out.2.1 H6.out (hx.out.1 (by omega)) (hx.out.2.1 (by omega)) (hx.out.2.2 (by omega))).elim
end Go.Proofs.YtcicgccllhkolaaDoor
