/- Helper facts for the statements of this seat; no statement itself. -/
import Derived.Test.YtfploaaelfjadaaSB
import Derived.Test.YtfploaaelfjadaaH
import Derived.Outline
namespace Go.Proofs.Ytfploaaelfjadaa
open Go.RowKit
set_option linter.unusedSimpArgs false
set_option linter.unusedVariables false
set_option linter.unnecessarySimpa false

set_option maxRecDepth 100000 in
set_option maxHeartbeats 8000000 in
theorem reclaimKnown_walk (w : World) : Calls Try.prog 5 #[] w fun e w' => e = .returned (.bool true) ∧ Below w.heap.size w w' := by
  have K := Lib.hid kfacts
  have KP := Lib.hid kplans
  have KA := Lib.hid kafter
  have KA2 := Lib.hid kafter2
  have KW := Lib.hid kwakes
  have KT : Hid (skL shT = false ∧ chk shT = 0) := ⟨kstuck, shT_facts.1⟩
  have KS : Hid (spL kF = 4 ∧ chk kF = 0) := ⟨ksteps, K.out.2.2.2.1.1⟩
  have KH : Hid (hnL kY2 = [2, 4] ∧ chk kY2 = 0) := ⟨khind, K.out.2.2.2.2.2.2.2.1⟩
  go_enter Try.func5, Try.ntmps5
  go_wp2_with fail
  refine (shown_any _).mono ?_
  rintro e w1 ⟨rfl, hb⟩
  have B1 : Hid (Below w.heap.size w w1) := btrans (Below.refl _ _) hb
  clear hb
  go_wp2_with fail
  refine (pStuck_any shT _ (okS KT.out.2)).mono ?_
  rintro e w2 ⟨rfl, hb⟩
  rw [KT.out.1, KT.out.2]
  have B2 : Hid (Below w.heap.size w w2) := btrans B1.out hb
  clear hb
  clear B1
  go_wp2_with fail
  refine (shown_any _).mono ?_
  rintro e w3 ⟨rfl, hb⟩
  have B3 : Hid (Below w.heap.size w w3) := btrans B2.out hb
  clear hb
  clear B2
  go_wp2_with fail
  refine (shown_any _).mono ?_
  rintro e w4 ⟨rfl, hb⟩
  have B4 : Hid (Below w.heap.size w w4) := btrans B3.out hb
  clear hb
  clear B3
  go_wp2_with fail
  refine (shown_any _).mono ?_
  rintro e w5 ⟨rfl, hb⟩
  have B5 : Hid (Below w.heap.size w w5) := btrans B4.out hb
  clear hb
  clear B4
  go_wp2_with (first | ((with_reducible refine st3a ?s11 (.tmp 3) (.tmp 29) ?s12 shT ?s13 ?s14 ?s15 ?_); (case s11 => rfl); (case s12 => rfl); (case s13 => rfl); (case s14 => rfl); (case s15 => rfl)) | ((with_reducible refine st3b ?s21 (.tmp 4) (.tmp 30) ?s22 shT ?s23 ?s24 ?s25 ?_); (case s21 => rfl); (case s22 => rfl); (case s23 => rfl); (case s24 => rfl); (case s25 => rfl)) | ((with_reducible refine st3c ?s31 (.tmp 5) (.tmp 31) ?s32 shT ?s33 ?s34 ?s35 ?_); (case s31 => rfl); (case s32 => rfl); (case s33 => rfl); (case s34 => rfl); (case s35 => rfl)))
  refine (back_yes kA 2 _ K.out.1.1 K.out.1.2).mono ?_
  rintro e w6 ⟨rfl, hb⟩
  have B6 : Hid (Below w.heap.size w w6) := btrans (balloc (balloc (balloc B5.out _) _) _) hb
  have FB : Hid (w6.heap[(w5.heap.size + 1)]? = some (.cells (tC kB) 23 (0, 0))) := bkeep hb (h3_1 _ _ _ _)
  have FC : Hid (w6.heap[(w5.heap.size + 1 + 1)]? = some (.cells (tC kC) 23 (0, 0))) := bkeep hb (h3_2 _ _ _ _)
  clear hb
  clear B5
  obtain ⟨q0, q1, q2, q3, q4, q5, q6, q7, q8, q9, q10, q11, q12, q13, q14⟩ := t15 FB.out
  go_wp2_with fail
  refine (back_yes kB 3 _ K.out.2.1.1 K.out.2.1.2).mono ?_
  rintro e w7 ⟨rfl, hb⟩
  have B7 : Hid (Below w.heap.size w w7) := btrans B6.out hb
  have FBx : Hid (w7.heap[(w5.heap.size + 1)]? = some (.cells (tC kB) 23 (0, 0))) := bkeep hb FB.out
  clear FB
  have FB := FBx
  clear FBx
  have FCx : Hid (w7.heap[(w5.heap.size + 1 + 1)]? = some (.cells (tC kC) 23 (0, 0))) := bkeep hb FC.out
  clear FC
  have FC := FCx
  clear FCx
  clear hb
  clear B6
  clear q0 q1 q2 q3 q4 q5 q6 q7 q8 q9 q10 q11 q12 q13 q14
  clear FB
  obtain ⟨q0, q1, q2, q3, q4, q5, q6, q7, q8, q9, q10, q11, q12, q13, q14⟩ := t15 FC.out
  go_wp2_with fail
  refine (back_yes kC 1 _ K.out.2.2.1.1 K.out.2.2.1.2).mono ?_
  rintro e w8 ⟨rfl, hb⟩
  have B8 : Hid (Below w.heap.size w w8) := btrans B7.out hb
  have FCx : Hid (w8.heap[(w5.heap.size + 1 + 1)]? = some (.cells (tC kC) 23 (0, 0))) := bkeep hb FC.out
  clear FC
  have FC := FCx
  clear FCx
  clear hb
  clear B7
  clear q0 q1 q2 q3 q4 q5 q6 q7 q8 q9 q10 q11 q12 q13 q14
  clear FC
  go_wp2_with fail
  refine (shown_any _).mono ?_
  rintro e w9 ⟨rfl, hb⟩
  have B9 : Hid (Below w.heap.size w w9) := btrans B8.out hb
  clear hb
  clear B8
  go_wp2_with (((with_reducible refine stTn ?s41 (.tmp 7) (.tmp 48) ?s42 shT ?s43 ?s44 ?s45 ?_); (case s41 => rfl); (case s42 => rfl); (case s43 => rfl); (case s44 => rfl); (case s45 => rfl)))
  refine (pSteps_any kF _ (okS KS.out.2)).mono ?_
  rintro e w10 ⟨rfl, hb⟩
  rw [KS.out.1, KS.out.2]
  have B10 : Hid (Below w.heap.size w w10) := btrans (balloc B9.out _) hb
  have FF : Hid (w10.heap[w9.heap.size]? = some (.cells (tC kF) 23 (0, 0))) := bkeep hb (h1_0 _ _)
  clear hb
  clear B9
  go_wp2_with fail
  refine (shown_any _).mono ?_
  rintro e w11 ⟨rfl, hb⟩
  have B11 : Hid (Below w.heap.size w w11) := btrans B10.out hb
  have FFx : Hid (w11.heap[w9.heap.size]? = some (.cells (tC kF) 23 (0, 0))) := bkeep hb FF.out
  clear FF
  have FF := FFx
  clear FFx
  clear hb
  clear B10
  go_wp2_with fail
  refine (plans_yes shT _ 4 4 [4, 4, 5, 5] _ KT.out.2 rfl (by omega) KP.out.1 ?p1).mono ?_
  case p1 => exact isIntsL [4, 4, 5, 5] (by decide) (h1_0 _ _)
  rintro e w12 ⟨rfl, hb⟩
  have B12 : Hid (Below w.heap.size w w12) := btrans (balloc B11.out _) hb
  have FFx : Hid (w12.heap[w9.heap.size]? = some (.cells (tC kF) 23 (0, 0))) := bkeep (btrans (balloc (Below.refl _ _) _) hb) FF.out
  clear FF
  have FF := FFx
  clear FFx
  clear hb
  clear B11
  obtain ⟨q0, q1, q2, q3, q4, q5, q6, q7, q8, q9, q10, q11, q12, q13, q14⟩ := t15 FF.out
  go_wp2_with fail
  refine (plans_yes kF _ 3 3 [1, 1, 4] _ KS.out.2 rfl (by omega) KP.out.2 ?p2).mono ?_
  case p2 => exact isIntsL [1, 1, 4] (by decide) (h1_0 _ _)
  rintro e w13 ⟨rfl, hb⟩
  have B13 : Hid (Below w.heap.size w w13) := btrans (balloc B12.out _) hb
  have FFx : Hid (w13.heap[w9.heap.size]? = some (.cells (tC kF) 23 (0, 0))) := bkeep (btrans (balloc (Below.refl _ _) _) hb) FF.out
  clear FF
  have FF := FFx
  clear FFx
  clear hb
  clear B12
  clear q0 q1 q2 q3 q4 q5 q6 q7 q8 q9 q10 q11 q12 q13 q14
  clear FF
  go_wp2_with fail
  refine (shown_any _).mono ?_
  rintro e w14 ⟨rfl, hb⟩
  have B14 : Hid (Below w.heap.size w w14) := btrans B13.out hb
  clear hb
  clear B13
  go_wp2_with fail
  refine (shown_any _).mono ?_
  rintro e w15 ⟨rfl, hb⟩
  have B15 : Hid (Below w.heap.size w w15) := btrans B14.out hb
  clear hb
  clear B14
  go_wp2_with fail
  refine (shown_any _).mono ?_
  rintro e w16 ⟨rfl, hb⟩
  have B16 : Hid (Below w.heap.size w w16) := btrans B15.out hb
  clear hb
  clear B15
  go_wp2_with (first | ((with_reducible refine st3a ?s51 (.tmp 11) (.tmp 71) ?s52 shT ?s53 ?s54 ?s55 ?_); (case s51 => rfl); (case s52 => rfl); (case s53 => rfl); (case s54 => rfl); (case s55 => rfl)) | ((with_reducible refine st3b ?s61 (.tmp 12) (.tmp 72) ?s62 shT ?s63 ?s64 ?s65 ?_); (case s61 => rfl); (case s62 => rfl); (case s63 => rfl); (case s64 => rfl); (case s65 => rfl)) | ((with_reducible refine st3c ?s71 (.tmp 13) (.tmp 73) ?s72 shT ?s73 ?s74 ?s75 ?_); (case s71 => rfl); (case s72 => rfl); (case s73 => rfl); (case s74 => rfl); (case s75 => rfl)))
  refine (direct_yes kX 6 _ K.out.2.2.2.2.1.1 K.out.2.2.2.2.1.2).mono ?_
  rintro e w17 ⟨rfl, hb⟩
  have B17 : Hid (Below w.heap.size w w17) := btrans (balloc (balloc (balloc B16.out _) _) _) hb
  have FY : Hid (w17.heap[(w16.heap.size + 1)]? = some (.cells (tC kY) 23 (0, 0))) := bkeep hb (h3_1 _ _ _ _)
  have FZ : Hid (w17.heap[(w16.heap.size + 1 + 1)]? = some (.cells (tC kZ) 23 (0, 0))) := bkeep hb (h3_2 _ _ _ _)
  have hgy : w.heap.size ≤ (w16.heap.size + 1) := by have := B16.out.size; omega
  clear hb
  clear B16
  obtain ⟨q0, q1, q2, q3, q4, q5, q6, q7, q8, q9, q10, q11, q12, q13, q14⟩ := t15 FY.out
  go_wp2_with fail
  refine (direct_yes kY 5 _ K.out.2.2.2.2.2.1.1 K.out.2.2.2.2.2.1.2).mono ?_
  rintro e w18 ⟨rfl, hb⟩
  have B18 : Hid (Below w.heap.size w w18) := btrans B17.out hb
  have FYx : Hid (w18.heap[(w16.heap.size + 1)]? = some (.cells (tC kY) 23 (0, 0))) := bkeep hb FY.out
  clear FY
  have FY := FYx
  clear FYx
  have FZx : Hid (w18.heap[(w16.heap.size + 1 + 1)]? = some (.cells (tC kZ) 23 (0, 0))) := bkeep hb FZ.out
  clear FZ
  have FZ := FZx
  clear FZx
  clear hb
  clear B17
  clear q0 q1 q2 q3 q4 q5 q6 q7 q8 q9 q10 q11 q12 q13 q14
  obtain ⟨q0, q1, q2, q3, q4, q5, q6, q7, q8, q9, q10, q11, q12, q13, q14⟩ := t15 FZ.out
  go_wp2_with fail
  refine (direct_yes kZ 5 _ K.out.2.2.2.2.2.2.1.1 K.out.2.2.2.2.2.2.1.2).mono ?_
  rintro e w19 ⟨rfl, hb⟩
  have B19 : Hid (Below w.heap.size w w19) := btrans B18.out hb
  have FYx : Hid (w19.heap[(w16.heap.size + 1)]? = some (.cells (tC kY) 23 (0, 0))) := bkeep hb FY.out
  clear FY
  have FY := FYx
  clear FYx
  have FZx : Hid (w19.heap[(w16.heap.size + 1 + 1)]? = some (.cells (tC kZ) 23 (0, 0))) := bkeep hb FZ.out
  clear FZ
  have FZ := FZx
  clear FZx
  clear hb
  clear B18
  clear q0 q1 q2 q3 q4 q5 q6 q7 q8 q9 q10 q11 q12 q13 q14
  clear FZ
  have qw : w19.cell? ⟨(w16.heap.size + 1), 10, none⟩ = some (.int .i64 1) := setRow_cell FY.out rfl
  have fw := fr (j := 10) FY.out
  go_upto_region 18 with fail
  have ew : w19.setCell ⟨(w16.heap.size + 1), 10, none⟩ (.int .i64 2) = w19.setRow (w16.heap.size + 1) (tC kY2) := by rw [setCell_eq_setRow w19 (w16.heap.size + 1) 10 _ 23 (0, 0) _ FY.out]; rfl
  rw [ew]
  have FY2 : Hid ((w19.setRow (w16.heap.size + 1) (tC kY2)).heap[(w16.heap.size + 1)]? = some (.cells (tC kY2) 23 (0, 0))) := setRow_heap _ _ _ _ _ _ FY.out
  have BY2 : Hid (Below w.heap.size w (w19.setRow (w16.heap.size + 1) (tC kY2))) := below_setRow B19.out hgy _
  clear ew qw fw FY
  generalize w19.setRow (w16.heap.size + 1) (tC kY2) = WY at *
  go_wp2_with (((with_reducible refine ldT ?l81 (.tmp 12) ?l82 (w16.heap.size + 1) ?l83 kY2 23 FY2 ?_); (case l81 => rfl); (case l82 => rfl); (case l83 => rfl)))
  refine (pHind_any kY2 _ (okS KH.out.2)).mono ?_
  rintro e w20 ⟨v, rfl, iv, hb⟩
  rw [KH.out.2]
  have B20 : Hid (Below w.heap.size w w20) := btrans BY2.out hb
  rw [KH.out.1] at iv
  have IV := Lib.hid iv
  clear iv
  clear hb
  clear B19
  clear FY2 BY2
  go_wp2_with fail
  refine (shown_any _).mono ?_
  rintro e w21 ⟨rfl, hb⟩
  have B21 : Hid (Below w.heap.size w w21) := btrans B20.out hb
  have IVx := Lib.hid (IV.out.keep hb)
  clear IV
  have IV := IVx
  clear IVx
  clear hb
  clear B20
  go_wp2_with fail
  refine (pAfter_any shT 4 _ (okS KT.out.2)).mono ?_
  rintro e w22 ⟨rfl, hb⟩
  rw [KA.out.1]
  have B22 : Hid (Below w.heap.size w w22) := btrans B21.out hb
  have IVx := Lib.hid (IV.out.keep hb)
  clear IV
  have IV := IVx
  clear IVx
  clear hb
  clear B21
  go_wp2_with (((with_reducible refine stTn ?s91 (.tmp 17) (.tmp 98) ?s92 (afR shT 4) ?s93 ?s94 ?s95 ?_); (case s91 => rfl); (case s92 => rfl); (case s93 => rfl); (case s94 => rfl); (case s95 => rfl)))
  refine (shown_any _).mono ?_
  rintro e w23 ⟨rfl, hb⟩
  have B23 : Hid (Below w.heap.size w w23) := btrans (balloc B22.out _) hb
  have IVx := Lib.hid (IV.out.keep (btrans (balloc (Below.refl _ _) _) hb))
  clear IV
  have IV := IVx
  clear IVx
  have FT : Hid (w23.heap[w22.heap.size]? = some (.cells (tC (afR shT 4)) 23 (0, 0))) := bkeep hb (h1_0 _ _)
  clear hb
  clear B22
  go_wp2_with fail
  refine (pAfter_any shT 1 _ (okS KT.out.2)).mono ?_
  rintro e w24 ⟨rfl, hb⟩
  rw [KA.out.2.1]
  have B24 : Hid (Below w.heap.size w w24) := btrans B23.out hb
  have FTx : Hid (w24.heap[w22.heap.size]? = some (.cells (tC (afR shT 4)) 23 (0, 0))) := bkeep hb FT.out
  clear FT
  have FT := FTx
  clear FTx
  have IVx := Lib.hid (IV.out.keep hb)
  clear IV
  have IV := IVx
  clear IVx
  clear hb
  clear B23
  go_wp2_with (((with_reducible refine stTn ?s101 (.tmp 19) (.tmp 103) ?s102 (afR shT 1) ?s103 ?s104 ?s105 ?_); (case s101 => rfl); (case s102 => rfl); (case s103 => rfl); (case s104 => rfl); (case s105 => rfl)))
  refine (shown_any _).mono ?_
  rintro e w25 ⟨rfl, hb⟩
  have B25 : Hid (Below w.heap.size w w25) := btrans (balloc B24.out _) hb
  have FTx : Hid (w25.heap[w22.heap.size]? = some (.cells (tC (afR shT 4)) 23 (0, 0))) := bkeep (btrans (balloc (Below.refl _ _) _) hb) FT.out
  clear FT
  have FT := FTx
  clear FTx
  have IVx := Lib.hid (IV.out.keep (btrans (balloc (Below.refl _ _) _) hb))
  clear IV
  have IV := IVx
  clear IVx
  clear hb
  clear B24
  go_wp2_with fail
  refine (pAfter_any shT 6 _ (okS KT.out.2)).mono ?_
  rintro e w26 ⟨rfl, hb⟩
  rw [KA.out.2.2]
  have B26 : Hid (Below w.heap.size w w26) := btrans B25.out hb
  have FTx : Hid (w26.heap[w22.heap.size]? = some (.cells (tC (afR shT 4)) 23 (0, 0))) := bkeep hb FT.out
  clear FT
  have FT := FTx
  clear FTx
  have IVx := Lib.hid (IV.out.keep hb)
  clear IV
  have IV := IVx
  clear IVx
  clear hb
  clear B25
  go_wp2_with (((with_reducible refine stTn ?s111 (.tmp 21) (.tmp 108) ?s112 (afR shT 6) ?s113 ?s114 ?s115 ?_); (case s111 => rfl); (case s112 => rfl); (case s113 => rfl); (case s114 => rfl); (case s115 => rfl)))
  refine (sameInts_any v _ [2, 4] [2, 4] _ (IV.out.keep (((Below.refl _ _).alloc (Nat.le_refl _) _).alloc (by simp only [World.size_alloc] <;> omega) _)) ?p3).mono ?_
  case p3 => exact isIntsL [2, 4] (by decide) (h2_1 _ _ _)
  rintro e w27 ⟨rfl, hb⟩
  have B27 : Hid (Below w.heap.size w w27) := btrans (balloc (balloc B26.out _) _) hb
  have FTx : Hid (w27.heap[w22.heap.size]? = some (.cells (tC (afR shT 4)) 23 (0, 0))) := bkeep (btrans (balloc (balloc (Below.refl _ _) _) _) hb) FT.out
  clear FT
  have FT := FTx
  clear FTx
  have IVx := Lib.hid (IV.out.keep (btrans (balloc (balloc (Below.refl _ _) _) _) hb))
  clear IV
  have IV := IVx
  clear IVx
  rw [beq_self_eq_true]
  clear hb
  clear B26
  clear IV
  obtain ⟨q0, q1, q2, q3, q4, q5, q6, q7, q8, q9, q10, q11, q12, q13, q14⟩ := t15 FT.out
  rw [KA2.out.1] at q7
  rw [KA2.out.2.1] at q13
  rw [KA2.out.2.2.1] at q14
  rw [KA2.out.2.2.2.1] at q10
  rw [KA2.out.2.2.2.2] at q6
  go_wp2_with fail
  refine (awake_any _).mono ?_
  rintro e w28 ⟨rfl, hb⟩
  have B28 : Hid (Below w.heap.size w w28) := btrans B27.out hb
  have FTx : Hid (w28.heap[w22.heap.size]? = some (.cells (tC (afR shT 4)) 23 (0, 0))) := bkeep hb FT.out
  clear FT
  have FT := FTx
  clear FTx
  clear hb
  clear B27
  clear q0 q1 q2 q3 q4 q5 q6 q7 q8 q9 q10 q11 q12 q13 q14
  clear FT
  go_wp2_with fail
  refine (wakes_yes 8 false false _ KW.out.1.1 KW.out.1.2).mono ?_
  rintro e w29 ⟨rfl, hb⟩
  have B29 : Hid (Below w.heap.size w w29) := btrans B28.out hb
  clear hb
  clear B28
  go_wp2_with fail
  refine (wakes_yes 8 true true _ KW.out.2.1.1 KW.out.2.1.2).mono ?_
  rintro e w30 ⟨rfl, hb⟩
  have B30 : Hid (Below w.heap.size w w30) := btrans B29.out hb
  clear hb
  clear B29
  go_wp2_with fail
  refine (wakes_yes 12 true false _ KW.out.2.2.1 KW.out.2.2.2).mono ?_
  rintro e w31 ⟨rfl, hb⟩
  have B31 : Hid (Below w.heap.size w w31) := btrans B30.out hb
  clear hb
  clear B30
  go_wp2_with fail
  go_ret
  exact ⟨rfl, B31.out⟩
end Go.Proofs.Ytfploaaelfjadaa
