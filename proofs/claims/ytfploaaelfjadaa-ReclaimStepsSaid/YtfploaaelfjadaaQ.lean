/- Helper facts for the statements of this seat; no statement itself. -/
import Derived.Test.YtfploaaelfjadaaN
import Derived.Test.YtfploaaelfjadaaH
import Derived.Deep.RegionHeld3
import Derived.Outline
namespace Go.Proofs.Ytfploaaelfjadaa
open Go.RowKit
set_option linter.unusedSimpArgs false
set_option linter.unusedVariables false
set_option linter.unnecessarySimpa false

set_option maxRecDepth 100000 in
set_option maxHeartbeats 4000000 in
theorem reclaimSteps_walk (t : T) (w : World) (h : W64 t) : Calls Try.prog 3 #[TV t] w fun e w' => e = .returned (.bool true) ∧ Below w.heap.size w w' := by
  have HW := Lib.hid h
  clear h
  obtain ⟨r, hr⟩ : ∃ r, r = chk t := ⟨_, rfl⟩
  obtain ⟨d, hd⟩ : ∃ d, d = drL t := ⟨_, rfl⟩
  obtain ⟨b, hbg⟩ : ∃ b, b = bgL t := ⟨_, rfl⟩
  obtain ⟨x, hx⟩ : ∃ x, x = wkL t := ⟨_, rfl⟩
  obtain ⟨u, hu⟩ : ∃ u, u = skL t := ⟨_, rfl⟩
  have HR := Lib.hid hr
  have HD := Lib.hid hd
  have HBG := Lib.hid hbg
  have HX := Lib.hid hx
  have HU := Lib.hid hu
  clear hr hd hbg hx hu
  have n1 : (d != d) = false := bne_self_eq_false d
  have n2 : (r != r) = false := bne_self_eq_false r
  have n3 : (b != b) = false := bne_self_eq_false b
  have n4 : (x == x) = true := beq_self_eq_true x
  have n5 : (u == u) = true := beq_self_eq_true u
  have n6 : (r == r) = true := beq_self_eq_true r
  go_enter Try.func3, Try.ntmps3
  go_wp2_with fail
  refine (pDirect_any t _ HW.out).mono ?_
  rintro e w1 ⟨rfl, hb⟩
  rw [← HD.out, ← HR.out]
  obtain ⟨g, hg⟩ : ∃ g, g = w.heap.size := ⟨_, rfl⟩
  have H1 : Hid (w1.heap[g]? = some (.cells (tC t) 23 (0, 0))) := by rw [hg]; exact (bfirst _ _ hb).1
  have B1 := Lib.hid (bfirst _ _ hb).2
  rw [← hg]
  clear hb hg
  go_wp2_with (((with_reducible refine ldT ?l11 (.tmp 1) ?l12 g ?l13 t 23 H1 ?_); (case l11 => rfl); (case l12 => rfl); (case l13 => rfl)))
  refine (rDirect_any t _).mono ?_
  rintro e w2 ⟨rfl, hb⟩
  rw [← HD.out, ← HR.out]
  have H2 : Hid (w2.heap[g]? = some (.cells (tC t) 23 (0, 0))) := bkeep hb H1.out
  have B2 : Hid (Below w.heap.size w w2) := btrans B1.out hb
  clear hb H1 B1
  have s0 := t15 H2.out
  go_wp2_with fail
  go_region_held3 (fun w' => w'.cell? ⟨g, 0, none⟩ = some (.int .i64 t.fr) ∧ w'.cell? ⟨g, 1, none⟩ = some (.int .i64 t.mn) ∧ w'.cell? ⟨g, 2, none⟩ = some (.int .i64 t.lo) ∧ w'.cell? ⟨g, 3, none⟩ = some (.int .i64 t.hi) ∧ w'.cell? ⟨g, 4, none⟩ = some (.bool t.aw) ∧ w'.cell? ⟨g, 5, none⟩ = some (.int .i64 t.ob) ∧ w'.cell? ⟨g, 6, none⟩ = some (.int .i64 t.ac) ∧ w'.cell? ⟨g, 7, none⟩ = some (.int .i64 t.ia) ∧ w'.cell? ⟨g, 8, none⟩ = some (.int .i64 t.tg) ∧ w'.cell? ⟨g, 9, none⟩ = some (.bool t.rf) ∧ w'.cell? ⟨g, 10, none⟩ = some (.int .i64 t.wr) ∧ w'.cell? ⟨g, 11, none⟩ = some (.int .i64 t.cp) ∧ w'.cell? ⟨g, 12, none⟩ = some (.int .i64 t.op) ∧ w'.cell? ⟨g, 13, none⟩ = some (.int .i64 t.rm) ∧ w'.cell? ⟨g, 14, none⟩ = some (.int .i64 t.sl))
    (first | exact s0 | exact s1 | exact s2)
    (first | (go_at_call 11; (with_reducible refine (check_any t w2.drew HW.out).mono ?_); rintro e w3 ⟨rfl, hb⟩; rw [← HR.out]; have H3 : Hid (w3.heap[g]? = some (.cells (tC t) 23 (0, 0))) := bkeep (wr := w2.drew) hb H2.out; have B3 : Hid (Below w.heap.size w w3) := btrans B2.out.drew hb; have s1 := t15 H3.out; clear hb) | (go_at_call 12; (with_reducible refine (refCheck_any t w3).mono ?_); rintro e w4 ⟨rfl, hb⟩; rw [← HR.out]; have H4 : Hid (w4.heap[g]? = some (.cells (tC t) 23 (0, 0))) := bkeep hb H3.out; have B4 : Hid (Below w.heap.size w w4) := btrans B3.out hb; have s2 := t15 H4.out; clear hb))
  clear s0 s1 s2 H2 H3 B2 B3
  go_wp2_with (((with_reducible refine ldT ?l41 (.tmp 1) ?l42 g ?l43 t 23 H4 ?_); (case l41 => rfl); (case l42 => rfl); (case l43 => rfl)))
  refine (pBack_any t _ HW.out).mono ?_
  rintro e w5 ⟨rfl, hb⟩
  rw [← HBG.out, ← HR.out]
  have H5 : Hid (w5.heap[g]? = some (.cells (tC t) 23 (0, 0))) := bkeep hb H4.out
  have B5 : Hid (Below w.heap.size w w5) := btrans B4.out hb
  clear hb H4 B4
  go_wp2_with (((with_reducible refine ldT ?l51 (.tmp 1) ?l52 g ?l53 t 23 H5 ?_); (case l51 => rfl); (case l52 => rfl); (case l53 => rfl)))
  refine (rBack_any t _).mono ?_
  rintro e w6 ⟨rfl, hb⟩
  rw [← HBG.out, ← HR.out]
  have H6 : Hid (w6.heap[g]? = some (.cells (tC t) 23 (0, 0))) := bkeep hb H5.out
  have B6 : Hid (Below w.heap.size w w6) := btrans B5.out hb
  clear hb H5 B5
  go_wp2_with (((with_reducible refine ldT ?l61 (.tmp 1) ?l62 g ?l63 t 23 H6 ?_); (case l61 => rfl); (case l62 => rfl); (case l63 => rfl)))
  refine (pHind_any t _ HW.out).mono ?_
  rintro e w7 ⟨v1, rfl, i1, hb⟩
  rw [← HR.out]
  have H7 : Hid (w7.heap[g]? = some (.cells (tC t) 23 (0, 0))) := bkeep hb H6.out
  have B7 : Hid (Below w.heap.size w w7) := btrans B6.out hb
  have I1 := Lib.hid i1
  clear i1
  clear hb H6 B6
  go_wp2_with (((with_reducible refine ldT ?l71 (.tmp 1) ?l72 g ?l73 t 23 H7 ?_); (case l71 => rfl); (case l72 => rfl); (case l73 => rfl)))
  refine (rHind_any t _).mono ?_
  rintro e w8 ⟨v2, rfl, i2, hb⟩
  rw [← HR.out]
  have H8 : Hid (w8.heap[g]? = some (.cells (tC t) 23 (0, 0))) := bkeep hb H7.out
  have B8 : Hid (Below w.heap.size w w8) := btrans B7.out hb
  have J1 := Lib.hid (I1.out.keep hb)
  have I2 := Lib.hid i2
  clear i2 I1
  clear hb H7 B7
  go_wp2_with fail
  refine (sameInts_any v1 v2 (hnL t) (hnL t) _ J1.out I2.out).mono ?_
  rintro e w9 ⟨rfl, hb⟩
  rw [beq_self_eq_true]
  have H9 : Hid (w9.heap[g]? = some (.cells (tC t) 23 (0, 0))) := bkeep hb H8.out
  have B9 : Hid (Below w.heap.size w w9) := btrans B8.out hb
  clear hb H8 B8 I2 J1
  go_wp2_with (((with_reducible refine ldT ?l91 (.tmp 1) ?l92 g ?l93 t 23 H9 ?_); (case l91 => rfl); (case l92 => rfl); (case l93 => rfl)))
  refine (pWakes_any t _ HW.out).mono ?_
  rintro e w10 ⟨rfl, hb⟩
  rw [← HX.out, ← HR.out]
  have H10 : Hid (w10.heap[g]? = some (.cells (tC t) 23 (0, 0))) := bkeep hb H9.out
  have B10 : Hid (Below w.heap.size w w10) := btrans B9.out hb
  clear hb H9 B9
  go_wp2_with (((with_reducible refine ldT ?l101 (.tmp 1) ?l102 g ?l103 t 23 H10 ?_); (case l101 => rfl); (case l102 => rfl); (case l103 => rfl)))
  refine (rWakes_any t _).mono ?_
  rintro e w11 ⟨rfl, hb⟩
  rw [← HX.out, ← HR.out]
  have H11 : Hid (w11.heap[g]? = some (.cells (tC t) 23 (0, 0))) := bkeep hb H10.out
  have B11 : Hid (Below w.heap.size w w11) := btrans B10.out hb
  clear hb H10 B10
  go_wp2_with (((with_reducible refine ldT ?l111 (.tmp 1) ?l112 g ?l113 t 23 H11 ?_); (case l111 => rfl); (case l112 => rfl); (case l113 => rfl)))
  refine (pStuck_any t _ HW.out).mono ?_
  rintro e w12 ⟨rfl, hb⟩
  rw [← HU.out, ← HR.out]
  have H12 : Hid (w12.heap[g]? = some (.cells (tC t) 23 (0, 0))) := bkeep hb H11.out
  have B12 : Hid (Below w.heap.size w w12) := btrans B11.out hb
  clear hb H11 B11
  go_wp2_with (((with_reducible refine ldT ?l121 (.tmp 1) ?l122 g ?l123 t 23 H12 ?_); (case l121 => rfl); (case l122 => rfl); (case l123 => rfl)))
  refine (rStuck_any t _).mono ?_
  rintro e w13 ⟨rfl, hb⟩
  rw [← HU.out, ← HR.out]
  have H13 : Hid (w13.heap[g]? = some (.cells (tC t) 23 (0, 0))) := bkeep hb H12.out
  have B13 : Hid (Below w.heap.size w w13) := btrans B12.out hb
  clear hb H12 B12
  go_wp2_with fail
  refine (awake_any _).mono ?_
  rintro e w14 ⟨rfl, hb⟩
  have B14 : Hid (Below w.heap.size w w14) := btrans B13.out hb
  clear hb
  go_wp2_with fail
  go_ret
  exact ⟨rfl, B14.out⟩
end Go.Proofs.Ytfploaaelfjadaa
