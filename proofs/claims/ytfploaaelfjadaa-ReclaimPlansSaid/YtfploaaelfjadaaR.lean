/- Helper facts for the statements of this seat; no statement itself. -/
import Derived.Test.YtfploaaelfjadaaRB
import Derived.Test.YtfploaaelfjadaaRC
import Derived.Test.YtfploaaelfjadaaN
import Derived.Laws.StructEq
import Derived.Outline
namespace Go.Proofs.Ytfploaaelfjadaa
open Go.RowKit
set_option linter.unusedSimpArgs false
set_option linter.unusedVariables false
set_option linter.unnecessarySimpa false

theorem und23 : Try.prog.underlying 23 = some (.struct (Try.prog.fieldsOf 23)) := by kernel_rfl
theorem stood23 : Try.prog.stoodInHeld 23 = false := by kernel_rfl
set_option maxRecDepth 100000 in
theorem eqT (t : T) (w : World) : Sem.run Try.prog (Op.equalIn 10000 23 (.agg (tC t)) (.agg (tC t))) w = .ok true w := by
  rw [run_equalIn_struct w 9999 23 _ _ und23 stood23]
  unfold Program.fieldsOf
  rw [Try.underlying23]
  simp [Op.eqFields, go_sem]

set_option maxRecDepth 100000 in
set_option maxHeartbeats 4000000 in
theorem reclaimPlans_walk (t : T) (st n : Int) (w : World) (h : W64 t) : Calls Try.prog 4 #[TV t, .int .i64 st, .int .i64 n] w fun e w' => e = .returned (.bool true) ∧ Below w.heap.size w w' := by
  have HW := Lib.hid h
  clear h
  have PA := Lib.hid (fun w => pAfter_any t st w HW.out)
  have QA := Lib.hid (fun w => rAfter_any t st w)
  have PP := Lib.hid (fun w => pPlan_any t n w HW.out)
  have QP := Lib.hid (fun w => rPlan_any t n w)
  have PS := Lib.hid (fun w => pSteps_any t w HW.out)
  have QS := Lib.hid (fun w => rSteps_any t w)
  unfold Planned at PP QP
  have hgd : Try.prog.eqGuardType Try.prog.depth 23 = false := by kernel_rfl
  generalize afE t st = r at *
  generalize afR t st = y at *
  generalize plE t n = p at *
  generalize plL t n = l at *
  generalize spL t = d at *
  generalize chk t = c at *
  have n2 : (r != r) = false := bne_self_eq_false r
  have n3 : (p == p) = true := beq_self_eq_true p
  have n4 : (d == d) = true := beq_self_eq_true d
  have n5 : (c == c) = true := beq_self_eq_true c
  have hq := eqT y
  go_enter Try.func4, Try.ntmps4
  go_wp2_with fail
  refine (PA.out _).mono ?_
  rintro e w1 ⟨rfl, hb⟩
  obtain ⟨g, hg⟩ : ∃ g, g = w.heap.size := ⟨_, rfl⟩
  have H1 : Hid (w1.heap[g]? = some (.cells (tC t) 23 (0, 0))) := by rw [hg]; exact (bfirst _ _ hb).1
  have B1 := Lib.hid (bfirst _ _ hb).2
  rw [← hg]
  clear hb hg
  have H1a : Hid ((w1.alloc (.cells (tC y) 23)).heap[g]? = some (.cells (tC t) 23 (0, 0))) := hold1 H1.out _
  go_wp2_with (first | ((with_reducible refine stTn ?a1 (.tmp 7) (.tmp 21) ?a2 y ?a3 ?a4 ?a5 ?_); (case a1 => rfl); (case a2 => rfl); (case a3 => rfl); (case a4 => rfl); (case a5 => rfl)) | ((with_reducible refine ldT ?b1 (.tmp 3) ?b2 g ?b3 t 23 H1a ?_); (case b1 => rfl); (case b2 => rfl); (case b3 => rfl)))
  refine (QA.out _).mono ?_
  rintro e w2 ⟨rfl, hb⟩
  have H2 : Hid (w2.heap[g]? = some (.cells (tC t) 23 (0, 0))) := bkeep hb H1a.out
  have Y2 : Hid (w2.heap[w1.heap.size]? = some (.cells (tC y) 23 (0, 0))) := bkeep hb (h1_0 _ _)
  have B2 : Hid (Below w.heap.size w w2) := btrans (balloc B1.out _) hb
  clear hb H1 H1a B1
  have H2a : Hid ((w2.alloc (.cells (tC y) 23)).heap[g]? = some (.cells (tC t) 23 (0, 0))) := hold1 H2.out _
  have Y2a : Hid ((w2.alloc (.cells (tC y) 23)).heap[w1.heap.size]? = some (.cells (tC y) 23 (0, 0))) := hold1 Y2.out _
  have Z2a : Hid ((w2.alloc (.cells (tC y) 23)).heap[w2.heap.size]? = some (.cells (tC y) 23 (0, 0))) := h1_0 _ _
  have B2a : Hid (Below w.heap.size w (w2.alloc (.cells (tC y) 23))) := balloc B2.out _
  go_wp2_with (first | ((with_reducible refine stTn ?c1 (.tmp 9) (.tmp 27) ?c2 y ?c3 ?c4 ?c5 ?_); (case c1 => rfl); (case c2 => rfl); (case c3 => rfl); (case c4 => rfl); (case c5 => rfl)) | ((with_reducible refine ldT ?d1 (.tmp 7) ?d2 w1.heap.size ?d3 y 23 Y2a ?_); (case d1 => rfl); (case d2 => rfl); (case d3 => rfl)) | ((with_reducible refine ldT ?e1 (.tmp 9) ?e2 w2.heap.size ?e3 y 23 Z2a ?_); (case e1 => rfl); (case e2 => rfl); (case e3 => rfl)) | ((with_reducible refine ldT ?f1 (.tmp 3) ?f2 g ?f3 t 23 H2a ?_); (case f1 => rfl); (case f2 => rfl); (case f3 => rfl)))
  refine (PP.out _).mono ?_
  generalize w2.alloc (.cells (tC y) 23) = W2 at *
  rintro e w3 ⟨v1, rfl, i1, hb⟩
  have H3 : Hid (w3.heap[g]? = some (.cells (tC t) 23 (0, 0))) := bkeep hb H2a.out
  have B3 : Hid (Below w.heap.size w w3) := btrans B2a.out hb
  have I1 := Lib.hid i1
  clear hb i1 H2a Y2a Z2a B2a H2 Y2 B2
  go_wp2_with (((with_reducible refine ldT ?g1 (.tmp 3) ?g2 g ?g3 t 23 H3 ?_); (case g1 => rfl); (case g2 => rfl); (case g3 => rfl)))
  refine (QP.out _).mono ?_
  rintro e w4 ⟨v2, rfl, i2, hb⟩
  have H4 : Hid (w4.heap[g]? = some (.cells (tC t) 23 (0, 0))) := bkeep hb H3.out
  have B4 : Hid (Below w.heap.size w w4) := btrans B3.out hb
  have I2 := Lib.hid (I1.out.keep hb)
  have J2 := Lib.hid i2
  clear hb i2 I1 H3 B3
  go_wp2_with (((with_reducible refine ldT ?h1 (.tmp 3) ?h2 g ?h3 t 23 H4 ?_); (case h1 => rfl); (case h2 => rfl); (case h3 => rfl)))
  refine (PS.out _).mono ?_
  rintro e w5 ⟨rfl, hb⟩
  have H5 : Hid (w5.heap[g]? = some (.cells (tC t) 23 (0, 0))) := bkeep hb H4.out
  have B5 : Hid (Below w.heap.size w w5) := btrans B4.out hb
  have I3 := Lib.hid (I2.out.keep hb)
  have J3 := Lib.hid (J2.out.keep hb)
  clear hb I2 J2 H4 B4
  go_wp2_with (((with_reducible refine ldT ?i1 (.tmp 3) ?i2 g ?i3 t 23 H5 ?_); (case i1 => rfl); (case i2 => rfl); (case i3 => rfl)))
  refine (QS.out _).mono ?_
  rintro e w6 ⟨rfl, hb⟩
  have B6 : Hid (Below w.heap.size w w6) := btrans B5.out hb
  have I4 := Lib.hid (I3.out.keep hb)
  have J4 := Lib.hid (J3.out.keep hb)
  clear hb I3 J3 H5 B5
  go_wp2_with fail
  refine (sameInts_any v1 v2 l l _ I4.out J4.out).mono ?_
  rintro e w7 ⟨rfl, hb⟩
  rw [beq_self_eq_true]
  have B7 : Hid (Below w.heap.size w w7) := btrans B6.out hb
  clear hb I4 J4 B6
  go_wp2_with fail
  refine (awake_any _).mono ?_
  rintro e w8 ⟨rfl, hb⟩
  have B8 : Hid (Below w.heap.size w w8) := btrans B7.out hb
  clear hb B7
  go_wp2_with fail
  go_ret
  exact ⟨rfl, B8.out⟩
end Go.Proofs.Ytfploaaelfjadaa
