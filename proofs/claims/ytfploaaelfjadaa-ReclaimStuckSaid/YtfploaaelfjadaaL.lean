/- Helper facts for the statements of this seat; no statement itself. -/
import Derived.Test.YtfploaaelfjadaaK
import Derived.Test.YtfploaaelfjadaaComT
import Derived.Outline
namespace Go.Proofs.Ytfploaaelfjadaa
open Go.RowKit Go.Shelf
set_option linter.unusedSimpArgs false
set_option linter.unusedVariables false
set_option linter.unnecessarySimpa false
attribute [local go_sem] Oper.semAt_some

/-- What the box of Plan knows. -/
def PlI (g b : Nat) (w : World) (pre : List Int) (W : World) : Prop := BoxI W g 28 b pre ∧ b ≤ W.heap.size ∧ Below w.heap.size w W
def Planned (t : T) (n : Int) (w : World) (e : Ending) (w' : World) : Prop := ∃ v, e = .returned (.tuple #[v, .int .i64 (plE t n)]) ∧ IsInts w' v (plL t n) ∧ Below w.heap.size w w'

set_option maxRecDepth 100000 in
set_option maxHeartbeats 2000000 in
theorem plan_good (t : T) (N : Nat) (w : World) (h : W64 t) (hc : chk t = 0) (hN : N ≤ 1000) : Calls Try.prog 25 #[TV t, .int .i64 N] w (Planned t N w) := by
  have HC := Lib.hid hc
  have HW := Lib.hid h
  have HE : Hid (plE t N = 0 ∧ plL t N = planL t N) := ⟨by unfold plE; rw [if_pos hc, if_pos (by omega)], by unfold plL; rw [if_pos ⟨hc, by omega⟩]; rfl⟩
  clear h hc
  refine (callsIn_wide (n := 3)).1 ?_
  have d1 : decide ((N : Int) < 0) = false := decide_eq_false (by omega)
  have d2 : decide (1000 < (N : Int)) = false := decide_eq_false (by omega)
  have d3 : (N : Int) ≤ 1000 := by omega
  refine callsIn_of_wp_marks Try.func25 rfl trivial ?_ rfl
  simp only [Try.ntmps25, List.size_toArray, List.length_cons, List.length_nil, Nat.reduceAdd, Nat.reduceSub, Array.replicate_succ, Array.replicate_zero, List.push_toArray, List.append_toArray, List.nil_append, List.cons_append]
  gi_wp2_with fail
  refine ⟨trivial, ?_⟩
  refine (callsIn_wide.2 (check_any t _ HW.out)).mono ?_
  rintro e w1 ⟨rfl, hb⟩
  rw [HC.out]
  have H1 := Lib.hid (bfirst _ _ hb)
  clear hb
  have H2 : Hid ((w1.alloc (.cells #[.slice none 0 0] 28)).heap[w.heap.size]? = some (.cells (tC t) 23 (0, 0))) := hold1 H1.out.1 _
  gi_wp2_with (((with_reducible refine load_rowIn ?c1 23 (.tmp 2) ?c2 w.heap.size ?c3 23 (tC t) _ H2.out Try.underlying23 ?c4 ?c5 ?_); (case c1 => rfl); (case c2 => rfl); (case c3 => rfl); (case c4 => rfl); (case c5 => exact size23)))
  refine ⟨trivial, ?_⟩
  refine (callsIn_wide.2 (plan_any t N _)).mono ?_
  rintro e w2 ⟨rfl, rfl⟩
  gi_wp2_with fail
  obtain ⟨g, hg⟩ : ∃ x, x = w1.heap.size := ⟨_, rfl⟩
  obtain ⟨W0, hW0⟩ : ∃ x, x = ((w1.alloc (.cells #[.slice none 0 0] 28)).alloc (.cells (tC t) 46)).alloc (.cells #[.int .i64 N] 3) := ⟨_, rfl⟩
  have R0 : Hid (W0.heap[g]? = some (.cells #[.slice none 0 0] 28 (0, 0))) := by rw [hW0, hg]; exact h3_0 _ _ _ _
  have T0 : Hid (W0.heap[g + 1]? = some (.cells (tC t) 46 (0, 0))) := by rw [hW0, hg]; exact h3_1 _ _ _ _
  have N0 : Hid (W0.heap[g + 1 + 1]? = some (.cells #[.int .i64 N] 3 (0, 0))) := by rw [hW0, hg]; exact h3_2 _ _ _ _
  have B0 : Hid (Below w.heap.size w W0) := by rw [hW0]; exact balloc (balloc (balloc H1.out.2 _) _) _
  have hgw : w.heap.size ≤ g := by have := H1.out.2.size; omega
  have hgs : g < W0.heap.size := lt_of_some R0.out
  rw [← hW0, ← hg]
  clear hW0 hg H1 H2 d1 d2
  refine range_c (F := Fence.wide) (ty := 46) rfl (by omega) (gf := 59) (lb := #[.pointer (some ⟨g + 1, 0, none⟩), .pointer (some ⟨g + 1 + 1, 0, none⟩)]) rfl trivial (enters_of Try.func59 (by kernel_rfl) rfl)
    (plan_stops 2 (by omega) (g + 1) (g + 1 + 1) N w.heap.size t (chk_ok HC.out) (by omega) W0 B0.out.size T0.out N0.out) (abR_pure _) (abR_pure _) (fun _ => rfl)
    (PlI g W0.heap.size w) (fun _ _ _ => False)
    (AbR.and (abR_boxI _ _ _) (AbR.and (fun _ W l o o' hs _ _ _ => by simpa using hs) (abR_below B0.out.size w)))
    (fun c => fun _ _ _ _ _ hs _ _ _ => hs)
    (AbC.and (abC_boxI (by decide) (by decide) _ _ _) (AbC.and (fun _ W W' _ hs hg _ => Nat.le_trans hs hg.size) (abC_below (Nat.le_refl _) w (Nat.le_refl _))))
    (fun c => fun _ _ _ _ hs _ _ => hs)
    ⟨⟨_, R0.out, Own.nil _ _⟩, Nat.le_refl _, B0.out⟩
    (fun x => { tmps := #[TV t, .int .i64 N, .pointer (some ⟨w.heap.size, 0, none⟩), undef, .slice none 0 0, .int .i64 0, .int .i64 0, .pointer (some ⟨g, 0, none⟩), .int .i64 x, TV t, .int .i64 0, .int .i64 0, .bool false, undef, .int .i64 N, .bool false, .bool false, .int .i64 N, .bool false, .bool false, TV t, .int .i64 N, .func (.func 59) #[] #[.pointer (some ⟨g + 1, 0, none⟩), .pointer (some ⟨g + 1 + 1, 0, none⟩)], .int .i64 x, undef, undef, undef, undef, undef], defers := [] }) ?assign ?body ?done ?stop
  case assign =>
    intro l x W K hK
    gi_wp2
    exact hK
  case body =>
    rintro l pre x W ⟨⟨v, hv, ho⟩, hz, hB⟩ hlt
    have HV := Lib.hid hv
    have HO := Lib.hid ho
    have c0 : W.cell? ⟨g, 0, none⟩ = some v := setRow_cell hv rfl
    clear hv ho
    gi_wp2_with (((with_reducible refine append_intIn ?b1 (.tmp 24) (.tmp 26) ?b2 W0.heap.size v pre x 3 ?b3 ?b4 HO ?b5 ?b6 ?_); (case b1 => rfl); (case b2 => rfl); (case b3 => rfl); (case b4 => rfl); (case b5 => omega); (case b6 => omega)); rintro v' w4 ho4 hk4 hb4 ⟨g', cap', rfl⟩; have hv4 := Lib.hid (hk4.out.heap HV.out (by decide)); have c4 : w4.cell? ⟨g, 0, none⟩ = some v := setRow_cell hv4.out rfl; have f4 := fr (j := 0) hv4.out)
    refine ⟨(hk4.out.others.trans (KeepsOthers.setCell _ _ _)).from _, (hk4.out.kt 46 (by decide)).trans (kt_setCell hv4.out 46 (by decide) _ _), box_store hv4.out (by decide) ho4.out, by have := hb4.out.size; simp; omega, (hB.trans (hb4.out.mono (by omega))).setCell (by simp only []; omega) _⟩
  case done =>
    rintro D ys W hD rfl ⟨⟨v, hv, ho⟩, hz, hB⟩ hK
    have HV := Lib.hid hv
    have HO := Lib.hid ho
    have c0 : W.cell? ⟨g, 0, none⟩ = some v := setRow_cell hv rfl
    clear hv ho
    gi_wp2
    refine ⟨by simp, .inl ⟨_, _, rfl, run_takeDeferred hK, ?_⟩⟩
    refine ⟨_, results_tmp2 rfl _ _ _, v, by rw [HE.out.1]; rfl, ?_, hB.trans (belowK_b (w := W0) B0.out.size W D _ _ hD hK rfl rfl)⟩
    rw [HE.out.2]
    have hx : Own (W.putObj D (.deferred none)) W0.heap.size v (planL t N) := ownsRow_putObj HO.out _ hK rfl
    exact hx.ints (by have := planL_len t N; omega)
  case stop =>
    rintro D c pre W _ _ h _
    exact h.elim

set_option maxRecDepth 100000 in
set_option maxHeartbeats 1000000 in
theorem plan_bad1 (t : T) (n : Int) (w : World) (h : W64 t) (hc : chk t ≠ 0) : Calls Try.prog 25 #[TV t, .int .i64 n] w (Planned t n w) := by
  have HE : Hid (plE t n = chk t ∧ plL t n = []) := ⟨by unfold plE; rw [if_neg hc], by unfold plL; rw [if_neg (fun h => hc h.1)]⟩
  have hz : (chk t != 0) = true := by simpa using hc
  have HW := Lib.hid h
  clear h hc
  refine (callsIn_wide (n := 3)).1 ?_
  refine callsIn_of_wp_marks Try.func25 rfl trivial ?_ rfl
  simp only [Try.ntmps25, List.size_toArray, List.length_cons, List.length_nil, Nat.reduceAdd, Nat.reduceSub, Array.replicate_succ, Array.replicate_zero, List.push_toArray, List.append_toArray, List.nil_append, List.cons_append]
  gi_wp2_with fail
  refine ⟨trivial, ?_⟩
  refine (callsIn_wide.2 (check_any t _ HW.out)).mono ?_
  rintro e w1 ⟨rfl, hb⟩
  have H1 := Lib.hid (bfirst _ _ hb).2
  clear hb
  gi_wp2_with fail
  exact ⟨_, results_tmp2 rfl _ _ _, _, by rw [HE.out.1]; rfl, by rw [HE.out.2]; exact IsInts.nil _ _ _, H1.out⟩
set_option maxRecDepth 100000 in
set_option maxHeartbeats 1000000 in
theorem plan_bad2 (t : T) (n : Int) (w : World) (h : W64 t) (hc : chk t = 0) (hn : ¬ (0 ≤ n ∧ n ≤ 1000)) : Calls Try.prog 25 #[TV t, .int .i64 n] w (Planned t n w) := by
  have HE : Hid (plE t n = 2 ∧ plL t n = []) := ⟨by unfold plE; rw [if_pos hc, if_neg hn], by unfold plL; rw [if_neg (fun h => hn h.2)]⟩
  have HC := Lib.hid hc
  have HW := Lib.hid h
  clear h hc
  refine (callsIn_wide (n := 3)).1 ?_
  have hn2 : n < 0 ∨ (0 ≤ n ∧ 1000 < n) := by omega
  clear hn
  rcases hn2 with hn2 | ⟨hn1, hn2⟩
  all_goals
    refine callsIn_of_wp_marks Try.func25 rfl trivial ?_ rfl
    simp only [Try.ntmps25, List.size_toArray, List.length_cons, List.length_nil, Nat.reduceAdd, Nat.reduceSub, Array.replicate_succ, Array.replicate_zero, List.push_toArray, List.append_toArray, List.nil_append, List.cons_append]
    gi_wp2_with fail
    refine ⟨trivial, ?_⟩
    refine (callsIn_wide.2 (check_any t _ HW.out)).mono ?_
    rintro e w1 ⟨rfl, hb⟩
    rw [HC.out]
    have H1 := Lib.hid (bfirst _ _ hb).2
    clear hb
    gi_wp2_with fail
    exact ⟨_, results_tmp2 rfl _ _ _, _, by rw [HE.out.1]; rfl, by rw [HE.out.2]; exact IsInts.nil _ _ _, H1.out⟩
theorem pPlan_any (t : T) (n : Int) (w : World) (h : W64 t) : Calls Try.prog 25 #[TV t, .int .i64 n] w (Planned t n w) := by
  by_cases hc : chk t = 0
  · by_cases hn : 0 ≤ n ∧ n ≤ 1000
    · obtain ⟨N, rfl⟩ := Int.eq_ofNat_of_zero_le hn.1
      exact plan_good t N w h hc (by omega)
    · exact plan_bad2 t n w h hc hn
  · exact plan_bad1 t n w h hc
set_option maxRecDepth 100000 in
set_option maxHeartbeats 1000000 in
theorem steps_bad (t : T) (w : World) (h : W64 t) (hc : chk t ≠ 0) : Calls Try.prog 27 #[TV t] w fun e w' => e = .returned (.tuple #[.int .i64 0, .int .i64 (chk t)]) ∧ Below w.heap.size w w' := by
  have hz : (chk t != 0) = true := by simpa using hc
  have HW := Lib.hid h
  clear h hc
  refine (callsIn_wide (n := 3)).1 ?_
  refine callsIn_of_wp_marks Try.func27 rfl trivial ?_ rfl
  simp only [Try.ntmps27, List.size_toArray, List.length_cons, List.length_nil, Nat.reduceAdd, Nat.reduceSub, Array.replicate_succ, Array.replicate_zero, List.push_toArray, List.append_toArray, List.nil_append, List.cons_append]
  gi_wp2_with fail
  refine ⟨trivial, ?_⟩
  refine (callsIn_wide.2 (check_any t _ HW.out)).mono ?_
  rintro e w1 ⟨rfl, hb⟩
  have H1 := Lib.hid (bfirst _ _ hb).2
  clear hb
  gi_wp2_with fail
  exact ⟨_, results_tmp2 rfl _ _ _, rfl, H1.out⟩
theorem pSteps_any (t : T) (w : World) (h : W64 t) : Calls Try.prog 27 #[TV t] w fun e w' => e = .returned (.tuple #[.int .i64 (spL t), .int .i64 (chk t)]) ∧ Below w.heap.size w w' := by
  by_cases hc : chk t = 0
  · have e : spL t = (stpL t : Int) := if_pos hc
    rw [e, hc]
    exact steps_good t w h hc
  · have e : spL t = 0 := if_neg hc
    rw [e]
    exact steps_bad t w h hc
end Go.Proofs.Ytfploaaelfjadaa
