/- Helper facts for the statements of this seat; no statement itself. -/
import Derived.Test.YtfploaaelfjadaaJ
import Derived.Test.YtfploaaelfjadaaD
import Derived.Test.YtfploaaelfjadaaE
import Derived.Outline
namespace Go.Proofs.Ytfploaaelfjadaa
open Go.RowKit Go.Shelf
set_option linter.unusedSimpArgs false
set_option linter.unusedVariables false
set_option linter.unnecessarySimpa false
attribute [local go_sem] Oper.semAt_some

theorem size23 : (Try.prog.info? 23).map (·.size) = some 15 := by kernel_rfl
/-- What Steps and Plan give. -/
def spL (t : T) : Int := if chk t = 0 then (stpL t : Int) else 0
def plE (t : T) (n : Int) : Int := if chk t = 0 then (if 0 ≤ n ∧ n ≤ 1000 then 0 else 2) else chk t
def plL (t : T) (n : Int) : List Int := if chk t = 0 ∧ 0 ≤ n ∧ n ≤ 1000 then planL t n.toNat else []
/-- What the box of Steps knows. -/
def StI (g : Nat) (w : World) (pre : List Int) (W : World) : Prop := W.heap[g]? = some (.cells #[.int .i64 pre.length] 3 (0, 0)) ∧ (∀ x, x ∈ pre → goes x = true) ∧ Below w.heap.size w W
def StX (g : Nat) (w : World) (c : Code) (pre : List Int) (W : World) : Prop := c = .exit 0 ∧ W.heap[g]? = some (.cells #[.int .i64 (pre.dropLast.length : Int)] 3 (0, 0)) ∧ (∃ q x, pre = q ++ [x] ∧ goes x = false ∧ ∀ y, y ∈ q → goes y = true) ∧ Below w.heap.size w W

theorem plan_prefix (t : T) (k : Nat) (h : ∀ j, j < k → dir (stK t j) ≠ 6) (n : Nat) (hn : k < n) : ∃ r, planL t n = upL t (k + 1) ++ r := by
  induction n with
  | zero => omega
  | succ n ih =>
    by_cases e : k = n
    · subst e
      refine ⟨[], ?_⟩
      unfold planL
      rw [planL_up h, upL_succ, if_neg, List.append_nil]
      cases k with
      | zero => simp [upL]
      | succ k => rw [upL_succ]; simp; exact h k (by omega)
    · obtain ⟨r, hr⟩ := ih (by omega)
      unfold planL
      split
      · exact ⟨r, hr⟩
      · exact ⟨r ++ [dir (stK t n)], by rw [hr, List.append_assoc]⟩
theorem steps_stop {t : T} {k : Nat} {q : List Int} {x : Int} (hk : k < 1000) (h6 : ∀ j, j < k → dir (stK t j) ≠ 6) (hp : q ++ [x] = upL t (k + 1)) (hx : goes x = false) (hq : ∀ y, y ∈ q → goes y = true) : stpL t = q.length := by
  obtain ⟨r, hr⟩ := plan_prefix t k h6 1000 hk
  unfold stpL
  rw [hr, ← hp]
  refine takeWhile_stop (fun j hj => ?_) (by simp) (.inr ?_)
  · rw [show (q ++ [x] ++ r).getD j 5 = q.getD j 5 by simp [List.getD, List.getElem?_append, hj, Nat.lt_succ_of_lt hj]]
    exact hq _ (by simp [List.getD, hj])
  · simp [List.getD, List.getElem?_append, hx]
set_option maxRecDepth 100000 in
set_option maxHeartbeats 2000000 in
theorem steps_good (t : T) (w : World) (h : W64 t) (hc : chk t = 0) : Calls Try.prog 27 #[TV t] w fun e w' => e = .returned (.tuple #[.int .i64 (stpL t), .int .i64 0]) ∧ Below w.heap.size w w' := by
  have HC := Lib.hid hc
  have HW := Lib.hid h
  clear h hc
  refine (callsIn_wide (n := 3)).1 ?_
  refine callsIn_of_wp_marks Try.func27 rfl trivial ?_ rfl
  simp only [Try.ntmps27, List.size_toArray, List.length_cons, List.length_nil, Nat.reduceAdd, Nat.reduceSub, Array.replicate_succ, Array.replicate_zero, List.push_toArray, List.append_toArray, List.nil_append, List.cons_append]
  gi_wp2_with fail
  refine ⟨trivial, ?_⟩
  refine (callsIn_wide.2 (check_any t _ HW.out)).mono ?_
  rintro e w1 ⟨rfl, hb⟩
  rw [HC.out]
  have H1 := Lib.hid (bfirst _ _ hb)
  clear hb
  have H2 : Hid ((w1.alloc (.cells #[.int .i64 0] 3)).heap[w.heap.size]? = some (.cells (tC t) 23 (0, 0))) := hold1 H1.out.1 _
  gi_wp2_with (((with_reducible refine load_rowIn ?c1 23 (.tmp 1) ?c2 w.heap.size ?c3 23 (tC t) _ H2.out Try.underlying23 ?c4 ?c5 ?_); (case c1 => rfl); (case c2 => rfl); (case c3 => rfl); (case c4 => rfl); (case c5 => exact size23)))
  refine ⟨trivial, ?_⟩
  refine (callsIn_wide.2 (plan_any t 1000 _)).mono ?_
  rintro e w2 ⟨rfl, rfl⟩
  gi_wp2_with fail
  obtain ⟨g, hg⟩ : ∃ x, x = w1.heap.size := ⟨_, rfl⟩
  obtain ⟨W0, hW0⟩ : ∃ x, x = ((w1.alloc (.cells #[.int .i64 0] 3)).alloc (.cells (tC t) 46)).alloc (.cells #[.int .i64 1000] 3) := ⟨_, rfl⟩
  have R0 : Hid (W0.heap[g]? = some (.cells #[.int .i64 0] 3 (0, 0))) := by rw [hW0, hg]; exact h3_0 _ _ _ _
  have T0 : Hid (W0.heap[g + 1]? = some (.cells (tC t) 46 (0, 0))) := by rw [hW0, hg]; exact h3_1 _ _ _ _
  have N0 : Hid (W0.heap[g + 1 + 1]? = some (.cells #[.int .i64 1000] 3 (0, 0))) := by rw [hW0, hg]; exact h3_2 _ _ _ _
  have B0 : Hid (Below w.heap.size w W0) := by rw [hW0]; exact balloc (balloc (balloc H1.out.2 _) _) _
  have hgw : w.heap.size ≤ g := by have := H1.out.2.size; omega
  have hgs : g < W0.heap.size := lt_of_some R0.out
  rw [← hW0, ← hg]
  clear hW0 hg H1 H2
  refine range_c (F := Fence.wide) (ty := 46) rfl (by omega) (gf := 59) (lb := #[.pointer (some ⟨g + 1, 0, none⟩), .pointer (some ⟨g + 1 + 1, 0, none⟩)]) rfl trivial (enters_of Try.func59 (by kernel_rfl) rfl)
    (plan_stops 2 (by omega) (g + 1) (g + 1 + 1) 1000 w.heap.size t (chk_ok HC.out) (by omega) W0 B0.out.size T0.out N0.out) (abR_pure _) (abR_pure _) (fun _ => rfl)
    (StI g w) (StX g w)
    (AbR.and (abR_cells _ _) (AbR.and (abR_pure _) (abR_below B0.out.size w)))
    (fun c => AbR.and (abR_pure _) (AbR.and (abR_cells _ _) (AbR.and (abR_pure _) (abR_below B0.out.size w))))
    (AbC.and (abC_heap (by decide) _ _) (AbC.and (abC_pure _) (abC_below (Nat.le_refl _) w (Nat.le_refl _))))
    (fun c => AbC.and (abC_pure _) (AbC.and (abC_heap (by decide) _ _) (AbC.and (abC_pure _) (abC_below (Nat.le_refl _) w (Nat.le_refl _)))))
    ⟨R0.out, (fun x hx => by cases hx), B0.out⟩
    (fun x => { tmps := #[TV t, .pointer (some ⟨w.heap.size, 0, none⟩), .int .i64 0, .int .i64 0, .int .i64 0, .pointer (some ⟨g, 0, none⟩), .int .i64 x, TV t, .int .i64 0, .int .i64 0, .bool false, undef, TV t, .func (.func 59) #[] #[.pointer (some ⟨g + 1, 0, none⟩), .pointer (some ⟨g + 1 + 1, 0, none⟩)], .int .i64 x, undef, undef, undef, undef, undef, undef, undef, undef, undef], defers := [] }) ?assign ?body ?done ?stop
  case assign =>
    intro l x W K hK
    gi_wp2
    exact hK
  case body =>
    rintro l pre x W ⟨hr, hp, hB⟩ hlt
    have HR := Lib.hid hr
    have HP := Lib.hid hp
    have c0 : W.cell? ⟨g, 0, none⟩ = some (.int .i64 pre.length) := setRow_cell hr rfl
    have f0 := fr (j := 0) hr
    clear hr hp
    by_cases h5 : goes x = true
    · have H5 := Lib.hid h5
      have e5 : (x == 5) = false := by simp [goes] at h5; simpa using h5.1
      have e6 : (x == 6) = false := by simp [goes] at h5; simpa using h5.2
      clear h5
      gi_wp2
      refine ⟨(KeepsOthers.setCell _ _ _).from _, fun k cs fz hk => (heap_setCell_other _ _ _ _ ?_).trans hk, ?_, ?_, hB.setCell (by simp only []; omega) _⟩
      · intro e
        simp only [] at e
        subst e
        rw [HR.out] at hk
        cases hk
      · rw [setCell_eq_setRow W g 0 _ 3 (0, 0) _ HR.out]
        have := setRow_heap W g _ (#[Value.int .i64 (pre.length : Int)].setIfInBounds 0 (.int .i64 ((pre.length : Int) + 1))) 3 (0, 0) HR.out
        rw [this]
        simp
      · intro y hy
        rw [List.mem_append, List.mem_singleton] at hy
        rcases hy with hy | rfl
        · exact HP.out y hy
        · exact H5.out
    · have H5 : Hid (goes x = false) := by show _ = _; simpa using h5
      have e5 : (x == 5) = true ∨ ((x == 5) = false ∧ (x == 6) = true) := by
        simp [goes] at h5
        by_cases e : x = 5
        · left; simpa using e
        · right; exact ⟨by simpa using e, by simpa using h5 e⟩
      clear h5
      have fin : Hid (StX g w (.exit 0) (pre ++ [x]) W) := ⟨rfl, by rw [HR.out]; simp, ⟨pre, x, rfl, H5.out, HP.out⟩, hB⟩
      rcases e5 with e5 | ⟨e5, e6⟩
      · gi_wp2
        exact ⟨(KeepsOthers.refl _).from _, fin.out⟩
      · gi_wp2
        exact ⟨(KeepsOthers.refl _).from _, fin.out⟩
  case done =>
    rintro D ys W hD rfl ⟨hr, hp, hB⟩ hK
    have HR := Lib.hid hr
    have c0 : W.cell? ⟨g, 0, none⟩ = some (.int .i64 (planL t 1000).length) := setRow_cell hr rfl
    have HE : Hid (stpL t = (planL t 1000).length) := takeWhile_stop (fun j hj => hp _ (by simp [List.getD, hj])) (Nat.le_refl _) (.inl rfl)
    clear hr hp
    gi_wp2
    refine ⟨by simp, .inl ⟨_, _, rfl, run_takeDeferred hK, ?_⟩⟩
    exact ⟨_, results_tmp2 rfl _ _ _, by rw [HE.out]; rfl, hB.trans (belowK_b (w := W0) B0.out.size W D _ _ hD hK rfl rfl)⟩
  case stop =>
    rintro D c pre W hD ⟨k, hk, hpre, hp6⟩ ⟨rfl, hr, ⟨q, x, rfl, hx, hq⟩, hB⟩ hK
    rw [List.dropLast_concat] at hr
    have c0 : W.cell? ⟨g, 0, none⟩ = some (.int .i64 q.length) := setRow_cell hr rfl
    have HE : Hid (stpL t = q.length) := steps_stop hk hp6 hpre hx hq
    clear hr
    gi_wp2
    refine ⟨by simp, .inl ⟨_, _, rfl, run_takeDeferred hK, ?_⟩⟩
    exact ⟨_, results_tmp2 rfl _ _ _, by rw [HE.out]; rfl, hB.trans (belowK_b (w := W0) B0.out.size W D _ _ hD hK rfl rfl)⟩
end Go.Proofs.Ytfploaaelfjadaa
