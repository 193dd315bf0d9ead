/- Helper facts for the statements of this seat; no statement itself. -/
import Derived.Test.YtfploaaelfjadaaComS
import Derived.Test.YtfploaaelfjadaaC
import Derived.Test.YtfploaaelfjadaaIA
import Derived.Outline
namespace Go.Proofs.Ytfploaaelfjadaa
open Go.RowKit Go.Shelf
set_option linter.unusedSimpArgs false
set_option linter.unusedVariables false
set_option linter.unnecessarySimpa false
attribute [local go_sem] Oper.semAt_some

theorem size46 : (Try.prog.info? 46).map (·.size) = some 15 := by kernel_rfl
theorem tC_one (t : T) : (tC t).all (·.oneCell') = true := by simp [tC, Value.oneCell']
/-- What may have come when a round says no more. -/
def PreP (t : T) (N : Nat) (pre : List Int) : Prop := ∃ k, k < N ∧ pre = upL t (k + 1) ∧ ∀ j, j < k → dir (stK t j) ≠ 6

set_option maxRecDepth 100000 in
set_option maxHeartbeats 2000000 in
theorem plan1_in (n : Nat) (hn : 1 ≤ n) (l Bt Bn N : Nat) (t : T) (hok : Ok t) (hN : N ≤ 1000) (J Jx : List Int → World → Prop) (B0 : Nat) (hJ : AbC B0 46 J)
    (hY : ∀ pre x W1, J pre W1 → pre.length < N → YieldAt Fence.wide (n - 1) Try.prog l #[.int .i64 x] W1 fun e W' => (e = .returned (.bool true) ∧ J (pre ++ [x]) W' ∧ KT 46 W1 W') ∨ (e = .returned (.bool false) ∧ Jx (pre ++ [x]) W'))
    (W : World) (hB0 : B0 ≤ W.heap.size) (hBt : W.heap[Bt]? = some (.cells (tC t) 46 (0, 0))) (hBn : W.cell? ⟨Bn, 0, none⟩ = some (.int .i64 N)) (h0 : J [] W) :
    CallsIn Fence.wide n Try.prog 59 #[.func (.yield l) #[] #[], .pointer (some ⟨Bt, 0, none⟩), .pointer (some ⟨Bn, 0, none⟩)] W fun e W' => (∃ v, e = .returned v) ∧
      ((∃ xs, xs = planL t N ∧ J xs W') ∨ (∃ pre, PreP t N pre ∧ Jx pre W')) := by
  have HT := Lib.hid hBt
  have HOK := Lib.hid hok
  clear hBt hok
  have hBn2 : (W.alloc (.cells (tC t) 46)).cell? ⟨Bn, 0, none⟩ = some (.int .i64 N) := cellA hBn _
  clear hBn
  refine callsIn_of_wp Try.func59 rfl trivial ?_ rfl
  simp only [Try.ntmps59, List.size_toArray, List.length_cons, List.length_nil, Nat.reduceAdd, Nat.reduceSub, Array.replicate_succ, Array.replicate_zero, List.push_toArray, List.append_toArray, List.nil_append, List.cons_append]
  gi_wp2_with (first | ((with_reducible refine load_rowIn ?a1 46 (.tmp 1) ?a2 Bt ?a3 46 (tC t) _ HT.out Try.underlying46 ?a4 ?a5 ?_); (case a1 => rfl); (case a2 => rfl); (case a3 => rfl); (case a4 => rfl); (case a5 => exact size46)) | ((with_reducible refine store_rowInN ?b1 46 (.tmp 4) (.tmp 6) ?b2 (tC t) ?b3 ?b4 46 _ ?b5 ?b6 ?b7 ?_); (case b1 => rfl); (case b2 => rfl); (case b3 => rfl); (case b4 => rfl); (case b5 => exact size46); (case b6 => rfl); (case b7 => exact tC_one t)))
  obtain ⟨B, hB⟩ : ∃ B, B = W.heap.size := ⟨_, rfl⟩
  have HX : Hid ((W.alloc (.cells (tC t) 46)).heap[B]? = some (.cells (tC t) 46 (0, 0))) := by rw [hB]; exact h1_0 _ _
  have HJ0 : Hid (J [] (W.alloc (.cells (tC t) 46))) := hJ.below h0 ((Below.refl _ _).alloc (Nat.le_refl _) _)
  rw [← hB]
  have hBB : B0 ≤ B := by omega
  clear hBn2 hB HT hB0
  generalize W.alloc (.cells (tC t) 46) = W1 at *
  gi_loopw [5, 8] (fun v i wr => ∃ k : Nat, k ≤ N ∧ i = .int .i64 k ∧ Hid (∀ j, j < k → dir (stK t j) ≠ 6) ∧ J (upL t k) wr ∧ Hid (wr.heap[B]? = some (.cells (tC (stK t k)) 46 (0, 0)))) (fun _ i _ => N - (intOf i).toNat)
  case atStart => exact ⟨0, Nat.zero_le _, rfl, fun j hj => by omega, HJ0, HX⟩
  case round =>
    obtain ⟨k, hk, rfl, hp, hJs, hx⟩ := hrel
    clear HX HJ0
    by_cases hlt : k < N
    · have HO := Lib.hid (ok_stK HOK.out k)
      gi_wp2_with (((with_reducible refine load_rowIn ?c1 46 (.tmp 4) ?c2 B ?c3 46 (tC (stK t k)) _ hx.out Try.underlying46 ?c4 ?c5 ?_); (case c1 => rfl); (case c2 => rfl); (case c3 => rfl); (case c4 => rfl); (case c5 => exact size46)))
      refine ⟨trivial, ?_⟩
      refine (callsIn_wide.2 (direct_any (stK t k) _)).mono ?_
      rintro e w3 ⟨rfl, hb⟩
      have hJ3 := hJ.below hJs hb
      have hx3 := Lib.hid (bkeep hb hx.out)
      clear hb hJs hx
      obtain ⟨fn, tmps, assign, body, hy, hR⟩ := hY _ (dir (stK t k)) w3 hJ3 (by rw [upL_len]; exact hlt)
      by_cases h6 : dir (stK t k) = 6
      · have H6 := Lib.hid h6
        have hz : (dir (stK t k) == 6) = true := by simpa using h6
        clear h6
        gi_wp2
        refine hR.mono ?_
        rintro e W4 (⟨rfl, hJ4, hk4⟩ | ⟨rfl, hJx4⟩)
        · gi_wp2
          refine bodyPost_ret (results_none rfl _ _ _) rfl ?_
          exact ⟨⟨_, rfl⟩, .inl ⟨_, by rw [planL_kill hp.out H6.out N hlt, upL_succ], hJ4⟩⟩
        · gi_wp2
          refine bodyPost_ret (results_none rfl _ _ _) rfl ?_
          exact ⟨⟨_, rfl⟩, .inr ⟨_, ⟨k, hlt, (upL_succ t k).symm, hp.out⟩, hJx4⟩⟩
      · have H6 := Lib.hid h6
        have hz : (dir (stK t k) == 6) = false := by simpa using h6
        clear h6
        gi_wp2
        refine hR.mono ?_
        rintro e W4 (⟨rfl, hJ4, hk4⟩ | ⟨rfl, hJx4⟩)
        · have hx4 := Lib.hid (hk4 _ _ _ hx3.out)
          clear hk4 hx3 hR hy hJ3
          gi_wp2_with (((with_reducible refine load_rowIn ?d1 46 (.tmp 4) ?d2 B ?d3 46 (tC (stK t k)) _ hx4.out Try.underlying46 ?d4 ?d5 ?_); (case d1 => rfl); (case d2 => rfl); (case d3 => rfl); (case d4 => rfl); (case d5 => exact size46)))
          refine ⟨trivial, ?_⟩
          refine (callsIn_wide.2 (after_any (stK t k) _ HO.out H6.out)).mono ?_
          rintro e w5 ⟨rfl, hb⟩
          have hJ5 := hJ.below hJ4 hb
          have hx5 := Lib.hid (bkeep hb hx4.out)
          clear hb hJ4 hx4
          gi_wp2_with (((with_reducible refine store_rowIn ?e1 46 (.tmp 4) (.tmp 22) ?e2 B (tC (stK t (k + 1))) ?e3 ?e4 46 (tC (stK t k)) hx5.out ?e5 ?e6 ?e7 ?_); (case e1 => rfl); (case e2 => rfl); (case e3 => rfl); (case e4 => rfl); (case e5 => exact size46); (case e6 => rfl); (case e7 => exact tC_one _)))
          go_roundw
          case rel =>
            refine ⟨k + 1, by omega, by go_num, fun j hj => ?_, ?_, setRow_heap _ _ _ _ _ _ hx5.out⟩
            · by_cases e : j = k
              · subst e; exact H6.out
              · exact hp.out j (by omega)
            · rw [upL_succ]
              exact hJ _ _ _ (some B) hJ5 ⟨rfl, rfl, rfl, by simp, fun i _ hi => setRow_other _ _ _ _ (fun e => hi (by rw [e]))⟩ (fun r e => by cases e; exact ⟨hBB, _, _, hx5.out⟩)
          case measure => simp [intOf]; omega
        · gi_wp2
          refine bodyPost_ret (results_none rfl _ _ _) rfl ?_
          exact ⟨⟨_, rfl⟩, .inr ⟨_, ⟨k, hlt, (upL_succ t k).symm, hp.out⟩, hJx4⟩⟩
    · obtain rfl : k = N := by omega
      gi_wp2
      go_end0
      exact ⟨⟨_, rfl⟩, .inl ⟨_, (planL_up hp.out).symm, hJs⟩⟩

set_option maxHeartbeats 1000000 in
theorem plan_any (t : T) (N : Int) (w : World) : Calls Try.prog 43 #[TV t, .int .i64 N] w fun e w' => e = .returned (.func (.func 59) #[] #[.pointer (some ⟨w.heap.size, 0, none⟩), .pointer (some ⟨w.heap.size + 1, 0, none⟩)]) ∧ (w.alloc (.cells (tC t) 46)).alloc (.cells #[.int .i64 N] 3) = w' := by
  go_enter Try.func43, Try.ntmps43
  go_wp2
  go_ret
  exact ⟨rfl, rfl⟩
/-- The iterator's word. -/
theorem plan_stops (n : Nat) (hn : 1 ≤ n) (Bt Bn N B0 : Nat) (t : T) (hok : Ok t) (hN : N ≤ 1000) (w : World) (hB : B0 ≤ w.heap.size) (hBt : w.heap[Bt]? = some (.cells (tC t) 46 (0, 0))) (hBn : w.heap[Bn]? = some (.cells #[.int .i64 N] 3 (0, 0))) :
    SeqC B0 Fence.wide n Try.prog 59 #[.pointer (some ⟨Bt, 0, none⟩), .pointer (some ⟨Bn, 0, none⟩)] (fun x : Int => #[Value.int .i64 x]) 46 (fun xs _ => xs = planL t N) (fun pre _ => PreP t N pre) N w := fun l J Jx W hW hJ _ hY h0 =>
  plan1_in n hn l Bt Bn N t hok hN J Jx B0 hJ hY W (Nat.le_trans hB hW.size) (bkeep hW hBt) (setRow_cell (bkeep hW hBn) rfl) h0
end Go.Proofs.Ytfploaaelfjadaa
