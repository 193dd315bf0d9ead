/- Helper facts for the statements of this seat; no statement itself. -/
import Derived.Test.YtfploaaelfjadaaGA
import Derived.Test.YtfploaaelfjadaaIB
import Derived.Test.YtfploaaelfjadaaM
import Derived.Outline
namespace Go.Proofs.Ytfploaaelfjadaa
open Go.RowKit
set_option linter.unusedSimpArgs false
set_option linter.unusedVariables false
set_option linter.unnecessarySimpa false

section
variable {ops : Array Oper} {rest : List Oper} {o : Oper} {a : Act} {w : World} {Q : Exit → Act → World → Prop}
/-- A whole tally stored. -/
theorem stT (hgd : o.guard = none) (x y : Operand) (ho : o.op = .store 23 x y) (g : Nat) (t t' : T) (ty : TypeId) (hx : a.eval x = .pointer (some ⟨g, 0, none⟩)) (hy : a.eval y = TV t') (hg : Hid (w.heap[g]? = some (.cells (tC t) ty (0, 0))))
    (h : wpList Try.prog ops Q rest (a.put o.dst undef) (w.setRow g (tC t'))) : wpList Try.prog ops Q (o :: rest) a w :=
  wpList_store_row hgd 23 x y ho g (tC t') hx hy ty (tC t) hg.out size23 rfl (tC_one t') h
end
theorem own_setRow {w : World} {b g : Nat} {v : Value} {l : List Int} (h : Own w b v l) (hg : g < b) (cs : Array Value) : Own (w.setRow g cs) b v l := by
  obtain ⟨h1, h2 | ⟨k, cap, cur, hv, h3, hk, h4⟩⟩ := h
  · exact ⟨h1, .inl h2⟩
  · exact ⟨h1, .inr ⟨k, cap, cur, hv, h3, (setRow_other _ _ _ _ (by omega)).trans hk, h4⟩⟩

set_option maxRecDepth 100000 in
set_option maxHeartbeats 2000000 in
theorem rplan_good (t : T) (N : Nat) (w : World) (hc : chk t = 0) (hN : N ≤ 1000) : Calls Try.prog 26 #[TV t, .int .i64 N] w (Planned t N w) := by
  have HC := Lib.hid hc
  have HE : Hid (plE t N = 0 ∧ plL t N = planL t N) := ⟨by unfold plE; rw [if_pos hc, if_pos (by omega)], by unfold plL; rw [if_pos ⟨hc, by omega⟩]; rfl⟩
  have HOK := Lib.hid (chk_ok hc)
  clear hc
  have d1 : decide ((N : Int) < 0) = false := decide_eq_false (by omega)
  have d2 : decide (1000 < (N : Int)) = false := decide_eq_false (by omega)
  have d3 : (N : Int) ≤ 1000 := by omega
  go_enter Try.func26, Try.ntmps26
  go_wp2_with fail
  refine (refCheck_any t _).mono ?_
  rintro e w1 ⟨rfl, hb⟩
  rw [HC.out]
  obtain ⟨g, hg⟩ : ∃ g, g = w.heap.size := ⟨_, rfl⟩
  have H1 : Hid (w1.heap[g]? = some (.cells (tC t) 23 (0, 0))) := by rw [hg]; exact (bfirst _ _ hb).1
  have B1 := Lib.hid (bfirst _ _ hb).2
  have hgw : w.heap.size ≤ g := by omega
  rw [← hg]
  clear hb hg
  go_wp2_with fail
  go_loopw [7, 8, 9] (fun v i s wr => ∃ k : Nat, k ≤ N ∧ i = .int .i64 k ∧ Hid (∀ j, j < k → dir (stK t j) ≠ 6) ∧ Hid (Own wr (g + 1) v (upL t k)) ∧ Hid (wr.heap[g]? = some (.cells (tC (stK t k)) 23 (0, 0))) ∧ Hid (Below w.heap.size w wr)) (fun _ i _ _ => N - (intOf i).toNat)
  case atStart => exact ⟨0, by omega, rfl, fun j hj => by omega, Own.nil _ _, H1, B1⟩
  case round =>
    obtain ⟨k, hk, rfl, hp, ho, hx, hb⟩ := hrel
    clear H1 B1
    by_cases hlt : k < N
    · have HO := Lib.hid (ok_stK HOK.out k)
      go_wp2_with (((with_reducible refine ldT ?c1 (.tmp 2) ?c2 g ?c3 (stK t k) 23 hx ?_); (case c1 => rfl); (case c2 => rfl); (case c3 => rfl)))
      refine (refDir_ok (stK t k) _ (ok_chk HO.out)).mono ?_
      rintro e w2 ⟨rfl, hb2⟩
      have H2 := Lib.hid (bkeep hb2 hx.out)
      have O2 := Lib.hid (ho.out.keep hb2)
      have B2 := Lib.hid (btrans hb.out hb2)
      have hsz := lt_of_some H2.out
      have hul : (upL t k).length = k := upL_len t k
      have HUL := Lib.hid hul
      clear hb2 ho hx hb hul
      have hul2 : (upL t k).length < 4294967296 := by rw [HUL.out]; omega
      by_cases h6 : dir (stK t k) = 6
      · have H6 := Lib.hid h6
        have hz : (dir (stK t k) == 6) = true := by simpa using h6
        clear h6
        go_wp2_with (((with_reducible refine append_intz ?b1 (.tmp 28) (.tmp 30) ?b2 (g + 1) u7 (upL t k) (dir (stK t k)) 3 w2.heap.size ?b3 ?b4 ?b5 O2 ?b6 ?b7 ?_); (case b1 => rfl); (case b2 => rfl); (case b3 => rfl); (case b4 => rfl); (case b5 => rfl); (case b6 => exact hul2); (case b7 => omega)); intro v' w4 ho4 hb4)
        go_ret2
        refine ⟨_, by rw [HE.out.1]; rfl, ?_, B2.out.trans (hb4.out.mono (by omega))⟩
        rw [HE.out.2, planL_kill hp.out H6.out N hlt, upL_succ]
        exact ho4.out.ints (by rw [List.length_append, HUL.out]; simp; omega)
      · have H6 := Lib.hid h6
        have hz : (dir (stK t k) == 6) = false := by simpa using h6
        clear h6
        go_wp2_with (first | (((with_reducible refine append_intz ?b1 (.tmp 28) (.tmp 30) ?b2 (g + 1) u7 (upL t k) (dir (stK t k)) 3 w2.heap.size ?b3 ?b4 ?b5 O2 ?b6 ?b7 ?_); (case b1 => rfl); (case b2 => rfl); (case b3 => rfl); (case b4 => rfl); (case b5 => rfl); (case b6 => exact hul2); (case b7 => omega)); intro v' w4 ho4 hb4; have H4 : Hid (w4.heap[g]? = some (.cells (tC (stK t k)) 23 (0, 0))) := (hb4.out.block g (by omega)).trans H2.out) | ((with_reducible refine ldT ?d1 (.tmp 2) ?d2 g ?d3 (stK t k) 23 H4 ?_); (case d1 => rfl); (case d2 => rfl); (case d3 => rfl)))
        refine (rafter_any (stK t k) _ HO.out H6.out).mono ?_
        rintro e w5 ⟨rfl, hb5⟩
        have H5 := Lib.hid (bkeep hb5 H4.out)
        have O5 := Lib.hid (ho4.out.keep hb5)
        have B5 : Hid (Below w.heap.size w w5) := btrans (B2.out.trans (hb4.out.mono (by omega))) hb5
        clear hb5 ho4 hb4 H4 O2 H2 B2
        go_wp2_with (((with_reducible refine stT ?e1 (.tmp 2) (.tmp 37) ?e2 g (stK t k) (stK t (k + 1)) 23 ?e3 ?e4 H5 ?_); (case e1 => rfl); (case e2 => rfl); (case e3 => rfl); (case e4 => rfl)))
        go_roundw
        case rel =>
          refine ⟨k + 1, by omega, by go_num, fun j hj => ?_, ?_, setRow_heap _ _ _ _ _ _ H5.out, below_setRow B5.out (by omega) _⟩
          · by_cases e : j = k
            · subst e; exact H6.out
            · exact hp.out j (by omega)
          · rw [upL_succ]
            exact own_setRow O5.out (by omega) _
        case measure => simp [intOf]; omega
    · obtain rfl : k = N := by omega
      go_wp2_with fail
      go_ret2
      refine ⟨_, by rw [HE.out.1]; rfl, ?_, hb.out⟩
      rw [HE.out.2, planL_up hp.out]
      exact ho.out.ints (by rw [upL_len]; omega)
end Go.Proofs.Ytfploaaelfjadaa
