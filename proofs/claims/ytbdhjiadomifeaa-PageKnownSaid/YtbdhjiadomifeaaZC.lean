/- Helper facts for the statements of this seat; no statement itself. -/
import Derived.Test.YtbdhjiadomifeaaZB
import Derived.Test.YtbdhjiadomifeaaS
namespace Go.Proofs.Ytbdhjiadomifeaa
open Go.RowKit
set_option linter.unusedSimpArgs false
set_option linter.unusedVariables false
set_option linter.unnecessarySimpa false

theorem prC_pg (s : ByteArray) : Pg (prC s) := by
  unfold prC
  by_cases h1 : 135 < s.size
  · rw [if_pos h1]; exact zero_pg
  · rw [if_neg h1]
    by_cases h2 : bad s < 135
    · rw [if_pos h2]; exact zero_pg
    · rw [if_neg h2]
      have hbl := badK_le s s.size 0
      exact contK_pg s 135 (fun j hj => hbl.2.2 j (by omega) (by show j < bad s; omega))

set_option maxHeartbeats 4000000 in
set_option maxRecDepth 100000 in
theorem pageBack_walk (c : List Nat) (s : ByteArray) (w : World) (hp : Pg c) (hs : s.size ≤ 9223372036854775807) :
    Calls Try.prog 9 #[.agg (W8 c), .string s] w fun e w' => e = .returned (.bool true) ∧ Below w.heap.size w w' := by
  have hT := parse_text c hp
  have hTs : (strOfNums (txt c 8)).size ≤ 9223372036854775807 := by rw [strOfNums_size, (txt8 c).1]; omega
  have HT := Lib.hid hT
  have HTS := Lib.hid hTs
  clear hT hTs
  generalize hst : strOfNums (txt c 8) = st at *
  have HST := Lib.hid hst
  clear hst
  have hne := run_neq24 c c hp.1 hp.1
  rw [beq_self_eq_true] at hne
  go_enter Try.func9, Try.ntmps9
  go_wp2_with (((with_reducible refine ld24 ?a1 (.tmp 2) ?b1 w.heap.size ?c1 c ?d1 24 ?e1 ?_); (case a1 => rfl); (case b1 => rfl); (case c1 => rfl); (case d1 => exact hp.1); (case e1 => exact h1_0 _ _)))
  refine (text_any c _ hp).mono ?_
  rintro e w1 ⟨rfl, hb⟩
  obtain ⟨g0, b0⟩ := bfirst _ _ hb
  have G0 := Lib.hid g0
  have B0 := Lib.hid b0
  clear hb g0 b0
  rw [HST.out]
  go_wp2_with fail
  refine (parse_all st _ HTS.out).mono ?_
  rintro e w2 ⟨rfl, hb⟩
  rw [HT.out.1, HT.out.2.1, HT.out.2.2]
  have G1 := Lib.hid (bkeep hb G0.out)
  have B1 := Lib.hid (btrans B0.out hb)
  clear hb G0 B0
  have F2 := Lib.hid (two_new w2 c 0 0 #[.int .u64 0, .int .u64 0, .int .u64 0, .int .u64 0, .int .u64 0, .int .u64 0, .int .u64 0, .int .u64 0] #[.int .i64 0, .int .i64 0] rfl)
  have G3 := Lib.hid (bkeep F2.out.2.2 G1.out)
  have B3 := Lib.hid (btrans B1.out F2.out.2.2)
  obtain ⟨q0, q1⟩ := fault_cells F2.out.2.1
  by_cases h200 : 200 < s.size
  · go_wp2_with (first | ((with_reducible refine st24 ?a2 (.tmp 5) (.tmp 13) ?b2 w2.heap.size c (List.replicate 8 0) ?c2 ?d2 ?e2 ?f2 24 ?g2 ?_); (case a2 => rfl); (case b2 => rfl); (case c2 => rfl); (case d2 => rfl); (case e2 => exact hp.1); (case f2 => simp); (case g2 => exact h2_0 _ _ _)) | ((with_reducible refine st50 ?a3 (.tmp 6) (.tmp 14) ?b3 (w2.heap.size + 1) 0 0 #[.int .i64 0, .int .i64 0] ?c3 ?d3 ?e3 50 ?f3 ?_); (case a3 => rfl); (case b3 => rfl); (case c3 => rfl); (case d3 => rfl); (case e3 => rfl); (case f3 => rw [setRow_other _ _ _ _ (by omega)]; exact h2_1 _ _ _)) | ((with_reducible refine ld24 ?a4 (.tmp 5) ?b4 w2.heap.size ?c4 c ?d4 24 ?e4 ?_); (case a4 => rfl); (case b4 => rfl); (case c4 => rfl); (case d4 => exact hp.1); (case e4 => exact F2.out.1)) | ((with_reducible refine ld24 ?a5 (.tmp 2) ?b5 w.heap.size ?c5 c ?d5 24 ?e5 ?_); (case a5 => rfl); (case b5 => rfl); (case c5 => rfl); (case d5 => exact hp.1); (case e5 => exact G3.out)))
    refine (awake_any _).mono ?_
    rintro e w9 ⟨rfl, hb⟩
    have BZ := Lib.hid (btrans B3.out hb)
    clear hb
    go_wp2
    go_ret
    exact ⟨rfl, BZ.out⟩
  · go_wp2_with (first | ((with_reducible refine st24 ?a6 (.tmp 5) (.tmp 13) ?b6 w2.heap.size c (List.replicate 8 0) ?c6 ?d6 ?e6 ?f6 24 ?g6 ?_); (case a6 => rfl); (case b6 => rfl); (case c6 => rfl); (case d6 => rfl); (case e6 => exact hp.1); (case f6 => simp); (case g6 => exact h2_0 _ _ _)) | ((with_reducible refine st50 ?a7 (.tmp 6) (.tmp 14) ?b7 (w2.heap.size + 1) 0 0 #[.int .i64 0, .int .i64 0] ?c7 ?d7 ?e7 50 ?f7 ?_); (case a7 => rfl); (case b7 => rfl); (case c7 => rfl); (case d7 => rfl); (case e7 => rfl); (case f7 => rw [setRow_other _ _ _ _ (by omega)]; exact h2_1 _ _ _)) | ((with_reducible refine ld24 ?a8 (.tmp 5) ?b8 w2.heap.size ?c8 c ?d8 24 ?e8 ?_); (case a8 => rfl); (case b8 => rfl); (case c8 => rfl); (case d8 => exact hp.1); (case e8 => exact F2.out.1)) | ((with_reducible refine ld24 ?a9 (.tmp 2) ?b9 w.heap.size ?c9 c ?d9 24 ?e9 ?_); (case a9 => rfl); (case b9 => rfl); (case c9 => rfl); (case d9 => exact hp.1); (case e9 => exact G3.out)))
    refine (parse_all s _ hs).mono ?_
    rintro e w3 ⟨rfl, hb⟩
    have B4 := Lib.hid (btrans B3.out hb)
    clear hb q0 q1
    have F4 := Lib.hid (two_new w3 (prC s) (prE s) (prA s) #[.int .u64 0, .int .u64 0, .int .u64 0, .int .u64 0, .int .u64 0, .int .u64 0, .int .u64 0, .int .u64 0] #[.int .i64 0, .int .i64 0] rfl)
    have B5 := Lib.hid (btrans B4.out F4.out.2.2)
    obtain ⟨q0, q1⟩ := fault_cells F4.out.2.1
    have hpp := prC_pg s
    by_cases h0 : prE s = 0
    · have HX := Lib.hid (text_parse s h0)
      have h0' : (prE s != 0) = false := by rw [h0]; rfl
      clear h0
      go_wp2_with (first | ((with_reducible refine st24 ?a10 (.tmp 7) (.tmp 30) ?b10 w3.heap.size (prC s) (List.replicate 8 0) ?c10 ?d10 ?e10 ?f10 24 ?g10 ?_); (case a10 => rfl); (case b10 => rfl); (case c10 => rfl); (case d10 => rfl); (case e10 => exact hpp.1); (case f10 => simp); (case g10 => exact h2_0 _ _ _)) | ((with_reducible refine st50 ?a11 (.tmp 8) (.tmp 31) ?b11 (w3.heap.size + 1) (prE s) (prA s) #[.int .i64 0, .int .i64 0] ?c11 ?d11 ?e11 50 ?f11 ?_); (case a11 => rfl); (case b11 => rfl); (case c11 => rfl); (case d11 => rfl); (case e11 => rfl); (case f11 => rw [setRow_other _ _ _ _ (by omega)]; exact h2_1 _ _ _)) | ((with_reducible refine ldh24 (.tmp 7) ?a12 ?b12 w3.heap.size ?c12 (prC s) ?d12 24 ?e12 ?_); (case a12 => rfl); (case b12 => rfl); (case c12 => rfl); (case d12 => exact hpp.1); (case e12 => exact F4.out.1)))
      refine (text_any (prC s) _ hpp).mono ?_
      rintro e w4 ⟨rfl, hb⟩
      rw [HX.out]
      have B6 := Lib.hid (btrans B5.out hb)
      clear hb
      go_wp2_with fail
      refine (awake_any _).mono ?_
      rintro e w9 ⟨rfl, hb⟩
      have BZ := Lib.hid (btrans B6.out hb)
      clear hb
      go_wp2
      go_ret
      exact ⟨rfl, BZ.out⟩
    · have h0' : (prE s != 0) = true := by simpa using h0
      clear h0
      go_wp2_with (first | ((with_reducible refine st24 ?a13 (.tmp 7) (.tmp 30) ?b13 w3.heap.size (prC s) (List.replicate 8 0) ?c13 ?d13 ?e13 ?f13 24 ?g13 ?_); (case a13 => rfl); (case b13 => rfl); (case c13 => rfl); (case d13 => rfl); (case e13 => exact hpp.1); (case f13 => simp); (case g13 => exact h2_0 _ _ _)) | ((with_reducible refine st50 ?a14 (.tmp 8) (.tmp 31) ?b14 (w3.heap.size + 1) (prE s) (prA s) #[.int .i64 0, .int .i64 0] ?c14 ?d14 ?e14 50 ?f14 ?_); (case a14 => rfl); (case b14 => rfl); (case c14 => rfl); (case d14 => rfl); (case e14 => rfl); (case f14 => rw [setRow_other _ _ _ _ (by omega)]; exact h2_1 _ _ _)))
      refine (awake_any _).mono ?_
      rintro e w9 ⟨rfl, hb⟩
      have BZ := Lib.hid (btrans B5.out hb)
      clear hb
      go_wp2
      go_ret
      exact ⟨rfl, BZ.out⟩

end Go.Proofs.Ytbdhjiadomifeaa
