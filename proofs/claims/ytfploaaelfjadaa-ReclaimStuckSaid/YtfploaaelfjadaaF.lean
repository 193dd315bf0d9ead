/- Helper facts for the statements of this seat; no statement itself. -/
import Derived.Test.YtfploaaelfjadaaE
import Derived.Deep.DeepCutAuto
import Derived.Outline
namespace Go.Proofs.Ytfploaaelfjadaa
open Go.RowKit
set_option linter.unusedSimpArgs false
set_option linter.unusedVariables false
set_option linter.unnecessarySimpa false

/-- What the functions give where Check says no. -/
def hnL (t : T) : List Int := if chk t = 0 then hnd t else []
def drL (t : T) : Int := if chk t = 0 then dir t else 0
def bgL (t : T) : Int := if chk t = 0 then bgd t else 0
def wkL (t : T) : Bool := if chk t = 0 then wks t else false
def skL (t : T) : Bool := if chk t = 0 then dir t == 6 else false
theorem hlen1 (t : T) : (hn1 t).length ≤ 1 := by unfold hn1; split <;> simp
theorem hlen2 (t : T) : (hn2 t).length ≤ 2 := by have := hlen1 t; unfold hn2; split <;> simp <;> omega
theorem hlen3 (t : T) : (hn3 t).length ≤ 3 := by have := hlen2 t; unfold hn3; split <;> simp <;> omega
def Lay (w : World) (g : Nat) (t : T) (wx : World) : Prop := wx.heap[g]? = some (.cells (tC t) 23 (0, 0)) ∧ Below w.heap.size w wx

set_option maxRecDepth 100000 in
set_option maxHeartbeats 2000000 in
theorem refHinders_ok (t : T) (w : World) (hc : chk t = 0) : Calls Try.prog 16 #[TV t] w fun e w' => ∃ v, e = .returned (.tuple #[v, .int .i64 0]) ∧ IsInts w' v (hnd t) ∧ Below w.heap.size w w' := by
  have HC := Lib.hid hc
  have HL := Lib.hid (hnd_len t)
  clear hc
  go_enter Try.func16, Try.ntmps16
  go_wp2_with fail
  refine (refCheck_any t _).mono ?_
  rintro e w0 ⟨rfl, hb⟩
  rw [HC.out]
  obtain ⟨g, hg⟩ : ∃ g, g = w.heap.size := ⟨_, rfl⟩
  have HB0 : Hid (Lay w g t w0) := by rw [hg]; exact bfirst _ _ hb
  rw [← hg]
  have hgs0 : g < w0.heap.size := lt_of_some HB0.out.1
  have hgw : w.heap.size ≤ g := by omega
  clear hb hg
  obtain ⟨q0, q1, q2, q3, q4, q5, q6, q7, q8, q9, q10, q11, q12, q13, q14⟩ := t15 HB0.out.1
  go_upto_region 5 with fail
  go_cut [5, 18] (fun s5 v wx => s5 = .slice none 0 0 ∧ v = .bool ((t.ac == 0) && (t.ia == 0)) ∧ wx = w0)
  case first =>
    cases ha : (t.ac == 0)
    · go_wp2_with fail
      go_meet
      exact ⟨rfl, by rw [ha, Bool.false_and], rfl⟩
    · go_wp2_with fail
      go_meet
      exact ⟨rfl, by rw [ha, Bool.true_and], rfl⟩
  case rest =>
  obtain ⟨rfl, rfl, rfl⟩ := hcut
  obtain ⟨w0, rfl⟩ : ∃ x, x = wc := ⟨_, rfl⟩
  have O0 : Hid (Own w0 (g + 1) (.slice none 0 0) []) := Own.nil _ _
  go_upto_if 18 with fail
  go_cut [5] (fun v wx => Hid (Own wx (g + 1) v (hn1 t)) ∧ Hid (Lay w g t wx) ∧ g < wx.heap.size)
  case first =>
    have HE : Hid (hn1 t = if ((t.ac == 0) && (t.ia == 0)) = true then ([] : List Int) ++ [1] else ([] : List Int)) := rfl
    generalize ((t.ac == 0) && (t.ia == 0)) = b at *
    cases b with
    | true =>
      have hln : (([] : List Int)).length ≤ 3 := by first | exact Nat.zero_le _ | (have := hlen1 t; omega)
      go_wp2_with (((with_reducible refine append_intz ?b1 (.tmp 19) (.tmp 20) ?b2 (g + 1) (.slice none 0 0) (([] : List Int)) 1 3 w0.heap.size ?b3 ?b4 ?b5 O0 ?b6 ?b7 ?_); (case b1 => rfl); (case b2 => rfl); (case b3 => rfl); (case b4 => rfl); (case b5 => rfl); (case b6 => omega); (case b7 => omega)); intro v' w4 ho4 hb4)
      go_meet
      exact ⟨by rw [HE.out]; exact ho4, ⟨(hb4.out.block g (by omega)).trans HB0.out.1, HB0.out.2.trans (hb4.out.mono (by omega))⟩, by have := hb4.out.size; omega⟩
    | false =>
      go_wp2_with fail
      go_meet
      exact ⟨by rw [HE.out]; exact O0, HB0, by omega⟩
  case rest =>
  obtain ⟨v1, rfl⟩ : ∃ x, x = u5 := ⟨_, rfl⟩
  obtain ⟨w1, rfl⟩ : ∃ x, x = wc := ⟨_, rfl⟩
  obtain ⟨O1, HB1, hgs1⟩ := hcut
  clear q0 q1 q2 q3 q4 q5 q6 q7 q8 q9 q10 q11 q12 q13 q14 O0 HB0 hgs0
  obtain ⟨q0, q1, q2, q3, q4, q5, q6, q7, q8, q9, q10, q11, q12, q13, q14⟩ := t15 HB1.out.1
  go_upto_if 26 with fail
  go_cut [5] (fun v wx => Hid (Own wx (g + 1) v (hn2 t)) ∧ Hid (Lay w g t wx) ∧ g < wx.heap.size)
  case first =>
    have HE : Hid (hn2 t = if (t.wr == t.cp) = true then hn1 t ++ [2] else hn1 t) := rfl
    generalize (t.wr == t.cp) = b at *
    cases b with
    | true =>
      have hln : (hn1 t).length ≤ 3 := by first | exact Nat.zero_le _ | (have := hlen1 t; omega)
      go_wp2_with (((with_reducible refine append_intz ?b1 (.tmp 27) (.tmp 28) ?b2 (g + 1) v1 (hn1 t) 2 3 w1.heap.size ?b3 ?b4 ?b5 O1 ?b6 ?b7 ?_); (case b1 => rfl); (case b2 => rfl); (case b3 => rfl); (case b4 => rfl); (case b5 => rfl); (case b6 => omega); (case b7 => omega)); intro v' w4 ho4 hb4)
      go_meet
      exact ⟨by rw [HE.out]; exact ho4, ⟨(hb4.out.block g (by omega)).trans HB1.out.1, HB1.out.2.trans (hb4.out.mono (by omega))⟩, by have := hb4.out.size; omega⟩
    | false =>
      go_wp2_with fail
      go_meet
      exact ⟨by rw [HE.out]; exact O1, HB1, by omega⟩
  case rest =>
  obtain ⟨v2, rfl⟩ : ∃ x, x = u5 := ⟨_, rfl⟩
  obtain ⟨w2, rfl⟩ : ∃ x, x = wc := ⟨_, rfl⟩
  obtain ⟨O2, HB2, hgs2⟩ := hcut
  clear q0 q1 q2 q3 q4 q5 q6 q7 q8 q9 q10 q11 q12 q13 q14 O1 HB1 hgs1
  obtain ⟨q0, q1, q2, q3, q4, q5, q6, q7, q8, q9, q10, q11, q12, q13, q14⟩ := t15 HB2.out.1
  go_upto_if 32 with fail
  go_cut [5] (fun v wx => Hid (Own wx (g + 1) v (hn3 t)) ∧ Hid (Lay w g t wx) ∧ g < wx.heap.size)
  case first =>
    have HE : Hid (hn3 t = if (t.rm == 0) = true then hn2 t ++ [3] else hn2 t) := rfl
    generalize (t.rm == 0) = b at *
    cases b with
    | true =>
      have hln : (hn2 t).length ≤ 3 := by first | exact Nat.zero_le _ | (have := hlen2 t; omega)
      go_wp2_with (((with_reducible refine append_intz ?b1 (.tmp 33) (.tmp 34) ?b2 (g + 1) v2 (hn2 t) 3 3 w2.heap.size ?b3 ?b4 ?b5 O2 ?b6 ?b7 ?_); (case b1 => rfl); (case b2 => rfl); (case b3 => rfl); (case b4 => rfl); (case b5 => rfl); (case b6 => omega); (case b7 => omega)); intro v' w4 ho4 hb4)
      go_meet
      exact ⟨by rw [HE.out]; exact ho4, ⟨(hb4.out.block g (by omega)).trans HB2.out.1, HB2.out.2.trans (hb4.out.mono (by omega))⟩, by have := hb4.out.size; omega⟩
    | false =>
      go_wp2_with fail
      go_meet
      exact ⟨by rw [HE.out]; exact O2, HB2, by omega⟩
  case rest =>
  obtain ⟨v3, rfl⟩ : ∃ x, x = u5 := ⟨_, rfl⟩
  obtain ⟨w3, rfl⟩ : ∃ x, x = wc := ⟨_, rfl⟩
  obtain ⟨O3, HB3, hgs3⟩ := hcut
  clear q0 q1 q2 q3 q4 q5 q6 q7 q8 q9 q10 q11 q12 q13 q14 O2 HB2 hgs2
  obtain ⟨q0, q1, q2, q3, q4, q5, q6, q7, q8, q9, q10, q11, q12, q13, q14⟩ := t15 HB3.out.1
  go_upto_if 38 with fail
  go_cut [5] (fun v wx => Hid (Own wx (g + 1) v (hnd t)) ∧ Hid (Lay w g t wx) ∧ g < wx.heap.size)
  case first =>
    have HE : Hid (hnd t = if (t.sl == 0) = true then hn3 t ++ [4] else hn3 t) := rfl
    generalize (t.sl == 0) = b at *
    cases b with
    | true =>
      have hln : (hn3 t).length ≤ 3 := by first | exact Nat.zero_le _ | (have := hlen3 t; omega)
      go_wp2_with (((with_reducible refine append_intz ?b1 (.tmp 39) (.tmp 40) ?b2 (g + 1) v3 (hn3 t) 4 3 w3.heap.size ?b3 ?b4 ?b5 O3 ?b6 ?b7 ?_); (case b1 => rfl); (case b2 => rfl); (case b3 => rfl); (case b4 => rfl); (case b5 => rfl); (case b6 => omega); (case b7 => omega)); intro v' w4 ho4 hb4)
      go_meet
      exact ⟨by rw [HE.out]; exact ho4, ⟨(hb4.out.block g (by omega)).trans HB3.out.1, HB3.out.2.trans (hb4.out.mono (by omega))⟩, by have := hb4.out.size; omega⟩
    | false =>
      go_wp2_with fail
      go_meet
      exact ⟨by rw [HE.out]; exact O3, HB3, by omega⟩
  case rest =>
  obtain ⟨v4, rfl⟩ : ∃ x, x = u5 := ⟨_, rfl⟩
  obtain ⟨w4, rfl⟩ : ∃ x, x = wc := ⟨_, rfl⟩
  obtain ⟨O4, HB4, hgs4⟩ := hcut
  clear q0 q1 q2 q3 q4 q5 q6 q7 q8 q9 q10 q11 q12 q13 q14 O3 HB3 hgs3
  go_wp2_with fail
  go_ret2
  exact ⟨_, rfl, O4.out.ints (by have := HL.out; omega), HB4.out.2⟩
end Go.Proofs.Ytfploaaelfjadaa
