/- Helper facts for the statements of this seat; no statement itself. -/
import Derived.Test.YtfploaaelfjadaaS
import Derived.Test.YtfploaaelfjadaaMA
import Derived.Deep.DeepCutAuto
import Derived.Outline
namespace Go.Proofs.Ytfploaaelfjadaa
open Go.RowKit
set_option linter.unusedSimpArgs false
set_option linter.unusedVariables false
set_option linter.unnecessarySimpa false

theorem run_min4 (P : Program) (ts : Array TypeId) (t : TypeId) (x1 x2 x3 x4 : Int) (w : World) : Sem.run P (Builtin.min_ ts t #[.int .i64 x1, .int .i64 x2, .int .i64 x3, .int .i64 x4]) w = .ok (.int .i64 (min (min (min x1 x2) x3) x4)) w := by
  have e : ∀ a b : Int, min a b = if b < a then b else a := fun a b => by split <;> omega
  simp [Builtin.min_, Builtin.min2, e]

set_option maxRecDepth 100000 in
set_option maxHeartbeats 4000000 in
theorem reclaimCounts_walk (ad : Option Addr) (n cap : Nat) (w : World) (hn : n ≤ 9223372036854775807) (hl : SomeInts w ad n) : Calls Try.prog 6 #[.slice ad n cap] w fun e w' => e = .returned (.bool true) ∧ Below w.heap.size w w' := by
  have HL := Lib.hid hl
  clear hl
  go_enter Try.func6, Try.ntmps6
  go_wp2_with fail
  refine (reclaimKnown_walk _).mono ?_
  rintro e w1 ⟨rfl, hb⟩
  have L1 := Lib.hid (HL.out.keep hb)
  have B1 := Lib.hid hb
  clear hb HL
  go_wp2_with fail
  refine (made_any ad n cap _ hn L1.out).mono ?_
  rintro e w2 ⟨t, hm, rfl, hb⟩
  have HM := Lib.hid hm
  have B2 := Lib.hid (btrans B1.out hb)
  clear hb hm L1 B1
  have HE : Hid (chk t = 0 ∧ spL t = sh t + wt t ∧ W64 t ∧ plE t 100 = 0 ∧ plL t 100 = planL t 100) := by
    have e := ok_chk HM.out.1
    exact ⟨e, by unfold spL; rw [if_pos e]; exact stpL_eq HM.out.1, w64_of HM.out.1, by unfold plE; rw [if_pos e, if_pos (by omega)], by unfold plL; rw [if_pos ⟨e, by omega⟩]; rfl⟩
  obtain ⟨g, hg⟩ : ∃ g, g = w2.heap.size := ⟨_, rfl⟩
  have H2 : Hid ((w2.alloc (.cells (tC t) 23)).heap[w2.heap.size]? = some (.cells (tC t) 23 (0, 0))) := h1_0 _ _
  go_wp2_with (first | ((with_reducible refine stTn ?a1 (.tmp 4) (.tmp 15) ?a2 t ?a3 ?a4 ?a5 ?_); (case a1 => rfl); (case a2 => rfl); (case a3 => rfl); (case a4 => rfl); (case a5 => rfl)) | ((with_reducible refine ldT ?b1 (.tmp 4) ?b2 w2.heap.size ?b3 t 23 H2 ?_); (case b1 => rfl); (case b2 => rfl); (case b3 => rfl)))
  refine (pSteps_any t _ HE.out.2.2.1).mono ?_
  rintro e w3 ⟨rfl, hb⟩
  rw [HE.out.1, HE.out.2.1, ← hg]
  have H3 : Hid (w3.heap[g]? = some (.cells (tC t) 23 (0, 0))) := by rw [hg]; exact bkeep hb H2.out
  have B3 := Lib.hid (btrans (balloc B2.out _) hb)
  clear hb H2 B2 hg
  go_wp2_with (((with_reducible refine ldT ?c1 (.tmp 4) ?c2 g ?c3 t 23 H3 ?_); (case c1 => rfl); (case c2 => rfl); (case c3 => rfl)))
  refine (pPlan_any t 100 _ HE.out.2.2.1).mono ?_
  rintro e w4 ⟨v, rfl, hv, hb⟩
  rw [HE.out.2.2.2.1]
  rw [HE.out.2.2.2.2] at hv
  have H4 : Hid (w4.heap[g]? = some (.cells (tC t) 23 (0, 0))) := bkeep hb H3.out
  have B4 := Lib.hid (btrans B3.out hb)
  clear hb H3 B3 HE
  obtain ⟨ad', len, cap', rfl, rfl, _, hcc⟩ := hv
  have HCC := Lib.hid hcc
  clear hcc
  have s1 := sh_nn HM.out.1
  have s2 := wt_nn HM.out.1
  obtain ⟨p1, p2, p3⟩ := plan_get HM.out.1 100 (by omega)
  have P2 := Lib.hid p2
  have P3 := Lib.hid p3
  have hpl := planL_len t 100
  clear p2 p3
  obtain ⟨q0, q1, q2, q3, q4, q5, q6, q7, q8, q9, q10, q11, q12, q13, q14⟩ := t15 H4.out
  have SH : Hid ((t.ob + 4 - 1) / 4 = sh t) := by show _ = _; unfold sh; congr 1; omega
  have hmin : ∀ w : World, Sem.run Try.prog (Builtin.min_ #[3, 3, 3, 3] 3 #[.int .i64 (t.ac + t.ia), .int .i64 (t.cp - t.wr), .int .i64 t.rm, .int .i64 t.sl]) w = .ok (.int .i64 (wt t)) w := fun w => run_min4 Try.prog #[3, 3, 3, 3] 3 (t.ac + t.ia) (t.cp - t.wr) t.rm t.sl w
  obtain ⟨o1, o2⟩ := HM.out.1.ob
  obtain ⟨o3, o4⟩ := HM.out.1.ac
  obtain ⟨o5, o6⟩ := HM.out.1.ia
  obtain ⟨o7, o8⟩ := HM.out.1.cp
  obtain ⟨o9, o10⟩ := HM.out.1.wr
  go_upto_region 7 with fail
  rw [SH.out]
  clear hmin SH o1 o2 o3 o4 o5 o6 o7 o8 o9 o10
  have WN : Hid (∀ i : Int, want t i = if i < sh t then 1 else if i < sh t + wt t then 4 else if wt t = 0 ∧ t.wr = 0 ∧ t.op = 0 then 6 else 5) := fun i => rfl
  generalize want t = wn at *
  generalize sh t = s at *
  generalize wt t = r at *
  generalize planL t 100 = l at *
  obtain ⟨s3, s4⟩ := s1
  obtain ⟨s5, s6⟩ := s2
  have n1 : (s + r != s + r) = false := bne_self_eq_false _
  have n2 : s + r + 1 ≤ (l.length : Int) := p1
  have n3 : decide ((l.length : Int) < s + r + 1) = false := decide_eq_false (by omega)
  clear p1
  go_wp2_with fail
  go_loopw [11, 12] (fun i v wr => ∃ k : Nat, k ≤ l.length ∧ i = .int .i64 k ∧ wr = w4) (fun i _ _ => l.length - (intOf i).toNat)
  case atStart => exact ⟨0, by omega, rfl, rfl⟩
  case round =>
    obtain ⟨k, hk, rfl, rfl⟩ := hrel
    by_cases hlt : k < l.length
    · rcases HCC.out with h0 | ⟨bb, off, rfl, hcc⟩
      · rw [h0] at hlt; simp at hlt
      have c0 := hcc k hlt
      have e0 : l.getD k 0 = wn k := by rw [← P2.out k hlt]; simp [List.getD, hlt]
      rw [e0] at c0
      have W6 := Lib.hid (P3.out k hlt)
      have W7 := Lib.hid (WN.out k)
      clear hcc HCC e0
      have i1 : (0 : Int) ≤ (k : Int) := by omega
      have i2 : (k : Int) < (l.length : Int) := by omega
      generalize wn k = x at *
      by_cases h1 : (k : Int) < s
      · obtain rfl : x = 1 := by rw [W7.out, if_pos h1]
        clear W6 W7
        go_wp2_with fail
        go_roundw
        case rel => exact ⟨k + 1, by omega, by go_num, by first | rfl | trivial⟩
        case measure => simp [intOf]; omega
      · by_cases h2 : (k : Int) < s + r
        · obtain rfl : x = 4 := by rw [W7.out, if_neg h1, if_pos h2]
          clear W6 W7
          go_wp2_with fail
          go_roundw
          case rel => exact ⟨k + 1, by omega, by go_num, by first | rfl | trivial⟩
          case measure => simp [intOf]; omega
        · by_cases h3 : r = 0 ∧ t.wr = 0 ∧ t.op = 0
          · obtain rfl : x = 6 := by rw [W7.out, if_neg h1, if_neg h2, if_pos h3]
            have hkl := W6.out rfl
            have m1 : (r == 0) = true := by rw [beq_iff_eq]; exact h3.1
            have m2 : (t.wr == 0) = true := by rw [beq_iff_eq]; exact h3.2.1
            have m3 : (t.op == 0) = true := by rw [beq_iff_eq]; exact h3.2.2
            have m4 : ((k : Int) != (l.length : Int) - 1) = false := by rw [bne_eq_false_iff_eq]; omega
            clear W6 W7 h3 hkl
            go_wp2_with fail
            go_roundw
            case rel => exact ⟨k + 1, by omega, by go_num, by first | rfl | trivial⟩
            case measure => simp [intOf]; omega
          · obtain rfl : x = 5 := by rw [W7.out, if_neg h1, if_neg h2, if_neg h3]
            clear W6 W7
            have m : (r == 0) = false ∨ (r == 0) = true ∧ (t.wr == 0) = false ∨ (r == 0) = true ∧ (t.wr == 0) = true ∧ (t.op == 0) = false := by
              simp only [beq_eq_false_iff_ne, beq_iff_eq]
              omega
            clear h3
            rcases m with m1 | ⟨m1, m2⟩ | ⟨m1, m2, m3⟩
            · go_wp2_with fail
              go_roundw
              case rel => exact ⟨k + 1, by omega, by go_num, by first | rfl | trivial⟩
              case measure => simp [intOf]; omega
            · go_wp2_with fail
              go_roundw
              case rel => exact ⟨k + 1, by omega, by go_num, by first | rfl | trivial⟩
              case measure => simp [intOf]; omega
            · go_wp2_with fail
              go_roundw
              case rel => exact ⟨k + 1, by omega, by go_num, by first | rfl | trivial⟩
              case measure => simp [intOf]; omega
    · have hle : (l.length : Int) ≤ (k : Int) := by omega
      go_wp2_with fail
      go_ret
      exact ⟨rfl, B4.out⟩
end Go.Proofs.Ytfploaaelfjadaa
