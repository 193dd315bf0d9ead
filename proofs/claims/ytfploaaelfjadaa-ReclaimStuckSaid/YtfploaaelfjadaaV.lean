/- Helper facts for the statements of this seat; no statement itself. -/
import Derived.Test.YtfploaaelfjadaaS
import Derived.Test.YtfploaaelfjadaaMA
import Derived.Deep.DeepCutAuto
import Derived.Outline
namespace Go.Proofs.Ytfploaaelfjadaa
open Go.RowKit
set_option linter.unusedSimpArgs false
set_option linter.unusedVariables false
set_option linter.unnecessarySimpa false

/-- The tally with one thing more. -/
def mor (k : Nat) (t : T) : T := if k = 0 then { t with ob := t.ob + 1 } else if k = 1 then { t with ac := t.ac + 1 } else if k = 2 then { t with sl := t.sl + 1 } else { t with rm := t.rm + 1 }
theorem mor_ok {t : T} (h : MadeT t) (k : Nat) : Ok (mor k t) := by
  obtain ⟨⟨a1, a2, a3, a4, a5, a6, a7, a8, a9, a10, a11, a12⟩, b1, b2, b3, b4, b5⟩ := h
  unfold mor
  split
  · exact ⟨a1, by simp only []; omega, a3, a4, a5, a6, a7, a8, a9, a10, a11, a12⟩
  · split
    · exact ⟨a1, a2, by simp only []; omega, a4, a5, a6, a7, a8, a9, a10, a11, a12⟩
    · split
      · exact ⟨a1, a2, a3, a4, a5, by simp only []; omega, a7, a8, a9, a10, a11, a12⟩
      · exact ⟨a1, a2, a3, a4, a5, a6, a7, a8, a9, a10, by simp only []; omega, a12⟩
theorem mor_stuck {t : T} (h : MadeT t) (k : Nat) (hd : dir (mor k t) = 6) : dir t = 6 := by
  have hk := (stuck_iff (mor_ok h k)).1 hd
  have hok := mor_ok h k
  rw [stuck_iff h.1]
  have h0 := h.1.ob
  have h1 := h.1.ac
  have h2 := h.1.ia
  have h3 := h.1.sl
  have h4 := h.1.rm
  unfold mor at hk
  split at hk
  · simp only [] at hk; omega
  · split at hk
    · simp only [] at hk; omega
    · split at hk
      · simp only [] at hk; omega
      · simp only [] at hk; omega

set_option maxRecDepth 100000 in
set_option maxHeartbeats 4000000 in
theorem reclaimStuck_walk (ad : Option Addr) (n cap : Nat) (w : World) (hn : n ≤ 9223372036854775807) (hl : SomeInts w ad n) : Calls Try.prog 7 #[.slice ad n cap] w fun e w' => e = .returned (.bool true) ∧ Below w.heap.size w w' := by
  have HL := Lib.hid hl
  clear hl
  go_enter Try.func7, Try.ntmps7
  go_wp2_with fail
  refine (reclaimKnown_walk _).mono ?_
  rintro e w1 ⟨rfl, hb⟩
  have L1 := Lib.hid (HL.out.keep hb)
  have B1 := Lib.hid hb
  clear hb HL
  go_wp2_with fail
  refine (made_any ad n cap _ hn L1.out).mono ?_
  rintro e w2 ⟨t, hm, rfl, hb⟩
  have HM := Lib.hid hm
  have B2 := Lib.hid (btrans B1.out hb)
  clear hb hm L1 B1
  have HE : Hid (chk t = 0 ∧ skL t = (dir t == 6) ∧ W64 t) := by
    have e := ok_chk HM.out.1
    exact ⟨e, if_pos e, w64_of HM.out.1⟩
  obtain ⟨g, hg⟩ : ∃ g, g = w2.heap.size := ⟨_, rfl⟩
  have H2 : Hid ((w2.alloc (.cells (tC t) 23)).heap[w2.heap.size]? = some (.cells (tC t) 23 (0, 0))) := h1_0 _ _
  go_wp2_with (first | ((with_reducible refine stTn ?a1 (.tmp 4) (.tmp 13) ?a2 t ?a3 ?a4 ?a5 ?_); (case a1 => rfl); (case a2 => rfl); (case a3 => rfl); (case a4 => rfl); (case a5 => rfl)) | ((with_reducible refine ldT ?b1 (.tmp 4) ?b2 w2.heap.size ?b3 t 23 H2 ?_); (case b1 => rfl); (case b2 => rfl); (case b3 => rfl)))
  refine (pStuck_any t _ HE.out.2.2).mono ?_
  rintro e w3 ⟨rfl, hb⟩
  rw [HE.out.1, HE.out.2.1, ← hg]
  have H3 : Hid (w3.heap[g]? = some (.cells (tC t) 23 (0, 0))) := by rw [hg]; exact bkeep hb H2.out
  have B3 := Lib.hid (btrans (balloc B2.out _) hb)
  have hgw : w.heap.size ≤ g := by rw [hg]; exact B2.out.size
  clear hb H2 B2 hg
  obtain ⟨b, hb⟩ : ∃ b, b = (dir t == 6) := ⟨_, rfl⟩
  have HB := Lib.hid hb
  rw [← hb]
  clear hb
  go_upto_region 4 with fail
  go_cut [5, 55] (fun s5 v wx => s5 = .bool b ∧ v = .bool false ∧ wx = w3)
  case first =>
    have HS := Lib.hid (stuck_iff HM.out.1)
    have HOK := Lib.hid HM.out.1
    obtain ⟨q0, q1, q2, q3, q4, q5, q6, q7, q8, q9, q10, q11, q12, q13, q14⟩ := t15 H3.out
    obtain ⟨o3, o4⟩ := HOK.out.ac
    obtain ⟨o5, o6⟩ := HOK.out.ia
    have hsum : 0 ≤ t.ac + t.ia := by omega
    have bT : Hid ((t.ob = 0 ∧ t.wr = 0 ∧ t.op = 0 ∧ (t.ac + t.ia = 0 ∨ t.rm = 0 ∨ t.sl = 0)) → b = true) := fun h => by rw [HB.out, beq_iff_eq]; exact HS.out.2 h
    have bF : Hid (¬ (t.ob = 0 ∧ t.wr = 0 ∧ t.op = 0 ∧ (t.ac + t.ia = 0 ∨ t.rm = 0 ∨ t.sl = 0)) → b = false) := fun h => by rw [HB.out, beq_eq_false_iff_ne]; exact fun e => h (HS.out.1 e)
    have cs : ((t.ob == 0) = false ∧ b = false) ∨ ((t.ob == 0) = true ∧ (t.wr == 0) = false ∧ b = false) ∨ ((t.ob == 0) = true ∧ (t.wr == 0) = true ∧ (t.op == 0) = false ∧ b = false) ∨ ((t.ob == 0) = true ∧ (t.wr == 0) = true ∧ (t.op == 0) = true ∧ (t.ac + t.ia == 0) = true ∧ b = true) ∨ ((t.ob == 0) = true ∧ (t.wr == 0) = true ∧ (t.op == 0) = true ∧ (t.ac + t.ia == 0) = false ∧ (t.rm == 0) = true ∧ b = true) ∨ ((t.ob == 0) = true ∧ (t.wr == 0) = true ∧ (t.op == 0) = true ∧ (t.ac + t.ia == 0) = false ∧ (t.rm == 0) = false ∧ (t.sl == 0) = true ∧ b = true) ∨ ((t.ob == 0) = true ∧ (t.wr == 0) = true ∧ (t.op == 0) = true ∧ (t.ac + t.ia == 0) = false ∧ (t.rm == 0) = false ∧ (t.sl == 0) = false ∧ b = false) := by
      simp only [beq_eq_false_iff_ne, beq_iff_eq]
      by_cases a1 : t.ob = 0
      · by_cases a2 : t.wr = 0
        · by_cases a3 : t.op = 0
          · by_cases a4 : t.ac + t.ia = 0
            · exact .inr (.inr (.inr (.inl ⟨a1, a2, a3, a4, bT.out ⟨a1, a2, a3, .inl a4⟩⟩)))
            · by_cases a5 : t.rm = 0
              · exact .inr (.inr (.inr (.inr (.inl ⟨a1, a2, a3, a4, a5, bT.out ⟨a1, a2, a3, .inr (.inl a5)⟩⟩))))
              · by_cases a6 : t.sl = 0
                · exact .inr (.inr (.inr (.inr (.inr (.inl ⟨a1, a2, a3, a4, a5, a6, bT.out ⟨a1, a2, a3, .inr (.inr a6)⟩⟩)))))
                · exact .inr (.inr (.inr (.inr (.inr (.inr ⟨a1, a2, a3, a4, a5, a6, bF.out (by omega)⟩)))))
          · exact .inr (.inr (.inl ⟨a1, a2, a3, bF.out (by omega)⟩))
        · exact .inr (.inl ⟨a1, a2, bF.out (by omega)⟩)
      · exact .inl ⟨a1, bF.out (by omega)⟩
    clear bT bF HS HB
    rcases cs with ⟨a1, rfl⟩ | ⟨a1, a2, rfl⟩ | ⟨a1, a2, a3, rfl⟩ | ⟨a1, a2, a3, a4, rfl⟩ | ⟨a1, a2, a3, a4, a5, rfl⟩ | ⟨a1, a2, a3, a4, a5, a6, rfl⟩ | ⟨a1, a2, a3, a4, a5, a6, rfl⟩
    all_goals
      go_wp2_with fail
      go_meet
      exact ⟨rfl, rfl, rfl⟩
  case rest =>
    obtain ⟨rfl, rfl, rfl⟩ := hcut
    obtain ⟨w3, rfl⟩ : ∃ x, x = wc := ⟨_, rfl⟩
    go_wp2_with fail
    go_loopw [7, 8, 9, 10] (fun i p q r wr => ∃ k : Nat, k ≤ 4 ∧ i = .int .i64 k ∧ Hid (wr.heap[g]? = some (.cells (tC t) 23 (0, 0))) ∧ Hid (Below w.heap.size w wr)) (fun i _ _ _ _ => 4 - (intOf i).toNat)
    case atStart => exact ⟨0, by omega, rfl, H3, B3⟩
    case round =>
      obtain ⟨k, hk, rfl, hx, hb⟩ := hrel
      clear H3 B3
      by_cases hlt : k < 4
      · have i1 : (0 : Int) ≤ (k : Int) := by omega
        have i2 : (k : Int) < 4 := by omega
        have HE : Hid (chk (mor k t) = 0 ∧ W64 (mor k t) ∧ (skL (mor k t) = false ∨ (skL (mor k t) = true ∧ b = true))) := by
          have e := ok_chk (mor_ok HM.out k)
          refine ⟨e, w64_of (mor_ok HM.out k), ?_⟩
          have e2 : skL (mor k t) = (dir (mor k t) == 6) := if_pos e
          rw [e2]
          by_cases h6 : dir (mor k t) = 6
          · right
            exact ⟨by simpa using h6, by rw [HB.out, beq_iff_eq]; exact mor_stuck HM.out k h6⟩
          · left; simpa using h6
        obtain ⟨o1, o2⟩ := HM.out.1.ob
        obtain ⟨o3, o4⟩ := HM.out.1.ac
        obtain ⟨o5, o6⟩ := HM.out.1.sl
        obtain ⟨o7, o8⟩ := HM.out.1.rm
        have cs : (((k : Int) == 0) = true ∧ mor k t = { t with ob := t.ob + 1 }) ∨ (((k : Int) == 0) = false ∧ ((k : Int) == 1) = true ∧ mor k t = { t with ac := t.ac + 1 }) ∨ (((k : Int) == 0) = false ∧ ((k : Int) == 1) = false ∧ ((k : Int) == 2) = true ∧ mor k t = { t with sl := t.sl + 1 }) ∨ (((k : Int) == 0) = false ∧ ((k : Int) == 1) = false ∧ ((k : Int) == 2) = false ∧ mor k t = { t with rm := t.rm + 1 }) := by
          simp only [beq_eq_false_iff_ne, beq_iff_eq]
          obtain rfl | rfl | rfl | rfl : k = 0 ∨ k = 1 ∨ k = 2 ∨ k = 3 := by omega
          · exact .inl ⟨rfl, rfl⟩
          · exact .inr (.inl ⟨by omega, rfl, rfl⟩)
          · exact .inr (.inr (.inl ⟨by omega, by omega, rfl, rfl⟩))
          · exact .inr (.inr (.inr ⟨by omega, by omega, by omega, rfl⟩))
        rcases cs with ⟨a1, hm⟩ | ⟨a1, a2, hm⟩ | ⟨a1, a2, a3, hm⟩ | ⟨a1, a2, a3, hm⟩
        all_goals
          have HMM := Lib.hid hm
          clear hm
          rw [HMM.out] at HE
          obtain ⟨q0, q1, q2, q3, q4, q5, q6, q7, q8, q9, q10, q11, q12, q13, q14⟩ := t15 hx.out
          go_wp2_with fail
          refine (pStuck_any _ _ HE.out.2.1).mono ?_
          rintro e w5 ⟨rfl, hb5⟩
          rw [HE.out.1]
          have X5 : Hid (w5.heap[g]? = some (.cells (tC t) 23 (0, 0))) := bkeep (bfirst _ _ hb5).2 hx.out
          have B5 : Hid (Below w.heap.size w w5) := btrans hb.out (bfirst _ _ hb5).2
          clear hb5 hx hb q0 q1 q2 q3 q4 q5 q6 q7 q8 q9 q10 q11 q12 q13 q14
          rcases HE.out.2.2 with e1 | ⟨e1, e2⟩
          · rw [e1]
            clear HE
            go_wp2_with fail
            go_roundw
            case rel => exact ⟨k + 1, by omega, by go_num, X5, B5⟩
            case measure => simp [intOf]; omega
          · rw [e1]
            subst e2
            clear HE
            go_wp2_with fail
            go_roundw
            case rel => exact ⟨k + 1, by omega, by go_num, X5, B5⟩
            case measure => simp [intOf]; omega
      · have i2 : (4 : Int) ≤ (k : Int) := by omega
        go_wp2_with fail
        go_ret
        exact ⟨rfl, hb.out⟩
end Go.Proofs.Ytfploaaelfjadaa
