/- Helper facts for the statements of this seat; no statement itself. -/
import Derived.Test.YtbdhjiadomifeaaY
namespace Go.Proofs.Ytbdhjiadomifeaa
open Go.RowKit
set_option linter.unusedSimpArgs false
set_option linter.unusedVariables false
set_option linter.unnecessarySimpa false

/-- The value of a digit, or -1. -/
def vR (b : Nat) : Int := if isHx b = true then (hxv b : Int) else -1
theorem vR_hit (b i : Nat) (hi : i < 16) (h : dg i = (b : Int)) : vR b = (i : Int) := by
  unfold dg at h
  have hb : isHx b = true ∧ hxv b = i := by
    unfold isHx hxv
    split at h <;> (constructor <;> (try simp) <;> (try split) <;> omega)
  unfold vR
  rw [if_pos hb.1, hb.2]
theorem vR_miss (b : Nat) (h : ∀ i, i < 16 → dg i ≠ (b : Int)) : vR b = -1 := by
  unfold vR
  rw [if_neg]
  intro hx
  simp [isHx] at hx
  rcases hx with hx | hx
  · apply h (b - 48) (by omega); unfold dg; rw [if_pos (by omega)]; omega
  · apply h (b - 87) (by omega); unfold dg; rw [if_neg (by omega)]; omega

theorem run_digitI (d : Nat) (h : d < 16) (w : World) : (Instr.index 9 (.string ⟨#[48, 49, 50, 51, 52, 53, 54, 55, 56, 57, 97, 98, 99, 100, 101, 102]⟩) (.int .i64 (d : Int))).run Try.prog w = .ok (.int .u8 (dg d)) w := by
  rcases lt16 h with rfl | rfl | rfl | rfl | rfl | rfl | rfl | rfl | rfl | rfl | rfl | rfl | rfl | rfl | rfl | rfl <;> rfl

set_option maxHeartbeats 400000 in
theorem value_any (b : Nat) (w : World) : Calls Try.prog 43 #[.int .u8 b] w fun e w' => e = .returned (.int .i64 (vR b)) ∧ w = w' := by
  go_enter Try.func43, Try.ntmps43
  go_wp2
  go_loop [3] (fun i => ∃ k : Nat, k ≤ 16 ∧ i = .int .i64 k ∧ Hid (∀ j, j < k → dg j ≠ (b : Int))) (fun i => 16 - (intOf i).toNat)
  case atStart => exact ⟨0, by omega, rfl, fun j hj => by omega⟩
  case round =>
    obtain ⟨k, hk, rfl, hm⟩ := hrel
    by_cases hlt : k < 16
    · have hix := run_digitI k hlt
      by_cases he : dg k = (b : Int)
      · have HV := Lib.hid (vR_hit b k hlt he)
        have heq : (dg k == (b : Int)) = true := by simpa using he
        clear he
        generalize dg k = y at *
        go_wp2
        go_ret
        exact ⟨ret_int HV.out.symm, rfl⟩
      · have heq : (dg k == (b : Int)) = false := by simpa using he
        have hm2 : Hid (∀ j, j < k + 1 → dg j ≠ (b : Int)) := fun j hj => by
          by_cases e : j = k
          · rw [e]; exact he
          · exact hm.out j (by omega)
        clear he hm
        generalize dg k = y at hix heq
        go_wp2
        go_round
        case rel => exact ⟨k + 1, by omega, by go_num, hm2⟩
        case measure => simp [intOf]; omega
    · have HV := Lib.hid (vR_miss b (fun j hj => hm.out j (by omega)))
      go_wp2
      go_ret
      exact ⟨ret_int HV.out.symm, rfl⟩

theorem run_bt (s : ByteArray) (k : Nat) (h : k < s.size) (w : World) : (Instr.index 9 (.string s) (.int .i64 (k : Int))).run Try.prog w = .ok (.int .u8 ((bt s k : Nat) : Int)) w := by
  have h2 : s.data.toList.getD k 0 = s[k] := by
    have h3 : k < s.data.toList.length := by simpa using h
    rw [List.getD_eq_getElem?_getD, List.getElem?_eq_getElem h3]
    rfl
  unfold bt
  rw [h2]
  simp [Instr.index, Sem.run_bind, asIntOf, run_underlying Try.underlying9 w, h]

set_option maxHeartbeats 1000000 in
theorem rparse_long (s : ByteArray) (w : World) (h : 135 < s.size) (h2 : s.size ≤ 9223372036854775807) :
    Calls Try.prog 33 #[.string s] w fun e w' => e = .returned (.tuple #[.agg (W8 (List.replicate 8 0)), .agg #[.int .i64 4, .int .i64 135]]) ∧ Below w.heap.size w w' := by
  go_enter Try.func33, Try.ntmps33
  go_wp2
  refine bodyPost_ret (v := .tuple #[.agg (W8 (List.replicate 8 0)), .agg #[.int .i64 4, .int .i64 135]]) ?_ rfl ⟨rfl, ?_⟩
  · refine res_two (fn := Try.f33) (p := 2) (u := 3) rfl _ _ w.heap.size (w.heap.size + 1) 24 50 (List.replicate 8 0) 4 135 (by simp) ?_ ?_ ?_ ?_
    · rfl
    · exact h2_0 _ _ _
    · rfl
    · exact h2_1 _ _ _
  · exact (((Below.refl _ _).alloc (Nat.le_refl _) _).alloc (by simp only [World.size_alloc] <;> omega) _)

theorem mul_step (x d : Nat) (hx : x < 18446744073709551616) (hd : d < 16) : IntKind.u64.wrap (IntKind.u64.wrap (16 * (x : Int)) + (d : Int)) = ((x * 16 % 18446744073709551616 + d : Nat) : Int) := by
  simp only [IntKind.wrap_u64]; omega

set_option maxHeartbeats 2000000 in
set_option maxRecDepth 100000 in
theorem rparse_short (s : ByteArray) (w : World) (h : s.size ≤ 135) :
    Calls Try.prog 33 #[.string s] w fun e w' => e = .returned (.tuple #[.agg (W8 (prC s)), .agg #[.int .i64 (prE s), .int .i64 (prA s)]]) ∧ Below w.heap.size w w' := by
  go_enter Try.func33, Try.ntmps33
  go_wp2
  have P3 : Hid (PW w s 0 (((w.alloc (.cells (W8 (List.replicate 8 0)) 24)).alloc (.cells #[.int .i64 0, .int .i64 0] 50)).alloc (.cells (W8 (List.replicate 8 0)) 24))) := ⟨h3_0 _ _ _ _, h3_1 _ _ _ _, h3_2 _ _ _ _, ((((Below.refl _ _).alloc (Nat.le_refl _) _).alloc (by simp only [World.size_alloc] <;> omega) _).alloc (by simp only [World.size_alloc] <;> omega) _)⟩
  go_loopw [5] (fun i wr => ∃ k : Nat, k ≤ 135 ∧ k ≤ s.size ∧ i = .int .i64 k ∧ Hid (GoodK s k) ∧ Hid (PW w s k wr)) (fun i _ => 135 - (intOf i).toNat)
  case atStart => exact ⟨0, by omega, by omega, rfl, fun j hj => by omega, P3⟩
  case round =>
    obtain ⟨k, hk, hks, rfl, hg, hpw⟩ := hrel
    clear P3
    by_cases hlt : k < 135
    · by_cases hend : k = s.size
      · have HBD : Hid (bad s = k) := by
          show _ = _
          rw [hend] at hg ⊢
          exact bad_end s hg.out
        have heq : ((k : Int) == (s.size : Int)) = true := by simp; omega
        clear hend
        clear hg
        go_wp2_with (first | ((with_reducible refine st24 ?a0 (.tmp 2) (.tmp 21) ?a1 w.heap.size (List.replicate 8 0) (List.replicate 8 0) ?a2 ?a3 ?a4 ?a4 24 ?a5 ?_); (case a0 => rfl); (case a1 => rfl); (case a2 => rfl); (case a3 => rfl); (case a4 => simp); (case a5 => exact hpw.out.1)) | ((with_reducible refine st50 ?b0 (.tmp 3) (.tmp 23) ?b1 (w.heap.size + 1) 3 (k : Int) #[.int .i64 0, .int .i64 0] ?b2 ?b3 ?b4 50 ?b5 ?_); (case b0 => rfl); (case b1 => rfl); (case b2 => rfl); (case b3 => rfl); (case b4 => rfl); (case b5 => rw [setRow_other _ _ _ _ (by omega)]; exact hpw.out.2.1)))
        refine bodyPost_ret (v := .tuple #[.agg (W8 (List.replicate 8 0)), .agg #[.int .i64 3, .int .i64 (k : Int)]]) ?_ rfl ⟨?_, ?_⟩
        · refine res_two (fn := Try.f33) (p := 2) (u := 3) rfl _ _ w.heap.size (w.heap.size + 1) 24 50 (List.replicate 8 0) 3 (k : Int) (by simp) ?_ ?_ ?_ ?_
          · rfl
          · rw [setRow_other _ _ _ _ (by omega)]; exact setRow_heap _ _ _ _ _ _ hpw.out.1
          · rfl
          · exact setRow_heap _ _ #[.int .i64 0, .int .i64 0] _ _ _ (by rw [setRow_other _ _ _ _ (by omega)]; exact hpw.out.2.1)
        · rw [pr_bad s h (by rw [HBD.out]; omega), HBD.out]
        · exact below_setRow (below_setRow hpw.out.2.2.2 (by omega) _) (by omega) _
      · have hlt2 : k < s.size := by omega
        have heq : ((k : Int) == (s.size : Int)) = false := by simp; omega
        have hix := run_bt s k hlt2
        have hblt := bt_lt s k
        obtain ⟨cq, fq⟩ := hpw.out.cells hg.out (k / 17) (by omega)
        have hxq : gd (contK s k) (k / 17) < 18446744073709551616 := pg_lt (contK_pg s k hg.out) (k / 17)
        clear hend
        go_wp2_with fail
        refine (value_any (bt s k) _).mono ?_
        rintro e w' ⟨rfl, rfl⟩
        by_cases h16 : k % 17 = 16
        · have e16 : ((k : Int) % 17 == 16) = true := by simp; omega
          have HC : Hid (contK s (k + 1) = contK s k) := by show _ = _; simp only [contK, stepC]; rw [if_pos h16]
          clear cq fq
          by_cases h32 : bt s k = 32
          · have HOK : okB (bt s k) k = true := by unfold okB; rw [if_pos h16, h32]; rfl
            have e32 : (((bt s k : Nat) : Int) == 32) = true := by simp; omega
            clear h16 h32
            generalize vR (bt s k) = vv
            generalize bt s k = y at hix e32 hblt
            go_wp2
            go_roundw
            case rel => exact ⟨k + 1, by omega, by omega, by go_num, good_succ hg.out HOK, by rw [PW, HC.out]; exact hpw⟩
            case measure => simp [intOf]; omega
          · have HOK : okB (bt s k) k = false := by unfold okB; rw [if_pos h16]; simp; exact h32
            have e32 : (((bt s k : Nat) : Int) == 32) = false := by simp; omega
            have HBD := Lib.hid (bad_at s k hg.out hlt2 HOK)
            clear h16 h32
            generalize vR (bt s k) = vv
            generalize bt s k = y at hix e32 hblt
            clear hg
            go_wp2_with (first | ((with_reducible refine st24 ?a0 (.tmp 2) (.tmp 45) ?a1 w.heap.size (List.replicate 8 0) (List.replicate 8 0) ?a2 ?a3 ?a4 ?a4 24 ?a5 ?_); (case a0 => rfl); (case a1 => rfl); (case a2 => rfl); (case a3 => rfl); (case a4 => simp); (case a5 => exact hpw.out.1)) | ((with_reducible refine st50 ?b0 (.tmp 3) (.tmp 47) ?b1 (w.heap.size + 1) 3 (k : Int) #[.int .i64 0, .int .i64 0] ?b2 ?b3 ?b4 50 ?b5 ?_); (case b0 => rfl); (case b1 => rfl); (case b2 => rfl); (case b3 => rfl); (case b4 => rfl); (case b5 => rw [setRow_other _ _ _ _ (by omega)]; exact hpw.out.2.1)))
            refine bodyPost_ret (v := .tuple #[.agg (W8 (List.replicate 8 0)), .agg #[.int .i64 3, .int .i64 (k : Int)]]) ?_ rfl ⟨?_, ?_⟩
            · refine res_two (fn := Try.f33) (p := 2) (u := 3) rfl _ _ w.heap.size (w.heap.size + 1) 24 50 (List.replicate 8 0) 3 (k : Int) (by simp) ?_ ?_ ?_ ?_
              · rfl
              · rw [setRow_other _ _ _ _ (by omega)]; exact setRow_heap _ _ _ _ _ _ hpw.out.1
              · rfl
              · exact setRow_heap _ _ #[.int .i64 0, .int .i64 0] _ _ _ (by rw [setRow_other _ _ _ _ (by omega)]; exact hpw.out.2.1)
            · rw [pr_bad s h (by rw [HBD.out]; omega), HBD.out]
            · exact below_setRow (below_setRow hpw.out.2.2.2 (by omega) _) (by omega) _
        · have e16 : ((k : Int) % 17 == 16) = false := by simp; omega
          by_cases hx : isHx (bt s k) = true
          · have HOK : okB (bt s k) k = true := by unfold okB; rw [if_neg h16]; exact hx
            have e32 : (((bt s k : Nat) : Int) == 32) = false := by
              simp [isHx] at hx
              simp; omega
            have hvr : vR (bt s k) = (hxv (bt s k) : Int) := by unfold vR; rw [if_pos hx]
            have hv16 := hxv_lt hx
            have hmul := mul_step (gd (contK s k) (k / 17)) (hxv (bt s k)) hxq hv16
            have HP : Hid (PW w s (k + 1) (wr.setCell ⟨w.heap.size + 1 + 1, k / 17, none⟩ (.int .u64 (((gd (contK s k) (k / 17)) * 16 % 18446744073709551616 + hxv (bt s k) : Nat) : Int)))) :=
              PW_step hpw.out (k / 17) ((gd (contK s k) (k / 17)) * 16 % 18446744073709551616 + hxv (bt s k)) (by simp only [contK, stepC]; rw [if_neg h16]; rfl)
            rw [hvr]
            clear h16 hvr hx
            generalize (gd (contK s k) (k / 17)) * 16 % 18446744073709551616 + hxv (bt s k) = z at *
            generalize gd (contK s k) (k / 17) = q at *
            generalize hxv (bt s k) = vv at *
            generalize bt s k = y at hix e32 hblt
            clear hpw
            go_wp2
            go_roundw
            case rel => exact ⟨k + 1, by omega, by omega, by go_num, good_succ hg.out HOK, HP⟩
            case measure => simp [intOf]; omega
          · have HOK : okB (bt s k) k = false := by unfold okB; rw [if_neg h16]; simpa using hx
            have HBD := Lib.hid (bad_at s k hg.out hlt2 HOK)
            have hvr : vR (bt s k) = -1 := by unfold vR; rw [if_neg hx]
            rw [hvr]
            clear h16 hvr hx cq fq
            by_cases h32 : bt s k = 32
            · have e32 : (((bt s k : Nat) : Int) == 32) = true := by simp; omega
              clear h32
              generalize bt s k = y at hix e32 hblt
              clear hg
              go_wp2_with (first | ((with_reducible refine st24 ?a0 (.tmp 2) (.tmp 45) ?a1 w.heap.size (List.replicate 8 0) (List.replicate 8 0) ?a2 ?a3 ?a4 ?a4 24 ?a5 ?_); (case a0 => rfl); (case a1 => rfl); (case a2 => rfl); (case a3 => rfl); (case a4 => simp); (case a5 => exact hpw.out.1)) | ((with_reducible refine st50 ?b0 (.tmp 3) (.tmp 47) ?b1 (w.heap.size + 1) 3 (k : Int) #[.int .i64 0, .int .i64 0] ?b2 ?b3 ?b4 50 ?b5 ?_); (case b0 => rfl); (case b1 => rfl); (case b2 => rfl); (case b3 => rfl); (case b4 => rfl); (case b5 => rw [setRow_other _ _ _ _ (by omega)]; exact hpw.out.2.1)))
              refine bodyPost_ret (v := .tuple #[.agg (W8 (List.replicate 8 0)), .agg #[.int .i64 3, .int .i64 (k : Int)]]) ?_ rfl ⟨?_, ?_⟩
              · refine res_two (fn := Try.f33) (p := 2) (u := 3) rfl _ _ w.heap.size (w.heap.size + 1) 24 50 (List.replicate 8 0) 3 (k : Int) (by simp) ?_ ?_ ?_ ?_
                · rfl
                · rw [setRow_other _ _ _ _ (by omega)]; exact setRow_heap _ _ _ _ _ _ hpw.out.1
                · rfl
                · exact setRow_heap _ _ #[.int .i64 0, .int .i64 0] _ _ _ (by rw [setRow_other _ _ _ _ (by omega)]; exact hpw.out.2.1)
              · rw [pr_bad s h (by rw [HBD.out]; omega), HBD.out]
              · exact below_setRow (below_setRow hpw.out.2.2.2 (by omega) _) (by omega) _
            · have e32 : (((bt s k : Nat) : Int) == 32) = false := by simp; omega
              clear h32
              generalize bt s k = y at hix e32 hblt
              clear hg
              go_wp2_with (first | ((with_reducible refine st24 ?a0 (.tmp 2) (.tmp 45) ?a1 w.heap.size (List.replicate 8 0) (List.replicate 8 0) ?a2 ?a3 ?a4 ?a4 24 ?a5 ?_); (case a0 => rfl); (case a1 => rfl); (case a2 => rfl); (case a3 => rfl); (case a4 => simp); (case a5 => exact hpw.out.1)) | ((with_reducible refine st50 ?b0 (.tmp 3) (.tmp 47) ?b1 (w.heap.size + 1) 3 (k : Int) #[.int .i64 0, .int .i64 0] ?b2 ?b3 ?b4 50 ?b5 ?_); (case b0 => rfl); (case b1 => rfl); (case b2 => rfl); (case b3 => rfl); (case b4 => rfl); (case b5 => rw [setRow_other _ _ _ _ (by omega)]; exact hpw.out.2.1)))
              refine bodyPost_ret (v := .tuple #[.agg (W8 (List.replicate 8 0)), .agg #[.int .i64 3, .int .i64 (k : Int)]]) ?_ rfl ⟨?_, ?_⟩
              · refine res_two (fn := Try.f33) (p := 2) (u := 3) rfl _ _ w.heap.size (w.heap.size + 1) 24 50 (List.replicate 8 0) 3 (k : Int) (by simp) ?_ ?_ ?_ ?_
                · rfl
                · rw [setRow_other _ _ _ _ (by omega)]; exact setRow_heap _ _ _ _ _ _ hpw.out.1
                · rfl
                · exact setRow_heap _ _ #[.int .i64 0, .int .i64 0] _ _ _ (by rw [setRow_other _ _ _ _ (by omega)]; exact hpw.out.2.1)
              · rw [pr_bad s h (by rw [HBD.out]; omega), HBD.out]
              · exact below_setRow (below_setRow hpw.out.2.2.2 (by omega) _) (by omega) _
    · have HK := Lib.hid (show k = 135 by omega)
      have HBD : Hid (¬ bad s < 135) := by
        show ¬ _
        have e : s.size = 135 := by omega
        have := bad_end s (by rw [e, ← HK.out]; exact hg.out)
        omega
      have HLC := Lib.hid (contK_pg s k hg.out).1
      clear hg
      go_wp2_with (first | ((with_reducible refine ld24 ?c0 (.tmp 4) ?c1 (w.heap.size + 1 + 1) ?c2 (contK s k) ?c3 24 ?c4 ?_); (case c0 => rfl); (case c1 => rfl); (case c2 => rfl); (case c3 => exact HLC.out); (case c4 => exact hpw.out.2.2.1)) | ((with_reducible refine st24 ?a0 (.tmp 2) (.tmp 61) ?a1 w.heap.size (contK s k) (List.replicate 8 0) ?a2 ?a3 ?a4 ?a6 24 ?a5 ?_); (case a0 => rfl); (case a1 => rfl); (case a2 => rfl); (case a3 => rfl); (case a4 => exact HLC.out); (case a6 => simp); (case a5 => exact hpw.out.1)) | ((with_reducible refine st50 ?b0 (.tmp 3) (.tmp 62) ?b1 (w.heap.size + 1) 0 0 #[.int .i64 0, .int .i64 0] ?b2 ?b3 ?b4 50 ?b5 ?_); (case b0 => rfl); (case b1 => rfl); (case b2 => rfl); (case b3 => rfl); (case b4 => rfl); (case b5 => rw [setRow_other _ _ _ _ (by omega)]; exact hpw.out.2.1)))
      refine bodyPost_ret (v := .tuple #[.agg (W8 (contK s k)), .agg #[.int .i64 0, .int .i64 0]]) ?_ rfl ⟨?_, ?_⟩
      · refine res_two (fn := Try.f33) (p := 2) (u := 3) rfl _ _ w.heap.size (w.heap.size + 1) 24 50 (contK s k) 0 0 HLC.out ?_ ?_ ?_ ?_
        · rfl
        · rw [setRow_other _ _ _ _ (by omega)]; exact setRow_heap _ _ _ _ _ _ hpw.out.1
        · rfl
        · exact setRow_heap _ _ #[.int .i64 0, .int .i64 0] _ _ _ (by rw [setRow_other _ _ _ _ (by omega)]; exact hpw.out.2.1)
      · rw [pr_ok s h HBD.out, HK.out]
      · exact below_setRow (below_setRow hpw.out.2.2.2 (by omega) _) (by omega) _

end Go.Proofs.Ytbdhjiadomifeaa
