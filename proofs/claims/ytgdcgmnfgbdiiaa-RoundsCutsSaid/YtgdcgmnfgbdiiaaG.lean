/- Helper facts for the statements of this seat; no statement itself. -/
import Derived.Test.YtgdcgmnfgbdiiaaD
import Derived.Outline
namespace Go.Proofs.Ytgdcgmnfgbdiiaa
open Go.RowKit
set_option linter.unusedSimpArgs false
set_option linter.unusedVariables false
set_option linter.unnecessarySimpa false

theorem idxF_snoc (o : Int) (l : List Bool) (b : Bool) : idxF o (l ++ [b]) = if b = true then idxF o l ++ [o + l.length] else idxF o l := by
  induction l generalizing o with
  | nil => cases b <;> simp [idxF]
  | cons x l ih =>
    show (if x = true then o :: idxF (o + 1) (l ++ [b]) else idxF (o + 1) (l ++ [b])) = _
    rw [ih]
    cases x <;> cases b <;> simp [idxF] <;> omega
theorem idx_take (b : List Bool) (k : Nat) (hk : k < b.length) : idx (b.take (k + 1)) = if b.getD k false = true then idx (b.take k) ++ [(k : Int)] else idx (b.take k) := by
  unfold idx
  rw [List.take_succ_eq_append_getElem hk, idxF_snoc]
  have e1 : b[k] = b.getD k false := by simp [List.getD, hk]
  have e2 : (0 : Int) + ((b.take k).length : Int) = k := by simp; omega
  rw [e1, e2]
theorem idxF_len (o : Int) (b : List Bool) : (idxF o b).length ≤ b.length := by
  induction b generalizing o with
  | nil => simp [idxF]
  | cons x l ih =>
    have := ih (o + 1)
    unfold idxF
    split <;> simp <;> omega
theorem idx_len (b : List Bool) : (idx b).length ≤ b.length := idxF_len 0 b

set_option maxHeartbeats 1000000 in
theorem setList_any (a : List Bool) (w : World) (ha : a.length = 9) : Calls Try.prog 42 #[.int .u16 (enc a)] w fun e w' => ∃ v, e = .returned v ∧ IsInts w' v (idx a) ∧ Below w.heap.size w w' := by
  have HA := Lib.hid ha
  clear ha
  go_enter Try.func42, Try.ntmps42
  go_wp2_with fail
  go_loopw [3, 4] (fun v i wr => ∃ k : Nat, k ≤ 9 ∧ i = .int .i64 k ∧ Hid (Own wr w.heap.size v (idx (a.take k))) ∧ Hid (Below w.heap.size w wr)) (fun _ i _ => 9 - (intOf i).toNat)
  case atStart => exact ⟨0, by omega, rfl, Own.nil _ _, Below.refl _ _⟩
  case round =>
    obtain ⟨k, hk, rfl, ho, hb⟩ := hrel
    by_cases hlt : k < 9
    · have i1 : (0 : Int) ≤ (k : Int) := by omega
      have i2 : (k : Int) ≤ 8 := by omega
      have HT := Lib.hid (idx_take a k (by rw [HA.out]; exact hlt))
      have hln : (idx (a.take k)).length ≤ 9 := by have := idx_len (a.take k); rw [List.length_take, HA.out] at this; omega
      have hsz := hb.out.size
      have HH := Lib.hid (fun w => has_any a (k : Int) w HA.out i1 i2)
      rw [Int.toNat_natCast] at HH
      generalize a.getD k false = b at *
      cases b with
      | true =>
        have HT2 : Hid (idx (a.take (k + 1)) = idx (a.take k) ++ [(k : Int)]) := HT.out
        clear HT
        go_wp2_with fail
        refine (HH.out _).mono ?_
        rintro e w2 ⟨rfl, rfl⟩
        go_wp2_with (((with_reducible refine append_intz ?b1 (.tmp 12) (.tmp 14) ?b2 w.heap.size u3 (idx (a.take k)) (k : Int) 3 wr.heap.size ?b3 ?b4 ?b5 ho ?b6 ?b7 ?_); (case b1 => rfl); (case b2 => rfl); (case b3 => rfl); (case b4 => rfl); (case b5 => rfl); (case b6 => omega); (case b7 => omega)); intro v' w4 ho4 hb4)
        go_roundw
        case rel => exact ⟨k + 1, by omega, by go_num, by rw [HT2.out]; exact ho4, hb.out.trans hb4.out⟩
        case measure => simp [intOf]; omega
      | false =>
        have HT2 : Hid (idx (a.take (k + 1)) = idx (a.take k)) := HT.out
        clear HT
        go_wp2_with fail
        refine (HH.out _).mono ?_
        rintro e w2 ⟨rfl, rfl⟩
        go_wp2_with fail
        go_roundw
        case rel => exact ⟨k + 1, by omega, by go_num, by rw [HT2.out]; exact ho, hb⟩
        case measure => simp [intOf]; omega
    · obtain rfl : k = 9 := by omega
      go_wp2_with fail
      go_ret
      refine ⟨_, rfl, ?_, hb.out⟩
      have e : a.take 9 = a := List.take_of_length_le (by rw [HA.out]; exact Nat.le_refl _)
      have := ho.out
      rw [e] at this
      exact this.ints (by have := idx_len a; rw [HA.out] at this; omega)

theorem run_index_at {P : Program} (t e : TypeId) (n : Nat) (cs : Array Value) (k : Nat) (v : Value) (hu : P.underlying t = some (.array n e)) (he : (P.info? e).map (·.size) = some 1) (hag : ∀ w, (isAgg e).run P w = .ok false w) (hk : k < n) (hv : cs[k]? = some v) (w : World) :
    (Instr.index t (.agg cs) (.int .i64 (k : Int))).run P w = .ok v w := by
  cases hq : P.info? e with
  | none => simp [hq] at he
  | some i =>
    have hs : i.size = 1 := by simpa [hq] using he
    have hk2 : ¬ n ≤ k := by omega
    simp [Instr.index, Sem.run_bind, asIntOf, run_underlying hu w, hk2, sizeOf, typeInfo, hq, hs, part, hag, hv]
theorem index68 (s : List Bool) (k : Nat) (hk : k < 256) (hs : s.length = 256) (w : World) : Sem.run Try.prog (Instr.index 68 (.agg (bC s)) (.int .i64 (k : Int))) w = .ok (.bool (s.getD k false)) w :=
  run_index_at 68 4 256 (bC s) k _ Try.underlying68 (by kernel_rfl) agg4 hk (bC_get? s k (by omega)) w

set_option maxRecDepth 100000 in
set_option maxHeartbeats 1000000 in
theorem stList_any (t : St) (g ty : Nat) (w : World) (hw : t.Wf) (hg : w.heap[g]? = some (.cells (stC t) ty (0, 0))) : Calls Try.prog 43 #[.pointer (some ⟨g, 0, none⟩)] w fun e w' => ∃ v, e = .returned v ∧ IsInts w' v (idx t.s) ∧ Below w.heap.size w w' := by
  have HG := Lib.hid hg
  have HA : Hid (t.s.length = 256) := hw.2
  clear hg hw
  go_enter Try.func43, Try.ntmps43
  go_wp2_with (((with_reducible refine ld68 ?a1 (.tmp 8) ?a2 g ?a3 t ty HG HA ?_); (case a1 => rfl); (case a2 => rfl); (case a3 => rfl)))
  go_loopw [3, 4, 5, 10] (fun v p q i wr => ∃ k : Nat, k ≤ 256 ∧ i = .int .i64 k ∧ Hid (Own wr w.heap.size v (idx (t.s.take k))) ∧ Hid (Below w.heap.size w wr)) (fun _ _ _ i _ => 256 - (intOf i).toNat)
  case atStart => exact ⟨0, by omega, rfl, Own.nil _ _, Below.refl _ _⟩
  case round =>
    obtain ⟨k, hk, rfl, ho, hb⟩ := hrel
    by_cases hlt : k < 256
    · have i1 : (0 : Int) ≤ (k : Int) := by omega
      have i2 : (k : Int) < 256 := by omega
      have HT := Lib.hid (idx_take t.s k (by rw [HA.out]; exact hlt))
      have hln : (idx (t.s.take k)).length ≤ 256 := by have := idx_len (t.s.take k); rw [List.length_take, HA.out] at this; omega
      have hsz := hb.out.size
      have hix := index68 t.s k hlt HA.out
      generalize t.s.getD k false = b at *
      cases b with
      | true =>
        have HT2 : Hid (idx (t.s.take (k + 1)) = idx (t.s.take k) ++ [(k : Int)]) := HT.out
        clear HT
        go_wp2_with (((with_reducible refine append_intz ?b1 (.tmp 15) (.tmp 17) ?b2 w.heap.size u3 (idx (t.s.take k)) (k : Int) 3 wr.heap.size ?b3 ?b4 ?b5 ho ?b6 ?b7 ?_); (case b1 => rfl); (case b2 => rfl); (case b3 => rfl); (case b4 => rfl); (case b5 => rfl); (case b6 => omega); (case b7 => omega)); intro v' w4 ho4 hb4)
        go_roundw
        case rel => exact ⟨k + 1, by omega, by go_num, by rw [HT2.out]; exact ho4, hb.out.trans hb4.out⟩
        case measure => simp [intOf]; omega
      | false =>
        have HT2 : Hid (idx (t.s.take (k + 1)) = idx (t.s.take k)) := HT.out
        clear HT
        go_wp2_with fail
        go_roundw
        case rel => exact ⟨k + 1, by omega, by go_num, by rw [HT2.out]; exact ho, hb⟩
        case measure => simp [intOf]; omega
    · obtain rfl : k = 256 := by omega
      go_wp2_with fail
      go_ret
      refine ⟨_, rfl, ?_, hb.out⟩
      have e : t.s.take 256 = t.s := List.take_of_length_le (by rw [HA.out]; exact Nat.le_refl _)
      have := ho.out
      rw [e] at this
      exact this.ints (by have := idx_len t.s; rw [HA.out] at this; omega)
end Go.Proofs.Ytgdcgmnfgbdiiaa
