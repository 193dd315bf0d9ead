/- Helper facts for the statements of this seat; no statement itself. -/
import Derived.Test.YtbdhjiadomifeaaR
namespace Go.Proofs.Ytbdhjiadomifeaa
open Go.RowKit
set_option linter.unusedSimpArgs false
set_option linter.unusedVariables false
set_option linter.unnecessarySimpa false

/-! ### Plain facts on bytes that are put -/
theorem putL_bya (c : List Nat) (hp : Pg c) (a v n i : Nat) (h : a + n ≤ 64) (hi : i < 64) : bya (putL c a v n) i = if a ≤ i ∧ i < a + n then v / 256 ^ (i - a) % 256 else bya c i := by
  rw [← byts_get (putL c a v n) 8 i (by omega) (by omega), ← spr_putL c hp a v n h, spr_get _ _ _ _ _ (by rw [byts_length c 8 (by omega)]; omega), byts_get c 8 i (by omega) (by omega)]

theorem num_put (c : List Nat) (hp : Pg c) (a v n : Nat) (h : a + n ≤ 64) : num (putL c a v n) a n = v % 256 ^ n := by
  unfold num
  rw [← spr_putL c hp a v n h, ← le_bytesN n v]
  congr 1
  have hl := byts_length c 8 (by omega)
  unfold spr
  rw [List.drop_append_of_le_length (by simp [hl]; omega), List.drop_of_length_le (by simp; omega), List.nil_append, List.take_append_of_le_length (by rw [bytesN_length]; omega), List.take_of_length_le (by rw [bytesN_length]; omega)]

theorem bytesN_mod (n v : Nat) : bytesN n (v % 256 ^ n) = bytesN n v := by
  refine ext_getD (by rw [bytesN_length, bytesN_length]) (fun j hj => ?_)
  rw [bytesN_length] at hj
  rw [bytesN_get _ _ _ hj, bytesN_get _ _ _ hj]
  have e : 256 ^ n = 256 ^ j * 256 ^ (n - j) := by rw [← Nat.pow_add, show j + (n - j) = n by omega]
  rw [e, Nat.mod_mul_right_div_self]
  obtain ⟨m, hm⟩ : ∃ m, n - j = m + 1 := ⟨n - j - 1, by omega⟩
  rw [hm, Nat.pow_succ, Nat.mod_mul_left_mod]

theorem put_put (c : List Nat) (hp : Pg c) (a v n : Nat) (h : a + n ≤ 64) : putL (putL c a v n) a (v % 256 ^ n) n = putL c a v n := by
  have hp2 := putL_pg hp a v n h
  have h1 := spr_putL (putL c a v n) hp2 a (v % 256 ^ n) n h
  have h2 := spr_putL c hp a v n h
  have h3 : byts (putL (putL c a v n) a (v % 256 ^ n) n) 8 = byts (putL c a v n) 8 := by
    have hl := byts_length c 8 (by omega)
    rw [← h1, ← h2]
    refine ext_getD ?_ (fun j hj => ?_)
    · rw [spr_length _ _ _ _ (by rw [spr_length _ _ _ _ (by omega)]; omega)]
    · rw [spr_get _ _ _ _ _ (by rw [spr_length _ _ _ _ (by omega)]; omega), spr_get _ _ _ _ _ (by omega)]
      by_cases hj2 : a ≤ j ∧ j < a + n
      · rw [if_pos hj2, if_pos hj2, ← bytesN_get n _ _ (by omega), ← bytesN_get n _ _ (by omega), bytesN_mod]
      · rw [if_neg hj2, if_neg hj2]
  have h4 := words_bytes _ (putL_pg hp2 a (v % 256 ^ n) n h)
  rw [h3, words_bytes _ hp2] at h4
  exact h4.symm

theorem num_one (c : List Nat) (i : Nat) (h : i < 64) : num c i 1 = bya c i := by
  rw [num_head c i 0 h, num_zero]; omega

theorem wrap_pow (m : Nat) (h : m < 8) : IntKind.u64.wrap (2 ^ (8 * m)) = ((256 ^ m : Nat) : Int) := by
  rcases lt8 h with rfl | rfl | rfl | rfl | rfl | rfl | rfl | rfl <;> simp [IntKind.wrap_u64]
theorem last_eq (m x : Nat) (h1 : 1 ≤ m) (h2 : m ≤ 8) (hx : x < 256 ^ m) : IntKind.u64.wrap (IntKind.u64.wrap (sgn m x) * 2 ^ (64 - 8 * m)) = IntKind.u64.wrap ((x : Int) * 2 ^ (64 - 8 * m)) := by
  unfold sgn
  obtain ⟨k, rfl⟩ : ∃ k, m = k + 1 := ⟨m - 1, by omega⟩
  rcases lt8 (show k < 8 by omega) with rfl | rfl | rfl | rfl | rfl | rfl | rfl | rfl <;> simp only [IntKind.wrap_u64] <;> split <;> omega

/-- ldg24, what the operation is asked first. -/
theorem ldh24 {ops : Array Oper} {rest : List Oper} {o : Oper} {a : Act} {w : World} {Q : Exit → Act → World → Prop} (x : Operand) (ho : o.op = .load 24 x) (hw : Region.wanted o (yielded ops a.tmps) = true) (g : Nat) (hx : a.eval x = .pointer (some ⟨g, 0, none⟩)) (c : List Nat) (hc : c.length = 8) (t : TypeId) (hg : w.heap[g]? = some (.cells (W8 c) t (0, 0)))
    (h : wpList Try.prog ops Q rest (a.put o.dst (.agg (W8 c))) w) : wpList Try.prog ops Q (o :: rest) a w := ldg24 hw x ho g hx c hc t hg h

set_option maxHeartbeats 2000000 in
set_option maxRecDepth 100000 in
theorem pagePuts_walk (c : List Nat) (v : Nat) (t : Int) (w : World) (hp : Pg c) (hv : v < 18446744073709551616) :
    Calls Try.prog 4 #[.agg (W8 c), .int .u64 v, .int .i64 t] w fun e w' => e = .returned (.bool true) ∧ Below w.heap.size w w' := by
  have Gw0 := Lib.hid (h1_0 w (.cells (W8 c) 24))
  have Bw0 : Hid (Below w.heap.size w (w.alloc (.cells (W8 c) 24))) := ((Below.refl _ _).alloc (Nat.le_refl _) _)
  go_enter Try.func4, Try.ntmps4
  go_wp2_with fail
  refine (mod_any _ 8 _ (by omega) (by omega)).mono ?_
  rintro e w' ⟨rfl, rfl⟩
  generalize hX : wrap64 (t.tdiv 64) % 8 = X
  obtain ⟨m, hm⟩ : ∃ m : Nat, X + 1 = (m : Int) := ⟨(X + 1).toNat, by omega⟩
  obtain rfl : X = (m : Int) - 1 := by omega
  have h1 : 1 ≤ m := by omega
  have h2 : m ≤ 8 := by omega
  clear hX hm
  go_wp2_with fail
  rw [show (1 + ((m : Int) - 1)) = (m : Int) by omega]
  refine (mod_any _ (65 - (m : Int)) _ (by omega) (by omega)).mono ?_
  rintro e w' ⟨rfl, rfl⟩
  have hb1 := Int.emod_nonneg t (show 65 - (m : Int) ≠ 0 by omega)
  have hb2 := Int.emod_lt_of_pos t (show 0 < 65 - (m : Int) by omega)
  generalize t % (65 - (m : Int)) = Y at *
  obtain ⟨k, rfl⟩ := Int.eq_ofNat_of_zero_le hb1
  have h3 : k + m ≤ 64 := by omega
  clear hb1 hb2
  go_wp2_with (refine ld24 rfl _ rfl _ rfl c hp.1 24 Gw0.out ?_)
  refine (put_ok c k m v _ h1 h2 h3 hv hp).mono ?_
  rintro e w1 ⟨rfl, hb⟩
  have Gw1 := Lib.hid (bkeep hb Gw0.out)
  have Bw1 := Lib.hid (btrans Bw0.out hb)
  clear hb Gw0 Bw0
  rw [putB_eq c hp k v m h3]
  have hd := putL_pg hp k v m h3
  have HBY := Lib.hid (fun i (hi : i < 64) => putL_bya c hp k v m i h3 hi)
  have HNP := Lib.hid (num_put c hp k v m h3)
  have HPP := Lib.hid (put_put c hp k v m h3)
  generalize putL c k v m = d at *
  have Gw2 := Lib.hid (hold1 Gw1.out (.cells (W8 d) 24))
  have Dw2 := Lib.hid (h1_0 w1 (.cells (W8 d) 24))
  have Bw2 := Lib.hid (balloc Bw1.out (.cells (W8 d) 24))
  go_wp2_with (refine st24n rfl _ _ rfl d rfl rfl hd.1 rfl ?_)
  generalize hn1 : w1.heap.size = n1 at *
  have HN1 := Lib.hid hn1
  clear hn1 Gw1 Bw1
  go_loopw [11] (fun i wr => ∃ j : Nat, j ≤ 64 ∧ i = .int .i64 j ∧ Hid (wr.heap[w.heap.size]? = some (.cells (W8 c) 24 (0, 0)) ∧ wr.heap[n1]? = some (.cells (W8 d) 24 (0, 0)) ∧ Below w.heap.size w wr)) (fun i _ => 64 - (intOf i).toNat)
  case atStart => exact ⟨0, by omega, rfl, Gw2.out, Dw2.out, Bw2.out⟩
  case round =>
    obtain ⟨j, hj, rfl, hh⟩ := hrel
    clear Gw2 Dw2 Bw2
    by_cases hlt : j < 64
    · go_wp2_with (refine ld24 rfl _ rfl _ rfl c hp.1 24 hh.out.1 ?_)
      refine (bytes_ok c j 1 _ (by omega) (by omega) (by omega) hp.1 hp.2).mono ?_
      rintro e w2 ⟨rfl, hb⟩
      have hh2 := Lib.hid (show _ ∧ _ ∧ _ from ⟨bkeep hb hh.out.1, bkeep hb hh.out.2.1, btrans hh.out.2.2 hb⟩)
      clear hb hh
      go_wp2_with (refine ld24 rfl _ rfl n1 rfl d hd.1 24 hh2.out.2.1 ?_)
      refine (bytes_ok d j 1 _ (by omega) (by omega) (by omega) hd.1 hd.2).mono ?_
      rintro e w3 ⟨rfl, hb⟩
      have hh3 := Lib.hid (show _ ∧ _ ∧ _ from ⟨bkeep hb hh2.out.1, bkeep hb hh2.out.2.1, btrans hh2.out.2.2 hb⟩)
      clear hb hh2
      rw [num_one c j hlt, num_one d j hlt, HBY.out j hlt]
      by_cases hin : k ≤ j ∧ j < k + m
      · rw [if_pos hin]
        obtain ⟨hi1, hi2⟩ := hin
        have e1 : (8 * ((j : Int) - (k : Int))).toNat = 8 * (j - k) := by omega
        generalize bya c j = y
        have hne : ((v : Int) / 256 ^ (j - k) % 256 != ((v : Int) / 2 ^ (8 * (j - k))).tmod 256) = false := by
          rw [Int.tmod_eq_emod_of_nonneg (Int.ediv_nonneg (by omega) (Int.pow_nonneg (by omega))), show (2 : Int) ^ (8 * (j - k)) = 256 ^ (j - k) by rw [Int.pow_mul]; rfl]
          simp
        go_wp2_with fail
        all_goals
          go_roundw
          case rel => exact ⟨j + 1, by omega, by go_num, hh3⟩
          case measure => simp [intOf]; omega
      · rw [if_neg hin]
        generalize bya c j = y
        have hyy : ((y : Int) != (y : Int)) = false := by simp
        have hor : j < k ∨ k + m ≤ j := by omega
        rcases hor with hi1 | hi1
        all_goals
          go_wp2_with fail
          go_roundw
          case rel => exact ⟨j + 1, by omega, by go_num, hh3⟩
          case measure => simp [intOf]; omega
    · have he := run_eql24 d d hd.1 hd.1
      rw [beq_self_eq_true] at he
      go_wp2_with (refine ld24 rfl _ rfl n1 rfl d hd.1 24 hh.out.2.1 ?_)
      refine (bytes_ok d k m _ h1 h2 h3 hd.1 hd.2).mono ?_
      rintro e w2 ⟨rfl, hb⟩
      have hh2 := Lib.hid (show _ ∧ _ from ⟨bkeep hb hh.out.2.1, btrans hh.out.2.2 hb⟩)
      clear hb hh
      have hxl := num_lt d k m h3
      have hx64 := Nat.lt_of_lt_of_le hxl (pow_le8 m h2)
      have HNP0 := HNP
      rw [← HNP.out] at HPP
      generalize hxd : num d k m = x at *
      have HXD := Lib.hid hxd
      clear hxd
      have HXL := Lib.hid hxl
      clear hxl
      go_wp2_with (refine ld24 rfl _ rfl n1 rfl d hd.1 24 hh2.out.1 ?_)
      refine (put_ok d k m x _ h1 h2 h3 hx64 hd).mono ?_
      rintro e w3 ⟨rfl, hb⟩
      rw [putB_eq d hd k x m h3, HPP.out]
      have hh3 := Lib.hid (show _ ∧ _ ∧ _ from ⟨hold1 (bkeep hb hh2.out.1) (.cells (W8 d) 24), h1_0 w3 (.cells (W8 d) 24), balloc (btrans hh2.out.2 hb) (.cells (W8 d) 24)⟩)
      clear hb hh2
      go_wp2_with (first | refine st24n rfl _ _ rfl d rfl rfl hd.1 rfl ?_ | refine ld24 rfl _ rfl n1 rfl d hd.1 24 hh3.out.1 ?_)
      refine (signed_ok d k m _ h1 h2 h3 hd).mono ?_
      rintro e w4 ⟨rfl, hb⟩
      have hh4 := Lib.hid (show _ ∧ _ ∧ _ from ⟨bkeep hb hh3.out.1, bkeep hb hh3.out.2.1, btrans hh3.out.2.2 hb⟩)
      clear hb hh3
      rw [HXD.out]
      have HNP2 : Hid (x = v % 256 ^ m) := HNP0
      have p3 : (IntKind.u64.wrap (IntKind.u64.wrap (sgn m x) * 2 ^ (64 - 8 * m)) == IntKind.u64.wrap ((x : Int) * 2 ^ (64 - 8 * m))) = true := by
        rw [beq_iff_eq]; exact last_eq m x h1 h2 HXL.out
      by_cases hm8 : m < 8
      · have p0 := wrap_pow m hm8
        have p1 : (IntKind.u64.wrap (2 ^ (8 * m)) == 0) = false := by
          rw [beq_eq_false_iff_ne, p0]
          have := Nat.pow_pos (n := m) (show 0 < 256 by omega)
          omega
        have p1' : ¬ IntKind.u64.wrap (2 ^ (8 * m)) = 0 := by simpa using p1
        have p2 : ((x : Int) == (v : Int) % IntKind.u64.wrap (2 ^ (8 * m))) = true := by
          rw [beq_iff_eq, p0, HNP2.out]; simp
        clear p0
        go_wp2_with (first | ((with_reducible refine ldh24 (.tmp 17) ?a0 ?a1 w3.heap.size ?a2 d ?b1 24 ?b2 ?_); (case a0 => rfl); (case a1 => rfl); (case a2 => rfl); (case b1 => exact hd.1); (case b2 => exact hh4.out.2.1)) | ((with_reducible refine ldh24 (.tmp 9) ?a5 ?a3 n1 ?a4 d ?b3 24 ?b4 ?_); (case a5 => rfl); (case a3 => rfl); (case a4 => rfl); (case b3 => exact hd.1); (case b4 => exact hh4.out.1)))
        refine (awake_any _).mono ?_
        rintro e w5 ⟨rfl, hb⟩
        have B5 := Lib.hid (btrans hh4.out.2.2 hb)
        clear hb
        go_wp2
        go_ret
        exact ⟨rfl, B5.out⟩
      · have hm8' : ((m : Int) == 8) = true := by simp; omega
        have p2 : ((x : Int) == (v : Int)) = true := by
          rw [beq_iff_eq]
          have : x = v := by rw [HNP2.out, show m = 8 by omega]; exact Nat.mod_eq_of_lt (by simpa using hv)
          omega
        go_wp2_with (first | ((with_reducible refine ldh24 (.tmp 17) ?a6 ?a7 w3.heap.size ?a8 d ?b5 24 ?b6 ?_); (case a6 => rfl); (case a7 => rfl); (case a8 => rfl); (case b5 => exact hd.1); (case b6 => exact hh4.out.2.1)) | ((with_reducible refine ldh24 (.tmp 9) ?a9 ?a10 n1 ?a11 d ?b7 24 ?b8 ?_); (case a9 => rfl); (case a10 => rfl); (case a11 => rfl); (case b7 => exact hd.1); (case b8 => exact hh4.out.1)))
        refine (awake_any _).mono ?_
        rintro e w5 ⟨rfl, hb⟩
        have B5 := Lib.hid (btrans hh4.out.2.2 hb)
        clear hb
        go_wp2
        go_ret
        exact ⟨rfl, B5.out⟩

end Go.Proofs.Ytbdhjiadomifeaa
