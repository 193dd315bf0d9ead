/- Helper facts for the statements of this seat; no statement itself. -/
import Derived.Test.YtgdcgmnfgbdiiaaE
import Derived.Outline
namespace Go.Proofs.Ytgdcgmnfgbdiiaa
open Go.RowKit
set_option linter.unusedSimpArgs false
set_option linter.unusedVariables false
set_option linter.unnecessarySimpa false

theorem ofL_snoc (n : Nat) (l : List Int) (x : Int) : ofL n (l ++ [x]) = (ofL n l).set x.toNat true := by simp [ofL, List.foldl_append]
theorem ofL_take (n : Nat) (l : List Int) (k : Nat) (hk : k < l.length) : ofL n (l.take (k + 1)) = (ofL n (l.take k)).set (l.getD k 0).toNat true := by
  rw [List.take_succ_eq_append_getElem hk, ofL_snoc]
  simp [List.getD, hk]
theorem ofL_nil (n : Nat) : ofL n [] = zB n := rfl
theorem IsInts.at {w : World} {a : Option Addr} {n cap : Nat} {l : List Int} (h : IsInts w (.slice a n cap) l) (k : Nat) (hk : k < l.length) : ∃ b off, a = some ⟨b, off, none⟩ ∧ w.cell? ⟨b, off + k, none⟩ = some (.int .i64 (l.getD k 0)) := by
  obtain ⟨a', len, cap', e, _, _, h⟩ := h
  cases e
  rcases h with rfl | ⟨b, off, rfl, hc⟩
  · simp at hk
  · exact ⟨b, off, rfl, hc k hk⟩
theorem IsInts.len {w : World} {a : Option Addr} {n cap : Nat} {l : List Int} (h : IsInts w (.slice a n cap) l) : n = l.length ∧ l.length ≤ 4294967296 := by
  obtain ⟨a', len, cap', e, h1, h2, _⟩ := h
  cases e
  exact ⟨h1, h2⟩
theorem IsInts.slice {w : World} {v : Value} {l : List Int} (h : IsInts w v l) : ∃ a n cap, v = .slice a n cap := by
  obtain ⟨a, n, cap, e, _⟩ := h
  exact ⟨a, n, cap, e⟩
def InR (lo hi : Int) (l : List Int) : Prop := ∀ k, k < l.length → lo ≤ l.getD k 0 ∧ l.getD k 0 ≤ hi

set_option maxRecDepth 100000 in
set_option maxHeartbeats 2000000 in
theorem start_any (va vp : Value) (m : Mo) (w : World) (ha : IsInts w va m.b) (hp : IsInts w vp m.p) (ra : InR 0 8 m.b) (rp : InR 0 255 m.p) : Calls Try.prog 40 #[.agg #[va, vp]] w fun e w' => e = .returned (.agg (stC (st0 m))) ∧ Below w.heap.size w w' := by
  obtain ⟨aa, na, ca, rfl⟩ := ha.slice
  obtain ⟨ap, np, cp, rfl⟩ := hp.slice
  have HA := Lib.hid ha
  have HP := Lib.hid hp
  have RA := Lib.hid ra
  have RP := Lib.hid rp
  obtain ⟨rfl, la⟩ := ha.len
  obtain ⟨rfl, lp⟩ := hp.len
  have HZ := Lib.hid zSt_wf
  have H0 := Lib.hid (Wf_st0 m)
  clear ha hp ra rp
  have hz := zero70
  go_enter Try.func40, Try.ntmps40
  go_wp2_with fail
  have X0 : Hid ((((w.alloc (.cells #[.slice aa m.b.length ca, .slice ap m.p.length cp] 25)).alloc (.cells (stC zSt) 70)).alloc (.cells (stC zSt) 70)).heap[w.heap.size]? = some (.cells #[.slice aa m.b.length ca, .slice ap m.p.length cp] 25 (0, 0)) ∧ (((w.alloc (.cells #[.slice aa m.b.length ca, .slice ap m.p.length cp] 25)).alloc (.cells (stC zSt) 70)).alloc (.cells (stC zSt) 70)).heap[w.heap.size + 1]? = some (.cells (stC zSt) 70 (0, 0)) ∧ (((w.alloc (.cells #[.slice aa m.b.length ca, .slice ap m.p.length cp] 25)).alloc (.cells (stC zSt) 70)).alloc (.cells (stC zSt) 70)).heap[w.heap.size + 1 + 1]? = some (.cells (stC ⟨ofL 9 (m.b.take 0), zB 256⟩) 70 (0, 0))) := ⟨h3_0 _ _ _ _, h3_1 _ _ _ _, h3_2 _ _ _ _⟩
  have B0 : Hid (Below w.heap.size w (((w.alloc (.cells #[.slice aa m.b.length ca, .slice ap m.p.length cp] 25)).alloc (.cells (stC zSt) 70)).alloc (.cells (stC zSt) 70))) := ((((Below.refl _ _).alloc (Nat.le_refl _) _).alloc (by simp only [World.size_alloc] <;> omega) _).alloc (by simp only [World.size_alloc] <;> omega) _)
  obtain ⟨g, hg⟩ : ∃ g, g = w.heap.size := ⟨_, rfl⟩
  have hgw : w.heap.size ≤ g := by omega
  rw [← hg] at X0 ⊢
  clear hg hz
  generalize ((w.alloc (.cells #[.slice aa m.b.length ca, .slice ap m.p.length cp] 25)).alloc (.cells (stC zSt) 70)).alloc (.cells (stC zSt) 70) = W0 at *
  go_loopw [5, 11] (fun v i wr => ∃ k : Nat, k ≤ m.b.length ∧ i = .int .i64 k ∧ Hid (wr.heap[g]? = some (.cells #[.slice aa m.b.length ca, .slice ap m.p.length cp] 25 (0, 0)) ∧ wr.heap[g + 1]? = some (.cells (stC zSt) 70 (0, 0)) ∧ wr.heap[g + 1 + 1]? = some (.cells (stC ⟨ofL 9 (m.b.take k), zB 256⟩) 70 (0, 0))) ∧ Hid (Below w.heap.size w wr)) (fun _ i _ => m.b.length - (intOf i).toNat)
  case atStart => exact ⟨0, by omega, rfl, X0, B0⟩
  case round =>
    obtain ⟨k, hk, rfl, hx, hb⟩ := hrel
    clear X0 B0
    by_cases hlt : k < m.b.length
    · obtain ⟨bb, off, rfl, hcc⟩ := (HA.out.keep hb.out).at k hlt
      obtain ⟨r0, r8⟩ := RA.out k hlt
      have HT := Lib.hid (ofL_take 9 m.b k hlt)
      have HLn : Hid ((ofL 9 (m.b.take k)).length = 9) := ofL_len _ _
      have c0 : wr.cell? ⟨g + 1 + 1, 0, none⟩ = some (.int .u16 (enc (ofL 9 (m.b.take k)))) := stC_0 (t := ⟨ofL 9 (m.b.take k), zB 256⟩) hx.out.2.2
      have f0 : wr.frozen? ⟨g + 1 + 1, 0, none⟩ = false := fr hx.out.2.2
      have i1 : (0 : Int) ≤ (k : Int) := by omega
      have i2 : (k : Int) < (m.b.length : Int) := by omega
      generalize m.b.getD k 0 = x at *
      go_wp2_with fail
      refine (with_any (ofL 9 (m.b.take k)) x _ HLn.out r0 r8).mono ?_
      rintro e w1 ⟨rfl, rfl⟩
      go_wp2_with fail
      rw [show wr.setCell ⟨g + 1 + 1, 0, none⟩ (.int .u16 (enc ((ofL 9 (m.b.take k)).set x.toNat true))) = wr.setRow (g + 1 + 1) (stC ⟨(ofL 9 (m.b.take k)).set x.toNat true, zB 256⟩) from stC_put0 (t := ⟨ofL 9 (m.b.take k), zB 256⟩) hx.out.2.2 _]
      go_roundw
      case rel => exact ⟨k + 1, by omega, by go_num, ⟨(setRow_other _ _ _ _ (by omega)).trans hx.out.1, (setRow_other _ _ _ _ (by omega)).trans hx.out.2.1, by rw [HT.out]; exact setRow_heap _ _ _ _ _ _ hx.out.2.2⟩, below_setRow hb.out (by omega) _⟩
      case measure => simp [intOf]; omega
    · obtain rfl : k = m.b.length := by omega
      obtain ⟨d0, d1⟩ := c2 hx.out.1
      have HF : Hid (wr.heap[g + 1 + 1]? = some (.cells (stC ⟨ofL 9 m.b, ofL 256 (m.p.take 0)⟩) 70 (0, 0))) := by
        have := hx.out.2.2
        rw [List.take_length] at this
        exact this
      go_wp2_with fail
      obtain ⟨wo, rfl⟩ : ∃ wo : World, wo = wr := ⟨_, rfl⟩
      go_loopw [7, 24] (fun v i wr => ∃ k : Nat, k ≤ m.p.length ∧ i = .int .i64 k ∧ Hid (wr.heap[g + 1]? = some (.cells (stC zSt) 70 (0, 0)) ∧ wr.heap[g + 1 + 1]? = some (.cells (stC ⟨ofL 9 m.b, ofL 256 (m.p.take k)⟩) 70 (0, 0))) ∧ Hid (Below w.heap.size w wr)) (fun _ i _ => m.p.length - (intOf i).toNat)
      case atStart => exact ⟨0, by omega, rfl, ⟨hx.out.2.1, HF.out⟩, hb⟩
      case round =>
        obtain ⟨k, hk, rfl, hy, hb2⟩ := hrel
        clear HF d0 d1 hx hb
        by_cases hlt : k < m.p.length
        · obtain ⟨bb, off, rfl, hcc⟩ := (HP.out.keep hb2.out).at k hlt
          obtain ⟨r0, r8⟩ := RP.out k hlt
          have HT := Lib.hid (ofL_take 256 m.p k hlt)
          have HLn : Hid ((ofL 256 (m.p.take k)).length = 256) := ofL_len _ _
          generalize m.p.getD k 0 = x at *
          obtain ⟨y, rfl⟩ := Int.eq_ofNat_of_zero_le r0
          rw [Int.toNat_natCast] at HT
          have c1 : wr.cell? ⟨g + 1 + 1, 1 + y, none⟩ = some (.bool ((ofL 256 (m.p.take k)).getD y false)) := stC_k (t := ⟨ofL 9 m.b, ofL 256 (m.p.take k)⟩) hy.out.2 y (by show y < (ofL 256 (m.p.take k)).length; rw [HLn.out]; omega)
          have f1 : wr.frozen? ⟨g + 1 + 1, 1 + y, none⟩ = false := fr hy.out.2
          have i1 : (0 : Int) ≤ (k : Int) := by omega
          have i2 : (k : Int) < (m.p.length : Int) := by omega
          have i3 : (y : Int) < 256 := by omega
          go_wp2_with fail
          rw [show wr.setCell ⟨g + 1 + 1, 1 + y, none⟩ (.bool true) = wr.setRow (g + 1 + 1) (stC ⟨ofL 9 m.b, (ofL 256 (m.p.take k)).set y true⟩) from stC_putk (t := ⟨ofL 9 m.b, ofL 256 (m.p.take k)⟩) hy.out.2 y true]
          go_roundw
          case rel => exact ⟨k + 1, by omega, by go_num, ⟨(setRow_other _ _ _ _ (by omega)).trans hy.out.1, by rw [HT.out]; exact setRow_heap _ _ _ _ _ _ hy.out.2⟩, below_setRow hb2.out (by omega) _⟩
          case measure => simp [intOf]; omega
        · obtain rfl : k = m.p.length := by omega
          have HF : Hid (wr.heap[g + 1 + 1]? = some (.cells (stC (st0 m)) 70 (0, 0))) := by
            have := hy.out.2
            rw [List.take_length] at this
            exact this
          have HR : Hid (wr.heap[g + 1]? = some (.cells (stC zSt) 70 (0, 0))) := hy.out.1
          go_wp2_with (first | ((with_reducible refine ld70 ?a1 (.tmp 3) ?a2 (g + 1 + 1) ?a3 (st0 m) 70 HF H0 ?_); (case a1 => rfl); (case a2 => rfl); (case a3 => rfl)) | ((with_reducible refine st70 ?b1 (.tmp 2) (.tmp 32) ?b2 (g + 1) zSt (st0 m) 70 ?b3 ?b4 HR HZ H0 ?_); (case b1 => rfl); (case b2 => rfl); (case b3 => rfl); (case b4 => rfl)))
          exact bodyPost_ret (v := .agg (stC (st0 m))) (res70 (fn := Try.f40) (p := 2) rfl _ _ (g + 1) 70 (st0 m) H0.out rfl (setRow_heap _ _ _ _ _ _ HR.out)) rfl ⟨rfl, below_setRow hb2.out (by omega) _⟩
end Go.Proofs.Ytgdcgmnfgbdiiaa
