/- Helper facts for the statements of this seat; no statement itself. -/
import Derived.Test.YtcicgccllhkolaaDoorQ
namespace Go.Proofs.YtcicgccllhkolaaDoor
open Go.RowKit
set_option linter.unusedSimpArgs false
set_option linter.unusedVariables false
set_option linter.unnecessarySimpa false

abbrev pgC (s r c : Int) : Array Value := #[.int .i64 s, .int .i64 r, .int .i64 c]
/-- The two pages of 'made', and the world. -/
def MD (w : World) (g : Nat) (s r c : Int) (wr : World) : Prop := HB [(g, pgC s r c, 23), (w.heap.size, pgC 0 0 0, 23)] wr ∧ Below w.heap.size w wr ∧ w.heap.size < g
theorem MD.keep {w wr w' : World} {g : Nat} {s r c : Int} (h : MD w g s r c wr) (hb : Below wr.heap.size wr w') : MD w g s r c w' := ⟨h.1.keep hb, btrans h.2.1 hb, h.2.2⟩
theorem MD.alloc {w wr : World} {g : Nat} {s r c : Int} (h : MD w g s r c wr) (o : Obj) : MD w g s r c (wr.alloc o) := ⟨h.1.alloc o, balloc h.2.1 o, h.2.2⟩
theorem MD.set {w wr : World} {g : Nat} {s r c : Int} (h : MD w g s r c wr) (s' r' c' : Int) : MD w g s' r' c' (wr.setRow g (pgC s' r' c')) :=
  ⟨h.1.set (fun x hx => by simp at hx; subst hx; exact Nat.ne_of_lt h.2.2), below_setRow h.2.1 (by have := h.2.2; omega) _, h.2.2⟩
theorem chk_x {s r c k p : Int} (h : chk s r c = 0) (he : xE s r c k p = 0) : chk (xS s r c k p) (xR s r c k p) (xC s r c k p) = 0 := by
  unfold xE at he
  rw [if_pos h] at he
  unfold xS xR xC
  rw [if_pos h, if_pos h, if_pos h]
  exact chk_next h he
/-- What 'made' gives: a valid page, and true. -/
def Made (w : World) (e : Ending) (w' : World) : Prop := ∃ s r c : Int, chk s r c = 0 ∧ e = .returned (.tuple #[WV s r c, .bool true]) ∧ Below w.heap.size w w'
/-- Results: a page on its way, and a bool. -/
theorem res23c {fn : Func} {p u : Tmp} (h : fn.results = #[.cell p 23, .tmp u]) (tmps : Array Value) (w : World) (g : Nat) (t : TypeId) (s r c : Int)
    (hp : tmps.getD p undef = .pointer (some ⟨g, 0, none⟩)) (hg : w.heap[g]? = some (.cells (pgC s r c) t (0, 0))) :
    (results fn tmps).run Tryd.prog w = .ok (.tuple #[WV s r c, tmps.getD u undef]) w := res23 h tmps w g t s r c hp hg

set_option maxHeartbeats 2000000 in
/-- The rest of a round of 'made', from the world behind Next on: see made_walk. -/
theorem made_walk (m : Int) (a : Option Addr) (n cap : Nat) (w : World) (hn : n ≤ 9223372036854775807)
    (hl : n = 0 ∨ ∃ bb off, ∃ zs : List Int, a = some ⟨bb, off, none⟩ ∧ ∀ k, k < n → w.cell? ⟨bb, off + k, none⟩ = some (.int .i64 (zs.getD k 0))) :
    Calls Tryd.prog 22 #[.int .i64 m, .slice a n cap] w (Made w) := by
  have HL := Lib.hid hl
  clear hl
  have m1 := Int.emod_nonneg m (show (5 : Int) ≠ 0 by omega)
  have m2 := Int.emod_lt_of_pos m (show (0 : Int) < 5 by omega)
  go_enter Tryd.func22, Tryd.ntmps22
  go_wp2_with fail
  refine (mod_any m 5 _ (by omega) (by omega)).mono ?_
  rintro e w1 ⟨rfl, rfl⟩
  generalize m % 5 = x at *
  go_wp2_with fail
  refine (begin_any (1 + x) _).mono ?_
  rintro e w1 ⟨rfl, hb⟩
  have hbE : bE (1 + x) = 0 := by unfold bE; rw [if_neg (by omega)]
  have hbS : bS (1 + x) = 1 := by unfold bS; rw [if_neg (by omega)]
  have hbR : bR (1 + x) = 1 + x := by unfold bR; rw [if_neg (by omega)]
  rw [hbE, hbS, hbR]
  have HK0 : Hid (chk 1 (1 + x) 0 = 0) := by show _ = _; unfold chk leastR mostR; simp; omega
  clear hbE hbS hbR
  obtain ⟨g0, b0⟩ := bfirst _ _ hb
  have hg1 := lt_of_some g0
  have M0 : Hid (MD w w1.heap.size 1 (1 + x) 0 (w1.alloc (.cells (pgC 1 (1 + x) 0) 23))) := ⟨HB.push (L := [(w.heap.size, pgC 0 0 0, 23)]) ⟨g0, trivial⟩ _ _, balloc b0 _, hg1⟩
  clear hb g0 b0
  generalize 1 + x = y at *
  clear m1 m2
  go_wp2_with fail
  generalize w1.heap.size = g at *
  go_loopw [8] (fun i wr => ∃ (k : Nat) (s r c : Int), k ≤ n ∧ k ≤ 40 ∧ i = .int .i64 k ∧ Hid (chk s r c = 0) ∧ Hid (MD w g s r c wr)) (fun i _ => 40 - (intOf i).toNat)
  case atStart => exact ⟨0, 1, y, 0, by omega, by omega, rfl, HK0, M0⟩
  case round =>
    clear HK0 M0
    obtain ⟨k, s, r, c, hk, hk40, rfl, hc, hm⟩ := hrel
    have hgl := lt_of_some hm.out.1.1
    obtain ⟨q0, q1, q2⟩ := c3 hm.out.1.1
    by_cases hkn : k < n ∧ k < 40
    · obtain ⟨hkn, hk4⟩ := hkn
      obtain ⟨bb, off, zs, rfl, hz⟩ : ∃ bb off, ∃ zs : List Int, a = some ⟨bb, off, none⟩ ∧ ∀ k, k < n → w.cell? ⟨bb, off + k, none⟩ = some (.int .i64 (zs.getD k 0)) := by
        rcases HL.out with h0 | h0
        · omega
        · exact h0
      have z0 := hz k hkn
      generalize zs.getD k 0 = z at *
      have Z0 := Lib.hid z0
      have c0 := (hm.out.2.1.cell (cell_lt z0)).trans z0
      have cl0 := cell_lt c0
      clear hz z0
      have i1 : (0 : Int) ≤ (k : Int) := by omega
      have i2 : (k : Int) < (n : Int) := by omega
      have e1 := Int.emod_nonneg z (show (6 : Int) ≠ 0 by omega)
      have e2 := Int.emod_lt_of_pos z (show (0 : Int) < 6 by omega)
      go_wp2_with fail
      refine (mod_any z 6 _ (by omega) (by omega)).mono ?_
      rintro e w2 ⟨rfl, rfl⟩
      generalize z % 6 = z6 at *
      go_wp2_with fail
      refine (ev_any (1 + z6) _).mono ?_
      rintro e w2 ⟨rfl, rfl⟩
      generalize hkk : 1 + z6 = kk at *
      have HKK := Lib.hid hkk
      have kk1 : 1 ≤ kk := by omega
      have kk2 : kk ≤ 6 := by omega
      clear hkk
      by_cases h4 : kk = 4
      · subst h4
        go_wp2_with fail
        generalize wrap64 (z.tdiv 6) = z7 at *
        have f1 := Int.emod_nonneg z7 (show (8 : Int) ≠ 0 by omega)
        have f2 := Int.emod_lt_of_pos z7 (show (0 : Int) < 8 by omega)
        refine (mod_any z7 8 _ (by omega) (by omega)).mono ?_
        rintro e w2 ⟨rfl, rfl⟩
        generalize z7 % 8 = z8 at *
        go_wp2_with fail
        refine (Next_any s r c 4 (1 + z8) _).mono ?_
        rintro e w2 ⟨rfl, hb⟩
        have M2 := Lib.hid (((hm.out.alloc _).alloc _).keep hb)
        clear hb q0 q1 q2
        have hg2 := lt_of_some M2.out.1.1
        by_cases he : xE s r c 4 (1 + z8) = 0
        · have HC := Lib.hid (chk_x hc.out he)
          rw [he]
          clear he
          generalize xS s r c 4 (1 + z8) = s2 at *
          generalize xR s r c 4 (1 + z8) = r2 at *
          generalize xC s r c 4 (1 + z8) = c2 at *
          go_wp2_with (((with_reducible refine st23 (.tmp 6) (.tmp 58) ?a11 ?b11 g s2 r2 c2 #[.int .i64 s, .int .i64 r, .int .i64 c] ?c11 ?d11 ?e11 23 ?f11 ?_); (case a11 => rfl); (case b11 => rfl); (case c11 => rfl); (case d11 => rfl); (case e11 => rfl); (case f11 => exact (M2.out.alloc _).1.1); (obtain ⟨q0, q1, q2⟩ := c3 ((M2.out.alloc (.cells (pgC s2 r2 c2) 23)).set s2 r2 c2).1.1)))
          refine (check_any s2 r2 c2 _).mono ?_
          rintro e w4 ⟨rfl, hb⟩
          rw [HC.out]
          have M4 := Lib.hid (((M2.out.alloc _).set s2 r2 c2).keep hb)
          clear hb q0 q1 q2
          go_wp2_with fail
          go_roundw
          case rel => exact ⟨k + 1, s2, r2, c2, by omega, by omega, by go_num, HC, M4⟩
          case measure => simp [intOf]; omega
        · have b0 : (xE s r c 4 (1 + z8) == 0) = false := by simpa using he
          clear he
          generalize xE s r c 4 (1 + z8) = ee at *
          generalize xS s r c 4 (1 + z8) = s2 at *
          generalize xR s r c 4 (1 + z8) = r2 at *
          generalize xC s r c 4 (1 + z8) = c2 at *
          obtain ⟨q0, q1, q2⟩ := c3 M2.out.1.1
          go_wp2_with fail
          refine (check_any s r c _).mono ?_
          rintro e w4 ⟨rfl, hb⟩
          rw [hc.out]
          have M4 := Lib.hid ((M2.out.alloc _).keep hb)
          clear hb q0 q1 q2
          go_wp2_with fail
          go_roundw
          case rel => exact ⟨k + 1, s, r, c, by omega, by omega, by go_num, hc, M4⟩
          case measure => simp [intOf]; omega
      · have b4 : (kk == 4) = false := by simpa using h4
        go_wp2_with fail
        refine (Next_any s r c kk 0 _).mono ?_
        rintro e w2 ⟨rfl, hb⟩
        have M2 := Lib.hid (((hm.out.alloc _).alloc _).keep hb)
        clear hb q0 q1 q2
        have hg2 := lt_of_some M2.out.1.1
        by_cases he : xE s r c kk 0 = 0
        · have HC := Lib.hid (chk_x hc.out he)
          rw [he]
          clear he
          generalize xS s r c kk 0 = s2 at *
          generalize xR s r c kk 0 = r2 at *
          generalize xC s r c kk 0 = c2 at *
          go_wp2_with (((with_reducible refine st23 (.tmp 6) (.tmp 58) ?a21 ?b21 g s2 r2 c2 #[.int .i64 s, .int .i64 r, .int .i64 c] ?c21 ?d21 ?e21 23 ?f21 ?_); (case a21 => rfl); (case b21 => rfl); (case c21 => rfl); (case d21 => rfl); (case e21 => rfl); (case f21 => exact (M2.out.alloc _).1.1); (obtain ⟨q0, q1, q2⟩ := c3 ((M2.out.alloc (.cells (pgC s2 r2 c2) 23)).set s2 r2 c2).1.1)))
          refine (check_any s2 r2 c2 _).mono ?_
          rintro e w4 ⟨rfl, hb⟩
          rw [HC.out]
          have M4 := Lib.hid (((M2.out.alloc _).set s2 r2 c2).keep hb)
          clear hb q0 q1 q2
          go_wp2_with fail
          go_roundw
          case rel => exact ⟨k + 1, s2, r2, c2, by omega, by omega, by go_num, HC, M4⟩
          case measure => simp [intOf]; omega
        · have b0 : (xE s r c kk 0 == 0) = false := by simpa using he
          clear he
          generalize xE s r c kk 0 = ee at *
          generalize xS s r c kk 0 = s2 at *
          generalize xR s r c kk 0 = r2 at *
          generalize xC s r c kk 0 = c2 at *
          obtain ⟨q0, q1, q2⟩ := c3 M2.out.1.1
          go_wp2_with fail
          refine (check_any s r c _).mono ?_
          rintro e w4 ⟨rfl, hb⟩
          rw [hc.out]
          have M4 := Lib.hid ((M2.out.alloc _).keep hb)
          clear hb q0 q1 q2
          go_wp2_with fail
          go_roundw
          case rel => exact ⟨k + 1, s, r, c, by omega, by omega, by go_num, hc, M4⟩
          case measure => simp [intOf]; omega
    · have HC := Lib.hid hc.out
      have hstop : n ≤ k ∨ (k < n ∧ 40 ≤ k) := by omega
      clear hkn
      rcases hstop with h1 | ⟨h1, h2⟩
      · have h5 : decide ((k : Int) < (n : Int)) = false := by simp; omega
        go_wp2_with (((with_reducible refine st23 (.tmp 4) (.tmp 63) ?a31 ?b31 w.heap.size s r c #[.int .i64 0, .int .i64 0, .int .i64 0] ?c31 ?d31 ?e31 23 ?f31 ?_); (case a31 => rfl); (case b31 => rfl); (case c31 => rfl); (case d31 => rfl); (case e31 => rfl); (case f31 => exact hm.out.1.2.1)))
        refine bodyPost_ret (v := .tuple #[WV s r c, .bool true]) ?_ rfl ⟨s, r, c, HC.out, rfl, ?_⟩
        · exact res23c (fn := Tryd.f22) (p := 4) (u := 5) rfl _ _ w.heap.size 23 s r c (by rfl) (setRow_heap _ _ _ _ _ _ hm.out.1.2.1)
        · exact below_setRow hm.out.2.1 (by omega) _
      · have h5 : (k : Int) < (n : Int) := by omega
        have h6 : decide ((k : Int) < 40) = false := by simp; omega
        go_wp2_with (((with_reducible refine st23 (.tmp 4) (.tmp 63) ?a41 ?b41 w.heap.size s r c #[.int .i64 0, .int .i64 0, .int .i64 0] ?c41 ?d41 ?e41 23 ?f41 ?_); (case a41 => rfl); (case b41 => rfl); (case c41 => rfl); (case d41 => rfl); (case e41 => rfl); (case f41 => exact hm.out.1.2.1)))
        refine bodyPost_ret (v := .tuple #[WV s r c, .bool true]) ?_ rfl ⟨s, r, c, HC.out, rfl, ?_⟩
        · exact res23c (fn := Tryd.f22) (p := 4) (u := 5) rfl _ _ w.heap.size 23 s r c (by rfl) (setRow_heap _ _ _ _ _ _ hm.out.1.2.1)
        · exact below_setRow hm.out.2.1 (by omega) _
end Go.Proofs.YtcicgccllhkolaaDoor
