/- Helper facts for the statements of this seat; no statement itself. -/
import Derived.Test.YtcicgccllhkolaaDoorJ
import Derived.Deep.RegionHeld3
import Derived.Outline
namespace Go.Proofs.YtcicgccllhkolaaDoor
open Go.RowKit
set_option linter.unusedSimpArgs false
set_option linter.unusedVariables false
set_option linter.unnecessarySimpa false

theorem wfree {w : World} {g : Nat} {t : TypeId} {cs : Array Value} (h : w.heap[g]? = some (.cells cs t (0, 0))) : w.frozen? ⟨g, 0, none⟩ = false ∧ w.frozen? ⟨g, 1, none⟩ = false ∧ w.frozen? ⟨g, 2, none⟩ = false := by
  simp [World.frozen?, h]

theorem set3 {w : World} {g : Nat} {t : TypeId} {x y z a b c : Value} (h : w.heap[g]? = some (.cells #[x, y, z] t (0, 0))) : ((w.setCell ⟨g, 0, none⟩ a).setCell ⟨g, 1, none⟩ b).setCell ⟨g, 2, none⟩ c = w.setRow g #[a, b, c] := by
  rw [setCell_eq_setRow w g 0 _ t (0, 0) a h]
  have h1 := setRow_heap w g _ (#[x, y, z].setIfInBounds 0 a) t (0, 0) h
  rw [setCell_eq_setRow _ g 1 _ t (0, 0) b h1, setRow_setRow]
  have h2 := setRow_heap w g _ ((#[x, y, z].setIfInBounds 0 a).setIfInBounds 1 b) t (0, 0) h
  rw [setCell_eq_setRow _ g 2 _ t (0, 0) c h2, setRow_setRow]
  rfl
theorem PG.far {w wr : World} {s r c : Int} (h : PG w s r c wr) {g : Nat} (hg : w.heap.size + 1 < g) (cs : Array Value) : PG w s r c (wr.setRow g cs) :=
  ⟨(setRow_other _ _ _ _ (by omega)).trans h.1, (setRow_other _ _ _ _ (by omega)).trans h.2.1, below_setRow h.2.2 (by omega) _⟩

set_option maxHeartbeats 1000000 in
theorem rrun_bad (s r c : Int) (v : Value) (w : World) (hv : chk s r c ≠ 0) :
    Calls Tryd.prog 20 #[WV s r c, v] w fun e w' => e = .returned (.tuple #[WV 0 0 0, .int .i64 0, .int .i64 (chk s r c)]) ∧ Below w.heap.size w w' := by
  have h' : (chk s r c != 0) = true := by simpa using hv
  clear hv
  go_enter Tryd.func20, Tryd.ntmps20
  go_wp2_with fail
  refine (rcheck_any s r c _).mono ?_
  rintro e w1 ⟨rfl, hb⟩
  have G2 := Lib.hid (bkeep hb (h2_1 _ _ _))
  have B1 := Lib.hid (btrans (((Below.refl _ _).alloc (Nat.le_refl _) _).alloc (by simp only [World.size_alloc] <;> omega) _) hb)
  clear hb
  go_wp2_with (((with_reducible refine st23 (.tmp 4) (.tmp 15) ?a2 ?b2 (w.heap.size + 1) 0 0 0 #[.int .i64 0, .int .i64 0, .int .i64 0] ?c2 ?d2 ?e2 23 ?f2 ?_); (case a2 => rfl); (case b2 => rfl); (case c2 => rfl); (case d2 => rfl); (case e2 => rfl); (case f2 => exact G2.out)))
  refine bodyPost_ret (v := .tuple #[WV 0 0 0, .int .i64 0, .int .i64 (chk s r c)]) ?_ rfl ⟨rfl, ?_⟩
  · exact res23b (fn := Tryd.f20) (p := 4) (u := 5) (x := 6) rfl _ _ (w.heap.size + 1) 23 0 0 0 (by rfl) (setRow_heap _ _ _ _ _ _ G2.out)
  · exact below_setRow B1.out (by omega) _

set_option maxHeartbeats 2000000 in
theorem rrun_good (s r c : Int) (b off cap n : Nat) (l : List (Int × Int)) (w : World) (hv : chk s r c = 0) (hn : n = l.length) (hn2 : n ≤ 4294967296)
    (hl : ∀ k, k < n → w.cell? ⟨b, off + k * 2, none⟩ = some (.int .i64 (l.getD k (0, 0)).1) ∧ w.cell? ⟨b, off + k * 2 + 1, none⟩ = some (.int .i64 (l.getD k (0, 0)).2)) :
    Calls Tryd.prog 20 #[WV s r c, .slice (some ⟨b, off, none⟩) n cap] w fun e w' => e = .returned (.tuple #[WV (runW s r c l).1 (runW s r c l).2.1 (runW s r c l).2.2.1, .int .i64 (runW s r c l).2.2.2.1, .int .i64 (runW s r c l).2.2.2.2]) ∧ Below w.heap.size w w' := by
  have HV := Lib.hid hv
  have HN := Lib.hid hn
  have HL := Lib.hid hl
  clear hv hn hl
  go_enter Tryd.func20, Tryd.ntmps20
  go_wp2_with fail
  refine (rcheck_any s r c _).mono ?_
  rintro e w1 ⟨rfl, hb⟩
  rw [HV.out]
  have P1 : Hid (PG w s r c w1) := ⟨bkeep hb (h2_0 _ _ _), bkeep hb (h2_1 _ _ _), btrans (((Below.refl _ _).alloc (Nat.le_refl _) _).alloc (by simp only [World.size_alloc] <;> omega) _) hb⟩
  clear hb
  go_wp2_with fail
  go_loopw [8] (fun i wr => ∃ (k : Nat) (s' r' c' : Int), k ≤ n ∧ i = .int .i64 k ∧ Hid (chk s' r' c' = 0) ∧ Hid (runW s r c l = shR k (runW s' r' c' (l.drop k))) ∧ Hid (PG w s' r' c' wr)) (fun i _ => n - (intOf i).toNat)
  case atStart => exact ⟨0, s, r, c, by omega, rfl, HV, run_start s r c l, P1⟩
  case round =>
    obtain ⟨k, s', r', c', hk, rfl, hc, hr, hp⟩ := hrel
    have hlt1 := hp.out.lt
    have hlt0 : w.heap.size < wr.heap.size := by omega
    obtain ⟨q0, q1, q2⟩ := hp.out.cells
    by_cases hkn : k < n
    · obtain ⟨d0, d1⟩ := HL.out k hkn
      have c0 := (hp.out.2.2.cell (cell_lt d0)).trans d0
      have c1 := (hp.out.2.2.cell (cell_lt d1)).trans d1
      obtain ⟨kk, hkk⟩ : ∃ x, (l.getD k (0, 0)).1 = x := ⟨_, rfl⟩
      obtain ⟨pp, hpp⟩ : ∃ x, (l.getD k (0, 0)).2 = x := ⟨_, rfl⟩
      rw [hkk] at c0 d0
      rw [hpp] at c1 d1
      have C0 := Lib.hid d0
      have C1 := Lib.hid d1
      clear d0 d1
      have HK := Lib.hid hkk
      have HP := Lib.hid hpp
      clear hkk hpp
      have i1 : (0 : Int) ≤ (k : Int) := by omega
      have i2 : (k : Int) < (n : Int) := by omega
      have n0 := World.new_ne wr _ q0
      have n1 := World.new_ne wr _ c0
      go_wp2_with fail
      go_region_held3 (fun w' => w'.cell? ⟨w.heap.size, 0, none⟩ = some (.int .i64 s') ∧ w'.cell? ⟨w.heap.size, 1, none⟩ = some (.int .i64 r') ∧ w'.cell? ⟨w.heap.size, 2, none⟩ = some (.int .i64 c') ∧ w'.cell? ⟨b, off + k * 2, none⟩ = some (.int .i64 kk) ∧ w'.cell? ⟨b, off + k * 2 + 1, none⟩ = some (.int .i64 pp))
        (go_keep)
        (first | (go_at_call 25; (with_reducible refine (rNext_any s' r' c' kk pp wr.drew).mono ?_); rintro e w2 ⟨rfl, hb⟩; have P2 := Lib.hid (hp.out.drew.keep hb); obtain ⟨v0, v1, v2⟩ := P2.out.cells; have d0 := (P2.out.2.2.cell (cell_lt C0.out)).trans C0.out; have d1 := (P2.out.2.2.cell (cell_lt C1.out)).trans C1.out; have hlt3 := P2.out.lt; have hlt2 : w.heap.size < w2.heap.size := (by omega); clear hb) | (go_at_call 25; (with_reducible refine (rNext_any s' r' c' kk pp (wr.alloc (.cells #[.int .i64 0, .int .i64 0, .int .i64 0] 23)).drew).mono ?_); rintro e w2 ⟨rfl, hb⟩; have P2 := Lib.hid ((hp.out.alloc (.cells #[.int .i64 0, .int .i64 0, .int .i64 0] 23)).drew.keep hb); have G9 := Lib.hid (bkeep (wr := (wr.alloc (.cells #[.int .i64 0, .int .i64 0, .int .i64 0] 23)).drew) hb (h1_0 wr (.cells #[.int .i64 0, .int .i64 0, .int .i64 0] 23))); obtain ⟨v0, v1, v2⟩ := P2.out.cells; have d0 := (P2.out.2.2.cell (cell_lt C0.out)).trans C0.out; have d1 := (P2.out.2.2.cell (cell_lt C1.out)).trans C1.out; have hlt3 := P2.out.lt; have hlt2 : w.heap.size < w2.heap.size := (by omega); obtain ⟨x0, x1, x2⟩ := wcells G9.out; obtain ⟨f0, f1, f2⟩ := wfree G9.out; clear hb))
      · skip
        obtain ⟨W3, hW3⟩ : ∃ x, x = w2.alloc (.cells #[.int .i64 (xS s' r' c' kk pp), .int .i64 (xR s' r' c' kk pp), .int .i64 (xC s' r' c' kk pp)] 23) := ⟨_, rfl⟩
        have P3 : Hid (PG w s' r' c' W3) := by rw [hW3]; exact P2.out.alloc _
        have G3 : Hid (W3.heap[w2.heap.size]? = some (.cells #[.int .i64 (xS s' r' c' kk pp), .int .i64 (xR s' r' c' kk pp), .int .i64 (xC s' r' c' kk pp)] 23 (0, 0))) := by rw [hW3]; exact h1_0 _ _
        rw [← hW3]
        clear hW3 v0 v1 v2 q0 q1 q2 c0 c1 
        obtain ⟨q0, q1, q2⟩ := P3.out.cells
        obtain ⟨x0, x1, x2⟩ := wcells G3.out
        have hx : xE s' r' c' kk pp = nE s' r' kk pp := by unfold xE; rw [if_pos hc.out]
        by_cases he : nE s' r' kk pp = 0
        · have HC := Lib.hid (chk_next hc.out he)
          have HR := Lib.hid (run_step hr.out (by have := HN.out; omega) kk pp HK.out HP.out he)
          rw [hx, he]
          have hS : xS s' r' c' kk pp = nS s' r' kk pp := by unfold xS; rw [if_pos hc.out]
          have hR2 : xR s' r' c' kk pp = nR s' r' kk pp := by unfold xR; rw [if_pos hc.out]
          have hC2 : xC s' r' c' kk pp = nC s' r' c' kk pp := by unfold xC; rw [if_pos hc.out]
          rw [hS] at x0 ⊢
          rw [hR2] at x1 ⊢
          rw [hC2] at x2 ⊢
          clear he hx hS hR2 hC2 G3
          generalize nS s' r' kk pp = s2 at *
          generalize nR s' r' kk pp = r2 at *
          generalize nC s' r' c' kk pp = c2 at *
          go_wp2_with (((with_reducible refine st23 (.tmp 2) (.tmp 37) ?a12 ?b12 w.heap.size s2 r2 c2 #[.int .i64 s', .int .i64 r', .int .i64 c'] ?c12 ?d12 ?e12 23 ?f12 ?_); (case a12 => rfl); (case b12 => rfl); (case c12 => rfl); (case d12 => rfl); (case e12 => rfl); (case f12 => exact P3.out.1)))
          go_roundw
          case rel => exact ⟨k + 1, s2, r2, c2, by omega, by go_num, HC, HR, P3.out.set _ _ _⟩
          case measure => simp [intOf]; omega
        · have HR := Lib.hid (run_stop hr.out (by have := HN.out; omega) kk pp HK.out HP.out he)
          have h' : (nE s' r' kk pp != 0) = true := by simpa using he
          rw [hx]
          clear he hx G3
          generalize xS s' r' c' kk pp = s2 at *
          generalize xR s' r' c' kk pp = r2 at *
          generalize xC s' r' c' kk pp = c2 at *
          go_wp2_with (((with_reducible refine st23 (.tmp 4) (.tmp 34) ?a13 ?b13 (w.heap.size + 1) s' r' c' #[.int .i64 0, .int .i64 0, .int .i64 0] ?c13 ?d13 ?e13 23 ?f13 ?_); (case a13 => rfl); (case b13 => rfl); (case c13 => rfl); (case d13 => rfl); (case e13 => rfl); (case f13 => exact P3.out.2.1)))
          rw [HR.out]
          refine bodyPost_ret (v := .tuple #[WV s' r' c', .int .i64 k, .int .i64 (nE s' r' kk pp)]) ?_ rfl ⟨rfl, ?_⟩
          · exact res23b (fn := Tryd.f20) (p := 4) (u := 5) (x := 6) rfl _ _ (w.heap.size + 1) 23 s' r' c' (by rfl) (setRow_heap _ _ _ _ _ _ P3.out.2.1)
          · exact below_setRow P3.out.2.2 (by omega) _
      · rw [set3 G9.out]
        obtain ⟨W3, hW3⟩ : ∃ x, x = w2.setRow wr.heap.size #[.int .i64 (xS s' r' c' kk pp), .int .i64 (xR s' r' c' kk pp), .int .i64 (xC s' r' c' kk pp)] := ⟨_, rfl⟩
        have P3 : Hid (PG w s' r' c' W3) := by rw [hW3]; exact P2.out.far (by omega) _
        have G3 : Hid (W3.heap[wr.heap.size]? = some (.cells #[.int .i64 (xS s' r' c' kk pp), .int .i64 (xR s' r' c' kk pp), .int .i64 (xC s' r' c' kk pp)] 23 (0, 0))) := by rw [hW3]; exact setRow_heap _ _ _ _ _ _ G9.out
        rw [← hW3]
        clear hW3 v0 v1 v2 q0 q1 q2 c0 c1 x0 x1 x2 f0 f1 f2
        obtain ⟨q0, q1, q2⟩ := P3.out.cells
        obtain ⟨x0, x1, x2⟩ := wcells G3.out
        have hx : xE s' r' c' kk pp = nE s' r' kk pp := by unfold xE; rw [if_pos hc.out]
        by_cases he : nE s' r' kk pp = 0
        · have HC := Lib.hid (chk_next hc.out he)
          have HR := Lib.hid (run_step hr.out (by have := HN.out; omega) kk pp HK.out HP.out he)
          rw [hx, he]
          have hS : xS s' r' c' kk pp = nS s' r' kk pp := by unfold xS; rw [if_pos hc.out]
          have hR2 : xR s' r' c' kk pp = nR s' r' kk pp := by unfold xR; rw [if_pos hc.out]
          have hC2 : xC s' r' c' kk pp = nC s' r' c' kk pp := by unfold xC; rw [if_pos hc.out]
          rw [hS] at x0 ⊢
          rw [hR2] at x1 ⊢
          rw [hC2] at x2 ⊢
          clear he hx hS hR2 hC2 G3
          generalize nS s' r' kk pp = s2 at *
          generalize nR s' r' kk pp = r2 at *
          generalize nC s' r' c' kk pp = c2 at *
          go_wp2_with (((with_reducible refine st23 (.tmp 2) (.tmp 37) ?a22 ?b22 w.heap.size s2 r2 c2 #[.int .i64 s', .int .i64 r', .int .i64 c'] ?c22 ?d22 ?e22 23 ?f22 ?_); (case a22 => rfl); (case b22 => rfl); (case c22 => rfl); (case d22 => rfl); (case e22 => rfl); (case f22 => exact P3.out.1)))
          go_roundw
          case rel => exact ⟨k + 1, s2, r2, c2, by omega, by go_num, HC, HR, P3.out.set _ _ _⟩
          case measure => simp [intOf]; omega
        · have HR := Lib.hid (run_stop hr.out (by have := HN.out; omega) kk pp HK.out HP.out he)
          have h' : (nE s' r' kk pp != 0) = true := by simpa using he
          rw [hx]
          clear he hx G3
          generalize xS s' r' c' kk pp = s2 at *
          generalize xR s' r' c' kk pp = r2 at *
          generalize xC s' r' c' kk pp = c2 at *
          go_wp2_with (((with_reducible refine st23 (.tmp 4) (.tmp 34) ?a23 ?b23 (w.heap.size + 1) s' r' c' #[.int .i64 0, .int .i64 0, .int .i64 0] ?c23 ?d23 ?e23 23 ?f23 ?_); (case a23 => rfl); (case b23 => rfl); (case c23 => rfl); (case d23 => rfl); (case e23 => rfl); (case f23 => exact P3.out.2.1)))
          rw [HR.out]
          refine bodyPost_ret (v := .tuple #[WV s' r' c', .int .i64 k, .int .i64 (nE s' r' kk pp)]) ?_ rfl ⟨rfl, ?_⟩
          · exact res23b (fn := Tryd.f20) (p := 4) (u := 5) (x := 6) rfl _ _ (w.heap.size + 1) 23 s' r' c' (by rfl) (setRow_heap _ _ _ _ _ _ P3.out.2.1)
          · exact below_setRow P3.out.2.2 (by omega) _
    · have HR := Lib.hid (run_end hr.out (by have := HN.out; omega))
      obtain ⟨kn, hkn2⟩ : ∃ kn : Nat, kn = n := ⟨_, rfl⟩
      have HE : Hid (k = n) := by show _ = _; omega
      have hle : n ≤ k := by omega
      go_wp2_with (((with_reducible refine st23 (.tmp 4) (.tmp 38) ?a4 ?b4 (w.heap.size + 1) s' r' c' #[.int .i64 0, .int .i64 0, .int .i64 0] ?c4 ?d4 ?e4 23 ?f4 ?_); (case a4 => rfl); (case b4 => rfl); (case c4 => rfl); (case d4 => rfl); (case e4 => rfl); (case f4 => exact hp.out.2.1)))
      rw [HR.out]
      refine bodyPost_ret (v := .tuple #[WV s' r' c', .int .i64 n, .int .i64 0]) ?_ rfl ⟨by rw [HE.out], ?_⟩
      · exact res23b (fn := Tryd.f20) (p := 4) (u := 5) (x := 6) rfl _ _ (w.heap.size + 1) 23 s' r' c' (by rfl) (setRow_heap _ _ _ _ _ _ hp.out.2.1)
      · exact below_setRow hp.out.2.2 (by omega) _
end Go.Proofs.YtcicgccllhkolaaDoor
