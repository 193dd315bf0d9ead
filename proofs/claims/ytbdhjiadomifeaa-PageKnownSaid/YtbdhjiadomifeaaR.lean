/- Helper facts for the statements of this seat; no statement itself. -/
import Derived.Test.YtbdhjiadomifeaaQ
import Derived.Deep.RegionHeld3
namespace Go.Proofs.Ytbdhjiadomifeaa
open Go.RowKit
set_option linter.unusedSimpArgs false
set_option linter.unusedVariables false
set_option linter.unnecessarySimpa false
attribute [local go_sem] W8_set

/-- The cells of two pages in memory. -/
theorem sixteen {w : World} {g h : Nat} {c d : List Nat} {t u : TypeId} (hc : c.length = 8) (hd : d.length = 8) (h1 : w.heap[g]? = some (.cells (W8 c) t (0, 0))) (h2 : w.heap[h]? = some (.cells (W8 d) u (0, 0))) :
    w.cell? ⟨g, 0, none⟩ = some (.int .u64 ((gd c 0 : Nat) : Int)) ∧ w.cell? ⟨g, 1, none⟩ = some (.int .u64 ((gd c 1 : Nat) : Int)) ∧ w.cell? ⟨g, 2, none⟩ = some (.int .u64 ((gd c 2 : Nat) : Int)) ∧ w.cell? ⟨g, 3, none⟩ = some (.int .u64 ((gd c 3 : Nat) : Int)) ∧ w.cell? ⟨g, 4, none⟩ = some (.int .u64 ((gd c 4 : Nat) : Int)) ∧ w.cell? ⟨g, 5, none⟩ = some (.int .u64 ((gd c 5 : Nat) : Int)) ∧ w.cell? ⟨g, 6, none⟩ = some (.int .u64 ((gd c 6 : Nat) : Int)) ∧ w.cell? ⟨g, 7, none⟩ = some (.int .u64 ((gd c 7 : Nat) : Int)) ∧ w.cell? ⟨h, 0, none⟩ = some (.int .u64 ((gd d 0 : Nat) : Int)) ∧ w.cell? ⟨h, 1, none⟩ = some (.int .u64 ((gd d 1 : Nat) : Int)) ∧ w.cell? ⟨h, 2, none⟩ = some (.int .u64 ((gd d 2 : Nat) : Int)) ∧ w.cell? ⟨h, 3, none⟩ = some (.int .u64 ((gd d 3 : Nat) : Int)) ∧ w.cell? ⟨h, 4, none⟩ = some (.int .u64 ((gd d 4 : Nat) : Int)) ∧ w.cell? ⟨h, 5, none⟩ = some (.int .u64 ((gd d 5 : Nat) : Int)) ∧ w.cell? ⟨h, 6, none⟩ = some (.int .u64 ((gd d 6 : Nat) : Int)) ∧ w.cell? ⟨h, 7, none⟩ = some (.int .u64 ((gd d 7 : Nat) : Int)) := by
  have e1 : ∀ j, j < 8 → w.cell? ⟨g, j, none⟩ = some (.int .u64 ((gd c j : Nat) : Int)) := fun j hj => setRow_cell h1 (W8_get? _ j (by rw [hc]; exact hj))
  have e2 : ∀ j, j < 8 → w.cell? ⟨h, j, none⟩ = some (.int .u64 ((gd d j : Nat) : Int)) := fun j hj => setRow_cell h2 (W8_get? _ j (by rw [hd]; exact hj))
  exact ⟨e1 0 (by omega), e1 1 (by omega), e1 2 (by omega), e1 3 (by omega), e1 4 (by omega), e1 5 (by omega), e1 6 (by omega), e1 7 (by omega), e2 0 (by omega), e2 1 (by omega), e2 2 (by omega), e2 3 (by omega), e2 4 (by omega), e2 5 (by omega), e2 6 (by omega), e2 7 (by omega)⟩

theorem ints_one (w : World) (j : Int) (t : TypeId) : IsInts (w.alloc (.cells #[.int .i64 j] t)).drew (.slice (some ⟨w.heap.size, 0, none⟩) 1 1) [j] :=
  ⟨_, _, _, rfl, rfl, by simp, .inr ⟨w.heap.size, 0, rfl, fun k hk => by
    have : k = 0 := by simp at hk; omega
    subst this
    exact setRow_cell (t := t) (h1_0 w _) rfl⟩⟩

theorem bkeepD' {wr w' : World} {g : Nat} {o : Obj} {n : Nat} (hb : Below (wr.drewN n).heap.size (wr.drewN n) w') (h : Hid (wr.heap[g]? = some o)) : Hid (w'.heap[g]? = some o) := bkeep (wr := wr.drewN n) hb h

set_option maxHeartbeats 1000000 in
theorem pageTells_walk (c : List Nat) (i : Int) (v : Nat) (w : World) (hp : Pg c) (hv : v < 18446744073709551616) :
    Calls Try.prog 6 #[.agg (W8 c), .int .i64 i, .int .u64 v] w fun e w' => e = .returned (.bool true) ∧ Below w.heap.size w w' := by
  have Gw0 := Lib.hid (h1_0 w (.cells (W8 c) 24))
  have Bw0 : Hid (Below w.heap.size w (w.alloc (.cells (W8 c) 24))) := ((Below.refl _ _).alloc (Nat.le_refl _) _)
  obtain ⟨j, hj⟩ : ∃ j : Nat, i % 8 = (j : Int) := ⟨(i % 8).toNat, by omega⟩
  have hj8 : j < 8 := by omega
  have HJ := Lib.hid hj
  clear hj
  go_enter Try.func6, Try.ntmps6
  go_wp2_with fail
  refine (mod_any i 8 _ (by omega) (by omega)).mono ?_
  rintro e w' ⟨rfl, rfl⟩
  rw [HJ.out]
  go_wp2_with (refine ld24 rfl _ rfl _ rfl c hp.1 24 Gw0.out ?_)
  refine (pput_all c j v _ hp).mono ?_
  rintro e w1 ⟨rfl, hb⟩
  have Gw1 := Lib.hid (bkeep hb Gw0.out)
  have Bw1 := Lib.hid (btrans Bw0.out hb)
  clear hb Gw0 Bw0
  have hl := Lib.hid (wR_length hp j v)
  go_wp2_with (refine st24n rfl _ _ rfl (wR c j v) rfl rfl hl.out rfl ?_)
  obtain ⟨w2, hw2⟩ : ∃ w2, w2 = w1.alloc (.cells (W8 (wR c j v)) 24) := ⟨_, rfl⟩
  have G1 : Hid (w2.heap[w.heap.size]? = some (.cells (W8 c) 24 (0, 0))) := by rw [hw2]; exact hold1 Gw1.out _
  have G2 : Hid (w2.heap[w1.heap.size]? = some (.cells (W8 (wR c j v)) 24 (0, 0))) := by rw [hw2]; exact h1_0 _ _
  have B2 : Hid (Below w.heap.size w w2) := by rw [hw2]; exact balloc Bw1.out _
  have E1 := Lib.hid (W8_eight hp.1)
  have E2 := Lib.hid (W8_eight hl.out)
  have hwR : wR c (j : Int) v = c.set j v := by unfold wR; rw [if_pos (by simp [okW]; omega)]; rfl
  have hwE : wE (j : Int) = 0 := by unfold wE; rw [if_pos (by simp [okW]; omega)]
  have hpd : Hid (Pg (wR c j v)) := by rw [hwR]; exact set_pg hp j v hv
  have HW := Lib.hid hwR
  have HE := Lib.hid hwE
  clear hwR hwE
  rw [← hw2]
  clear hw2 Gw1 Bw1
  have s0 := sixteen hp.1 hl.out G1.out G2.out
  generalize hgw : w1.heap.size = n1 at *
  clear hgw
  generalize hd : wR c j v = d at *
  have HD := Lib.hid hd
  clear hd
  go_wp2_with fail
  go_region_held3 (fun w' => w'.cell? ⟨w.heap.size, 0, none⟩ = some (.int .u64 ((gd c 0 : Nat) : Int)) ∧ w'.cell? ⟨w.heap.size, 1, none⟩ = some (.int .u64 ((gd c 1 : Nat) : Int)) ∧ w'.cell? ⟨w.heap.size, 2, none⟩ = some (.int .u64 ((gd c 2 : Nat) : Int)) ∧ w'.cell? ⟨w.heap.size, 3, none⟩ = some (.int .u64 ((gd c 3 : Nat) : Int)) ∧ w'.cell? ⟨w.heap.size, 4, none⟩ = some (.int .u64 ((gd c 4 : Nat) : Int)) ∧ w'.cell? ⟨w.heap.size, 5, none⟩ = some (.int .u64 ((gd c 5 : Nat) : Int)) ∧ w'.cell? ⟨w.heap.size, 6, none⟩ = some (.int .u64 ((gd c 6 : Nat) : Int)) ∧ w'.cell? ⟨w.heap.size, 7, none⟩ = some (.int .u64 ((gd c 7 : Nat) : Int)) ∧ w'.cell? ⟨n1, 0, none⟩ = some (.int .u64 ((gd d 0 : Nat) : Int)) ∧ w'.cell? ⟨n1, 1, none⟩ = some (.int .u64 ((gd d 1 : Nat) : Int)) ∧ w'.cell? ⟨n1, 2, none⟩ = some (.int .u64 ((gd d 2 : Nat) : Int)) ∧ w'.cell? ⟨n1, 3, none⟩ = some (.int .u64 ((gd d 3 : Nat) : Int)) ∧ w'.cell? ⟨n1, 4, none⟩ = some (.int .u64 ((gd d 4 : Nat) : Int)) ∧ w'.cell? ⟨n1, 5, none⟩ = some (.int .u64 ((gd d 5 : Nat) : Int)) ∧ w'.cell? ⟨n1, 6, none⟩ = some (.int .u64 ((gd d 6 : Nat) : Int)) ∧ w'.cell? ⟨n1, 7, none⟩ = some (.int .u64 ((gd d 7 : Nat) : Int)))
    (first | exact s0 | exact s1 | exact s2)
    (first | (go_at_call 23; rw [E1.out, E2.out]; (with_reducible refine (diff_any c d _ hp hpd.out).mono ?_); rintro e w3 ⟨va, rfl, hi1, hb3⟩; have I1 := Lib.hid hi1; have G1' := bkeepD hb3 G1; have G2' := bkeepD hb3 G2; have B3 := btransD B2 hb3; have s1 := sixteen hp.1 hl.out G1'.out G2'.out; clear hi1 hb3) | (go_at_call 23; (with_reducible refine (diff_any d c _ hpd.out hp).mono ?_); rintro e w4 ⟨vb, rfl, hi2, hb4⟩; have I2 := Lib.hid hi2; have I1' := Lib.hid (I1.out.keep hb4); have G1q := Lib.hid (bkeep hb4 G1'.out); have G2q := Lib.hid (bkeep hb4 G2'.out); have B4 := Lib.hid (btrans B3.out hb4); have s2 := sixteen hp.1 hl.out G1q.out G2q.out; clear hi2 hb4))
  rw [HE.out]
  have hsame : Hid ((diffL c d 8 == diffL d c 8) = true) := by show _ = _; rw [diffL_comm d c]; simp
  have he := run_eql24 c d hp.1 hl.out
  clear s0 s1 s2
  go_wp2_with fail
  refine (sameInts_any va vb _ _ _ I1'.out I2.out).mono ?_
  rintro e w5 ⟨rfl, hb5⟩
  rw [hsame.out]
  have G1r := Lib.hid (bkeep hb5 G1q.out)
  have G2r := Lib.hid (bkeep hb5 G2q.out)
  have B5 := Lib.hid (btrans B4.out hb5)
  have I1r := Lib.hid (I1'.out.keep hb5)
  clear hb5 G1q G2q B4 I1' I2 G1' G2' B3 I1 G1 G2 B2
  by_cases hcv : c.getD j 0 = v
  · have hcd : c = d := by rw [HW.out, ← hcv, set_same c j (by rw [hp.1]; exact hj8)]
    have hbq : (c == d) = true := by rw [hcd]; simp
    have hlen : ∃ aa ca, va = .slice aa 0 ca := by
      obtain ⟨aa, la, ca, h1, h2, _⟩ := I1r.out
      rw [hcd, diffL_same] at h2
      exact ⟨aa, ca, by rw [h1, h2]; rfl⟩
    obtain ⟨aa, ca, hva⟩ := hlen
    have hsum : Hid (sumK c 8 = sumK d 8) := by rw [hcd]; rfl
    rw [hbq] at he
    clear hcd hbq hcv
    rw [hva]
    clear hva
    have s0 := sixteen hp.1 hl.out G1r.out G2r.out
    go_wp2_with (first | refine ld24 rfl _ rfl w.heap.size rfl c hp.1 24 G1r.out ?_ | refine ld24 rfl _ rfl n1 rfl d hl.out 24 G2r.out ?_)
    go_region_held3 (fun w' => w'.cell? ⟨w.heap.size, 0, none⟩ = some (.int .u64 ((gd c 0 : Nat) : Int)) ∧ w'.cell? ⟨w.heap.size, 1, none⟩ = some (.int .u64 ((gd c 1 : Nat) : Int)) ∧ w'.cell? ⟨w.heap.size, 2, none⟩ = some (.int .u64 ((gd c 2 : Nat) : Int)) ∧ w'.cell? ⟨w.heap.size, 3, none⟩ = some (.int .u64 ((gd c 3 : Nat) : Int)) ∧ w'.cell? ⟨w.heap.size, 4, none⟩ = some (.int .u64 ((gd c 4 : Nat) : Int)) ∧ w'.cell? ⟨w.heap.size, 5, none⟩ = some (.int .u64 ((gd c 5 : Nat) : Int)) ∧ w'.cell? ⟨w.heap.size, 6, none⟩ = some (.int .u64 ((gd c 6 : Nat) : Int)) ∧ w'.cell? ⟨w.heap.size, 7, none⟩ = some (.int .u64 ((gd c 7 : Nat) : Int)) ∧ w'.cell? ⟨n1, 0, none⟩ = some (.int .u64 ((gd d 0 : Nat) : Int)) ∧ w'.cell? ⟨n1, 1, none⟩ = some (.int .u64 ((gd d 1 : Nat) : Int)) ∧ w'.cell? ⟨n1, 2, none⟩ = some (.int .u64 ((gd d 2 : Nat) : Int)) ∧ w'.cell? ⟨n1, 3, none⟩ = some (.int .u64 ((gd d 3 : Nat) : Int)) ∧ w'.cell? ⟨n1, 4, none⟩ = some (.int .u64 ((gd d 4 : Nat) : Int)) ∧ w'.cell? ⟨n1, 5, none⟩ = some (.int .u64 ((gd d 5 : Nat) : Int)) ∧ w'.cell? ⟨n1, 6, none⟩ = some (.int .u64 ((gd d 6 : Nat) : Int)) ∧ w'.cell? ⟨n1, 7, none⟩ = some (.int .u64 ((gd d 7 : Nat) : Int)))
      (first | exact s0 | exact s1 | exact s2 | exact s3)
      (first | (go_at_call 25; rw [E1.out, E2.out]; (with_reducible refine (sum_any c _ hp).mono ?_); rintro e w6 ⟨rfl, hb6⟩; have G1s := bkeepD hb6 G1r; have G2s := bkeepD hb6 G2r; have B6 := btransD B5 hb6; have s1 := sixteen hp.1 hl.out G1s.out G2s.out; clear hb6) | (go_at_call 25; (with_reducible refine (sum_any d _ hpd.out).mono ?_); rintro e w7 ⟨rfl, hb7⟩; have G1t := Lib.hid (bkeep hb7 G1s.out); have G2t := Lib.hid (bkeep hb7 G2s.out); have B7 := Lib.hid (btrans B6.out hb7); have s2 := sixteen hp.1 hl.out G1t.out G2t.out; clear hb7; rw [hsum.out]) | (go_at_call 17; (with_reducible refine (awake_any _).mono ?_); rintro e w8 ⟨rfl, hb8⟩; have G1u := Lib.hid (bkeep hb8 G1t.out); have G2u := Lib.hid (bkeep hb8 G2t.out); have B8 := Lib.hid (btrans B7.out hb8); have s3 := sixteen hp.1 hl.out G1u.out G2u.out; clear hb8))
    go_wp2
    go_ret
    exact ⟨rfl, B8.out⟩
  · have hcl : j < c.length := by rw [hp.1]; exact hj8
    have hbq : (c == d) = false := by
      rw [beq_eq_false_iff_ne]; intro h; apply hcv
      have : d.getD j 0 = v := by rw [HW.out, getD_set c j v j hcl, if_pos rfl]
      rw [← this, ← h]
    have hdl : Hid ((diffL c d 8 == [(j : Int)]) = true) := by
      show _ = _
      rw [HW.out, diffL_set c j v hcl hcv, if_pos hj8]; simp
    have hsum : (((sumK c 8 : Nat) : Int) != ((sumK d 8 : Nat) : Int)) = true := by
      have := sum_set c hp j v hj8 hv hcv
      rw [← HW.out] at this
      simp only [bne_iff_ne]; omega
    rw [hbq] at he
    clear hbq hcv
    have G1x := Lib.hid (hold1 G1r.out (.cells #[.int .i64 (j : Int)] 3))
    have G2x := Lib.hid (hold1 G2r.out (.cells #[.int .i64 (j : Int)] 3))
    have B5x := Lib.hid (balloc B5.out (.cells #[.int .i64 (j : Int)] 3))
    have J1 : Hid (IsInts (w5.alloc (.cells #[.int .i64 (j : Int)] 3)).drew va (diffL c d 8)) := I1r.out.keep ((Below.refl _ _).alloc (Nat.le_refl _) _).drew
    have J2 : Hid (IsInts (w5.alloc (.cells #[.int .i64 (j : Int)] 3)).drew (.slice (some ⟨w5.heap.size, 0, none⟩) 1 1) [(j : Int)]) := ints_one w5 (j : Int) 3
    have s0 := sixteen hp.1 hl.out G1r.out G2r.out
    go_wp2_with (first | refine ld24 rfl _ rfl w.heap.size rfl c hp.1 24 G1r.out ?_ | refine ld24 rfl _ rfl n1 rfl d hl.out 24 G2r.out ?_)
    go_region_held3 (fun w' => w'.cell? ⟨w.heap.size, 0, none⟩ = some (.int .u64 ((gd c 0 : Nat) : Int)) ∧ w'.cell? ⟨w.heap.size, 1, none⟩ = some (.int .u64 ((gd c 1 : Nat) : Int)) ∧ w'.cell? ⟨w.heap.size, 2, none⟩ = some (.int .u64 ((gd c 2 : Nat) : Int)) ∧ w'.cell? ⟨w.heap.size, 3, none⟩ = some (.int .u64 ((gd c 3 : Nat) : Int)) ∧ w'.cell? ⟨w.heap.size, 4, none⟩ = some (.int .u64 ((gd c 4 : Nat) : Int)) ∧ w'.cell? ⟨w.heap.size, 5, none⟩ = some (.int .u64 ((gd c 5 : Nat) : Int)) ∧ w'.cell? ⟨w.heap.size, 6, none⟩ = some (.int .u64 ((gd c 6 : Nat) : Int)) ∧ w'.cell? ⟨w.heap.size, 7, none⟩ = some (.int .u64 ((gd c 7 : Nat) : Int)) ∧ w'.cell? ⟨n1, 0, none⟩ = some (.int .u64 ((gd d 0 : Nat) : Int)) ∧ w'.cell? ⟨n1, 1, none⟩ = some (.int .u64 ((gd d 1 : Nat) : Int)) ∧ w'.cell? ⟨n1, 2, none⟩ = some (.int .u64 ((gd d 2 : Nat) : Int)) ∧ w'.cell? ⟨n1, 3, none⟩ = some (.int .u64 ((gd d 3 : Nat) : Int)) ∧ w'.cell? ⟨n1, 4, none⟩ = some (.int .u64 ((gd d 4 : Nat) : Int)) ∧ w'.cell? ⟨n1, 5, none⟩ = some (.int .u64 ((gd d 5 : Nat) : Int)) ∧ w'.cell? ⟨n1, 6, none⟩ = some (.int .u64 ((gd d 6 : Nat) : Int)) ∧ w'.cell? ⟨n1, 7, none⟩ = some (.int .u64 ((gd d 7 : Nat) : Int)))
      (first | exact s0 | exact s1 | exact s2 | exact s3 | exact s4 | go_keep)
      (first | (go_at_call 24; (with_reducible refine (sameInts_any va _ _ [(j : Int)] _ J1.out J2.out).mono ?_); rintro e w6 ⟨rfl, hb6⟩; rw [hdl.out]; have G1s := bkeepD hb6 G1x; have G2s := bkeepD hb6 G2x; have B6 := btransD B5x hb6; have s1 := sixteen hp.1 hl.out G1s.out G2s.out; clear hb6) | (go_at_call 25; rw [E1.out, E2.out]; (with_reducible refine (sum_any c _ hp).mono ?_); rintro e w7 ⟨rfl, hb7⟩; have G1t := Lib.hid (bkeep hb7 G1s.out); have G2t := Lib.hid (bkeep hb7 G2s.out); have B7 := Lib.hid (btrans B6.out hb7); have s2 := sixteen hp.1 hl.out G1t.out G2t.out; clear hb7) | (go_at_call 25; (with_reducible refine (sum_any d _ hpd.out).mono ?_); rintro e w8 ⟨rfl, hb8⟩; have G1u := Lib.hid (bkeep hb8 G1t.out); have G2u := Lib.hid (bkeep hb8 G2t.out); have B8 := Lib.hid (btrans B7.out hb8); have s3 := sixteen hp.1 hl.out G1u.out G2u.out; clear hb8) | (go_at_call 17; (with_reducible refine (awake_any _).mono ?_); rintro e w9 ⟨rfl, hb9⟩; have G1v := Lib.hid (bkeep hb9 G1u.out); have G2v := Lib.hid (bkeep hb9 G2u.out); have B9 := Lib.hid (btrans B8.out hb9); have s4 := sixteen hp.1 hl.out G1v.out G2v.out; clear hb9))
    go_wp2
    go_ret
    exact ⟨rfl, B9.out⟩

end Go.Proofs.Ytbdhjiadomifeaa
