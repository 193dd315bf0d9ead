/- Helper facts for the statements of this seat; no statement itself. -/
import Derived.Test.YtcicgccllhkolaaDoorZ
import Derived.Deep.RegionHeld3
import Derived.Deep.DeepCutAuto
import Derived.Outline
namespace Go.Proofs.YtcicgccllhkolaaDoor
open Go.RowKit
set_option linter.unusedSimpArgs false
set_option linter.unusedVariables false
set_option linter.unnecessarySimpa false

theorem heapS {w : World} {g : Nat} {o : Obj} (h : w.heap[g]? = some o) (p : Addr) (v : Value) (hp : p.block ≠ g) : (w.setCell p v).heap[g]? = some o := by
  rw [heap_setCell_other _ _ _ _ (by omega)]; exact h
theorem isIntsL {W : World} {g : Nat} {t : TypeId} (l : List Int) (hl : l.length ≤ 4294967296) (h : W.heap[g]? = some (.cells (l.map (Value.int .i64)).toArray t (0, 0))) : IsInts W (.slice (some ⟨g, 0, none⟩) l.length l.length) l :=
  ⟨_, _, _, rfl, rfl, hl, .inr ⟨g, 0, rfl, fun k hk => by
    refine setRow_cell h ?_
    simp [List.getD, hk]⟩⟩

set_option maxHeartbeats 1000000 in
theorem allows_yes (s r c : Int) (v : Value) (l : List Int) (w : World) (hv : chk s r c = 0) (ha : alw s r c = l) (hi : IsInts w v l) :
    Calls Tryd.prog 16 #[WV s r c, v] w fun e w' => e = .returned (.bool true) ∧ Below w.heap.size w w' := by
  have HV := Lib.hid hv
  have HA := Lib.hid ha
  have HI := Lib.hid hi
  have hsm : Hid ((l == l) = true) := by show _ = _; simp
  clear hv ha hi
  go_enter Tryd.func16, Tryd.ntmps16
  go_wp2_with fail
  refine (allowed_any s r c _).mono ?_
  rintro e w1 ⟨va, rfl, ia, hb⟩
  rw [HV.out]
  rw [HA.out] at ia
  have B1 := Lib.hid (btrans ((Below.refl _ _).alloc (Nat.le_refl _) _) hb)
  have IA := Lib.hid ia
  have IB := Lib.hid (HI.out.keep B1.out)
  clear hb ia
  go_wp2_with fail
  refine (sameInts_any va v _ _ _ IA.out IB.out).mono ?_
  rintro e w2 ⟨rfl, hb⟩
  rw [hsm.out]
  have B2 := Lib.hid (btrans B1.out hb)
  clear hb
  go_wp2_with fail
  go_ret
  exact ⟨rfl, B2.out⟩

set_option maxHeartbeats 1000000 in
theorem reaches_yes (n : Int) (v : Value) (l : List Int) (w : World) (hv : rcE 1 n = 0) (ha : rcL 1 n = l) (hi : IsInts w v l) :
    Calls Tryd.prog 17 #[.int .i64 n, v] w fun e w' => e = .returned (.bool true) ∧ Below w.heap.size w w' := by
  have HV := Lib.hid hv
  have HA := Lib.hid ha
  have HI := Lib.hid hi
  have hsm : Hid ((l == l) = true) := by show _ = _; simp
  clear hv ha hi
  go_enter Tryd.func17, Tryd.ntmps17
  go_wp2_with fail
  refine (reach_any 1 n _).mono ?_
  rintro e w1 ⟨va, rfl, ia, hb⟩
  rw [HV.out]
  rw [HA.out] at ia
  have B1 := Lib.hid hb
  have IA := Lib.hid ia
  have IB := Lib.hid (HI.out.keep B1.out)
  clear hb ia
  go_wp2_with fail
  refine (sameInts_any va v _ _ _ IA.out IB.out).mono ?_
  rintro e w2 ⟨rfl, hb⟩
  rw [hsm.out]
  have B2 := Lib.hid (btrans B1.out hb)
  clear hb
  go_wp2_with fail
  go_ret
  exact ⟨rfl, B2.out⟩

set_option maxHeartbeats 4000000 in
set_option maxRecDepth 100000 in
theorem woutKnown_walk (w : World) (hc : CL w) :
    Calls Tryd.prog 3 #[] w fun e w' => e = .returned (.bool true) ∧ Below w.heap.size w w' := by
  have HC := Lib.hid hc
  clear hc
  go_enter Tryd.func3, Tryd.ntmps3
  go_wp2_with fail
  refine (role_any 5 1 0 _).mono ?_
  rintro e w1 ⟨rfl, hb⟩
  have h1 : Hid (P1 w 5 1 0 w1) := bfirst _ _ hb
  clear hb
  obtain ⟨q0, q1, q2⟩ := c3 h1.out.1
  rw [show roleR 5 1 0 = 4 from by decide, show chk 5 1 0 = 0 from by decide]
  go_wp2_with fail
  refine (slot_any 5 1 0 _).mono ?_
  rintro e w2 ⟨rfl, hb⟩
  have B2 := Lib.hid (h1.out.keep hb).2
  clear hb q0 q1 q2 h1
  rw [show freeR 5 1 0 = false from by decide, show busyR 5 1 0 = false from by decide, show chk 5 1 0 = 0 from by decide]
  go_wp2_with fail
  refine (ev_any 3 _).mono ?_
  rintro e w3 ⟨rfl, rfl⟩
  go_wp2_with fail
  refine (ev_any 2 _).mono ?_
  rintro e w3 ⟨rfl, rfl⟩
  go_wp2_with fail
  refine (ev_any 6 _).mono ?_
  rintro e w3 ⟨rfl, rfl⟩
  go_wp2_with fail
  refine (run12_any 1 _ [(3, 0), (2, 0), (6, 0)] _ (by omega) (by omega) ?k5 6 0 0 3 0 (by decide)).mono ?_
  case k5 => exact isEvs3 (by simp only [heapD, heapA, World.size_alloc]; repeat (first | rfl | rw [if_pos (by omega)] | rw [if_neg (by omega)]))
  rintro e w3 ⟨rfl, hb⟩
  have B3 := Lib.hid (btrans (balloc (balloc (balloc (balloc B2.out _) _) _) _) hb)
  clear hb B2
  obtain ⟨g7, hg7⟩ : ∃ x, x = w3.heap.size := ⟨_, rfl⟩
  go_upto_region 5 with fail
  go_cut [11, 12] (fun s11 s12 wx => s11 = .int .i64 2 ∧ s12 = .int .i64 15 ∧ Hid (wx.heap[w3.heap.size]? = some (.cells (pgC 6 0 0) 23 (0, 0))) ∧ Hid (Below w.heap.size w wx))
  case first =>
    have c0 := cellB B3.out HC.out.1
    have c1 := cellB B3.out HC.out.2
    have hz : 0 < w3.heap.size := cell_lt c0
    have G3 : Hid ((w3.alloc (.cells #[.int .i64 6, .int .i64 0, .int .i64 0] 23)).heap[w3.heap.size]? = some (.cells (pgC 6 0 0) 23 (0, 0))) := h1_0 _ _
    go_region_held3 (fun w' => w'.cell? ⟨0, 0, none⟩ = some (.int .i64 4) ∧ w'.cell? ⟨0, 1, none⟩ = some (.int .i64 3))
      (refine ⟨?_, ?_⟩ <;> (with_reducible repeat (first | exact c0 | exact c1 | exact d0 | exact d1 | refine cellD ?_ | refine cellA ?_ _ | (refine cellS ?_ _ _ (by simp only []; omega)))))
      (first | (go_at_call 13; (with_reducible refine (ev_any _ _).mono ?_); rintro e w4 ⟨rfl, rfl⟩) | (go_at_call 12; (with_reducible refine (run12_any 1 _ [(3, 0), (4, 3), (2, 0)] _ ?k1 ?k2 ?k3 3 1 3 2 15 ?k4).mono ?_); (case k1 => omega); (case k2 => omega); (case k3 => exact isEvs3 (by simp only [heapD, heapA, World.size_alloc]; repeat (first | rfl | rw [if_pos (by omega)] | rw [if_neg (by omega)]))); (case k4 => decide); rintro e w4 ⟨rfl, hb⟩; have d0 := cellB hb (a := ⟨0, 0, none⟩) (v := .int .i64 4) (by with_reducible repeat (first | exact c0 | refine cellD ?_ | refine cellA ?_ _)); have d1 := cellB hb (a := ⟨0, 1, none⟩) (v := .int .i64 3) (by with_reducible repeat (first | exact c1 | refine cellD ?_ | refine cellA ?_ _)); have G4 := Lib.hid (bkeep (g := w3.heap.size) (o := .cells (pgC 6 0 0) 23 (0, 0)) hb (by rw [heapD]; with_reducible repeat (first | exact G3.out | refine hold1 ?_ _))); obtain ⟨hc, hf⟩ := bcell hb; have BB := Lib.hid (btrans (w := w) (by with_reducible repeat (first | exact B3.out | refine Below.drew ?_ | refine balloc ?_ _)) hb); clear hb))
    all_goals
      have hsz := B3.out.size
      go_wp2_with fail
      go_meet
      refine ⟨rfl, rfl, ?_, ?_⟩
      · refine Lib.hid ?_
        with_reducible repeat (first | exact G4.out | refine hold1 ?_ _ | refine heapS ?_ _ _ (by simp only []; omega))
      · refine Lib.hid ?_
        with_reducible repeat (first | exact BB.out | refine balloc ?_ _ | refine Below.setCell ?_ (by simp only []; omega) _)
  case rest =>
    obtain ⟨rfl, rfl, G7, B4⟩ := hcut
    obtain ⟨v0, v1, v2⟩ := c3 G7.out
    go_wp2_with fail
    clear G7 v0 v1 v2
    refine (begin_any 1 _).mono ?_
    rintro e w5 ⟨rfl, hb⟩
    rw [show bS 1 = 1 from by decide, show bR 1 = 1 from by decide, show bE 1 = 0 from by decide]
    have B5 := Lib.hid (btrans B4.out hb)
    clear hb B4
    obtain ⟨W6, hW6⟩ : ∃ x, x = w5.alloc (.cells #[.int .i64 1, .int .i64 1, .int .i64 0] 23) := ⟨_, rfl⟩
    obtain ⟨g, hg⟩ : ∃ x, x = w5.heap.size := ⟨_, rfl⟩
    have GG : Hid (W6.heap[g]? = some (.cells (pgC 1 1 0) 23 (0, 0))) := by rw [hW6, hg]; exact h1_0 _ _
    have BG : Hid (Below w.heap.size w W6) := by rw [hW6]; exact balloc B5.out _
    go_wp2_with fail
    rw [← hW6, ← hg]
    clear hW6 hg B5
    obtain ⟨a0, a1, a2⟩ := c3 GG.out
    go_region_held3 (fun w' => w'.cell? ⟨g, 0, none⟩ = some (.int .i64 1) ∧ w'.cell? ⟨g, 1, none⟩ = some (.int .i64 1) ∧ w'.cell? ⟨g, 2, none⟩ = some (.int .i64 0))
      (refine ⟨?_, ?_, ?_⟩ <;> (with_reducible repeat (first | exact a0 | exact a1 | exact a2 | exact b0 | exact b1 | exact b2 | refine cellD ?_ | refine cellA ?_ _)))
      (first | (go_at_call 13; (with_reducible refine (ev_any _ _).mono ?_); rintro e w4 ⟨rfl, rfl⟩) | (go_at_call 15; (with_reducible refine (Next_any 1 1 0 6 0 (W6.alloc (.cells #[.int .i64 6, .int .i64 0] 32)).drew).mono ?_); rintro e w6 ⟨rfl, hb⟩; have G1 := Lib.hid (bkeep (wr := (W6.alloc (.cells #[.int .i64 6, .int .i64 0] 32)).drew) hb (hold1 GG.out _)); have BB1 := Lib.hid (btrans (balloc BG.out (.cells #[.int .i64 6, .int .i64 0] 32)).drew hb); obtain ⟨b0, b1, b2⟩ := c3 G1.out; rw [show xE 1 1 0 6 0 = 9 from by decide]; clear hb))
    clear a0 a1 a2 GG BG
    have GG := G1
    have BG := BB1
    clear G1 BB1
    obtain ⟨a0, a1, a2⟩ := c3 GG.out
    go_wp2_with fail
    clear b0 b1 b2
    go_region_held3 (fun w' => w'.cell? ⟨g, 0, none⟩ = some (.int .i64 1) ∧ w'.cell? ⟨g, 1, none⟩ = some (.int .i64 1) ∧ w'.cell? ⟨g, 2, none⟩ = some (.int .i64 0))
      (refine ⟨?_, ?_, ?_⟩ <;> (with_reducible repeat (first | exact a0 | exact a1 | exact a2 | exact b0 | exact b1 | exact b2 | refine cellD ?_ | refine cellA ?_ _)))
      (first | (go_at_call 13; (with_reducible refine (ev_any _ _).mono ?_); rintro e w4 ⟨rfl, rfl⟩) | (go_at_call 15; (with_reducible refine (Next_any 1 1 0 4 0 (w6.alloc (.cells #[.int .i64 4, .int .i64 0] 32)).drew).mono ?_); rintro e w7 ⟨rfl, hb⟩; have G2 := Lib.hid (bkeep (wr := (w6.alloc (.cells #[.int .i64 4, .int .i64 0] 32)).drew) hb (hold1 GG.out _)); have BB2 := Lib.hid (btrans (balloc BG.out (.cells #[.int .i64 4, .int .i64 0] 32)).drew hb); obtain ⟨b0, b1, b2⟩ := c3 G2.out; rw [show xE 1 1 0 4 0 = 2 from by decide]; clear hb))
    clear a0 a1 a2 GG BG
    have GG := G2
    have BG := BB2
    clear G2 BB2
    obtain ⟨a0, a1, a2⟩ := c3 GG.out
    go_wp2_with fail
    clear b0 b1 b2
    refine (Next_any 1 1 0 3 1 _).mono ?_
    rintro e w8 ⟨rfl, hb⟩
    rw [show xE 1 1 0 3 1 = 3 from by decide]
    have G3 := Lib.hid (bkeep hb GG.out)
    have BB3 := Lib.hid (btrans BG.out hb)
    clear a0 a1 a2 GG BG hb
    have GG := G3
    have BG := BB3
    clear G3 BB3
    obtain ⟨a0, a1, a2⟩ := c3 GG.out
    go_wp2_with fail
    go_region_held3 (fun w' => w'.cell? ⟨g, 0, none⟩ = some (.int .i64 1) ∧ w'.cell? ⟨g, 1, none⟩ = some (.int .i64 1) ∧ w'.cell? ⟨g, 2, none⟩ = some (.int .i64 0))
      (refine ⟨?_, ?_, ?_⟩ <;> (with_reducible repeat (first | exact a0 | exact a1 | exact a2 | exact b0 | exact b1 | exact b2 | refine cellD ?_ | refine cellA ?_ _)))
      (first | (go_at_call 13; (with_reducible refine (ev_any _ _).mono ?_); rintro e w4 ⟨rfl, rfl⟩) | (go_at_call 15; (with_reducible refine (Next_any 1 1 0 7 0 (w8.alloc (.cells #[.int .i64 7, .int .i64 0] 32)).drew).mono ?_); rintro e w9 ⟨rfl, hb⟩; have G4 := Lib.hid (bkeep (wr := (w8.alloc (.cells #[.int .i64 7, .int .i64 0] 32)).drew) hb (hold1 GG.out _)); have BB4 := Lib.hid (btrans (balloc BG.out (.cells #[.int .i64 7, .int .i64 0] 32)).drew hb); obtain ⟨b0, b1, b2⟩ := c3 G4.out; rw [show xE 1 1 0 7 0 = 16 from by decide]; clear hb))
    clear a0 a1 a2 GG BG
    have GG := G4
    have BG := BB4
    clear G4 BB4
    obtain ⟨a0, a1, a2⟩ := c3 GG.out
    go_wp2_with fail
    clear b0 b1 b2 a0 a1 a2
    refine (allows_yes 1 1 0 _ [1, 2, 3] _ (by decide) (by decide) ?i1).mono ?_
    case i1 => exact isIntsL [1, 2, 3] (by decide) (h1_0 _ _)
    rintro e w10 ⟨rfl, hb⟩
    have B1x := Lib.hid (btrans (balloc BG.out _) hb)
    clear hb BG
    have BG := B1x
    clear B1x
    go_wp2_with fail
    refine (allows_yes 4 1 0 _ [1, 2] _ (by decide) (by decide) ?i2).mono ?_
    case i2 => exact isIntsL [1, 2] (by decide) (h1_0 _ _)
    rintro e w11 ⟨rfl, hb⟩
    have B2x := Lib.hid (btrans (balloc BG.out _) hb)
    clear hb BG
    have BG := B2x
    clear B2x
    go_wp2_with fail
    refine (allows_yes 6 0 0 _ [] _ (by decide) (by decide) ?i3).mono ?_
    case i3 => exact IsInts.nil _ _ _
    rintro e w12 ⟨rfl, hb⟩
    have B3x := Lib.hid (btrans BG.out hb)
    clear hb BG
    have BG := B3x
    clear B3x
    go_wp2_with fail
    refine (reaches_yes 0 _ [1] _ (by decide) (by decide +kernel) ?i4).mono ?_
    case i4 => exact isIntsL [1] (by decide) (h1_0 _ _)
    rintro e w13 ⟨rfl, hb⟩
    have B4x := Lib.hid (btrans (balloc BG.out _) hb)
    clear hb BG
    have BG := B4x
    clear B4x
    go_wp2_with fail
    refine (reaches_yes 1 _ [1, 2, 6] _ (by decide) (by decide +kernel) ?i5).mono ?_
    case i5 => exact isIntsL [1, 2, 6] (by decide) (h1_0 _ _)
    rintro e w14 ⟨rfl, hb⟩
    have B5x := Lib.hid (btrans (balloc BG.out _) hb)
    clear hb BG
    have BG := B5x
    clear B5x
    go_wp2_with fail
    refine (reaches_yes 3 _ [1, 2, 3, 4, 5, 6] _ (by decide) (by decide +kernel) ?i6).mono ?_
    case i6 => exact isIntsL [1, 2, 3, 4, 5, 6] (by decide) (h1_0 _ _)
    rintro e w15 ⟨rfl, hb⟩
    have B6x := Lib.hid (btrans (balloc BG.out _) hb)
    clear hb BG
    have BG := B6x
    clear B6x
    go_wp2_with fail
    refine (awake_cl _ (HC.out.below BG.out)).mono ?_
    rintro e w16 ⟨rfl, hb⟩
    have B16 := Lib.hid (btrans BG.out hb)
    clear hb
    go_wp2_with fail
    go_ret
    exact ⟨rfl, B16.out⟩
end Go.Proofs.YtcicgccllhkolaaDoor
