/- Helper facts for the statements of this seat; no statement itself. -/
import Derived.Test.YtcicgccllhkolaaDoorN
import Derived.Test.YtcicgccllhkolaaDoorH
import Derived.Test.YtcicgccllhkolaaDoorComH
import Derived.Deep.RegionHeld3
import Derived.Outline
namespace Go.Proofs.YtcicgccllhkolaaDoor
open Go.RowKit
set_option linter.unusedSimpArgs false
set_option linter.unusedVariables false
set_option linter.unnecessarySimpa false

theorem isEvs2 {W : World} {g : Nat} {t : TypeId} {a b c d : Int} (h : W.heap[g]? = some (.cells #[.int .i64 a, .int .i64 b, .int .i64 c, .int .i64 d] t (0, 0))) : IsEvs W (.slice (some ⟨g, 0, none⟩) 2 2) [(a, b), (c, d)] :=
  ⟨_, _, _, rfl, rfl, by simp, .inr ⟨g, 0, rfl, fun k hk => by
    have : k = 0 ∨ k = 1 := by simp at hk; omega
    rcases this with rfl | rfl <;> exact ⟨setRow_cell h rfl, setRow_cell h rfl⟩⟩⟩
theorem isEvs3 {W : World} {g : Nat} {t : TypeId} {a b c d e f : Int} (h : W.heap[g]? = some (.cells #[.int .i64 a, .int .i64 b, .int .i64 c, .int .i64 d, .int .i64 e, .int .i64 f] t (0, 0))) : IsEvs W (.slice (some ⟨g, 0, none⟩) 3 3) [(a, b), (c, d), (e, f)] :=
  ⟨_, _, _, rfl, rfl, by simp, .inr ⟨g, 0, rfl, fun k hk => by
    have : k = 0 ∨ k = 1 ∨ k = 2 := by simp at hk; omega
    rcases this with rfl | rfl | rfl <;> exact ⟨setRow_cell h rfl, setRow_cell h rfl⟩⟩⟩

theorem ev_any (k : Int) (w : World) : Calls Tryd.prog 13 #[.int .i64 k] w fun e w' => e = .returned (EV k 0) ∧ w.alloc (.cells #[.int .i64 k, .int .i64 0] 32) = w' := by
  go_enter Tryd.func13, Tryd.ntmps13
  go_wp2
  exact bodyPost_ret (v := EV k 0) (by simp [results, Tryd.results13, go_sem]) rfl ⟨rfl, rfl⟩

set_option maxHeartbeats 1000000 in
theorem run12_any (n : Int) (v : Value) (l : List (Int × Int)) (w : World) (h1 : 1 ≤ n) (h2 : n ≤ 512) (hl : IsEvs w v l) (S R C N E : Int) (hq : runW 1 n 0 l = (S, R, C, N, E)) :
    Calls Tryd.prog 12 #[.int .i64 n, v] w fun e w' => e = .returned (.tuple #[WV S R C, .int .i64 N, .int .i64 E]) ∧ Below w.heap.size w w' := by
  have HQ : Hid (rW 1 n 0 l = (S, R, C, N, E)) := by
    show _ = _
    unfold rW
    rw [if_pos, hq]
    unfold chk leastR mostR
    simp
    omega
  have HL := Lib.hid hl
  have HB : Hid (bS n = 1 ∧ bR n = n ∧ bE n = 0) := by
    unfold bS bR bE
    rw [if_neg (by omega), if_neg (by omega), if_neg (by omega)]
    exact ⟨rfl, rfl, rfl⟩
  clear hl hq
  go_enter Tryd.func12, Tryd.ntmps12
  go_wp2_with fail
  refine (begin_any n _).mono ?_
  rintro e w1 ⟨rfl, hb⟩
  rw [HB.out.1, HB.out.2.1, HB.out.2.2]
  obtain ⟨g0, b0⟩ := bfirst _ _ hb
  have G0 := Lib.hid g0
  have B0 := Lib.hid b0
  clear hb g0 b0
  have hlt := lt_of_some G0.out
  go_wp2_with fail
  have HL2 := Lib.hid (HL.out.keep (balloc B0.out (.cells #[.int .i64 1, .int .i64 n, .int .i64 0] 23)))
  refine (Run_any 1 n 0 v l _ HL2.out).mono ?_
  rintro e w2 ⟨rfl, hb⟩
  rw [HQ.out]
  have G2 := Lib.hid (bkeep hb (hold1 G0.out _))
  have B2 := Lib.hid (btrans (balloc B0.out _) hb)
  clear hb
  go_wp2_with (((with_reducible refine st23 (.tmp 4) (.tmp 21) ?a2 ?b2 w.heap.size S R C #[.int .i64 0, .int .i64 0, .int .i64 0] ?c2 ?d2 ?e2 23 ?f2 ?_); (case a2 => rfl); (case b2 => rfl); (case c2 => rfl); (case d2 => rfl); (case e2 => rfl); (case f2 => exact G2.out)))
  refine bodyPost_ret (v := .tuple #[WV S R C, .int .i64 N, .int .i64 E]) ?_ rfl ⟨rfl, ?_⟩
  · exact res23b (fn := Tryd.f12) (p := 4) (u := 5) (x := 6) rfl _ _ w.heap.size 23 S R C (by rfl) (setRow_heap _ _ _ _ _ _ G2.out)
  · exact below_setRow B2.out (by omega) _

set_option maxHeartbeats 1000000 in
theorem awake_any (w : World) (h0 : w.cell? ⟨0, 0, none⟩ = some (.int .i64 4)) (h1 : w.cell? ⟨0, 1, none⟩ = some (.int .i64 3)) :
    Calls Tryd.prog 18 #[] w fun e w' => e = .returned (.bool true) ∧ Below w.heap.size w w' := by
  have H0 := Lib.hid h0
  have H1 := Lib.hid h1
  clear h0 h1
  go_enter Tryd.func18, Tryd.ntmps18
  go_wp2_with fail
  refine (ev_any 3 _).mono ?_
  rintro e w1 ⟨rfl, rfl⟩
  go_wp2_with fail
  refine (ev_any 6 _).mono ?_
  rintro e w1 ⟨rfl, rfl⟩
  go_wp2_with fail
  refine (run12_any 2 _ [(3, 0), (6, 0)] _ (by omega) (by omega) ?k5 4 2 0 2 0 (by decide)).mono ?_
  case k5 => exact isEvs2 (by simp only [heapD, heapA, World.size_alloc]; repeat (first | rfl | rw [if_pos (by omega)] | rw [if_neg (by omega)]))
  rintro e w1 ⟨rfl, hb⟩
  have B1 := Lib.hid (btrans ((((Below.refl _ _).alloc (Nat.le_refl _) _).alloc (by simp only [World.size_alloc] <;> omega) _).alloc (by simp only [World.size_alloc] <;> omega) _) hb)
  clear hb
  go_wp2_with fail
  have c0 := (B1.out.cell (cell_lt H0.out)).trans H0.out
  have c1 := (B1.out.cell (cell_lt H1.out)).trans H1.out
  have hz : 0 < w1.heap.size := cell_lt c0
  go_region_held3 (fun w' => w'.cell? ⟨0, 0, none⟩ = some (.int .i64 4) ∧ w'.cell? ⟨0, 1, none⟩ = some (.int .i64 3))
    (refine ⟨?_, ?_⟩ <;> (with_reducible repeat (first | exact c0 | exact c1 | exact d0 | exact d1 | refine cellD ?_ | refine cellA ?_ _ | (refine cellS ?_ _ _ (by simp only []; omega)))))
    (first | (go_at_call 13; (with_reducible refine (ev_any _ _).mono ?_); rintro e w2 ⟨rfl, rfl⟩) | (go_at_call 12; (with_reducible refine (run12_any 2 _ [(3, 0), (4, 3), (6, 0)] _ ?k1 ?k2 ?k3 5 1 0 3 0 ?k4).mono ?_); (case k1 => omega); (case k2 => omega); (case k3 => exact isEvs3 (by simp only [heapD, heapA, World.size_alloc]; repeat (first | rfl | rw [if_pos (by omega)] | rw [if_neg (by omega)]))); (case k4 => decide); rintro e w2 ⟨rfl, hb⟩; have d0 := cellB hb (a := ⟨0, 0, none⟩) (v := .int .i64 4) (by with_reducible repeat (first | exact c0 | refine cellD ?_ | refine cellA ?_ _)); have d1 := cellB hb (a := ⟨0, 1, none⟩) (v := .int .i64 3) (by with_reducible repeat (first | exact c1 | refine cellD ?_ | refine cellA ?_ _)); obtain ⟨hc, hf⟩ := bcell hb; have hz2 : w1.heap.size < w2.heap.size := (by have := hb.size; simp only [heapD, World.size_alloc] at this; omega); have BB := Lib.hid (btrans (w := w) (by with_reducible repeat (first | exact B1.out | refine Below.drew ?_ | refine balloc ?_ _)) hb); clear hb))
  all_goals
    go_wp2_with fail
    go_ret
    refine ⟨rfl, ?_⟩
    have hsz := B1.out.size
    with_reducible repeat (first | exact BB.out | refine balloc ?_ _ | refine Below.setCell ?_ ?_ _ | (simp only []; omega))
end Go.Proofs.YtcicgccllhkolaaDoor
