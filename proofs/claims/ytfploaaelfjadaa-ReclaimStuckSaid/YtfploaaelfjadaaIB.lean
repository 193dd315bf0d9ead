/- Helper facts for the statements of this seat; no statement itself. -/
import Derived.Test.YtfploaaelfjadaaA
import Derived.Test.YtfploaaelfjadaaPm
import Derived.Test.YtfploaaelfjadaaComK
import Derived.Outline
namespace Go.Proofs.Ytfploaaelfjadaa
open Go.RowKit
set_option linter.unusedSimpArgs false
set_option linter.unusedVariables false
set_option linter.unnecessarySimpa false

set_option maxRecDepth 100000 in
set_option maxHeartbeats 2000000 in
theorem rafter1 (t : T) (w : World) (h0 : 0 ≤ t.ob) (h1 : t.ob ≤ 256) : Calls Try.prog 42 #[TV t, .int .i64 1] w fun e w' => e = .returned (TV (aft t 1)) ∧ Below w.heap.size w w' := by
  rw [aft_one]
  by_cases h4 : 4 < t.ob
  · rw [show t.ob - min t.ob 4 = t.ob - 4 by omega]
    obtain ⟨fr, mn, lo, hi, aw, ob, ac, ia, tg, rf, wr, cp, op, rm, sl⟩ := t
    simp only [] at h0 h1 h4
    have h5 : 0 < ob - 4 := by omega
    go_enter Try.func42, Try.ntmps42
    go_wp2_with fail
    exact bodyPost_ret (v := TV ⟨fr, mn, lo, hi, aw, ob - 4, ac, ia, tg, rf, wr, cp, op, rm, sl⟩) (by simp [results, Try.results42, go_sem]) rfl ⟨rfl, (((Below.refl _ _).alloc (Nat.le_refl _) _).alloc (by simp only [World.size_alloc] <;> omega) _)⟩
  · rw [show t.ob - min t.ob 4 = 0 by omega]
    obtain ⟨fr, mn, lo, hi, aw, ob, ac, ia, tg, rf, wr, cp, op, rm, sl⟩ := t
    simp only [] at h0 h1 h4
    have h5 : ob ≤ 4 := by omega
    have h6 : ob - 4 ≤ 0 := by omega
    have hoo : ob - ob = 0 := Int.sub_self _
    go_enter Try.func42, Try.ntmps42
    go_wp2_with fail
    exact bodyPost_ret (v := TV ⟨fr, mn, lo, hi, aw, 0, ac, ia, tg, rf, wr, cp, op, rm, sl⟩) (by simp [results, Try.results42, go_sem]) rfl ⟨rfl, (((Below.refl _ _).alloc (Nat.le_refl _) _).alloc (by simp only [World.size_alloc] <;> omega) _)⟩

set_option maxRecDepth 100000 in
set_option maxHeartbeats 2000000 in
theorem rafter4 (t : T) (w : World) (h : Ok t) : Calls Try.prog 42 #[TV t, .int .i64 4] w fun e w' => e = .returned (TV (aft t 4)) ∧ Below w.heap.size w w' := by
  rw [aft_four]
  obtain ⟨a1, a2⟩ := h.ia
  obtain ⟨b1, b2⟩ := h.ac
  obtain ⟨c1, c2⟩ := h.rm
  obtain ⟨d1, d2⟩ := h.sl
  obtain ⟨e1, e2⟩ := h.wr
  obtain ⟨f1, f2⟩ := h.cp
  clear h
  have e3 : t.wr ≤ 16 := by omega
  by_cases h4 : 0 < t.ia
  · rw [if_pos h4, if_pos h4]
    obtain ⟨fr, mn, lo, hi, aw, ob, ac, ia, tg, rf, wr, cp, op, rm, sl⟩ := t
    simp only [] at a1 a2 b1 b2 c1 c2 d1 d2 e1 e2 e3 f1 f2 h4
    go_enter Try.func42, Try.ntmps42
    go_wp2_with fail
    exact bodyPost_ret (v := TV ⟨fr, mn, lo, hi, aw, ob, ac, ia - 1, tg, false, wr + 1, cp, op, rm - 1, sl - 1⟩) (by simp [results, Try.results42, go_sem]) rfl ⟨rfl, (((Below.refl _ _).alloc (Nat.le_refl _) _).alloc (by simp only [World.size_alloc] <;> omega) _)⟩
  · rw [if_neg h4, if_neg h4]
    obtain ⟨fr, mn, lo, hi, aw, ob, ac, ia, tg, rf, wr, cp, op, rm, sl⟩ := t
    simp only [] at a1 a2 b1 b2 c1 c2 d1 d2 e1 e2 e3 f1 f2 h4
    go_enter Try.func42, Try.ntmps42
    go_wp2_with fail
    exact bodyPost_ret (v := TV ⟨fr, mn, lo, hi, aw, ob, ac - 1, ia, tg, false, wr + 1, cp, op, rm - 1, sl - 1⟩) (by simp [results, Try.results42, go_sem]) rfl ⟨rfl, (((Below.refl _ _).alloc (Nat.le_refl _) _).alloc (by simp only [World.size_alloc] <;> omega) _)⟩

set_option maxRecDepth 100000 in
set_option maxHeartbeats 2000000 in
theorem rafter5 (t : T) (w : World) : Calls Try.prog 42 #[TV t, .int .i64 5] w fun e w' => e = .returned (TV (aft t 5)) ∧ Below w.heap.size w w' := by
  rw [aft_five]
  · obtain ⟨fr, mn, lo, hi, aw, ob, ac, ia, tg, rf, wr, cp, op, rm, sl⟩ := t
    go_enter Try.func42, Try.ntmps42
    go_wp2_with fail
    exact bodyPost_ret (v := TV ⟨fr, mn, lo, hi, aw, ob, ac, ia, tg, rf, wr, cp, op, rm, sl⟩) (by simp [results, Try.results42, go_sem]) rfl ⟨rfl, (((Below.refl _ _).alloc (Nat.le_refl _) _).alloc (by simp only [World.size_alloc] <;> omega) _)⟩

theorem rafter_any (t : T) (w : World) (h : Ok t) (hk : dir t ≠ 6) : Calls Try.prog 42 #[TV t, .int .i64 (dir t)] w fun e w' => e = .returned (TV (aft t (dir t))) ∧ Below w.heap.size w w' := by
  rcases dir_cases t with e | e | e | e
  · rw [e]; exact rafter1 t w h.ob.1 h.ob.2
  · rw [e]; exact rafter4 t w h
  · rw [e]; exact rafter5 t w
  · exact absurd e hk
end Go.Proofs.Ytfploaaelfjadaa
