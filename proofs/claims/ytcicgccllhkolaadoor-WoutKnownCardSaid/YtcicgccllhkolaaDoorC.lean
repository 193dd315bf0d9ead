/- Helper facts for the statements of this seat; no statement itself. -/
import Derived.Test.YtcicgccllhkolaaDoorB
import Derived.RegionTactic
namespace Go.Proofs.YtcicgccllhkolaaDoor
open Go.RowKit
set_option linter.unusedSimpArgs false
set_option linter.unusedVariables false
set_option linter.unnecessarySimpa false

set_option maxHeartbeats 1000000 in
theorem a1 (s r c p : Int) (w : World) (hr : 0 ≤ r) (hr2 : r ≤ 512) :
    Calls Tryd.prog 40 #[WV s r c, EV 1 p] w fun e w' => e = .returned (WV s (r + 1) c) ∧ Below w.heap.size w w' := by
  go_enter Tryd.func40, Tryd.ntmps40
  go_wp2
  all_goals
    (try go_wp2)
    refine bodyPost_ret (v := WV s (r + 1) c) (by simp [results, Tryd.results40, go_sem]) rfl ⟨rfl, ?_⟩
    first | exact ((((Below.refl _ _).alloc (Nat.le_refl _) _).alloc (by simp only [World.size_alloc] <;> omega) _).alloc (by simp only [World.size_alloc] <;> omega) _) | exact (((((Below.refl _ _).alloc (Nat.le_refl _) _).alloc (by simp only [World.size_alloc] <;> omega) _).alloc (by simp only [World.size_alloc] <;> omega) _)).drew

set_option maxHeartbeats 1000000 in
theorem a2a (c p : Int) (w : World)  :
    Calls Tryd.prog 40 #[WV 1 1 c, EV 2 p] w fun e w' => e = .returned (WV 6 0 c) ∧ Below w.heap.size w w' := by
  go_enter Tryd.func40, Tryd.ntmps40
  go_wp2
  all_goals
    (try go_wp2)
    refine bodyPost_ret (v := WV 6 0 c) (by simp [results, Tryd.results40, go_sem]) rfl ⟨rfl, ?_⟩
    first | exact ((((Below.refl _ _).alloc (Nat.le_refl _) _).alloc (by simp only [World.size_alloc] <;> omega) _).alloc (by simp only [World.size_alloc] <;> omega) _) | exact (((((Below.refl _ _).alloc (Nat.le_refl _) _).alloc (by simp only [World.size_alloc] <;> omega) _).alloc (by simp only [World.size_alloc] <;> omega) _)).drew

set_option maxHeartbeats 1000000 in
theorem a2b (c p : Int) (w : World)  :
    Calls Tryd.prog 40 #[WV 4 1 c, EV 2 p] w fun e w' => e = .returned (WV 6 0 c) ∧ Below w.heap.size w w' := by
  go_enter Tryd.func40, Tryd.ntmps40
  go_wp2
  all_goals
    (try go_wp2)
    refine bodyPost_ret (v := WV 6 0 c) (by simp [results, Tryd.results40, go_sem]) rfl ⟨rfl, ?_⟩
    first | exact ((((Below.refl _ _).alloc (Nat.le_refl _) _).alloc (by simp only [World.size_alloc] <;> omega) _).alloc (by simp only [World.size_alloc] <;> omega) _) | exact (((((Below.refl _ _).alloc (Nat.le_refl _) _).alloc (by simp only [World.size_alloc] <;> omega) _).alloc (by simp only [World.size_alloc] <;> omega) _)).drew

set_option maxHeartbeats 1000000 in
theorem a2c (s r c p : Int) (w : World) (hr : 1 ≤ r) (hr2 : r ≤ 512) (h : (r - 1 == 0) = false) (h' : ¬ r - 1 = 0) :
    Calls Tryd.prog 40 #[WV s r c, EV 2 p] w fun e w' => e = .returned (WV s (r - 1) c) ∧ Below w.heap.size w w' := by
  go_enter Tryd.func40, Tryd.ntmps40
  go_wp2
  all_goals
    (try go_wp2)
    refine bodyPost_ret (v := WV s (r - 1) c) (by simp [results, Tryd.results40, go_sem]) rfl ⟨rfl, ?_⟩
    first | exact ((((Below.refl _ _).alloc (Nat.le_refl _) _).alloc (by simp only [World.size_alloc] <;> omega) _).alloc (by simp only [World.size_alloc] <;> omega) _) | exact (((((Below.refl _ _).alloc (Nat.le_refl _) _).alloc (by simp only [World.size_alloc] <;> omega) _).alloc (by simp only [World.size_alloc] <;> omega) _)).drew

set_option maxHeartbeats 1000000 in
theorem a2d (s c p : Int) (w : World) (h1 : (s == 1) = false) (h4 : (s == 4) = false) :
    Calls Tryd.prog 40 #[WV s 1 c, EV 2 p] w fun e w' => e = .returned (WV s 0 c) ∧ Below w.heap.size w w' := by
  go_enter Tryd.func40, Tryd.ntmps40
  go_wp2
  all_goals
    (try go_wp2)
    refine bodyPost_ret (v := WV s 0 c) (by simp [results, Tryd.results40, go_sem]) rfl ⟨rfl, ?_⟩
    first | exact ((((Below.refl _ _).alloc (Nat.le_refl _) _).alloc (by simp only [World.size_alloc] <;> omega) _).alloc (by simp only [World.size_alloc] <;> omega) _) | exact (((((Below.refl _ _).alloc (Nat.le_refl _) _).alloc (by simp only [World.size_alloc] <;> omega) _).alloc (by simp only [World.size_alloc] <;> omega) _)).drew

set_option maxHeartbeats 1000000 in
theorem a3 (s r c p : Int) (w : World) (hr : 0 ≤ r) (hr2 : r ≤ 512) :
    Calls Tryd.prog 40 #[WV s r c, EV 3 p] w fun e w' => e = .returned (WV 2 r c) ∧ Below w.heap.size w w' := by
  go_enter Tryd.func40, Tryd.ntmps40
  go_wp2
  all_goals
    (try go_wp2)
    refine bodyPost_ret (v := WV 2 r c) (by simp [results, Tryd.results40, go_sem]) rfl ⟨rfl, ?_⟩
    first | exact ((((Below.refl _ _).alloc (Nat.le_refl _) _).alloc (by simp only [World.size_alloc] <;> omega) _).alloc (by simp only [World.size_alloc] <;> omega) _) | exact (((((Below.refl _ _).alloc (Nat.le_refl _) _).alloc (by simp only [World.size_alloc] <;> omega) _).alloc (by simp only [World.size_alloc] <;> omega) _)).drew

set_option maxHeartbeats 1000000 in
theorem a4 (s r c p : Int) (w : World) (hr : 0 ≤ r) (hr2 : r ≤ 512) :
    Calls Tryd.prog 40 #[WV s r c, EV 4 p] w fun e w' => e = .returned (WV 3 r p) ∧ Below w.heap.size w w' := by
  go_enter Tryd.func40, Tryd.ntmps40
  go_wp2
  go_region
  all_goals
    (try go_wp2)
    refine bodyPost_ret (v := WV 3 r p) (by simp [results, Tryd.results40, go_sem]) rfl ⟨rfl, ?_⟩
    first | exact ((((Below.refl _ _).alloc (Nat.le_refl _) _).alloc (by simp only [World.size_alloc] <;> omega) _).alloc (by simp only [World.size_alloc] <;> omega) _) | exact (((((Below.refl _ _).alloc (Nat.le_refl _) _).alloc (by simp only [World.size_alloc] <;> omega) _).alloc (by simp only [World.size_alloc] <;> omega) _)).drew

set_option maxHeartbeats 1000000 in
theorem a5 (s r c p : Int) (w : World) (hr : 0 ≤ r) (hr2 : r ≤ 512) :
    Calls Tryd.prog 40 #[WV s r c, EV 5 p] w fun e w' => e = .returned (WV 2 r 0) ∧ Below w.heap.size w w' := by
  go_enter Tryd.func40, Tryd.ntmps40
  go_wp2
  all_goals
    (try go_wp2)
    refine bodyPost_ret (v := WV 2 r 0) (by simp [results, Tryd.results40, go_sem]) rfl ⟨rfl, ?_⟩
    first | exact ((((Below.refl _ _).alloc (Nat.le_refl _) _).alloc (by simp only [World.size_alloc] <;> omega) _).alloc (by simp only [World.size_alloc] <;> omega) _) | exact (((((Below.refl _ _).alloc (Nat.le_refl _) _).alloc (by simp only [World.size_alloc] <;> omega) _).alloc (by simp only [World.size_alloc] <;> omega) _)).drew

set_option maxHeartbeats 1000000 in
theorem a6a (r c p : Int) (w : World) (hr : 0 ≤ r) (hr2 : r ≤ 512) :
    Calls Tryd.prog 40 #[WV 3 r c, EV 6 p] w fun e w' => e = .returned (WV 5 (r - 1) 0) ∧ Below w.heap.size w w' := by
  go_enter Tryd.func40, Tryd.ntmps40
  go_wp2
  all_goals
    (try go_wp2)
    refine bodyPost_ret (v := WV 5 (r - 1) 0) (by simp [results, Tryd.results40, go_sem]) rfl ⟨rfl, ?_⟩
    first | exact ((((Below.refl _ _).alloc (Nat.le_refl _) _).alloc (by simp only [World.size_alloc] <;> omega) _).alloc (by simp only [World.size_alloc] <;> omega) _) | exact (((((Below.refl _ _).alloc (Nat.le_refl _) _).alloc (by simp only [World.size_alloc] <;> omega) _).alloc (by simp only [World.size_alloc] <;> omega) _)).drew

set_option maxHeartbeats 1000000 in
theorem a6b (s c p : Int) (w : World) (h3 : (s == 3) = false) :
    Calls Tryd.prog 40 #[WV s 0 c, EV 6 p] w fun e w' => e = .returned (WV 6 0 c) ∧ Below w.heap.size w w' := by
  go_enter Tryd.func40, Tryd.ntmps40
  go_wp2
  all_goals
    (try go_wp2)
    refine bodyPost_ret (v := WV 6 0 c) (by simp [results, Tryd.results40, go_sem]) rfl ⟨rfl, ?_⟩
    first | exact ((((Below.refl _ _).alloc (Nat.le_refl _) _).alloc (by simp only [World.size_alloc] <;> omega) _).alloc (by simp only [World.size_alloc] <;> omega) _) | exact (((((Below.refl _ _).alloc (Nat.le_refl _) _).alloc (by simp only [World.size_alloc] <;> omega) _).alloc (by simp only [World.size_alloc] <;> omega) _)).drew

set_option maxHeartbeats 1000000 in
theorem a6c (s r c p : Int) (w : World) (hr : 0 ≤ r) (hr2 : r ≤ 512) (h3 : (s == 3) = false) (h0 : (r == 0) = false) :
    Calls Tryd.prog 40 #[WV s r c, EV 6 p] w fun e w' => e = .returned (WV 4 r c) ∧ Below w.heap.size w w' := by
  go_enter Tryd.func40, Tryd.ntmps40
  go_wp2
  all_goals
    (try go_wp2)
    refine bodyPost_ret (v := WV 4 r c) (by simp [results, Tryd.results40, go_sem]) rfl ⟨rfl, ?_⟩
    first | exact ((((Below.refl _ _).alloc (Nat.le_refl _) _).alloc (by simp only [World.size_alloc] <;> omega) _).alloc (by simp only [World.size_alloc] <;> omega) _) | exact (((((Below.refl _ _).alloc (Nat.le_refl _) _).alloc (by simp only [World.size_alloc] <;> omega) _).alloc (by simp only [World.size_alloc] <;> omega) _)).drew

set_option maxHeartbeats 1000000 in
theorem b1 (s r c p : Int) (w : World) (hr : 0 ≤ r) (hr2 : r ≤ 512) :
    Calls Tryd.prog 36 #[WV s r c, EV 1 p] w fun e w' => e = .returned (WV s (r + 1) c) ∧ Below w.heap.size w w' := by
  go_enter Tryd.func36, Tryd.ntmps36
  go_wp2
  all_goals
    (try go_wp2)
    refine bodyPost_ret (v := WV s (r + 1) c) (by simp [results, Tryd.results36, go_sem]) rfl ⟨rfl, ?_⟩
    first | exact ((((Below.refl _ _).alloc (Nat.le_refl _) _).alloc (by simp only [World.size_alloc] <;> omega) _).alloc (by simp only [World.size_alloc] <;> omega) _) | exact (((((Below.refl _ _).alloc (Nat.le_refl _) _).alloc (by simp only [World.size_alloc] <;> omega) _).alloc (by simp only [World.size_alloc] <;> omega) _)).drew

set_option maxHeartbeats 1000000 in
theorem b2a (c p : Int) (w : World)  :
    Calls Tryd.prog 36 #[WV 1 1 c, EV 2 p] w fun e w' => e = .returned (WV 6 0 c) ∧ Below w.heap.size w w' := by
  go_enter Tryd.func36, Tryd.ntmps36
  go_wp2
  all_goals
    (try go_wp2)
    refine bodyPost_ret (v := WV 6 0 c) (by simp [results, Tryd.results36, go_sem]) rfl ⟨rfl, ?_⟩
    first | exact ((((Below.refl _ _).alloc (Nat.le_refl _) _).alloc (by simp only [World.size_alloc] <;> omega) _).alloc (by simp only [World.size_alloc] <;> omega) _) | exact (((((Below.refl _ _).alloc (Nat.le_refl _) _).alloc (by simp only [World.size_alloc] <;> omega) _).alloc (by simp only [World.size_alloc] <;> omega) _)).drew

set_option maxHeartbeats 1000000 in
theorem b2b (c p : Int) (w : World)  :
    Calls Tryd.prog 36 #[WV 4 1 c, EV 2 p] w fun e w' => e = .returned (WV 6 0 c) ∧ Below w.heap.size w w' := by
  go_enter Tryd.func36, Tryd.ntmps36
  go_wp2
  all_goals
    (try go_wp2)
    refine bodyPost_ret (v := WV 6 0 c) (by simp [results, Tryd.results36, go_sem]) rfl ⟨rfl, ?_⟩
    first | exact ((((Below.refl _ _).alloc (Nat.le_refl _) _).alloc (by simp only [World.size_alloc] <;> omega) _).alloc (by simp only [World.size_alloc] <;> omega) _) | exact (((((Below.refl _ _).alloc (Nat.le_refl _) _).alloc (by simp only [World.size_alloc] <;> omega) _).alloc (by simp only [World.size_alloc] <;> omega) _)).drew

set_option maxHeartbeats 1000000 in
theorem b2c (s r c p : Int) (w : World) (hr : 1 ≤ r) (hr2 : r ≤ 512) (h : (r - 1 == 0) = false) (h' : ¬ r - 1 = 0) :
    Calls Tryd.prog 36 #[WV s r c, EV 2 p] w fun e w' => e = .returned (WV s (r - 1) c) ∧ Below w.heap.size w w' := by
  go_enter Tryd.func36, Tryd.ntmps36
  go_wp2
  all_goals
    (try go_wp2)
    refine bodyPost_ret (v := WV s (r - 1) c) (by simp [results, Tryd.results36, go_sem]) rfl ⟨rfl, ?_⟩
    first | exact ((((Below.refl _ _).alloc (Nat.le_refl _) _).alloc (by simp only [World.size_alloc] <;> omega) _).alloc (by simp only [World.size_alloc] <;> omega) _) | exact (((((Below.refl _ _).alloc (Nat.le_refl _) _).alloc (by simp only [World.size_alloc] <;> omega) _).alloc (by simp only [World.size_alloc] <;> omega) _)).drew

set_option maxHeartbeats 1000000 in
theorem b2d (s c p : Int) (w : World) (h1 : (s == 1) = false) (h4 : (s == 4) = false) :
    Calls Tryd.prog 36 #[WV s 1 c, EV 2 p] w fun e w' => e = .returned (WV s 0 c) ∧ Below w.heap.size w w' := by
  go_enter Tryd.func36, Tryd.ntmps36
  go_wp2
  all_goals
    (try go_wp2)
    refine bodyPost_ret (v := WV s 0 c) (by simp [results, Tryd.results36, go_sem]) rfl ⟨rfl, ?_⟩
    first | exact ((((Below.refl _ _).alloc (Nat.le_refl _) _).alloc (by simp only [World.size_alloc] <;> omega) _).alloc (by simp only [World.size_alloc] <;> omega) _) | exact (((((Below.refl _ _).alloc (Nat.le_refl _) _).alloc (by simp only [World.size_alloc] <;> omega) _).alloc (by simp only [World.size_alloc] <;> omega) _)).drew

set_option maxHeartbeats 1000000 in
theorem b3 (s r c p : Int) (w : World) (hr : 0 ≤ r) (hr2 : r ≤ 512) :
    Calls Tryd.prog 36 #[WV s r c, EV 3 p] w fun e w' => e = .returned (WV 2 r c) ∧ Below w.heap.size w w' := by
  go_enter Tryd.func36, Tryd.ntmps36
  go_wp2
  all_goals
    (try go_wp2)
    refine bodyPost_ret (v := WV 2 r c) (by simp [results, Tryd.results36, go_sem]) rfl ⟨rfl, ?_⟩
    first | exact ((((Below.refl _ _).alloc (Nat.le_refl _) _).alloc (by simp only [World.size_alloc] <;> omega) _).alloc (by simp only [World.size_alloc] <;> omega) _) | exact (((((Below.refl _ _).alloc (Nat.le_refl _) _).alloc (by simp only [World.size_alloc] <;> omega) _).alloc (by simp only [World.size_alloc] <;> omega) _)).drew

set_option maxHeartbeats 1000000 in
theorem b4 (s r c p : Int) (w : World) (hr : 0 ≤ r) (hr2 : r ≤ 512) :
    Calls Tryd.prog 36 #[WV s r c, EV 4 p] w fun e w' => e = .returned (WV 3 r p) ∧ Below w.heap.size w w' := by
  go_enter Tryd.func36, Tryd.ntmps36
  go_wp2
  go_region
  all_goals
    (try go_wp2)
    refine bodyPost_ret (v := WV 3 r p) (by simp [results, Tryd.results36, go_sem]) rfl ⟨rfl, ?_⟩
    first | exact ((((Below.refl _ _).alloc (Nat.le_refl _) _).alloc (by simp only [World.size_alloc] <;> omega) _).alloc (by simp only [World.size_alloc] <;> omega) _) | exact (((((Below.refl _ _).alloc (Nat.le_refl _) _).alloc (by simp only [World.size_alloc] <;> omega) _).alloc (by simp only [World.size_alloc] <;> omega) _)).drew

set_option maxHeartbeats 1000000 in
theorem b5 (s r c p : Int) (w : World) (hr : 0 ≤ r) (hr2 : r ≤ 512) :
    Calls Tryd.prog 36 #[WV s r c, EV 5 p] w fun e w' => e = .returned (WV 2 r 0) ∧ Below w.heap.size w w' := by
  go_enter Tryd.func36, Tryd.ntmps36
  go_wp2
  all_goals
    (try go_wp2)
    refine bodyPost_ret (v := WV 2 r 0) (by simp [results, Tryd.results36, go_sem]) rfl ⟨rfl, ?_⟩
    first | exact ((((Below.refl _ _).alloc (Nat.le_refl _) _).alloc (by simp only [World.size_alloc] <;> omega) _).alloc (by simp only [World.size_alloc] <;> omega) _) | exact (((((Below.refl _ _).alloc (Nat.le_refl _) _).alloc (by simp only [World.size_alloc] <;> omega) _).alloc (by simp only [World.size_alloc] <;> omega) _)).drew

set_option maxHeartbeats 1000000 in
theorem b6a (r c p : Int) (w : World) (hr : 0 ≤ r) (hr2 : r ≤ 512) :
    Calls Tryd.prog 36 #[WV 3 r c, EV 6 p] w fun e w' => e = .returned (WV 5 (r - 1) 0) ∧ Below w.heap.size w w' := by
  go_enter Tryd.func36, Tryd.ntmps36
  go_wp2
  all_goals
    (try go_wp2)
    refine bodyPost_ret (v := WV 5 (r - 1) 0) (by simp [results, Tryd.results36, go_sem]) rfl ⟨rfl, ?_⟩
    first | exact ((((Below.refl _ _).alloc (Nat.le_refl _) _).alloc (by simp only [World.size_alloc] <;> omega) _).alloc (by simp only [World.size_alloc] <;> omega) _) | exact (((((Below.refl _ _).alloc (Nat.le_refl _) _).alloc (by simp only [World.size_alloc] <;> omega) _).alloc (by simp only [World.size_alloc] <;> omega) _)).drew

set_option maxHeartbeats 1000000 in
theorem b6b (s c p : Int) (w : World) (h3 : (s == 3) = false) :
    Calls Tryd.prog 36 #[WV s 0 c, EV 6 p] w fun e w' => e = .returned (WV 6 0 c) ∧ Below w.heap.size w w' := by
  go_enter Tryd.func36, Tryd.ntmps36
  go_wp2
  all_goals
    (try go_wp2)
    refine bodyPost_ret (v := WV 6 0 c) (by simp [results, Tryd.results36, go_sem]) rfl ⟨rfl, ?_⟩
    first | exact ((((Below.refl _ _).alloc (Nat.le_refl _) _).alloc (by simp only [World.size_alloc] <;> omega) _).alloc (by simp only [World.size_alloc] <;> omega) _) | exact (((((Below.refl _ _).alloc (Nat.le_refl _) _).alloc (by simp only [World.size_alloc] <;> omega) _).alloc (by simp only [World.size_alloc] <;> omega) _)).drew

set_option maxHeartbeats 1000000 in
theorem b6c (s r c p : Int) (w : World) (hr : 0 ≤ r) (hr2 : r ≤ 512) (h3 : (s == 3) = false) (h0 : (r == 0) = false) :
    Calls Tryd.prog 36 #[WV s r c, EV 6 p] w fun e w' => e = .returned (WV 4 r c) ∧ Below w.heap.size w w' := by
  go_enter Tryd.func36, Tryd.ntmps36
  go_wp2
  all_goals
    (try go_wp2)
    refine bodyPost_ret (v := WV 4 r c) (by simp [results, Tryd.results36, go_sem]) rfl ⟨rfl, ?_⟩
    first | exact ((((Below.refl _ _).alloc (Nat.le_refl _) _).alloc (by simp only [World.size_alloc] <;> omega) _).alloc (by simp only [World.size_alloc] <;> omega) _) | exact (((((Below.refl _ _).alloc (Nat.le_refl _) _).alloc (by simp only [World.size_alloc] <;> omega) _).alloc (by simp only [World.size_alloc] <;> omega) _)).drew

theorem after_any (s r c k p : Int) (w : World) (hr : 0 ≤ r) (hr2 : r ≤ 512) (hk1 : 1 ≤ k) (hk2 : k ≤ 6) (h2 : k = 2 → 1 ≤ r) :
    Calls Tryd.prog 40 #[WV s r c, EV k p] w fun e w' => e = .returned (WV (aS s r k) (aR s r k) (aC s c k p)) ∧ Below w.heap.size w w' := by
  have hk : k = 1 ∨ k = 2 ∨ k = 3 ∨ k = 4 ∨ k = 5 ∨ k = 6 := by omega
  rcases hk with rfl | rfl | rfl | rfl | rfl | rfl
  · exact a1 s r c p w hr hr2
  · have hr1 := h2 rfl
    by_cases h1 : r = 1
    · subst h1
      by_cases hs1 : s = 1
      · subst hs1; exact a2a c p w
      · by_cases hs4 : s = 4
        · subst hs4; exact a2b c p w
        · have e1 : aS s 1 2 = s := by simp [aS, hs1, hs4]
          rw [e1]
          exact a2d s c p w (by simpa using hs1) (by simpa using hs4)
    · have e1 : aS s r 2 = s := by simp [aS, h1]
      rw [e1]
      exact a2c s r c p w hr1 hr2 (by simp; omega) (by omega)
  · exact a3 s r c p w hr hr2
  · exact a4 s r c p w hr hr2
  · exact a5 s r c p w hr hr2
  · by_cases hs3 : s = 3
    · subst hs3; exact a6a r c p w hr hr2
    · have e2 : aR s r 6 = r := by simp [aR, hs3]
      have e3 : aC s c 6 p = c := by simp [aC, hs3]
      rw [e2, e3]
      by_cases h0 : r = 0
      · subst h0
        have e1 : aS s 0 6 = 6 := by simp [aS, hs3]
        rw [e1]
        exact a6b s c p w (by simpa using hs3)
      · have e1 : aS s r 6 = 4 := by simp [aS, hs3, h0]
        rw [e1]
        exact a6c s r c p w hr hr2 (by simpa using hs3) (by simpa using h0)

theorem rafter_any (s r c k p : Int) (w : World) (hr : 0 ≤ r) (hr2 : r ≤ 512) (hk1 : 1 ≤ k) (hk2 : k ≤ 6) (h2 : k = 2 → 1 ≤ r) :
    Calls Tryd.prog 36 #[WV s r c, EV k p] w fun e w' => e = .returned (WV (aS s r k) (aR s r k) (aC s c k p)) ∧ Below w.heap.size w w' := by
  have hk : k = 1 ∨ k = 2 ∨ k = 3 ∨ k = 4 ∨ k = 5 ∨ k = 6 := by omega
  rcases hk with rfl | rfl | rfl | rfl | rfl | rfl
  · exact b1 s r c p w hr hr2
  · have hr1 := h2 rfl
    by_cases h1 : r = 1
    · subst h1
      by_cases hs1 : s = 1
      · subst hs1; exact b2a c p w
      · by_cases hs4 : s = 4
        · subst hs4; exact b2b c p w
        · have e1 : aS s 1 2 = s := by simp [aS, hs1, hs4]
          rw [e1]
          exact b2d s c p w (by simpa using hs1) (by simpa using hs4)
    · have e1 : aS s r 2 = s := by simp [aS, h1]
      rw [e1]
      exact b2c s r c p w hr1 hr2 (by simp; omega) (by omega)
  · exact b3 s r c p w hr hr2
  · exact b4 s r c p w hr hr2
  · exact b5 s r c p w hr hr2
  · by_cases hs3 : s = 3
    · subst hs3; exact b6a r c p w hr hr2
    · have e2 : aR s r 6 = r := by simp [aR, hs3]
      have e3 : aC s c 6 p = c := by simp [aC, hs3]
      rw [e2, e3]
      by_cases h0 : r = 0
      · subst h0
        have e1 : aS s 0 6 = 6 := by simp [aS, hs3]
        rw [e1]
        exact b6b s c p w (by simpa using hs3)
      · have e1 : aS s r 6 = 4 := by simp [aS, hs3, h0]
        rw [e1]
        exact b6c s r c p w hr hr2 (by simpa using hs3) (by simpa using h0)

end Go.Proofs.YtcicgccllhkolaaDoor
