/- Plain facts about tallies: how long a plan is and in which order its kinds stand; when only a kill is left; no program in sight. -/
import Derived.Test.YtfploaaelfjadaaPl
namespace Go.Proofs.Ytfploaaelfjadaa
set_option linter.unusedSimpArgs false
set_option linter.unusedVariables false
set_option linter.unnecessarySimpa false

/-- How many steps shrink, and how many write. -/
def sh (t : T) : Int := (t.ob + 3) / 4
def wt (t : T) : Int := min (min (min (t.ac + t.ia) (t.cp - t.wr)) t.rm) t.sl
/-- The kind of step i. -/
def want (t : T) (i : Int) : Int := if i < sh t then 1 else if i < sh t + wt t then 4 else if wt t = 0 ∧ t.wr = 0 ∧ t.op = 0 then 6 else 5
theorem may_wt {t : T} (h : Ok t) : mayB t = decide (0 < wt t) := by
  have h1 := h.ac
  have h2 := h.ia
  have h3 := h.wr
  have h4 := h.rm
  have h5 := h.sl
  rw [Bool.eq_iff_iff, decide_eq_true_iff]
  constructor
  · intro hm
    obtain ⟨m1, m2, m3, m4⟩ := may_ok hm
    unfold wt
    omega
  · intro hw
    unfold wt at hw
    unfold mayB
    have e1 : (t.ac == 0 && t.ia == 0) = false := by
      rw [Bool.and_eq_false_iff]
      by_cases e : t.ac = 0
      · right; rw [beq_eq_false_iff_ne]; omega
      · left; rw [beq_eq_false_iff_ne]; exact e
    have e2 : (t.wr == t.cp) = false := by rw [beq_eq_false_iff_ne]; omega
    have e3 : (t.rm == 0) = false := by rw [beq_eq_false_iff_ne]; omega
    have e4 : (t.sl == 0) = false := by rw [beq_eq_false_iff_ne]; omega
    rw [e1, e2, e3, e4]; rfl
theorem sh_nn {t : T} (h : Ok t) : 0 ≤ sh t ∧ sh t ≤ 64 := by have := h.ob; unfold sh; omega
theorem wt_nn {t : T} (h : Ok t) : 0 ≤ wt t ∧ wt t ≤ 16 := by
  have h1 := h.ac
  have h2 := h.ia
  have h3 := h.wr
  have h4 := h.rm
  have h5 := h.sl
  have h6 := h.cp
  unfold wt; omega
theorem dir_eq {t : T} (h : Ok t) : dir t = want t 0 := by
  have h1 := sh_nn h
  have h2 := wt_nn h
  have h3 := h.ob
  have h4 := h.wr
  have h5 := h.op
  unfold dir want
  rw [may_wt h]
  by_cases a : 0 < t.ob
  · rw [if_pos a, if_pos (by unfold sh; omega)]
  · have e : sh t = 0 := by unfold sh; omega
    rw [if_neg a, if_neg (show ¬ 0 < sh t by omega)]
    by_cases b : 0 < wt t
    · rw [if_pos (decide_eq_true b), if_pos (show 0 < sh t + wt t by omega)]
    · rw [if_neg (show ¬ decide (0 < wt t) = true by rw [decide_eq_true_iff]; exact b), if_neg (show ¬ 0 < sh t + wt t by omega)]
      by_cases c : t.wr = 0 ∧ t.op = 0
      · rw [if_neg (show ¬ (decide (0 < t.wr) || decide (0 < t.op)) = true by simp; omega), if_pos ⟨by omega, c⟩]
      · rw [if_pos (show (decide (0 < t.wr) || decide (0 < t.op)) = true by simp; omega), if_neg (by omega)]
theorem aft_one (t : T) : aft t 1 = { t with ob := t.ob - min t.ob 4 } := by unfold aft; rw [if_pos rfl]
theorem aft_four (t : T) : aft t 4 = { t with ia := if 0 < t.ia then t.ia - 1 else t.ia, ac := if 0 < t.ia then t.ac else t.ac - 1, rm := t.rm - 1, sl := t.sl - 1, wr := t.wr + 1, rf := false } := by
  unfold aft; rw [if_neg (by omega), if_pos rfl]
theorem aft_five (t : T) : aft t 5 = t := by unfold aft; rw [if_neg (by omega), if_neg (by omega)]
theorem want_step {t : T} (h : Ok t) (hk : dir t ≠ 6) (i : Int) (hi : 0 ≤ i) : want (aft t (dir t)) i = want t (i + 1) := by
  have h1 := sh_nn h
  have h2 := wt_nn h
  have h3 := h.ob
  have h4 := h.wr
  have h5 := h.op
  have hd := dir_eq h
  unfold want at hd
  by_cases a : 0 < sh t
  · rw [if_pos a] at hd
    rw [hd, aft_one]
    have e1 : sh { t with ob := t.ob - min t.ob 4 } = sh t - 1 := by unfold sh at a ⊢; simp only []; omega
    have e2 : wt { t with ob := t.ob - min t.ob 4 } = wt t := rfl
    unfold want
    rw [e1, e2]
    simp only [show (i < sh t - 1) = (i + 1 < sh t) from propext ⟨fun _ => by omega, fun _ => by omega⟩, show (i < sh t - 1 + wt t) = (i + 1 < sh t + wt t) from propext ⟨fun _ => by omega, fun _ => by omega⟩]
  · rw [if_neg a] at hd
    by_cases b : 0 < sh t + wt t
    · rw [if_pos b] at hd
      rw [hd, aft_four]
      have hm : t.ia > 0 ∨ t.ia = 0 := by have := h.ia; omega
      have h6 := h.ac
      have h7 := h.ia
      have e2 : wt { t with ia := if 0 < t.ia then t.ia - 1 else t.ia, ac := if 0 < t.ia then t.ac else t.ac - 1, rm := t.rm - 1, sl := t.sl - 1, wr := t.wr + 1, rf := false } = wt t - 1 := by
        unfold wt
        simp only []
        by_cases c : 0 < t.ia
        · rw [if_pos c, if_pos c]; omega
        · rw [if_neg c, if_neg c]; omega
      have e1 : sh { t with ia := if 0 < t.ia then t.ia - 1 else t.ia, ac := if 0 < t.ia then t.ac else t.ac - 1, rm := t.rm - 1, sl := t.sl - 1, wr := t.wr + 1, rf := false } = sh t := rfl
      unfold want
      rw [e1, e2]
      simp only []
      rw [if_neg (show ¬ i < sh t by omega), if_neg (show ¬ i + 1 < sh t by omega)]
      by_cases c : i < sh t + (wt t - 1)
      · rw [if_pos c, if_pos (show i + 1 < sh t + wt t by omega)]
      · rw [if_neg c, if_neg (show ¬ i + 1 < sh t + wt t by omega), if_neg (show ¬ (wt t - 1 = 0 ∧ t.wr + 1 = 0 ∧ t.op = 0) by omega), if_neg (show ¬ (wt t = 0 ∧ t.wr = 0 ∧ t.op = 0) by omega)]
    · rw [if_neg b] at hd
      by_cases c : wt t = 0 ∧ t.wr = 0 ∧ t.op = 0
      · rw [if_pos c] at hd; exact absurd hd hk
      · rw [if_neg c] at hd
        rw [hd, aft_five]
        unfold want
        rw [if_neg (show ¬ i < sh t by omega), if_neg (show ¬ i < sh t + wt t by omega), if_neg c, if_neg (show ¬ i + 1 < sh t by omega), if_neg (show ¬ i + 1 < sh t + wt t by omega)]
theorem want_stK {t : T} (h : Ok t) (k : Nat) (hk : ∀ j, j < k → dir (stK t j) ≠ 6) (i : Int) (hi : 0 ≤ i) : want (stK t k) i = want t (k + i) := by
  induction k generalizing i with
  | zero => show want t i = _; congr 1; omega
  | succ k ih =>
    show want (aft (stK t k) (dir (stK t k))) i = _
    rw [want_step (ok_stK h k) (hk k (by omega)) i hi, ih (fun j hj => hk j (by omega)) (i + 1) (by omega)]
    congr 1; omega
theorem dir_stK {t : T} (h : Ok t) (k : Nat) (hk : ∀ j, j < k → dir (stK t j) ≠ 6) : dir (stK t k) = want t k := by
  rw [dir_eq (ok_stK h k), want_stK h k hk 0 (by omega), Int.add_zero]
/-- Whether the plan ends in a kill. -/
def killB (t : T) : Prop := wt t = 0 ∧ t.wr = 0 ∧ t.op = 0
theorem want_no {t : T} (hn : ¬ killB t) (i : Int) : want t i ≠ 6 := by
  unfold want killB at *
  repeat' split
  all_goals omega
theorem no_kill {t : T} (h : Ok t) (hn : ¬ killB t) (k : Nat) : dir (stK t k) ≠ 6 := by
  have : ∀ n, ∀ k, k < n → dir (stK t k) ≠ 6 := by
    intro n
    induction n with
    | zero => intro k hk; omega
    | succ n ih =>
      intro k hk
      rw [dir_stK h k (fun j hj => ih j (by omega))]
      exact want_no hn _
  exact this (k + 1) k (by omega)
theorem pre_kill {t : T} (h : Ok t) (k : Nat) (hk : (k : Int) ≤ sh t) : ∀ j, j < k → dir (stK t j) ≠ 6 := by
  induction k with
  | zero => intro j hj; omega
  | succ k ih =>
    intro j hj
    rw [dir_stK h j (fun i hi => ih (by omega) i (by omega))]
    unfold want
    rw [if_pos (by omega)]
    decide
theorem upL_get (t : T) (k i : Nat) (hi : i < k) : (upL t k).getD i 5 = dir (stK t i) := by simp [upL, List.getD, hi]
/-- The plan, place by place. -/
theorem plan_get {t : T} (h : Ok t) (n : Nat) (hn : sh t + wt t < n) :
    sh t + wt t + 1 ≤ (planL t n).length ∧ (∀ i, i < (planL t n).length → (planL t n).getD i 5 = want t i) ∧ (∀ i, i < (planL t n).length → want t i = 6 → i + 1 = (planL t n).length) := by
  have h1 := sh_nn h
  have h2 := wt_nn h
  by_cases hk : killB t
  · obtain ⟨s, hs⟩ : ∃ s : Nat, (s : Int) = sh t := ⟨(sh t).toNat, by omega⟩
    have hp := pre_kill h s (by omega)
    have e6 : dir (stK t s) = 6 := by
      rw [dir_stK h s hp]
      unfold want
      unfold killB at hk
      rw [if_neg (by omega), if_neg (by omega), if_pos hk]
    have hw : wt t = 0 := hk.1
    rw [planL_kill hp e6 n (by omega), upL_len]
    refine ⟨by omega, fun i hi => ?_, fun i hi h6 => ?_⟩
    · rw [upL_get _ _ _ hi]
      exact dir_stK h i (fun j hj => hp j (by omega))
    · by_cases e : i < s
      · unfold want at h6
        rw [if_pos (by omega)] at h6
        omega
      · omega
  · have hp := no_kill h hk
    rw [planL_up (fun j _ => hp j), upL_len]
    refine ⟨by omega, fun i hi => ?_, fun i hi h6 => absurd h6 (want_no hk _)⟩
    rw [upL_get _ _ _ hi]
    exact dir_stK h i (fun j _ => hp j)
theorem stpL_eq {t : T} (h : Ok t) : (stpL t : Int) = sh t + wt t := by
  have h1 := sh_nn h
  have h2 := wt_nn h
  obtain ⟨a, b, _⟩ := plan_get h 1000 (by omega)
  obtain ⟨n, hn⟩ : ∃ n : Nat, (n : Int) = sh t + wt t := ⟨(sh t + wt t).toNat, by omega⟩
  have e : stpL t = n := by
    refine takeWhile_stop (fun j hj => ?_) (by omega) (.inr ?_)
    · rw [b j (by omega)]
      unfold want
      by_cases c : (j : Int) < sh t
      · rw [if_pos c]; rfl
      · rw [if_neg c, if_pos (by omega)]; rfl
    · rw [b n (by omega)]
      unfold want
      rw [if_neg (by omega), if_neg (by omega)]
      split <;> rfl
  rw [e]; exact hn
theorem stpL_le {t : T} (h : Ok t) : stpL t ≤ 80 := by
  have := stpL_eq h
  have h1 := sh_nn h
  have h2 := wt_nn h
  omega
/-- When only a kill is left. -/
theorem stuck_iff {t : T} (h : Ok t) : (dir t = 6) ↔ (t.ob = 0 ∧ t.wr = 0 ∧ t.op = 0 ∧ (t.ac + t.ia = 0 ∨ t.rm = 0 ∨ t.sl = 0)) := by
  rw [dir_eq h]
  have h1 := sh_nn h
  have h2 := wt_nn h
  have h3 := h.ob
  have h4 := h.wr
  have h5 := h.op
  have h6 := h.cp
  have h7 := h.ac
  have h8 := h.ia
  have h9 := h.rm
  have h10 := h.sl
  unfold want
  by_cases a : 0 < sh t
  · rw [if_pos a]; unfold sh at a; constructor
    · intro e; omega
    · intro e; omega
  · have hs : sh t = 0 := by omega
    rw [if_neg a, hs]
    have ho : t.ob = 0 := by unfold sh at hs; omega
    by_cases b : 0 < wt t
    · rw [if_pos (by omega)]
      unfold wt at b
      constructor
      · intro e; omega
      · intro e; omega
    · have hw : wt t = 0 := by omega
      rw [if_neg (by omega), hw]
      unfold wt at hw
      by_cases c : t.wr = 0 ∧ t.op = 0
      · rw [if_pos ⟨rfl, c⟩]
        constructor
        · intro _; omega
        · intro _; rfl
      · rw [if_neg (by omega)]
        constructor
        · intro e; omega
        · intro e; omega
end Go.Proofs.Ytfploaaelfjadaa
