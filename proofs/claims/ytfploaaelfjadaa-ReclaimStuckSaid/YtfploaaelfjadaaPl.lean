/- Plain facts about tallies: what Check, Hinders, a direct step, a plan and Steps come to; no program in sight. -/
namespace Go.Proofs.Ytfploaaelfjadaa
set_option linter.unusedSimpArgs false
set_option linter.unusedVariables false
set_option linter.unnecessarySimpa false

/-- A tally. -/
structure T where
  fr : Int
  mn : Int
  lo : Int
  hi : Int
  aw : Bool
  ob : Int
  ac : Int
  ia : Int
  tg : Int
  rf : Bool
  wr : Int
  cp : Int
  op : Int
  rm : Int
  sl : Int

/-- Its numbers are within their bounds, in the four groups of Check. -/
def ck1 (t : T) : Bool := decide ((0 ≤ t.fr ∧ t.fr ≤ 256) ∧ (0 ≤ t.ob ∧ t.ob ≤ 256) ∧ (0 ≤ t.ac ∧ t.ac ≤ 256) ∧ (0 ≤ t.ia ∧ t.ia ≤ 256) ∧ (0 ≤ t.tg ∧ t.tg ≤ 256) ∧ (0 ≤ t.sl ∧ t.sl ≤ 256))
def ck2 (t : T) : Bool := decide (0 ≤ t.mn ∧ t.mn < t.lo ∧ t.lo < t.hi ∧ t.hi ≤ 256)
def ck3 (t : T) : Bool := decide (1 ≤ t.cp ∧ t.cp ≤ 16 ∧ 0 ≤ t.wr ∧ t.wr ≤ t.cp)
def ck4 (t : T) : Bool := decide ((0 ≤ t.op ∧ t.op ≤ 32) ∧ (0 ≤ t.rm ∧ t.rm ≤ 32))
def ck5 (t : T) : Bool := !(t.rf && (t.ia == 0))
/-- What Check gives. -/
def chk (t : T) : Int := if (ck1 t && ck2 t && ck3 t && ck4 t) = true then (if ck5 t = true then 0 else 3) else 2
/-- A valid tally. -/
structure Ok (t : T) : Prop where
  fr : 0 ≤ t.fr ∧ t.fr ≤ 256
  ob : 0 ≤ t.ob ∧ t.ob ≤ 256
  ac : 0 ≤ t.ac ∧ t.ac ≤ 256
  ia : 0 ≤ t.ia ∧ t.ia ≤ 256
  tg : 0 ≤ t.tg ∧ t.tg ≤ 256
  sl : 0 ≤ t.sl ∧ t.sl ≤ 256
  ms : 0 ≤ t.mn ∧ t.mn < t.lo ∧ t.lo < t.hi ∧ t.hi ≤ 256
  cp : 1 ≤ t.cp ∧ t.cp ≤ 16
  wr : 0 ≤ t.wr ∧ t.wr ≤ t.cp
  op : 0 ≤ t.op ∧ t.op ≤ 32
  rm : 0 ≤ t.rm ∧ t.rm ≤ 32
  rf : t.rf = true → t.ia ≠ 0
theorem chk_ok {t : T} (h : chk t = 0) : Ok t := by
  unfold chk at h
  by_cases h1 : (ck1 t && ck2 t && ck3 t && ck4 t) = true
  · rw [if_pos h1] at h
    by_cases h2 : ck5 t = true
    · simp only [Bool.and_eq_true] at h1
      obtain ⟨⟨⟨a, b⟩, c⟩, d⟩ := h1
      have a := of_decide_eq_true a
      have b := of_decide_eq_true b
      have c := of_decide_eq_true c
      have d := of_decide_eq_true d
      refine ⟨a.1, a.2.1, a.2.2.1, a.2.2.2.1, a.2.2.2.2.1, a.2.2.2.2.2, b, ⟨c.1, c.2.1⟩, c.2.2, d.1, d.2, fun hr hi => ?_⟩
      simp [ck5, hr, hi] at h2
    · rw [if_neg h2] at h; omega
  · rw [if_neg h1] at h; omega
theorem ok_chk {t : T} (h : Ok t) : chk t = 0 := by
  have h1 : (ck1 t && ck2 t && ck3 t && ck4 t) = true := by
    simp only [Bool.and_eq_true]
    exact ⟨⟨⟨decide_eq_true ⟨h.fr, h.ob, h.ac, h.ia, h.tg, h.sl⟩, decide_eq_true h.ms⟩, decide_eq_true ⟨h.cp.1, h.cp.2, h.wr⟩⟩, decide_eq_true ⟨h.op, h.rm⟩⟩
  have h2 : ck5 t = true := by
    unfold ck5
    cases hr : t.rf
    · rfl
    · have := h.rf hr
      simp [this]
  unfold chk
  rw [if_pos h1, if_pos h2]
theorem chk_bad {t : T} (h : (ck1 t && ck2 t && ck3 t && ck4 t) = false) : chk t = 2 := by unfold chk; rw [h]; rfl
theorem chk_form {t : T} (h1 : (ck1 t && ck2 t && ck3 t && ck4 t) = true) (h : ck5 t = false) : chk t = 3 := by unfold chk; rw [if_pos h1, h]; rfl

/-- What hinders a write. -/
def hn1 (t : T) : List Int := if ((t.ac == 0) && (t.ia == 0)) = true then [1] else []
def hn2 (t : T) : List Int := if (t.wr == t.cp) = true then hn1 t ++ [2] else hn1 t
def hn3 (t : T) : List Int := if (t.rm == 0) = true then hn2 t ++ [3] else hn2 t
def hnd (t : T) : List Int := if (t.sl == 0) = true then hn3 t ++ [4] else hn3 t
/-- Whether a frame can be written out. -/
def mayB (t : T) : Bool := !((t.ac == 0 && t.ia == 0) || t.wr == t.cp || t.rm == 0 || t.sl == 0)
theorem hnd_len (t : T) : (hnd t).length ≤ 4 := by
  unfold hnd hn3 hn2 hn1
  repeat' split
  all_goals simp
theorem hnd_may (t : T) : (((hnd t).length : Int) == 0) = mayB t := by
  unfold hnd hn3 hn2 hn1 mayB
  cases (t.ac == 0 && t.ia == 0) <;> cases (t.wr == t.cp) <;> cases (t.rm == 0) <;> cases (t.sl == 0) <;> rfl
/-- The kind of a direct step. -/
def dir (t : T) : Int := if 0 < t.ob then 1 else if mayB t = true then 4 else if (decide (0 < t.wr) || decide (0 < t.op)) = true then 5 else 6
/-- The kind of a step of the reclaimer. -/
def bgd (t : T) : Int := if t.aw = false then 0 else if 0 < t.ob then 1 else if (decide (t.ia < t.tg) && decide (0 < t.ac)) = true then 2 else if (decide (0 < t.ia) && t.rf) = true then 3 else if (decide (0 < t.ia) && mayB t) = true then 4 else 0
/-- Whether the reclaimer is awake. -/
def wks (t : T) : Bool := decide (t.fr < t.lo) || (decide (t.fr < t.hi) && t.aw)
/-- The tally after a direct step. -/
def aft (t : T) (s : Int) : T :=
  if s = 1 then { t with ob := t.ob - min t.ob 4 } else
  if s = 4 then { t with ia := if 0 < t.ia then t.ia - 1 else t.ia, ac := if 0 < t.ia then t.ac else t.ac - 1, rm := t.rm - 1, sl := t.sl - 1, wr := t.wr + 1, rf := false } else t
theorem dir_cases (t : T) : dir t = 1 ∨ dir t = 4 ∨ dir t = 5 ∨ dir t = 6 := by
  unfold dir; repeat' split
  all_goals omega
theorem may_ok {t : T} (h : mayB t = true) : ¬ (t.ac = 0 ∧ t.ia = 0) ∧ t.wr ≠ t.cp ∧ t.rm ≠ 0 ∧ t.sl ≠ 0 := by
  unfold mayB at h
  simp at h
  obtain ⟨⟨⟨a, b⟩, c⟩, d⟩ := h
  exact ⟨fun ⟨x, y⟩ => by omega, b, c, d⟩
theorem dir_may {t : T} (h : dir t = 4) : mayB t = true := by
  unfold dir at h
  revert h
  repeat' split
  all_goals first | (intro; assumption) | (intro h; omega)
theorem ok_aft {t : T} (h : Ok t) : Ok (aft t (dir t)) := by
  rcases dir_cases t with e | e | e | e
  · rw [e]
    show Ok (if (1 : Int) = 1 then _ else _)
    rw [if_pos rfl]
    exact ⟨h.fr, by have := h.ob; simp only []; omega, h.ac, h.ia, h.tg, h.sl, h.ms, h.cp, h.wr, h.op, h.rm, h.rf⟩
  · obtain ⟨m1, m2, m3, m4⟩ := may_ok (dir_may e)
    rw [e]
    show Ok (if (4 : Int) = 1 then _ else if (4 : Int) = 4 then _ else _)
    rw [if_neg (by omega), if_pos rfl]
    have h1 := h.ac
    have h2 := h.ia
    have h3 := h.wr
    have h4 := h.rm
    have h5 := h.sl
    refine ⟨h.fr, h.ob, ?_, ?_, h.tg, ?_, h.ms, h.cp, ?_, h.op, ?_, fun hr => by cases hr⟩
    all_goals (simp only []; first | omega | (split <;> omega))
  · rw [e]; exact h
  · rw [e]; exact h
/-- The tally behind k steps. -/
def stK (t : T) : Nat → T
  | 0 => t
  | k + 1 => aft (stK t k) (dir (stK t k))
theorem ok_stK {t : T} (h : Ok t) : ∀ k, Ok (stK t k)
  | 0 => h
  | k + 1 => ok_aft (ok_stK h k)
/-- The first k steps. -/
def upL (t : T) (k : Nat) : List Int := (List.range k).map fun j => dir (stK t j)
theorem upL_zero (t : T) : upL t 0 = [] := rfl
theorem upL_succ (t : T) (k : Nat) : upL t (k + 1) = upL t k ++ [dir (stK t k)] := by simp [upL, List.range_succ]
theorem upL_len (t : T) (k : Nat) : (upL t k).length = k := by simp [upL]
/-- The plan of n picks. -/
def planL (t : T) : Nat → List Int
  | 0 => []
  | n + 1 => if (planL t n).getLast? = some 6 then planL t n else planL t n ++ [dir (stK t n)]
theorem planL_len (t : T) (n : Nat) : (planL t n).length ≤ n := by
  induction n with
  | zero => exact Nat.le_refl _
  | succ n ih =>
    unfold planL
    split
    · omega
    · simp; omega
theorem planL_up {t : T} {n : Nat} (h : ∀ j, j < n → dir (stK t j) ≠ 6) : planL t n = upL t n := by
  induction n with
  | zero => rfl
  | succ n ih =>
    have h1 := ih (fun j hj => h j (by omega))
    unfold planL
    rw [h1, upL_succ, if_neg]
    cases n with
    | zero => simp [upL]
    | succ n =>
      rw [upL_succ]
      simp
      exact h n (by omega)
theorem planL_kill {t : T} {k : Nat} (h : ∀ j, j < k → dir (stK t j) ≠ 6) (hk : dir (stK t k) = 6) (n : Nat) (hn : k < n) : planL t n = upL t (k + 1) := by
  induction n with
  | zero => omega
  | succ n ih =>
    by_cases e : k = n
    · subst e
      unfold planL
      rw [planL_up h, upL_succ, if_neg]
      cases k with
      | zero => simp [upL]
      | succ k =>
        rw [upL_succ]
        simp
        exact h k (by omega)
    · have h1 := ih (by omega)
      unfold planL
      rw [h1, upL_succ, hk, if_pos (by simp)]
/-- How many steps a plan has before it waits or kills. -/
def goes (s : Int) : Bool := s != 5 && s != 6
def stpL (t : T) : Nat := ((planL t 1000).takeWhile goes).length
theorem takeWhile_stop {l : List Int} {n : Nat} (h : ∀ j, j < n → goes (l.getD j 5) = true) (hn : n ≤ l.length) (hs : n = l.length ∨ goes (l.getD n 5) = false) : (l.takeWhile goes).length = n := by
  induction n generalizing l with
  | zero =>
    cases l with
    | nil => rfl
    | cons x l =>
      rcases hs with h0 | h0
      · simp at h0
      · have : goes x = false := h0
        simp [List.takeWhile, this]
  | succ n ih =>
    cases l with
    | nil => simp at hn
    | cons x l =>
      have hx : goes x = true := h 0 (by omega)
      have := ih (l := l) (fun j hj => h (j + 1) (by omega)) (by simpa using hn) (by
        rcases hs with h0 | h0
        · left; simpa using h0
        · right; exact h0)
      simp [List.takeWhile, hx, this]
end Go.Proofs.Ytfploaaelfjadaa
