/- Plain facts: the entries of a fair round are one round, in whatever order; no program in sight. -/
import Derived.Test.YtgdcgmnfgbdiiaaPE
import Derived.Test.YtgdcgmnfgbdiiaaPa
import Derived.Test.YtgdcgmnfgbdiiaaS
import Derived.Test.YtgdcgmnfgbdiiaaX
import Derived.Test.YtgdcgmnfgbdiiaaV
namespace Go.Proofs.Ytgdcgmnfgbdiiaa
set_option linter.unusedSimpArgs false
set_option linter.unusedVariables false
set_option linter.unnecessarySimpa false

theorem asc_idxF (lo hi : Int) (b : List Bool) : ∀ (o : Int) (p : Option Int), lo ≤ o → o + b.length ≤ hi + 1 → (∀ y, p = some y → y < o) → ascE lo hi (idxF o b) p = 0 := by
  induction b with
  | nil => intro o p _ _ _; rfl
  | cons x b ih =>
    intro o p h1 h2 h3
    have h2' : o + 1 + (b.length : Int) ≤ hi + 1 := by simp at h2; omega
    cases x with
    | false => exact ih (o + 1) p (by omega) h2' (fun y hy => by have := h3 y hy; omega)
    | true =>
      show (if o < lo ∨ hi < o then (2 : Int) else if leP o p = true then 8 else ascE lo hi (idxF (o + 1) b) (some o)) = 0
      rw [if_neg (by omega)]
      have hl : ¬ leP o p = true := by
        cases p with
        | none => intro h; cases h
        | some y =>
          have := h3 y rfl
          show ¬ decide (o ≤ y) = true
          rw [decide_eq_true_iff]; omega
      rw [if_neg hl]
      exact ih (o + 1) (some o) (by omega) h2' (fun y hy => by cases hy; omega)
/-- The moment of a state. -/
def moS (S : St) : Mo := ⟨idx S.a, idx S.s⟩
theorem ck_moS {S : St} (hw : S.Wf) (h0 : S.a.getD 0 false = false) : ckM (moS S) = 0 := by
  have ha : ascE 1 8 (idx S.a) none = 0 := by
    match hS : S.a, hw.1 with
    | x :: r, hl =>
      rw [hS] at h0
      have hx : x = false := h0
      subst hx
      have hl2 : r.length = 8 := by simpa using hl
      exact asc_idxF 1 8 r 1 none (by omega) (by omega) (fun y hy => by cases hy)
  have hs : ascE 0 255 (idx S.s) none = 0 := asc_idxF 0 255 S.s 0 none (by omega) (by rw [hw.2]; omega) (fun y hy => by cases hy)
  unfold ckM moS
  simp only []
  rw [if_pos ha, hs]
theorem a0_apS {t : St} {k w : Int} (h : t.a.getD 0 false = false) (he : apE t k w = 0) : (apS t k w).a.getD 0 false = false := by
  unfold apS
  rw [if_pos he]
  by_cases k23 : k = 2 ∨ k = 3
  · rw [if_pos k23]
    show (t.a.set w.toNat (decide (k = 2))).getD 0 false = false
    have hw : 1 ≤ w := by
      unfold apE at he
      rw [if_neg (by omega), if_pos k23] at he
      by_cases hr : 1 ≤ w ∧ w ≤ 8
      · exact hr.1
      · rw [if_neg hr] at he; cases he
    rw [getD_set, if_neg (by omega)]
    exact h
  · rw [if_neg k23]
    split
    · exact h
    · exact h
theorem a0_stN {t : St} {l : List En} (h : t.a.getD 0 false = false) : ∀ n, (∀ j, j < n → erN t l j = 0) → (stN t l n).a.getD 0 false = false
  | 0, _ => h
  | n + 1, hv => a0_apS (a0_stN h n (fun j hj => hv j (by omega))) (hv n (by omega))
theorem foldl_getD (l : List Int) (i : Nat) : ∀ (b : List Bool), i < b.length → ((l.foldl (fun b x => b.set x.toNat true) b).getD i false = true ↔ b.getD i false = true ∨ ∃ x ∈ l, x.toNat = i) := by
  induction l with
  | nil => intro b hb; simp
  | cons x l ih =>
    intro b hb
    rw [List.foldl_cons, ih _ (by simpa using hb), getD_set]
    by_cases e : x.toNat = i
    · rw [if_pos ⟨e, by omega⟩]
      simp [e]
    · rw [if_neg (by omega)]
      simp [e]
theorem ext_getD {x y : List Bool} (hl : x.length = y.length) (h : ∀ i, i < x.length → x.getD i false = y.getD i false) : x = y := by
  refine List.ext_getElem hl fun i h1 h2 => ?_
  have := h i h1
  simpa [List.getD, h1, h2] using this
theorem ofL_idx {b : List Bool} {n : Nat} (h : b.length = n) : ofL n (idx b) = b := by
  refine ext_getD (by rw [ofL_len, h]) fun i hi => ?_
  rw [ofL_len] at hi
  rw [Bool.eq_iff_iff]
  unfold ofL
  rw [foldl_getD _ _ _ (by simpa using hi)]
  have hz : (List.replicate n false).getD i false = false := by simp [List.getD, List.getElem?_replicate, hi]
  rw [hz]
  constructor
  · rintro (h1 | ⟨x, hx, hxi⟩)
    · cases h1
    · rw [mem_idx] at hx
      obtain ⟨j, rfl, hj⟩ := hx
      rw [Int.toNat_natCast] at hxi
      subst hxi; exact hj
  · intro h1
    exact .inr ⟨i, (mem_idx b i).2 ⟨i, rfl, h1⟩, by simp⟩
theorem st0_moS {S : St} (hw : S.Wf) : st0 (moS S) = S := by
  unfold st0 moS
  simp only []
  rw [ofL_idx hw.1, ofL_idx hw.2]
/-- The entries of a fair round. -/
def faQ (S : St) : List En := pkL (0 :: idx S.a) ++ (idx S.s).map fun x => (5, x)
theorem mem_faQ {S : St} {k x : Int} : (k, x) ∈ faQ S ↔ (k = 1 ∧ (x = 0 ∨ x ∈ idx S.a)) ∨ (k = 5 ∧ x ∈ idx S.s) := by
  unfold faQ pkL
  rw [List.mem_append, List.mem_map, List.mem_map]
  constructor
  · rintro (⟨y, hy, e⟩ | ⟨y, hy, e⟩)
    · cases e; exact .inl ⟨rfl, by simpa using hy⟩
    · cases e; exact .inr ⟨rfl, hy⟩
  · rintro (⟨rfl, h⟩ | ⟨rfl, h⟩)
    · exact .inl ⟨x, by simpa using h, rfl⟩
    · exact .inr ⟨x, h, rfl⟩
theorem nodup_idxF (b : List Bool) : ∀ o : Int, (idxF o b).Nodup := by
  induction b with
  | nil => intro o; exact List.nodup_nil
  | cons x b ih =>
    intro o
    cases x with
    | false => exact ih (o + 1)
    | true =>
      show (o :: idxF (o + 1) b).Nodup
      rw [List.nodup_cons]
      refine ⟨fun h => ?_, ih (o + 1)⟩
      rw [mem_idxF] at h
      obtain ⟨i, hi, _⟩ := h
      omega
theorem nodup_map_inj {f : Int → En} (hf : ∀ x y, f x = f y → x = y) {l : List Int} (h : l.Nodup) : (l.map f).Nodup := by
  induction l with
  | nil => exact List.nodup_nil
  | cons x l ih =>
    rw [List.nodup_cons] at h
    rw [List.map_cons, List.nodup_cons]
    refine ⟨fun hm => ?_, ih h.2⟩
    rw [List.mem_map] at hm
    obtain ⟨y, hy, e⟩ := hm
    have := hf _ _ e
    subst this
    exact h.1 hy
theorem nodup_faQ {S : St} (h0 : S.a.getD 0 false = false) : (faQ S).Nodup := by
  unfold faQ pkL
  rw [List.nodup_append]
  refine ⟨nodup_map_inj (fun x y e => (Prod.mk.inj e).2) ?_, nodup_map_inj (fun x y e => (Prod.mk.inj e).2) (nodup_idxF _ _), ?_⟩
  · rw [List.nodup_cons]
    refine ⟨fun h => ?_, nodup_idxF _ _⟩
    rw [mem_idx] at h
    obtain ⟨i, hi, hb⟩ := h
    have : i = 0 := by omega
    subst this
    rw [h0] at hb; cases hb
  · intro a ha b hb e
    rw [List.mem_map] at ha hb
    obtain ⟨x, _, rfl⟩ := ha
    obtain ⟨y, _, rfl⟩ := hb
    cases e
/-- What is left, read off the entries that are left. -/
def Lf (D : St) (r : List En) : Prop := (∀ i : Nat, D.a.getD i false = true ↔ ((1 : Int), (i : Int)) ∈ r) ∧ ∀ i : Nat, D.s.getD i false = true ↔ ((5 : Int), (i : Int)) ∈ r
theorem Lf.none {D : St} (h : Lf D []) : nonB D = true := by
  rw [nonB_iff]
  refine ⟨fun i => ?_, fun i => ?_⟩
  · rw [Bool.eq_false_iff]; intro e; have := (h.1 i).1 e; simp at this
  · rw [Bool.eq_false_iff]; intro e; have := (h.2 i).1 e; simp at this
/-- Entries of the two kinds, within bounds. -/
def Okq (e : En) : Prop := (e.1 = 1 ∧ 0 ≤ e.2 ∧ e.2 ≤ 8) ∨ (e.1 = 5 ∧ 0 ≤ e.2 ∧ e.2 ≤ 255)
theorem Lf.some {D : St} {e : En} {r : List En} (h : Lf D (e :: r)) (he : Okq e) : nonB D = false := by
  rw [Bool.eq_false_iff]
  intro hn
  rw [nonB_iff] at hn
  obtain ⟨k, x⟩ := e
  rcases he with ⟨e1, e2, e3⟩ | ⟨e1, e2, e3⟩
  · simp only [] at e1 e2 e3
    subst e1
    obtain ⟨i, rfl⟩ := Int.eq_ofNat_of_zero_le e2
    have := (h.1 i).2 (by simp)
    rw [hn.1 i] at this; cases this
  · simp only [] at e1 e2 e3
    subst e1
    obtain ⟨i, rfl⟩ := Int.eq_ofNat_of_zero_le e2
    have := (h.2 i).2 (by simp)
    rw [hn.2 i] at this; cases this
theorem Lf.pay {D : St} (hw : D.Wf) {e : En} {r : List En} (h : Lf D (e :: r)) (hn : e ∉ r) (he : Okq e) : Lf (pyS D e.1 e.2) r := by
  obtain ⟨k, x⟩ := e
  rcases he with ⟨e1, e2, e3⟩ | ⟨e1, e2, e3⟩
  · simp only [] at e1 e2 e3
    subst e1
    obtain ⟨j, rfl⟩ := Int.eq_ofNat_of_zero_le e2
    unfold pyS
    simp only [true_or, if_true, Int.toNat_natCast]
    refine ⟨fun i => ?_, fun i => ?_⟩
    · show (D.a.set j false).getD i false = true ↔ _
      rw [getD_set]
      by_cases hij : j = i
      · subst hij
        rw [if_pos ⟨rfl, by rw [hw.1]; omega⟩]
        constructor
        · intro h; cases h
        · intro h; exact absurd h hn
      · rw [if_neg (by omega), h.1 i]
        constructor
        · intro hm
          rcases List.mem_cons.1 hm with e | e
          · cases e; exact absurd rfl hij
          · exact e
        · intro hm; exact List.mem_cons_of_mem _ hm
    · show D.s.getD i false = true ↔ _
      rw [h.2 i]
      constructor
      · intro hm
        rcases List.mem_cons.1 hm with e | e
        · cases e
        · exact e
      · intro hm; exact List.mem_cons_of_mem _ hm
  · simp only [] at e1 e2 e3
    subst e1
    obtain ⟨j, rfl⟩ := Int.eq_ofNat_of_zero_le e2
    have hp : pyS D 5 (j : Int) = { D with s := D.s.set j false } := by unfold pyS; rw [if_neg (by decide), if_pos rfl, Int.toNat_natCast]
    simp only []
    rw [hp]
    refine ⟨fun i => ?_, fun i => ?_⟩
    · show D.a.getD i false = true ↔ _
      rw [h.1 i]
      constructor
      · intro hm
        rcases List.mem_cons.1 hm with e | e
        · cases e
        · exact e
      · intro hm; exact List.mem_cons_of_mem _ hm
    · show (D.s.set j false).getD i false = true ↔ _
      rw [getD_set]
      by_cases hij : j = i
      · subst hij
        rw [if_pos ⟨rfl, by rw [hw.2]; omega⟩]
        constructor
        · intro h; cases h
        · intro h; exact absurd h hn
      · rw [if_neg (by omega), h.2 i]
        constructor
        · intro hm
          rcases List.mem_cons.1 hm with e | e
          · cases e; exact absurd rfl hij
          · exact e
        · intro hm; exact List.mem_cons_of_mem _ hm
/-- The pending slots, read off the entries that are left. -/
def Ls (t : St) (r : List En) : Prop := ∀ i : Nat, t.s.getD i false = true ↔ ((5 : Int), (i : Int)) ∈ r
theorem Ls.er {t : St} {e : En} {r : List En} (h : Ls t (e :: r)) (he : Okq e) : apE t e.1 e.2 = 0 := by
  obtain ⟨k, x⟩ := e
  rcases he with ⟨e1, e2, e3⟩ | ⟨e1, e2, e3⟩
  · simp only [] at e1 e2 e3
    subst e1
    unfold apE
    rw [if_pos rfl, if_pos ⟨e2, e3⟩]
  · simp only [] at e1 e2 e3
    subst e1
    obtain ⟨j, rfl⟩ := Int.eq_ofNat_of_zero_le e2
    unfold apE
    simp only []
    rw [if_neg (by decide), if_neg (by decide), if_pos (by decide), if_pos (by omega), Int.toNat_natCast, (h j).2 (by simp)]
    rfl
theorem Ls.ap {t : St} (hw : t.Wf) {e : En} {r : List En} (h : Ls t (e :: r)) (hn : e ∉ r) (he : Okq e) : Ls (apS t e.1 e.2) r := by
  have hE := h.er he
  obtain ⟨k, x⟩ := e
  rcases he with ⟨e1, e2, e3⟩ | ⟨e1, e2, e3⟩
  · simp only [] at e1 e2 e3 hE
    subst e1
    have hp : apS t 1 x = t := by unfold apS; rw [if_pos hE, if_neg (by decide), if_neg (by decide)]
    simp only []
    rw [hp]
    intro i
    rw [h i]
    constructor
    · intro hm
      rcases List.mem_cons.1 hm with e | e
      · cases e
      · exact e
    · intro hm; exact List.mem_cons_of_mem _ hm
  · simp only [] at e1 e2 e3 hE
    subst e1
    obtain ⟨j, rfl⟩ := Int.eq_ofNat_of_zero_le e2
    have hp : apS t 5 (j : Int) = { t with s := t.s.set j false } := by unfold apS; rw [if_pos hE, if_neg (by decide), if_pos (by decide), Int.toNat_natCast]; rfl
    simp only []
    rw [hp]
    intro i
    show (t.s.set j false).getD i false = true ↔ _
    rw [getD_set]
    by_cases hij : j = i
    · subst hij
      rw [if_pos ⟨rfl, by rw [hw.2]; omega⟩]
      constructor
      · intro h; cases h
      · intro h; exact absurd h hn
    · rw [if_neg (by omega), h i]
      constructor
      · intro hm
        rcases List.mem_cons.1 hm with e | e
        · cases e; exact absurd rfl hij
        · exact e
      · intro hm; exact List.mem_cons_of_mem _ hm
theorem drop_cons {l : List En} {n : Nat} (h : n < l.length) : l.drop n = l.getD n (0, 0) :: l.drop (n + 1) := by
  rw [List.drop_eq_getElem_cons h]
  simp [List.getD, h]
theorem fair_walk {S : St} (hw : S.Wf) {o : List En} (hq : ∀ e ∈ o, Okq e) (hn : o.Nodup) (h1 : Lf (ows S) o) (h2 : Ls S o) : ∀ n, n < o.length →
    (∀ j, j < n → erN S o j = 0) ∧ enN S o n = [] ∧ Lf (owN S o n) (o.drop n) ∧ Ls (stN S o n) (o.drop n)
  | 0, _ => ⟨fun j hj => by omega, rfl, h1, h2⟩
  | n + 1, h => by
    obtain ⟨a, b, c, d⟩ := fair_walk hw hq hn h1 h2 n (by omega)
    have hc := drop_cons (l := o) (n := n) (by omega)
    have hc2 := drop_cons (l := o) (n := n + 1) h
    have hnd : (o.drop n).Nodup := hn.sublist (List.drop_sublist _ _)
    rw [hc] at c d hnd
    have hni := (List.nodup_cons.1 hnd).1
    have hmem : ∀ i, i < o.length → o.getD i (0, 0) ∈ o := fun i hi => by simp only [List.getD, List.getElem?_eq_getElem hi, Option.getD_some]; exact List.getElem_mem hi
    have hk := hq _ (hmem n (by omega))
    have hk2 := hq _ (hmem (n + 1) h)
    have hp := c.pay (Wf_owN hw o n) hni hk
    have he : erN S o n = 0 := d.er hk
    have hnone : nonB (pyS (owN S o n) (o.getD n (0, 0)).1 (o.getD n (0, 0)).2) = false := by
      have hp2 := hp
      rw [hc2] at hp2
      exact hp2.some hk2
    have E1 : enN S o (n + 1) = if nonB (pyS (owN S o n) (o.getD n (0, 0)).1 (o.getD n (0, 0)).2) = true then enN S o n ++ [(n : Int) + 1] else enN S o n := rfl
    have E2 : owN S o (n + 1) = if nonB (pyS (owN S o n) (o.getD n (0, 0)).1 (o.getD n (0, 0)).2) = true then ows (stN S o (n + 1)) else pyS (owN S o n) (o.getD n (0, 0)).1 (o.getD n (0, 0)).2 := rfl
    rw [if_neg (by rw [hnone]; decide)] at E1 E2
    refine ⟨fun j hj => ?_, by rw [E1, b], by rw [E2]; exact hp, d.ap (Wf_stN hw o n) hni hk⟩
    by_cases e : j = n
    · subst e; exact he
    · exact a j (by omega)
theorem fair_end {S : St} (hw : S.Wf) {o : List En} (hq : ∀ e ∈ o, Okq e) (hn : o.Nodup) (h1 : Lf (ows S) o) (h2 : Ls S o) (hl : 0 < o.length) :
    (∀ j, j < o.length → erN S o j = 0) ∧ enN S o o.length = [(o.length : Int)] ∧ enN S o (o.length - 1) = [] := by
  obtain ⟨n, hn1⟩ : ∃ n, o.length = n + 1 := ⟨o.length - 1, by omega⟩
  obtain ⟨a, b, c, d⟩ := fair_walk hw hq hn h1 h2 n (by omega)
  have hc := drop_cons (l := o) (n := n) (by omega)
  have hd : o.drop (n + 1) = [] := List.drop_eq_nil_of_le (by omega)
  rw [hc, hd] at c d
  have hmem : o.getD n (0, 0) ∈ o := by simp only [List.getD, List.getElem?_eq_getElem (show n < o.length by omega), Option.getD_some]; exact List.getElem_mem _
  have hk := hq _ hmem
  have hp := c.pay (Wf_owN hw o n) (by simp) hk
  have he : erN S o n = 0 := d.er hk
  have hnone := hp.none
  have E1 : enN S o (n + 1) = if nonB (pyS (owN S o n) (o.getD n (0, 0)).1 (o.getD n (0, 0)).2) = true then enN S o n ++ [(n : Int) + 1] else enN S o n := rfl
  rw [if_pos hnone, b] at E1
  rw [hn1]
  refine ⟨fun j hj => ?_, ?_, b⟩
  · by_cases e : j = n
    · subst e; exact he
    · exact a j (by omega)
  · rw [E1]; simp
theorem Okq_faQ {S : St} (hw : S.Wf) {e : En} (h : e ∈ faQ S) : Okq e := by
  obtain ⟨k, x⟩ := e
  rcases mem_faQ.1 h with ⟨rfl, h1⟩ | ⟨rfl, h1⟩
  · left
    refine ⟨rfl, ?_⟩
    rcases h1 with rfl | h1
    · simp
    · rw [mem_idx] at h1
      obtain ⟨i, rfl, hi⟩ := h1
      have := getD_lt hi
      rw [hw.1] at this
      simp only []
      omega
  · right
    rw [mem_idx] at h1
    obtain ⟨i, rfl, hi⟩ := h1
    have := getD_lt hi
    rw [hw.2] at this
    exact ⟨rfl, by simp only []; omega, by simp only []; omega⟩
theorem faQ_len (S : St) : (faQ S).length = 1 + (idx S.a).length + (idx S.s).length := by simp [faQ, pkL]; omega
/-- The law: the entries of a fair round are exactly one round, in whatever order. -/
theorem fair_round {S : St} (hw : S.Wf) (h0 : S.a.getD 0 false = false) {o : List En} (hp : o.Perm (faQ S)) :
    (vldL (moS S) o).1 = 0 ∧ isB (moS S) o = true ∧ (vldL (moS S) (o.take (o.length - 1))).1 = 0 ∧ isB (moS S) (o.take (o.length - 1)) = false ∧ 0 < o.length ∧ o.length ≤ 300 := by
  have hlen : o.length = 1 + (idx S.a).length + (idx S.s).length := by rw [hp.length_eq, faQ_len]
  have la := idx_len S.a
  have ls := idx_len S.s
  rw [hw.1] at la
  rw [hw.2] at ls
  have hq : ∀ e ∈ o, Okq e := fun e he => Okq_faQ hw (hp.mem_iff.1 he)
  have hnd : o.Nodup := hp.nodup_iff.2 (nodup_faQ h0)
  have h2 : Ls S o := fun i => by
    rw [hp.mem_iff, mem_faQ]
    constructor
    · intro h; exact .inr ⟨rfl, (mem_idx _ _).2 ⟨i, rfl, h⟩⟩
    · rintro (⟨h, _⟩ | ⟨_, h⟩)
      · cases h
      · rw [mem_idx] at h
        obtain ⟨j, hj, hb⟩ := h
        have : i = j := by omega
        subst this; exact hb
  have h1 : Lf (ows S) o := by
    refine ⟨fun i => ?_, h2⟩
    show (S.a.set 0 true).getD i false = true ↔ _
    rw [hp.mem_iff, mem_faQ, getD_set]
    by_cases e : 0 = i
    · subst e
      rw [if_pos ⟨rfl, by rw [hw.1]; omega⟩]
      constructor
      · intro _; exact .inl ⟨rfl, .inl rfl⟩
      · intro _; rfl
    · rw [if_neg (by omega)]
      constructor
      · intro h; exact .inl ⟨rfl, .inr ((mem_idx _ _).2 ⟨i, rfl, h⟩)⟩
      · rintro (⟨_, h | h⟩ | ⟨h, _⟩)
        · omega
        · rw [mem_idx] at h
          obtain ⟨j, hj, hb⟩ := h
          have : i = j := by omega
          subst this; exact hb
        · cases h
  obtain ⟨f1, f2, f3⟩ := fair_end hw hq hnd h1 h2 (by omega)
  have hck := ck_moS hw h0
  have hst := st0_moS hw
  have hv : (vldL (moS S) o).1 = 0 := by
    unfold vldL
    rw [if_pos hck, if_neg (by omega), hst, vlF_ok f1]
  have htl : (o.take (o.length - 1)).length = o.length - 1 := by simp
  have hv2 : (vldL (moS S) (o.take (o.length - 1))).1 = 0 := by
    unfold vldL
    rw [if_pos hck, if_neg (by omega), hst, vlF_ok (fun j hj => by rw [erN_take _ _ _ _ (by omega) (by omega)]; exact f1 j (by omega))]
  refine ⟨hv, ?_, hv2, ?_, by omega, by omega⟩
  · have e : enL (moS S) o = [(o.length : Int)] := by unfold enL; rw [if_pos hv, hst, f2]
    unfold isB
    rw [e, hv]
    simp
  · have e : enL (moS S) (o.take (o.length - 1)) = [] := by unfold enL; rw [if_pos hv2, hst, htl, enN_take _ _ _ (by omega), f3]
    unfold isB
    rw [e]
    simp
end Go.Proofs.Ytgdcgmnfgbdiiaa
