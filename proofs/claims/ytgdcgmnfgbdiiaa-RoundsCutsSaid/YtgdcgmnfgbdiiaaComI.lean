/- Helper facts for the statements of this seat; no statement itself. -/
import Derived.Test.YtgdcgmnfgbdiiaaComW
import Derived.Deep.QuietTactic
import Derived.BigQuiet
namespace Go.Proofs.Ytgdcgmnfgbdiiaa
open Go.RowKit
set_option linter.unusedSimpArgs false
set_option linter.unusedVariables false
set_option linter.unnecessarySimpa false

/-- The value is a slice whose elements are these integers. -/
def IsInts (w : World) (v : Value) (l : List Int) : Prop :=
  ∃ a len cap, v = .slice a len cap ∧ len = l.length ∧ l.length ≤ 4294967296 ∧ (l = [] ∨ ∃ b off, a = some ⟨b, off, none⟩ ∧ ∀ k, k < l.length → w.cell? ⟨b, off + k, none⟩ = some (.int .i64 (l.getD k 0)))

theorem cell_lt {w : World} {a : Addr} {v : Value} (h : w.cell? a = some v) : a.block < w.heap.size := block_lt_of_cell h

theorem IsInts.keep {w w' : World} {v : Value} {l : List Int} (h : IsInts w v l) (hb : Below w.heap.size w w') : IsInts w' v l := by
  obtain ⟨a, len, cap, h1, h2, h0, h3⟩ := h
  refine ⟨a, len, cap, h1, h2, h0, ?_⟩
  rcases h3 with h3 | ⟨b, off, h3, h4⟩
  · exact .inl h3
  · exact .inr ⟨b, off, h3, fun k hk => by
      have := h4 k hk
      rw [hb.cell (p := ⟨b, off + k, none⟩) (cell_lt this)]; exact this⟩

theorem IsInts.nil (w : World) (a : Option Addr) (cap : Nat) : IsInts w (.slice a 0 cap) [] := ⟨a, 0, cap, rfl, rfl, by simp, .inl rfl⟩

/-- A slice of the call's own that holds these integers. -/
def Own (w : World) (base : Nat) (v : Value) (l : List Int) : Prop := w.ownsRow base 3 1 v l.length (l.map (Value.int .i64))

theorem Own.ints {w : World} {base : Nat} {v : Value} {l : List Int} (h : Own w base v l) (hl : l.length ≤ 4294967296) : IsInts w v l := by
  obtain ⟨_, h | ⟨g, cap, cur, hv, _, hg, _, _, _, ht⟩⟩ := h
  · obtain ⟨rfl, h0⟩ := h
    have : l = [] := List.length_eq_zero_iff.1 h0
    subst this
    exact IsInts.nil _ _ _
  · refine ⟨_, _, _, hv, rfl, hl, .inr ⟨g, 0, rfl, fun k hk => ?_⟩⟩
    rw [cell_of_row w g (0 + k) cur _ (0, 0) hg]
    have h2 : (cur.toList.take (l.length * 1))[k]? = some (.int .i64 (l.getD k 0)) := by rw [ht]; simp [hk]
    rw [List.getElem?_take] at h2
    simpa [hk] using h2

theorem Own.nil (w : World) (base : Nat) : Own w base (.slice none 0 0) [] := World.ownsRow_nil w base _ 1
theorem Own.alloc {w : World} {base : Nat} {v : Value} {l : List Int} (h : Own w base v l) (o : Obj) : Own (w.alloc o) base v l := World.ownsRow.alloc h o
theorem Own.drewN {w : World} {base : Nat} {v : Value} {l : List Int} (h : Own w base v l) (n : Nat) : Own (w.drewN n) base v l := h

theorem infoInt : (Try.prog.info? 3).map (fun i => (i.zero, i.size, i.bytes)) = some (some (.int .i64 0), 1, 8) := by kernel_rfl

/-- append of one integer to such a slice. -/
theorem append_int {ops : Array Oper} {rest : List Oper} {o : Oper} {a : Act} {W : World} {Q : Exit → Act → World → Prop} (hgd : o.guard = none) (s x : Operand)
    (ho : o.op = .call { callee := .builtin .append, args := #[s, x], argTypes := #[22, 22] }) (base : Nat) (v : Value) (l : List Int) (y : Int) (ty : TypeId)
    (hs : a.eval s = v) (hx : a.eval x = .slice (some ⟨W.heap.size, 0, none⟩) 1 1) (hown : Hid (Own W base v l)) (hl : l.length < 4294967296) (hbase : base ≤ W.heap.size)
    (h : ∀ v' w', Hid (Own w' base v' (l ++ [y])) → Hid (Below base W w') → wpList Try.prog ops Q rest (a.put o.dst v') w') : wpList Try.prog ops Q (o :: rest) a (W.alloc (.cells #[.int .i64 y] ty)) := by
  obtain ⟨i, hi, hz, hs1, hby⟩ := info_parts infoInt
  refine wpList_append_own (W.alloc (.cells #[.int .i64 y] ty)) hgd s x 22 ho base 3 i (.int .i64 0) 1 8 Try.underlying22 hi hz hs1 hby rfl (by decide) v l.length (l.map (Value.int .i64)) hs (World.ownsRow.alloc hown.out _)
    ⟨W.heap.size, 0, none⟩ 1 1 [.int .i64 y] hx rfl ?_ ?_ ?_ ?_ ?_ ?_
  · intro j u hj
    have : j = 0 := by
      have := (List.getElem?_eq_some_iff.1 hj).1
      simp at this; omega
    subst this
    simp at hj; subst hj
    exact setRow_cell (t := ty) (h1_0 W _) rfl
  · intro u hu; simp at hu; subst hu; rfl
  · simp only [maxLen]; omega
  · omega
  · simp only [World.size_alloc] <;> omega
  · intro v' w' h1 h2 _
    refine h v' w' ?_ ?_
    · show w'.ownsRow _ _ _ _ _ _
      simpa using h1
    · exact Below.grown (Below.alloc (Below.refl _ _) hbase _) h2 (by simp only [World.size_alloc] <;> omega) (fun k hk => (World.ownsRow.lt hown.out k hk).1)

theorem tmod_neg (n k : Int) (hn : n < 0) (hk : 1 ≤ k) : (n.tmod k = 0 ∧ n % k = 0) ∨ (n.tmod k < 0 ∧ -k < n.tmod k ∧ n.tmod k + k = n % k) := by
  obtain ⟨m, rfl⟩ : ∃ m, n = -m := ⟨-n, by omega⟩
  have h1 := Int.emod_nonneg m (show k ≠ 0 by omega)
  have h2 := Int.emod_lt_of_pos m (show 0 < k by omega)
  rw [Int.neg_tmod, Int.tmod_eq_emod_of_nonneg (show 0 ≤ m by omega), Int.neg_emod]
  by_cases hd : k ∣ m
  · left
    rw [if_pos hd, Int.emod_eq_zero_of_dvd hd]
    exact ⟨rfl, rfl⟩
  · right
    have h3 : m % k ≠ 0 := fun h => hd (Int.dvd_of_emod_eq_zero h)
    rw [if_neg hd]
    omega

set_option maxHeartbeats 400000 in
theorem mod_any (n k : Int) (w : World) (hk : 1 ≤ k) (hk2 : k ≤ 4611686018427387904) :
    Calls Try.prog 10 #[.int .i64 n, .int .i64 k] w fun e w' => e = .returned (.int .i64 (n % k)) ∧ w = w' := by
  have h1 := Int.emod_nonneg n (show k ≠ 0 by omega)
  have h2 := Int.emod_lt_of_pos n (show 0 < k by omega)
  have hz : (k == 0) = false := by simp; omega
  by_cases hn : 0 ≤ n
  · go_enter Try.func10, Try.ntmps10
    go_wp2
    go_ret
    exact ⟨rfl, rfl⟩
  · rcases tmod_neg n k (by omega) hk with ⟨h3, h4⟩ | ⟨h3, h5, h4⟩
    · have H4 := Lib.hid h4
      clear h4 h1 h2
      go_enter Try.func10, Try.ntmps10
      go_wp2
      go_ret
      exact ⟨ret_int (by rw [H4.out]), rfl⟩
    · have H4 := Lib.hid h4
      clear h4
      have hw : wrap64 (n.tmod k) = n.tmod k := IntWalk.wrap64_in _ ⟨by omega, by omega⟩
      go_enter Try.func10, Try.ntmps10
      go_wp2
      go_ret
      exact ⟨ret_int H4.out, rfl⟩

theorem bdrewN {B : Nat} {a w : World} (h : Below B a w) (n : Nat) : Below B a (w.drewN n) := ⟨h.os, h.tape, h.output, h.size, h.block⟩

theorem beq_ints {la lb : List Int} (hl : la.length = lb.length) (h : ∀ j, j < la.length → la.getD j 0 = lb.getD j 0) : (la == lb) = true := by
  rw [beq_iff_eq]
  refine List.ext_getElem hl (fun j h1 h2 => ?_)
  have := h j h1
  simpa [List.getD, h1, h2] using this
theorem beq_ints_ne {la lb : List Int} {j : Nat} (h : la.getD j 0 ≠ lb.getD j 0) : (la == lb) = false := by
  rw [beq_eq_false_iff_ne]; intro e; subst e; exact h rfl

set_option maxHeartbeats 400000 in
theorem sameInts_same (ba oa ca bb ob cb n : Nat) (la lb : List Int) (w : World) (hn : n = la.length) (hm : n = lb.length) (hn2 : n ≤ 4294967296)
    (ha : ∀ k, k < n → w.cell? ⟨ba, oa + k, none⟩ = some (.int .i64 (la.getD k 0))) (hb : ∀ k, k < n → w.cell? ⟨bb, ob + k, none⟩ = some (.int .i64 (lb.getD k 0))) :
    Calls Try.prog 19 #[.slice (some ⟨ba, oa, none⟩) n ca, .slice (some ⟨bb, ob, none⟩) n cb] w fun e w' => e = .returned (.bool (la == lb)) ∧ Below w.heap.size w w' := by
  have HA := Lib.hid ha
  have HB := Lib.hid hb
  have HN := Lib.hid hn
  have HM := Lib.hid hm
  clear ha hb hn hm
  have hnn : ((n : Int) != (n : Int)) = false := by simp
  go_enter Try.func19, Try.ntmps19
  go_wp2
  go_loopw [5] (fun i wr => ∃ k : Nat, k ≤ n ∧ i = .int .i64 k ∧ Hid (∀ j, j < k → la.getD j 0 = lb.getD j 0) ∧ Hid (Below w.heap.size w wr)) (fun i _ => n - (intOf i).toNat)
  case atStart => exact ⟨0, by omega, rfl, fun j hj => by omega, Below.refl _ _⟩
  case round =>
    obtain ⟨k, hk, rfl, heq, hbl⟩ := hrel
    by_cases hlt : k < n
    · have c1 : wr.cell? ⟨ba, oa + k, none⟩ = _ := (hbl.out.cell (cell_lt (HA.out k hlt))).trans (HA.out k hlt)
      have c2 : wr.cell? ⟨bb, ob + k, none⟩ = _ := (hbl.out.cell (cell_lt (HB.out k hlt))).trans (HB.out k hlt)
      have i1 : (0 : Int) ≤ (k : Int) := by omega
      have i2 : (k : Int) < (n : Int) := by omega
      by_cases he : la.getD k 0 = lb.getD k 0
      · have HE := Lib.hid he
        rw [he] at c1
        clear he
        obtain ⟨y, hy⟩ : ∃ y, y = lb.getD k 0 := ⟨_, rfl⟩
        rw [← hy] at c1 c2
        clear hy
        have hyy : (y != y) = false := by simp
        go_wp2_with fail
        go_quiet (fail)
        go_wp2
        go_roundw
        case rel => exact ⟨k + 1, by omega, by go_num, fun j hj => by
          by_cases e : j = k
          · subst e; exact HE.out
          · exact heq.out j (by omega), bdrewN hbl.out _⟩
        case measure => simp [intOf]; omega
      · have HE := Lib.hid (beq_ints_ne he)
        have hyy : (la.getD k 0 != lb.getD k 0) = true := by simpa using he
        generalize la.getD k 0 = x at *
        generalize lb.getD k 0 = y at *
        clear he
        go_wp2_with fail
        go_quiet (fail)
        go_wp2
        go_ret
        exact ⟨by rw [HE.out]; rfl, bdrewN hbl.out _⟩
    · have hkn : n ≤ k := by omega
      go_wp2
      go_ret
      exact ⟨by rw [beq_ints (HN.out.symm.trans HM.out) (fun j hj => heq.out j (by have := HN.out; omega))]; rfl, hbl.out⟩

theorem sameInts_any (va vb : Value) (la lb : List Int) (w : World) (ha : IsInts w va la) (hb : IsInts w vb lb) :
    Calls Try.prog 19 #[va, vb] w fun e w' => e = .returned (.bool (la == lb)) ∧ Below w.heap.size w w' := by
  obtain ⟨a, n, ca, rfl, hn, hn2, ha⟩ := ha
  obtain ⟨b, m, cb, rfl, hm, hm2, hb⟩ := hb
  by_cases hne : n = m
  · subst hne
    have hl : la.length = lb.length := by omega
    by_cases h0 : n = 0
    · subst h0
      obtain rfl : lb = [] := List.length_eq_zero_iff.1 hm.symm
      obtain rfl : la = [] := List.length_eq_zero_iff.1 hn.symm
      clear hl hm hm2 hn2 hb ha hn
      go_enter Try.func19, Try.ntmps19
      go_wp2
      refine wp_loop_rounds 1 ?_
      rw [rounds_succ]
      go_wp2
      go_ret
      exact ⟨rfl, Below.refl _ _⟩
    · rcases ha with rfl | ⟨ba, oa, rfl, ha⟩
      · exact absurd hn h0
      · rcases hb with rfl | ⟨bb, ob, rfl, hb⟩
        · exact absurd hm h0
        · exact sameInts_same ba oa ca bb ob cb n la lb w hn hm (by omega) (by rw [hn]; exact ha) (by rw [hm]; exact hb)
  · have HF : Hid ((la == lb) = false) := by
      show _ = _
      rw [beq_eq_false_iff_ne]; intro e; subst e; omega
    have hne2 : ((n : Int) != (m : Int)) = true := by simp; omega
    clear hne ha hb hn hm hm2 hn2
    go_enter Try.func19, Try.ntmps19
    go_wp2
    go_ret
    exact ⟨by rw [HF.out]; rfl, Below.refl _ _⟩

end Go.Proofs.Ytgdcgmnfgbdiiaa
