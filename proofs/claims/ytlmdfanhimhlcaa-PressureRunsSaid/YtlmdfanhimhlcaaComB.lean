/- Helper facts for the statements of this seat; no statement itself. -/
import Derived.Test.YtlmdfanhimhlcaaComH
namespace Go.Proofs.Ytlmdfanhimhlcaa
open Go.RowKit
set_option linter.unusedSimpArgs false
set_option linter.unusedVariables false
set_option linter.unnecessarySimpa false

/-- Nothing that lay has changed but one block. -/
def But (g : Nat) (w w' : World) : Prop := w'.os = w.os ∧ w'.tape = w.tape ∧ w'.output = w.output ∧ w.heap.size ≤ w'.heap.size ∧ ∀ k, k < w.heap.size → k ≠ g → w'.heap[k]? = w.heap[k]?
theorem But.os {g : Nat} {w w' : World} (h : But g w w') : w'.os = w.os := h.1
theorem But.tape {g : Nat} {w w' : World} (h : But g w w') : w'.tape = w.tape := h.2.1
theorem But.output {g : Nat} {w w' : World} (h : But g w w') : w'.output = w.output := h.2.2.1
theorem But.size {g : Nat} {w w' : World} (h : But g w w') : w.heap.size ≤ w'.heap.size := h.2.2.2.1
theorem But.block {g : Nat} {w w' : World} (h : But g w w') : ∀ k, k < w.heap.size → k ≠ g → w'.heap[k]? = w.heap[k]? := h.2.2.2.2
theorem But.refl (g : Nat) (w : World) : But g w w := ⟨rfl, rfl, rfl, Nat.le_refl _, fun _ _ _ => rfl⟩
theorem But.trans {g : Nat} {a b c : World} (h : But g a b) (k : But g b c) : But g a c :=
  ⟨k.os.trans h.os, k.tape.trans h.tape, k.output.trans h.output, Nat.le_trans h.size k.size, fun i hi hg => (k.block i (Nat.lt_of_lt_of_le hi h.size) hg).trans (h.block i hi hg)⟩
theorem But.of {g : Nat} {w w' : World} (h : Below w.heap.size w w') : But g w w' := ⟨h.os, h.tape, h.output, h.size, fun k hk _ => h.block k hk⟩
theorem But.alloc {g : Nat} {w w' : World} (h : But g w w') (o : Obj) : But g w (w'.alloc o) := h.trans (But.of ((Below.refl _ _).alloc (Nat.le_refl _) _))
theorem But.drew {g : Nat} {w w' : World} (h : But g w w') : But g w w'.drew := h.trans (But.of (Below.refl _ _).drew)
theorem But.row (g : Nat) (w : World) (cs : Array Value) : But g w (w.setRow g cs) := ⟨rfl, rfl, rfl, by simp, fun k _ hg => setRow_other w g k cs hg⟩
theorem But.below {g B : Nat} {w w' : World} (h : But g w w') (hB : B ≤ g) (hw : B ≤ w.heap.size) : Below B w w' := ⟨h.os, h.tape, h.output, h.size, fun k hk => h.block k (by omega) (by omega)⟩
theorem But.heap {g k : Nat} {w w' : World} {o : Obj} (h : But g w w') (hk : w.heap[k]? = some o) (hg : k ≠ g) : w'.heap[k]? = some o := (h.block k (lt_of_some hk) hg).trans hk
theorem But.cell {g : Nat} {w w' : World} {a : Addr} {v : Value} (h : But g w w') (hc : w.cell? a = some v) (hg : a.block ≠ g) : w'.cell? a = some v := by
  rw [World.cell?_of_block (w := w) (h.block a.block (cell_lt hc) hg)]; exact hc

/-- Cells of bools. -/
def bC (A : List Bool) : Array Value := (A.map Value.bool).toArray
theorem bC_size (A : List Bool) : (bC A).size = A.length := by simp [bC]
theorem bC_get (A : List Bool) (k : Nat) (h : k < A.length) : (bC A)[k]? = some (.bool (A.getD k false)) := by simp [bC, List.getD, h]
theorem bC_set (A : List Bool) (k : Nat) (b : Bool) : (bC A).setIfInBounds k (.bool b) = bC (A.set k b) := by simp [bC, List.map_set]
theorem bC_cell {w : World} {g : Nat} {t : TypeId} {A : List Bool} (h : w.heap[g]? = some (.cells (bC A) t (0, 0))) (k : Nat) (hk : k < A.length) : w.cell? ⟨g, k, none⟩ = some (.bool (A.getD k false)) := setRow_cell h (bC_get A k hk)
theorem bC_store {w : World} {g : Nat} {t : TypeId} {A : List Bool} (h : w.heap[g]? = some (.cells (bC A) t (0, 0))) (k : Nat) (b : Bool) : w.setCell ⟨g, k, none⟩ (.bool b) = w.setRow g (bC (A.set k b)) := by
  rw [setCell_eq_setRow w g k _ t (0, 0) _ h, bC_set]
theorem bC_far {w : World} {g : Nat} {t : TypeId} {A : List Bool} (h : w.heap[g]? = some (.cells (bC A) t (0, 0))) {b o : Nat} {n : Int} (hc : w.cell? ⟨b, o, none⟩ = some (.int .i64 n)) : b ≠ g := by
  intro e
  subst e
  rw [cell_of_row w b o (bC A) t (0, 0) h] at hc
  unfold bC at hc
  simp at hc

/-- The value is a slice whose elements are these bools. -/
def IsBools (w : World) (v : Value) (l : List Bool) : Prop :=
  ∃ a len cap, v = .slice a len cap ∧ len = l.length ∧ l.length ≤ 4294967296 ∧ (l = [] ∨ ∃ b off, a = some ⟨b, off, none⟩ ∧ ∀ k, k < l.length → w.cell? ⟨b, off + k, none⟩ = some (.bool (l.getD k false)))

theorem IsBools.keep {w w' : World} {v : Value} {l : List Bool} (h : IsBools w v l) (hb : Below w.heap.size w w') : IsBools w' v l := by
  obtain ⟨a, len, cap, h1, h2, h0, h3⟩ := h
  refine ⟨a, len, cap, h1, h2, h0, ?_⟩
  rcases h3 with h3 | ⟨b, off, h3, h4⟩
  · exact .inl h3
  · exact .inr ⟨b, off, h3, fun k hk => by
      have := h4 k hk
      rw [hb.cell (p := ⟨b, off + k, none⟩) (cell_lt this)]; exact this⟩

theorem IsBools.nil (w : World) (a : Option Addr) (cap : Nat) : IsBools w (.slice a 0 cap) [] := ⟨a, 0, cap, rfl, rfl, by simp, .inl rfl⟩

/-- A slice of the call's own that holds these bools. -/
def OwnBs (w : World) (base : Nat) (v : Value) (l : List Bool) : Prop := w.ownsRow base 4 1 v l.length (l.map Value.bool)
theorem OwnBs.bools {w : World} {base : Nat} {v : Value} {l : List Bool} (h : OwnBs w base v l) (hl : l.length ≤ 4294967296) : IsBools w v l := by
  obtain ⟨_, h | ⟨g, cap, cur, hv, _, hg, _, _, _, ht⟩⟩ := h
  · obtain ⟨rfl, h0⟩ := h
    have : l = [] := List.length_eq_zero_iff.1 h0
    subst this
    exact IsBools.nil _ _ _
  · refine ⟨_, _, _, hv, rfl, hl, .inr ⟨g, 0, rfl, fun k hk => ?_⟩⟩
    rw [cell_of_row w g (0 + k) cur _ (0, 0) hg]
    have h2 : (cur.toList.take (l.length * 1))[k]? = some (.bool (l.getD k false)) := by rw [ht]; simp [hk]
    rw [List.getElem?_take] at h2
    simpa [hk] using h2
theorem OwnBs.nil (w : World) (base : Nat) : OwnBs w base (.slice none 0 0) [] := World.ownsRow_nil w base _ 1
theorem OwnBs.alloc {w : World} {base : Nat} {v : Value} {l : List Bool} (h : OwnBs w base v l) (o : Obj) : OwnBs (w.alloc o) base v l := World.ownsRow.alloc h o
theorem OwnBs.keep {w w' : World} {base : Nat} {v : Value} {l : List Bool} (h : OwnBs w base v l) (hb : Below w.heap.size w w') : OwnBs w' base v l := by
  obtain ⟨h1, h2 | ⟨g, cap, cur, hv, h3, hg, h4⟩⟩ := h
  · exact ⟨h1, .inl h2⟩
  · exact ⟨h1, .inr ⟨g, cap, cur, hv, h3, bkeep hb hg, h4⟩⟩
theorem Own.keep {w w' : World} {base : Nat} {v : Value} {l : List Int} (h : Own w base v l) (hb : Below w.heap.size w w') : Own w' base v l := by
  obtain ⟨h1, h2 | ⟨g, cap, cur, hv, h3, hg, h4⟩⟩ := h
  · exact ⟨h1, .inl h2⟩
  · exact ⟨h1, .inr ⟨g, cap, cur, hv, h3, bkeep hb hg, h4⟩⟩
theorem infoBool : (Try.prog.info? 4).map (fun i => (i.zero, i.size, i.bytes)) = some (some (.bool false), 1, 1) := by kernel_rfl
/-- append of one bool to such a slice. -/
theorem append_bool {ops : Array Oper} {rest : List Oper} {o : Oper} {a : Act} {W : World} {Q : Exit → Act → World → Prop} (hgd : o.guard = none) (s x : Operand)
    (ho : o.op = .call { callee := .builtin .append, args := #[s, x], argTypes := #[38, 38] }) (base : Nat) (v : Value) (l : List Bool) (y : Bool) (ty : TypeId) (z : Nat) (hzz : W.heap.size = z)
    (hs : a.eval s = v) (hx : a.eval x = .slice (some ⟨z, 0, none⟩) 1 1) (hown : Hid (OwnBs W base v l)) (hl : l.length < 4294967296) (hbase : base ≤ W.heap.size)
    (h : ∀ v' w', Hid (OwnBs w' base v' (l ++ [y])) → Hid (Below base W w') → wpList Try.prog ops Q rest (a.put o.dst v') w') : wpList Try.prog ops Q (o :: rest) a (W.alloc (.cells #[.bool y] ty)) := by
  subst hzz
  obtain ⟨i, hi, hz, hs1, hby⟩ := info_parts infoBool
  refine wpList_append_own (W.alloc (.cells #[.bool y] ty)) hgd s x 38 ho base 4 i (.bool false) 1 1 Try.underlying38 hi hz hs1 hby rfl (by decide) v l.length (l.map Value.bool) hs (World.ownsRow.alloc hown.out _)
    ⟨W.heap.size, 0, none⟩ 1 1 [.bool y] hx rfl ?_ ?_ ?_ ?_ ?_ ?_
  · intro j u hj
    have : j = 0 := by
      have := (List.getElem?_eq_some_iff.1 hj).1
      simp at this; omega
    subst this
    simp at hj; subst hj
    exact setRow_cell (t := ty) (h1_0 W _) rfl
  · intro u hu; simp at hu; subst hu; rfl
  · simp only [maxLen]; omega
  · omega
  · simp only [World.size_alloc] <;> omega
  · intro v' w' h1 h2 _
    refine h v' w' ?_ ?_
    · show w'.ownsRow _ _ _ _ _ _
      simpa using h1
    · exact Below.grown (Below.alloc (Below.refl _ _) hbase _) h2 (by simp only [World.size_alloc] <;> omega) (fun k hk => (World.ownsRow.lt hown.out k hk).1)
/-- append of one integer, the size of the heap spelt otherwise. -/
theorem append_intz {ops : Array Oper} {rest : List Oper} {o : Oper} {a : Act} {W : World} {Q : Exit → Act → World → Prop} (hgd : o.guard = none) (s x : Operand)
    (ho : o.op = .call { callee := .builtin .append, args := #[s, x], argTypes := #[36, 36] }) (base : Nat) (v : Value) (l : List Int) (y : Int) (ty : TypeId) (z : Nat) (hzz : W.heap.size = z)
    (hs : a.eval s = v) (hx : a.eval x = .slice (some ⟨z, 0, none⟩) 1 1) (hown : Hid (Own W base v l)) (hl : l.length < 4294967296) (hbase : base ≤ W.heap.size)
    (h : ∀ v' w', Hid (Own w' base v' (l ++ [y])) → Hid (Below base W w') → wpList Try.prog ops Q rest (a.put o.dst v') w') : wpList Try.prog ops Q (o :: rest) a (W.alloc (.cells #[.int .i64 y] ty)) := by
  subst hzz
  exact append_int hgd s x ho base v l y ty hs hx hown hl hbase h

theorem beq_bools {la lb : List Bool} (hl : la.length = lb.length) (h : ∀ j, j < la.length → la.getD j false = lb.getD j false) : (la == lb) = true := by
  rw [beq_iff_eq]
  refine List.ext_getElem hl (fun j h1 h2 => ?_)
  have := h j h1
  simpa [List.getD, h1, h2] using this
theorem beq_bools_ne {la lb : List Bool} {j : Nat} (h : la.getD j false ≠ lb.getD j false) : (la == lb) = false := by
  rw [beq_eq_false_iff_ne]; intro e; subst e; exact h rfl

set_option maxHeartbeats 400000 in
theorem sameBools_same (ba oa ca bb ob cb n : Nat) (la lb : List Bool) (w : World) (hn : n = la.length) (hm : n = lb.length) (hn2 : n ≤ 4294967296)
    (ha : ∀ k, k < n → w.cell? ⟨ba, oa + k, none⟩ = some (.bool (la.getD k false))) (hb : ∀ k, k < n → w.cell? ⟨bb, ob + k, none⟩ = some (.bool (lb.getD k false))) :
    Calls Try.prog 22 #[.slice (some ⟨ba, oa, none⟩) n ca, .slice (some ⟨bb, ob, none⟩) n cb] w fun e w' => e = .returned (.bool (la == lb)) ∧ Below w.heap.size w w' := by
  have HA := Lib.hid ha
  have HB := Lib.hid hb
  have HN := Lib.hid hn
  have HM := Lib.hid hm
  clear ha hb hn hm
  have hnn : ((n : Int) != (n : Int)) = false := by simp
  go_enter Try.func22, Try.ntmps22
  go_wp2
  go_loopw [5] (fun i wr => ∃ k : Nat, k ≤ n ∧ i = .int .i64 k ∧ Hid (∀ j, j < k → la.getD j false = lb.getD j false) ∧ Hid (Below w.heap.size w wr)) (fun i _ => n - (intOf i).toNat)
  case atStart => exact ⟨0, by omega, rfl, fun j hj => by omega, Below.refl _ _⟩
  case round =>
    obtain ⟨k, hk, rfl, heq, hbl⟩ := hrel
    by_cases hlt : k < n
    · have c1 : wr.cell? ⟨ba, oa + k, none⟩ = _ := (hbl.out.cell (cell_lt (HA.out k hlt))).trans (HA.out k hlt)
      have c2 : wr.cell? ⟨bb, ob + k, none⟩ = _ := (hbl.out.cell (cell_lt (HB.out k hlt))).trans (HB.out k hlt)
      have i1 : (0 : Int) ≤ (k : Int) := by omega
      have i2 : (k : Int) < (n : Int) := by omega
      by_cases he : la.getD k false = lb.getD k false
      · have HE := Lib.hid he
        rw [he] at c1
        clear he
        obtain ⟨y, hy⟩ : ∃ y, y = lb.getD k false := ⟨_, rfl⟩
        rw [← hy] at c1 c2
        clear hy
        have hyy : (y != y) = false := by simp
        go_wp2_with fail
        go_quiet (fail)
        go_wp2
        go_roundw
        case rel => exact ⟨k + 1, by omega, by go_num, fun j hj => by
          by_cases e : j = k
          · subst e; exact HE.out
          · exact heq.out j (by omega), bdrewN hbl.out _⟩
        case measure => simp [intOf]; omega
      · have HE := Lib.hid (beq_bools_ne he)
        have hyy : (la.getD k false != lb.getD k false) = true := by simpa using he
        generalize la.getD k false = x at *
        generalize lb.getD k false = y at *
        clear he
        cases x <;> cases y
        · simp at hyy
        · clear hyy
          go_wp2_with fail
          go_quiet (fail)
          go_wp2
          go_ret
          exact ⟨by rw [HE.out]; rfl, bdrewN hbl.out _⟩
        · clear hyy
          go_wp2_with fail
          go_quiet (fail)
          go_wp2
          go_ret
          exact ⟨by rw [HE.out]; rfl, bdrewN hbl.out _⟩
        · simp at hyy
    · have hkn : n ≤ k := by omega
      go_wp2
      go_ret
      exact ⟨by rw [beq_bools (HN.out.symm.trans HM.out) (fun j hj => heq.out j (by have := HN.out; omega))]; rfl, hbl.out⟩

theorem sameBools_any (va vb : Value) (la lb : List Bool) (w : World) (ha : IsBools w va la) (hb : IsBools w vb lb) :
    Calls Try.prog 22 #[va, vb] w fun e w' => e = .returned (.bool (la == lb)) ∧ Below w.heap.size w w' := by
  obtain ⟨a, n, ca, rfl, hn, hn2, ha⟩ := ha
  obtain ⟨b, m, cb, rfl, hm, hm2, hb⟩ := hb
  by_cases hne : n = m
  · subst hne
    have hl : la.length = lb.length := by omega
    by_cases h0 : n = 0
    · subst h0
      obtain rfl : lb = [] := List.length_eq_zero_iff.1 hm.symm
      obtain rfl : la = [] := List.length_eq_zero_iff.1 hn.symm
      clear hl hm hm2 hn2 hb ha hn
      go_enter Try.func22, Try.ntmps22
      go_wp2
      refine wp_loop_rounds 1 ?_
      rw [rounds_succ]
      go_wp2
      go_ret
      exact ⟨rfl, Below.refl _ _⟩
    · rcases ha with rfl | ⟨ba, oa, rfl, ha⟩
      · exact absurd hn h0
      · rcases hb with rfl | ⟨bb, ob, rfl, hb⟩
        · exact absurd hm h0
        · exact sameBools_same ba oa ca bb ob cb n la lb w hn hm (by omega) (by rw [hn]; exact ha) (by rw [hm]; exact hb)
  · have HF : Hid ((la == lb) = false) := by
      show _ = _
      rw [beq_eq_false_iff_ne]; intro e; subst e; omega
    have hne2 : ((n : Int) != (m : Int)) = true := by simp; omega
    clear hne ha hb hn hm hm2 hn2
    go_enter Try.func22, Try.ntmps22
    go_wp2
    go_ret
    exact ⟨by rw [HF.out]; rfl, Below.refl _ _⟩

end Go.Proofs.Ytlmdfanhimhlcaa
