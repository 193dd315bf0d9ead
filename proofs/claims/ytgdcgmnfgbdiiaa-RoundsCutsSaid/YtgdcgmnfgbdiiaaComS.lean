/- Whole structs and arrays loaded and stored inside a fence: helper facts, no statement of the seat. -/
import Derived.Test.YtgdcgmnfgbdiiaaComR
namespace Go.Proofs.Ytgdcgmnfgbdiiaa
open Go.RowKit Go.Shelf
set_option linter.unusedSimpArgs false
set_option linter.unusedVariables false
set_option linter.unnecessarySimpa false
section
variable {F : Fence} {n : Nat} {P : Program} {ops : Array Oper} {rest : List Oper} {o : Oper} {a : Act} {w : World} {Q : Exit → Act → World → Prop}
theorem load_rowIn (hgd : o.guard = none) (ty : TypeId) (x : Operand) (ho : o.op = .load ty x) (g : Nat) (hx : a.eval x = .pointer (some ⟨g, 0, none⟩)) (t : TypeId) (cs : Array Value) (d : TypeDesc) (hg : w.heap[g]? = some (.cells cs t (0, 0)))
    (hu : P.underlying ty = some d) (hd : (match d with | .struct _ | .array _ _ => true | _ => false) = true) (hi : (P.info? ty).map (·.size) = some cs.size) (h : wpListIn F n P ops Q rest (a.put o.dst (.agg cs)) w) : wpListIn F n P ops Q (o :: rest) a w := by
  refine wpListIn_plain hgd fun K hK => ?_
  refine ⟨fun f hf => by simp [Oper.about, ho] at hf, ?_⟩
  rw [Oper.semAt_plain F _ _ (by rw [ho]; intro c hc'; cases hc')]
  unfold execOp
  simp only [ho, hx, Instr.loadAt, Instr.sureAddr, Sem.run_bind, Sem.run_pure, Result.andThen_ok, run_loadVar_row w g t ty cs (0, 0) d hg hu hd hi]
  exact hK _ _ h
theorem store_rowIn (hgd : o.guard = none) (ty : TypeId) (x y : Operand) (ho : o.op = .store ty x y) (g : Nat) (cells : Array Value) (hx : a.eval x = .pointer (some ⟨g, 0, none⟩)) (hy : a.eval y = .agg cells)
    (t : TypeId) (old : Array Value) (hg : w.heap[g]? = some (.cells old t (0, 0))) (hi : (P.info? ty).map (·.size) = some cells.size)
    (hold : old.size = cells.size) (h1 : cells.all (·.oneCell') = true)
    (h : wpListIn F n P ops Q rest (a.put o.dst undef) (w.setRow g cells)) : wpListIn F n P ops Q (o :: rest) a w := by
  refine wpListIn_plain hgd fun K hK => ?_
  refine ⟨fun f hf => by simp [Oper.about, ho] at hf, ?_⟩
  rw [Oper.semAt_plain F _ _ (by rw [ho]; intro c hc'; cases hc')]
  unfold execOp
  simp only [ho, hx, hy, Instr.storeAt, Instr.sureAddr, Sem.run_bind, Sem.run_pure, Result.andThen_ok, run_storeVar_row w g t ty old cells hg hi hold h1]
  exact hK _ _ h
theorem store_rowInN {W : World} (hgd : o.guard = none) (ty : TypeId) (x y : Operand) (ho : o.op = .store ty x y) (cells : Array Value) (hx : a.eval x = .pointer (some ⟨W.heap.size, 0, none⟩)) (hy : a.eval y = .agg cells)
    (t : TypeId) (old : Array Value) (hi : (P.info? ty).map (·.size) = some cells.size)
    (hold : old.size = cells.size) (h1 : cells.all (·.oneCell') = true)
    (h : wpListIn F n P ops Q rest (a.put o.dst undef) (W.alloc (.cells cells t))) : wpListIn F n P ops Q (o :: rest) a (W.alloc (.cells old t)) :=
  store_rowIn hgd ty x y ho W.heap.size cells hx hy t old (h1_0 _ _) hi hold h1 (by rw [World.setRow_alloc_new]; exact h)
end
/-- Nothing that lay has changed but rows of integers. -/
def OnlyI (W W' : World) : Prop := W.heap.size ≤ W'.heap.size ∧ ∀ (k : Nat) (o : Obj), W.heap[k]? = some o → (∀ cs fz, o ≠ .cells cs 3 fz) → W'.heap[k]? = some o
theorem OnlyI.others {W W' : World} (h : OnlyI W W') : KeepsOthers W W' := ⟨h.1, fun k o hk ho => h.2 k o hk (fun cs fz e => by subst e; cases ho)⟩
theorem OnlyI.kt {W W' : World} (h : OnlyI W W') (ty : TypeId) (hne : ty ≠ 3) : KT ty W W' := fun k cs fz hk => h.2 k _ hk (fun cs fz e => by cases e; exact hne rfl)
theorem OnlyI.heap {W W' : World} (h : OnlyI W W') {g t : Nat} {cs : Array Value} (hg : W.heap[g]? = some (.cells cs t (0, 0))) (hne : t ≠ 3) : W'.heap[g]? = some (.cells cs t (0, 0)) := h.2 _ _ hg (fun cs fz e => by cases e; exact hne rfl)
/-- append of one integer, inside a fence. -/
theorem append_intIn {F : Fence} {n : Nat} {ops : Array Oper} {rest : List Oper} {o : Oper} {a : Act} {W : World} {Q : Exit → Act → World → Prop} (hgd : o.guard = none) (s x : Operand)
    (ho : o.op = .call { callee := .builtin .append, args := #[s, x], argTypes := #[22, 22] }) (base : Nat) (v : Value) (l : List Int) (y : Int) (ty : TypeId)
    (hs : a.eval s = v) (hx : a.eval x = .slice (some ⟨W.heap.size, 0, none⟩) 1 1) (hown : Hid (Own W base v l)) (hl : l.length < 4294967296) (hbase : base ≤ W.heap.size)
    (h : ∀ v' w', Hid (Own w' base v' (l ++ [y])) → Hid (OnlyI W w') → Hid (Below base W w') → (∃ g c, v' = .slice (some ⟨g, 0, none⟩) (l.length + 1) c) → wpListIn F n Try.prog ops Q rest (a.put o.dst v') w') : wpListIn F n Try.prog ops Q (o :: rest) a (W.alloc (.cells #[.int .i64 y] ty)) := by
  obtain ⟨i, hi, hz, hs1, hby⟩ := info_parts infoInt
  refine wpListIn_append_own (W.alloc (.cells #[.int .i64 y] ty)) hgd s x 22 ho base 3 i (.int .i64 0) 1 8 Try.underlying22 hi hz hs1 hby rfl (by decide) v l.length (l.map (Value.int .i64)) hs (World.ownsRow.alloc hown.out _)
    ⟨W.heap.size, 0, none⟩ 1 1 [.int .i64 y] hx rfl ?_ ?_ ?_ ?_ ?_ ?_
  · intro j u hj
    have : j = 0 := by
      have := (List.getElem?_eq_some_iff.1 hj).1
      simp at this; omega
    subst this
    simp at hj; subst hj
    exact setRow_cell (t := ty) (h1_0 W _) rfl
  · intro u hu; simp at hu; subst hu; rfl
  · simp only [maxLen]; omega
  · omega
  · simp only [World.size_alloc] <;> omega
  · intro v' w' h1 h2 h3
    refine h v' w' ?_ ?_ ?_ ?_
    · show w'.ownsRow _ _ _ _ _ _
      simpa using h1
    · refine ⟨by have := h2.size; simp only [World.size_alloc] at this; omega, fun k o hk hne => ?_⟩
      refine (h2.block k (by have := lt_of_some hk; simp only [World.size_alloc]; omega) ?_).trans (hold1 hk _)
      intro e
      rcases hown.out.2 with ⟨e0, _⟩ | ⟨g, cap, cur, e0, _, hg, _⟩
      · rw [e0] at e; cases e
      · rw [e0] at e
        have e : some k = some g := e
        cases e
        rw [hk] at hg
        cases hg
        exact hne _ _ rfl
    · exact Below.grown (Below.alloc (Below.refl _ _) hbase _) h2 (by simp only [World.size_alloc] <;> omega) (fun k hk => (World.ownsRow.lt hown.out k hk).1)
    · obtain ⟨_, ⟨e0, e1⟩ | ⟨g, cap, cur, e0, _⟩⟩ := h1
      · omega
      · exact ⟨g, cap, e0⟩
end Go.Proofs.Ytgdcgmnfgbdiiaa
