/- Helper facts for the statements of this seat; no statement itself. -/
import Derived.Test.YtlmdfanhimhlcaaE
import Derived.Test.YtlmdfanhimhlcaaComB
import Derived.Laws.OwnMore
import Derived.Outline
namespace Go.Proofs.Ytlmdfanhimhlcaa
open Go.RowKit Go.Shelf
set_option linter.unusedSimpArgs false
set_option linter.unusedVariables false
set_option linter.unnecessarySimpa false
attribute [local go_sem] Oper.semAt_some

/-- What Run gives. -/
def runL (b c : Int) (l : List Int) : List Bool := (List.range l.length).map fun j => awk b c l (j + 1)
def rnL (a b c : Int) (l : List Int) : List Bool := if snd a b c l = 0 then runL b c l else []
def Ran (a b c : Int) (l : List Int) (w : World) (e : Ending) (w' : World) : Prop := ∃ v, e = .returned (.tuple #[v, .int .i64 (snd a b c l)]) ∧ IsBools w' v (rnL a b c l) ∧ Below w.heap.size w w'
/-- The same where nothing is wrong, said sharper. -/
def RanG (b c : Int) (l : List Int) (w : World) (e : Ending) (w' : World) : Prop := ∃ g, e = .returned (.tuple #[.slice (some ⟨g, 0, none⟩) l.length l.length, .int .i64 0]) ∧ w'.heap[g]? = some (.cells (bC (runL b c l)) 4 (0, 0)) ∧ Below w.heap.size w w'
/-- The bools when these rounds are over. -/
def setF {N : Nat} (pre : List (Fin N × Bool)) : List Bool := pre.foldl (fun A x => A.set x.1 x.2) (List.replicate N false)
theorem setF_len {N : Nat} (pre : List (Fin N × Bool)) : (setF pre).length = N := by
  have : ∀ (l : List (Fin N × Bool)) (A : List Bool), (l.foldl (fun A x => A.set x.1 x.2) A).length = A.length := by
    intro l
    induction l with
    | nil => intro A; rfl
    | cons x l ih => intro A; rw [List.foldl_cons, ih, List.length_set]
  rw [setF, this, List.length_replicate]
theorem setF_snoc {N : Nat} (pre : List (Fin N × Bool)) (x : Fin N × Bool) : setF (pre ++ [x]) = (setF pre).set x.1 x.2 := by
  unfold setF; rw [List.foldl_append]; rfl
theorem setF_up (b c : Int) (zs : List Int) (k : Nat) (hk : k ≤ zs.length) (j : Nat) : (setF (upF zs.length (awP b c zs zs.length) k)).getD j false = if j < k then awk b c zs (j + 1) else false := by
  induction k with
  | zero => rw [upF_zero]; simp [setF, List.getD, List.getElem?_replicate]; split <;> rfl
  | succ k ih =>
    rw [upF_succ _ _ _ (by omega), setF_snoc]
    by_cases e : j = k
    · subst e
      rw [if_pos (by omega)]
      simp [List.getD, setF_len, show j < zs.length by omega]
    · have h1 : ((setF (upF zs.length (awP b c zs zs.length) k)).set k (awk b c zs (k + 1))).getD j false = (setF (upF zs.length (awP b c zs zs.length) k)).getD j false := by
        simp [List.getD, List.getElem?_set, Ne.symm e]
      have := ih (by omega)
      show ((setF (upF zs.length (awP b c zs zs.length) k)).set k (awk b c zs (k + 1))).getD j false = _
      rw [h1, this]
      by_cases h : j < k
      · rw [if_pos h, if_pos (by omega)]
      · rw [if_neg h, if_neg (by omega)]
theorem setF_all (b c : Int) (zs : List Int) : setF (upF zs.length (awP b c zs zs.length) zs.length) = runL b c zs := by
  refine List.ext_getElem (by rw [setF_len]; simp [runL]) (fun j h1 h2 => ?_)
  have h := setF_up b c zs zs.length (Nat.le_refl _) j
  rw [setF_len] at h1
  rw [if_pos h1] at h
  simp only [List.getD, List.getElem?_eq_getElem (show j < (setF (upF zs.length (awP b c zs zs.length) zs.length)).length by rw [setF_len]; exact h1), Option.getD_some] at h
  rw [h]
  simp [runL]
theorem make38 (n : Nat) (hn : n ≤ 400) (w : World) : (Instr.makeSlice 38 (.int .i64 (n : Int)) (.int .i64 (n : Int))).run Try.prog w = .ok (.slice (some ⟨w.heap.size, 0, none⟩) n n) (w.alloc (.cells (bC (List.replicate n false)) 4)) := by
  obtain ⟨i, hi, hz, hs, hb⟩ := info_parts infoBool
  rw [run_make w 38 4 i (.bool false) Try.underlying38 hi hz .i64 .i64 (n : Int) (n : Int) (by omega) (by omega) (by rw [hb]; omega) (by omega), hs]
  have e : madeCells (Value.bool false).cells ((n : Int).toNat * 1) = bC (List.replicate n false) := by
    apply Array.toList_inj.1
    have := toList_madeCells_one (Value.bool false) n
    simpa [bC, Value.cells] using this
  rw [e]
  simp
/-- A block below a place abides. -/
theorem ownFrom_heap {β : Type} {B g : Nat} (hg : g < B) (f : β → Obj) : OwnFrom B (fun (s : β) W => W.heap[g]? = some (f s)) := fun s W W' row hs hgr hr =>
  (hgr.block g (lt_of_some hs) (fun e => by have := (hr g e.symm).1; omega)).trans hs

set_option maxHeartbeats 1000000 in
theorem run_bad (a b c : Int) (v : Value) (zs : List Int) (w : World) (hs : snd a b c zs ≠ 0) (hi : IsInts w v zs) : Calls Try.prog 21 #[MV a b c, v] w (Ran a b c zs w) := by
  refine (callsIn_wide (n := 3)).1 ?_
  have h' : (snd a b c zs != 0) = true := by simpa using hs
  have HR : Hid (rnL a b c zs = []) := if_neg hs
  have HI := Lib.hid hi
  clear hs hi
  refine callsIn_of_wp_marks Try.func21 rfl trivial ?_ rfl
  simp only [Try.ntmps21, List.size_toArray, List.length_cons, List.length_nil, Nat.reduceAdd, Nat.reduceSub, Array.replicate_succ, Array.replicate_zero, List.push_toArray, List.append_toArray, List.nil_append, List.cons_append]
  gi_wp2_with fail
  refine ⟨trivial, ?_⟩
  refine (callsIn_wide.2 (sound_any a b c v zs _ (HI.out.keep ((Below.refl _ _).alloc (Nat.le_refl _) _)))).mono ?_
  rintro e w1 ⟨rfl, hb⟩
  have B1 := Lib.hid (btrans ((Below.refl _ _).alloc (Nat.le_refl _) _) hb)
  clear hb
  gi_wp2_with fail
  exact ⟨_, results_tmp2 rfl _ _ _, _, rfl, by rw [HR.out]; exact IsBools.nil _ _ _, B1.out⟩

set_option maxHeartbeats 2000000 in
theorem run_good (a b c : Int) (v : Value) (zs : List Int) (w : World) (hs : snd a b c zs = 0) (h4 : zs.length ≤ 400) (hi : IsInts w v zs) : Calls Try.prog 21 #[MV a b c, v] w (RanG b c zs w) := by
  refine (callsIn_wide (n := 3)).1 ?_
  have HS := Lib.hid hs
  have HI := Lib.hid hi
  obtain ⟨ad, len, cap, rfl, rfl, _, hcc⟩ := hi
  obtain ⟨b0, hb0, hb1⟩ : ∃ b0, b0 ≤ w.heap.size ∧ (zs ≠ [] → ∀ bx off len' cap', Value.slice ad zs.length cap = .slice (some ⟨bx, off, none⟩) len' cap' → bx = b0) := by
    rcases hcc with h | ⟨bx, off, rfl, hc⟩
    · exact ⟨w.heap.size, Nat.le_refl _, fun hz => absurd h hz⟩
    · by_cases hz : zs = []
      · exact ⟨w.heap.size, Nat.le_refl _, fun h => absurd hz h⟩
      · exact ⟨bx, Nat.le_of_lt (cell_lt (hc 0 (List.length_pos_iff.2 hz))), fun _ by_ off' l' c' e => by cases e; rfl⟩
  have HB1 := Lib.hid hb1
  clear hs hcc hb1
  have hmk := make38 zs.length h4
  refine callsIn_of_wp_marks Try.func21 rfl trivial ?_ rfl
  simp only [Try.ntmps21, List.size_toArray, List.length_cons, List.length_nil, Nat.reduceAdd, Nat.reduceSub, Array.replicate_succ, Array.replicate_zero, List.push_toArray, List.append_toArray, List.nil_append, List.cons_append]
  gi_wp2_with fail
  refine ⟨trivial, ?_⟩
  refine (callsIn_wide.2 (sound_any a b c _ zs _ (HI.out.keep ((Below.refl _ _).alloc (Nat.le_refl _) _)))).mono ?_
  rintro e w1 ⟨rfl, hb⟩
  rw [HS.out]
  have H0 := Lib.hid (bfirst _ _ hb)
  clear hb
  obtain ⟨q0, q1, q2⟩ := c3 H0.out.1
  have hl0 := lt_of_some H0.out.1
  gi_wp2_with fail
  refine ⟨trivial, ?_⟩
  refine (callsIn_wide.2 (states_any a b c _ _ _ _)).mono ?_
  rintro e w2 ⟨rfl, rfl⟩
  clear hmk
  gi_wp2_with fail
  obtain ⟨g, hg⟩ : ∃ x, x = w1.heap.size := ⟨_, rfl⟩
  obtain ⟨W0, hW0⟩ : ∃ x, x = (((w1.alloc (.cells (bC (List.replicate zs.length false)) 4)).alloc (.cells #[.slice (some ⟨w1.heap.size, 0, none⟩) zs.length zs.length] 38)).alloc (.cells (mC a b c) 23)).alloc (.cells #[.slice ad zs.length cap] 36) := ⟨_, rfl⟩
  have R0 : Hid (W0.heap[g]? = some (.cells (bC (List.replicate zs.length false)) 4 (0, 0))) := by rw [hW0, hg]; exact h4_0 _ _ _ _ _
  have S0 : Hid (W0.heap[g + 1]? = some (.cells #[.slice (some ⟨g, 0, none⟩) zs.length zs.length] 38 (0, 0))) := by rw [hW0, hg]; exact h4_1 _ _ _ _ _
  have M0 : Hid (W0.heap[g + 1 + 1]? = some (.cells (mC a b c) 23 (0, 0))) := by rw [hW0, hg]; exact h4_2 _ _ _ _ _
  have T0 : Hid (W0.heap[g + 1 + 1 + 1]? = some (.cells #[.slice ad zs.length cap] 36 (0, 0))) := by rw [hW0, hg]; exact h4_3 _ _ _ _ _
  have B0 : Hid (Below w.heap.size w W0) := by rw [hW0]; exact balloc (balloc (balloc (balloc H0.out.2 _) _) _) _
  rw [← hg] at hl0
  rw [← hW0, ← hg]
  have hsz := lt_of_some T0.out
  clear hW0 hg q0 q1 q2 H0
  refine wpIn_rangeFunc_ownG (F := Fence.wide) rfl (by omega) (gf := 46) (lb := #[.pointer (some ⟨g + 1 + 1 + 1, 0, none⟩), .pointer (some ⟨g + 1 + 1, 0, none⟩)]) rfl trivial (enters_of Try.func46 (by kernel_rfl) rfl)
    (states_stops 2 (by omega) (g + 1 + 1 + 1) (g + 1 + 1) (.slice ad zs.length cap) zs a b c W0 b0 h4 T0.out M0.out (HI.out.keep B0.out) HB1.out) KB.trans
    (fun W l o o' hl ho _ _ => ⟨World.putObj_heap_other (by omega), World.putObj_heap_other (by omega)⟩) (Below.refl _ _) (fun _ => rfl)
    (fun pre W => W.heap[g]? = some (.cells (bC (setF pre)) 4 (0, 0)) ∧ W.heap[g + 1]? = some (.cells #[.slice (some ⟨g, 0, none⟩) zs.length zs.length] 38 (0, 0)) ∧ Below w.heap.size w W)
    (fun _ _ _ => False)
    (OwnFrom.and (ownFrom_heap (by omega) _) (OwnFrom.and (ownFrom_heap (by omega) _) (ownFrom_below (Nat.le_refl _) (by have := B0.out.size; omega))))
    (fun _ _ _ _ _ hs _ _ => hs)
    ⟨R0.out, S0.out, B0.out⟩
    (fun x => { tmps := #[MV a b c, .slice ad zs.length cap, .pointer (some ⟨w.heap.size, 0, none⟩), undef, .slice none 0 0, .int .i64 0, .int .i64 0, .pointer (some ⟨g + 1, 0, none⟩), .int .i64 ((x.1 : Nat) : Int), .bool x.2, .agg #[.int .i64 a, .int .i64 b, .int .i64 c], .slice ad zs.length cap, .int .i64 0, .int .i64 0, .bool false, undef, .slice ad zs.length cap, .int .i64 (zs.length : Int), .slice (some ⟨g, 0, none⟩) zs.length zs.length, .agg #[.int .i64 a, .int .i64 b, .int .i64 c], .slice ad zs.length cap, .func (.func 46) #[] #[.pointer (some ⟨g + 1 + 1 + 1, 0, none⟩), .pointer (some ⟨g + 1 + 1, 0, none⟩)], .int .i64 ((x.1 : Nat) : Int), .bool x.2, undef, undef, undef, undef, undef], defers := [] }) ?assign ?body ?done ?stop
  case assign =>
    intro l x W K hK
    gi_wp2
    exact hK
  case body =>
    rintro l pre x W ⟨hr, hs, hB⟩ hlt
    have hr' := Lib.hid hr
    have hs' := Lib.hid hs
    obtain ⟨⟨j, hj⟩, y⟩ := x
    have cb := bC_cell hr j (by rw [setF_len]; exact hj)
    have fb := fr (j := j) hr
    have cs := c1 hs
    have i1 : (0 : Int) ≤ (j : Int) := by omega
    have i2 : (j : Int) < (zs.length : Int) := by omega
    clear hr hs
    gi_wp2
    refine ⟨(KeepsOthers.setCell _ _ _).from _, ⟨heap_setCell_other _ _ _ _ (by simp only []; omega), heap_setCell_other _ _ _ _ (by simp only []; omega)⟩, ?_, heapS hs'.out _ _ (by simp only []; omega), hB.setCell (by simp only []; omega) _⟩
    rw [bC_store hr'.out, setF_snoc]
    exact setRow_heap _ _ _ _ _ _ hr'.out
  case done =>
    rintro D ys W hD rfl ⟨hr, hs, hB⟩ hK
    have cs := c1 hs
    gi_wp2
    refine ⟨by simp, .inl ⟨_, _, rfl, run_takeDeferred hK, ?_⟩⟩
    have hr2 : (W.putObj D (.deferred none)).heap[g]? = some (.cells (bC (setF (upF zs.length (awP b c zs zs.length) zs.length))) 4 (0, 0)) := (World.putObj_heap_other (by omega)).trans hr
    rw [setF_all] at hr2
    exact ⟨_, results_tmp2 rfl _ _ _, g, rfl, hr2, hB.trans (belowK_b (w := W0) B0.out.size W D _ _ hD hK rfl rfl)⟩
  case stop =>
    rintro D c pre W _ _ h _
    exact h.elim
theorem RanG.ran {a b c : Int} {l : List Int} {w : World} {e : Ending} {w' : World} (hs : snd a b c l = 0) (h4 : l.length ≤ 400) (h : RanG b c l w e w') : Ran a b c l w e w' := by
  obtain ⟨g, rfl, hg, hb⟩ := h
  refine ⟨_, by rw [hs], ?_, hb⟩
  have : rnL a b c l = runL b c l := if_pos hs
  rw [this]
  refine ⟨_, _, _, rfl, by simp [runL], by simp [runL]; omega, .inr ⟨g, 0, rfl, fun k hk => ?_⟩⟩
  rw [Nat.zero_add]
  exact bC_cell hg k hk
end Go.Proofs.Ytlmdfanhimhlcaa
