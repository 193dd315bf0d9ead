/- Helper facts for the statements of this seat; no statement itself. -/
import Derived.Test.YtlmdfanhimhlcaaM
import Derived.Outline
namespace Go.Proofs.Ytlmdfanhimhlcaa
open Go.RowKit Go.Shelf
set_option linter.unusedSimpArgs false
set_option linter.unusedVariables false
set_option linter.unnecessarySimpa false
attribute [local go_sem] Oper.semAt_some

theorem snocInd {α : Type} {P : List α → Prop} (h0 : P []) (hs : ∀ l x, P l → P (l ++ [x])) (l : List α) : P l := by
  have : ∀ n, ∀ l : List α, l.length = n → P l := by
    intro n
    induction n with
    | zero => intro l hl; rw [List.length_eq_zero_iff.1 hl]; exact h0
    | succ n ih =>
      intro l hl
      have hne : l ≠ [] := by intro e; rw [e] at hl; cases hl
      rw [← List.dropLast_concat_getLast hne]
      exact hs _ _ (ih _ (by simp; omega))
  exact this _ l rfl
/-- The spans and the flag that these numbers leave. -/
def spF {N : Nat} (pre : List (Fin N × Bool)) : List (Int × Int) × Bool := pre.foldl (fun st x => (stp st.1 st.2 ((x.1 : Nat) : Int) x.2, x.2)) ([], false)
theorem spF_snoc {N : Nat} (pre : List (Fin N × Bool)) (x : Fin N × Bool) : spF (pre ++ [x]) = (stp (spF pre).1 (spF pre).2 ((x.1 : Nat) : Int) x.2, x.2) := by simp [spF, List.foldl_append]
theorem spF_up (b c : Int) (zs : List Int) (k : Nat) (hk : k ≤ zs.length) : spF (upF zs.length (awP b c zs zs.length) k) = (spK b c zs k, awk b c zs k) := by
  induction k with
  | zero => rw [upF_zero]; rfl
  | succ k ih => rw [upF_succ _ _ _ (by omega), spF_snoc, ih (by omega)]; rfl
theorem spF_len {N : Nat} (pre : List (Fin N × Bool)) : (spF pre).1.length ≤ pre.length := by
  refine snocInd (P := fun pre => (spF pre).1.length ≤ pre.length) (Nat.le_refl _) (fun l x ih => ?_) pre
  · rw [spF_snoc, List.length_append]
    have := stp_len (spF l).1 (spF l).2 ((x.1 : Nat) : Int) x.2
    show (stp _ _ _ _).length ≤ _
    simp only [List.length_cons, List.length_nil]
    omega
theorem spF_ne {N : Nat} (pre : List (Fin N × Bool)) (h : (spF pre).2 = true) : (spF pre).1 ≠ [] := by
  revert h
  refine snocInd (P := fun pre => (spF pre).2 = true → (spF pre).1 ≠ []) (fun h => by cases h) (fun l x ih h => ?_) pre
  · rw [spF_snoc] at h ⊢
    obtain ⟨i, y⟩ := x
    simp only [] at h
    subst h
    exact stp_ne _ _ _ ih
/-- What Spans gives. -/
def spL (a b c : Int) (l : List Int) : List (Int × Int) := if snd a b c l = 0 then spK b c l l.length else []
def Spd (a b c : Int) (l : List Int) (w : World) (e : Ending) (w' : World) : Prop := ∃ v, e = .returned (.tuple #[v, .int .i64 (snd a b c l)]) ∧ IsSps w' v (spL a b c l) ∧ Below w.heap.size w w'

theorem h5_k {w : World} {k : Nat} {o o4 : Obj} {o0 o1 o2 o3 : Obj} (h : ((((w.alloc o0).alloc o1).alloc o2).alloc o3).heap[k]? = some o) : (((((w.alloc o0).alloc o1).alloc o2).alloc o3).alloc o4).heap[k]? = some o := hold1 h _
theorem h5_4 (w : World) (o0 o1 o2 o3 o4 : Obj) : (((((w.alloc o0).alloc o1).alloc o2).alloc o3).alloc o4).heap[w.heap.size + 1 + 1 + 1 + 1]? = some o4 := by
  have := h1_0 ((((w.alloc o0).alloc o1).alloc o2).alloc o3) o4
  simpa only [World.size_alloc] using this

set_option maxHeartbeats 1000000 in
theorem spans_bad (a b c : Int) (v : Value) (zs : List Int) (w : World) (hs : snd a b c zs ≠ 0) (hi : IsInts w v zs) : Calls Try.prog 24 #[MV a b c, v] w (Spd a b c zs w) := by
  have hz : (snd a b c zs == 0) = false := by simpa using hs
  have HR : Hid (spL a b c zs = []) := if_neg hs
  have HI := Lib.hid hi
  obtain ⟨ad, len, cap, rfl, rfl, _, _⟩ := hi
  refine (callsIn_wide (n := 3)).1 ?_
  refine callsIn_of_wp_marks Try.func24 rfl trivial ?_ rfl
  simp only [Try.ntmps24, List.size_toArray, List.length_cons, List.length_nil, Nat.reduceAdd, Nat.reduceSub, Array.replicate_succ, Array.replicate_zero, List.push_toArray, List.append_toArray, List.nil_append, List.cons_append]
  gi_wp2_with fail
  refine ⟨trivial, ?_⟩
  refine (callsIn_wide.2 (sound_any a b c _ zs _ (HI.out.keep ((Below.refl _ _).alloc (Nat.le_refl _) _)))).mono ?_
  rintro e w1 ⟨rfl, hb⟩
  have B1 := Lib.hid (bfirst _ _ hb)
  clear hb
  gi_wp2_with fail
  exact ⟨_, results_tmp2 rfl _ _ _, _, rfl, by rw [HR.out]; exact ⟨_, _, _, rfl, rfl, by simp, .inl rfl⟩, B1.out.2⟩

set_option maxRecDepth 100000 in
set_option maxHeartbeats 4000000 in
theorem spans_good (a b c : Int) (v : Value) (zs : List Int) (w : World) (hs : snd a b c zs = 0) (h4 : zs.length ≤ 400) (hi : IsInts w v zs) : Calls Try.prog 24 #[MV a b c, v] w (Spd a b c zs w) := by
  refine (callsIn_wide (n := 3)).1 ?_
  have HS := Lib.hid hs
  have HI := Lib.hid hi
  have HR : Hid (spL a b c zs = spK b c zs zs.length) := if_pos hs
  obtain ⟨ad, len, cap, rfl, rfl, _, hcc⟩ := hi
  obtain ⟨b0, hb0, hb1⟩ : ∃ b0, b0 ≤ w.heap.size ∧ (zs ≠ [] → ∀ bx off len' cap', Value.slice ad zs.length cap = .slice (some ⟨bx, off, none⟩) len' cap' → bx = b0) := by
    rcases hcc with h | ⟨bx, off, rfl, hc⟩
    · exact ⟨w.heap.size, Nat.le_refl _, fun hz => absurd h hz⟩
    · by_cases hz : zs = []
      · exact ⟨w.heap.size, Nat.le_refl _, fun h => absurd hz h⟩
      · exact ⟨bx, Nat.le_of_lt (cell_lt (hc 0 (List.length_pos_iff.2 hz))), fun _ by_ off' l' c' e => by cases e; rfl⟩
  have HB1 := Lib.hid hb1
  clear hs hcc hb1
  refine callsIn_of_wp_marks Try.func24 rfl trivial ?_ rfl
  simp only [Try.ntmps24, List.size_toArray, List.length_cons, List.length_nil, Nat.reduceAdd, Nat.reduceSub, Array.replicate_succ, Array.replicate_zero, List.push_toArray, List.append_toArray, List.nil_append, List.cons_append]
  gi_wp2_with fail
  refine ⟨trivial, ?_⟩
  refine (callsIn_wide.2 (sound_any a b c _ zs _ (HI.out.keep ((Below.refl _ _).alloc (Nat.le_refl _) _)))).mono ?_
  rintro e w1 ⟨rfl, hb⟩
  rw [HS.out]
  have H0 := Lib.hid (bfirst _ _ hb)
  clear hb
  obtain ⟨q0, q1, q2⟩ := c3 H0.out.1
  have hl0 := lt_of_some H0.out.1
  have p0 : (((w1.alloc (.cells #[.slice none 0 0] 45)).alloc (.cells #[.bool false] 4)).alloc (.cells #[.func (.func 42) #[] #[.pointer (some ⟨w1.heap.size + 1, 0, none⟩), .pointer (some ⟨w1.heap.size, 0, none⟩)]] 64)).cell? ⟨w.heap.size, 0, none⟩ = some (.int .i64 a) := cellA (cellA (cellA q0 _) _) _
  have p1 : (((w1.alloc (.cells #[.slice none 0 0] 45)).alloc (.cells #[.bool false] 4)).alloc (.cells #[.func (.func 42) #[] #[.pointer (some ⟨w1.heap.size + 1, 0, none⟩), .pointer (some ⟨w1.heap.size, 0, none⟩)]] 64)).cell? ⟨w.heap.size, 1, none⟩ = some (.int .i64 b) := cellA (cellA (cellA q1 _) _) _
  have p2 : (((w1.alloc (.cells #[.slice none 0 0] 45)).alloc (.cells #[.bool false] 4)).alloc (.cells #[.func (.func 42) #[] #[.pointer (some ⟨w1.heap.size + 1, 0, none⟩), .pointer (some ⟨w1.heap.size, 0, none⟩)]] 64)).cell? ⟨w.heap.size, 2, none⟩ = some (.int .i64 c) := cellA (cellA (cellA q2 _) _) _
  gi_wp2_with fail
  refine ⟨trivial, ?_⟩
  refine (callsIn_wide.2 (states_any a b c _ _ _ _)).mono ?_
  rintro e w2 ⟨rfl, rfl⟩
  clear p0 p1 p2
  gi_wp2_with fail
  obtain ⟨g, hg⟩ : ∃ x, x = w1.heap.size := ⟨_, rfl⟩
  obtain ⟨W0, hW0⟩ : ∃ x, x = ((((w1.alloc (.cells #[.slice none 0 0] 45)).alloc (.cells #[.bool false] 4)).alloc (.cells #[.func (.func 42) #[] #[.pointer (some ⟨w1.heap.size + 1, 0, none⟩), .pointer (some ⟨w1.heap.size, 0, none⟩)]] 64)).alloc (.cells (mC a b c) 23)).alloc (.cells #[.slice ad zs.length cap] 36) := ⟨_, rfl⟩
  have R0 : Hid (Boxed W0 g 45 (.slice none 0 0)) := by rw [hW0, hg]; exact h5_k (h4_0 _ _ _ _ _)
  have S0 : Hid (Boxed W0 (g + 1) 4 (.bool false)) := by rw [hW0, hg]; exact h5_k (h4_1 _ _ _ _ _)
  have C0 : Hid (Boxed W0 (g + 1 + 1) 64 (.func (.func 42) #[] #[.pointer (some ⟨g + 1, 0, none⟩), .pointer (some ⟨g, 0, none⟩)])) := by rw [hW0, hg]; exact h5_k (h4_2 _ _ _ _ _)
  have M0 : Hid (W0.heap[g + 1 + 1 + 1]? = some (.cells (mC a b c) 23 (0, 0))) := by rw [hW0, hg]; exact h5_k (h4_3 _ _ _ _ _)
  have T0 : Hid (W0.heap[g + 1 + 1 + 1 + 1]? = some (.cells #[.slice ad zs.length cap] 36 (0, 0))) := by rw [hW0, hg]; exact h5_4 _ _ _ _ _ _
  have B0 : Hid (Below w.heap.size w W0) := by rw [hW0]; exact balloc (balloc (balloc (balloc (balloc H0.out.2 _) _) _) _) _
  have Z0 : W0.heap.size = g + 5 := by rw [hW0, hg]; simp only [World.size_alloc]
  rw [← hg] at hl0
  rw [← hW0, ← hg]
  clear hW0 hg q0 q1 q2 H0
  refine wpIn_rangeFunc_ownG (F := Fence.wide) rfl (by omega) (gf := 46) (lb := #[.pointer (some ⟨g + 1 + 1 + 1 + 1, 0, none⟩), .pointer (some ⟨g + 1 + 1 + 1, 0, none⟩)]) rfl trivial (enters_of Try.func46 (by kernel_rfl) rfl)
    (states_stops 2 (by omega) (g + 1 + 1 + 1 + 1) (g + 1 + 1 + 1) (.slice ad zs.length cap) zs a b c W0 b0 h4 T0.out M0.out (HI.out.keep B0.out) HB1.out) KB.trans
    (fun W l o o' hl ho _ _ => ⟨World.putObj_heap_other (by omega), World.putObj_heap_other (by omega)⟩) (Below.refl _ _) (fun _ => rfl)
    (fun pre W => (∃ v, Boxed W g 45 v ∧ W.ownsRow W0.heap.size 49 2 v (spF pre).1.length (spC (spF pre).1) ∧ True) ∧ Boxed W (g + 1) 4 (.bool (spF pre).2) ∧ Boxed W (g + 1 + 1) 64 (.func (.func 42) #[] #[.pointer (some ⟨g + 1, 0, none⟩), .pointer (some ⟨g, 0, none⟩)]) ∧ W0.heap.size ≤ W.heap.size ∧ Below w.heap.size w W)
    (fun _ _ _ => False)
    (OwnFrom.and ((holdsRow_own W0.heap.size g 45 49 2 (fun pre => (spF pre).1.length) (fun pre => spC (spF pre).1) (fun _ _ => True)).from _) (OwnFrom.and (ownFrom_heap (by omega) _) (OwnFrom.and (ownFrom_heap (by omega) _) (OwnFrom.and (fun _ W W' _ h hg _ => Nat.le_trans h hg.size) (ownFrom_below (Nat.le_refl _) (by have := B0.out.size; omega))))))
    (fun _ _ _ _ _ hs _ _ => hs)
    ⟨⟨_, R0.out, OwnSp.nil _ _, trivial⟩, S0.out, C0.out, Nat.le_refl _, B0.out⟩
    (fun x => { tmps := #[MV a b c, .slice ad zs.length cap, .pointer (some ⟨w.heap.size, 0, none⟩), undef, .slice none 0 0, .int .i64 0, .int .i64 0, .pointer (some ⟨g, 0, none⟩), .pointer (some ⟨g + 1, 0, none⟩), .pointer (some ⟨g + 1 + 1, 0, none⟩), .int .i64 ((x.1 : Nat) : Int), .bool x.2, .agg #[.int .i64 a, .int .i64 b, .int .i64 c], .slice ad zs.length cap, .int .i64 0, .int .i64 0, .bool false, undef, .func (.func 42) #[] #[.pointer (some ⟨g + 1, 0, none⟩), .pointer (some ⟨g, 0, none⟩)], .agg #[.int .i64 a, .int .i64 b, .int .i64 c], .slice ad zs.length cap, .func (.func 46) #[] #[.pointer (some ⟨g + 1 + 1 + 1 + 1, 0, none⟩), .pointer (some ⟨g + 1 + 1 + 1, 0, none⟩)], .int .i64 ((x.1 : Nat) : Int), .bool x.2, undef, undef, undef, undef, undef], defers := [] }) ?assign ?body ?done ?stop
  case assign =>
    intro l x W K hK
    gi_wp2
    exact hK
  case body =>
    rintro l pre x W ⟨⟨v, hv, ho, _⟩, hs, hc, hz, hB⟩ hlt
    have HV := Lib.hid hv
    have HO : Hid (OwnSp W W0.heap.size v (spF pre).1) := ho
    have HS1 := Lib.hid hs
    have HC1 := Lib.hid hc
    have cc := hc.cell
    clear hv ho hs hc
    gi_wp2_with fail
    refine ⟨by first | trivial | exact fun _ => by omega, ?_⟩
    refine (CallsIn.inRound l (callsIn_wide.2 (add_any ((x.1 : Nat) : Int) x.2 (spF pre).2 g (g + 1) W0.heap.size v (spF pre).1 W HV.out HS1.out HO.out (spF_ne pre) (by omega) (by omega) (by omega) hz (by have := spF_len pre; omega)))).mono ?_
    rintro e W' ⟨⟨u, rfl⟩, v', k1, k2, k3, k4, k5⟩
    gi_wp2_with fail
    refine ⟨k4.from _, ⟨k5.2.2.2.2 _ (by omega) (by omega) (by omega), ?_⟩, ⟨v', k1, by rw [spF_snoc]; exact k3, trivial⟩, by rw [spF_snoc]; exact k2, (k5.2.2.2.2 _ (by omega) (by omega) (by omega)).trans HC1.out, Nat.le_trans hz k5.2.2.2.1, ?_⟩
    · exact k5.2.2.2.2 _ (by omega) (by omega) (by omega)
    · exact hB.trans ⟨k5.1, k5.2.1, k5.2.2.1, k5.2.2.2.1, fun k hk => k5.2.2.2.2 k (by omega) (by omega) (by omega)⟩
  case done =>
    rintro D ys W hD rfl ⟨⟨v, hv, ho, _⟩, hs, hc, hz, hB⟩ hK
    have cv := hv.cell
    rw [spF_up b c zs zs.length (Nat.le_refl _)] at ho
    have HO := Lib.hid ho
    clear hv ho hs hc
    gi_wp2
    refine ⟨by simp, .inl ⟨_, _, rfl, run_takeDeferred hK, ?_⟩⟩
    refine ⟨_, results_tmp2 rfl _ _ _, v, by rw [HS.out]; rfl, ?_, hB.trans (belowK_b (w := W0) B0.out.size W D _ _ hD hK rfl rfl)⟩
    rw [HR.out]
    have hx : OwnSp (W.putObj D (.deferred none)) W0.heap.size v (spK b c zs zs.length) := ownsRow_putObj HO.out _ hK rfl
    exact hx.sps (by have := spK_len b c zs zs.length; omega)
  case stop =>
    rintro D c pre W _ _ h _
    exact h.elim
end Go.Proofs.Ytlmdfanhimhlcaa
