/- Helper facts for the statements of this seat; no statement itself. -/
import Derived.Test.YtfploaaelfjadaaRA
import Derived.Outline
namespace Go.Proofs.Ytfploaaelfjadaa
open Go.RowKit
set_option linter.unusedSimpArgs false
set_option linter.unusedVariables false
set_option linter.unnecessarySimpa false

def zT : T := ⟨0, 0, 0, 0, false, 0, 0, 0, 0, false, 0, 0, 0, 0, 0⟩
/-- What After gives. -/
def afE (t : T) (s : Int) : Int := if chk t = 0 then (if s = 1 ∨ s = 4 ∨ s = 5 then (if s = dir t then 0 else 3) else 2) else chk t
def afR (t : T) (s : Int) : T := if afE t s = 0 then aft t s else zT
theorem res_t {fn : Func} {p u : Tmp} (h : fn.results = #[.cell p 23, .tmp u]) (tmps : Array Value) (w : World) (g : Nat) (ty : TypeId) (t : T) (hp : tmps.getD p undef = .pointer (some ⟨g, 0, none⟩)) (hg : w.heap[g]? = some (.cells (tC t) ty (0, 0))) :
    (results fn tmps).run Try.prog w = .ok (.tuple #[TV t, tmps.getD u undef]) w := by
  rw [results_cell_tmp h, hp]
  show ((loadVar 23 ⟨g, 0, none⟩).run Try.prog w).andThen _ = _
  rw [run_loadVar_row w g ty 23 (tC t) (0, 0) _ hg Try.underlying23 rfl size23]
  rfl
section
variable {ops : Array Oper} {rest : List Oper} {o : Oper} {a : Act} {w : World} {Q : Exit → Act → World → Prop}
theorem ld46 (hgd : o.guard = none) (x : Operand) (ho : o.op = .load 46 x) (g : Nat) (hx : a.eval x = .pointer (some ⟨g, 0, none⟩)) (t : T) (ty : TypeId) (hg : Hid (w.heap[g]? = some (.cells (tC t) ty (0, 0))))
    (h : wpList Try.prog ops Q rest (a.put o.dst (TV t)) w) : wpList Try.prog ops Q (o :: rest) a w :=
  wpList_load_row hgd 46 x ho g hx ty (tC t) (0, 0) _ hg.out Try.underlying46 rfl size46 h
theorem st46n {W : World} {old : Array Value} {ty : TypeId} (hgd : o.guard = none) (x y : Operand) (ho : o.op = .store 46 x y) (t : T) (hx : a.eval x = .pointer (some ⟨W.heap.size, 0, none⟩)) (hy : a.eval y = TV t) (hd : old.size = 15)
    (h : wpList Try.prog ops Q rest (a.put o.dst undef) (W.alloc (.cells (tC t) ty))) : wpList Try.prog ops Q (o :: rest) a (W.alloc (.cells old ty)) :=
  wpList_store_row hgd 46 x y ho W.heap.size (tC t) hx hy ty old (h1_0 _ _) size46 (by rw [hd]; rfl) (tC_one t) (by rw [World.setRow_alloc_new]; exact h)
end

set_option maxRecDepth 100000 in
set_option maxHeartbeats 2000000 in
theorem pAfter_bad (t : T) (s : Int) (w : World) (h : W64 t) (hc : chk t ≠ 0) : Calls Try.prog 23 #[TV t, .int .i64 s] w fun e w' => e = .returned (.tuple #[TV (afR t s), .int .i64 (afE t s)]) ∧ Below w.heap.size w w' := by
  have HE : Hid (afE t s = chk t ∧ afR t s = zT) := by
    have e : afE t s = chk t := if_neg hc
    exact ⟨e, by unfold afR; rw [e, if_neg hc]⟩
  have hz : (chk t != 0) = true := by simpa using hc
  clear hc
  have HW := Lib.hid h
  clear h
  go_enter Try.func23, Try.ntmps23
  go_wp2_with fail
  refine (check_any t _ HW.out).mono ?_
  rintro e w1 ⟨rfl, hb⟩
  obtain ⟨g, hg⟩ : ∃ g, g = w.heap.size := ⟨_, rfl⟩
  have H1 : Hid (w1.heap[g]? = some (.cells (tC t) 23 (0, 0))) := by rw [hg]; exact bkeep hb (h2_0 _ _ _)
  have R1 : Hid (w1.heap[g + 1]? = some (.cells (tC zT) 23 (0, 0))) := by rw [hg]; exact bkeep hb (h2_1 _ _ _)
  have B1 : Hid (Below w.heap.size w w1) := btrans (((Below.refl _ _).alloc (Nat.le_refl _) _).alloc (by simp only [World.size_alloc] <;> omega) _) hb
  have hgw : w.heap.size ≤ g := by omega
  rw [← hg]
  clear hb hg
  go_wp2_with (((with_reducible refine stT ?k1 (.tmp 4) (.tmp 12) ?k2 (g + 1) zT zT 23 ?k3 ?k4 R1 ?_); (case k1 => rfl); (case k2 => rfl); (case k3 => rfl); (case k4 => rfl)))
  refine bodyPost_ret (v := .tuple #[TV zT, .int .i64 (chk t)]) (res_t (fn := Try.f23) (p := 4) (u := 5) rfl _ _ (g + 1) 23 zT rfl (setRow_heap _ _ _ _ _ _ R1.out)) rfl ⟨?_, below_setRow B1.out (by omega) _⟩
  rw [HE.out.1, HE.out.2]
set_option maxRecDepth 100000 in
set_option maxHeartbeats 2000000 in
theorem pAfter_range (t : T) (s : Int) (w : World) (h : W64 t) (hc : chk t = 0) (h1 : s ≠ 1) (h4 : s ≠ 4) (h5 : s ≠ 5) : Calls Try.prog 23 #[TV t, .int .i64 s] w fun e w' => e = .returned (.tuple #[TV (afR t s), .int .i64 (afE t s)]) ∧ Below w.heap.size w w' := by
  have HE : Hid (afE t s = 2 ∧ afR t s = zT) := by
    have e : afE t s = 2 := by unfold afE; rw [if_pos hc, if_neg (by omega)]
    exact ⟨e, by unfold afR; rw [e, if_neg (by omega)]⟩
  have HC := Lib.hid hc
  have a1 : (s == 1) = false := by simpa using h1
  have a4 : (s == 4) = false := by simpa using h4
  have a5 : (s == 5) = false := by simpa using h5
  have b1 : (s != 1) = true := by simpa using h1
  have b4 : (s != 4) = true := by simpa using h4
  have b5 : (s != 5) = true := by simpa using h5
  clear hc h1 h4 h5
  have HW := Lib.hid h
  clear h
  go_enter Try.func23, Try.ntmps23
  go_wp2_with fail
  refine (check_any t _ HW.out).mono ?_
  rintro e w1 ⟨rfl, hb⟩
  rw [HC.out]
  obtain ⟨g, hg⟩ : ∃ g, g = w.heap.size := ⟨_, rfl⟩
  have H1 : Hid (w1.heap[g]? = some (.cells (tC t) 23 (0, 0))) := by rw [hg]; exact bkeep hb (h2_0 _ _ _)
  have R1 : Hid (w1.heap[g + 1]? = some (.cells (tC zT) 23 (0, 0))) := by rw [hg]; exact bkeep hb (h2_1 _ _ _)
  have B1 : Hid (Below w.heap.size w w1) := btrans (((Below.refl _ _).alloc (Nat.le_refl _) _).alloc (by simp only [World.size_alloc] <;> omega) _) hb
  have hgw : w.heap.size ≤ g := by omega
  rw [← hg]
  clear hb hg
  go_wp2_with (((with_reducible refine stT ?k1 (.tmp 4) (.tmp 15) ?k2 (g + 1) zT zT 23 ?k3 ?k4 R1 ?_); (case k1 => rfl); (case k2 => rfl); (case k3 => rfl); (case k4 => rfl)))
  refine bodyPost_ret (v := .tuple #[TV zT, .int .i64 2]) (res_t (fn := Try.f23) (p := 4) (u := 5) rfl _ _ (g + 1) 23 zT rfl (setRow_heap _ _ _ _ _ _ R1.out)) rfl ⟨?_, below_setRow B1.out (by omega) _⟩
  rw [HE.out.1, HE.out.2]
set_option maxRecDepth 100000 in
set_option maxHeartbeats 2000000 in
theorem pAfter_no1 (t : T) (w : World) (h : W64 t) (hc : chk t = 0) (hd : dir t ≠ 1) : Calls Try.prog 23 #[TV t, .int .i64 1] w fun e w' => e = .returned (.tuple #[TV (afR t 1), .int .i64 (afE t 1)]) ∧ Below w.heap.size w w' := by
  have HE : Hid (afE t 1 = 3 ∧ afR t 1 = zT) := by
    have e : afE t 1 = 3 := by unfold afE; rw [if_pos hc, if_pos (by omega), if_neg (by omega)]
    exact ⟨e, by unfold afR; rw [e, if_neg (by omega)]⟩
  have n1 : ((1 : Int) != dir t) = true := by rw [bne_iff_ne]; omega
  clear hd
  have HW := Lib.hid h
  clear h
  have HC := Lib.hid hc
  clear hc
  go_enter Try.func23, Try.ntmps23
  go_wp2_with fail
  refine (check_any t _ HW.out).mono ?_
  rintro e w1 ⟨rfl, hb⟩
  rw [HC.out]
  obtain ⟨g, hg⟩ : ∃ g, g = w.heap.size := ⟨_, rfl⟩
  have H1 : Hid (w1.heap[g]? = some (.cells (tC t) 23 (0, 0))) := by rw [hg]; exact bkeep hb (h2_0 _ _ _)
  have R1 : Hid (w1.heap[g + 1]? = some (.cells (tC zT) 23 (0, 0))) := by rw [hg]; exact bkeep hb (h2_1 _ _ _)
  have B1 : Hid (Below w.heap.size w w1) := btrans (((Below.refl _ _).alloc (Nat.le_refl _) _).alloc (by simp only [World.size_alloc] <;> omega) _) hb
  have hgw : w.heap.size ≤ g := by omega
  rw [← hg]
  clear hb hg
  go_wp2_with (first | ((with_reducible refine ldT ?l1 (.tmp 2) ?l2 g ?l3 t 23 H1 ?_); (case l1 => rfl); (case l2 => rfl); (case l3 => rfl)) | ((with_reducible refine st46n ?m1 (.tmp 7) (.tmp 20) ?m2 t ?m3 ?m4 ?m5 ?_); (case m1 => rfl); (case m2 => rfl); (case m3 => rfl); (case m4 => rfl); (case m5 => rfl)) | ((with_reducible refine ld46 ?n1 (.tmp 7) ?n2 w1.heap.size ?n3 t 46 (Lib.hid (h1_0 w1 (.cells (tC t) 46))) ?_); (case n1 => rfl); (case n2 => rfl); (case n3 => rfl)))
  refine (direct_any t _).mono ?_
  rintro e w2 ⟨rfl, hb⟩
  have R2 : Hid (w2.heap[g + 1]? = some (.cells (tC zT) 23 (0, 0))) := bkeep hb (hold1 R1.out _)
  have X2 : Hid (w2.heap[w1.heap.size]? = some (.cells (tC t) 46 (0, 0))) := bkeep hb (h1_0 _ _)
  have B2 : Hid (Below w.heap.size w w2) := btrans (balloc B1.out _) hb
  clear hb R1 B1 H1
  go_wp2_with (((with_reducible refine stT ?k1 (.tmp 4) (.tmp 25) ?k2 (g + 1) zT zT 23 ?k3 ?k4 R2 ?_); (case k1 => rfl); (case k2 => rfl); (case k3 => rfl); (case k4 => rfl)))
  refine bodyPost_ret (v := .tuple #[TV zT, .int .i64 3]) (res_t (fn := Try.f23) (p := 4) (u := 5) rfl _ _ (g + 1) 23 zT rfl (setRow_heap _ _ _ _ _ _ R2.out)) rfl ⟨?_, below_setRow B2.out (by omega) _⟩
  rw [HE.out.1, HE.out.2]
set_option maxRecDepth 100000 in
set_option maxHeartbeats 2000000 in
theorem pAfter_no4 (t : T) (w : World) (h : W64 t) (hc : chk t = 0) (hd : dir t ≠ 4) : Calls Try.prog 23 #[TV t, .int .i64 4] w fun e w' => e = .returned (.tuple #[TV (afR t 4), .int .i64 (afE t 4)]) ∧ Below w.heap.size w w' := by
  have HE : Hid (afE t 4 = 3 ∧ afR t 4 = zT) := by
    have e : afE t 4 = 3 := by unfold afE; rw [if_pos hc, if_pos (by omega), if_neg (by omega)]
    exact ⟨e, by unfold afR; rw [e, if_neg (by omega)]⟩
  have n1 : ((4 : Int) != dir t) = true := by rw [bne_iff_ne]; omega
  clear hd
  have HW := Lib.hid h
  clear h
  have HC := Lib.hid hc
  clear hc
  go_enter Try.func23, Try.ntmps23
  go_wp2_with fail
  refine (check_any t _ HW.out).mono ?_
  rintro e w1 ⟨rfl, hb⟩
  rw [HC.out]
  obtain ⟨g, hg⟩ : ∃ g, g = w.heap.size := ⟨_, rfl⟩
  have H1 : Hid (w1.heap[g]? = some (.cells (tC t) 23 (0, 0))) := by rw [hg]; exact bkeep hb (h2_0 _ _ _)
  have R1 : Hid (w1.heap[g + 1]? = some (.cells (tC zT) 23 (0, 0))) := by rw [hg]; exact bkeep hb (h2_1 _ _ _)
  have B1 : Hid (Below w.heap.size w w1) := btrans (((Below.refl _ _).alloc (Nat.le_refl _) _).alloc (by simp only [World.size_alloc] <;> omega) _) hb
  have hgw : w.heap.size ≤ g := by omega
  rw [← hg]
  clear hb hg
  go_wp2_with (first | ((with_reducible refine ldT ?l1 (.tmp 2) ?l2 g ?l3 t 23 H1 ?_); (case l1 => rfl); (case l2 => rfl); (case l3 => rfl)) | ((with_reducible refine st46n ?m1 (.tmp 7) (.tmp 20) ?m2 t ?m3 ?m4 ?m5 ?_); (case m1 => rfl); (case m2 => rfl); (case m3 => rfl); (case m4 => rfl); (case m5 => rfl)) | ((with_reducible refine ld46 ?n1 (.tmp 7) ?n2 w1.heap.size ?n3 t 46 (Lib.hid (h1_0 w1 (.cells (tC t) 46))) ?_); (case n1 => rfl); (case n2 => rfl); (case n3 => rfl)))
  refine (direct_any t _).mono ?_
  rintro e w2 ⟨rfl, hb⟩
  have R2 : Hid (w2.heap[g + 1]? = some (.cells (tC zT) 23 (0, 0))) := bkeep hb (hold1 R1.out _)
  have X2 : Hid (w2.heap[w1.heap.size]? = some (.cells (tC t) 46 (0, 0))) := bkeep hb (h1_0 _ _)
  have B2 : Hid (Below w.heap.size w w2) := btrans (balloc B1.out _) hb
  clear hb R1 B1 H1
  go_wp2_with (((with_reducible refine stT ?k1 (.tmp 4) (.tmp 25) ?k2 (g + 1) zT zT 23 ?k3 ?k4 R2 ?_); (case k1 => rfl); (case k2 => rfl); (case k3 => rfl); (case k4 => rfl)))
  refine bodyPost_ret (v := .tuple #[TV zT, .int .i64 3]) (res_t (fn := Try.f23) (p := 4) (u := 5) rfl _ _ (g + 1) 23 zT rfl (setRow_heap _ _ _ _ _ _ R2.out)) rfl ⟨?_, below_setRow B2.out (by omega) _⟩
  rw [HE.out.1, HE.out.2]
set_option maxRecDepth 100000 in
set_option maxHeartbeats 2000000 in
theorem pAfter_no5 (t : T) (w : World) (h : W64 t) (hc : chk t = 0) (hd : dir t ≠ 5) : Calls Try.prog 23 #[TV t, .int .i64 5] w fun e w' => e = .returned (.tuple #[TV (afR t 5), .int .i64 (afE t 5)]) ∧ Below w.heap.size w w' := by
  have HE : Hid (afE t 5 = 3 ∧ afR t 5 = zT) := by
    have e : afE t 5 = 3 := by unfold afE; rw [if_pos hc, if_pos (by omega), if_neg (by omega)]
    exact ⟨e, by unfold afR; rw [e, if_neg (by omega)]⟩
  have n1 : ((5 : Int) != dir t) = true := by rw [bne_iff_ne]; omega
  clear hd
  have HW := Lib.hid h
  clear h
  have HC := Lib.hid hc
  clear hc
  go_enter Try.func23, Try.ntmps23
  go_wp2_with fail
  refine (check_any t _ HW.out).mono ?_
  rintro e w1 ⟨rfl, hb⟩
  rw [HC.out]
  obtain ⟨g, hg⟩ : ∃ g, g = w.heap.size := ⟨_, rfl⟩
  have H1 : Hid (w1.heap[g]? = some (.cells (tC t) 23 (0, 0))) := by rw [hg]; exact bkeep hb (h2_0 _ _ _)
  have R1 : Hid (w1.heap[g + 1]? = some (.cells (tC zT) 23 (0, 0))) := by rw [hg]; exact bkeep hb (h2_1 _ _ _)
  have B1 : Hid (Below w.heap.size w w1) := btrans (((Below.refl _ _).alloc (Nat.le_refl _) _).alloc (by simp only [World.size_alloc] <;> omega) _) hb
  have hgw : w.heap.size ≤ g := by omega
  rw [← hg]
  clear hb hg
  go_wp2_with (first | ((with_reducible refine ldT ?l1 (.tmp 2) ?l2 g ?l3 t 23 H1 ?_); (case l1 => rfl); (case l2 => rfl); (case l3 => rfl)) | ((with_reducible refine st46n ?m1 (.tmp 7) (.tmp 20) ?m2 t ?m3 ?m4 ?m5 ?_); (case m1 => rfl); (case m2 => rfl); (case m3 => rfl); (case m4 => rfl); (case m5 => rfl)) | ((with_reducible refine ld46 ?n1 (.tmp 7) ?n2 w1.heap.size ?n3 t 46 (Lib.hid (h1_0 w1 (.cells (tC t) 46))) ?_); (case n1 => rfl); (case n2 => rfl); (case n3 => rfl)))
  refine (direct_any t _).mono ?_
  rintro e w2 ⟨rfl, hb⟩
  have R2 : Hid (w2.heap[g + 1]? = some (.cells (tC zT) 23 (0, 0))) := bkeep hb (hold1 R1.out _)
  have X2 : Hid (w2.heap[w1.heap.size]? = some (.cells (tC t) 46 (0, 0))) := bkeep hb (h1_0 _ _)
  have B2 : Hid (Below w.heap.size w w2) := btrans (balloc B1.out _) hb
  clear hb R1 B1 H1
  go_wp2_with (((with_reducible refine stT ?k1 (.tmp 4) (.tmp 25) ?k2 (g + 1) zT zT 23 ?k3 ?k4 R2 ?_); (case k1 => rfl); (case k2 => rfl); (case k3 => rfl); (case k4 => rfl)))
  refine bodyPost_ret (v := .tuple #[TV zT, .int .i64 3]) (res_t (fn := Try.f23) (p := 4) (u := 5) rfl _ _ (g + 1) 23 zT rfl (setRow_heap _ _ _ _ _ _ R2.out)) rfl ⟨?_, below_setRow B2.out (by omega) _⟩
  rw [HE.out.1, HE.out.2]
set_option maxRecDepth 100000 in
set_option maxHeartbeats 2000000 in
theorem pAfter_yes (t : T) (w : World) (h : W64 t) (hc : chk t = 0) (h6 : dir t ≠ 6) : Calls Try.prog 23 #[TV t, .int .i64 (dir t)] w fun e w' => e = .returned (.tuple #[TV (afR t (dir t)), .int .i64 (afE t (dir t))]) ∧ Below w.heap.size w w' := by
  have HE : Hid (afE t (dir t) = 0 ∧ afR t (dir t) = aft t (dir t)) := by
    have e : afE t (dir t) = 0 := by unfold afE; rw [if_pos hc, if_pos (by have := dir_cases t; omega), if_pos rfl]
    exact ⟨e, by unfold afR; rw [e, if_pos rfl]⟩
  have H6 := Lib.hid h6
  have HD := dir_cases t
  obtain ⟨c, hcc⟩ : ∃ c, c = dir t := ⟨_, rfl⟩
  have n1 : (dir t != dir t) = false := bne_self_eq_false _
  have cs : (dir t == 1) = true ∧ (dir t != 1) = false ∨ (dir t == 1) = false ∧ (dir t != 1) = true ∧ (dir t == 4) = true ∧ (dir t != 4) = false ∨ (dir t == 1) = false ∧ (dir t != 1) = true ∧ (dir t == 4) = false ∧ (dir t != 4) = true ∧ (dir t == 5) = true ∧ (dir t != 5) = false := by
    rcases HD with e | e | e | e
    · rw [e]; exact .inl ⟨rfl, rfl⟩
    · rw [e]; exact .inr (.inl ⟨rfl, rfl, rfl, rfl⟩)
    · rw [e]; exact .inr (.inr ⟨rfl, rfl, rfl, rfl, rfl, rfl⟩)
    · exact absurd e h6
  clear h6 HD hcc
  have HW := Lib.hid h
  clear h
  have HC := Lib.hid hc
  clear hc
  rcases cs with ⟨a1, a2⟩ | ⟨a1, a2, a3, a4⟩ | ⟨a1, a2, a3, a4, a5, a6⟩
  all_goals
    go_enter Try.func23, Try.ntmps23
    go_wp2_with fail
    refine (check_any t _ HW.out).mono ?_
    rintro e w1 ⟨rfl, hb⟩
    rw [HC.out]
    obtain ⟨g, hg⟩ : ∃ g, g = w.heap.size := ⟨_, rfl⟩
    have H1 : Hid (w1.heap[g]? = some (.cells (tC t) 23 (0, 0))) := by rw [hg]; exact bkeep hb (h2_0 _ _ _)
    have R1 : Hid (w1.heap[g + 1]? = some (.cells (tC zT) 23 (0, 0))) := by rw [hg]; exact bkeep hb (h2_1 _ _ _)
    have B1 : Hid (Below w.heap.size w w1) := btrans (((Below.refl _ _).alloc (Nat.le_refl _) _).alloc (by simp only [World.size_alloc] <;> omega) _) hb
    have hgw : w.heap.size ≤ g := by omega
    rw [← hg]
    clear hb hg
    go_wp2_with (first | ((with_reducible refine ldT ?l1 (.tmp 2) ?l2 g ?l3 t 23 H1 ?_); (case l1 => rfl); (case l2 => rfl); (case l3 => rfl)) | ((with_reducible refine st46n ?m1 (.tmp 7) (.tmp 20) ?m2 t ?m3 ?m4 ?m5 ?_); (case m1 => rfl); (case m2 => rfl); (case m3 => rfl); (case m4 => rfl); (case m5 => rfl)) | ((with_reducible refine ld46 ?n1 (.tmp 7) ?n2 w1.heap.size ?n3 t 46 (Lib.hid (h1_0 w1 (.cells (tC t) 46))) ?_); (case n1 => rfl); (case n2 => rfl); (case n3 => rfl)))
    refine (direct_any t _).mono ?_
    rintro e w2 ⟨rfl, hb⟩
    have R2 : Hid (w2.heap[g + 1]? = some (.cells (tC zT) 23 (0, 0))) := bkeep hb (hold1 R1.out _)
    have X2 : Hid (w2.heap[w1.heap.size]? = some (.cells (tC t) 46 (0, 0))) := bkeep hb (h1_0 _ _)
    have B2 : Hid (Below w.heap.size w w2) := btrans (balloc B1.out _) hb
    clear hb R1 B1 H1
    go_wp2_with (((with_reducible refine ld46 ?p1 (.tmp 7) ?p2 w1.heap.size ?p3 t 46 X2 ?_); (case p1 => rfl); (case p2 => rfl); (case p3 => rfl)))
    refine (after_any t _ (chk_ok HC.out) H6.out).mono ?_
    rintro e w3 ⟨rfl, hb⟩
    have R3 := Lib.hid (bkeep hb R2.out)
    have B3 := Lib.hid (btrans B2.out hb)
    clear hb R2 B2
    go_wp2_with (((with_reducible refine stT ?k1 (.tmp 4) (.tmp 28) ?k2 (g + 1) zT (aft t (dir t)) 23 ?k3 ?k4 R3 ?_); (case k1 => rfl); (case k2 => rfl); (case k3 => rfl); (case k4 => rfl)))
    refine bodyPost_ret (v := .tuple #[TV (aft t (dir t)), .int .i64 0]) (res_t (fn := Try.f23) (p := 4) (u := 5) rfl _ _ (g + 1) 23 (aft t (dir t)) rfl (setRow_heap _ _ _ _ _ _ R3.out)) rfl ⟨?_, below_setRow B3.out (by omega) _⟩
    rw [HE.out.1, HE.out.2]
theorem pAfter_any (t : T) (s : Int) (w : World) (h : W64 t) : Calls Try.prog 23 #[TV t, .int .i64 s] w fun e w' => e = .returned (.tuple #[TV (afR t s), .int .i64 (afE t s)]) ∧ Below w.heap.size w w' := by
  by_cases hc : chk t = 0
  · by_cases hs : s = 1 ∨ s = 4 ∨ s = 5
    · by_cases hd : s = dir t
      · subst hd
        exact pAfter_yes t w h hc (by omega)
      · rcases hs with rfl | rfl | rfl
        · exact pAfter_no1 t w h hc (fun e => hd e.symm)
        · exact pAfter_no4 t w h hc (fun e => hd e.symm)
        · exact pAfter_no5 t w h hc (fun e => hd e.symm)
    · exact pAfter_range t s w h hc (by omega) (by omega) (by omega)
  · exact pAfter_bad t s w h hc

set_option maxRecDepth 100000 in
set_option maxHeartbeats 2000000 in
theorem rAfter_bad (t : T) (s : Int) (w : World) (hc : chk t ≠ 0) : Calls Try.prog 24 #[TV t, .int .i64 s] w fun e w' => e = .returned (.tuple #[TV (afR t s), .int .i64 (afE t s)]) ∧ Below w.heap.size w w' := by
  have HE : Hid (afE t s = chk t ∧ afR t s = zT) := by
    have e : afE t s = chk t := if_neg hc
    exact ⟨e, by unfold afR; rw [e, if_neg hc]⟩
  have hz : (chk t != 0) = true := by simpa using hc
  clear hc
  go_enter Try.func24, Try.ntmps24
  go_wp2_with fail
  refine (refCheck_any t _).mono ?_
  rintro e w1 ⟨rfl, hb⟩
  obtain ⟨g, hg⟩ : ∃ g, g = w.heap.size := ⟨_, rfl⟩
  have H1 : Hid (w1.heap[g]? = some (.cells (tC t) 23 (0, 0))) := by rw [hg]; exact bkeep hb (h2_0 _ _ _)
  have R1 : Hid (w1.heap[g + 1]? = some (.cells (tC zT) 23 (0, 0))) := by rw [hg]; exact bkeep hb (h2_1 _ _ _)
  have B1 : Hid (Below w.heap.size w w1) := btrans (((Below.refl _ _).alloc (Nat.le_refl _) _).alloc (by simp only [World.size_alloc] <;> omega) _) hb
  have hgw : w.heap.size ≤ g := by omega
  rw [← hg]
  clear hb hg
  go_wp2_with (((with_reducible refine stT ?k1 (.tmp 4) (.tmp 12) ?k2 (g + 1) zT zT 23 ?k3 ?k4 R1 ?_); (case k1 => rfl); (case k2 => rfl); (case k3 => rfl); (case k4 => rfl)))
  refine bodyPost_ret (v := .tuple #[TV zT, .int .i64 (chk t)]) (res_t (fn := Try.f24) (p := 4) (u := 5) rfl _ _ (g + 1) 23 zT rfl (setRow_heap _ _ _ _ _ _ R1.out)) rfl ⟨?_, below_setRow B1.out (by omega) _⟩
  rw [HE.out.1, HE.out.2]
set_option maxRecDepth 100000 in
set_option maxHeartbeats 2000000 in
theorem rAfter_range (t : T) (s : Int) (w : World) (hc : chk t = 0) (h1 : s ≠ 1) (h4 : s ≠ 4) (h5 : s ≠ 5) : Calls Try.prog 24 #[TV t, .int .i64 s] w fun e w' => e = .returned (.tuple #[TV (afR t s), .int .i64 (afE t s)]) ∧ Below w.heap.size w w' := by
  have HE : Hid (afE t s = 2 ∧ afR t s = zT) := by
    have e : afE t s = 2 := by unfold afE; rw [if_pos hc, if_neg (by omega)]
    exact ⟨e, by unfold afR; rw [e, if_neg (by omega)]⟩
  have HC := Lib.hid hc
  have a1 : (s == 1) = false := by simpa using h1
  have a4 : (s == 4) = false := by simpa using h4
  have a5 : (s == 5) = false := by simpa using h5
  have b1 : (s != 1) = true := by simpa using h1
  have b4 : (s != 4) = true := by simpa using h4
  have b5 : (s != 5) = true := by simpa using h5
  clear hc h1 h4 h5
  go_enter Try.func24, Try.ntmps24
  go_wp2_with fail
  refine (refCheck_any t _).mono ?_
  rintro e w1 ⟨rfl, hb⟩
  rw [HC.out]
  obtain ⟨g, hg⟩ : ∃ g, g = w.heap.size := ⟨_, rfl⟩
  have H1 : Hid (w1.heap[g]? = some (.cells (tC t) 23 (0, 0))) := by rw [hg]; exact bkeep hb (h2_0 _ _ _)
  have R1 : Hid (w1.heap[g + 1]? = some (.cells (tC zT) 23 (0, 0))) := by rw [hg]; exact bkeep hb (h2_1 _ _ _)
  have B1 : Hid (Below w.heap.size w w1) := btrans (((Below.refl _ _).alloc (Nat.le_refl _) _).alloc (by simp only [World.size_alloc] <;> omega) _) hb
  have hgw : w.heap.size ≤ g := by omega
  rw [← hg]
  clear hb hg
  go_wp2_with (((with_reducible refine stT ?k1 (.tmp 4) (.tmp 25) ?k2 (g + 1) zT zT 23 ?k3 ?k4 R1 ?_); (case k1 => rfl); (case k2 => rfl); (case k3 => rfl); (case k4 => rfl)))
  refine bodyPost_ret (v := .tuple #[TV zT, .int .i64 2]) (res_t (fn := Try.f24) (p := 4) (u := 5) rfl _ _ (g + 1) 23 zT rfl (setRow_heap _ _ _ _ _ _ R1.out)) rfl ⟨?_, below_setRow B1.out (by omega) _⟩
  rw [HE.out.1, HE.out.2]
set_option maxRecDepth 100000 in
set_option maxHeartbeats 2000000 in
theorem rAfter_no1 (t : T) (w : World) (hc : chk t = 0) (hd : dir t ≠ 1) : Calls Try.prog 24 #[TV t, .int .i64 1] w fun e w' => e = .returned (.tuple #[TV (afR t 1), .int .i64 (afE t 1)]) ∧ Below w.heap.size w w' := by
  have HE : Hid (afE t 1 = 3 ∧ afR t 1 = zT) := by
    have e : afE t 1 = 3 := by unfold afE; rw [if_pos hc, if_pos (by omega), if_neg (by omega)]
    exact ⟨e, by unfold afR; rw [e, if_neg (by omega)]⟩
  have n1 : ((1 : Int) != dir t) = true := by rw [bne_iff_ne]; omega
  clear hd
  have HC := Lib.hid hc
  clear hc
  go_enter Try.func24, Try.ntmps24
  go_wp2_with fail
  refine (refCheck_any t _).mono ?_
  rintro e w1 ⟨rfl, hb⟩
  rw [HC.out]
  obtain ⟨g, hg⟩ : ∃ g, g = w.heap.size := ⟨_, rfl⟩
  have H1 : Hid (w1.heap[g]? = some (.cells (tC t) 23 (0, 0))) := by rw [hg]; exact bkeep hb (h2_0 _ _ _)
  have R1 : Hid (w1.heap[g + 1]? = some (.cells (tC zT) 23 (0, 0))) := by rw [hg]; exact bkeep hb (h2_1 _ _ _)
  have B1 : Hid (Below w.heap.size w w1) := btrans (((Below.refl _ _).alloc (Nat.le_refl _) _).alloc (by simp only [World.size_alloc] <;> omega) _) hb
  have hgw : w.heap.size ≤ g := by omega
  rw [← hg]
  clear hb hg
  go_wp2_with (((with_reducible refine ldT ?l1 (.tmp 2) ?l2 g ?l3 t 23 H1 ?_); (case l1 => rfl); (case l2 => rfl); (case l3 => rfl)))
  refine (refDir_ok t _ HC.out).mono ?_
  rintro e w2 ⟨rfl, hb⟩
  have R2 : Hid (w2.heap[g + 1]? = some (.cells (tC zT) 23 (0, 0))) := bkeep hb R1.out
  have X2 : Hid (w2.heap[g]? = some (.cells (tC t) 23 (0, 0))) := bkeep hb H1.out
  have B2 : Hid (Below w.heap.size w w2) := btrans B1.out hb
  clear hb R1 B1 H1
  go_wp2_with (((with_reducible refine stT ?k1 (.tmp 4) (.tmp 31) ?k2 (g + 1) zT zT 23 ?k3 ?k4 R2 ?_); (case k1 => rfl); (case k2 => rfl); (case k3 => rfl); (case k4 => rfl)))
  refine bodyPost_ret (v := .tuple #[TV zT, .int .i64 3]) (res_t (fn := Try.f24) (p := 4) (u := 5) rfl _ _ (g + 1) 23 zT rfl (setRow_heap _ _ _ _ _ _ R2.out)) rfl ⟨?_, below_setRow B2.out (by omega) _⟩
  rw [HE.out.1, HE.out.2]
set_option maxRecDepth 100000 in
set_option maxHeartbeats 2000000 in
theorem rAfter_no4 (t : T) (w : World) (hc : chk t = 0) (hd : dir t ≠ 4) : Calls Try.prog 24 #[TV t, .int .i64 4] w fun e w' => e = .returned (.tuple #[TV (afR t 4), .int .i64 (afE t 4)]) ∧ Below w.heap.size w w' := by
  have HE : Hid (afE t 4 = 3 ∧ afR t 4 = zT) := by
    have e : afE t 4 = 3 := by unfold afE; rw [if_pos hc, if_pos (by omega), if_neg (by omega)]
    exact ⟨e, by unfold afR; rw [e, if_neg (by omega)]⟩
  have n1 : ((4 : Int) != dir t) = true := by rw [bne_iff_ne]; omega
  clear hd
  have HC := Lib.hid hc
  clear hc
  go_enter Try.func24, Try.ntmps24
  go_wp2_with fail
  refine (refCheck_any t _).mono ?_
  rintro e w1 ⟨rfl, hb⟩
  rw [HC.out]
  obtain ⟨g, hg⟩ : ∃ g, g = w.heap.size := ⟨_, rfl⟩
  have H1 : Hid (w1.heap[g]? = some (.cells (tC t) 23 (0, 0))) := by rw [hg]; exact bkeep hb (h2_0 _ _ _)
  have R1 : Hid (w1.heap[g + 1]? = some (.cells (tC zT) 23 (0, 0))) := by rw [hg]; exact bkeep hb (h2_1 _ _ _)
  have B1 : Hid (Below w.heap.size w w1) := btrans (((Below.refl _ _).alloc (Nat.le_refl _) _).alloc (by simp only [World.size_alloc] <;> omega) _) hb
  have hgw : w.heap.size ≤ g := by omega
  rw [← hg]
  clear hb hg
  go_wp2_with (((with_reducible refine ldT ?l1 (.tmp 2) ?l2 g ?l3 t 23 H1 ?_); (case l1 => rfl); (case l2 => rfl); (case l3 => rfl)))
  refine (refDir_ok t _ HC.out).mono ?_
  rintro e w2 ⟨rfl, hb⟩
  have R2 : Hid (w2.heap[g + 1]? = some (.cells (tC zT) 23 (0, 0))) := bkeep hb R1.out
  have X2 : Hid (w2.heap[g]? = some (.cells (tC t) 23 (0, 0))) := bkeep hb H1.out
  have B2 : Hid (Below w.heap.size w w2) := btrans B1.out hb
  clear hb R1 B1 H1
  go_wp2_with (((with_reducible refine stT ?k1 (.tmp 4) (.tmp 31) ?k2 (g + 1) zT zT 23 ?k3 ?k4 R2 ?_); (case k1 => rfl); (case k2 => rfl); (case k3 => rfl); (case k4 => rfl)))
  refine bodyPost_ret (v := .tuple #[TV zT, .int .i64 3]) (res_t (fn := Try.f24) (p := 4) (u := 5) rfl _ _ (g + 1) 23 zT rfl (setRow_heap _ _ _ _ _ _ R2.out)) rfl ⟨?_, below_setRow B2.out (by omega) _⟩
  rw [HE.out.1, HE.out.2]
set_option maxRecDepth 100000 in
set_option maxHeartbeats 2000000 in
theorem rAfter_no5 (t : T) (w : World) (hc : chk t = 0) (hd : dir t ≠ 5) : Calls Try.prog 24 #[TV t, .int .i64 5] w fun e w' => e = .returned (.tuple #[TV (afR t 5), .int .i64 (afE t 5)]) ∧ Below w.heap.size w w' := by
  have HE : Hid (afE t 5 = 3 ∧ afR t 5 = zT) := by
    have e : afE t 5 = 3 := by unfold afE; rw [if_pos hc, if_pos (by omega), if_neg (by omega)]
    exact ⟨e, by unfold afR; rw [e, if_neg (by omega)]⟩
  have n1 : ((5 : Int) != dir t) = true := by rw [bne_iff_ne]; omega
  clear hd
  have HC := Lib.hid hc
  clear hc
  go_enter Try.func24, Try.ntmps24
  go_wp2_with fail
  refine (refCheck_any t _).mono ?_
  rintro e w1 ⟨rfl, hb⟩
  rw [HC.out]
  obtain ⟨g, hg⟩ : ∃ g, g = w.heap.size := ⟨_, rfl⟩
  have H1 : Hid (w1.heap[g]? = some (.cells (tC t) 23 (0, 0))) := by rw [hg]; exact bkeep hb (h2_0 _ _ _)
  have R1 : Hid (w1.heap[g + 1]? = some (.cells (tC zT) 23 (0, 0))) := by rw [hg]; exact bkeep hb (h2_1 _ _ _)
  have B1 : Hid (Below w.heap.size w w1) := btrans (((Below.refl _ _).alloc (Nat.le_refl _) _).alloc (by simp only [World.size_alloc] <;> omega) _) hb
  have hgw : w.heap.size ≤ g := by omega
  rw [← hg]
  clear hb hg
  go_wp2_with (((with_reducible refine ldT ?l1 (.tmp 2) ?l2 g ?l3 t 23 H1 ?_); (case l1 => rfl); (case l2 => rfl); (case l3 => rfl)))
  refine (refDir_ok t _ HC.out).mono ?_
  rintro e w2 ⟨rfl, hb⟩
  have R2 : Hid (w2.heap[g + 1]? = some (.cells (tC zT) 23 (0, 0))) := bkeep hb R1.out
  have X2 : Hid (w2.heap[g]? = some (.cells (tC t) 23 (0, 0))) := bkeep hb H1.out
  have B2 : Hid (Below w.heap.size w w2) := btrans B1.out hb
  clear hb R1 B1 H1
  go_wp2_with (((with_reducible refine stT ?k1 (.tmp 4) (.tmp 31) ?k2 (g + 1) zT zT 23 ?k3 ?k4 R2 ?_); (case k1 => rfl); (case k2 => rfl); (case k3 => rfl); (case k4 => rfl)))
  refine bodyPost_ret (v := .tuple #[TV zT, .int .i64 3]) (res_t (fn := Try.f24) (p := 4) (u := 5) rfl _ _ (g + 1) 23 zT rfl (setRow_heap _ _ _ _ _ _ R2.out)) rfl ⟨?_, below_setRow B2.out (by omega) _⟩
  rw [HE.out.1, HE.out.2]
set_option maxRecDepth 100000 in
set_option maxHeartbeats 2000000 in
theorem rAfter_yes (t : T) (w : World) (hc : chk t = 0) (h6 : dir t ≠ 6) : Calls Try.prog 24 #[TV t, .int .i64 (dir t)] w fun e w' => e = .returned (.tuple #[TV (afR t (dir t)), .int .i64 (afE t (dir t))]) ∧ Below w.heap.size w w' := by
  have HE : Hid (afE t (dir t) = 0 ∧ afR t (dir t) = aft t (dir t)) := by
    have e : afE t (dir t) = 0 := by unfold afE; rw [if_pos hc, if_pos (by have := dir_cases t; omega), if_pos rfl]
    exact ⟨e, by unfold afR; rw [e, if_pos rfl]⟩
  have H6 := Lib.hid h6
  have HD := dir_cases t
  obtain ⟨c, hcc⟩ : ∃ c, c = dir t := ⟨_, rfl⟩
  have n1 : (dir t != dir t) = false := bne_self_eq_false _
  have cs : (dir t == 1) = true ∧ (dir t != 1) = false ∨ (dir t == 1) = false ∧ (dir t != 1) = true ∧ (dir t == 4) = true ∧ (dir t != 4) = false ∨ (dir t == 1) = false ∧ (dir t != 1) = true ∧ (dir t == 4) = false ∧ (dir t != 4) = true ∧ (dir t == 5) = true ∧ (dir t != 5) = false := by
    rcases HD with e | e | e | e
    · rw [e]; exact .inl ⟨rfl, rfl⟩
    · rw [e]; exact .inr (.inl ⟨rfl, rfl, rfl, rfl⟩)
    · rw [e]; exact .inr (.inr ⟨rfl, rfl, rfl, rfl, rfl, rfl⟩)
    · exact absurd e h6
  clear h6 HD hcc
  have HC := Lib.hid hc
  clear hc
  rcases cs with ⟨a1, a2⟩ | ⟨a1, a2, a3, a4⟩ | ⟨a1, a2, a3, a4, a5, a6⟩
  all_goals
    go_enter Try.func24, Try.ntmps24
    go_wp2_with fail
    refine (refCheck_any t _).mono ?_
    rintro e w1 ⟨rfl, hb⟩
    rw [HC.out]
    obtain ⟨g, hg⟩ : ∃ g, g = w.heap.size := ⟨_, rfl⟩
    have H1 : Hid (w1.heap[g]? = some (.cells (tC t) 23 (0, 0))) := by rw [hg]; exact bkeep hb (h2_0 _ _ _)
    have R1 : Hid (w1.heap[g + 1]? = some (.cells (tC zT) 23 (0, 0))) := by rw [hg]; exact bkeep hb (h2_1 _ _ _)
    have B1 : Hid (Below w.heap.size w w1) := btrans (((Below.refl _ _).alloc (Nat.le_refl _) _).alloc (by simp only [World.size_alloc] <;> omega) _) hb
    have hgw : w.heap.size ≤ g := by omega
    rw [← hg]
    clear hb hg
    go_wp2_with (((with_reducible refine ldT ?l1 (.tmp 2) ?l2 g ?l3 t 23 H1 ?_); (case l1 => rfl); (case l2 => rfl); (case l3 => rfl)))
    refine (refDir_ok t _ HC.out).mono ?_
    rintro e w2 ⟨rfl, hb⟩
    have R2 : Hid (w2.heap[g + 1]? = some (.cells (tC zT) 23 (0, 0))) := bkeep hb R1.out
    have X2 : Hid (w2.heap[g]? = some (.cells (tC t) 23 (0, 0))) := bkeep hb H1.out
    have B2 : Hid (Below w.heap.size w w2) := btrans B1.out hb
    clear hb R1 B1 H1
    go_wp2_with (((with_reducible refine ldT ?p1 (.tmp 2) ?p2 g ?p3 t 23 X2 ?_); (case p1 => rfl); (case p2 => rfl); (case p3 => rfl)))
    refine (rafter_any t _ (chk_ok HC.out) H6.out).mono ?_
    rintro e w3 ⟨rfl, hb⟩
    have R3 := Lib.hid (bkeep hb R2.out)
    have B3 := Lib.hid (btrans B2.out hb)
    clear hb R2 B2
    go_wp2_with (((with_reducible refine stT ?k1 (.tmp 4) (.tmp 34) ?k2 (g + 1) zT (aft t (dir t)) 23 ?k3 ?k4 R3 ?_); (case k1 => rfl); (case k2 => rfl); (case k3 => rfl); (case k4 => rfl)))
    refine bodyPost_ret (v := .tuple #[TV (aft t (dir t)), .int .i64 0]) (res_t (fn := Try.f24) (p := 4) (u := 5) rfl _ _ (g + 1) 23 (aft t (dir t)) rfl (setRow_heap _ _ _ _ _ _ R3.out)) rfl ⟨?_, below_setRow B3.out (by omega) _⟩
    rw [HE.out.1, HE.out.2]
theorem rAfter_any (t : T) (s : Int) (w : World) : Calls Try.prog 24 #[TV t, .int .i64 s] w fun e w' => e = .returned (.tuple #[TV (afR t s), .int .i64 (afE t s)]) ∧ Below w.heap.size w w' := by
  by_cases hc : chk t = 0
  · by_cases hs : s = 1 ∨ s = 4 ∨ s = 5
    · by_cases hd : s = dir t
      · subst hd
        exact rAfter_yes t w hc (by omega)
      · rcases hs with rfl | rfl | rfl
        · exact rAfter_no1 t w hc (fun e => hd e.symm)
        · exact rAfter_no4 t w hc (fun e => hd e.symm)
        · exact rAfter_no5 t w hc (fun e => hd e.symm)
    · exact rAfter_range t s w hc (by omega) (by omega) (by omega)
  · exact rAfter_bad t s w hc
end Go.Proofs.Ytfploaaelfjadaa
