/- Helper facts for the statements of this seat; no statement itself. -/
import Derived.Test.YtfploaaelfjadaaB
import Derived.Shelf.Abstract
import Derived.Outline
namespace Go.Proofs.Ytfploaaelfjadaa
open Go.RowKit Go.Shelf
set_option linter.unusedSimpArgs false
set_option linter.unusedVariables false
set_option linter.unnecessarySimpa false

/-- A rule: its kind, its function, what the function says. -/
abbrev Rule := Int × Nat × Bool
def ruC (V : Value) (rs : List Rule) : Array Value := (rs.flatMap fun r => [.int .i64 r.1, .func (.func r.2.1) #[V] #[]]).toArray
/-- The kind of the first rule that applies. -/
def fstK : List Rule → Int
  | [] => 0
  | r :: rs => if r.2.2 = true then r.1 else fstK rs
theorem ruC_get (V : Value) (rs : List Rule) (k : Nat) (hk : k < rs.length) : (ruC V rs)[k * 2]? = some (.int .i64 (rs.getD k (0, 0, false)).1) ∧ (ruC V rs)[k * 2 + 1]? = some (.func (.func (rs.getD k (0, 0, false)).2.1) #[V] #[]) := by
  unfold ruC
  simp only [List.getElem?_toArray]
  induction rs generalizing k with
  | nil => simp at hk
  | cons r rs ih =>
    cases k with
    | zero => simp
    | succ k =>
      have := ih k (by simpa using hk)
      rw [show (k + 1) * 2 = k * 2 + 1 + 1 by omega]
      simpa using this
theorem fstK_at (rs : List Rule) (k : Nat) (hk : k < rs.length) (h : ∀ j, j < k → (rs.getD j (0, 0, false)).2.2 = false) (hb : (rs.getD k (0, 0, false)).2.2 = true) : fstK rs = (rs.getD k (0, 0, false)).1 := by
  induction rs generalizing k with
  | nil => simp at hk
  | cons r rs ih =>
    cases k with
    | zero => exact if_pos hb
    | succ k =>
      have h0 := h 0 (by omega)
      have := ih k (by simpa using hk) (fun j hj => h (j + 1) (by omega)) hb
      show (if r.2.2 = true then _ else _) = _
      rw [if_neg (by simpa using h0)]
      exact this
theorem fstK_none (rs : List Rule) (h : ∀ j, j < rs.length → (rs.getD j (0, 0, false)).2.2 = false) : fstK rs = 0 := by
  induction rs with
  | nil => rfl
  | cons r rs ih =>
    have h0 := h 0 (by simp)
    show (if r.2.2 = true then _ else _) = _
    rw [if_neg (by simpa using h0)]
    exact ih (fun j hj => h (j + 1) (by simpa using hj))
/-- The rules' functions say what they say. -/
def Rul (V : Value) (rs : List Rule) : Prop := ∀ k, k < rs.length → (∀ (args : Array Value) (w : World), Sem.run Try.prog (callFunc (rs.getD k (0, 0, false)).2.1 args) w = .ok (.enter (rs.getD k (0, 0, false)).2.1 args) w) ∧ Says (rs.getD k (0, 0, false)).2.1 V (rs.getD k (0, 0, false)).2.2

set_option maxRecDepth 100000 in
set_option maxHeartbeats 2000000 in
theorem first_any (V : Value) (rs : List Rule) (n g : Nat) (w : World) (hn : n = rs.length) (h4 : n ≤ 5) (hR : Rul V rs) (hg : w.heap[g]? = some (.cells (ruC V rs) 62 (0, 0))) :
    Calls Try.prog 46 #[.slice (some ⟨g, 0, none⟩) n n] w fun e w' => e = .returned (.int .i64 (fstK rs)) ∧ Below w.heap.size w w' := by
  have HR := Lib.hid hR
  have HG := Lib.hid hg
  have HN := Lib.hid hn
  clear hR hg hn
  go_enter Try.func46, Try.ntmps46
  go_wp2_with fail
  go_loopw [4, 7] (fun p i wr => ∃ k : Nat, k ≤ n ∧ i = .int .i64 k ∧ Hid (∀ j, j < k → (rs.getD j (0, 0, false)).2.2 = false) ∧ Hid (wr.heap[g]? = some (.cells (ruC V rs) 62 (0, 0)) ∧ Below w.heap.size w wr)) (fun _ i _ => n - (intOf i).toNat)
  case atStart => exact ⟨0, by omega, rfl, fun j hj => by omega, HG.out, Below.refl _ _⟩
  case round =>
    obtain ⟨k, hk, rfl, hp, hb⟩ := hrel
    by_cases hlt : k < n
    · have i1 : (0 : Int) ≤ (k : Int) := by omega
      have i2 : (k : Int) < (n : Int) := by omega
      have hkl : k < rs.length := by rw [← HN.out]; exact hlt
      obtain ⟨q0, q1⟩ := ruC_get V rs k hkl
      have c0 : wr.cell? ⟨g, k * 2, none⟩ = _ := setRow_cell hb.out.1 q0
      have c1 : wr.cell? ⟨g, k * 2 + 1, none⟩ = _ := setRow_cell hb.out.1 q1
      obtain ⟨he, hs⟩ := HR.out k hkl
      have HS := Lib.hid hs
      have HA := Lib.hid (fstK_at rs k hkl hp.out)
      clear q0 q1 hs
      have HB : Hid (∀ b, (rs.getD k (0, 0, false)).2.2 = b → b = false → ∀ j, j < k + 1 → (rs.getD j (0, 0, false)).2.2 = false) := fun b e1 e2 j hj => by
        by_cases e : j = k
        · subst e; rw [e1, e2]
        · exact hp.out j (by omega)
      generalize rs.getD k (0, 0, false) = r at *
      obtain ⟨m, f, b⟩ := r
      simp only [] at c0 c1 he HS HA HB
      go_wp2_with fail
      refine (HS.out _).mono ?_
      rintro e w2 ⟨rfl, hb2⟩
      have B2 : Hid (w2.heap[g]? = some (.cells (ruC V rs) 62 (0, 0)) ∧ Below w.heap.size w w2) := ⟨bkeep (bfirst _ _ hb2).2 hb.out.1, btrans hb.out.2 (bfirst _ _ hb2).2⟩
      have d0 : w2.cell? ⟨wr.heap.size, 0, none⟩ = some (.int .i64 m) := setRow_cell (bfirst _ _ hb2).1 rfl
      clear hb2 c0 c1 hb he
      cases b with
      | true =>
        have HA2 := Lib.hid (HA.out rfl)
        clear HA HB
        go_wp2_with fail
        go_ret
        exact ⟨ret_int HA2.out.symm, B2.out.2⟩
      | false =>
        have HB2 := Lib.hid (HB.out false rfl rfl)
        clear HA HB
        go_wp2_with fail
        go_roundw
        case rel => exact ⟨k + 1, by omega, by go_num, HB2, B2⟩
        case measure => simp [intOf]; omega
    · obtain rfl : k = n := by omega
      go_wp2_with fail
      go_ret
      exact ⟨ret_int (fstK_none rs (by rw [← HN.out]; exact hp.out)).symm, hb.out.2⟩

set_option maxHeartbeats 1000000 in
theorem writable_any (t : T) (w : World) : Calls Try.prog 48 #[TV t] w fun e w' => e = .returned (.bool (mayB t)) ∧ Below w.heap.size w w' := by
  rw [← hnd_may t]
  have hl := hnd_len t
  go_enter Try.func48, Try.ntmps48
  go_wp2_with fail
  refine (hinders_any t _).mono ?_
  rintro e w1 ⟨v, rfl, hi, hb⟩
  obtain ⟨a, len, cap, rfl, rfl, _, _⟩ := hi
  have B1 := Lib.hid (bfirst _ _ hb).2
  clear hb
  go_wp2_with fail
  go_ret
  exact ⟨rfl, B1.out⟩
set_option maxHeartbeats 1000000 in
theorem quiet_any (t : T) (w : World) : Calls Try.prog 54 #[TV t] w fun e w' => e = .returned (.bool (decide (0 < t.ia) && mayB t)) ∧ Below w.heap.size w w' := by
  by_cases h : 0 < t.ia
  · have hd : decide (0 < t.ia) = true := decide_eq_true h
    rw [hd, Bool.true_and]
    have WA := Lib.hid (writable_any t)
    generalize mayB t = m at *
    go_enter Try.func54, Try.ntmps54
    go_wp2_with fail
    refine (WA.out _).mono ?_
    rintro e w1 ⟨rfl, hb⟩
    have B1 := Lib.hid (bfirst _ _ hb).2
    clear hb
    go_wp2_with fail
    go_ret
    exact ⟨rfl, B1.out⟩
  · have hd : decide (0 < t.ia) = false := decide_eq_false h
    rw [hd]
    go_enter Try.func54, Try.ntmps54
    go_wp2_with fail
    go_ret
    exact ⟨rfl, ((Below.refl _ _).alloc (Nat.le_refl _) _)⟩
theorem dir_fst (t : T) : fstK [(1, 47, decide (0 < t.ob)), (4, 48, mayB t), (5, 49, decide (0 < t.wr) || decide (0 < t.op)), (6, 50, true)] = dir t := by
  unfold dir fstK fstK fstK fstK fstK
  simp only [decide_eq_true_eq, if_true]
theorem bgd_fst (t : T) : fstK [(0, 51, !t.aw), (1, 47, decide (0 < t.ob)), (2, 52, decide (t.ia < t.tg) && decide (0 < t.ac)), (3, 53, decide (0 < t.ia) && t.rf), (4, 54, decide (0 < t.ia) && mayB t)] = bgd t := by
  unfold bgd fstK fstK fstK fstK fstK fstK
  simp only [decide_eq_true_eq, Bool.not_eq_true']
theorem rul_of {V : Value} {rs : List Rule} (h : ∀ r, r ∈ rs → (∀ (args : Array Value) (w : World), Sem.run Try.prog (callFunc r.2.1 args) w = .ok (.enter r.2.1 args) w) ∧ Says r.2.1 V r.2.2) : Rul V rs := by
  intro k hk
  have : rs.getD k (0, 0, false) ∈ rs := by simp [List.getD, hk]
  exact h _ this

set_option maxRecDepth 100000 in
set_option maxHeartbeats 1000000 in
theorem direct_any (t : T) (w : World) : Calls Try.prog 35 #[TV t] w fun e w' => e = .returned (.int .i64 (dir t)) ∧ Below w.heap.size w w' := by
  have R : Hid (Rul (TV t) [(1, 47, decide (0 < t.ob)), (4, 48, mayB t), (5, 49, decide (0 < t.wr) || decide (0 < t.op)), (6, 50, true)]) := rul_of (by
    intro r hr
    simp only [List.mem_cons, List.not_mem_nil, or_false] at hr
    rcases hr with rfl | rfl | rfl | rfl
    · exact ⟨enters_of Try.func47 (by kernel_rfl) rfl, fun w => objects_any t w⟩
    · exact ⟨enters_of Try.func48 (by kernel_rfl) rfl, fun w => writable_any t w⟩
    · exact ⟨enters_of Try.func49 (by kernel_rfl) rfl, fun w => flying_any t w⟩
    · exact ⟨enters_of Try.func50 (by kernel_rfl) rfl, fun w => always_any t w⟩)
  rw [← dir_fst t]
  generalize hm : fstK _ = m
  have HM := Lib.hid hm
  clear hm
  go_enter Try.func35, Try.ntmps35
  go_wp2_with fail
  refine (first_any (TV t) _ 4 _ _ rfl (by omega) R.out (h2_1 _ _ _)).mono ?_
  rintro e w1 ⟨rfl, hb⟩
  have B1 := Lib.hid (btrans (((Below.refl _ _).alloc (Nat.le_refl _) _).alloc (by simp only [World.size_alloc] <;> omega) _) hb)
  clear hb
  rw [HM.out]
  go_wp2_with fail
  go_ret
  exact ⟨rfl, B1.out⟩
set_option maxRecDepth 100000 in
set_option maxHeartbeats 1000000 in
theorem background_any (t : T) (w : World) : Calls Try.prog 38 #[TV t] w fun e w' => e = .returned (.int .i64 (bgd t)) ∧ Below w.heap.size w w' := by
  have R : Hid (Rul (TV t) [(0, 51, !t.aw), (1, 47, decide (0 < t.ob)), (2, 52, decide (t.ia < t.tg) && decide (0 < t.ac)), (3, 53, decide (0 < t.ia) && t.rf), (4, 54, decide (0 < t.ia) && mayB t)]) := rul_of (by
    intro r hr
    simp only [List.mem_cons, List.not_mem_nil, or_false] at hr
    rcases hr with rfl | rfl | rfl | rfl | rfl
    · exact ⟨enters_of Try.func51 (by kernel_rfl) rfl, fun w => asleep_any t w⟩
    · exact ⟨enters_of Try.func47 (by kernel_rfl) rfl, fun w => objects_any t w⟩
    · exact ⟨enters_of Try.func52 (by kernel_rfl) rfl, fun w => short_any t w⟩
    · exact ⟨enters_of Try.func53 (by kernel_rfl) rfl, fun w => referenced_any t w⟩
    · exact ⟨enters_of Try.func54 (by kernel_rfl) rfl, fun w => quiet_any t w⟩)
  rw [← bgd_fst t]
  generalize hm : fstK _ = m
  have HM := Lib.hid hm
  clear hm
  go_enter Try.func38, Try.ntmps38
  go_wp2_with fail
  refine (first_any (TV t) _ 5 _ _ rfl (by omega) R.out (h2_1 _ _ _)).mono ?_
  rintro e w1 ⟨rfl, hb⟩
  have B1 := Lib.hid (btrans (((Below.refl _ _).alloc (Nat.le_refl _) _).alloc (by simp only [World.size_alloc] <;> omega) _) hb)
  clear hb
  rw [HM.out]
  go_wp2_with fail
  go_ret
  exact ⟨rfl, B1.out⟩
end Go.Proofs.Ytfploaaelfjadaa
