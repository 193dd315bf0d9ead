/- Helper facts for the statements of this seat; no statement itself. -/
import Derived.Test.YtcicgccllhkolaaDoorU
import Derived.Deep.RegionHeld3
import Derived.Outline
namespace Go.Proofs.YtcicgccllhkolaaDoor
open Go.RowKit
set_option linter.unusedSimpArgs false
set_option linter.unusedVariables false
set_option linter.unnecessarySimpa false

/-- Nothing that lay has changed but one block. -/
def But (g : Nat) (w w' : World) : Prop := w'.os = w.os ∧ w'.tape = w.tape ∧ w'.output = w.output ∧ w.heap.size ≤ w'.heap.size ∧ ∀ k, k < w.heap.size → k ≠ g → w'.heap[k]? = w.heap[k]?
theorem But.os {g : Nat} {w w' : World} (h : But g w w') : w'.os = w.os := h.1
theorem But.tape {g : Nat} {w w' : World} (h : But g w w') : w'.tape = w.tape := h.2.1
theorem But.output {g : Nat} {w w' : World} (h : But g w w') : w'.output = w.output := h.2.2.1
theorem But.size {g : Nat} {w w' : World} (h : But g w w') : w.heap.size ≤ w'.heap.size := h.2.2.2.1
theorem But.block {g : Nat} {w w' : World} (h : But g w w') : ∀ k, k < w.heap.size → k ≠ g → w'.heap[k]? = w.heap[k]? := h.2.2.2.2
theorem But.refl (g : Nat) (w : World) : But g w w := ⟨rfl, rfl, rfl, Nat.le_refl _, fun _ _ _ => rfl⟩
theorem But.trans {g : Nat} {a b c : World} (h : But g a b) (k : But g b c) : But g a c :=
  ⟨k.os.trans h.os, k.tape.trans h.tape, k.output.trans h.output, Nat.le_trans h.size k.size, fun i hi hg => (k.block i (Nat.lt_of_lt_of_le hi h.size) hg).trans (h.block i hi hg)⟩
theorem But.of {g : Nat} {w w' : World} (h : Below w.heap.size w w') : But g w w' := ⟨h.os, h.tape, h.output, h.size, fun k hk _ => h.block k hk⟩
theorem But.alloc {g : Nat} {w w' : World} (h : But g w w') (o : Obj) : But g w (w'.alloc o) := h.trans (But.of ((Below.refl _ _).alloc (Nat.le_refl _) _))
theorem But.drew {g : Nat} {w w' : World} (h : But g w w') : But g w w'.drew := h.trans (But.of (Below.refl _ _).drew)
theorem But.row (g : Nat) (w : World) (cs : Array Value) : But g w (w.setRow g cs) := ⟨rfl, rfl, rfl, by simp, fun k _ hg => setRow_other w g k cs hg⟩
theorem But.below {g B : Nat} {w w' : World} (h : But g w w') (hB : B ≤ g) (hw : B ≤ w.heap.size) : Below B w w' := ⟨h.os, h.tape, h.output, h.size, fun k hk => h.block k (by omega) (by omega)⟩
theorem But.heap {g k : Nat} {w w' : World} {o : Obj} (h : But g w w') (hk : w.heap[k]? = some o) (hg : k ≠ g) : w'.heap[k]? = some o := (h.block k (lt_of_some hk) hg).trans hk
theorem But.cell {g : Nat} {w w' : World} {a : Addr} {v : Value} (h : But g w w') (hc : w.cell? a = some v) (hg : a.block ≠ g) : w'.cell? a = some v := by
  rw [World.cell?_of_block (w := w) (h.block a.block (cell_lt hc) hg)]; exact hc

/-- Cells of bools. -/
def bC (A : List Bool) : Array Value := (A.map Value.bool).toArray
theorem bC_size (A : List Bool) : (bC A).size = A.length := by simp [bC]
theorem bC_get (A : List Bool) (k : Nat) (h : k < A.length) : (bC A)[k]? = some (.bool (A.getD k false)) := by simp [bC, List.getD, h]
theorem bC_set (A : List Bool) (k : Nat) (b : Bool) : (bC A).setIfInBounds k (.bool b) = bC (A.set k b) := by simp [bC, List.map_set]
theorem bC_cell {w : World} {g : Nat} {t : TypeId} {A : List Bool} (h : w.heap[g]? = some (.cells (bC A) t (0, 0))) (k : Nat) (hk : k < A.length) : w.cell? ⟨g, k, none⟩ = some (.bool (A.getD k false)) := setRow_cell h (bC_get A k hk)
theorem bC_store {w : World} {g : Nat} {t : TypeId} {A : List Bool} (h : w.heap[g]? = some (.cells (bC A) t (0, 0))) (k : Nat) (b : Bool) : w.setCell ⟨g, k, none⟩ (.bool b) = w.setRow g (bC (A.set k b)) := by
  rw [setCell_eq_setRow w g k _ t (0, 0) _ h, bC_set]
theorem bC_far {w : World} {g : Nat} {t : TypeId} {A : List Bool} (h : w.heap[g]? = some (.cells (bC A) t (0, 0))) {b o : Nat} {n : Int} (hc : w.cell? ⟨b, o, none⟩ = some (.int .i64 n)) : b ≠ g := by
  intro e
  subst e
  rw [cell_of_row w b o (bC A) t (0, 0) h] at hc
  unfold bC at hc
  simp at hc

/-- The states that are marked after at most so many events. -/
def mk : Nat → Int → Int → Int → List Bool → List Bool
  | 0, s, _, _, A => A.set s.toNat true
  | n + 1, s, r, c, A => (evTo s r 6).foldl (fun B e => mk n (aS s r e.1) (aR s r e.1) (aC s c e.1 e.2) B) (A.set s.toNat true)
theorem foldl_len {α : Type} (f : List Bool → α → List Bool) (hf : ∀ B e, (f B e).length = B.length) : ∀ (l : List α) (A : List Bool), (l.foldl f A).length = A.length := by
  intro l
  induction l with
  | nil => intro A; rfl
  | cons e l ih => intro A; rw [List.foldl_cons, ih, hf]
theorem mk_len (n : Nat) : ∀ (s r c : Int) (A : List Bool), (mk n s r c A).length = A.length := by
  induction n with
  | zero => intro s r c A; simp [mk]
  | succ n ih => intro s r c A; rw [mk, foldl_len _ (fun B e => ih _ _ _ B)]; simp
/-- The marks when the first events are done. -/
def mkTo (n : Nat) (s r c : Int) (A : List Bool) (l : List (Int × Int)) (k : Nat) : List Bool := (l.take k).foldl (fun B e => mk n (aS s r e.1) (aR s r e.1) (aC s c e.1 e.2) B) A
theorem mkTo_succ (n : Nat) (s r c : Int) (A : List Bool) (l : List (Int × Int)) (k : Nat) (hk : k < l.length) :
    mkTo n s r c A l (k + 1) = mk n (aS s r (l.getD k (0, 0)).1) (aR s r (l.getD k (0, 0)).1) (aC s c (l.getD k (0, 0)).1 (l.getD k (0, 0)).2) (mkTo n s r c A l k) := by
  unfold mkTo
  rw [List.take_succ_eq_append_getElem hk, List.foldl_append]
  simp [List.getD, hk]
theorem mkTo_len (n : Nat) (s r c : Int) (A : List Bool) (l : List (Int × Int)) (k : Nat) : (mkTo n s r c A l k).length = A.length := foldl_len _ (fun B e => mk_len n _ _ _ B) _ _
theorem mk_succ (n : Nat) (s r c : Int) (A : List Bool) : mk (n + 1) s r c A = mkTo n s r c (A.set s.toNat true) (evTo s r 6) (evTo s r 6).length := by
  rw [mk, mkTo, List.take_length]
/-- Every event of the list is possible. -/
theorem evTo_ok (s r : Int) (j : Nat) (hj : j ≤ 6) : ∀ e ∈ evTo s r j, 1 ≤ e.1 ∧ e.1 ≤ 6 ∧ evk e.1 e.2 = 0 ∧ psb s r e.1 = 0 := by
  induction j with
  | zero => intro e he; simp [evTo] at he
  | succ j ih =>
    intro e he
    unfold evTo at he
    by_cases hp : psb s r ((j : Int) + 1) = 0
    · rw [if_pos hp, List.mem_append] at he
      rcases he with he | he
      · exact ih (by omega) e he
      · simp at he
        subst he
        refine ⟨by simp only []; omega, by simp only []; omega, ?_, hp⟩
        have : j = 0 ∨ j = 1 ∨ j = 2 ∨ j = 3 ∨ j = 4 ∨ j = 5 := by omega
        rcases this with rfl | rfl | rfl | rfl | rfl | rfl <;> rfl
    · rw [if_neg hp] at he
      exact ih (by omega) e he
theorem after_chk {s r c k p : Int} (h : chk s r c = 0) (he : evk k p = 0) (hp : psb s r k = 0) : chk (aS s r k) (aR s r k) (aC s c k p) = 0 := by
  have hn : nE s r k p = 0 := by unfold nE; rw [if_pos he, hp]
  have := chk_next (k := k) (p := p) h hn
  unfold nS nR nC at this
  rwa [if_pos hn, if_pos hn, if_pos hn] at this

theorem getD_mem (l : List (Int × Int)) (j : Nat) (h : j < l.length) : l.getD j (0, 0) ∈ l := by
  have e : l.getD j (0, 0) = l[j] := by simp [List.getD, h]
  rw [e]; exact List.getElem_mem _

theorem six6 {W : World} {gw gp ge : Nat} {f : Value} {a b c d e : Int} (h1 : W.heap[gw]? = some (.cells #[f] 62 (0, 0))) (h2 : W.heap[gp]? = some (.cells (pgC a b c) 23 (0, 0))) (h3 : W.heap[ge]? = some (.cells #[.int .i64 d, .int .i64 e] 32 (0, 0))) :
    W.cell? ⟨gw, 0, none⟩ = some f ∧ W.cell? ⟨gp, 0, none⟩ = some (.int .i64 a) ∧ W.cell? ⟨gp, 1, none⟩ = some (.int .i64 b) ∧ W.cell? ⟨gp, 2, none⟩ = some (.int .i64 c) ∧ W.cell? ⟨ge, 0, none⟩ = some (.int .i64 d) ∧ W.cell? ⟨ge, 1, none⟩ = some (.int .i64 e) :=
  ⟨c1 h1, (c3 h2).1, (c3 h2).2.1, (c3 h2).2.2, (c2 h3).1, (c2 h3).2⟩
theorem psb2 {s r k : Int} (h : k = 2) (hp : psb s r k = 0) : 1 ≤ r := by
  subst h
  unfold psb at hp
  repeat (first | split at hp | omega)

/-- What marking leaves. -/
def Marked (g : Nat) (t : TypeId) (A : List Bool) (w : World) (e : Ending) (w' : World) : Prop := (∃ v, e = .returned v) ∧ But g w w' ∧ w'.heap[g]? = some (.cells (bC A) t (0, 0))
/-- The closure's own cell. -/
abbrev fnV (g gw : Nat) : Value := .func (.func 39) #[] #[.pointer (some ⟨g, 0, none⟩), .pointer (some ⟨gw, 0, none⟩)]

set_option maxHeartbeats 2000000 in
theorem walk0 (s r c : Int) (A : List Bool) (g gw : Nat) (t : TypeId) (w : World) (hv : chk s r c = 0) (hA : A.length = 7) (hg : w.heap[g]? = some (.cells (bC A) t (0, 0))) :
    Calls Tryd.prog 39 #[WV s r c, .int .i64 0, .pointer (some ⟨g, 0, none⟩), .pointer (some ⟨gw, 0, none⟩)] w (Marked g t (mk 0 s r c A) w) := by
  obtain ⟨hs1, hs2, _, _⟩ := chk_ok hv
  have HG := Lib.hid hg
  have hgl := lt_of_some hg
  obtain ⟨k, rfl⟩ : ∃ k : Nat, s = k := ⟨s.toNat, by omega⟩
  have cb := bC_cell hg k (by omega)
  have fb := fr (j := k) hg
  have i1 : (0 : Int) ≤ (k : Int) := by omega
  have i2 : (k : Int) < 7 := by omega
  clear hv hg
  go_enter Tryd.func39, Tryd.ntmps39
  go_wp2_with fail
  refine bodyPost_ret (results_none rfl _ _ _) rfl ?_
  rw [bC_store HG.out]
  exact ⟨⟨_, rfl⟩, (But.row _ _ _).alloc _, by rw [hold1 (setRow_heap _ _ _ _ _ _ HG.out)]; rfl⟩

set_option maxHeartbeats 4000000 in
theorem walk_any (n : Nat) : ∀ (s r c : Int) (A : List Bool) (g gw : Nat) (t : TypeId) (w : World), n ≤ 6 → chk s r c = 0 → A.length = 7 → w.heap[g]? = some (.cells (bC A) t (0, 0)) → w.heap[gw]? = some (.cells #[fnV g gw] 62 (0, 0)) → gw ≠ g →
    Calls Tryd.prog 39 #[WV s r c, .int .i64 (n : Int), .pointer (some ⟨g, 0, none⟩), .pointer (some ⟨gw, 0, none⟩)] w (Marked g t (mk n s r c A) w) := by
  induction n with
  | zero => intro s r c A g gw t w _ hv hA hg _ _; exact walk0 s r c A g gw t w hv hA hg
  | succ n ih =>
    intro s r c A g gw t w hn hv hA hg hgw hne
    have IH := Lib.hid ih
    clear ih
    obtain ⟨hs1, hs2, hr1, hr2⟩ := chk_ok hv
    have HG := Lib.hid hg
    have HW := Lib.hid hgw
    have HV := Lib.hid hv
    have hgl := lt_of_some hg
    have hwl := lt_of_some hgw
    obtain ⟨k, rfl⟩ : ∃ k : Nat, s = k := ⟨s.toNat, by omega⟩
    have cb := bC_cell hg k (by omega)
    have fb := fr (j := k) hg
    have i1 : (0 : Int) ≤ (k : Int) := by omega
    have i2 : (k : Int) < 7 := by omega
    have hm : Hid (mk (n + 1) (k : Int) r c A = mkTo n (k : Int) r c (A.set k true) (evTo (k : Int) r 6) (evTo (k : Int) r 6).length) := mk_succ n (k : Int) r c A
    clear hv hg hgw
    have hn0 : (((n + 1 : Nat) : Int) == 0) = false := by rw [beq_eq_false_iff_ne]; omega
    rw [show ((n + 1 : Nat) : Int) = (n : Int) + 1 by omega] at hn0 ⊢
    go_enter Tryd.func39, Tryd.ntmps39
    go_wp2_with fail
    rw [bC_store HG.out]
    refine (events_any (k : Int) r c _ HV.out).mono ?_
    rintro e w2 ⟨v, rfl, ⟨a, m, cap, rfl, hm1, hm2, hl⟩, hb⟩
    have H2g := Lib.hid (bkeep hb (hold1 (setRow_heap _ _ _ _ _ _ HG.out) _))
    have H2w := Lib.hid (bkeep hb (hold1 ((setRow_other w g gw (bC (A.set k true)) hne).trans HW.out) _))
    have H2p : Hid (w2.heap[w.heap.size]? = some (.cells (pgC (k : Int) r c) 23 (0, 0))) := by
      have := bkeep hb (h1_0 _ _)
      rwa [size_setRow] at this
    have B2 : Hid (But g w w2) := ((But.row g w _).alloc _).trans (But.of hb)
    clear hb HG HW cb fb
    have HO := Lib.hid (evTo_ok (k : Int) r 6 (by omega))
    have hle := evTo_len (k : Int) r 6
    obtain ⟨l, hlq⟩ : ∃ l, l = evTo (k : Int) r 6 := ⟨_, rfl⟩
    rw [← hlq] at HO hle hm1 hm2 hl hm
    clear hlq
    rcases hl with rfl | ⟨b, off, rfl, hl⟩
    · obtain rfl : m = 0 := hm1
      clear hm2 hle
      go_wp2_with fail
      refine wp_loop_rounds 1 ?_
      rw [rounds_succ]
      go_wp2_with fail
      refine bodyPost_ret (results_none rfl _ _ _) rfl ?_
      exact ⟨⟨_, rfl⟩, B2.out, by rw [hm.out]; exact H2g.out⟩
    · have HL := Lib.hid hl
      have HN := Lib.hid hm1
      have hm6 : m ≤ 6 := by omega
      clear hl hm1 hm2 hle
      go_wp2_with fail
      go_loopw [16] (fun i wr => ∃ j : Nat, j ≤ m ∧ i = .int .i64 j ∧ Hid (wr.heap[g]? = some (.cells (bC (mkTo n (k : Int) r c (A.set k true) l j)) t (0, 0))) ∧ Hid (But g w2 wr)) (fun i _ => m - (intOf i).toNat)
      case atStart => exact ⟨0, by omega, rfl, H2g, But.refl _ _⟩
      case round =>
        obtain ⟨j, hj, rfl, hgj, hbj⟩ := hrel
        by_cases hjm : j < m
        · obtain ⟨d0, d1⟩ := HL.out j (by have := HN.out; omega)
          have hbg : b ≠ g := bC_far H2g.out d0
          have c0 := hbj.out.cell d0 hbg
          have c1 := hbj.out.cell d1 hbg
          have HT := Lib.hid (mkTo_succ n (k : Int) r c (A.set k true) l j (by have := HN.out; omega))
          have HE := Lib.hid (HO.out (l.getD j (0, 0)) (getD_mem l j (by have := HN.out; omega)))
          generalize (l.getD j (0, 0)).1 = kk at *
          generalize (l.getD j (0, 0)).2 = pp at *
          clear d0 d1
          have i3 : (0 : Int) ≤ (j : Int) := by omega
          have i4 : (j : Int) < (m : Int) := by omega
          have hpg : w.heap.size ≠ g := by omega
          have P5 := Lib.hid (hbj.out.heap H2p.out hpg)
          have W5 := Lib.hid (hbj.out.heap H2w.out hne)
          obtain ⟨q0, q1, q2⟩ := c3 P5.out
          have f0 : wr.cell? ⟨gw, 0, none⟩ = some (fnV g gw) := setRow_cell W5.out rfl
          have hgl2 := lt_of_some W5.out
          have hpl2 := lt_of_some P5.out
          go_wp2_with fail
          obtain ⟨W6, hW6⟩ : ∃ x, x = wr.alloc (.cells #[.int .i64 kk, .int .i64 pp] 32) := ⟨_, rfl⟩
          have hn6 : wr.heap.size ≠ g := Nat.ne_of_gt (lt_of_some hgj.out)
          have E6 : Hid (W6.heap[wr.heap.size]? = some (.cells #[.int .i64 kk, .int .i64 pp] 32 (0, 0))) := by rw [hW6]; exact h1_0 _ _
          have P6 : Hid (W6.heap[w.heap.size]? = some (.cells (pgC (k : Int) r c) 23 (0, 0))) := by rw [hW6]; exact hold1 P5.out _
          have W6w : Hid (W6.heap[gw]? = some (.cells #[fnV g gw] 62 (0, 0))) := by rw [hW6]; exact hold1 W5.out _
          have G6 : Hid (W6.heap[g]? = some (.cells (bC (mkTo n (k : Int) r c (A.set k true) l j)) t (0, 0))) := by rw [hW6]; exact hold1 hgj.out _
          have B6 : Hid (But g w2 W6) := by rw [hW6]; exact hbj.out.alloc _
          rw [← hW6]
          clear hW6 c0 c1 f0 q0 q1 q2 P5 W5 hgj hbj
          have s0 := six6 W6w.out P6.out E6.out
          have hlk : (mkTo n (k : Int) r c (A.set k true) l j).length = 7 := by rw [mkTo_len, List.length_set]; exact hA
          have HLK := Lib.hid hlk
          clear hlk
          have hsub : IntKind.i64.wrap (n : Int) = (n : Int) := IntWalk.i64_in _ (by omega)
          go_region_held3 (fun w' => w'.cell? ⟨gw, 0, none⟩ = some (fnV g gw) ∧ w'.cell? ⟨w.heap.size, 0, none⟩ = some (.int .i64 (k : Int)) ∧ w'.cell? ⟨w.heap.size, 1, none⟩ = some (.int .i64 r) ∧ w'.cell? ⟨w.heap.size, 2, none⟩ = some (.int .i64 c) ∧ w'.cell? ⟨wr.heap.size, 0, none⟩ = some (.int .i64 kk) ∧ w'.cell? ⟨wr.heap.size, 1, none⟩ = some (.int .i64 pp))
            (first | exact s0 | exact s1 | exact s2)
            (first | (go_at_call 40; (with_reducible refine (after_any (k : Int) r c kk pp W6.drew hr1 hr2 HE.out.1 HE.out.2.1 (fun h2 => psb2 h2 HE.out.2.2.2)).mono ?_); rintro e w7 ⟨rfl, hb⟩; have G7 := Lib.hid (bkeep (wr := W6.drew) hb G6.out); have W7 := Lib.hid (bkeep (wr := W6.drew) hb W6w.out); have P7 := Lib.hid (bkeep (wr := W6.drew) hb P6.out); have E7 := Lib.hid (bkeep (wr := W6.drew) hb E6.out); have B7 := Lib.hid (B6.out.drew.trans (But.of hb)); have s1 := six6 W7.out P7.out E7.out; clear hb) | (go_at_call 39; (with_reducible refine (IH.out _ _ _ _ g gw t w7 ?h1 ?h2 HLK.out G7.out W7.out hne).mono ?_); (case h1 => omega); (case h2 => exact after_chk HV.out HE.out.2.2.1 HE.out.2.2.2); rintro e w8 ⟨⟨v, rfl⟩, hb, hg8⟩; have G8 := Lib.hid hg8; have B8 := Lib.hid (B7.out.trans hb); have s2 := six6 (hb.heap W7.out hne) (hb.heap P7.out hpg) (hb.heap E7.out hn6); clear hb hg8))
          go_wp2_with fail
          go_roundw
          case rel => exact ⟨j + 1, by omega, by go_num, by rw [HT.out]; exact G8, B8⟩
          case measure => simp [intOf]; omega
        · have hmj : m ≤ j := by omega
          go_wp2_with fail
          refine bodyPost_ret (results_none rfl _ _ _) rfl ?_
          exact ⟨⟨_, rfl⟩, B2.out.trans hbj.out, by rw [hm.out, ← HN.out, show m = j by omega]; exact hgj.out⟩
end Go.Proofs.YtcicgccllhkolaaDoor
