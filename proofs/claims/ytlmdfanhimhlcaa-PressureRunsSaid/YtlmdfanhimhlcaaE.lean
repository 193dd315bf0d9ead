/- Helper facts for the statements of this seat; no statement itself. -/
import Derived.RangeFuncNested
import Derived.RangeFuncBound
import Derived.RangeFuncCalls
import Derived.RangeFuncLeaves
import Derived.Shelf.Abstract
import Derived.Shelf.RegionOpen
import Derived.WalkKit
import Derived.OwnWalkIn
import Derived.TacticsInMore
import Derived.LoopNIn
import Derived.LoopIn
import Derived.Outline
import Derived.Test.YtlmdfanhimhlcaaD
namespace Go.Proofs.Ytlmdfanhimhlcaa
open Go.RowKit Go.Shelf
set_option linter.unusedSimpArgs false
set_option linter.unusedVariables false
set_option linter.unnecessarySimpa false
attribute [local go_sem] Oper.semAt_some

/-- Whether the reclaimer is awake behind so many numbers. -/
def awk (b c : Int) (l : List Int) : Nat → Bool
  | 0 => false
  | k + 1 => nxt b c (awk b c l k) (l.getD k 0)
/-- What has come when k rounds are over. -/
def upF {α : Type} (N : Nat) (f : Fin N → α) (k : Nat) : List α := ((List.finRange N).take k).map f
theorem upF_zero {α : Type} (N : Nat) (f : Fin N → α) : upF N f 0 = [] := by simp [upF]
theorem upF_succ {α : Type} (N : Nat) (f : Fin N → α) (k : Nat) (h : k < N) : upF N f (k + 1) = upF N f k ++ [f ⟨k, h⟩] := by
  unfold upF
  rw [List.take_succ_eq_append_getElem (by simpa using h), List.map_append]
  simp
theorem upF_length {α : Type} (N : Nat) (f : Fin N → α) (k : Nat) (h : k ≤ N) : (upF N f k).length = k := by simp [upF, h]
abbrev awP (b c : Int) (l : List Int) (N : Nat) (j : Fin N) : Fin N × Bool := (j, awk b c l (j.1 + 1))
/-- Two blocks stay as they are. -/
def KB (p q : Nat) (W W' : World) : Prop := W'.heap[p]? = W.heap[p]? ∧ W'.heap[q]? = W.heap[q]?
theorem KB.trans {p q : Nat} {A B C : World} (h : KB p q A B) (k : KB p q B C) : KB p q A C := ⟨k.1.trans h.1, k.2.trans h.2⟩
theorem grown_of {W W' : World} (h : Below W.heap.size W W') : W.grownBy W' none := ⟨h.os, h.tape, h.output, h.size, fun k hk _ => h.block k hk⟩

set_option maxRecDepth 100000 in
set_option maxHeartbeats 2000000 in
theorem states1_in (n : Nat) (hn : 1 ≤ n) (l Bs Bm b0 off len cap : Nat) (zs : List Int) (a b c : Int) (h4 : len ≤ 400) (J Jx : List (Fin len × Bool) → World → Prop) (B : Nat) (hJ : AbidesFrom B J)
    (hY : ∀ pre x W1, J pre W1 → pre.length < len → YieldAt Fence.wide (n - 1) Try.prog l #[.int .i64 ((x.1 : Nat) : Int), .bool x.2] W1 fun e W' =>
      (e = .returned (.bool true) ∧ J (pre ++ [x]) W' ∧ KB Bm b0 W1 W') ∨ (e = .returned (.bool false) ∧ Jx (pre ++ [x]) W'))
    (W : World) (hBs : W.cell? ⟨Bs, 0, none⟩ = some (.slice (some ⟨b0, off, none⟩) len cap)) (hBm : W.heap[Bm]? = some (.cells (mC a b c) 23 (0, 0)))
    (hc : ∀ j, j < len → W.cell? ⟨b0, off + j, none⟩ = some (.int .i64 (zs.getD j 0))) (h0 : J [] W) :
    CallsIn Fence.wide n Try.prog 46 #[.func (.yield l) #[] #[], .pointer (some ⟨Bs, 0, none⟩), .pointer (some ⟨Bm, 0, none⟩)] W fun e W' => (∃ v, e = .returned v) ∧
      ((∃ ys, ys = upF len (awP b c zs len) len ∧ J ys W') ∨ (∃ pre, True ∧ Jx pre W')) := by
  have HC := Lib.hid hc
  have HM := Lib.hid hBm
  clear hc hBm
  refine callsIn_of_wp Try.func46 rfl trivial ?_ rfl
  simp only [Try.ntmps46, List.size_toArray, List.length_cons, List.length_nil, Nat.reduceAdd, Nat.reduceSub, Array.replicate_succ, Array.replicate_zero, List.push_toArray, List.append_toArray, List.nil_append, List.cons_append]
  gi_wp2_with fail
  gi_loopw [4, 9] (fun v i wr => ∃ k : Nat, k ≤ len ∧ i = .int .i64 k ∧ v = .bool (awk b c zs k) ∧ J (upF len (awP b c zs len) k) wr ∧ Hid (KB Bm b0 W wr)) (fun _ i _ => len - (intOf i).toNat)
  case atStart => exact ⟨0, Nat.zero_le _, rfl, rfl, h0, ⟨rfl, rfl⟩⟩
  case round =>
    obtain ⟨k, hk, rfl, rfl, hJs, hkb⟩ := hrel
    by_cases hlt : k < len
    · have cx : wr.cell? ⟨b0, off + k, none⟩ = some (.int .i64 (zs.getD k 0)) := by rw [World.cell?_of_block (w := W) hkb.out.2]; exact HC.out k hlt
      have MM := Lib.hid (hkb.out.1.trans HM.out)
      obtain ⟨q0, q1, q2⟩ := c3 MM.out
      have HA : Hid (awk b c zs (k + 1) = nxt b c (awk b c zs k) (zs.getD k 0)) := rfl
      generalize zs.getD k 0 = z at *
      generalize awk b c zs k = aw at *
      gi_wp2_with fail
      refine ⟨trivial, ?_⟩
      refine (callsIn_wide.2 (next_any a b c aw z _)).mono ?_
      rintro e w3 ⟨rfl, hb⟩
      have hJ3 := hJ _ _ _ none hJs (grown_of hb) (fun r e => by cases e)
      have K3 : Hid (KB Bm b0 W w3) := hkb.out.trans ⟨hb.block _ (lt_of_some MM.out), hb.block _ (cell_lt cx)⟩
      clear hb q0 q1 q2 cx
      rw [← HA.out]
      obtain ⟨fn, tmps, assign, body, hy, hR⟩ := hY _ (⟨k, hlt⟩, awk b c zs (k + 1)) w3 hJ3 (by rw [upF_length _ _ _ (by omega)]; exact hlt)
      dsimp only at hy
      generalize hg : awk b c zs (k + 1) = aw2 at *
      have HG := Lib.hid hg
      clear hg
      gi_wp2
      refine hR.mono ?_
      rintro e W4 (⟨rfl, hJ4, hk4⟩ | ⟨rfl, hJx4⟩)
      · gi_wp2
        go_roundw
        case rel => exact ⟨k + 1, by omega, by go_num, by rw [HG.out], by rw [upF_succ _ _ _ hlt]; show J (_ ++ [(⟨k, hlt⟩, awk b c zs (k + 1))]) _; rw [HG.out]; exact hJ4, K3.out.trans hk4⟩
        case measure => simp [intOf]; omega
      · gi_wp2
        refine bodyPost_ret (results_none rfl _ _ _) rfl ?_
        exact ⟨⟨_, rfl⟩, .inr ⟨_, trivial, hJx4⟩⟩
    · obtain rfl : k = len := by omega
      gi_wp2
      go_end0
      exact ⟨⟨_, rfl⟩, .inl ⟨_, rfl, hJs⟩⟩

set_option maxRecDepth 100000 in
set_option maxHeartbeats 1000000 in
theorem states1_nil {α : Type} (n l Bs Bm : Nat) (ad : Option Addr) (cap : Nat) (J : List α → World → Prop) (W : World) (hBs : W.cell? ⟨Bs, 0, none⟩ = some (.slice ad 0 cap)) (h0 : J [] W) :
    CallsIn Fence.wide n Try.prog 46 #[.func (.yield l) #[] #[], .pointer (some ⟨Bs, 0, none⟩), .pointer (some ⟨Bm, 0, none⟩)] W fun e W' => (∃ v, e = .returned v) ∧ J [] W' := by
  refine callsIn_of_wp Try.func46 rfl trivial ?_ rfl
  simp only [Try.ntmps46, List.size_toArray, List.length_cons, List.length_nil, Nat.reduceAdd, Nat.reduceSub, Array.replicate_succ, Array.replicate_zero, List.push_toArray, List.append_toArray, List.nil_append, List.cons_append]
  gi_wp2
  gi_loopw [9] (fun i wr => i = .int .i64 0 ∧ J [] wr) (fun _ _ => 0)
  case atStart => exact ⟨rfl, h0⟩
  case round =>
    obtain ⟨rfl, hJs⟩ := hrel
    gi_wp2
    go_end0
    exact ⟨⟨_, rfl⟩, hJs⟩

set_option maxHeartbeats 1000000 in
theorem states_any (a b c : Int) (ad : Option Addr) (m cap : Nat) (w : World) :
    Calls Try.prog 41 #[MV a b c, .slice ad m cap] w fun e w' => e = .returned (.func (.func 46) #[] #[.pointer (some ⟨w.heap.size + 1, 0, none⟩), .pointer (some ⟨w.heap.size, 0, none⟩)]) ∧ (w.alloc (.cells (mC a b c) 23)).alloc (.cells #[.slice ad m cap] 36) = w' := by
  go_enter Try.func41, Try.ntmps41
  go_wp2
  go_ret
  exact ⟨rfl, rfl⟩

/-- The iterator's word. -/
theorem states_stops (n : Nat) (hn : 1 ≤ n) (Bs Bm : Nat) (v : Value) (zs : List Int) (a b c : Int) (w : World) (b0 : Nat) (h4 : zs.length ≤ 400) (hBs : w.heap[Bs]? = some (.cells #[v] 36 (0, 0))) (hBm : w.heap[Bm]? = some (.cells (mC a b c) 23 (0, 0))) (hI : IsInts w v zs)
    (hb0 : zs ≠ [] → ∀ bx off len cap, v = .slice (some ⟨bx, off, none⟩) len cap → bx = b0) :
    SeqStopsK Fence.wide n Try.prog 46 #[.pointer (some ⟨Bs, 0, none⟩), .pointer (some ⟨Bm, 0, none⟩)] (fun x : Fin zs.length × Bool => #[Value.int .i64 ((x.1 : Nat) : Int), Value.bool x.2]) (KB Bm b0) (fun ys => ys = upF zs.length (awP b c zs zs.length) zs.length) (fun _ => True) zs.length w := fun l J Jx W hW hJ _ hY h0 => by
  have hs := c1 (bkeep hW hBs)
  have hm := bkeep hW hBm
  obtain ⟨ad, len, cap, rfl, hlen, _, hc⟩ := hI.keep hW
  by_cases hz : zs = []
  · subst hz
    obtain rfl : len = 0 := hlen
    exact (states1_nil n l Bs Bm ad cap J W hs h0).mono fun e W' ⟨he, hj⟩ => ⟨he, .inl ⟨_, rfl, hj⟩⟩
  rcases hc with rfl | ⟨bx, off, rfl, hc⟩
  · exact absurd rfl hz
  · obtain rfl : bx = b0 := hb0 hz bx off len cap rfl
    subst hlen
    exact states1_in n hn l Bs Bm bx off zs.length cap zs a b c h4 J Jx _ hJ hY W hs hm hc h0
end Go.Proofs.Ytlmdfanhimhlcaa
