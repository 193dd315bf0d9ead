/- Helper facts for the statements of this seat; no statement itself. -/
import Derived.Test.YtbdhjiadomifeaaV
import Derived.Deep.RegionHeld3
namespace Go.Proofs.Ytbdhjiadomifeaa
open Go.RowKit
set_option linter.unusedSimpArgs false
set_option linter.unusedVariables false
set_option linter.unnecessarySimpa false

theorem step2 {w wr w' : World} {g h : Nat} {a b : Obj} (hb : Below wr.heap.size wr w') (H : Hid (wr.heap[g]? = some a ∧ wr.heap[h]? = some b ∧ Below w.heap.size w wr)) : Hid (w'.heap[g]? = some a ∧ w'.heap[h]? = some b ∧ Below w.heap.size w w') :=
  ⟨bkeep hb H.out.1, bkeep hb H.out.2.1, btrans H.out.2.2 hb⟩
theorem step2D {w wr w' : World} {g h : Nat} {a b : Obj} (hb : Below wr.drew.heap.size wr.drew w') (H : Hid (wr.heap[g]? = some a ∧ wr.heap[h]? = some b ∧ Below w.heap.size w wr)) : Hid (w'.heap[g]? = some a ∧ w'.heap[h]? = some b ∧ Below w.heap.size w w') :=
  ⟨bkeep (wr := wr.drew) hb H.out.1, bkeep (wr := wr.drew) hb H.out.2.1, btrans (wr := wr.drew) H.out.2.2.drew hb⟩

set_option maxHeartbeats 4000000 in
set_option maxRecDepth 100000 in
theorem pageLooks_walk (c d : List Nat) (v : Nat) (w : World) (hc : Pg c) (hd : Pg d) (hv : v < 18446744073709551616) :
    Calls Try.prog 7 #[.agg (W8 c), .agg (W8 d), .int .u64 v] w fun e w' => e = .returned (.bool true) ∧ Below w.heap.size w w' := by
  have E1 := Lib.hid (W8_eight hc.1)
  have E2 := Lib.hid (W8_eight hd.1)
  have he := run_eql24 (fillK v 8) (fillK v 8) (fillK_length v 8) (fillK_length v 8)
  rw [beq_self_eq_true] at he
  have hsm : Hid ((diffL c d 8 == diffL c d 8) = true) := by show _ = _; simp
  go_enter Try.func7, Try.ntmps7
  go_wp2_with fail
  obtain ⟨w0, hw0⟩ : ∃ w0, w0 = (w.alloc (.cells (W8 c) 24)).alloc (.cells (W8 d) 24) := ⟨_, rfl⟩
  have H0 : Hid (w0.heap[w.heap.size]? = some (.cells (W8 c) 24 (0, 0)) ∧ w0.heap[w.heap.size + 1]? = some (.cells (W8 d) 24 (0, 0)) ∧ Below w.heap.size w w0) := by
    rw [hw0]; exact ⟨h2_0 _ _ _, h2_1 _ _ _, (((Below.refl _ _).alloc (Nat.le_refl _) _).alloc (by simp only [World.size_alloc] <;> omega) _)⟩
  rw [← hw0]
  clear hw0
  have s0 := sixteen hc.1 hd.1 H0.out.1 H0.out.2.1
  go_region_held3 (fun w' => w'.cell? ⟨w.heap.size, 0, none⟩ = some (.int .u64 ((gd c 0 : Nat) : Int)) ∧ w'.cell? ⟨w.heap.size, 1, none⟩ = some (.int .u64 ((gd c 1 : Nat) : Int)) ∧ w'.cell? ⟨w.heap.size, 2, none⟩ = some (.int .u64 ((gd c 2 : Nat) : Int)) ∧ w'.cell? ⟨w.heap.size, 3, none⟩ = some (.int .u64 ((gd c 3 : Nat) : Int)) ∧ w'.cell? ⟨w.heap.size, 4, none⟩ = some (.int .u64 ((gd c 4 : Nat) : Int)) ∧ w'.cell? ⟨w.heap.size, 5, none⟩ = some (.int .u64 ((gd c 5 : Nat) : Int)) ∧ w'.cell? ⟨w.heap.size, 6, none⟩ = some (.int .u64 ((gd c 6 : Nat) : Int)) ∧ w'.cell? ⟨w.heap.size, 7, none⟩ = some (.int .u64 ((gd c 7 : Nat) : Int)) ∧ w'.cell? ⟨(w.heap.size + 1), 0, none⟩ = some (.int .u64 ((gd d 0 : Nat) : Int)) ∧ w'.cell? ⟨(w.heap.size + 1), 1, none⟩ = some (.int .u64 ((gd d 1 : Nat) : Int)) ∧ w'.cell? ⟨(w.heap.size + 1), 2, none⟩ = some (.int .u64 ((gd d 2 : Nat) : Int)) ∧ w'.cell? ⟨(w.heap.size + 1), 3, none⟩ = some (.int .u64 ((gd d 3 : Nat) : Int)) ∧ w'.cell? ⟨(w.heap.size + 1), 4, none⟩ = some (.int .u64 ((gd d 4 : Nat) : Int)) ∧ w'.cell? ⟨(w.heap.size + 1), 5, none⟩ = some (.int .u64 ((gd d 5 : Nat) : Int)) ∧ w'.cell? ⟨(w.heap.size + 1), 6, none⟩ = some (.int .u64 ((gd d 6 : Nat) : Int)) ∧ w'.cell? ⟨(w.heap.size + 1), 7, none⟩ = some (.int .u64 ((gd d 7 : Nat) : Int)))
    (first | exact s0 | exact s1 | exact s2 | exact s3 | exact s4 | exact s5 | exact s6 | exact s7 | exact s8 | exact s9 | exact s10)
    (first | (go_at_call 26; (with_reducible refine (fill_any v _ hv).mono ?_); rintro e w1 ⟨rfl, hb⟩; have H1 := step2D hb H0; have s1 := sixteen hc.1 hd.1 H1.out.1 H1.out.2.1; clear hb) | (go_at_call 27; (with_reducible refine (rfill_any v _ hv).mono ?_); rintro e w2 ⟨rfl, hb⟩; have H2 := step2 hb H1; have s2 := sixteen hc.1 hd.1 H2.out.1 H2.out.2.1; clear hb) | (go_at_call 23; (try rw [E1.out]); (try rw [E2.out]); (with_reducible refine (diff_any c d _ hc hd).mono ?_); rintro e w3 ⟨va, rfl, ia, hb⟩; have H3 := step2 hb H2; have s3 := sixteen hc.1 hd.1 H3.out.1 H3.out.2.1; have IA0 := Lib.hid ia; clear ia; clear hb) | (go_at_call 28; (try rw [E1.out]); (try rw [E2.out]); (with_reducible refine (rdiff_any c d _ hc hd).mono ?_); rintro e w4 ⟨vb, rfl, ib, hb⟩; have H4 := step2 hb H3; have s4 := sixteen hc.1 hd.1 H4.out.1 H4.out.2.1; have IB := Lib.hid ib; have IA := Lib.hid (IA0.out.keep hb); clear ib; clear hb) | (go_at_call 24; (with_reducible refine (sameInts_any va vb _ _ _ IA.out IB.out).mono ?_); rintro e w5 ⟨rfl, hb⟩; have H5 := step2 hb H4; have s5 := sixteen hc.1 hd.1 H5.out.1 H5.out.2.1; rw [hsm.out]; clear hb) | (go_at_call 25; (try rw [E1.out]); (try rw [E2.out]); (with_reducible refine (sum_any c _ hc).mono ?_); rintro e w6 ⟨rfl, hb⟩; have H6 := step2 hb H5; have s6 := sixteen hc.1 hd.1 H6.out.1 H6.out.2.1; clear hb) | (go_at_call 29; (try rw [E1.out]); (try rw [E2.out]); (with_reducible refine (rsum_any c _ hc).mono ?_); rintro e w7 ⟨rfl, hb⟩; have H7 := step2 hb H6; have s7 := sixteen hc.1 hd.1 H7.out.1 H7.out.2.1; clear hb) | (go_at_call 30; (try rw [E1.out]); (try rw [E2.out]); (with_reducible refine (text_any c _ hc).mono ?_); rintro e w8 ⟨rfl, hb⟩; have H8 := step2 hb H7; have s8 := sixteen hc.1 hd.1 H8.out.1 H8.out.2.1; clear hb) | (go_at_call 31; (try rw [E1.out]); (try rw [E2.out]); (with_reducible refine (rtext_any c _ hc).mono ?_); rintro e w9 ⟨rfl, hb⟩; have H9 := step2 hb H8; have s9 := sixteen hc.1 hd.1 H9.out.1 H9.out.2.1; clear hb) | (go_at_call 17; (with_reducible refine (awake_any _).mono ?_); rintro e w10 ⟨rfl, hb⟩; have H10 := step2 hb H9; have s10 := sixteen hc.1 hd.1 H10.out.1 H10.out.2.1; clear hb))
  go_wp2
  go_ret
  exact ⟨rfl, H10.out.2.2⟩

end Go.Proofs.Ytbdhjiadomifeaa
