/- Helper facts for the statements of this seat; no statement itself. -/
import Derived.Test.YtbdhjiadomifeaaJ
namespace Go.Proofs.Ytbdhjiadomifeaa
open Go.RowKit
set_option linter.unusedSimpArgs false
set_option linter.unusedVariables false
set_option linter.unnecessarySimpa false

theorem ask {w : World} {g : Nat} {a n v : Value} (h : w.heap[g]? = some (.cells #[a, n, v] 26 (0, 0))) :
    w.cell? ⟨g, 0, none⟩ = some a ∧ w.cell? ⟨g, 1, none⟩ = some n ∧ w.cell? ⟨g, 2, none⟩ = some v :=
  ⟨setRow_cell h rfl, setRow_cell h rfl, setRow_cell h rfl⟩

set_option maxHeartbeats 2000000 in
set_option maxRecDepth 100000 in
theorem pageBytes_walk (c : List Nat) (a n : Int) (v : Nat) (w : World) (hp : Pg c) (hv : v < 18446744073709551616) :
    Calls Try.prog 3 #[.agg (W8 c), .agg #[.int .i64 a, .int .i64 n, .int .u64 v]] w fun e w' => e = .returned (.bool true) ∧ Below w.heap.size w w' := by
  go_enter Try.func3, Try.ntmps3
  have Gw0 : Hid (((w.alloc (.cells (W8 c) 24)).alloc (.cells #[.int .i64 a, .int .i64 n, .int .u64 v] 26)).heap[w.heap.size]? = some (.cells (W8 c) 24 (0, 0))) := h2_0 _ _ _
  have Aw0 : Hid (((w.alloc (.cells (W8 c) 24)).alloc (.cells #[.int .i64 a, .int .i64 n, .int .u64 v] 26)).heap[w.heap.size + 1]? = some (.cells #[.int .i64 a, .int .i64 n, .int .u64 v] 26 (0, 0))) := h2_1 _ _ _
  have Bw0 : Hid (Below w.heap.size w ((w.alloc (.cells (W8 c) 24)).alloc (.cells #[.int .i64 a, .int .i64 n, .int .u64 v] 26))) := (((Below.refl _ _).alloc (Nat.le_refl _) _).alloc (by simp only [World.size_alloc] <;> omega) _)
  go_wp2_with (refine ld24 rfl _ rfl _ rfl c hp.1 24 Gw0.out ?_)
  refine (bytes_all c a n _ hp).mono ?_
  rintro e w1 ⟨rfl, hb⟩
  have Gw1 := Lib.hid (bkeep hb Gw0.out)
  have Aw1 := Lib.hid (bkeep hb Aw0.out)
  have Bw1 := Lib.hid (btrans Bw0.out hb)
  clear hb Gw0 Aw0 Bw0
  obtain ⟨q0, q1, q2⟩ := ask Aw1.out
  go_wp2_with (first | refine ld24 rfl _ rfl _ rfl c hp.1 24 Gw1.out ?_)
  clear q0 q1 q2
  refine (rbytes_all c a n _ hp).mono ?_
  rintro e w2 ⟨rfl, hb⟩
  have Gw2 := Lib.hid (bkeep hb Gw1.out)
  have Aw2 := Lib.hid (bkeep hb Aw1.out)
  have Bw2 := Lib.hid (btrans Bw1.out hb)
  clear hb Gw1 Aw1 Bw1
  obtain ⟨q0, q1, q2⟩ := ask Aw2.out
  go_wp2_with (first | refine ld24 rfl _ rfl _ rfl c hp.1 24 Gw2.out ?_)
  clear q0 q1 q2
  refine (signed_all c a n _ hp).mono ?_
  rintro e w3 ⟨rfl, hb⟩
  have Gw3 := Lib.hid (bkeep hb Gw2.out)
  have Aw3 := Lib.hid (bkeep hb Aw2.out)
  have Bw3 := Lib.hid (btrans Bw2.out hb)
  clear hb Gw2 Aw2 Bw2
  obtain ⟨q0, q1, q2⟩ := ask Aw3.out
  go_wp2_with (first | refine ld24 rfl _ rfl _ rfl c hp.1 24 Gw3.out ?_)
  clear q0 q1 q2
  refine (rsigned_all c a n _ hp).mono ?_
  rintro e w4 ⟨rfl, hb⟩
  have Gw4 := Lib.hid (bkeep hb Gw3.out)
  have Aw4 := Lib.hid (bkeep hb Aw3.out)
  have Bw4 := Lib.hid (btrans Bw3.out hb)
  clear hb Gw3 Aw3 Bw3
  obtain ⟨q0, q1, q2⟩ := ask Aw4.out
  go_wp2_with (first | refine ld24 rfl _ rfl _ rfl c hp.1 24 Gw4.out ?_)
  clear q0 q1 q2
  refine (put_all c a n v _ hp hv).mono ?_
  rintro e w5 ⟨rfl, hb⟩
  have Gw5 := Lib.hid (bkeep hb Gw4.out)
  have Aw5 := Lib.hid (bkeep hb Aw4.out)
  have Bw5 := Lib.hid (btrans Bw4.out hb)
  clear hb Gw4 Aw4 Bw4
  obtain ⟨q0, q1, q2⟩ := ask Aw5.out
  have hl := Lib.hid (pR_length hp a n v)
  have G6 := Lib.hid (hold1 Gw5.out (.cells (W8 (pR c a n v)) 24))
  have A6 := Lib.hid (hold1 Aw5.out (.cells (W8 (pR c a n v)) 24))
  have B6 := Lib.hid (balloc Bw5.out (.cells (W8 (pR c a n v)) 24))
  have C6 := Lib.hid (h1_0 w5 (.cells (W8 (pR c a n v)) 24))
  clear q0 q1 q2
  obtain ⟨q0, q1, q2⟩ := ask A6.out
  go_wp2_with (first | refine st24n rfl _ _ rfl (pR c a n v) rfl rfl hl.out rfl ?_ | refine ld24 rfl _ rfl _ rfl c hp.1 24 G6.out ?_)
  clear q0 q1 q2
  refine (rput_all c a n v _ hp hv).mono ?_
  rintro e w6 ⟨rfl, hb⟩
  have C7 := Lib.hid (bkeep hb C6.out)
  have B7 := Lib.hid (btrans B6.out hb)
  clear hb G6 A6 B6 C6 Gw5 Aw5 Bw5
  have he := run_eql24 (pR c a n v) (pR c a n v) hl.out hl.out
  rw [beq_self_eq_true] at he
  go_wp2_with (first | refine st24n rfl _ _ rfl (pR c a n v) rfl rfl hl.out rfl ?_ | refine ld24 rfl _ rfl w5.heap.size rfl (pR c a n v) hl.out 24 (hold1 C7.out _) ?_ | refine ld24 rfl _ rfl w6.heap.size rfl (pR c a n v) hl.out 24 (h1_0 _ _) ?_)
  refine (awake_any _).mono ?_
  rintro e w7 ⟨rfl, hb⟩
  have B8 := Lib.hid (btrans (balloc B7.out _) hb)
  clear hb
  go_wp2
  go_ret
  exact ⟨rfl, B8.out⟩

end Go.Proofs.Ytbdhjiadomifeaa
