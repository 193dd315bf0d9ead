/- Helper facts for the statements of this seat; no statement itself. -/
import Derived.Test.YtbdhjiadomifeaaZC
import Derived.Test.YtbdhjiadomifeaaX
namespace Go.Proofs.Ytbdhjiadomifeaa
open Go.RowKit
set_option linter.unusedSimpArgs false
set_option linter.unusedVariables false
set_option linter.unnecessarySimpa false

def zL : List Nat := [17231391492856510344, 205, 0, 0, 0, 0, 0, 0]
def fL : List Nat := [258, 66048, 16908288, 4328521728, 1108101562368, 283673999966208, 72620543991349248, 144115188075855873]
def exS : ByteArray := strOfNums (txt exC 8)
theorem k1 : gR exC 1 = 255 ∧ wE 1 = 0 ∧ gR exC 8 = 0 ∧ wE 8 = 2 := by decide +kernel
theorem k2 : num exC 0 1 = 136 ∧ num exC 6 2 = 4386 := by decide +kernel
theorem k3 : sgn 1 (num exC 8 1) = -1 ∧ sgn 2 (num exC 8 2) = 255 := by decide +kernel
theorem k4 : putB exC 7 2 11259375 = zL := by decide +kernel
theorem k5 : fillK 258 8 = fL := by decide +kernel
theorem k6 : diffL exC (List.replicate 8 0) 8 = [0, 1] := by decide +kernel
theorem k7 : prC ⟨#[71]⟩ = List.replicate 8 0 ∧ prE ⟨#[71]⟩ = 3 ∧ prA ⟨#[71]⟩ = 0 := by decide +kernel
theorem k8 : prC (exS.extract 0 134) = List.replicate 8 0 ∧ prE (exS.extract 0 134) = 3 ∧ prA (exS.extract 0 134) = 134 := by decide +kernel
theorem k9 : prC exS = exC ∧ prE exS = 0 ∧ prA exS = 0 := parse_text exC exC_pg
theorem k10 : exS.size = 135 := by unfold exS; rw [strOfNums_size, (txt8 exC).1]

/-- The cells that the last statement reads. -/
def KS (a b c d : Nat) (w : World) : Prop := w.heap[a]? = some (.cells (W8 fL) 24 (0, 0)) ∧ w.heap[b]? = some (.cells (W8 exC) 24 (0, 0)) ∧ w.heap[b + 1]? = some (.cells #[.int .i64 0, .int .i64 0] 50 (0, 0)) ∧ w.heap[c + 1]? = some (.cells #[.int .i64 3, .int .i64 134] 50 (0, 0)) ∧ w.heap[d + 1]? = some (.cells #[.int .i64 3, .int .i64 0] 50 (0, 0))
theorem KS.keep {a b c d : Nat} {w w' : World} (h : KS a b c d w) (hb : Below w.heap.size w w') : KS a b c d w' := ⟨bkeep hb h.1, bkeep hb h.2.1, bkeep hb h.2.2.1, bkeep hb h.2.2.2.1, bkeep hb h.2.2.2.2⟩
theorem KS.keepD {a b c d : Nat} {w w' : World} (h : KS a b c d w) (hb : Below w.drew.heap.size w.drew w') : KS a b c d w' := KS.keep (w := w.drew) h hb
theorem example_ex (w : World) : Calls Try.prog 34 #[] w fun e w' => e = .returned (.agg (W8 exC)) ∧ Below w.heap.size w w' := example_any w
theorem ints_two (w : World) (t : TypeId) : IsInts (w.alloc (.cells #[.int .i64 0, .int .i64 1] t)) (.slice (some ⟨w.heap.size, 0, none⟩) 2 2) [0, 1] :=
  ⟨_, _, _, rfl, rfl, by simp, .inr ⟨w.heap.size, 0, rfl, fun k hk => by
    have : k = 0 ∨ k = 1 := by simp at hk; omega
    rcases this with rfl | rfl
    · exact setRow_cell (t := t) (h1_0 w _) rfl
    · exact setRow_cell (t := t) (h1_0 w _) rfl⟩⟩
theorem ints_twoD (w : World) (t : TypeId) : IsInts (w.alloc (.cells #[.int .i64 0, .int .i64 1] t)).drew (.slice (some ⟨w.heap.size, 0, none⟩) 2 2) [0, 1] := ints_two w t
theorem KS.cells {a b c d : Nat} {w : World} (h : KS a b c d w) :
    w.cell? ⟨a, 0, none⟩ = some (.int .u64 258) ∧ w.cell? ⟨a, 1, none⟩ = some (.int .u64 66048) ∧ w.cell? ⟨a, 7, none⟩ = some (.int .u64 144115188075855873) ∧ w.cell? ⟨b, 0, none⟩ = some (.int .u64 ((gd exC 0 : Nat) : Int)) ∧ w.cell? ⟨b, 1, none⟩ = some (.int .u64 ((gd exC 1 : Nat) : Int)) ∧ w.cell? ⟨b, 2, none⟩ = some (.int .u64 ((gd exC 2 : Nat) : Int)) ∧ w.cell? ⟨b, 3, none⟩ = some (.int .u64 ((gd exC 3 : Nat) : Int)) ∧ w.cell? ⟨b, 4, none⟩ = some (.int .u64 ((gd exC 4 : Nat) : Int)) ∧ w.cell? ⟨b, 5, none⟩ = some (.int .u64 ((gd exC 5 : Nat) : Int)) ∧ w.cell? ⟨b, 6, none⟩ = some (.int .u64 ((gd exC 6 : Nat) : Int)) ∧ w.cell? ⟨b, 7, none⟩ = some (.int .u64 ((gd exC 7 : Nat) : Int)) ∧ w.cell? ⟨b + 1, 0, none⟩ = some (.int .i64 0) ∧ w.cell? ⟨b + 1, 1, none⟩ = some (.int .i64 0) ∧ w.cell? ⟨c + 1, 0, none⟩ = some (.int .i64 3) ∧ w.cell? ⟨c + 1, 1, none⟩ = some (.int .i64 134) ∧ w.cell? ⟨d + 1, 0, none⟩ = some (.int .i64 3) ∧ w.cell? ⟨d + 1, 1, none⟩ = some (.int .i64 0) := by
  obtain ⟨h1, h2, h3, h4, h5⟩ := h
  exact ⟨setRow_cell h1 rfl, setRow_cell h1 rfl, setRow_cell h1 rfl, setRow_cell h2 rfl, setRow_cell h2 rfl, setRow_cell h2 rfl, setRow_cell h2 rfl, setRow_cell h2 rfl, setRow_cell h2 rfl, setRow_cell h2 rfl, setRow_cell h2 rfl, setRow_cell h3 rfl, setRow_cell h3 rfl, setRow_cell h4 rfl, setRow_cell h4 rfl, setRow_cell h5 rfl, setRow_cell h5 rfl⟩

set_option maxHeartbeats 4000000 in
set_option maxRecDepth 100000 in
theorem pageKnown_walk (w : World) : Calls Try.prog 10 #[] w fun e w' => e = .returned (.bool true) ∧ Below w.heap.size w w' := by
  go_enter Try.func10, Try.ntmps10
  go_wp2_with (fail)
  refine (example_any _).mono ?_
  rintro e w1 ⟨rfl, hb⟩
  have B1 := Lib.hid hb
  clear hb
  go_wp2_with (fail)
  refine (get_all exC 1 _ exC_pg).mono ?_
  rintro e w2 ⟨rfl, hb⟩
  have B2 := Lib.hid (btrans B1.out hb)
  clear hb B1
  rw [k1.1, k1.2.1]
  go_wp2_with (fail)
  refine (example_any _).mono ?_
  rintro e w3 ⟨rfl, hb⟩
  have B3 := Lib.hid (btrans B2.out hb)
  clear hb B2
  go_wp2_with (fail)
  refine (get_all exC 8 _ exC_pg).mono ?_
  rintro e w4 ⟨rfl, hb⟩
  have B4 := Lib.hid (btrans B3.out hb)
  clear hb B3
  rw [k1.2.2.1, k1.2.2.2]
  go_wp2_with (fail)
  refine (example_any _).mono ?_
  rintro e w5 ⟨rfl, hb⟩
  have B5 := Lib.hid (btrans B4.out hb)
  clear hb B4
  go_wp2_with (fail)
  refine (bytes_ok exC 0 1 _ (by omega) (by omega) (by omega) exC_pg.1 exC_pg.2).mono ?_
  rintro e w6 ⟨rfl, hb⟩
  have B6 := Lib.hid (btrans B5.out hb)
  clear hb B5
  rw [k2.1]
  go_wp2_with (fail)
  refine (example_any _).mono ?_
  rintro e w7 ⟨rfl, hb⟩
  have B7 := Lib.hid (btrans B6.out hb)
  clear hb B6
  go_wp2_with (fail)
  refine (bytes_ok exC 6 2 _ (by omega) (by omega) (by omega) exC_pg.1 exC_pg.2).mono ?_
  rintro e w8 ⟨rfl, hb⟩
  have B8 := Lib.hid (btrans B7.out hb)
  clear hb B7
  rw [k2.2]
  go_wp2_with (fail)
  refine (example_any _).mono ?_
  rintro e w9 ⟨rfl, hb⟩
  have B9 := Lib.hid (btrans B8.out hb)
  clear hb B8
  go_wp2_with (fail)
  refine (signed_ok exC 8 1 _ (by omega) (by omega) (by omega) exC_pg).mono ?_
  rintro e w10 ⟨rfl, hb⟩
  have B10 := Lib.hid (btrans B9.out hb)
  clear hb B9
  rw [k3.1]
  go_wp2_with (fail)
  refine (example_any _).mono ?_
  rintro e w11 ⟨rfl, hb⟩
  have B11 := Lib.hid (btrans B10.out hb)
  clear hb B10
  go_wp2_with (fail)
  refine (signed_ok exC 8 2 _ (by omega) (by omega) (by omega) exC_pg).mono ?_
  rintro e w12 ⟨rfl, hb⟩
  have B12 := Lib.hid (btrans B11.out hb)
  clear hb B11
  rw [k3.2]
  go_wp2_with (fail)
  refine (example_any _).mono ?_
  rintro e w13 ⟨rfl, hb⟩
  have B13 := Lib.hid (btrans B12.out hb)
  clear hb B12
  go_wp2_with (fail)
  refine (bytes_bad exC 57 8 _ (by decide)).mono ?_
  rintro e w14 ⟨rfl, hb⟩
  have B14 := Lib.hid (btrans B13.out hb)
  clear hb B13
  go_wp2_with (fail)
  refine (example_any _).mono ?_
  rintro e w15 ⟨rfl, hb⟩
  have B15 := Lib.hid (btrans B14.out hb)
  clear hb B14
  go_wp2_with (fail)
  refine (put_ok exC 7 2 11259375 _ (by omega) (by omega) (by omega) (by omega) exC_pg).mono ?_
  rintro e w16 ⟨rfl, hb⟩
  have B16 := Lib.hid (btrans B15.out hb)
  clear hb B15
  rw [k4]
  have z0 : (w16.alloc (.cells (W8 zL) 24)).cell? ⟨w16.heap.size, 0, none⟩ = some (.int .u64 17231391492856510344) := setRow_cell (h1_0 _ _) rfl
  have z1 : (w16.alloc (.cells (W8 zL) 24)).cell? ⟨w16.heap.size, 1, none⟩ = some (.int .u64 205) := setRow_cell (h1_0 _ _) rfl
  replace B16 := Lib.hid (balloc B16.out (.cells (W8 zL) 24))
  go_wp2_with (((with_reducible refine st24n ?a1 (.tmp 11) (.tmp 84) ?b1 zL ?c1 ?d1 ?e1 ?f1 ?_); (case a1 => rfl); (case b1 => rfl); (case c1 => rfl); (case d1 => rfl); (case e1 => exact rfl); (case f1 => rfl)))
  clear z0 z1
  refine (fill_any 258 _ (by omega)).mono ?_
  rintro e w17 ⟨rfl, hb⟩
  have B17 := Lib.hid (btrans B16.out hb)
  clear hb B16
  rw [k5]
  have F := Lib.hid (h1_0 w17 (.cells (W8 fL) 24))
  replace B17 := Lib.hid (balloc B17.out (.cells (W8 fL) 24))
  go_wp2_with (((with_reducible refine st24n ?a2 (.tmp 12) (.tmp 118) ?b2 fL ?c2 ?d2 ?e2 ?f2 ?_); (case a2 => rfl); (case b2 => rfl); (case c2 => rfl); (case d2 => rfl); (case e2 => exact rfl); (case f2 => rfl)))
  refine (example_any _).mono ?_
  rintro e w18 ⟨rfl, hb⟩
  have B18 := Lib.hid (btrans B17.out hb)
  replace F := Lib.hid (bkeep hb F.out)
  clear hb B17
  go_wp2_with (fail)
  refine (text_any exC _ exC_pg).mono ?_
  rintro e w19 ⟨rfl, hb⟩
  have B19 := Lib.hid (btrans B18.out hb)
  replace F := Lib.hid (bkeep hb F.out)
  clear hb B18
  rw [show strOfNums (txt exC 8) = exS from rfl]
  go_wp2_with (fail)
  refine (parse_all exS _ (by rw [k10]; omega)).mono ?_
  rintro e w20 ⟨rfl, hb⟩
  have B20 := Lib.hid (btrans B19.out hb)
  replace F := Lib.hid (bkeep hb F.out)
  clear hb B19
  rw [k9.1, k9.2.1, k9.2.2]
  have D20 := Lib.hid (two_new w20 exC 0 0 #[.int .u64 0, .int .u64 0, .int .u64 0, .int .u64 0, .int .u64 0, .int .u64 0, .int .u64 0, .int .u64 0] #[.int .i64 0, .int .i64 0] rfl)
  have P1 := Lib.hid D20.out.1
  have G1 := Lib.hid D20.out.2.1
  replace F := Lib.hid (bkeep D20.out.2.2 F.out)
  replace B20 := Lib.hid (btrans B20.out D20.out.2.2)
  clear D20
  have hsz : ((exS.size : Int) != 135) = false := by rw [k10]; rfl
  have hsz2 : 134 ≤ exS.size := by rw [k10]; omega
  go_wp2_with (first | ((with_reducible refine st24 ?a3 (.tmp 14) (.tmp 124) ?b3 w20.heap.size exC (List.replicate 8 0) ?c3 ?d3 ?e3 ?f3 24 ?g3 ?_); (case a3 => rfl); (case b3 => rfl); (case c3 => rfl); (case d3 => rfl); (case e3 => exact exC_pg.1); (case f3 => simp); (case g3 => exact h2_0 _ _ _)) | ((with_reducible refine st50 ?a4 (.tmp 15) (.tmp 125) ?b4 (w20.heap.size + 1) 0 0 #[.int .i64 0, .int .i64 0] ?c4 ?d4 ?e4 50 ?f4 ?_); (case a4 => rfl); (case b4 => rfl); (case c4 => rfl); (case d4 => rfl); (case e4 => rfl); (case f4 => rw [setRow_other _ _ _ _ (by omega)]; exact h2_1 _ _ _)))
  refine (parse_all (exS.extract 0 134) _ (by rw [ByteArray.size_extract]; omega)).mono ?_
  rintro e w21 ⟨rfl, hb⟩
  have B21 := Lib.hid (btrans B20.out hb)
  replace F := Lib.hid (bkeep hb F.out)
  replace P1 := Lib.hid (bkeep hb P1.out)
  replace G1 := Lib.hid (bkeep hb G1.out)
  clear hb B20
  rw [k8.1, k8.2.1, k8.2.2]
  have D21 := Lib.hid (two_new w21 (List.replicate 8 0) 3 134 #[.int .u64 0, .int .u64 0, .int .u64 0, .int .u64 0, .int .u64 0, .int .u64 0, .int .u64 0, .int .u64 0] #[.int .i64 0, .int .i64 0] rfl)
  have P2 := Lib.hid D21.out.1
  have G2 := Lib.hid D21.out.2.1
  replace F := Lib.hid (bkeep D21.out.2.2 F.out)
  replace P1 := Lib.hid (bkeep D21.out.2.2 P1.out)
  replace G1 := Lib.hid (bkeep D21.out.2.2 G1.out)
  replace B21 := Lib.hid (btrans B21.out D21.out.2.2)
  clear D21
  go_wp2_with (first | ((with_reducible refine st24 ?a5 (.tmp 16) (.tmp 133) ?b5 w21.heap.size (List.replicate 8 0) (List.replicate 8 0) ?c5 ?d5 ?e5 ?f5 24 ?g5 ?_); (case a5 => rfl); (case b5 => rfl); (case c5 => rfl); (case d5 => rfl); (case e5 => exact (by simp)); (case f5 => simp); (case g5 => exact h2_0 _ _ _)) | ((with_reducible refine st50 ?a6 (.tmp 17) (.tmp 134) ?b6 (w21.heap.size + 1) 3 134 #[.int .i64 0, .int .i64 0] ?c6 ?d6 ?e6 50 ?f6 ?_); (case a6 => rfl); (case b6 => rfl); (case c6 => rfl); (case d6 => rfl); (case e6 => rfl); (case f6 => rw [setRow_other _ _ _ _ (by omega)]; exact h2_1 _ _ _)))
  refine (parse_all ⟨#[71]⟩ _ (by decide)).mono ?_
  rintro e w22 ⟨rfl, hb⟩
  have B22 := Lib.hid (btrans B21.out hb)
  replace F := Lib.hid (bkeep hb F.out)
  replace P1 := Lib.hid (bkeep hb P1.out)
  replace G1 := Lib.hid (bkeep hb G1.out)
  replace G2 := Lib.hid (bkeep hb G2.out)
  clear hb B21
  rw [k7.1, k7.2.1, k7.2.2]
  have D22 := Lib.hid (two_new w22 (List.replicate 8 0) 3 0 #[.int .u64 0, .int .u64 0, .int .u64 0, .int .u64 0, .int .u64 0, .int .u64 0, .int .u64 0, .int .u64 0] #[.int .i64 0, .int .i64 0] rfl)
  have P3 := Lib.hid D22.out.1
  have G3 := Lib.hid D22.out.2.1
  replace F := Lib.hid (bkeep D22.out.2.2 F.out)
  replace P1 := Lib.hid (bkeep D22.out.2.2 P1.out)
  replace G1 := Lib.hid (bkeep D22.out.2.2 G1.out)
  replace G2 := Lib.hid (bkeep D22.out.2.2 G2.out)
  replace B22 := Lib.hid (btrans B22.out D22.out.2.2)
  clear D22
  go_wp2_with (first | ((with_reducible refine st24 ?a7 (.tmp 18) (.tmp 137) ?b7 w22.heap.size (List.replicate 8 0) (List.replicate 8 0) ?c7 ?d7 ?e7 ?f7 24 ?g7 ?_); (case a7 => rfl); (case b7 => rfl); (case c7 => rfl); (case d7 => rfl); (case e7 => exact (by simp)); (case f7 => simp); (case g7 => exact h2_0 _ _ _)) | ((with_reducible refine st50 ?a8 (.tmp 19) (.tmp 138) ?b8 (w22.heap.size + 1) 3 0 #[.int .i64 0, .int .i64 0] ?c8 ?d8 ?e8 50 ?f8 ?_); (case a8 => rfl); (case b8 => rfl); (case c8 => rfl); (case d8 => rfl); (case e8 => rfl); (case f8 => rw [setRow_other _ _ _ _ (by omega)]; exact h2_1 _ _ _)))
  obtain ⟨W, hW⟩ : ∃ W, W = ((((w22.alloc (.cells #[.int .u64 0, .int .u64 0, .int .u64 0, .int .u64 0, .int .u64 0, .int .u64 0, .int .u64 0, .int .u64 0] 24)).alloc (.cells #[.int .i64 0, .int .i64 0] 50)).setRow w22.heap.size (W8 (List.replicate 8 0))).setRow (w22.heap.size + 1) #[.int .i64 3, .int .i64 0]) := ⟨_, rfl⟩
  have K0 : Hid (KS w17.heap.size w20.heap.size w21.heap.size w22.heap.size W) := by rw [hW]; exact ⟨F.out, P1.out, G1.out, G2.out, G3.out⟩
  have BW : Hid (Below w.heap.size w W) := by rw [hW]; exact B22.out
  rw [← hW]
  clear hW F P1 G1 G2 G3 B22 P2 P3
  have s0 := K0.out.cells
  have tokA : True := trivial
  have HQ : Hid ((diffL exC (List.replicate 8 0) 8 == [0, 1]) = true) := by show _ = _; rw [k6]; rfl
  have he : ∀ w, (binOp .eql 24 (.agg #[Value.int .u64 ((gd exC 0 : Nat) : Int), .int .u64 ((gd exC 1 : Nat) : Int), .int .u64 ((gd exC 2 : Nat) : Int), .int .u64 ((gd exC 3 : Nat) : Int), .int .u64 ((gd exC 4 : Nat) : Int), .int .u64 ((gd exC 5 : Nat) : Int), .int .u64 ((gd exC 6 : Nat) : Int), .int .u64 ((gd exC 7 : Nat) : Int)]) (.agg (W8 exC))).run Try.prog w = .ok (.bool true) w := fun w => by
    rw [W8_eight exC_pg.1, run_eql24 exC exC exC_pg.1 exC_pg.1 w]; simp
  go_region_held3 (fun w' => w'.cell? ⟨w17.heap.size, 0, none⟩ = some (.int .u64 258) ∧ w'.cell? ⟨w17.heap.size, 1, none⟩ = some (.int .u64 66048) ∧ w'.cell? ⟨w17.heap.size, 7, none⟩ = some (.int .u64 144115188075855873) ∧ w'.cell? ⟨w20.heap.size, 0, none⟩ = some (.int .u64 ((gd exC 0 : Nat) : Int)) ∧ w'.cell? ⟨w20.heap.size, 1, none⟩ = some (.int .u64 ((gd exC 1 : Nat) : Int)) ∧ w'.cell? ⟨w20.heap.size, 2, none⟩ = some (.int .u64 ((gd exC 2 : Nat) : Int)) ∧ w'.cell? ⟨w20.heap.size, 3, none⟩ = some (.int .u64 ((gd exC 3 : Nat) : Int)) ∧ w'.cell? ⟨w20.heap.size, 4, none⟩ = some (.int .u64 ((gd exC 4 : Nat) : Int)) ∧ w'.cell? ⟨w20.heap.size, 5, none⟩ = some (.int .u64 ((gd exC 5 : Nat) : Int)) ∧ w'.cell? ⟨w20.heap.size, 6, none⟩ = some (.int .u64 ((gd exC 6 : Nat) : Int)) ∧ w'.cell? ⟨w20.heap.size, 7, none⟩ = some (.int .u64 ((gd exC 7 : Nat) : Int)) ∧ w'.cell? ⟨w20.heap.size + 1, 0, none⟩ = some (.int .i64 0) ∧ w'.cell? ⟨w20.heap.size + 1, 1, none⟩ = some (.int .i64 0) ∧ w'.cell? ⟨w21.heap.size + 1, 0, none⟩ = some (.int .i64 3) ∧ w'.cell? ⟨w21.heap.size + 1, 1, none⟩ = some (.int .i64 134) ∧ w'.cell? ⟨w22.heap.size + 1, 0, none⟩ = some (.int .i64 3) ∧ w'.cell? ⟨w22.heap.size + 1, 1, none⟩ = some (.int .i64 0))
    (first | exact s0 | exact s1 | exact s2 | exact s3 | exact s4 | exact s5 | go_keep)
    (first | (go_at_call 34; have _t := tokA; (with_reducible refine (example_ex _).mono ?_); rintro e wa ⟨rfl, hb⟩; have CA : Hid (Below W.heap.size W wa) := btrans (by repeat (first | exact CD.out | exact CC.out | exact CB.out | exact CA.out | exact Below.refl _ _ | refine Below.drew ?_ | refine balloc ?_ _)) hb; (try (have JA := Lib.hid (IsInts.keep (ints_twoD W 3) hb))); have s1 := (K0.out.keep CA.out).cells; clear hb tokA) | (go_at_call 23; rw [zero8]; (with_reducible refine (diff_any exC (List.replicate 8 0) _ exC_pg zero_pg).mono ?_); rintro e wb ⟨va, rfl, ia, hb⟩; have CB : Hid (Below W.heap.size W wb) := btrans (by repeat (first | exact CD.out | exact CC.out | exact CB.out | exact CA.out | exact Below.refl _ _ | refine Below.drew ?_ | refine balloc ?_ _)) hb; (try (have JB := Lib.hid (IsInts.keep (ints_two wa 3) hb))); (try (have JB := Lib.hid (IsInts.keep JA.out hb))); have IA := Lib.hid ia; have s2 := (K0.out.keep CB.out).cells; clear hb ia) | (go_at_call 34; (with_reducible refine (example_ex _).mono ?_); rintro e wd ⟨rfl, hb⟩; have CD : Hid (Below W.heap.size W wd) := btrans (by repeat (first | exact CD.out | exact CC.out | exact CB.out | exact CA.out | exact Below.refl _ _ | refine Below.drew ?_ | refine balloc ?_ _)) hb; have s4 := (K0.out.keep CD.out).cells; clear hb) | (go_at_call 17; (with_reducible refine (awake_any _).mono ?_); rintro e we ⟨rfl, hb⟩; have CE : Hid (Below W.heap.size W we) := btrans (by repeat (first | exact CD.out | exact CC.out | exact CB.out | exact CA.out | exact Below.refl _ _ | refine Below.drew ?_ | refine balloc ?_ _)) hb; have s5 := (K0.out.keep CE.out).cells; clear hb) | (go_at_call 24; (with_reducible refine (sameInts_any va _ (diffL exC (List.replicate 8 0) 8) [0, 1] _ ?i1 ?i2).mono ?_); (case i1 => first | exact IA.out | exact IA.out.keep ((Below.refl _ _).alloc (Nat.le_refl _) _)); (case i2 => first | exact JB.out | exact ints_two wb 3); rintro e wc ⟨rfl, hb⟩; rw [HQ.out]; have CC : Hid (Below W.heap.size W wc) := btrans (by repeat (first | exact CD.out | exact CC.out | exact CB.out | exact CA.out | exact Below.refl _ _ | refine Below.drew ?_ | refine balloc ?_ _)) hb; have s3 := (K0.out.keep CC.out).cells; clear hb))
  all_goals
    go_wp2
    go_ret
    exact ⟨rfl, btrans BW.out CE.out⟩

end Go.Proofs.Ytbdhjiadomifeaa
