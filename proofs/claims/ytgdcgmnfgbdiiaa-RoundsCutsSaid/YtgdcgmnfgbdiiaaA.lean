/- Helper facts for the statements of this seat; no statement itself. -/
import Derived.Test.YtgdcgmnfgbdiiaaComK
import Derived.Test.YtgdcgmnfgbdiiaaPl
import Derived.Outline
namespace Go.Proofs.Ytgdcgmnfgbdiiaa
open Go.RowKit
set_option linter.unusedSimpArgs false
set_option linter.unusedVariables false
set_option linter.unnecessarySimpa false

theorem list9 {a : List Bool} (h : a.length = 9) : ∃ b0 b1 b2 b3 b4 b5 b6 b7 b8, a = [b0, b1, b2, b3, b4, b5, b6, b7, b8] := by
  match a, h with
  | [b0, b1, b2, b3, b4, b5, b6, b7, b8], _ => exact ⟨_, _, _, _, _, _, _, _, _, rfl⟩
theorem or_all : ∀ (b0 b1 b2 b3 b4 b5 b6 b7 b8 : Bool) (k : Fin 9), bits BinOp.or IntKind.u16 (enc [b0, b1, b2, b3, b4, b5, b6, b7, b8]) (IntKind.u16.wrap (2 ^ k.1)) = enc ([b0, b1, b2, b3, b4, b5, b6, b7, b8].set k.1 true) := by decide +kernel
theorem andNot_all : ∀ (b0 b1 b2 b3 b4 b5 b6 b7 b8 : Bool) (k : Fin 9), bits BinOp.andNot IntKind.u16 (enc [b0, b1, b2, b3, b4, b5, b6, b7, b8]) (IntKind.u16.wrap (2 ^ k.1)) = enc ([b0, b1, b2, b3, b4, b5, b6, b7, b8].set k.1 false) := by decide +kernel
theorem and_all : ∀ (b0 b1 b2 b3 b4 b5 b6 b7 b8 : Bool) (k : Fin 9), (bits BinOp.and IntKind.u16 (enc [b0, b1, b2, b3, b4, b5, b6, b7, b8] / 2 ^ k.1) 1 == 1) = [b0, b1, b2, b3, b4, b5, b6, b7, b8].getD k.1 false := by decide +kernel
theorem enc0_all : ∀ (b0 b1 b2 b3 b4 b5 b6 b7 b8 : Bool), (enc [b0, b1, b2, b3, b4, b5, b6, b7, b8] == 0) = !([b0, b1, b2, b3, b4, b5, b6, b7, b8].any id) := by decide +kernel
theorem enc_or {a : List Bool} (h : a.length = 9) (k : Nat) (hk : k < 9) : bits BinOp.or IntKind.u16 (enc a) (IntKind.u16.wrap (2 ^ k)) = enc (a.set k true) := by
  obtain ⟨b0, b1, b2, b3, b4, b5, b6, b7, b8, rfl⟩ := list9 h
  exact or_all b0 b1 b2 b3 b4 b5 b6 b7 b8 ⟨k, hk⟩
theorem enc_andNot {a : List Bool} (h : a.length = 9) (k : Nat) (hk : k < 9) : bits BinOp.andNot IntKind.u16 (enc a) (IntKind.u16.wrap (2 ^ k)) = enc (a.set k false) := by
  obtain ⟨b0, b1, b2, b3, b4, b5, b6, b7, b8, rfl⟩ := list9 h
  exact andNot_all b0 b1 b2 b3 b4 b5 b6 b7 b8 ⟨k, hk⟩
theorem enc_and {a : List Bool} (h : a.length = 9) (k : Nat) (hk : k < 9) : (bits BinOp.and IntKind.u16 (enc a / 2 ^ k) 1 == 1) = a.getD k false := by
  obtain ⟨b0, b1, b2, b3, b4, b5, b6, b7, b8, rfl⟩ := list9 h
  exact and_all b0 b1 b2 b3 b4 b5 b6 b7 b8 ⟨k, hk⟩
theorem enc_zero {a : List Bool} (h : a.length = 9) : (enc a == 0) = !(a.any id) := by
  obtain ⟨b0, b1, b2, b3, b4, b5, b6, b7, b8, rfl⟩ := list9 h
  exact enc0_all b0 b1 b2 b3 b4 b5 b6 b7 b8

set_option maxHeartbeats 1000000 in
theorem with_any (a : List Bool) (k : Int) (w : World) (ha : a.length = 9) (h0 : 0 ≤ k) (h8 : k ≤ 8) : Calls Try.prog 53 #[.int .u16 (enc a), .int .i64 k] w fun e w' => e = .returned (.int .u16 (enc (a.set k.toNat true))) ∧ w = w' := by
  have HE := Lib.hid (enc_or ha k.toNat (by omega))
  generalize enc (a.set k.toNat true) = r at *
  generalize enc a = p at *
  go_enter Try.func53, Try.ntmps53
  go_wp2_with fail
  go_ret
  exact ⟨ret_int HE.out, rfl⟩
theorem ret_bool {a b : Bool} (h : a = b) : Ending.returned (.bool a) = .returned (.bool b) := by rw [h]
set_option maxHeartbeats 1000000 in
theorem has_any (a : List Bool) (k : Int) (w : World) (ha : a.length = 9) (h0 : 0 ≤ k) (h8 : k ≤ 8) : Calls Try.prog 54 #[.int .u16 (enc a), .int .i64 k] w fun e w' => e = .returned (.bool (a.getD k.toNat false)) ∧ w = w' := by
  have HE := Lib.hid (enc_and ha k.toNat (by omega))
  generalize a.getD k.toNat false = r at *
  generalize enc a = p at *
  go_enter Try.func54, Try.ntmps54
  go_wp2_with fail
  go_ret
  exact ⟨ret_bool HE.out, rfl⟩
set_option maxHeartbeats 1000000 in
theorem without_any (a : List Bool) (k : Int) (w : World) (ha : a.length = 9) (h0 : 0 ≤ k) (h8 : k ≤ 8) : Calls Try.prog 55 #[.int .u16 (enc a), .int .i64 k] w fun e w' => e = .returned (.int .u16 (enc (a.set k.toNat false))) ∧ w = w' := by
  have HE := Lib.hid (enc_andNot ha k.toNat (by omega))
  generalize enc (a.set k.toNat false) = r at *
  generalize enc a = p at *
  go_enter Try.func55, Try.ntmps55
  go_wp2_with fail
  go_ret
  exact ⟨ret_int HE.out, rfl⟩
end Go.Proofs.Ytgdcgmnfgbdiiaa
