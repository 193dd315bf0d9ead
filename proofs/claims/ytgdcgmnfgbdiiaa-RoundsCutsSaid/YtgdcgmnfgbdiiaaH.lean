/- Helper facts for the statements of this seat; no statement itself. -/
import Derived.Test.YtgdcgmnfgbdiiaaPa
import Derived.Test.YtgdcgmnfgbdiiaaF
import Derived.Outline
namespace Go.Proofs.Ytgdcgmnfgbdiiaa
open Go.RowKit
set_option linter.unusedSimpArgs false
set_option linter.unusedVariables false
set_option linter.unnecessarySimpa false

set_option maxHeartbeats 2000000 in
theorem ascends_any (v : Value) (l : List Int) (lo hi : Int) (w : World) (hi' : IsInts w v l) : Calls Try.prog 44 #[v, .int .i64 lo, .int .i64 hi] w fun e w' => e = .returned (.int .i64 (ascE lo hi l none)) ∧ Below w.heap.size w w' := by
  obtain ⟨ad, n, cap, rfl⟩ := hi'.slice
  obtain ⟨rfl, hl⟩ := hi'.len
  have HI := Lib.hid hi'
  clear hi'
  obtain ⟨r, hr⟩ : ∃ r, r = ascE lo hi l none := ⟨_, rfl⟩
  have HR := Lib.hid hr
  rw [← hr]
  clear hr
  go_enter Try.func44, Try.ntmps44
  go_wp2_with fail
  go_loopw [7, 8, 11] (fun p q i wr => ∃ k : Nat, k ≤ l.length ∧ i = .int .i64 k ∧ Hid (∀ j, j < k → okA lo hi none l j) ∧ Hid (Below w.heap.size w wr)) (fun _ _ i _ => l.length - (intOf i).toNat)
  case atStart => exact ⟨0, by omega, rfl, fun j hj => by omega, Below.refl _ _⟩
  case round =>
    obtain ⟨k, hk, rfl, hp, hb⟩ := hrel
    by_cases hlt : k < l.length
    · obtain ⟨b, off, rfl, c0⟩ := (HI.out.keep hb.out).at k hlt
      have c0' := Lib.hid c0
      have i1 : (0 : Int) ≤ (k : Int) := by omega
      have i2 : (k : Int) < (l.length : Int) := by omega
      have R2 := Lib.hid (asc_range (lo := lo) (hi := hi) (p := none) hp.out hlt)
      have R8 := Lib.hid (asc_order (lo := lo) (hi := hi) (p := none) hp.out hlt)
      have HN : Hid (lo ≤ l.getD k 0 → l.getD k 0 ≤ hi → (k ≠ 0 → l.getD (k - 1) 0 < l.getD k 0) → ∀ j, j < k + 1 → okA lo hi none l j) := fun a b c j hj => by
        by_cases e : j = k
        · subst e; exact ⟨a, b, (fun _ y hy => by cases hy), c⟩
        · exact hp.out j (by omega)
      by_cases h1 : l.getD k 0 < lo
      · have E2 : Hid (r = 2) := HR.out.trans (R2.out (.inl h1))
        clear R2 R8 HN
        generalize l.getD k 0 = x at *
        go_wp2_with fail
        go_ret
        exact ⟨by rw [E2.out]; rfl, hb.out⟩
      by_cases h2 : hi < l.getD k 0
      · have E2 : Hid (r = 2) := HR.out.trans (R2.out (.inr h2))
        have h1' : lo ≤ l.getD k 0 := by omega
        clear R2 R8 HN
        generalize l.getD k 0 = x at *
        go_wp2_with fail
        go_ret
        exact ⟨by rw [E2.out]; rfl, hb.out⟩
      have h1' : lo ≤ l.getD k 0 := by omega
      have h2' : l.getD k 0 ≤ hi := by omega
      by_cases h0 : k = 0
      · have HN2 := Lib.hid (HN.out h1' h2' (fun e => absurd h0 e))
        have d0 : decide (0 < (k : Int)) = false := decide_eq_false (by omega)
        have d1 : (k : Int) ≤ 0 := by omega
        clear R2 R8 HN h0
        generalize l.getD k 0 = x at *
        go_wp2_with fail
        go_roundw
        case rel => exact ⟨k + 1, by omega, by go_num, HN2, hb.out⟩
        case measure => simp [intOf]; omega
      · obtain ⟨b', off', e', c1⟩ := (HI.out.keep hb.out).at (k - 1) (by omega)
        cases e'
        have d0 : decide (0 < (k : Int)) = true := decide_eq_true (by omega)
        have d1 : 0 < (k : Int) := by omega
        have w1 : IntKind.i64.wrap ((k : Int) - 1) = ((k - 1 : Nat) : Int) := by rw [IntWalk.i64_in _ (by omega)]; omega
        have w0 : (k : Int) - 1 = ((k - 1 : Nat) : Int) := by omega
        have w2 : (0 : Int) ≤ ((k - 1 : Nat) : Int) := by omega
        have w3 : ((k - 1 : Nat) : Int) < (l.length : Int) := by omega
        by_cases h3 : l.getD k 0 ≤ l.getD (k - 1) 0
        · have E8 : Hid (r = 8) := HR.out.trans (R8.out h1' h2' h0 h3)
          have d3 : decide (l.getD k 0 ≤ l.getD (k - 1) 0) = true := decide_eq_true h3
          clear R2 R8 HN
          generalize l.getD k 0 = x at *
          generalize l.getD (k - 1) 0 = y at *
          generalize hkk : k - 1 = kk at *
          have HKK := Lib.hid hkk
          clear hkk
          go_wp2_with fail
          go_ret
          exact ⟨by rw [E8.out]; rfl, hb.out⟩
        · have HN2 := Lib.hid (HN.out h1' h2' (fun _ => by omega))
          have d3 : decide (l.getD k 0 ≤ l.getD (k - 1) 0) = false := decide_eq_false h3
          have h3' : l.getD (k - 1) 0 < l.getD k 0 := by omega
          clear R2 R8 HN
          generalize l.getD k 0 = x at *
          generalize l.getD (k - 1) 0 = y at *
          generalize hkk : k - 1 = kk at *
          have HKK := Lib.hid hkk
          clear hkk
          go_wp2_with fail
          go_roundw
          case rel => exact ⟨k + 1, by omega, by go_num, HN2, hb.out⟩
          case measure => simp [intOf]; omega
    · have E0 : Hid (r = 0) := HR.out.trans (asc_all (fun j hj => hp.out j (by omega)))
      have i2 : (l.length : Int) ≤ (k : Int) := by omega
      go_wp2_with fail
      go_ret
      exact ⟨by rw [E0.out]; rfl, hb.out⟩
set_option maxHeartbeats 2000000 in
theorem ascending_any (v : Value) (l : List Int) (lo hi : Int) (w : World) (hi' : IsInts w v l) : Calls Try.prog 47 #[v, .int .i64 lo, .int .i64 hi] w fun e w' => e = .returned (.int .i64 (ascE lo hi l none)) ∧ Below w.heap.size w w' := by
  obtain ⟨ad, n, cap, rfl⟩ := hi'.slice
  obtain ⟨rfl, hl⟩ := hi'.len
  have HI := Lib.hid hi'
  clear hi'
  obtain ⟨r, hr⟩ : ∃ r, r = ascE lo hi l none := ⟨_, rfl⟩
  have HR := Lib.hid hr
  rw [← hr]
  clear hr
  go_enter Try.func47, Try.ntmps47
  go_wp2_with fail
  go_loopw [7] (fun i wr => ∃ k : Nat, k ≤ l.length ∧ i = .int .i64 k ∧ Hid (∀ j, j < k → okA lo hi none l j) ∧ Hid (Below w.heap.size w wr)) (fun i _ => l.length - (intOf i).toNat)
  case atStart => exact ⟨0, by omega, rfl, fun j hj => by omega, Below.refl _ _⟩
  case round =>
    obtain ⟨k, hk, rfl, hp, hb⟩ := hrel
    by_cases hlt : k < l.length
    · obtain ⟨b, off, rfl, c0⟩ := (HI.out.keep hb.out).at k hlt
      have c0' := Lib.hid c0
      have i1 : (0 : Int) ≤ (k : Int) := by omega
      have i2 : (k : Int) < (l.length : Int) := by omega
      have R2 := Lib.hid (asc_range (lo := lo) (hi := hi) (p := none) hp.out hlt)
      have R8 := Lib.hid (asc_order (lo := lo) (hi := hi) (p := none) hp.out hlt)
      have HN : Hid (lo ≤ l.getD k 0 → l.getD k 0 ≤ hi → (k ≠ 0 → l.getD (k - 1) 0 < l.getD k 0) → ∀ j, j < k + 1 → okA lo hi none l j) := fun a b c j hj => by
        by_cases e : j = k
        · subst e; exact ⟨a, b, (fun _ y hy => by cases hy), c⟩
        · exact hp.out j (by omega)
      by_cases h1 : l.getD k 0 < lo
      · have E2 : Hid (r = 2) := HR.out.trans (R2.out (.inl h1))
        clear R2 R8 HN
        generalize l.getD k 0 = x at *
        go_wp2_with fail
        go_ret
        exact ⟨by rw [E2.out]; rfl, hb.out⟩
      by_cases h2 : hi < l.getD k 0
      · have E2 : Hid (r = 2) := HR.out.trans (R2.out (.inr h2))
        have h1' : lo ≤ l.getD k 0 := by omega
        clear R2 R8 HN
        generalize l.getD k 0 = x at *
        go_wp2_with fail
        go_ret
        exact ⟨by rw [E2.out]; rfl, hb.out⟩
      have h1' : lo ≤ l.getD k 0 := by omega
      have h2' : l.getD k 0 ≤ hi := by omega
      by_cases h0 : k = 0
      · have HN2 := Lib.hid (HN.out h1' h2' (fun e => absurd h0 e))
        have d0 : decide (0 < (k : Int)) = false := decide_eq_false (by omega)
        have d1 : (k : Int) ≤ 0 := by omega
        clear R2 R8 HN h0
        generalize l.getD k 0 = x at *
        obtain ⟨z, hz⟩ : ∃ z : Int, z = (k : Int) := ⟨_, rfl⟩
        have z0 : (0 : Int) ≤ z := by omega
        have z2 : z < (l.length : Int) := by omega
        have zd : decide (0 < z) = false := decide_eq_false (by omega)
        have cz : wr.cell? ⟨b, off + z.toNat, none⟩ = some (.int .i64 x) := by rw [hz, Int.toNat_natCast]; exact c0
        have HZ := Lib.hid hz
        rw [← hz]
        clear hz i1 i2 d0 d1 c0
        go_wp2_with fail
        go_quiet (fail)
        go_wp2_with fail
        go_roundw
        case rel => exact ⟨k + 1, by omega, by rw [HZ.out]; go_num, HN2, bdrewN hb.out _⟩
        case measure => have := HZ.out; simp [intOf]; omega
      · obtain ⟨b', off', e', c1⟩ := (HI.out.keep hb.out).at (k - 1) (by omega)
        cases e'
        have d0 : decide (0 < (k : Int)) = true := decide_eq_true (by omega)
        have d1 : 0 < (k : Int) := by omega
        have w1 : IntKind.i64.wrap ((k : Int) - 1) = ((k - 1 : Nat) : Int) := by rw [IntWalk.i64_in _ (by omega)]; omega
        have w0 : (k : Int) - 1 = ((k - 1 : Nat) : Int) := by omega
        have w2 : (0 : Int) ≤ ((k - 1 : Nat) : Int) := by omega
        have w3 : ((k - 1 : Nat) : Int) < (l.length : Int) := by omega
        by_cases h3 : l.getD k 0 ≤ l.getD (k - 1) 0
        · have E8 : Hid (r = 8) := HR.out.trans (R8.out h1' h2' h0 h3)
          have d3 : decide (l.getD k 0 ≤ l.getD (k - 1) 0) = true := decide_eq_true h3
          clear R2 R8 HN
          generalize l.getD k 0 = x at *
          generalize l.getD (k - 1) 0 = y at *
          obtain ⟨z, hz⟩ : ∃ z : Int, z = (k : Int) := ⟨_, rfl⟩
          obtain ⟨z1, hz1⟩ : ∃ z1 : Int, z1 = ((k - 1 : Nat) : Int) := ⟨_, rfl⟩
          have z0 : (0 : Int) ≤ z := by omega
          have z2 : z < (l.length : Int) := by omega
          have z3 : (0 : Int) ≤ z1 := by omega
          have z4 : z1 < (l.length : Int) := by omega
          have zd : decide (0 < z) = true := decide_eq_true (by omega)
          have zw : IntKind.i64.wrap (z - 1) = z1 := by rw [hz, hz1]; exact w1
          have cz : wr.cell? ⟨b, off + z.toNat, none⟩ = some (.int .i64 x) := by rw [hz, Int.toNat_natCast]; exact c0
          have cy : wr.cell? ⟨b, off + z1.toNat, none⟩ = some (.int .i64 y) := by rw [hz1, Int.toNat_natCast]; exact c1
          have HZ := Lib.hid hz
          rw [← hz]
          clear hz hz1 i1 i2 d0 d1 c0 c1 w0 w1 w2 w3
          go_wp2_with fail
          go_quiet (fail)
          go_wp2_with fail
          go_ret
          exact ⟨by rw [E8.out]; rfl, bdrewN hb.out _⟩
        · have HN2 := Lib.hid (HN.out h1' h2' (fun _ => by omega))
          have d3 : decide (l.getD k 0 ≤ l.getD (k - 1) 0) = false := decide_eq_false h3
          have h3' : l.getD (k - 1) 0 < l.getD k 0 := by omega
          clear R2 R8 HN
          generalize l.getD k 0 = x at *
          generalize l.getD (k - 1) 0 = y at *
          obtain ⟨z, hz⟩ : ∃ z : Int, z = (k : Int) := ⟨_, rfl⟩
          obtain ⟨z1, hz1⟩ : ∃ z1 : Int, z1 = ((k - 1 : Nat) : Int) := ⟨_, rfl⟩
          have z0 : (0 : Int) ≤ z := by omega
          have z2 : z < (l.length : Int) := by omega
          have z3 : (0 : Int) ≤ z1 := by omega
          have z4 : z1 < (l.length : Int) := by omega
          have zd : decide (0 < z) = true := decide_eq_true (by omega)
          have zw : IntKind.i64.wrap (z - 1) = z1 := by rw [hz, hz1]; exact w1
          have cz : wr.cell? ⟨b, off + z.toNat, none⟩ = some (.int .i64 x) := by rw [hz, Int.toNat_natCast]; exact c0
          have cy : wr.cell? ⟨b, off + z1.toNat, none⟩ = some (.int .i64 y) := by rw [hz1, Int.toNat_natCast]; exact c1
          have HZ := Lib.hid hz
          rw [← hz]
          clear hz hz1 i1 i2 d0 d1 c0 c1 w0 w1 w2 w3
          go_wp2_with fail
          go_quiet (fail)
          go_wp2_with fail
          go_roundw
          case rel => exact ⟨k + 1, by omega, by rw [HZ.out]; go_num, HN2, bdrewN hb.out _⟩
          case measure => have := HZ.out; simp [intOf]; omega
    · have E0 : Hid (r = 0) := HR.out.trans (asc_all (fun j hj => hp.out j (by omega)))
      have i2 : (l.length : Int) ≤ (k : Int) := by omega
      go_wp2_with fail
      go_ret
      exact ⟨by rw [E0.out]; rfl, hb.out⟩
end Go.Proofs.Ytgdcgmnfgbdiiaa
