/- Helper facts for the statements of this seat; no statement itself. -/
import Derived.Test.YtlmdfanhimhlcaaC
import Derived.Outline
namespace Go.Proofs.Ytlmdfanhimhlcaa
open Go.RowKit
set_option linter.unusedSimpArgs false
set_option linter.unusedVariables false
set_option linter.unnecessarySimpa false

theorem heapS {w : World} {g : Nat} {o : Obj} (h : w.heap[g]? = some o) (p : Addr) (v : Value) (hp : p.block ≠ g) : (w.setCell p v).heap[g]? = some o := by
  rw [heap_setCell_other _ _ _ _ (by omega)]; exact h
theorem isIntsL {W : World} {g : Nat} {t : TypeId} (l : List Int) (hl : l.length ≤ 4294967296) (h : W.heap[g]? = some (.cells (l.map (Value.int .i64)).toArray t (0, 0))) : IsInts W (.slice (some ⟨g, 0, none⟩) l.length l.length) l :=
  ⟨_, _, _, rfl, rfl, hl, .inr ⟨g, 0, rfl, fun k hk => by
    refine setRow_cell h ?_
    simp [List.getD, hk]⟩⟩
/-- What the marks and a number give. -/
def sn1 (a b c n : Int) : Int := snd a b c [n]
def lvR (a b c n : Int) : Int := if sn1 a b c n = 0 then lvl a b c n else 0
def nxR (a b c : Int) (aw : Bool) (n : Int) : Bool := if sn1 a b c n = 0 then nxt b c aw n else false
def msR (a b c : Int) (aw : Bool) (n : Int) : Int := if nxR a b c aw n = true then c - n else 0
theorem chkM_ok {a b c : Int} (h : chkM a b c = 0) : 0 ≤ a ∧ a < b ∧ b < c ∧ c ≤ 256 := by
  unfold chkM at h
  repeat' split at h
  all_goals omega
theorem sn1_ok {a b c n : Int} (h : sn1 a b c n = 0) : chkM a b c = 0 ∧ 0 ≤ n ∧ n ≤ 256 := by
  unfold sn1 snd at h
  by_cases hv : chkM a b c = 0
  · rw [if_pos hv, if_neg (by simp)] at h
    by_cases hb : bad [n] = true
    · rw [sb_yes hb] at h; omega
    · have := bad_all (l := [n]) (by simpa using hb) 0 (by simp)
      exact ⟨hv, by simpa using this⟩
  · rw [if_neg hv] at h; exact absurd h hv
theorem ret2_bi {a a' : Bool} {x y : Int} (h1 : a = a') (h2 : x = y) : Ending.returned (.tuple #[.bool a, .int .i64 x]) = .returned (.tuple #[.bool a', .int .i64 y]) := by rw [h1, h2]
theorem ret2_ii {a a' : Int} {x y : Int} (h1 : a = a') (h2 : x = y) : Ending.returned (.tuple #[.int .i64 a, .int .i64 x]) = .returned (.tuple #[.int .i64 a', .int .i64 y]) := by rw [h1, h2]

set_option maxHeartbeats 1000000 in
theorem level_full (a b c n : Int) (w : World) :
    Calls Try.prog 9 #[MV a b c, .int .i64 n] w fun e w' => e = .returned (.tuple #[.int .i64 (lvR a b c n), .int .i64 (sn1 a b c n)]) ∧ Below w.heap.size w w' := by
  by_cases hs : sn1 a b c n = 0
  · have HS : Hid (snd a b c [n] = 0) := hs
    have HR : Hid (lvR a b c n = lvl a b c n ∧ sn1 a b c n = 0) := ⟨if_pos hs, hs⟩
    clear hs
    go_enter Try.func9, Try.ntmps9
    go_wp2_with fail
    refine (sound_any a b c _ [n] _ ?i1).mono ?_
    case i1 => exact isIntsL [n] (by simp) (h2_1 _ _ _)
    rintro e w1 ⟨rfl, hb⟩
    rw [HS.out]
    obtain ⟨q0, q1, q2⟩ := c3 (bkeep hb (h2_0 _ _ _))
    have B1 := Lib.hid (btrans (((Below.refl _ _).alloc (Nat.le_refl _) _).alloc (by simp only [World.size_alloc] <;> omega) _) hb)
    clear hb
    go_wp2_with fail
    refine (levelOf_any a b c n _).mono ?_
    rintro e w2 ⟨rfl, hb⟩
    have B2 := Lib.hid (btrans B1.out hb)
    clear hb q0 q1 q2
    go_wp2_with fail
    go_ret2
    exact ⟨ret2_ii HR.out.1.symm HR.out.2.symm, B2.out⟩
  · have HR : Hid (lvR a b c n = 0 ∧ sn1 a b c n = snd a b c [n]) := ⟨if_neg hs, rfl⟩
    have h' : (snd a b c [n] != 0) = true := by rw [bne_iff_ne]; exact hs
    clear hs
    go_enter Try.func9, Try.ntmps9
    go_wp2_with fail
    refine (sound_any a b c _ [n] _ ?i2).mono ?_
    case i2 => exact isIntsL [n] (by simp) (h2_1 _ _ _)
    rintro e w1 ⟨rfl, hb⟩
    have B1 := Lib.hid (btrans (((Below.refl _ _).alloc (Nat.le_refl _) _).alloc (by simp only [World.size_alloc] <;> omega) _) hb)
    clear hb
    go_wp2_with fail
    go_ret2
    exact ⟨ret2_ii HR.out.1.symm HR.out.2.symm, B1.out⟩

set_option maxHeartbeats 1000000 in
theorem rlevelF_full (a b c n : Int) (w : World) :
    Calls Try.prog 10 #[MV a b c, .int .i64 n] w fun e w' => e = .returned (.tuple #[.int .i64 (lvR a b c n), .int .i64 (sn1 a b c n)]) ∧ Below w.heap.size w w' := by
  by_cases hs : sn1 a b c n = 0
  · have HS : Hid (snd a b c [n] = 0) := hs
    have HR : Hid (lvR a b c n = lvl a b c n ∧ sn1 a b c n = 0) := ⟨if_pos hs, hs⟩
    clear hs
    go_enter Try.func10, Try.ntmps10
    go_wp2_with fail
    refine (asks_any a b c _ [n] _ ?i1).mono ?_
    case i1 => exact isIntsL [n] (by simp) (h2_1 _ _ _)
    rintro e w1 ⟨rfl, hb⟩
    rw [HS.out]
    obtain ⟨q0, q1, q2⟩ := c3 (bkeep hb (h2_0 _ _ _))
    have B1 := Lib.hid (btrans (((Below.refl _ _).alloc (Nat.le_refl _) _).alloc (by simp only [World.size_alloc] <;> omega) _) hb)
    clear hb
    go_wp2_with fail
    refine (rlevel_any a b c n _).mono ?_
    rintro e w2 ⟨rfl, hb⟩
    have B2 := Lib.hid (btrans B1.out hb)
    clear hb q0 q1 q2
    go_wp2_with fail
    go_ret2
    exact ⟨ret2_ii HR.out.1.symm HR.out.2.symm, B2.out⟩
  · have HR : Hid (lvR a b c n = 0 ∧ sn1 a b c n = snd a b c [n]) := ⟨if_neg hs, rfl⟩
    have h' : (snd a b c [n] != 0) = true := by rw [bne_iff_ne]; exact hs
    clear hs
    go_enter Try.func10, Try.ntmps10
    go_wp2_with fail
    refine (asks_any a b c _ [n] _ ?i2).mono ?_
    case i2 => exact isIntsL [n] (by simp) (h2_1 _ _ _)
    rintro e w1 ⟨rfl, hb⟩
    have B1 := Lib.hid (btrans (((Below.refl _ _).alloc (Nat.le_refl _) _).alloc (by simp only [World.size_alloc] <;> omega) _) hb)
    clear hb
    go_wp2_with fail
    go_ret2
    exact ⟨ret2_ii HR.out.1.symm HR.out.2.symm, B1.out⟩

set_option maxHeartbeats 1000000 in
theorem next_full (a b c : Int) (aw : Bool) (n : Int) (w : World) :
    Calls Try.prog 13 #[MV a b c, .bool aw, .int .i64 n] w fun e w' => e = .returned (.tuple #[.bool (nxR a b c aw n), .int .i64 (sn1 a b c n)]) ∧ Below w.heap.size w w' := by
  by_cases hs : sn1 a b c n = 0
  · have HS : Hid (snd a b c [n] = 0) := hs
    have HR : Hid (nxR a b c aw n = nxt b c aw n ∧ sn1 a b c n = 0) := ⟨if_pos hs, hs⟩
    clear hs
    go_enter Try.func13, Try.ntmps13
    go_wp2_with fail
    refine (sound_any a b c _ [n] _ ?i1).mono ?_
    case i1 => exact isIntsL [n] (by simp) (h2_1 _ _ _)
    rintro e w1 ⟨rfl, hb⟩
    rw [HS.out]
    obtain ⟨q0, q1, q2⟩ := c3 (bkeep hb (h2_0 _ _ _))
    have B1 := Lib.hid (btrans (((Below.refl _ _).alloc (Nat.le_refl _) _).alloc (by simp only [World.size_alloc] <;> omega) _) hb)
    clear hb
    go_wp2_with fail
    refine (next_any a b c aw n _).mono ?_
    rintro e w2 ⟨rfl, hb⟩
    have B2 := Lib.hid (btrans B1.out hb)
    clear hb q0 q1 q2
    go_wp2_with fail
    go_ret2
    exact ⟨ret2_bi HR.out.1.symm HR.out.2.symm, B2.out⟩
  · have HR : Hid (nxR a b c aw n = false ∧ sn1 a b c n = snd a b c [n]) := ⟨if_neg hs, rfl⟩
    have h' : (snd a b c [n] != 0) = true := by rw [bne_iff_ne]; exact hs
    clear hs
    go_enter Try.func13, Try.ntmps13
    go_wp2_with fail
    refine (sound_any a b c _ [n] _ ?i2).mono ?_
    case i2 => exact isIntsL [n] (by simp) (h2_1 _ _ _)
    rintro e w1 ⟨rfl, hb⟩
    have B1 := Lib.hid (btrans (((Below.refl _ _).alloc (Nat.le_refl _) _).alloc (by simp only [World.size_alloc] <;> omega) _) hb)
    clear hb
    go_wp2_with fail
    go_ret2
    exact ⟨ret2_bi HR.out.1.symm HR.out.2.symm, B1.out⟩

set_option maxHeartbeats 1000000 in
theorem rnextF_full (a b c : Int) (aw : Bool) (n : Int) (w : World) :
    Calls Try.prog 14 #[MV a b c, .bool aw, .int .i64 n] w fun e w' => e = .returned (.tuple #[.bool (nxR a b c aw n), .int .i64 (sn1 a b c n)]) ∧ Below w.heap.size w w' := by
  by_cases hs : sn1 a b c n = 0
  · have HS : Hid (snd a b c [n] = 0) := hs
    have HR : Hid (nxR a b c aw n = nxt b c aw n ∧ sn1 a b c n = 0) := ⟨if_pos hs, hs⟩
    clear hs
    go_enter Try.func14, Try.ntmps14
    go_wp2_with fail
    refine (asks_any a b c _ [n] _ ?i1).mono ?_
    case i1 => exact isIntsL [n] (by simp) (h2_1 _ _ _)
    rintro e w1 ⟨rfl, hb⟩
    rw [HS.out]
    obtain ⟨q0, q1, q2⟩ := c3 (bkeep hb (h2_0 _ _ _))
    have B1 := Lib.hid (btrans (((Below.refl _ _).alloc (Nat.le_refl _) _).alloc (by simp only [World.size_alloc] <;> omega) _) hb)
    clear hb
    go_wp2_with fail
    refine (rnext_any a b c aw n _).mono ?_
    rintro e w2 ⟨rfl, hb⟩
    have B2 := Lib.hid (btrans B1.out hb)
    clear hb q0 q1 q2
    go_wp2_with fail
    go_ret2
    exact ⟨ret2_bi HR.out.1.symm HR.out.2.symm, B2.out⟩
  · have HR : Hid (nxR a b c aw n = false ∧ sn1 a b c n = snd a b c [n]) := ⟨if_neg hs, rfl⟩
    have h' : (snd a b c [n] != 0) = true := by rw [bne_iff_ne]; exact hs
    clear hs
    go_enter Try.func14, Try.ntmps14
    go_wp2_with fail
    refine (asks_any a b c _ [n] _ ?i2).mono ?_
    case i2 => exact isIntsL [n] (by simp) (h2_1 _ _ _)
    rintro e w1 ⟨rfl, hb⟩
    have B1 := Lib.hid (btrans (((Below.refl _ _).alloc (Nat.le_refl _) _).alloc (by simp only [World.size_alloc] <;> omega) _) hb)
    clear hb
    go_wp2_with fail
    go_ret2
    exact ⟨ret2_bi HR.out.1.symm HR.out.2.symm, B1.out⟩

set_option maxHeartbeats 1000000 in
theorem missing_full (a b c : Int) (aw : Bool) (n : Int) (w : World) :
    Calls Try.prog 15 #[MV a b c, .bool aw, .int .i64 n] w fun e w' => e = .returned (.tuple #[.int .i64 (msR a b c aw n), .int .i64 (sn1 a b c n)]) ∧ Below w.heap.size w w' := by
  by_cases hs : sn1 a b c n = 0
  · obtain ⟨hk, hn1, hn2⟩ := sn1_ok hs
    obtain ⟨k1, k2, k3, k4⟩ := chkM_ok hk
    have HS : Hid (snd a b c [n] = 0) := hs
    have HR : Hid (nxR a b c aw n = nxt b c aw n ∧ sn1 a b c n = 0) := ⟨if_pos hs, hs⟩
    clear hs hk
    cases hx : nxt b c aw n
    · have HX := Lib.hid hx
      have HM : Hid (msR a b c aw n = 0) := by show _ = _; unfold msR; rw [HR.out.1, hx]; rfl
      clear hx
      go_enter Try.func15, Try.ntmps15
      go_wp2_with fail
      refine (sound_any a b c _ [n] _ ?i1).mono ?_
      case i1 => exact isIntsL [n] (by simp) (h2_1 _ _ _)
      rintro e w1 ⟨rfl, hb⟩
      rw [HS.out]
      have H0 := Lib.hid (bkeep hb (h2_0 _ _ _))
      obtain ⟨q0, q1, q2⟩ := c3 H0.out
      have B1 := Lib.hid (btrans (((Below.refl _ _).alloc (Nat.le_refl _) _).alloc (by simp only [World.size_alloc] <;> omega) _) hb)
      clear hb
      go_wp2_with fail
      refine (next_any a b c aw n _).mono ?_
      rintro e w2 ⟨rfl, hb⟩
      rw [HX.out]
      have B2 := Lib.hid (btrans B1.out hb)
      clear hb q0 q1 q2
      go_wp2_with fail
      go_ret2
      exact ⟨ret2_ii HM.out.symm HR.out.2.symm, B2.out⟩
    · have HX := Lib.hid hx
      have HM : Hid (msR a b c aw n = c - n) := by show _ = _; unfold msR; rw [HR.out.1, hx]; rfl
      clear hx
      go_enter Try.func15, Try.ntmps15
      go_wp2_with fail
      refine (sound_any a b c _ [n] _ ?i2).mono ?_
      case i2 => exact isIntsL [n] (by simp) (h2_1 _ _ _)
      rintro e w1 ⟨rfl, hb⟩
      rw [HS.out]
      have H0 := Lib.hid (bkeep hb (h2_0 _ _ _))
      obtain ⟨q0, q1, q2⟩ := c3 H0.out
      have B1 := Lib.hid (btrans (((Below.refl _ _).alloc (Nat.le_refl _) _).alloc (by simp only [World.size_alloc] <;> omega) _) hb)
      clear hb
      go_wp2_with fail
      refine (next_any a b c aw n _).mono ?_
      rintro e w2 ⟨rfl, hb⟩
      rw [HX.out]
      have H2 := Lib.hid (bkeep hb H0.out)
      have B2 := Lib.hid (btrans B1.out hb)
      clear hb q0 q1 q2
      obtain ⟨q0, q1, q2⟩ := c3 H2.out
      go_wp2_with fail
      go_ret2
      exact ⟨ret2_ii HM.out.symm HR.out.2.symm, B2.out⟩
  · have HR : Hid (msR a b c aw n = 0 ∧ sn1 a b c n = snd a b c [n]) := ⟨by unfold msR nxR; rw [if_neg hs]; rfl, rfl⟩
    have h' : (snd a b c [n] != 0) = true := by rw [bne_iff_ne]; exact hs
    clear hs
    go_enter Try.func15, Try.ntmps15
    go_wp2_with fail
    refine (sound_any a b c _ [n] _ ?i3).mono ?_
    case i3 => exact isIntsL [n] (by simp) (h2_1 _ _ _)
    rintro e w1 ⟨rfl, hb⟩
    have B1 := Lib.hid (btrans (((Below.refl _ _).alloc (Nat.le_refl _) _).alloc (by simp only [World.size_alloc] <;> omega) _) hb)
    clear hb
    go_wp2_with fail
    go_ret2
    exact ⟨ret2_ii HR.out.1.symm HR.out.2.symm, B1.out⟩

set_option maxHeartbeats 1000000 in
theorem rmissing_full (a b c : Int) (aw : Bool) (n : Int) (w : World) :
    Calls Try.prog 16 #[MV a b c, .bool aw, .int .i64 n] w fun e w' => e = .returned (.tuple #[.int .i64 (msR a b c aw n), .int .i64 (sn1 a b c n)]) ∧ Below w.heap.size w w' := by
  by_cases hs : sn1 a b c n = 0
  · obtain ⟨hk, hn1, hn2⟩ := sn1_ok hs
    obtain ⟨k1, k2, k3, k4⟩ := chkM_ok hk
    have HS := Lib.hid hs
    clear hs hk
    cases hx : nxR a b c aw n
    · have HX := Lib.hid hx
      have HM : Hid (msR a b c aw n = 0) := by show _ = _; unfold msR; rw [hx]; rfl
      clear hx
      go_enter Try.func16, Try.ntmps16
      go_wp2_with fail
      refine (rnextF_full a b c aw n _).mono ?_
      rintro e w1 ⟨rfl, hb⟩
      rw [HX.out, HS.out]
      have B1 := Lib.hid (btrans ((Below.refl _ _).alloc (Nat.le_refl _) _) hb)
      clear hb
      go_wp2_with fail
      go_ret2
      exact ⟨ret2_ii HM.out.symm HS.out.symm, B1.out⟩
    · have HX := Lib.hid hx
      have HM : Hid (msR a b c aw n = c - n) := by show _ = _; unfold msR; rw [hx]; rfl
      clear hx
      go_enter Try.func16, Try.ntmps16
      go_wp2_with fail
      refine (rnextF_full a b c aw n _).mono ?_
      rintro e w1 ⟨rfl, hb⟩
      rw [HX.out, HS.out]
      obtain ⟨q0, q1, q2⟩ := c3 (bfirst _ _ hb).1
      have B1 := Lib.hid (btrans ((Below.refl _ _).alloc (Nat.le_refl _) _) hb)
      clear hb
      go_wp2_with fail
      go_ret2
      exact ⟨ret2_ii HM.out.symm HS.out.symm, B1.out⟩
  · have HR : Hid (msR a b c aw n = 0 ∧ nxR a b c aw n = false) := ⟨by unfold msR nxR; rw [if_neg hs]; rfl, if_neg hs⟩
    have h' : (sn1 a b c n != 0) = true := by simpa using hs
    clear hs
    go_enter Try.func16, Try.ntmps16
    go_wp2_with fail
    refine (rnextF_full a b c aw n _).mono ?_
    rintro e w1 ⟨rfl, hb⟩
    rw [HR.out.2]
    have B1 := Lib.hid (btrans ((Below.refl _ _).alloc (Nat.le_refl _) _) hb)
    clear hb
    go_wp2_with fail
    go_ret2
    exact ⟨ret2_ii HR.out.1.symm rfl, B1.out⟩
end Go.Proofs.Ytlmdfanhimhlcaa
