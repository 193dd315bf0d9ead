/- Helper facts for the statements of this seat; no statement itself. -/
import Derived.Test.YtcicgccllhkolaaDoorI
import Derived.Outline
namespace Go.Proofs.YtcicgccllhkolaaDoor
open Go.RowKit
set_option linter.unusedSimpArgs false
set_option linter.unusedVariables false
set_option linter.unnecessarySimpa false

/-- What events make of a valid page: the page, how many, the error. -/
def runW (s r c : Int) : List (Int × Int) → Int × Int × Int × Int × Int
  | [] => (s, r, c, 0, 0)
  | e :: l => if nE s r e.1 e.2 = 0 then
      (let q := runW (nS s r e.1 e.2) (nR s r e.1 e.2) (nC s r c e.1 e.2) l
       (q.1, q.2.1, q.2.2.1, q.2.2.2.1 + 1, q.2.2.2.2))
    else (s, r, c, 0, nE s r e.1 e.2)
/-- The same, some events having been done. -/
def shR (i : Nat) (q : Int × Int × Int × Int × Int) : Int × Int × Int × Int × Int := (q.1, q.2.1, q.2.2.1, q.2.2.2.1 + (i : Int), q.2.2.2.2)
theorem run_start (s r c : Int) (l : List (Int × Int)) : runW s r c l = shR 0 (runW s r c (l.drop 0)) := by simp [shR]
theorem drop_cons {l : List (Int × Int)} {i : Nat} (h : i < l.length) : l.drop i = l.getD i (0, 0) :: l.drop (i + 1) := by
  rw [List.drop_eq_getElem_cons h]; simp [List.getD, h]
theorem run_step {s r c s' r' c' : Int} {l : List (Int × Int)} {i : Nat} (h : runW s r c l = shR i (runW s' r' c' (l.drop i))) (hi : i < l.length) (k p : Int) (hk : (l.getD i (0, 0)).1 = k) (hp : (l.getD i (0, 0)).2 = p) (he : nE s' r' k p = 0) :
    runW s r c l = shR (i + 1) (runW (nS s' r' k p) (nR s' r' k p) (nC s' r' c' k p) (l.drop (i + 1))) := by
  rw [h, drop_cons hi]
  subst hk hp
  simp only [runW, if_pos he, shR]
  refine congrArg _ (congrArg _ (congrArg _ (Prod.ext ?_ rfl)))
  show _ + _ = _ + _
  omega
theorem run_stop {s r c s' r' c' : Int} {l : List (Int × Int)} {i : Nat} (h : runW s r c l = shR i (runW s' r' c' (l.drop i))) (hi : i < l.length) (k p : Int) (hk : (l.getD i (0, 0)).1 = k) (hp : (l.getD i (0, 0)).2 = p) (he : nE s' r' k p ≠ 0) :
    runW s r c l = (s', r', c', (i : Int), nE s' r' k p) := by
  rw [h, drop_cons hi]
  subst hk hp
  simp only [runW, if_neg he, shR, Int.zero_add]
theorem run_end {s r c s' r' c' : Int} {l : List (Int × Int)} {i : Nat} (h : runW s r c l = shR i (runW s' r' c' (l.drop i))) (hi : l.length ≤ i) : runW s r c l = (s', r', c', (i : Int), 0) := by
  rw [h, List.drop_eq_nil_of_le hi]
  simp [runW, shR]
/-- A page stays valid. -/
theorem chk_next {s r c k p : Int} (h : chk s r c = 0) (he : nE s r k p = 0) : chk (nS s r k p) (nR s r k p) (nC s r c k p) = 0 := by
  unfold nS nR nC
  rw [if_pos he, if_pos he, if_pos he]
  obtain ⟨hs1, hs2, hr, hr2⟩ := chk_ok h
  have hev : evk k p = 0 := by
    unfold nE at he
    by_cases h0 : evk k p = 0
    · exact h0
    · rw [if_neg h0] at he; exact absurd he h0
  obtain ⟨hk1, hk2⟩ := evk_ok hev
  have hps : psb s r k = 0 := by unfold nE at he; rwa [if_pos hev] at he
  clear he
  rcases six hk1 hk2 with rfl | rfl | rfl | rfl | rfl | rfl <;> rcases six hs1 hs2 with rfl | rfl | rfl | rfl | rfl | rfl <;> simp [chk, leastR, mostR, psb, evk, aS, aR, aC] at * <;> (try omega) <;> (repeat' split) <;> omega

/-- What Run gives. -/
def rW (s r c : Int) (l : List (Int × Int)) : Int × Int × Int × Int × Int := if chk s r c = 0 then runW s r c l else (0, 0, 0, 0, chk s r c)

/-- The value is a slice of these events. -/
def IsEvs (w : World) (v : Value) (l : List (Int × Int)) : Prop :=
  ∃ a len cap, v = .slice a len cap ∧ len = l.length ∧ l.length ≤ 4294967296 ∧ (l = [] ∨ ∃ b off, a = some ⟨b, off, none⟩ ∧
    ∀ k, k < l.length → w.cell? ⟨b, off + k * 2, none⟩ = some (.int .i64 (l.getD k (0, 0)).1) ∧ w.cell? ⟨b, off + k * 2 + 1, none⟩ = some (.int .i64 (l.getD k (0, 0)).2))
theorem IsEvs.keep {w w' : World} {v : Value} {l : List (Int × Int)} (h : IsEvs w v l) (hb : Below w.heap.size w w') : IsEvs w' v l := by
  obtain ⟨a, len, cap, h1, h2, h0, h3⟩ := h
  refine ⟨a, len, cap, h1, h2, h0, ?_⟩
  rcases h3 with h3 | ⟨b, off, h3, h4⟩
  · exact .inl h3
  · exact .inr ⟨b, off, h3, fun k hk => by
      obtain ⟨c0, c1⟩ := h4 k hk
      exact ⟨(hb.cell (p := ⟨b, off + k * 2, none⟩) (cell_lt c0)).trans c0, (hb.cell (p := ⟨b, off + k * 2 + 1, none⟩) (cell_lt c1)).trans c1⟩⟩

/-- Results: a page on its way, a number, and an error. -/
theorem res23b {fn : Func} {p u x : Tmp} (h : fn.results = #[.cell p 23, .tmp u, .tmp x]) (tmps : Array Value) (w : World) (g : Nat) (t : TypeId) (s r c : Int)
    (hp : tmps.getD p undef = .pointer (some ⟨g, 0, none⟩)) (hg : w.heap[g]? = some (.cells #[.int .i64 s, .int .i64 r, .int .i64 c] t (0, 0))) :
    (results fn tmps).run Tryd.prog w = .ok (.tuple #[WV s r c, tmps.getD u undef, tmps.getD x undef]) w := by
  have h1 := run_loadVar_row (P := Tryd.prog) w g t 23 #[.int .i64 s, .int .i64 r, .int .i64 c] (0, 0) _ hg Tryd.underlying23 rfl (by rw [size23]; rfl)
  have hp' : tmps[p]?.getD undef = .pointer (some ⟨g, 0, none⟩) := by simpa using hp
  simp [results, h, hp', asAddr, h1]

/-- Two blocks of pages, at the call's first places. -/
def PG (w : World) (s r c : Int) (wr : World) : Prop :=
  wr.heap[w.heap.size]? = some (.cells #[.int .i64 s, .int .i64 r, .int .i64 c] 23 (0, 0)) ∧ wr.heap[w.heap.size + 1]? = some (.cells #[.int .i64 0, .int .i64 0, .int .i64 0] 23 (0, 0)) ∧ Below w.heap.size w wr
theorem PG.keep {w wr w' : World} {s r c : Int} (h : PG w s r c wr) (hb : Below wr.heap.size wr w') : PG w s r c w' := ⟨bkeep hb h.1, bkeep hb h.2.1, btrans h.2.2 hb⟩
theorem PG.alloc {w wr : World} {s r c : Int} (h : PG w s r c wr) (o : Obj) : PG w s r c (wr.alloc o) := ⟨hold1 h.1 o, hold1 h.2.1 o, balloc h.2.2 o⟩
theorem PG.drew {w wr : World} {s r c : Int} (h : PG w s r c wr) : PG w s r c wr.drew := ⟨h.1, h.2.1, h.2.2.drew⟩
theorem PG.drewN {w wr : World} {s r c : Int} (h : PG w s r c wr) (n : Nat) : PG w s r c (wr.drewN n) := ⟨h.1, h.2.1, bdrewN h.2.2 n⟩
theorem PG.set {w wr : World} {s r c : Int} (h : PG w s r c wr) (s' r' c' : Int) : PG w s' r' c' (wr.setRow w.heap.size #[.int .i64 s', .int .i64 r', .int .i64 c']) :=
  ⟨setRow_heap _ _ _ _ _ _ h.1, (setRow_other _ _ _ _ (by omega)).trans h.2.1, below_setRow h.2.2 (by omega) _⟩
theorem PG.lt {w wr : World} {s r c : Int} (h : PG w s r c wr) : w.heap.size + 1 < wr.heap.size := lt_of_some h.2.1
theorem PG.cells {w wr : World} {s r c : Int} (h : PG w s r c wr) : wr.cell? ⟨w.heap.size, 0, none⟩ = some (.int .i64 s) ∧ wr.cell? ⟨w.heap.size, 1, none⟩ = some (.int .i64 r) ∧ wr.cell? ⟨w.heap.size, 2, none⟩ = some (.int .i64 c) := wcells h.1

set_option maxHeartbeats 1000000 in
theorem run_bad (s r c : Int) (v : Value) (w : World) (hv : chk s r c ≠ 0) :
    Calls Tryd.prog 19 #[WV s r c, v] w fun e w' => e = .returned (.tuple #[WV 0 0 0, .int .i64 0, .int .i64 (chk s r c)]) ∧ Below w.heap.size w w' := by
  have h' : (chk s r c != 0) = true := by simpa using hv
  clear hv
  go_enter Tryd.func19, Tryd.ntmps19
  go_wp2_with fail
  refine (check_any s r c _).mono ?_
  rintro e w1 ⟨rfl, hb⟩
  have G2 := Lib.hid (bkeep hb (h2_1 _ _ _))
  have B1 := Lib.hid (btrans (((Below.refl _ _).alloc (Nat.le_refl _) _).alloc (by simp only [World.size_alloc] <;> omega) _) hb)
  clear hb
  go_wp2_with (((with_reducible refine st23 (.tmp 4) (.tmp 16) ?a2 ?b2 (w.heap.size + 1) 0 0 0 #[.int .i64 0, .int .i64 0, .int .i64 0] ?c2 ?d2 ?e2 23 ?f2 ?_); (case a2 => rfl); (case b2 => rfl); (case c2 => rfl); (case d2 => rfl); (case e2 => rfl); (case f2 => exact G2.out)))
  refine bodyPost_ret (v := .tuple #[WV 0 0 0, .int .i64 0, .int .i64 (chk s r c)]) ?_ rfl ⟨rfl, ?_⟩
  · exact res23b (fn := Tryd.f19) (p := 4) (u := 5) (x := 6) rfl _ _ (w.heap.size + 1) 23 0 0 0 (by rfl) (setRow_heap _ _ _ _ _ _ G2.out)
  · exact below_setRow B1.out (by omega) _

set_option maxHeartbeats 2000000 in
theorem run_good (s r c : Int) (b off cap n : Nat) (l : List (Int × Int)) (w : World) (hv : chk s r c = 0) (hn : n = l.length) (hn2 : n ≤ 4294967296)
    (hl : ∀ k, k < n → w.cell? ⟨b, off + k * 2, none⟩ = some (.int .i64 (l.getD k (0, 0)).1) ∧ w.cell? ⟨b, off + k * 2 + 1, none⟩ = some (.int .i64 (l.getD k (0, 0)).2)) :
    Calls Tryd.prog 19 #[WV s r c, .slice (some ⟨b, off, none⟩) n cap] w fun e w' => e = .returned (.tuple #[WV (runW s r c l).1 (runW s r c l).2.1 (runW s r c l).2.2.1, .int .i64 (runW s r c l).2.2.2.1, .int .i64 (runW s r c l).2.2.2.2]) ∧ Below w.heap.size w w' := by
  have HV := Lib.hid hv
  have HN := Lib.hid hn
  have HL := Lib.hid hl
  clear hv hn hl
  go_enter Tryd.func19, Tryd.ntmps19
  go_wp2_with fail
  refine (check_any s r c _).mono ?_
  rintro e w1 ⟨rfl, hb⟩
  rw [HV.out]
  have P1 : Hid (PG w s r c w1) := ⟨bkeep hb (h2_0 _ _ _), bkeep hb (h2_1 _ _ _), btrans (((Below.refl _ _).alloc (Nat.le_refl _) _).alloc (by simp only [World.size_alloc] <;> omega) _) hb⟩
  clear hb
  go_wp2_with fail
  go_loopw [20] (fun i wr => ∃ (k : Nat) (s' r' c' : Int), k ≤ n ∧ i = .int .i64 k ∧ Hid (chk s' r' c' = 0) ∧ Hid (runW s r c l = shR k (runW s' r' c' (l.drop k))) ∧ Hid (PG w s' r' c' wr)) (fun i _ => n - (intOf i).toNat)
  case atStart => exact ⟨0, s, r, c, by omega, rfl, HV, run_start s r c l, P1⟩
  case round =>
    obtain ⟨k, s', r', c', hk, rfl, hc, hr, hp⟩ := hrel
    have hlt1 := hp.out.lt
    have hlt0 : w.heap.size < wr.heap.size := by omega
    obtain ⟨q0, q1, q2⟩ := hp.out.cells
    by_cases hkn : k < n
    · obtain ⟨d0, d1⟩ := HL.out k hkn
      have c0 := (hp.out.2.2.cell (cell_lt d0)).trans d0
      have c1 := (hp.out.2.2.cell (cell_lt d1)).trans d1
      clear d0 d1
      obtain ⟨kk, hkk⟩ : ∃ x, (l.getD k (0, 0)).1 = x := ⟨_, rfl⟩
      obtain ⟨pp, hpp⟩ : ∃ x, (l.getD k (0, 0)).2 = x := ⟨_, rfl⟩
      rw [hkk] at c0
      rw [hpp] at c1
      have HK := Lib.hid hkk
      have HP := Lib.hid hpp
      clear hkk hpp
      have i1 : (0 : Int) ≤ (k : Int) := by omega
      have i2 : (k : Int) < (n : Int) := by omega
      go_wp2_with fail
      refine (next_any s' r' c' kk pp _ hc.out).mono ?_
      rintro e w2 ⟨rfl, hb⟩
      have P2 := Lib.hid ((hp.out.alloc _).keep hb)
      have hlt3 := P2.out.lt
      have hlt2 : w.heap.size < w2.heap.size := by omega
      clear hb q0 q1 q2
      obtain ⟨q0, q1, q2⟩ := P2.out.cells
      by_cases he : nE s' r' kk pp = 0
      · have HC := Lib.hid (chk_next hc.out he)
        have HR := Lib.hid (run_step hr.out (by have := HN.out; omega) kk pp HK.out HP.out he)
        rw [he]
        clear he
        generalize nS s' r' kk pp = s2 at *
        generalize nR s' r' kk pp = r2 at *
        generalize nC s' r' c' kk pp = c2 at *
        go_wp2_with (((with_reducible refine st23 (.tmp 2) (.tmp 36) ?a2 ?b2 w.heap.size s2 r2 c2 #[.int .i64 s', .int .i64 r', .int .i64 c'] ?c2 ?d2 ?e2 23 ?f2 ?_); (case a2 => rfl); (case b2 => rfl); (case c2 => rfl); (case d2 => rfl); (case e2 => rfl); (case f2 => exact (P2.out.alloc _).1)))
        go_roundw
        case rel => exact ⟨k + 1, s2, r2, c2, by omega, by go_num, HC, HR, (P2.out.alloc _).set _ _ _⟩
        case measure => simp [intOf]; omega
      · have HR := Lib.hid (run_stop hr.out (by have := HN.out; omega) kk pp HK.out HP.out he)
        have h' : (nE s' r' kk pp != 0) = true := by simpa using he
        clear he
        generalize nS s' r' kk pp = s2 at *
        generalize nR s' r' kk pp = r2 at *
        generalize nC s' r' c' kk pp = c2 at *
        go_wp2_with (((with_reducible refine st23 (.tmp 4) (.tmp 33) ?a3 ?b3 (w.heap.size + 1) s' r' c' #[.int .i64 0, .int .i64 0, .int .i64 0] ?c3 ?d3 ?e3 23 ?f3 ?_); (case a3 => rfl); (case b3 => rfl); (case c3 => rfl); (case d3 => rfl); (case e3 => rfl); (case f3 => exact (P2.out.alloc _).2.1)))
        rw [HR.out]
        refine bodyPost_ret (v := .tuple #[WV s' r' c', .int .i64 k, .int .i64 (nE s' r' kk pp)]) ?_ rfl ⟨rfl, ?_⟩
        · exact res23b (fn := Tryd.f19) (p := 4) (u := 5) (x := 6) rfl _ _ (w.heap.size + 1) 23 s' r' c' (by rfl) (setRow_heap _ _ _ _ _ _ (P2.out.alloc _).2.1)
        · exact below_setRow (P2.out.alloc _).2.2 (by omega) _
    · have HR := Lib.hid (run_end hr.out (by have := HN.out; omega))
      obtain ⟨kn, hkn2⟩ : ∃ kn : Nat, kn = n := ⟨_, rfl⟩
      have HE : Hid (k = n) := by show _ = _; omega
      have hle : n ≤ k := by omega
      go_wp2_with (((with_reducible refine st23 (.tmp 4) (.tmp 38) ?a4 ?b4 (w.heap.size + 1) s' r' c' #[.int .i64 0, .int .i64 0, .int .i64 0] ?c4 ?d4 ?e4 23 ?f4 ?_); (case a4 => rfl); (case b4 => rfl); (case c4 => rfl); (case d4 => rfl); (case e4 => rfl); (case f4 => exact hp.out.2.1)))
      rw [HR.out]
      refine bodyPost_ret (v := .tuple #[WV s' r' c', .int .i64 n, .int .i64 0]) ?_ rfl ⟨by rw [HE.out], ?_⟩
      · exact res23b (fn := Tryd.f19) (p := 4) (u := 5) (x := 6) rfl _ _ (w.heap.size + 1) 23 s' r' c' (by rfl) (setRow_heap _ _ _ _ _ _ hp.out.2.1)
      · exact below_setRow hp.out.2.2 (by omega) _
end Go.Proofs.YtcicgccllhkolaaDoor
