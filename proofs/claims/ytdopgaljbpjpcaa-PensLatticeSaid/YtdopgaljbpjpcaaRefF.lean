/- aneroidref03: right, next, Follow. -/
import Derived.Test.YtdopgaljbpjpcaaStarts
import Derived.Test.YtdopgaljbpjpcaaPlainT
namespace Go.Proofs.Ytdopgaljbpjpcaa
open Go.RowKit

set_option maxRecDepth 20000 in
set_option maxHeartbeats 2000000 in
theorem rnext_any (b l h r s m x : Int) (w : World) (hb : 0 ≤ b) (hb8 : b ≤ 8) (hr : 0 ≤ r) (hr2 : r ≤ 12000) (hm : -1000000 ≤ m ∧ m ≤ 1000000) (hx : -1000000 ≤ x ∧ x ≤ 1000000) :
    Calls Try.prog 88 #[.agg #[.int .i64 b, .int .i64 l, .int .i64 h, .int .i64 r], .agg #[.int .i64 s, .int .i64 m], .int .i64 x] w fun e w' => e = .returned (.tuple #[.agg #[.int .i64 (lazyN b s x), .int .i64 x], .bool (decide (apartN x m ≤ r))]) ∧ Below w.heap.size w w' := by
  obtain ⟨W0, hW0⟩ : ∃ W0, ((w.alloc (.cells #[.int .i64 b, .int .i64 l, .int .i64 h, .int .i64 r] 25)).alloc (.cells #[.int .i64 s, .int .i64 m] 59)).alloc (.cells #[.int .i64 0, .int .i64 0] 59) = W0 := ⟨_, rfl⟩
  have P0 : Hid (Pbx w.heap.size b l h r W0) := by rw [← hW0]; exact ((Pbx.new _ b l h r w 25 rfl).next (Bl.alloc (Below.refl _ _) _)).next (Bl.alloc (Below.refl _ _) _)
  have S0 : Hid (Rbx (w.heap.size + 1) s m W0) := by rw [← hW0]; exact (Rbx.new _ s m _ 59 (by simp)).next (Bl.alloc (Below.refl _ _) _)
  have Z0 : Hid (Rbx (w.heap.size + 1 + 1) 0 0 W0) := by rw [← hW0]; exact Rbx.new _ 0 0 _ 59 (by simp)
  have B0 : Hid (Below w.heap.size w W0) := by rw [← hW0]; exact Bl.alloc (Bl.alloc (Bl.alloc (Below.refl _ _) _) _) _
  have HW0 := hid hW0; clear hW0
  obtain ⟨x1, x2⟩ := hx
  obtain ⟨m1, m2⟩ := hm
  have HW : Hid (withinB (x - m) (-r) r = decide (apartN x m ≤ r)) := within_apart x m r
  have i1 : IntKind.i64.wrap (x - m) = x - m := IntWalk.i64_in _ (by omega)
  have i2 : IntKind.i64.wrap (-r) = -r := IntWalk.i64_in _ (by omega)
  go_enter Try.func88, Try.ntmps88
  go_upto_region 1 with fail
  rw [HW0.out]
  clear HW0
  have n1 : ¬ w.heap.size = w.heap.size + 1 + 1 := by omega
  have n2 : ¬ w.heap.size + 1 = w.heap.size + 1 + 1 := by omega
  obtain ⟨p0, p1, p2, p3, p4⟩ := P0.out
  obtain ⟨q0, q1, q2, q3, q4⟩ := S0.out
  obtain ⟨g0, g1, g2, g3, g4⟩ := Z0.out
  go_region_held3 (fun w' => (w'.cell? ⟨w.heap.size + 1, 0, none⟩ = some (.int .i64 s) ∧ w'.cell? ⟨w.heap.size + 1, 1, none⟩ = some (.int .i64 m)) ∧ w'.cell? ⟨w.heap.size, 0, none⟩ = some (.int .i64 b) ∧ w'.cell? ⟨w.heap.size, 2, none⟩ = some (.int .i64 h) ∧ w'.cell? ⟨w.heap.size, 3, none⟩ = some (.int .i64 r)) (first | (go_keep; done) | (refine ⟨⟨?_, ?_⟩, ?_, ?_, ?_⟩ <;> (rw [World.cell?_drew]; refine (set2o (w := W0) (B := w.heap.size + 1 + 1) ?_).trans ?_ <;> (first | assumption | omega | (simp; done) | (simp; omega)))))
    (first
      | (go_at_call 42; refine (lazy_same b s x _ (by omega) (by omega) (by omega) (by omega)).mono ?_; rintro e wa ⟨rfl, rfl⟩)
      | (go_at_call 69; refine (rwithin_same (x - m) (-r) r _).mono ?_; rintro e wa ⟨rfl, rfl⟩))
  all_goals
    obtain ⟨k0, k1⟩ := read_set Z0.out (.int .i64 (lazyN b s x)) (.int .i64 x)
    go_wp2_with fail
    refine bodyPost_ret (v := .tuple #[.agg #[.int .i64 (lazyN b s x), .int .i64 x], .bool (withinB (x - m) (-r) r)]) (by simp [results, Try.results88, go_sem, k0, k1]) rfl ⟨by rw [HW.out], ?_⟩
    first | exact Bl.set2 B0.out (by omega) _ _ | exact Bl.drew (Bl.set2 B0.out (by omega) _ _)
theorem right_within (b s m : Int) : withinB (m - s) (-b) b = rightB b s m := by
  unfold withinB rightB
  rw [Bool.eq_iff_iff]
  simp only [Bool.and_eq_true, decide_eq_true_eq]
  omega
set_option maxRecDepth 20000 in
set_option maxHeartbeats 1000000 in
theorem rright_any (b l h r s m : Int) (t : Bool) (w : World) (hb : 0 ≤ b) (hb8 : b ≤ 8) (hs : Hid (lvl s = true)) (hm : Hid (lvl m = true)) (ht : Hid (rightB b s m = t)) :
    Calls Try.prog 89 #[.agg #[.int .i64 b, .int .i64 l, .int .i64 h, .int .i64 r], .agg #[.int .i64 s, .int .i64 m]] w fun e w' => e = .returned (.bool t) ∧ Below w.heap.size w w' := by
  obtain ⟨s1, s2⟩ := lvl_iff.1 hs.out
  obtain ⟨m1, m2⟩ := lvl_iff.1 hm.out
  go_enter Try.func89, Try.ntmps89
  go_wp2_with fail
  refine (rlevel_at _ _ _ hs).mono ?_
  rintro e w1 ⟨rfl, rfl⟩
  go_wp2_with fail
  refine (rlevel_at _ _ _ hm).mono ?_
  rintro e w1 ⟨rfl, rfl⟩
  go_wp2_with fail
  refine (rwithin_same _ _ _ _).mono ?_
  rintro e w1 ⟨rfl, rfl⟩
  rw [right_within, ht.out]
  cases t
  all_goals
    go_wp2_with fail
    go_ret
    exact ⟨rfl, Bl.alloc (Bl.alloc (Below.refl _ _) _) _⟩

set_option maxRecDepth 20000 in
set_option maxHeartbeats 2000000 in
theorem rStep_any (b l h r s m n : Int) (w : World) :
    Calls Try.prog 47 #[.agg #[.int .i64 b, .int .i64 l, .int .i64 h, .int .i64 r], .agg #[.int .i64 s, .int .i64 m], .int .i64 n] w (RetSpan (stepF b l h r s m n) w) := by
  obtain ⟨tn, htn⟩ : ∃ t, Hid (lvl n = t) := ⟨_, rfl⟩
  obtain ⟨ts, hts⟩ : ∃ t, Hid (lvl s = t) := ⟨_, rfl⟩
  obtain ⟨tm, htm⟩ : ∃ t, Hid (lvl m = t) := ⟨_, rfl⟩
  have hA : Hid (askE b l h r [s, m, n] = if penOk b l h r = true then (if (ts && (tm && tn)) = true then 0 else 1) else 30) := by
    unfold askE lvls; rw [← htn.out, ← hts.out, ← htm.out]; simp [Hid]
  obtain ⟨v1, v2, y, hS⟩ : ∃ v1 v2 y, Hid (stepF b l h r s m n = ((v1, v2), y)) := ⟨_, _, _, rfl⟩
  rw [hS.out]
  have HS : Hid (stepF b l h r s m n = ((v1, v2), y)) := hS
  clear hS
  cases hp : penOk b l h r
  · have hE : v1 = 0 ∧ v2 = 0 ∧ y = 30 := by
      have := HS.out
      unfold stepF at this
      rw [hA.out, hp] at this
      simp at this
      exact ⟨this.1.1.symm, this.1.2.symm, this.2.symm⟩
    obtain ⟨rfl, rfl, rfl⟩ := hE
    have HP := hid hp
    clear hp
    go_enter Try.func47, Try.ntmps47
    go_wp2_with fail
    refine (rcheck_bad _ _ _ _ _ HP).mono ?_
    rintro e w1 ⟨rfl, hb1⟩
    have R1 := hid ((Rbx.new (w.heap.size + 1 + 1) 0 0 ((w.alloc (.cells #[.int .i64 b, .int .i64 l, .int .i64 h, .int .i64 r] 25)).alloc (.cells #[.int .i64 s, .int .i64 m] 59)) 59 (by simp)).next hb1)
    have B1 := hid (bl3 hb1)
    clear hb1
    obtain ⟨g0, g1, g2, g3, g4⟩ := R1.out
    obtain ⟨k0, k1⟩ := read_set R1.out (.int .i64 0) (.int .i64 0)
    go_wp2_with fail
    refine bodyPost_ret (v := .tuple #[.agg #[.int .i64 0, .int .i64 0], .int .i64 30]) (by simp [results, Try.results47, go_sem, k0, k1]) rfl ⟨rfl, ?_⟩
    exact Bl.set2 B1.out (by omega) _ _
  · have HP := hid hp
    have hbb := penOk_iff.1 hp
    have hb0 := hbb.1; have hb8 := hbb.2.1; have hr0 := hbb.2.2.2.2.2.2.1; have hr2 := hbb.2.2.2.2.2.2.2
    clear hbb
    have HE : Hid (¬ (ts = true ∧ tm = true ∧ tn = true) → v1 = 0 ∧ v2 = 0 ∧ y = 1) := by
      intro hn
      have := HS.out
      unfold stepF at this
      rw [hA.out, hp] at this
      have h2 : ¬ (ts && (tm && tn)) = true := by simpa [Bool.and_eq_true] using hn
      rw [if_pos rfl, if_neg h2] at this
      simp at this
      exact ⟨this.1.1.symm, this.1.2.symm, this.2.symm⟩
    have HF : Hid (ts = true → tm = true → tn = true → (if rightB b s m = true ∧ apartN n m ≤ r then ((lazyN b s n, n), (0 : Int)) else ((0, 0), 31)) = ((v1, v2), y)) := by
      intro h1 h2 h3
      have := HS.out
      unfold stepF at this
      rw [hA.out, hp, h1, h2, h3] at this
      simpa using this
    clear hp hA HS
    go_enter Try.func47, Try.ntmps47
    go_wp2_with fail
    refine (rcheck_ok _ _ _ _ _ HP).mono ?_
    rintro e w1 ⟨rfl, hb1⟩
    have P1 := hid ((Pbx.new _ b l h r w 25 rfl).next (bl1 (bl1 hb1)))
    have S1 := hid ((Rbx.new (w.heap.size + 1) s m (w.alloc (.cells #[.int .i64 b, .int .i64 l, .int .i64 h, .int .i64 r] 25)) 59 (by simp)).next (bl1 hb1))
    have R1 := hid ((Rbx.new (w.heap.size + 1 + 1) 0 0 ((w.alloc (.cells #[.int .i64 b, .int .i64 l, .int .i64 h, .int .i64 r] 25)).alloc (.cells #[.int .i64 s, .int .i64 m] 59)) 59 (by simp)).next hb1)
    have B1 := hid (bl3 hb1)
    clear hb1
    obtain ⟨q0, q1, q2, q3, q4⟩ := S1.out
    go_wp2_with fail
    refine (rlevel_at _ _ _ htn).mono ?_
    rintro e w1 ⟨rfl, rfl⟩
    cases tn
    · obtain ⟨rfl, rfl, rfl⟩ := HE.out (by simp)
      obtain ⟨g0, g1, g2, g3, g4⟩ := R1.out
      obtain ⟨k0, k1⟩ := read_set R1.out (.int .i64 0) (.int .i64 0)
      go_wp2_with fail
      refine bodyPost_ret (v := .tuple #[.agg #[.int .i64 0, .int .i64 0], .int .i64 1]) (by simp [results, Try.results47, go_sem, k0, k1]) rfl ⟨rfl, ?_⟩
      exact Bl.set2 B1.out (by omega) _ _
    go_wp2_with fail
    refine (rlevel_at _ _ _ hts).mono ?_
    rintro e w1 ⟨rfl, rfl⟩
    cases ts
    · obtain ⟨rfl, rfl, rfl⟩ := HE.out (by simp)
      obtain ⟨g0, g1, g2, g3, g4⟩ := R1.out
      obtain ⟨k0, k1⟩ := read_set R1.out (.int .i64 0) (.int .i64 0)
      go_wp2_with fail
      refine bodyPost_ret (v := .tuple #[.agg #[.int .i64 0, .int .i64 0], .int .i64 1]) (by simp [results, Try.results47, go_sem, k0, k1]) rfl ⟨rfl, ?_⟩
      exact Bl.set2 B1.out (by omega) _ _
    go_wp2_with fail
    refine (rlevel_at _ _ _ htm).mono ?_
    rintro e w1 ⟨rfl, rfl⟩
    cases tm
    · obtain ⟨rfl, rfl, rfl⟩ := HE.out (by simp)
      obtain ⟨g0, g1, g2, g3, g4⟩ := R1.out
      obtain ⟨k0, k1⟩ := read_set R1.out (.int .i64 0) (.int .i64 0)
      go_wp2_with fail
      refine bodyPost_ret (v := .tuple #[.agg #[.int .i64 0, .int .i64 0], .int .i64 1]) (by simp [results, Try.results47, go_sem, k0, k1]) rfl ⟨rfl, ?_⟩
      exact Bl.set2 B1.out (by omega) _ _
    have HF' := hid (HF.out (by first | rfl | trivial) (by first | rfl | trivial) (by first | rfl | trivial))
    obtain ⟨n1, n2⟩ := lvl_iff.1 htn.out
    obtain ⟨s1, s2⟩ := lvl_iff.1 hts.out
    obtain ⟨m1, m2⟩ := lvl_iff.1 htm.out
    obtain ⟨p0, p1, p2, p3, p4⟩ := P1.out
    clear HF HE
    go_wp2_with fail
    refine (rnext_any b l h r s m n _ hb0 hb8 hr0 hr2 (by omega) (by omega)).mono ?_
    rintro e w2 ⟨rfl, hb2⟩
    clear q0 q1 q2 q3 q4 p0 p1 p2 p3 p4
    have P2 := hid (P1.out.next (Bl.alloc hb2 (.cells #[.int .i64 (lazyN b s n), .int .i64 n] 59)))
    have S2 := hid (S1.out.next (Bl.alloc hb2 (.cells #[.int .i64 (lazyN b s n), .int .i64 n] 59)))
    have R2 := hid (R1.out.next (Bl.alloc hb2 (.cells #[.int .i64 (lazyN b s n), .int .i64 n] 59)))
    have N2 := hid (Rbx.new _ (lazyN b s n) n w2 59 rfl)
    have B2 := hid (Bl.call B1.out (Bl.alloc hb2 (.cells #[.int .i64 (lazyN b s n), .int .i64 n] 59)))
    clear hb2 P1 S1 R1 B1
    obtain ⟨q0, q1, q2, q3, q4⟩ := S2.out
    obtain ⟨p0, p1, p2, p3, p4⟩ := P2.out
    obtain ⟨tr, htr⟩ : ∃ t, Hid (rightB b s m = t) := ⟨_, rfl⟩
    go_wp2_with fail
    refine (rright_any b l h r s m tr _ hb0 hb8 hts htm htr).mono ?_
    rintro e w3 ⟨rfl, hb3⟩
    clear q0 q1 q2 q3 q4 p0 p1 p2 p3 p4
    have R3 := hid (R2.out.next hb3)
    have N3 := hid (N2.out.next hb3)
    have B3 := hid (Bl.call B2.out hb3)
    have hz := R2.out.2.2.2.2
    clear hb3 P2 S2 R2 N2 B2
    obtain ⟨g0, g1, g2, g3, g4⟩ := R3.out
    cases tr
    · have : v1 = 0 ∧ v2 = 0 ∧ y = 31 := by
        have := HF'.out
        rw [if_neg (by rw [htr.out]; simp)] at this
        simp at this
        exact ⟨this.1.1.symm, this.1.2.symm, this.2.symm⟩
      obtain ⟨rfl, rfl, rfl⟩ := this
      obtain ⟨k0, k1⟩ := read_set R3.out (.int .i64 0) (.int .i64 0)
      go_wp2_with fail
      refine bodyPost_ret (v := .tuple #[.agg #[.int .i64 0, .int .i64 0], .int .i64 31]) (by simp [results, Try.results47, go_sem, k0, k1]) rfl ⟨rfl, ?_⟩
      exact Bl.set2 B3.out (by omega) _ _
    · by_cases ha : apartN n m ≤ r
      · have : v1 = lazyN b s n ∧ v2 = n ∧ y = 0 := by
          have := HF'.out
          rw [if_pos ⟨htr.out, ha⟩] at this
          simp at this
          exact ⟨this.1.1.symm, this.1.2.symm, this.2.symm⟩
        obtain ⟨rfl, h2, rfl⟩ := this
        have h2' := h2.symm
        clear h2
        subst h2'
        have j1 : decide (apartN n m ≤ r) = true := by simpa using ha
        clear ha
        obtain ⟨c0, c1, c2, c3, c4⟩ := N3.out
        obtain ⟨k0, k1⟩ := read_set R3.out (.int .i64 (lazyN b s n)) (.int .i64 n)
        go_wp2_with fail
        refine bodyPost_ret (v := .tuple #[.agg #[.int .i64 (lazyN b s n), .int .i64 n], .int .i64 0]) (by simp [results, Try.results47, go_sem, k0, k1]) rfl ⟨rfl, ?_⟩
        exact Bl.set2 B3.out (by omega) _ _
      · have : v1 = 0 ∧ v2 = 0 ∧ y = 31 := by
          have := HF'.out
          rw [if_neg (fun hq => ha hq.2)] at this
          simp at this
          exact ⟨this.1.1.symm, this.1.2.symm, this.2.symm⟩
        obtain ⟨rfl, rfl, rfl⟩ := this
        have j1 : decide (apartN n m ≤ r) = false := by simpa using ha
        clear ha
        obtain ⟨k0, k1⟩ := read_set R3.out (.int .i64 0) (.int .i64 0)
        go_wp2_with fail
        refine bodyPost_ret (v := .tuple #[.agg #[.int .i64 0, .int .i64 0], .int .i64 31]) (by simp [results, Try.results47, go_sem, k0, k1]) rfl ⟨rfl, ?_⟩
        exact Bl.set2 B3.out (by omega) _ _
end Go.Proofs.Ytdopgaljbpjpcaa
namespace Go.Proofs.Ytdopgaljbpjpcaa
open Go.RowKit

theorem scan_at {b : Int} : ∀ (xs : List Int) (s : Int) (k : Nat), (h : k + 1 < xs.length) → (h1 : k + 1 < (scanL b s xs).length) → (h2 : k < (scanL b s xs).length) → (scanL b s xs)[k + 1] = lazyN b (scanL b s xs)[k] xs[k + 1]
  | [], s, k, h, _, _ => by simp at h
  | [x], s, k, h, _, _ => by simp at h
  | x :: y :: t, s, 0, h, _, _ => by simp [scanL]
  | x :: y :: t, s, k + 1, h, h1, h2 => by
    have := scan_at (y :: t) (lazyN b s x) k (by simpa using h) (by simpa [scanL] using h1) (by simpa [scanL] using h2)
    simpa [scanL] using this
theorem shown_at {b f : Int} {xs : List Int} {k : Nat} (h : k + 1 < xs.length) (h1 : k + 1 < (shownL b f xs).length) (h2 : k < (shownL b f xs).length) : (shownL b f xs)[k + 1] = lazyN b (shownL b f xs)[k] xs[k + 1] := by
  cases xs with
  | nil => simp at h
  | cons x xs =>
    cases k with
    | zero =>
      cases xs with
      | nil => simp at h
      | cons y ys => simp [shownL, scanL]
    | succ k =>
      have := scan_at xs f k (by simpa using h) (by simpa [shownL] using h1) (by simpa [shownL] using h2)
      simpa [shownL] using this
theorem ints_lit_own (w : World) (x : Int) (B : Nat) (hB : w.heap.size = B) : (w.alloc (.cells #[.int .i64 x] 3)).ownsRow B 3 1 (.slice (some ⟨B, 0, none⟩) 1 1) 1 [.int .i64 x] := by
  subst hB; exact ownsRow_lit1 w x
theorem rcheck_at (b l h r : Int) (t : Int) (w : World) (h0 : Hid (checkE b l h r = t)) :
    Calls Try.prog 50 #[.agg #[.int .i64 b, .int .i64 l, .int .i64 h, .int .i64 r]] w fun e w' => e = .returned (.int .i64 t) ∧ Below w.heap.size w w' :=
  (rcheck_any b l h r w).mono fun _ _ ⟨h1, h2⟩ => ⟨by rw [h1, h0.out], h2⟩

set_option maxRecDepth 100000 in
set_option maxHeartbeats 4000000 in
theorem rFollow_bad (b l h r f : Int) (v : Value) (xs : List Int) (w : World) (hv : Ints w v xs) (t1 t2 : Bool) (hp : Hid (penOk b l h r = true)) (h1 : Hid (lvl f = t1)) (h2 : Hid (listOk xs = t2)) (hn : Hid ((t1 && t2) = false)) :
    Calls Try.prog 48 #[.agg #[.int .i64 b, .int .i64 l, .int .i64 h, .int .i64 r], .int .i64 f, v] w (RetInts [] 1 w) := by
  go_enter Try.func48, Try.ntmps48
  go_wp2_with fail
  refine (rcheck_ok _ _ _ _ _ hp).mono ?_
  rintro e w1 ⟨rfl, hb1⟩
  go_wp2_with fail
  refine (rlevel_at _ _ _ h1).mono ?_
  rintro e w1 ⟨rfl, rfl⟩
  cases t1
  · go_wp2_with fail
    go_ret2
    exact ⟨_, rfl, Ints.nil, bl1 hb1⟩
  · cases t2
    · go_wp2_with fail
      refine (rlevels_at _ xs _ _ (hv.below (bl1 hb1)) h2).mono ?_
      rintro e w2 ⟨rfl, rfl⟩
      go_wp2_with fail
      go_ret2
      exact ⟨_, rfl, Ints.nil, bl1 hb1⟩
    · exact absurd hn.out (by simp)
set_option maxRecDepth 100000 in
set_option maxHeartbeats 4000000 in
theorem rFollow_pen (b l h r f : Int) (v : Value) (w : World) (hp : Hid (penOk b l h r = false)) :
    Calls Try.prog 48 #[.agg #[.int .i64 b, .int .i64 l, .int .i64 h, .int .i64 r], .int .i64 f, v] w (RetInts [] 30 w) := by
  go_enter Try.func48, Try.ntmps48
  go_wp2_with fail
  refine (rcheck_bad _ _ _ _ _ hp).mono ?_
  rintro e w1 ⟨rfl, hb1⟩
  go_wp2_with fail
  go_ret2
  exact ⟨_, rfl, Ints.nil, bl1 hb1⟩

theorem Rbx.keep {B : Nat} {x y : Int} {W W' : World} (h : Rbx B x y W) (hk : W'.heap[B]? = W.heap[B]?) (hs : W.heap.size ≤ W'.heap.size) : Rbx B x y W' := by
  obtain ⟨h0, h1, h2, h3, h4⟩ := h
  refine ⟨(World.cell?_of_block (w := W) hk).trans h0, (World.cell?_of_block (w := W) hk).trans h1, ?_, ?_, by omega⟩
  · rw [← h2]; unfold World.frozen?; dsimp only; rw [hk]
  · rw [← h3]; unfold World.frozen?; dsimp only; rw [hk]
theorem Pbx.keep {B : Nat} {b l h r : Int} {W W' : World} (hp : Pbx B b l h r W) (hk : W'.heap[B]? = W.heap[B]?) (hs : W.heap.size ≤ W'.heap.size) : Pbx B b l h r W' := by
  obtain ⟨h0, h1, h2, h3, h4⟩ := hp
  exact ⟨(World.cell?_of_block (w := W) hk).trans h0, (World.cell?_of_block (w := W) hk).trans h1, (World.cell?_of_block (w := W) hk).trans h2, (World.cell?_of_block (w := W) hk).trans h3, by omega⟩
theorem own_set1 {W : World} {base e size : Nat} {v : Value} {n : Nat} {xs : List Value} (h : W.ownsRow base e size v n xs) {p : Addr} (hp : p.block < base) (u : Value) : (W.setCell p u).ownsRow base e size v n xs := by
  refine h.kept (row := some p.block) ⟨rfl, rfl, rfl, by simp [World.setCell], fun k hk hne => ?_⟩ ?_
  · have : ¬ p.block = k := fun e => hne (by rw [e])
    simp [World.setCell, Array.getElem?_modify, this]
  · cases hv : v.ownBlock with
    | none => simp
    | some k => have := (h.lt k hv).1; simp; omega
theorem own_far {W : World} {base e size : Nat} {v : Value} {n : Nat} {xs : List Value} (h : W.ownsRow base e size v n xs) {p : Addr} (hp : v.ownBlock ≠ some p.block) (u : Value) : (W.setCell p u).ownsRow base e size v n xs := by
  refine h.kept (row := some p.block) ⟨rfl, rfl, rfl, by simp [World.setCell], fun k hk hne => ?_⟩ (.inr hp)
  have : ¬ p.block = k := fun e => hne (by rw [e])
  simp [World.setCell, Array.getElem?_modify, this]
theorem cell_one_at (W : World) (B : Nat) (hB : W.heap.size = B) (v : Value) (t : TypeId) : ∀ (j : Nat) (u : Value), [v][j]? = some u → (W.alloc (.cells #[v] t)).cell? ((⟨B, 0, none⟩ : Addr).add j) = some u := by
  subst hB; exact cell_one_new _ _ _
theorem shown0 (b f : Int) {xs : List Int} (h : 0 < xs.length) : (shownL b f xs)[0]? = some f := by
  cases xs with
  | nil => simp at h
  | cons x t => simp [shownL]
theorem shown_take1 (b f : Int) {xs : List Int} (h : 0 < xs.length) : (shownL b f xs).take 1 = [f] := by
  cases xs with
  | nil => simp at h
  | cons x t => simp [shownL]
theorem shown_step {b f s : Int} {xs : List Int} {k : Nat} (h1 : 1 ≤ k) (hk : k < xs.length) (hs : (shownL b f xs)[k - 1]? = some s) : (shownL b f xs)[k]? = some (lazyN b s xs[k]) := by
  obtain ⟨j, rfl⟩ : ∃ j, k = j + 1 := ⟨k - 1, by omega⟩
  have hl := shownL_len b f xs
  have h2 : j + 1 < (shownL b f xs).length := by omega
  have h3 : j < (shownL b f xs).length := by omega
  rw [List.getElem?_eq_getElem h2, shown_at hk h2 h3]
  simp only [Nat.add_sub_cancel, List.getElem?_eq_getElem h3, Option.some.injEq] at hs
  rw [hs]

set_option maxRecDepth 100000 in
set_option maxHeartbeats 8000000 in
theorem rFollow_ok (b l h r f : Int) (v : Value) (xs : List Int) (w : World) (hv : Ints w v xs) (hp : Hid (penOk b l h r = true)) (hf : Hid (lvl f = true)) (hlk : Hid (listOk xs = true)) (L : List Int) (y : Int)
    (hgood : Hid (rightB b f (xs.headD 0) = true → steadyB r xs = true → L = shownL b f xs ∧ y = 0)) (hbad : Hid (¬ (rightB b f (xs.headD 0) = true ∧ steadyB r xs = true) → L = [] ∧ y = 31)) :
    Calls Try.prog 48 #[.agg #[.int .i64 b, .int .i64 l, .int .i64 h, .int .i64 r], .int .i64 f, v] w (RetInts L y w) := by
  have hbb := penOk_iff.1 hp.out
  have hb0 := hbb.1; have hb8 := hbb.2.1; have hr0 := hbb.2.2.2.2.2.2.1; have hr2 := hbb.2.2.2.2.2.2.2
  obtain ⟨hx1, hx4⟩ := (listOk_iff.1 hlk.out).1
  have hlx := hid (listOk_iff.1 hlk.out).2
  have hlm : Hid (lvl xs[0] = true) := hid (lvl_iff.2 (hlx.out _ (List.getElem_mem _)))
  have hhd : xs.headD 0 = xs[0] := by cases xs with | nil => simp at hx1 | cons x t => rfl
  rw [hhd] at hgood hbad
  obtain ⟨tr, htr⟩ : ∃ t, Hid (rightB b f xs[0] = t) := ⟨_, hid rfl⟩
  obtain ⟨a, c, rfl, hm⟩ := hv.shape
  have HV := hid hv; clear hv hbb hhd
  obtain ⟨i0, hi, hz0, hz1, hz2⟩ := info_parts Try.info3
  go_enter Try.func48, Try.ntmps48
  go_wp2_with fail
  refine (rcheck_ok _ _ _ _ _ hp).mono ?_
  rintro e w2 ⟨rfl, hb1⟩
  have P2 := hid ((Pbx.new _ b l h r w 25 rfl).next hb1)
  have B2 := hid (bl1 hb1)
  clear hb1
  go_wp2_with fail
  refine (rlevel_at _ _ _ hf).mono ?_
  rintro e wq ⟨rfl, hq⟩
  cases hq
  go_wp2_with fail
  refine (rlevels_at _ xs _ _ (HV.out.below B2.out) hlk).mono ?_
  rintro e wq ⟨rfl, hq⟩
  cases hq
  obtain ⟨b0, o0, rfl, c0⟩ := (HV.out.below B2.out).cell0 (by omega)
  have hx0 : (0 : Int) < xs.length := by omega
  obtain ⟨p0, p1, p2, p3, p4⟩ := P2.out
  generalize hxe : xs[0] = x0 at *
  have HXE := hid hxe; clear hxe
  go_wp2_with fail
  refine (rright_any b l h r f x0 tr _ hb0 hb8 hf hlm htr).mono ?_
  rintro e w3 ⟨rfl, hb3⟩
  have M3 := hid ((Rbx.new _ f x0 w2 59 rfl).next (bl1 hb3))
  have P3 := hid (P2.out.next (bl2 hb3))
  have B3 := hid (Bl.call B2.out (bl2 hb3))
  have O3 := hid (ownsRow_below2 (ints_lit_own (w2.alloc (.cells #[.int .i64 f, .int .i64 x0] 59)) f (w2.heap.size + 1) (by simp)) hb3)
  have hz3 := hb3.size
  simp only [World.size_alloc] at hz3
  have hzw := P2.out.2.2.2.2
  clear hb3 c0 p0 p1 p2 p3 p4 P2 hx0
  cases tr
  · obtain ⟨rfl, rfl⟩ := hbad.out (by rw [htr.out]; simp)
    go_wp2_with fail
    go_ret2
    exact ⟨_, rfl, Ints.nil, B3.out⟩
  · have HG := hid (hgood.out htr.out)
    have HBD : Hid (steadyB r xs = false → L = [] ∧ y = 31) := fun hs => hbad.out (by rw [hs]; simp)
    clear hgood hbad htr hlm
    go_wp2_with fail
    go_loopw [9, 10] (fun ou i wr => ∃ (k : Nat) (s : Int), 1 ≤ k ∧ k ≤ xs.length ∧ i = .int .i64 k ∧ Hid (Below w.heap.size w wr) ∧ Hid (Pbx w.heap.size b l h r wr) ∧ w3.heap.size ≤ wr.heap.size ∧ Hid (Rbx w2.heap.size s (xs.getD (k - 1) 0) wr) ∧ Hid ((shownL b f xs)[k - 1]? = some s) ∧ Hid (wr.ownsRow (w2.heap.size + 1) 3 1 ou k (((shownL b f xs).take k).map (Value.int .i64))) ∧ Hid (∀ j, (hj : j + 1 < xs.length) → j + 1 < k → apartN xs[j + 1] xs[j] ≤ r)) (fun _ i _ => xs.length - (intOf i).toNat)
    case atStart =>
      refine ⟨1, f, by omega, hx1, rfl, B3, P3, Nat.le_refl _, ?_, hid (shown0 b f (by omega)), ?_, hid (fun j _ h => by omega)⟩
      · have : xs.getD (1 - 1) 0 = x0 := by rw [← HXE.out]; simp [List.getD_eq_getElem?_getD, List.getElem?_eq_getElem (show 0 < xs.length by omega)]
        rw [this]; exact M3
      · rw [shown_take1 b f (by omega)]; exact O3
    case round =>
      obtain ⟨k, s, hk1, hk, rfl, HB, HP, hsz, HM, HS, HO, HA⟩ := hrel
      by_cases hlt : k < xs.length
      · obtain ⟨b2, o2, e2, c1⟩ := (HV.out.below HB.out).cellAt hlt
        simp only [Option.some.injEq, Addr.mk.injEq] at e2
        obtain ⟨rfl, rfl, _⟩ := e2
        have hY : xs.getD (k - 1) 0 = xs[k - 1] := by simp [List.getD_eq_getElem?_getD, List.getElem?_eq_getElem (show k - 1 < xs.length by omega)]
        have hy5 := hlx.out xs[k - 1] (List.getElem_mem _)
        have hx5 := hlx.out xs[k] (List.getElem_mem _)
        have HT := hid (shown_step hk1 hlt HS.out)
        have HN : Hid (xs.getD k 0 = xs[k]) := by simp [Hid, List.getD_eq_getElem?_getD, List.getElem?_eq_getElem hlt]
        have HA2 : Hid (apartN xs[k] xs[k - 1] ≤ r → ∀ j, (hj : j + 1 < xs.length) → j + 1 < k + 1 → apartN xs[j + 1] xs[j] ≤ r) := fun hq j hj hjk => by
          by_cases h : j + 1 < k
          · exact HA.out j hj h
          · have : k = j + 1 := by omega
            subst this
            simpa using hq
        have HA3 : Hid (¬ apartN xs[k] xs[k - 1] ≤ r → steadyB r xs = false) := fun hq => by
          cases hs : steadyB r xs
          · rfl
          · exfalso; apply hq
            have := (steadyB_iff r xs).1 hs (k - 1) (by omega)
            simpa [show k - 1 + 1 = k by omega] using this
        rw [hY] at HM
        clear hY HA
        generalize xs[k - 1] = y0 at *
        generalize xs[k] = x1 at *
        obtain ⟨m0, m1, m2, m3, m4⟩ := HM.out
        obtain ⟨p0, p1, p2, p3, p4⟩ := HP.out
        have hbw := World.block_lt_of_cell? _ _ c1
        dsimp only at hbw
        have n1 : ¬ w2.heap.size = wr.heap.size := by omega
        have n2 : ¬ w.heap.size = wr.heap.size := by omega
        have n3 : ¬ b0 = wr.heap.size := by omega
        go_wp2_with fail
        go_cut [11, 12] from 35 to 58 (fun s11 s12 wx => ∃ g : Nat, s11 = .pointer (some ⟨g, 0, none⟩) ∧ s12 = .bool (decide (apartN x1 y0 ≤ r)) ∧ Hid (Rbx g (lazyN b s x1) x1 wx) ∧ Hid (Pbx w.heap.size b l h r wx) ∧ Hid (Rbx w2.heap.size s y0 wx) ∧ Hid (wx.ownsRow (w2.heap.size + 1) 3 1 u9 k (((shownL b f xs).take k).map (Value.int .i64))) ∧ Hid (Below w.heap.size w wx) ∧ wr.heap.size ≤ wx.heap.size)
        case first =>
          go_region_held3 (fun w' => (w'.cell? ⟨w2.heap.size, 0, none⟩ = some (.int .i64 s) ∧ w'.cell? ⟨w2.heap.size, 1, none⟩ = some (.int .i64 y0)) ∧ w'.cell? ⟨w.heap.size, 0, none⟩ = some (.int .i64 b) ∧ w'.cell? ⟨w.heap.size, 1, none⟩ = some (.int .i64 l) ∧ w'.cell? ⟨w.heap.size, 2, none⟩ = some (.int .i64 h) ∧ w'.cell? ⟨w.heap.size, 3, none⟩ = some (.int .i64 r) ∧ w'.cell? ⟨b0, o0 + k, none⟩ = some (.int .i64 x1)) (first | (go_keep; done) | (refine ⟨⟨?_, ?_⟩, ?_, ?_, ?_, ?_, ?_⟩ <;> (refine (set2o ?_).trans ?_ <;> (first | assumption | omega | (simp; done) | (simp; omega)))))
            (first
              | (go_at_call 88; refine (rnext_any b l h r s y0 x1 _ hb0 hb8 hr0 hr2 (by omega) (by omega)).mono ?_; rintro e wa ⟨rfl, hba⟩
                 have HPa := hid (Pbx.next (by first | exact HP.out | exact HP.out.next (Bl.drew (Below.refl _ _)) | exact Pbx.alloc (W := wr.drew) HP.out _) hba)
                 have HMa := hid (Rbx.next (by first | exact HM.out | exact Rbx.alloc (W := wr.drew) HM.out _) hba)
                 have HOa := hid (ownsRow_below2 (by first | exact HO.out | exact ownsRow_below2 (w := wr) HO.out (Bl.drew (Below.refl _ _)) | exact ownsRow_below2 (w := wr) HO.out (Bl.alloc (Bl.drew (Below.refl _ _)) _)) hba)
                 have HBa := hid (Bl.call (by first | exact Bl.drew HB.out | exact Bl.alloc (Bl.drew HB.out) _) hba)
                 have HVa := hid (Bl.call (a := wr) (by first | exact Bl.drew (Below.refl _ _) | exact Bl.alloc (Bl.drew (Below.refl _ _)) _) hba)
                 try have HXa := hid (Rbx.next (Rbx.new wr.heap.size 0 0 wr.drew 59 rfl) hba)
                 clear hba
                 obtain ⟨x0, x1', x2, x3, x4⟩ := HPa.out
                 obtain ⟨y0', y1, y2, y3, y4⟩ := HMa.out
                 try obtain ⟨z0, z1, z2, z3, z4⟩ := HXa.out
                 have hca := (HVa.out.cell (p := ⟨b0, o0 + k, none⟩) hbw).trans c1
                 have hsa := HVa.out.size
                 have n4 : ¬ w2.heap.size = wa.heap.size := by omega
                 have n5 : ¬ w.heap.size = wa.heap.size := by omega
                 have n6 : ¬ b0 = wa.heap.size := by omega))
          all_goals
            go_wp2_with fail
            go_meet
            first
              | exact ⟨wa.heap.size, rfl, rfl, hid (Rbx.new _ _ _ wa 59 rfl), hid (HPa.out.alloc _), hid (HMa.out.alloc _), hid (ownsRow_below2 HOa.out (Bl.alloc (Below.refl _ _) _)), hid (Bl.alloc HBa.out _), by simp; omega⟩
              | exact ⟨wr.heap.size, rfl, rfl, hid (Rbx.set HXa.out _ _), hid (HPa.out.set2 n2 _ _), hid (HMa.out.set2 n1 _ _), hid (own_far (own_far HOa.out (fun e => by have := (HO.out.lt _ e).2; dsimp only at this; omega) _) (fun e => by have := (HO.out.lt _ e).2; dsimp only at this; omega) _), hid (Bl.set2 HBa.out (by omega) _ _), by rw [set2s]; exact hsa⟩
        case rest =>
          obtain ⟨g, rfl, rfl, HGX, HP4, HM4, HO4, HB4, hs4⟩ := hcut
          obtain ⟨g0, g1, g2, g3, g4⟩ := HGX.out
          clear m0 m1 m2 m3 m4 p0 p1 p2 p3 p4
          obtain ⟨m0, m1, m2, m3, m4⟩ := HM4.out
          by_cases ha : apartN x1 y0 ≤ r
          · have j1 : decide (apartN x1 y0 ≤ r) = true := by simpa using ha
            have HA5 := hid (HA2.out ha)
            clear ha HA2 HA3
            have O5 := hid (own_set1 (own_set1 HO4.out (p := ⟨w2.heap.size, 0, none⟩) (by dsimp only; omega) (.int .i64 (lazyN b s x1))) (p := ⟨w2.heap.size, 1, none⟩) (by dsimp only; omega) (.int .i64 x1))
            have M5 := hid (HM4.out.set (lazyN b s x1) x1)
            have P5 := hid (HP4.out.set2 (g := w2.heap.size) (by omega) (.int .i64 (lazyN b s x1)) (.int .i64 x1))
            obtain ⟨k0, k1⟩ := read_set HM4.out (.int .i64 (lazyN b s x1)) (.int .i64 x1)
            go_wp2_with (at_builtin; refine wpList_append_own _ rfl _ _ 26 rfl (w2.heap.size + 1) 3 i0 (.int .i64 0) 1 8 Try.underlying26 hi hz0 hz1 hz2 rfl (by decide) _ _ _ rfl (ownsRow_below2 O5.out (Bl.alloc (Below.refl _ _) _)) ⟨_, 0, none⟩ 1 1 [.int .i64 (lazyN b s x1)] rfl rfl (cell_one_at _ _ (by first | exact set2s | rfl) _ _) (by simp [Value.oneCell']) (by simp [maxLen]; omega) (by omega) (by rw [World.size_alloc, set2s]; omega) ?_; intro v' w4 hown' hgrow _)
            have hb5 : Below w.heap.size w w4 := own_grow (Bl.alloc (Bl.set2 HB4.out (by omega) _ _) _) (Nat.le_of_lt hzw) (fun q e => by have := (HO4.out.lt q e).1; omega) hgrow
            have P6 : Hid (Pbx w.heap.size b l h r w4) := hid (Pbx.keep (Pbx.alloc P5.out _) (hgrow.block _ (by simp; omega) (fun e => by have := (HO4.out.lt _ e.symm).1; omega)) hgrow.size)
            have M6 : Hid (Rbx w2.heap.size (lazyN b s x1) x1 w4) := hid (Rbx.keep (Rbx.alloc M5.out _) (hgrow.block _ (by simp; omega) (fun e => by have := (HO4.out.lt _ e.symm).1; omega)) hgrow.size)
            have hz6 : wr.heap.size ≤ w4.heap.size := by have := hgrow.size; rw [World.size_alloc, set2s] at this; omega
            have hT6 : (shownL b f xs).take (k + 1) = (shownL b f xs).take k ++ [lazyN b s x1] := by rw [List.take_add_one, HT.out]; rfl
            go_roundw
            case rel =>
              refine ⟨k + 1, lazyN b s x1, by omega, by omega, by go_num, hid hb5, P6, by omega, ?_, ?_, ?_, HA5⟩
              · rw [Nat.add_sub_cancel, HN.out]; exact M6
              · rw [Nat.add_sub_cancel]; exact HT
              · rw [hT6]; exact hid (by simpa using hown')
            case measure => simp [intOf]; omega
          · have j1 : decide (apartN x1 y0 ≤ r) = false := by simpa using ha
            obtain ⟨rfl, rfl⟩ := HBD.out (HA3.out (by omega))
            clear ha
            go_wp2_with fail
            go_ret2
            exact ⟨_, rfl, Ints.nil, HB4.out⟩
      · have hkk : k = xs.length := by omega
        subst hkk
        obtain ⟨rfl, rfl⟩ := HG.out ((steadyB_iff r xs).2 fun i hi => HA.out i hi hi)
        have hT : (shownL b f xs).take xs.length = shownL b f xs := List.take_of_length_le (by rw [shownL_len]; exact Nat.le_refl _)
        rw [hT] at HO
        have HO2 := hid (ints_of_own (xs := shownL b f xs) (by rw [shownL_len]; exact HO.out))
        clear hT HO
        go_wp2_with fail
        go_ret2
        exact ⟨_, rfl, HO2.out, HB.out⟩

/-- aneroidref03.Follow. -/
theorem rFollow_any (b l h r f : Int) (v : Value) (xs : List Int) (w : World) (hv : Ints w v xs) :
    Calls Try.prog 48 #[.agg #[.int .i64 b, .int .i64 l, .int .i64 h, .int .i64 r], .int .i64 f, v] w (RetInts (followF b l h r f xs).1 (followF b l h r f xs).2 w) := by
  have he := followF_e b l h r f xs
  cases hp : penOk b l h r
  · have h1 := followF_bad (b := b) (l := l) (h := h) (r := r) (f := f) (xs := xs) (by simp [followOk, hp])
    rw [he, h1.1, hp]
    exact rFollow_pen b l h r f v w (hid hp)
  · cases hf : lvl f
    · have h1 := followF_bad (b := b) (l := l) (h := h) (r := r) (f := f) (xs := xs) (by simp [followOk, hf])
      rw [he, h1.1, hp, hf]
      exact rFollow_bad b l h r f v xs w hv false _ (hid hp) (hid hf) (hid rfl) (hid (by simp))
    · cases hl : listOk xs
      · have h1 := followF_bad (b := b) (l := l) (h := h) (r := r) (f := f) (xs := xs) (by simp [followOk, hl])
        rw [he, h1.1, hp, hf, hl]
        exact rFollow_bad b l h r f v xs w hv true false (hid hp) (hid hf) (hid hl) (hid (by simp))
      · refine rFollow_ok b l h r f v xs w hv (hid hp) (hid hf) (hid hl) _ _ (hid fun h2 h3 => ?_) (hid fun hn => ?_)
        · rw [followF_ok (followOk_iff.2 ⟨hp, hf, hl, h2, h3⟩)]; exact ⟨rfl, rfl⟩
        · have hk : followOk b l h r f xs = false := by
            cases hk : followOk b l h r f xs
            · rfl
            · obtain ⟨_, _, _, h4, h5⟩ := followOk_iff.1 hk
              exact absurd ⟨h4, h5⟩ hn
          have h1 := followF_bad hk
          refine ⟨h1.1, ?_⟩
          rw [he, hp, hf, hl]
          simp only [if_true]
          rw [if_neg (by simpa [Bool.and_eq_true] using hn)]
end Go.Proofs.Ytdopgaljbpjpcaa
