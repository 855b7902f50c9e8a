/- aneroidref03: next, right, Step, Follow. -/
import Derived.Test.YtdopgaljbpjpcaaStarts
namespace Go.Proofs.Ytdopgaljbpjpcaa
open Go.RowKit

set_option maxRecDepth 20000 in
set_option maxHeartbeats 2000000 in
theorem rnext_any (b l h r s m x : Int) (w : World) (hb : 0 ≤ b) (hb8 : b ≤ 8) (hr : 0 ≤ r) (hr2 : r ≤ 12000) (hm : -1000000 ≤ m ∧ m ≤ 1000000) (hx : -1000000 ≤ x ∧ x ≤ 1000000) :
    Calls Try.prog 88 #[.agg #[.int .i64 b, .int .i64 l, .int .i64 h, .int .i64 r], .agg #[.int .i64 s, .int .i64 m], .int .i64 x] w fun e w' => e = .returned (.tuple #[.agg #[.int .i64 (lazyN b s x), .int .i64 x], .bool (decide (apartN x m ≤ r))]) ∧ Below w.heap.size w w' := by
  obtain ⟨W0, hW0⟩ : ∃ W0, ((w.alloc (.cells #[.int .i64 b, .int .i64 l, .int .i64 h, .int .i64 r] 25)).alloc (.cells #[.int .i64 s, .int .i64 m] 59)).alloc (.cells #[.int .i64 0, .int .i64 0] 59) = W0 := ⟨_, rfl⟩
  have P0 : Hid (Pbx w.heap.size b l h r W0) := by rw [← hW0]; exact ((Pbx.new _ b l h r w 25 rfl).next (Bl.alloc (Below.refl _ _) _)).next (Bl.alloc (Below.refl _ _) _)
  have S0 : Hid (Rbx (w.heap.size + 1) s m W0) := by rw [← hW0]; exact (Rbx.new _ s m _ 59 (by simp)).next (Bl.alloc (Below.refl _ _) _)
  have Z0 : Hid (Rbx (w.heap.size + 1 + 1) 0 0 W0) := by rw [← hW0]; exact Rbx.new _ 0 0 _ 59 (by simp)
  have B0 : Hid (Below w.heap.size w W0) := by rw [← hW0]; exact Bl.alloc (Bl.alloc (Bl.alloc (Below.refl _ _) _) _) _
  have HW0 := hid hW0; clear hW0
  obtain ⟨x1, x2⟩ := hx
  obtain ⟨m1, m2⟩ := hm
  have HW : Hid (withinB (x - m) (-r) r = decide (apartN x m ≤ r)) := within_apart x m r
  have i1 : IntKind.i64.wrap (x - m) = x - m := IntWalk.i64_in _ (by omega)
  have i2 : IntKind.i64.wrap (-r) = -r := IntWalk.i64_in _ (by omega)
  go_enter Try.func88, Try.ntmps88
  go_upto_region 1 with fail
  rw [HW0.out]
  clear HW0
  have n1 : ¬ w.heap.size = w.heap.size + 1 + 1 := by omega
  have n2 : ¬ w.heap.size + 1 = w.heap.size + 1 + 1 := by omega
  obtain ⟨p0, p1, p2, p3, p4⟩ := P0.out
  obtain ⟨q0, q1, q2, q3, q4⟩ := S0.out
  obtain ⟨g0, g1, g2, g3, g4⟩ := Z0.out
  go_region_held3 (fun w' => (w'.cell? ⟨w.heap.size + 1, 0, none⟩ = some (.int .i64 s) ∧ w'.cell? ⟨w.heap.size + 1, 1, none⟩ = some (.int .i64 m)) ∧ w'.cell? ⟨w.heap.size, 0, none⟩ = some (.int .i64 b) ∧ w'.cell? ⟨w.heap.size, 2, none⟩ = some (.int .i64 h) ∧ w'.cell? ⟨w.heap.size, 3, none⟩ = some (.int .i64 r)) (first | (go_keep; done) | (refine ⟨⟨?_, ?_⟩, ?_, ?_, ?_⟩ <;> (rw [World.cell?_drew]; refine (set2o (w := W0) (B := w.heap.size + 1 + 1) ?_).trans ?_ <;> (first | assumption | omega | (simp; done) | (simp; omega)))))
    (first
      | (go_at_call 42; refine (lazy_same b s x _ (by omega) (by omega) (by omega) (by omega)).mono ?_; rintro e wa ⟨rfl, rfl⟩)
      | (go_at_call 69; refine (rwithin_same (x - m) (-r) r _).mono ?_; rintro e wa ⟨rfl, rfl⟩))
  all_goals
    obtain ⟨k0, k1⟩ := read_set Z0.out (.int .i64 (lazyN b s x)) (.int .i64 x)
    go_wp2_with fail
    refine bodyPost_ret (v := .tuple #[.agg #[.int .i64 (lazyN b s x), .int .i64 x], .bool (withinB (x - m) (-r) r)]) (by simp [results, Try.results88, go_sem, k0, k1]) rfl ⟨by rw [HW.out], ?_⟩
    first | exact Bl.set2 B0.out (by omega) _ _ | exact Bl.drew (Bl.set2 B0.out (by omega) _ _)
theorem right_within (b s m : Int) : withinB (m - s) (-b) b = rightB b s m := by
  unfold withinB rightB
  rw [Bool.eq_iff_iff]
  simp only [Bool.and_eq_true, decide_eq_true_eq]
  omega
set_option maxRecDepth 20000 in
set_option maxHeartbeats 1000000 in
theorem rright_any (b l h r s m : Int) (t : Bool) (w : World) (hb : 0 ≤ b) (hb8 : b ≤ 8) (hs : Hid (lvl s = true)) (hm : Hid (lvl m = true)) (ht : Hid (rightB b s m = t)) :
    Calls Try.prog 89 #[.agg #[.int .i64 b, .int .i64 l, .int .i64 h, .int .i64 r], .agg #[.int .i64 s, .int .i64 m]] w fun e w' => e = .returned (.bool t) ∧ Below w.heap.size w w' := by
  obtain ⟨s1, s2⟩ := lvl_iff.1 hs.out
  obtain ⟨m1, m2⟩ := lvl_iff.1 hm.out
  go_enter Try.func89, Try.ntmps89
  go_wp2_with fail
  refine (rlevel_at _ _ _ hs).mono ?_
  rintro e w1 ⟨rfl, rfl⟩
  go_wp2_with fail
  refine (rlevel_at _ _ _ hm).mono ?_
  rintro e w1 ⟨rfl, rfl⟩
  go_wp2_with fail
  refine (rwithin_same _ _ _ _).mono ?_
  rintro e w1 ⟨rfl, rfl⟩
  rw [right_within, ht.out]
  cases t
  all_goals
    go_wp2_with fail
    go_ret
    exact ⟨rfl, Bl.alloc (Bl.alloc (Below.refl _ _) _) _⟩

set_option maxRecDepth 20000 in
set_option maxHeartbeats 2000000 in
theorem rStep_any (b l h r s m n : Int) (w : World) :
    Calls Try.prog 47 #[.agg #[.int .i64 b, .int .i64 l, .int .i64 h, .int .i64 r], .agg #[.int .i64 s, .int .i64 m], .int .i64 n] w (RetSpan (stepF b l h r s m n) w) := by
  obtain ⟨tn, htn⟩ : ∃ t, Hid (lvl n = t) := ⟨_, rfl⟩
  obtain ⟨ts, hts⟩ : ∃ t, Hid (lvl s = t) := ⟨_, rfl⟩
  obtain ⟨tm, htm⟩ : ∃ t, Hid (lvl m = t) := ⟨_, rfl⟩
  have hA : Hid (askE b l h r [s, m, n] = if penOk b l h r = true then (if (ts && (tm && tn)) = true then 0 else 1) else 30) := by
    unfold askE lvls; rw [← htn.out, ← hts.out, ← htm.out]; simp [Hid]
  obtain ⟨v1, v2, y, hS⟩ : ∃ v1 v2 y, Hid (stepF b l h r s m n = ((v1, v2), y)) := ⟨_, _, _, rfl⟩
  rw [hS.out]
  have HS : Hid (stepF b l h r s m n = ((v1, v2), y)) := hS
  clear hS
  cases hp : penOk b l h r
  · have hE : v1 = 0 ∧ v2 = 0 ∧ y = 30 := by
      have := HS.out
      unfold stepF at this
      rw [hA.out, hp] at this
      simp at this
      exact ⟨this.1.1.symm, this.1.2.symm, this.2.symm⟩
    obtain ⟨rfl, rfl, rfl⟩ := hE
    have HP := hid hp
    clear hp
    go_enter Try.func47, Try.ntmps47
    go_wp2_with fail
    refine (rcheck_bad _ _ _ _ _ HP).mono ?_
    rintro e w1 ⟨rfl, hb1⟩
    have R1 := hid ((Rbx.new (w.heap.size + 1 + 1) 0 0 ((w.alloc (.cells #[.int .i64 b, .int .i64 l, .int .i64 h, .int .i64 r] 25)).alloc (.cells #[.int .i64 s, .int .i64 m] 59)) 59 (by simp)).next hb1)
    have B1 := hid (bl3 hb1)
    clear hb1
    obtain ⟨g0, g1, g2, g3, g4⟩ := R1.out
    obtain ⟨k0, k1⟩ := read_set R1.out (.int .i64 0) (.int .i64 0)
    go_wp2_with fail
    refine bodyPost_ret (v := .tuple #[.agg #[.int .i64 0, .int .i64 0], .int .i64 30]) (by simp [results, Try.results47, go_sem, k0, k1]) rfl ⟨rfl, ?_⟩
    exact Bl.set2 B1.out (by omega) _ _
  · have HP := hid hp
    have hbb := penOk_iff.1 hp
    have hb0 := hbb.1; have hb8 := hbb.2.1; have hr0 := hbb.2.2.2.2.2.2.1; have hr2 := hbb.2.2.2.2.2.2.2
    clear hbb
    have HE : Hid (¬ (ts = true ∧ tm = true ∧ tn = true) → v1 = 0 ∧ v2 = 0 ∧ y = 1) := by
      intro hn
      have := HS.out
      unfold stepF at this
      rw [hA.out, hp] at this
      have h2 : ¬ (ts && (tm && tn)) = true := by simpa [Bool.and_eq_true] using hn
      rw [if_pos rfl, if_neg h2] at this
      simp at this
      exact ⟨this.1.1.symm, this.1.2.symm, this.2.symm⟩
    have HF : Hid (ts = true → tm = true → tn = true → (if rightB b s m = true ∧ apartN n m ≤ r then ((lazyN b s n, n), (0 : Int)) else ((0, 0), 31)) = ((v1, v2), y)) := by
      intro h1 h2 h3
      have := HS.out
      unfold stepF at this
      rw [hA.out, hp, h1, h2, h3] at this
      simpa using this
    clear hp hA HS
    go_enter Try.func47, Try.ntmps47
    go_wp2_with fail
    refine (rcheck_ok _ _ _ _ _ HP).mono ?_
    rintro e w1 ⟨rfl, hb1⟩
    have P1 := hid ((Pbx.new _ b l h r w 25 rfl).next (bl1 (bl1 hb1)))
    have S1 := hid ((Rbx.new (w.heap.size + 1) s m (w.alloc (.cells #[.int .i64 b, .int .i64 l, .int .i64 h, .int .i64 r] 25)) 59 (by simp)).next (bl1 hb1))
    have R1 := hid ((Rbx.new (w.heap.size + 1 + 1) 0 0 ((w.alloc (.cells #[.int .i64 b, .int .i64 l, .int .i64 h, .int .i64 r] 25)).alloc (.cells #[.int .i64 s, .int .i64 m] 59)) 59 (by simp)).next hb1)
    have B1 := hid (bl3 hb1)
    clear hb1
    obtain ⟨q0, q1, q2, q3, q4⟩ := S1.out
    go_wp2_with fail
    refine (rlevel_at _ _ _ htn).mono ?_
    rintro e w1 ⟨rfl, rfl⟩
    cases tn
    · obtain ⟨rfl, rfl, rfl⟩ := HE.out (by simp)
      obtain ⟨g0, g1, g2, g3, g4⟩ := R1.out
      obtain ⟨k0, k1⟩ := read_set R1.out (.int .i64 0) (.int .i64 0)
      go_wp2_with fail
      refine bodyPost_ret (v := .tuple #[.agg #[.int .i64 0, .int .i64 0], .int .i64 1]) (by simp [results, Try.results47, go_sem, k0, k1]) rfl ⟨rfl, ?_⟩
      exact Bl.set2 B1.out (by omega) _ _
    go_wp2_with fail
    refine (rlevel_at _ _ _ hts).mono ?_
    rintro e w1 ⟨rfl, rfl⟩
    cases ts
    · obtain ⟨rfl, rfl, rfl⟩ := HE.out (by simp)
      obtain ⟨g0, g1, g2, g3, g4⟩ := R1.out
      obtain ⟨k0, k1⟩ := read_set R1.out (.int .i64 0) (.int .i64 0)
      go_wp2_with fail
      refine bodyPost_ret (v := .tuple #[.agg #[.int .i64 0, .int .i64 0], .int .i64 1]) (by simp [results, Try.results47, go_sem, k0, k1]) rfl ⟨rfl, ?_⟩
      exact Bl.set2 B1.out (by omega) _ _
    go_wp2_with fail
    refine (rlevel_at _ _ _ htm).mono ?_
    rintro e w1 ⟨rfl, rfl⟩
    cases tm
    · obtain ⟨rfl, rfl, rfl⟩ := HE.out (by simp)
      obtain ⟨g0, g1, g2, g3, g4⟩ := R1.out
      obtain ⟨k0, k1⟩ := read_set R1.out (.int .i64 0) (.int .i64 0)
      go_wp2_with fail
      refine bodyPost_ret (v := .tuple #[.agg #[.int .i64 0, .int .i64 0], .int .i64 1]) (by simp [results, Try.results47, go_sem, k0, k1]) rfl ⟨rfl, ?_⟩
      exact Bl.set2 B1.out (by omega) _ _
    have HF' := hid (HF.out (by first | rfl | trivial) (by first | rfl | trivial) (by first | rfl | trivial))
    obtain ⟨n1, n2⟩ := lvl_iff.1 htn.out
    obtain ⟨s1, s2⟩ := lvl_iff.1 hts.out
    obtain ⟨m1, m2⟩ := lvl_iff.1 htm.out
    obtain ⟨p0, p1, p2, p3, p4⟩ := P1.out
    clear HF HE
    go_wp2_with fail
    refine (rnext_any b l h r s m n _ hb0 hb8 hr0 hr2 (by omega) (by omega)).mono ?_
    rintro e w2 ⟨rfl, hb2⟩
    clear q0 q1 q2 q3 q4 p0 p1 p2 p3 p4
    have P2 := hid (P1.out.next (Bl.alloc hb2 (.cells #[.int .i64 (lazyN b s n), .int .i64 n] 59)))
    have S2 := hid (S1.out.next (Bl.alloc hb2 (.cells #[.int .i64 (lazyN b s n), .int .i64 n] 59)))
    have R2 := hid (R1.out.next (Bl.alloc hb2 (.cells #[.int .i64 (lazyN b s n), .int .i64 n] 59)))
    have N2 := hid (Rbx.new _ (lazyN b s n) n w2 59 rfl)
    have B2 := hid (Bl.call B1.out (Bl.alloc hb2 (.cells #[.int .i64 (lazyN b s n), .int .i64 n] 59)))
    clear hb2 P1 S1 R1 B1
    obtain ⟨q0, q1, q2, q3, q4⟩ := S2.out
    obtain ⟨p0, p1, p2, p3, p4⟩ := P2.out
    obtain ⟨tr, htr⟩ : ∃ t, Hid (rightB b s m = t) := ⟨_, rfl⟩
    go_wp2_with fail
    refine (rright_any b l h r s m tr _ hb0 hb8 hts htm htr).mono ?_
    rintro e w3 ⟨rfl, hb3⟩
    clear q0 q1 q2 q3 q4 p0 p1 p2 p3 p4
    have R3 := hid (R2.out.next hb3)
    have N3 := hid (N2.out.next hb3)
    have B3 := hid (Bl.call B2.out hb3)
    have hz := R2.out.2.2.2.2
    clear hb3 P2 S2 R2 N2 B2
    obtain ⟨g0, g1, g2, g3, g4⟩ := R3.out
    cases tr
    · have : v1 = 0 ∧ v2 = 0 ∧ y = 31 := by
        have := HF'.out
        rw [if_neg (by rw [htr.out]; simp)] at this
        simp at this
        exact ⟨this.1.1.symm, this.1.2.symm, this.2.symm⟩
      obtain ⟨rfl, rfl, rfl⟩ := this
      obtain ⟨k0, k1⟩ := read_set R3.out (.int .i64 0) (.int .i64 0)
      go_wp2_with fail
      refine bodyPost_ret (v := .tuple #[.agg #[.int .i64 0, .int .i64 0], .int .i64 31]) (by simp [results, Try.results47, go_sem, k0, k1]) rfl ⟨rfl, ?_⟩
      exact Bl.set2 B3.out (by omega) _ _
    · by_cases ha : apartN n m ≤ r
      · have : v1 = lazyN b s n ∧ v2 = n ∧ y = 0 := by
          have := HF'.out
          rw [if_pos ⟨htr.out, ha⟩] at this
          simp at this
          exact ⟨this.1.1.symm, this.1.2.symm, this.2.symm⟩
        obtain ⟨rfl, h2, rfl⟩ := this
        have h2' := h2.symm
        clear h2
        subst h2'
        have j1 : decide (apartN n m ≤ r) = true := by simpa using ha
        clear ha
        obtain ⟨c0, c1, c2, c3, c4⟩ := N3.out
        obtain ⟨k0, k1⟩ := read_set R3.out (.int .i64 (lazyN b s n)) (.int .i64 n)
        go_wp2_with fail
        refine bodyPost_ret (v := .tuple #[.agg #[.int .i64 (lazyN b s n), .int .i64 n], .int .i64 0]) (by simp [results, Try.results47, go_sem, k0, k1]) rfl ⟨rfl, ?_⟩
        exact Bl.set2 B3.out (by omega) _ _
      · have : v1 = 0 ∧ v2 = 0 ∧ y = 31 := by
          have := HF'.out
          rw [if_neg (fun hq => ha hq.2)] at this
          simp at this
          exact ⟨this.1.1.symm, this.1.2.symm, this.2.symm⟩
        obtain ⟨rfl, rfl, rfl⟩ := this
        have j1 : decide (apartN n m ≤ r) = false := by simpa using ha
        clear ha
        obtain ⟨k0, k1⟩ := read_set R3.out (.int .i64 0) (.int .i64 0)
        go_wp2_with fail
        refine bodyPost_ret (v := .tuple #[.agg #[.int .i64 0, .int .i64 0], .int .i64 31]) (by simp [results, Try.results47, go_sem, k0, k1]) rfl ⟨rfl, ?_⟩
        exact Bl.set2 B3.out (by omega) _ _
end Go.Proofs.Ytdopgaljbpjpcaa
