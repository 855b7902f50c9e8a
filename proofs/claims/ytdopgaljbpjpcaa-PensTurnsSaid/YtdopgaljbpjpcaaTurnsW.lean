/- Zeros, Stuck, turned, Turns of both; the walk of the law PensTurns. -/
import Derived.Test.YtdopgaljbpjpcaaStarts
import Derived.Test.YtdopgaljbpjpcaaRefR
import Derived.Test.YtdopgaljbpjpcaaRefF
import Derived.WalkMore
import Derived.Test.YtdopgaljbpjpcaaPlainT
import Derived.Test.YtdopgaljbpjpcaaLawTools
import Derived.Test.YtdopgaljbpjpcaaLawMore
import Derived.Test.YtdopgaljbpjpcaaWDrift
namespace Go.Proofs.Ytdopgaljbpjpcaa
open Go.RowKit

def zerosF (b l h r n s1 s2 : Int) : (Int × Int) × Int :=
  if askE b l h r [n, s1, s2] ≠ 0 then ((0, 0), askE b l h r [n, s1, s2]) else if max l (s1 - n) ≤ min h (s2 - n) then ((max l (s1 - n), min h (s2 - n)), 0) else ((0, 0), 3)

/-- What Zeros returns when the arguments are right. -/
def zerosC (_b l h _r n s1 s2 x y er : Int) : Prop := (min h (s2 - n) < max l (s1 - n) → x = 0 ∧ y = 0 ∧ er = 3) ∧ (¬ min h (s2 - n) < max l (s1 - n) → x = max l (s1 - n) ∧ y = min h (s2 - n) ∧ er = 0)
set_option maxHeartbeats 2000000 in
theorem zeros_bad (b l h r n s1 s2 : Int) (w : World) (h0 : Hid ((askE b l h r [n, s1, s2] != 0) = true)) :
    Calls Try.prog 58 #[.agg #[.int .i64 b, .int .i64 l, .int .i64 h, .int .i64 r], .int .i64 n, .agg #[.int .i64 s1, .int .i64 s2]] w (RetSpan ((0, 0), askE b l h r [n, s1, s2]) w) := by
  have hne := h0.out
  go_enter Try.func58, Try.ntmps58
  go_wp2_with fail
  refine (asked_any _ _ _ _ _ [n, s1, s2] _ (ints3_at _ _ _ _ _ (by simp))).mono ?_
  rintro e w1 ⟨rfl, hb1⟩
  have R1 := hid ((Rbx.new (w.heap.size + 1 + 1) 0 0 ((w.alloc (.cells #[.int .i64 b, .int .i64 l, .int .i64 h, .int .i64 r] 25)).alloc (.cells #[.int .i64 s1, .int .i64 s2] 23)) 23 (by simp)).next (bl1 hb1))
  have B1 := hid (bl1 (bl3 hb1))
  clear hb1
  obtain ⟨g0, g1, g2, g3, g4⟩ := R1.out
  obtain ⟨k0, k1⟩ := read_set R1.out (.int .i64 0) (.int .i64 0)
  go_wp2_with fail
  refine bodyPost_ret (v := .tuple #[.agg #[.int .i64 0, .int .i64 0], .int .i64 (askE b l h r [n, s1, s2])]) (by simp [results, Try.results58, go_sem, k0, k1]) rfl ⟨rfl, ?_⟩
  exact Bl.set2 B1.out (by omega) _ _
set_option maxRecDepth 20000 in
set_option maxHeartbeats 4000000 in
theorem zeros_ok (b l h r n s1 s2 : Int) (w : World) (h0 : Hid (askE b l h r [n, s1, s2] = 0)) (x y er : Int) (her : Hid (zerosC b l h r n s1 s2 x y er)) (hn : -50000 ≤ n ∧ n ≤ 50000) (hs1 : -50000 ≤ s1 ∧ s1 ≤ 50000) (hs2 : -50000 ≤ s2 ∧ s2 ≤ 50000) :
    Calls Try.prog 58 #[.agg #[.int .i64 b, .int .i64 l, .int .i64 h, .int .i64 r], .int .i64 n, .agg #[.int .i64 s1, .int .i64 s2]] w (RetSpan ((x, y), er) w) := by
  obtain ⟨hn1, hn2⟩ := hn; obtain ⟨hs11, hs12⟩ := hs1; obtain ⟨hs21, hs22⟩ := hs2
  go_enter Try.func58, Try.ntmps58
  go_wp2_with fail
  refine (asked_ok _ _ _ _ _ [n, s1, s2] _ (ints3_at _ _ _ _ _ (by simp)) h0).mono ?_
  rintro e w1 ⟨rfl, hb1⟩
  have P1 := hid ((Pbx.new _ b l h r w 25 rfl).next (bl1 (bl1 (bl1 hb1))))
  have S1 := hid ((Rbx.new (w.heap.size + 1) s1 s2 (w.alloc (.cells #[.int .i64 b, .int .i64 l, .int .i64 h, .int .i64 r] 25)) 23 (by simp)).next (bl1 (bl1 hb1)))
  have R1 := hid ((Rbx.new (w.heap.size + 1 + 1) 0 0 ((w.alloc (.cells #[.int .i64 b, .int .i64 l, .int .i64 h, .int .i64 r] 25)).alloc (.cells #[.int .i64 s1, .int .i64 s2] 23)) 23 (by simp)).next (bl1 hb1))
  have B1 := hid (bl1 (bl3 hb1))
  clear hb1
  obtain ⟨q0, q1, q2, q3, q4⟩ := P1.out
  obtain ⟨g0, g1, g2, g3, g4⟩ := S1.out
  obtain ⟨m0, m1, m2, m3, m4⟩ := R1.out
  have N2 := hid (Rbx.new _ (max l (s1 - n)) (min h (s2 - n)) w1 23 rfl)
  have hz := R1.out.2.2.2.2
  have n1 : ¬ w1.heap.size = w.heap.size + 1 + 1 := by omega
  have n2 : ¬ w.heap.size + 1 + 1 = w1.heap.size := by omega
  obtain ⟨u0, u1, u2, u3, u4⟩ := N2.out
  by_cases hc : min h (s2 - n) < max l (s1 - n)
  · have hd : decide (min h (s2 - n) < max l (s1 - n)) = true := by simpa using hc
    obtain ⟨rfl, rfl, rfl⟩ := her.out.1 hc
    have k0 := cell_alloc1 (o := .cells #[.int .i64 (max l (s1 - n)), .int .i64 (min h (s2 - n))] 23) (set2a (u := .int .i64 0) (v := .int .i64 0) R1.out.1)
    have k1 := cell_alloc1 (o := .cells #[.int .i64 (max l (s1 - n)), .int .i64 (min h (s2 - n))] 23) (set2b (u := .int .i64 0) (v := .int .i64 0) R1.out.2.1)
    clear hc her
    go_wp2_with fail
    refine bodyPost_ret (v := .tuple #[.agg #[.int .i64 0, .int .i64 0], .int .i64 3]) (by simp [results, Try.results58, go_sem, k0, k1]) rfl ⟨rfl, ?_⟩
    exact Bl.alloc (Bl.set2 B1.out (by omega) _ _) _
  · have hd : decide (min h (s2 - n) < max l (s1 - n)) = false := by simpa using hc
    obtain ⟨rfl, rfl, rfl⟩ := her.out.2 hc
    have k0 := cell_alloc1 (o := .cells #[.int .i64 (max l (s1 - n)), .int .i64 (min h (s2 - n))] 23) (set2a (u := .int .i64 (max l (s1 - n))) (v := .int .i64 (min h (s2 - n))) R1.out.1)
    have k1 := cell_alloc1 (o := .cells #[.int .i64 (max l (s1 - n)), .int .i64 (min h (s2 - n))] 23) (set2b (u := .int .i64 (max l (s1 - n))) (v := .int .i64 (min h (s2 - n))) R1.out.2.1)
    clear hc her
    go_wp2_with fail
    refine bodyPost_ret (v := .tuple #[.agg #[.int .i64 (max l (s1 - n)), .int .i64 (min h (s2 - n))], .int .i64 0]) (by simp [results, Try.results58, go_sem, k0, k1]) rfl ⟨rfl, ?_⟩
    exact Bl.alloc (Bl.set2 B1.out (by omega) _ _) _
theorem zeros_any (b l h r n s1 s2 : Int) (w : World) : Calls Try.prog 58 #[.agg #[.int .i64 b, .int .i64 l, .int .i64 h, .int .i64 r], .int .i64 n, .agg #[.int .i64 s1, .int .i64 s2]] w (RetSpan (zerosF b l h r n s1 s2) w) := by
  by_cases h0 : askE b l h r [n, s1, s2] = 0
  · obtain ⟨_, hl⟩ := askE_ok h0
    obtain ⟨l1, l2, l3⟩ := lvls_three hl
    unfold zerosF
    rw [if_neg (by simp [h0])]
    by_cases hc : max l (s1 - n) ≤ min h (s2 - n)
    · rw [if_pos hc]
      exact zeros_ok b l h r n s1 s2 w (hid h0) _ _ _ (hid ⟨fun q => absurd hc (by omega), fun _ => ⟨rfl, rfl, rfl⟩⟩) l1 l2 l3
    · rw [if_neg hc]
      exact zeros_ok b l h r n s1 s2 w (hid h0) _ _ _ (hid ⟨fun _ => ⟨rfl, rfl, rfl⟩, fun q => absurd hc (by omega)⟩) l1 l2 l3
  · have hE : zerosF b l h r n s1 s2 = ((0, 0), askE b l h r [n, s1, s2]) := by unfold zerosF; rw [if_pos h0]
    rw [hE]
    exact zeros_bad b l h r n s1 s2 w (hid (by simpa [bne_iff_ne] using h0))
theorem lvls3 (n s1 s2 : Int) : lvls [n, s1, s2] = (lvl n && (lvl s1 && lvl s2)) := by simp [lvls]
theorem askE_three (b l h r n s1 s2 : Int) : askE b l h r [n, s1, s2] = if penOk b l h r = true then (if (lvl n && (lvl s1 && lvl s2)) = true then 0 else 1) else 30 := by unfold askE; rw [lvls3]
set_option maxHeartbeats 2000000 in
theorem rzeros_bad (b l h r n s1 s2 : Int) (w : World) (hp : Hid (penOk b l h r = false)) : Calls Try.prog 59 #[.agg #[.int .i64 b, .int .i64 l, .int .i64 h, .int .i64 r], .int .i64 n, .agg #[.int .i64 s1, .int .i64 s2]] w (RetSpan ((0, 0), 30) w) := by
  go_enter Try.func59, Try.ntmps59
  go_wp2_with fail
  refine (rcheck_bad _ _ _ _ _ hp).mono ?_
  rintro e w1 ⟨rfl, hb1⟩
  have R1 := hid ((Rbx.new (w.heap.size + 1 + 1) 0 0 ((w.alloc (.cells #[.int .i64 b, .int .i64 l, .int .i64 h, .int .i64 r] 25)).alloc (.cells #[.int .i64 s1, .int .i64 s2] 23)) 23 (by simp)).next hb1)
  have B1 := hid (bl3 hb1)
  clear hb1
  obtain ⟨g0, g1, g2, g3, g4⟩ := R1.out
  obtain ⟨k0, k1⟩ := read_set R1.out (.int .i64 0) (.int .i64 0)
  go_wp2_with fail
  refine bodyPost_ret (v := .tuple #[.agg #[.int .i64 0, .int .i64 0], .int .i64 30]) (by simp [results, Try.results59, go_sem, k0, k1]) rfl ⟨rfl, ?_⟩
  exact Bl.set2 B1.out (by omega) _ _
set_option maxRecDepth 20000 in
set_option maxHeartbeats 4000000 in
theorem rzeros_a (b l h r n s1 s2 : Int) (w : World) (hp : Hid (penOk b l h r = true)) (t1 : Hid (lvl n = false)) : Calls Try.prog 59 #[.agg #[.int .i64 b, .int .i64 l, .int .i64 h, .int .i64 r], .int .i64 n, .agg #[.int .i64 s1, .int .i64 s2]] w (RetSpan ((0, 0), 1) w) := by
  go_enter Try.func59, Try.ntmps59
  go_wp2_with fail
  refine (rcheck_ok _ _ _ _ _ hp).mono ?_
  rintro e w1 ⟨rfl, hb1⟩
  have P1 := hid ((Pbx.new _ b l h r w 25 rfl).next (bl1 (bl1 hb1)))
  have S1 := hid ((Rbx.new (w.heap.size + 1) s1 s2 (w.alloc (.cells #[.int .i64 b, .int .i64 l, .int .i64 h, .int .i64 r] 25)) 23 (by simp)).next (bl1 hb1))
  have R1 := hid ((Rbx.new (w.heap.size + 1 + 1) 0 0 ((w.alloc (.cells #[.int .i64 b, .int .i64 l, .int .i64 h, .int .i64 r] 25)).alloc (.cells #[.int .i64 s1, .int .i64 s2] 23)) 23 (by simp)).next hb1)
  have B1 := hid (bl3 hb1)
  clear hb1
  obtain ⟨q0, q1, q2, q3, q4⟩ := P1.out
  obtain ⟨g0, g1, g2, g3, g4⟩ := S1.out
  obtain ⟨m0, m1, m2, m3, m4⟩ := R1.out
  obtain ⟨k0, k1⟩ := read_set R1.out (.int .i64 0) (.int .i64 0)
  go_wp2_with (first | (go_at_call 86; refine (rlevel_at _ _ _ t1).mono ?_; rintro e w' ⟨rfl, rfl⟩) | fail)
  refine bodyPost_ret (v := .tuple #[.agg #[.int .i64 0, .int .i64 0], .int .i64 1]) (by simp [results, Try.results59, go_sem, k0, k1]) rfl ⟨rfl, ?_⟩
  exact Bl.set2 B1.out (by omega) _ _
set_option maxRecDepth 20000 in
set_option maxHeartbeats 4000000 in
theorem rzeros_b (b l h r n s1 s2 : Int) (w : World) (hp : Hid (penOk b l h r = true)) (t1 : Hid (lvl n = true)) (t2 : Hid (lvl s1 = false)) : Calls Try.prog 59 #[.agg #[.int .i64 b, .int .i64 l, .int .i64 h, .int .i64 r], .int .i64 n, .agg #[.int .i64 s1, .int .i64 s2]] w (RetSpan ((0, 0), 1) w) := by
  go_enter Try.func59, Try.ntmps59
  go_wp2_with fail
  refine (rcheck_ok _ _ _ _ _ hp).mono ?_
  rintro e w1 ⟨rfl, hb1⟩
  have P1 := hid ((Pbx.new _ b l h r w 25 rfl).next (bl1 (bl1 hb1)))
  have S1 := hid ((Rbx.new (w.heap.size + 1) s1 s2 (w.alloc (.cells #[.int .i64 b, .int .i64 l, .int .i64 h, .int .i64 r] 25)) 23 (by simp)).next (bl1 hb1))
  have R1 := hid ((Rbx.new (w.heap.size + 1 + 1) 0 0 ((w.alloc (.cells #[.int .i64 b, .int .i64 l, .int .i64 h, .int .i64 r] 25)).alloc (.cells #[.int .i64 s1, .int .i64 s2] 23)) 23 (by simp)).next hb1)
  have B1 := hid (bl3 hb1)
  clear hb1
  obtain ⟨q0, q1, q2, q3, q4⟩ := P1.out
  obtain ⟨g0, g1, g2, g3, g4⟩ := S1.out
  obtain ⟨m0, m1, m2, m3, m4⟩ := R1.out
  obtain ⟨k0, k1⟩ := read_set R1.out (.int .i64 0) (.int .i64 0)
  go_wp2_with (first | (go_at_call 86; refine (rlevel_at _ _ _ t1).mono ?_; rintro e w' ⟨rfl, rfl⟩) | (go_at_call 86; refine (rlevel_at _ _ _ t2).mono ?_; rintro e w' ⟨rfl, rfl⟩) | fail)
  refine bodyPost_ret (v := .tuple #[.agg #[.int .i64 0, .int .i64 0], .int .i64 1]) (by simp [results, Try.results59, go_sem, k0, k1]) rfl ⟨rfl, ?_⟩
  exact Bl.set2 B1.out (by omega) _ _
set_option maxRecDepth 20000 in
set_option maxHeartbeats 4000000 in
theorem rzeros_c (b l h r n s1 s2 : Int) (w : World) (hp : Hid (penOk b l h r = true)) (t1 : Hid (lvl n = true)) (t2 : Hid (lvl s1 = true)) (t3 : Hid (lvl s2 = false)) : Calls Try.prog 59 #[.agg #[.int .i64 b, .int .i64 l, .int .i64 h, .int .i64 r], .int .i64 n, .agg #[.int .i64 s1, .int .i64 s2]] w (RetSpan ((0, 0), 1) w) := by
  go_enter Try.func59, Try.ntmps59
  go_wp2_with fail
  refine (rcheck_ok _ _ _ _ _ hp).mono ?_
  rintro e w1 ⟨rfl, hb1⟩
  have P1 := hid ((Pbx.new _ b l h r w 25 rfl).next (bl1 (bl1 hb1)))
  have S1 := hid ((Rbx.new (w.heap.size + 1) s1 s2 (w.alloc (.cells #[.int .i64 b, .int .i64 l, .int .i64 h, .int .i64 r] 25)) 23 (by simp)).next (bl1 hb1))
  have R1 := hid ((Rbx.new (w.heap.size + 1 + 1) 0 0 ((w.alloc (.cells #[.int .i64 b, .int .i64 l, .int .i64 h, .int .i64 r] 25)).alloc (.cells #[.int .i64 s1, .int .i64 s2] 23)) 23 (by simp)).next hb1)
  have B1 := hid (bl3 hb1)
  clear hb1
  obtain ⟨q0, q1, q2, q3, q4⟩ := P1.out
  obtain ⟨g0, g1, g2, g3, g4⟩ := S1.out
  obtain ⟨m0, m1, m2, m3, m4⟩ := R1.out
  obtain ⟨k0, k1⟩ := read_set R1.out (.int .i64 0) (.int .i64 0)
  go_wp2_with (first | (go_at_call 86; refine (rlevel_at _ _ _ t1).mono ?_; rintro e w' ⟨rfl, rfl⟩) | (go_at_call 86; refine (rlevel_at _ _ _ t2).mono ?_; rintro e w' ⟨rfl, rfl⟩) | (go_at_call 86; refine (rlevel_at _ _ _ t3).mono ?_; rintro e w' ⟨rfl, rfl⟩) | fail)
  refine bodyPost_ret (v := .tuple #[.agg #[.int .i64 0, .int .i64 0], .int .i64 1]) (by simp [results, Try.results59, go_sem, k0, k1]) rfl ⟨rfl, ?_⟩
  exact Bl.set2 B1.out (by omega) _ _
set_option maxRecDepth 20000 in
set_option maxHeartbeats 4000000 in
theorem rzeros_ok (b l h r n s1 s2 : Int) (w : World) (hp : Hid (penOk b l h r = true)) (t1 : Hid (lvl n = true)) (t2 : Hid (lvl s1 = true)) (t3 : Hid (lvl s2 = true)) (x y er : Int) (her : Hid (zerosC b l h r n s1 s2 x y er)) (hn : -50000 ≤ n ∧ n ≤ 50000) (hs1 : -50000 ≤ s1 ∧ s1 ≤ 50000) (hs2 : -50000 ≤ s2 ∧ s2 ≤ 50000) :
    Calls Try.prog 59 #[.agg #[.int .i64 b, .int .i64 l, .int .i64 h, .int .i64 r], .int .i64 n, .agg #[.int .i64 s1, .int .i64 s2]] w (RetSpan ((x, y), er) w) := by
  obtain ⟨hn1, hn2⟩ := hn; obtain ⟨hs11, hs12⟩ := hs1; obtain ⟨hs21, hs22⟩ := hs2
  go_enter Try.func59, Try.ntmps59
  go_wp2_with fail
  refine (rcheck_ok _ _ _ _ _ hp).mono ?_
  rintro e w1 ⟨rfl, hb1⟩
  have P1 := hid ((Pbx.new _ b l h r w 25 rfl).next (bl1 (bl1 hb1)))
  have S1 := hid ((Rbx.new (w.heap.size + 1) s1 s2 (w.alloc (.cells #[.int .i64 b, .int .i64 l, .int .i64 h, .int .i64 r] 25)) 23 (by simp)).next (bl1 hb1))
  have R1 := hid ((Rbx.new (w.heap.size + 1 + 1) 0 0 ((w.alloc (.cells #[.int .i64 b, .int .i64 l, .int .i64 h, .int .i64 r] 25)).alloc (.cells #[.int .i64 s1, .int .i64 s2] 23)) 23 (by simp)).next hb1)
  have B1 := hid (bl3 hb1)
  clear hb1
  obtain ⟨q0, q1, q2, q3, q4⟩ := P1.out
  obtain ⟨g0, g1, g2, g3, g4⟩ := S1.out
  obtain ⟨m0, m1, m2, m3, m4⟩ := R1.out
  go_wp2_with (first | (go_at_call 86; refine (rlevel_at _ _ _ t1).mono ?_; rintro e w' ⟨rfl, rfl⟩) | (go_at_call 86; refine (rlevel_at _ _ _ t2).mono ?_; rintro e w' ⟨rfl, rfl⟩) | (go_at_call 86; refine (rlevel_at _ _ _ t3).mono ?_; rintro e w' ⟨rfl, rfl⟩) | fail)
  refine (both_any _ _ _ _ _).mono ?_
  rintro e w2 ⟨rfl, hb2⟩
  have P3 := hid (P1.out.next hb2)
  have R3 := hid (R1.out.next hb2)
  have B3 := hid (Bl.call B1.out hb2)
  clear q0 q1 q2 q3 q4 g0 g1 g2 g3 g4 m0 m1 m2 m3 m4 P1 S1 hb2
  obtain ⟨m0, m1, m2, m3, m4⟩ := R3.out
  clear R1 B1
  have N2 := hid (Rbx.new _ (max l (s1 - n)) (min h (s2 - n)) w2 23 rfl)
  have hz := R3.out.2.2.2.2
  have n1 : ¬ w2.heap.size = w.heap.size + 1 + 1 := by omega
  have n2 : ¬ w.heap.size + 1 + 1 = w2.heap.size := by omega
  obtain ⟨u0, u1, u2, u3, u4⟩ := N2.out
  by_cases hc : min h (s2 - n) < max l (s1 - n)
  · have hd : decide (min h (s2 - n) < max l (s1 - n)) = true := by simpa using hc
    obtain ⟨rfl, rfl, rfl⟩ := her.out.1 hc
    have k0 := cell_alloc1 (o := .cells #[.int .i64 (max l (s1 - n)), .int .i64 (min h (s2 - n))] 23) (set2a (u := .int .i64 0) (v := .int .i64 0) R3.out.1)
    have k1 := cell_alloc1 (o := .cells #[.int .i64 (max l (s1 - n)), .int .i64 (min h (s2 - n))] 23) (set2b (u := .int .i64 0) (v := .int .i64 0) R3.out.2.1)
    clear hc her
    go_wp2_with fail
    refine bodyPost_ret (v := .tuple #[.agg #[.int .i64 0, .int .i64 0], .int .i64 3]) (by simp [results, Try.results59, go_sem, k0, k1]) rfl ⟨rfl, ?_⟩
    exact Bl.alloc (Bl.set2 B3.out (by omega) _ _) _
  · have hd : decide (min h (s2 - n) < max l (s1 - n)) = false := by simpa using hc
    obtain ⟨rfl, rfl, rfl⟩ := her.out.2 hc
    have k0 := cell_alloc1 (o := .cells #[.int .i64 (max l (s1 - n)), .int .i64 (min h (s2 - n))] 23) (set2a (u := .int .i64 (max l (s1 - n))) (v := .int .i64 (min h (s2 - n))) R3.out.1)
    have k1 := cell_alloc1 (o := .cells #[.int .i64 (max l (s1 - n)), .int .i64 (min h (s2 - n))] 23) (set2b (u := .int .i64 (max l (s1 - n))) (v := .int .i64 (min h (s2 - n))) R3.out.2.1)
    clear hc her
    go_wp2_with fail
    refine bodyPost_ret (v := .tuple #[.agg #[.int .i64 (max l (s1 - n)), .int .i64 (min h (s2 - n))], .int .i64 0]) (by simp [results, Try.results59, go_sem, k0, k1]) rfl ⟨rfl, ?_⟩
    exact Bl.alloc (Bl.set2 B3.out (by omega) _ _) _
theorem rzeros_any (b l h r n s1 s2 : Int) (w : World) : Calls Try.prog 59 #[.agg #[.int .i64 b, .int .i64 l, .int .i64 h, .int .i64 r], .int .i64 n, .agg #[.int .i64 s1, .int .i64 s2]] w (RetSpan (zerosF b l h r n s1 s2) w) := by
  unfold zerosF
  rw [askE_three]
  cases hp : penOk b l h r
  · exact rzeros_bad b l h r n s1 s2 w (hid hp)
  cases t1 : lvl n
  · exact rzeros_a b l h r n s1 s2 w (hid hp) (hid t1)
  cases t2 : lvl s1
  · exact rzeros_b b l h r n s1 s2 w (hid hp) (hid t1) (hid t2)
  cases t3 : lvl s2
  · exact rzeros_c b l h r n s1 s2 w (hid hp) (hid t1) (hid t2) (hid t3)
  simp only [Bool.and_self, if_true, ne_eq, not_true_eq_false, if_false]
  have l1 := lvl_iff.1 t1; have l2 := lvl_iff.1 t2; have l3 := lvl_iff.1 t3
  by_cases hc : max l (s1 - n) ≤ min h (s2 - n)
  · rw [if_pos hc]
    exact rzeros_ok b l h r n s1 s2 w (hid hp) (hid t1) (hid t2) (hid t3) _ _ _ (hid ⟨fun q => absurd hc (by omega), fun _ => ⟨rfl, rfl, rfl⟩⟩) l1 l2 l3
  · rw [if_neg hc]
    exact rzeros_ok b l h r n s1 s2 w (hid hp) (hid t1) (hid t2) (hid t3) _ _ _ (hid ⟨fun _ => ⟨rfl, rfl, rfl⟩, fun q => absurd hc (by omega)⟩) l1 l2 l3
end Go.Proofs.Ytdopgaljbpjpcaa
namespace Go.Proofs.Ytdopgaljbpjpcaa
open Go.RowKit

/-- In front of an index: where the run that goes on began, and the runs that ended. -/
def stA (xs : List Int) : Nat → Nat × List (Int × Int)
  | 0 => (0, [])
  | i + 1 => if i + 1 < xs.length ∧ nth xs (i + 1) = nth xs i then stA xs i else (i + 1, if (stA xs i).1 < i then (stA xs i).2 ++ [(((stA xs i).1 : Int), (i : Int))] else (stA xs i).2)
def stuckL (xs : List Int) : List (Int × Int) := (stA xs xs.length).2
def stuckF (b l h r : Int) (xs : List Int) : List (Int × Int) × Int := if listedE b l h r xs ≠ 0 then ([], listedE b l h r xs) else (stuckL xs, 0)
theorem stA_go {xs : List Int} {k f : Nat} {L : List (Int × Int)} (hs : stA xs k = (f, L)) (h : k + 1 < xs.length ∧ nth xs (k + 1) = nth xs k) : stA xs (k + 1) = (f, L) := by
  simp only [stA]; rw [if_pos h, hs]
theorem stA_end {xs : List Int} {k f : Nat} {L : List (Int × Int)} (hs : stA xs k = (f, L)) (h : ¬ (k + 1 < xs.length ∧ nth xs (k + 1) = nth xs k)) : stA xs (k + 1) = (k + 1, if f < k then L ++ [((f : Int), (k : Int))] else L) := by
  simp only [stA]; rw [if_neg h, hs]

set_option maxHeartbeats 400000 in
theorem stuck_bad (b l h r : Int) (v : Value) (xs : List Int) (w : World) (hv : Ints w v xs) (hb : Hid (listedE b l h r xs ≠ 0)) :
    Calls Try.prog 60 #[.agg #[.int .i64 b, .int .i64 l, .int .i64 h, .int .i64 r], v] w (RetPE [] (listedE b l h r xs) w) := by
  have hne : (listedE b l h r xs != 0) = true := by simpa [bne_iff_ne] using hb.out
  go_enter Try.func60, Try.ntmps60
  go_wp2_with fail
  go_step3
  go_wp2_with fail
  refine (listed_any _ _ _ _ _ xs _ (Ints.below hv (Bl.alloc (Below.refl _ _) _))).mono ?_
  rintro e w1 ⟨rfl, hb1⟩
  go_wp2_with fail
  try rw [Exit.noGoto_ret]
  go_ret2
  exact ⟨_, rfl, Pairs.nil, bl1 hb1⟩
set_option maxRecDepth 100000 in
set_option maxHeartbeats 4000000 in
theorem stuck_ok (b l h r : Int) (a : Option Addr) (c : Nat) (xs : List Int) (w : World) (hv : Ints w (.slice a xs.length c) xs) (h0 : Hid (listedE b l h r xs = 0)) :
    Calls Try.prog 60 #[.agg #[.int .i64 b, .int .i64 l, .int .i64 h, .int .i64 r], .slice a xs.length c] w (RetPE (stuckL xs) 0 w) := by
  obtain ⟨hx1, hx4⟩ := listedE_len h0.out
  have HV := hid hv; clear hv
  obtain ⟨i0, hi, hz0, hz1, hz2⟩ := info_parts Try.info23
  go_enter Try.func60, Try.ntmps60
  go_wp2_with fail
  go_step3
  go_wp2_with fail
  refine (listed_ok _ _ _ _ _ xs _ (HV.out.below (Bl.alloc (Below.refl _ _) _)) h0).mono ?_
  rintro e w1 ⟨rfl, hb1⟩
  have B1 := hid (bl1 hb1)
  clear hb1
  go_wp2_with fail
  go_step3
  go_wp2_with fail
  go_loopw [7, 8, 18] (fun ou fr i wr => ∃ (k f : Nat) (L : List (Int × Int)), k ≤ xs.length ∧ i = .int .i64 k ∧ fr = .int .i64 f ∧ Hid (stA xs k = (f, L)) ∧ f ≤ k ∧ L.length ≤ k ∧ Below w1.heap.size w1 wr ∧ Hid (wr.ownsRow w1.heap.size 23 2 ou L.length (flat2 L))) (fun _ _ i _ => xs.length - (intOf i).toNat)
  case atStart => exact ⟨0, 0, [], by omega, rfl, rfl, hid rfl, by omega, by simp, Below.refl _ _, hid (World.ownsRow_nil _ _ _ _)⟩
  case round =>
    obtain ⟨k, f, L, hk, rfl, rfl, HS, hf, hL, hbw, HO⟩ := hrel
    by_cases hlt : k < xs.length
    · obtain ⟨b1, o1, e1, c1⟩ := ((HV.out.below B1.out).below hbw).cellAt hlt
      subst e1
      have i1 : (0 : Int) ≤ (k : Int) := by omega
      have i2 : (k : Int) < xs.length := by omega
      obtain ⟨t, ht⟩ : ∃ t, t = decide (k + 1 < xs.length ∧ nth xs (k + 1) = nth xs k) := ⟨_, rfl⟩
      have HTT := hid ht
      go_wp2_with fail
      go_cut [37] from 21 to 37 (fun s37 wx => s37 = .bool t ∧ Below wr.heap.size wr wx)
      case first =>
        by_cases hn : k + 1 < xs.length
        · obtain ⟨b2, o2, e2, c2⟩ := ((HV.out.below B1.out).below hbw).cellAt hn
          cases e2
          have j1 : IntKind.i64.wrap ((k : Int) + 1) = (k : Int) + 1 := IntWalk.i64_in _ (by omega)
          have j2 : (0 : Int) ≤ (k : Int) + 1 := by omega
          have j3 : (k : Int) + 1 < xs.length := by omega
          have j4 : ((k : Int) + 1).toNat = k + 1 := by omega
          have j5 : decide (k + 1 < xs.length) = true := by simpa using hn
          have j6 : decide ((k : Int) + 1 < xs.length) = true := by simpa using j3
          have HEQ : Hid ((xs[k + 1] == xs[k]) = t) := by
            rw [Hid, ht, nth_eq hn, nth_eq hlt]; simp [hn, Bool.beq_eq_decide_eq]
          generalize xs[k + 1] = x2 at *
          generalize xs[k] = x1 at *
          clear hn ht
          go_big_quiet (fail)
          go_wp2_with fail
          go_meet
          exact ⟨congrArg Value.bool HEQ.out, Bl.drewN (Below.refl _ _) _⟩
        · have HEQ : Hid (false = t) := by rw [Hid, ht]; simp [hn]
          have j1 : IntKind.i64.wrap ((k : Int) + 1) = (k : Int) + 1 := IntWalk.i64_in _ (by omega)
          have j5 : decide (k + 1 < xs.length) = false := by simpa using hn
          have j6 : decide ((k : Int) + 1 < xs.length) = false := by simp; omega
          clear hn ht
          go_big_quiet (fail)
          go_wp2_with fail
          go_meet
          exact ⟨congrArg Value.bool HEQ.out, Bl.drewN (Below.refl _ _) _⟩
      case rest =>
        obtain ⟨rfl, hbc⟩ := hcut
        clear ht c1
        have hbw2 := Bl.call hbw hbc
        have HO2 := hid (ownsRow_below2 HO.out hbc)
        clear HO hbw hbc
        cases t
        · have HS2 := hid (stA_end HS.out (of_decide_eq_false HTT.out.symm))
          by_cases hfk : f < k
          · have g1 : decide (f < k) = true := by simpa using hfk
            have g2 : decide ((f : Int) < (k : Int)) = true := by simp; omega
            have HS3 : Hid (stA xs (k + 1) = (k + 1, L ++ [((f : Int), (k : Int))])) := by rw [Hid, HS2.out, if_pos hfk]
            have hz := hbw2.size
            clear HS2 hfk
            go_wp2_with (at_builtin; refine wpList_append_own _ rfl _ _ 47 rfl w1.heap.size 23 i0 (.agg #[.int .i64 0, .int .i64 0]) 2 16 Try.underlying47 hi hz0 hz1 hz2 rfl (by decide) _ _ _ rfl (HO2.out.alloc _) ⟨wc.heap.size, 0, none⟩ 1 1 [.int .i64 f, .int .i64 k] rfl rfl (cell_two_new _ _ _ _) (by simp [Value.oneCell']) (by simp [maxLen]; omega) (by omega) (by simp; omega) ?_; intro v' w4 hown' hgrow _)
            have hb4 : Below w1.heap.size w1 w4 := own_grow (Bl.alloc hbw2 _) (Nat.le_refl _) (fun k hk => (HO2.out.lt k hk).1) hgrow
            clear hgrow
            go_roundw
            case rel => exact ⟨k + 1, k + 1, L ++ [((f : Int), (k : Int))], by omega, by go_num, by go_num, HS3, by omega, by simp; omega, hb4, by rw [flat2_snoc]; exact hid (by simpa using hown')⟩
            case measure => simp [intOf]; omega
          · have g1 : decide (f < k) = false := by simpa using hfk
            have g2 : decide ((f : Int) < (k : Int)) = false := by simp; omega
            have HS3 : Hid (stA xs (k + 1) = (k + 1, L)) := by rw [Hid, HS2.out, if_neg hfk]
            clear HS2 hfk
            go_wp2_with fail
            go_roundw
            case rel => exact ⟨k + 1, k + 1, L, by omega, by go_num, by go_num, HS3, by omega, by omega, hbw2, HO2⟩
            case measure => simp [intOf]; omega
        · have HS2 := hid (stA_go HS.out (of_decide_eq_true HTT.out.symm))
          go_wp2_with fail
          go_roundw
          case rel => exact ⟨k + 1, f, L, by omega, by go_num, rfl, HS2, by omega, by omega, hbw2, HO2⟩
          case measure => simp [intOf]; omega
    · have hkn : k = xs.length := by omega
      have HLL : Hid (stuckL xs = L) := by unfold stuckL; rw [← hkn, HS.out]; exact rfl
      have HP := hid (pairs_of_own rfl HO.out)
      go_wp2_with fail
      try rw [Exit.noGoto_ret]
      go_ret2
      exact ⟨_, rfl, by rw [HLL.out]; exact HP.out, Bl.call B1.out hbw⟩
theorem stuck_any (b l h r : Int) (v : Value) (xs : List Int) (w : World) (hv : Ints w v xs) :
    Calls Try.prog 60 #[.agg #[.int .i64 b, .int .i64 l, .int .i64 h, .int .i64 r], v] w (RetPE (stuckF b l h r xs).1 (stuckF b l h r xs).2 w) := by
  by_cases h0 : listedE b l h r xs = 0
  · obtain ⟨a, c, rfl, _⟩ := hv.shape
    have hE : stuckF b l h r xs = (stuckL xs, 0) := by unfold stuckF; rw [if_neg (by simp [h0])]
    rw [hE]
    exact stuck_ok b l h r a c xs w hv (hid h0)
  · have hE : stuckF b l h r xs = ([], listedE b l h r xs) := by unfold stuckF; rw [if_pos h0]
    rw [hE]
    exact stuck_bad b l h r v xs w hv (hid h0)

set_option maxHeartbeats 400000 in
theorem rstuck_bad (b l h r : Int) (v : Value) (xs : List Int) (w : World) (hv : Ints w v xs) (hb : Hid (listedE b l h r xs ≠ 0)) :
    Calls Try.prog 61 #[.agg #[.int .i64 b, .int .i64 l, .int .i64 h, .int .i64 r], v] w (RetPE [] (listedE b l h r xs) w) := by
  have hne : (listedE b l h r xs != 0) = true := by simpa [bne_iff_ne] using hb.out
  go_enter Try.func61, Try.ntmps61
  go_wp2_with fail
  refine (rshown_any _ _ _ _ _ xs _ (Ints.below hv (Bl.alloc (Below.refl _ _) _))).mono ?_
  rintro e w1 ⟨rfl, hb1⟩
  go_wp2_with fail
  go_ret2
  exact ⟨_, rfl, Pairs.nil, bl1 hb1⟩
set_option maxRecDepth 100000 in
set_option maxHeartbeats 4000000 in
theorem rstuck_ok (b l h r : Int) (a : Option Addr) (c : Nat) (xs : List Int) (w : World) (hv : Ints w (.slice a xs.length c) xs) (h0 : Hid (listedE b l h r xs = 0)) :
    Calls Try.prog 61 #[.agg #[.int .i64 b, .int .i64 l, .int .i64 h, .int .i64 r], .slice a xs.length c] w (RetPE (stuckL xs) 0 w) := by
  obtain ⟨hx1, hx4⟩ := listedE_len h0.out
  have HV := hid hv; clear hv
  obtain ⟨i0, hi, hz0, hz1, hz2⟩ := info_parts Try.info23
  go_enter Try.func61, Try.ntmps61
  go_wp2_with fail
  refine (rshown_ok _ _ _ _ _ xs _ (HV.out.below (Bl.alloc (Below.refl _ _) _)) h0).mono ?_
  rintro e w1 ⟨rfl, hb1⟩
  have B1 := hid (bl1 hb1)
  clear hb1
  go_wp2_with fail
  go_loopw [7, 8] (fun ou i wr => ∃ (p : Nat) (L : List (Int × Int)), p ≤ xs.length ∧ i = .int .i64 p ∧ Hid (stA xs p = (p, L)) ∧ L.length ≤ p ∧ Below w1.heap.size w1 wr ∧ Hid (wr.ownsRow w1.heap.size 23 2 ou L.length (flat2 L))) (fun _ i _ => xs.length - (intOf i).toNat)
  case atStart => exact ⟨0, [], by omega, rfl, hid rfl, by simp, Below.refl _ _, hid (World.ownsRow_nil _ _ _ _)⟩
  case round =>
    obtain ⟨p, L, hp, rfl, HSP, hL, hbp, HO⟩ := hrel
    by_cases hltp : p < xs.length
    · have i3 : (0 : Int) ≤ (p : Int) := by omega
      have i4 : (p : Int) < xs.length := by omega
      go_wp2_with fail
      go_loopw [9] (fun i wx => ∃ (k : Nat), p ≤ k ∧ k < xs.length ∧ i = .int .i64 k ∧ Hid (stA xs k = (p, L)) ∧ Hid (nth xs k = nth xs p) ∧ Below wr.heap.size wr wx) (fun i _ => xs.length - (intOf i).toNat)
      case atStart => exact ⟨p, by omega, hltp, rfl, HSP, hid rfl, Below.refl _ _⟩
      case round =>
        obtain ⟨k, hpk, hlt, rfl, HS, HE, hbx⟩ := hrel
        have hbw := Bl.call hbp hbx
        obtain ⟨b1, o1, e1, c1⟩ := ((HV.out.below B1.out).below hbw).cellAt hltp
        subst e1
        have i1 : (0 : Int) ≤ (k : Int) := by omega
        have i2 : (k : Int) < xs.length := by omega
        obtain ⟨t, ht⟩ : ∃ t, t = decide (k + 1 < xs.length ∧ nth xs (k + 1) = nth xs k) := ⟨_, rfl⟩
        have HTT := hid ht
        go_wp2_with fail
        go_cut [37] from 21 to 37 (fun s37 wy => s37 = .bool t ∧ Below wr.heap.size wr wy)
        case first =>
          by_cases hn : k + 1 < xs.length
          · obtain ⟨b2, o2, e2, c2⟩ := ((HV.out.below B1.out).below hbw).cellAt hn
            cases e2
            have j1 : IntKind.i64.wrap ((k : Int) + 1) = (k : Int) + 1 := IntWalk.i64_in _ (by omega)
            have j2 : (0 : Int) ≤ (k : Int) + 1 := by omega
            have j3 : (k : Int) + 1 < xs.length := by omega
            have j4 : ((k : Int) + 1).toNat = k + 1 := by omega
            have j5 : decide (k + 1 < xs.length) = true := by simpa using hn
            have j6 : decide ((k : Int) + 1 < xs.length) = true := by simpa using j3
            have HEQ : Hid ((xs[k + 1] == xs[p]) = t) := by
              rw [Hid, ht, HE.out, nth_eq hn, nth_eq hltp]; simp [hn, Bool.beq_eq_decide_eq]
            generalize xs[k + 1] = x2 at *
            generalize xs[p] = x1 at *
            clear hn ht
            go_big_quiet (fail)
            go_wp2_with fail
            go_meet
            exact ⟨congrArg Value.bool HEQ.out, Bl.drewN (Below.refl _ _) _⟩
          · have HEQ : Hid (false = t) := by rw [Hid, ht]; simp [hn]
            have j1 : IntKind.i64.wrap ((k : Int) + 1) = (k : Int) + 1 := IntWalk.i64_in _ (by omega)
            have j5 : decide (k + 1 < xs.length) = false := by simpa using hn
            have j6 : decide ((k : Int) + 1 < xs.length) = false := by simp; omega
            clear hn ht
            go_big_quiet (fail)
            go_wp2_with fail
            go_meet
            exact ⟨congrArg Value.bool HEQ.out, Bl.drewN (Below.refl _ _) _⟩
        case rest =>
          obtain ⟨rfl, hbc⟩ := hcut
          clear ht c1
          have hbw2 := Bl.call hbx hbc
          cases t
          · have HS2 := hid (stA_end HS.out (of_decide_eq_false HTT.out.symm))
            have HO2 := hid (ownsRow_below2 HO.out hbw2)
            have hbw3 := Bl.call hbp hbw2
            clear HO hbw hbc hbw2 hbx
            by_cases hfk : p < k
            · have g1 : decide (p < k) = true := by simpa using hfk
              have g2 : decide ((p : Int) < (k : Int)) = true := by simp; omega
              have HS3 : Hid (stA xs (k + 1) = (k + 1, L ++ [((p : Int), (k : Int))])) := by rw [Hid, HS2.out, if_pos hfk]
              have hz := hbw3.size
              clear HS2 hfk
              go_wp2_with (at_builtin; refine wpList_append_own _ rfl _ _ 47 rfl w1.heap.size 23 i0 (.agg #[.int .i64 0, .int .i64 0]) 2 16 Try.underlying47 hi hz0 hz1 hz2 rfl (by decide) _ _ _ rfl (HO2.out.alloc _) ⟨wc.heap.size, 0, none⟩ 1 1 [.int .i64 p, .int .i64 k] rfl rfl (cell_two_new _ _ _ _) (by simp [Value.oneCell']) (by simp [maxLen]; omega) (by omega) (by simp; omega) ?_; intro v' w4 hown' hgrow _)
              have hb4 : Below w1.heap.size w1 w4 := own_grow (Bl.alloc hbw3 _) (Nat.le_refl _) (fun k hk => (HO2.out.lt k hk).1) hgrow
              clear hgrow
              go_roundw
              case rel => exact ⟨k + 1, L ++ [((p : Int), (k : Int))], by omega, by go_num, HS3, by simp; omega, hb4, by rw [flat2_snoc]; exact hid (by simpa using hown')⟩
              case measure => simp [intOf]; omega
            · have g1 : decide (p < k) = false := by simpa using hfk
              have g2 : decide ((p : Int) < (k : Int)) = false := by simp; omega
              have HS3 : Hid (stA xs (k + 1) = (k + 1, L)) := by rw [Hid, HS2.out, if_neg hfk]
              clear HS2 hfk
              go_wp2_with fail
              go_roundw
              case rel => exact ⟨k + 1, L, by omega, by go_num, HS3, by omega, hbw3, HO2⟩
              case measure => simp [intOf]; omega
          · have hd := of_decide_eq_true HTT.out.symm
            have HS2 := hid (stA_go HS.out hd)
            have hd1 := hd.1
            have HE2 : Hid (nth xs (k + 1) = nth xs p) := hid (hd.2.trans HE.out)
            clear hd
            go_wp2_with fail
            go_roundw
            case rel => exact ⟨k + 1, by omega, by omega, by go_num, HS2, HE2, hbw2⟩
            case measure => simp [intOf]; omega
    · have hkn : p = xs.length := by omega
      have HLL : Hid (stuckL xs = L) := by unfold stuckL; rw [← hkn, HSP.out]; exact rfl
      have HP := hid (pairs_of_own rfl HO.out)
      go_wp2_with fail
      go_ret2
      exact ⟨_, rfl, by rw [HLL.out]; exact HP.out, Bl.call B1.out hbp⟩
theorem rstuck_any (b l h r : Int) (v : Value) (xs : List Int) (w : World) (hv : Ints w v xs) :
    Calls Try.prog 61 #[.agg #[.int .i64 b, .int .i64 l, .int .i64 h, .int .i64 r], v] w (RetPE (stuckF b l h r xs).1 (stuckF b l h r xs).2 w) := by
  by_cases h0 : listedE b l h r xs = 0
  · obtain ⟨a, c, rfl, _⟩ := hv.shape
    have hE : stuckF b l h r xs = (stuckL xs, 0) := by unfold stuckF; rw [if_neg (by simp [h0])]
    rw [hE]
    exact rstuck_ok b l h r a c xs w hv (hid h0)
  · have hE : stuckF b l h r xs = ([], listedE b l h r xs) := by unfold stuckF; rw [if_pos h0]
    rw [hE]
    exact rstuck_bad b l h r v xs w hv (hid h0)
end Go.Proofs.Ytdopgaljbpjpcaa
namespace Go.Proofs.Ytdopgaljbpjpcaa
open Go.RowKit

theorem turn_none {xs : List Int} {i : Nat} (hi : i < xs.length) (h : i = 0 ∨ nth xs i = nth xs (i - 1) ∨ ∀ j, i ≤ j → j < xs.length → nth xs j = nth xs i) : turnB xs i = false := by
  cases ht : turnB xs i
  · rfl
  · obtain ⟨h1, h2, q, h3, h4, h5, h6, h7⟩ := (turnB_iff hi).1 ht
    rcases h with h | h | h
    · omega
    · exact absurd h h2
    · exact absurd (h q (by omega) h4) h5
theorem turn_some {xs : List Int} {i q : Nat} (hi : i < xs.length) (h1 : 1 ≤ i) (h2 : nth xs i ≠ nth xs (i - 1)) (h3 : i < q) (h4 : q < xs.length) (h5 : nth xs q ≠ nth xs i) (h6 : ∀ j, i ≤ j → j < q → nth xs j = nth xs i) :
    turnB xs i = (decide (nth xs i < nth xs q) == decide (nth xs i < nth xs (i - 1))) := by
  rw [Bool.eq_iff_iff, turnB_iff hi]
  simp only [beq_iff_eq, decide_eq_decide]
  constructor
  · rintro ⟨_, _, p, p1, p2, p3, p4, p5⟩
    have : p = q := by
      rcases Nat.lt_trichotomy p q with e | e | e
      · exact absurd (h6 p (by omega) e) p3
      · exact e
      · exact absurd (p4 q (by omega) e) h5
    subst this; exact p5
  · intro h
    exact ⟨h1, h2, q, h3, h4, h5, h6, h⟩

set_option maxRecDepth 100000 in
set_option maxHeartbeats 4000000 in
theorem rturned_any (a : Option Addr) (c : Nat) (xs : List Int) (i : Nat) (w : World) (hv : Ints w (.slice a xs.length c) xs) (hi : i < xs.length) (hm : xs.length ≤ 100000) :
    Calls Try.prog 93 #[.slice a xs.length c, .int .i64 i] w fun e w' => e = .returned (.bool (turnB xs i)) ∧ Below w.heap.size w w' := by
  have HV := hid hv; clear hv
  by_cases h0 : i = 0
  · have HF : Hid (turnB xs i = false) := hid (turn_none hi (.inl h0))
    rw [HF.out]
    subst h0
    go_enter Try.func93, Try.ntmps93
    go_wp2_with fail
    go_big_quiet (fail)
    go_wp2_with fail
    go_ret
    exact ⟨rfl, Bl.drewN (Below.refl _ _) _⟩
  have g0 : ((i : Int) == 0) = false := by simpa using h0
  have i1 : (0 : Int) ≤ (i : Int) := by omega
  have i2 : (i : Int) < xs.length := by omega
  have i3 : IntKind.i64.wrap ((i : Int) - 1) = (i : Int) - 1 := IntWalk.i64_in _ (by omega)
  have i4 : (0 : Int) ≤ (i : Int) - 1 := by omega
  have i5 : (i : Int) - 1 < xs.length := by omega
  have i6 : ((i : Int) - 1).toNat = i - 1 := by omega
  obtain ⟨b1, o1, e1, c1⟩ := HV.out.cellAt hi
  subst e1
  obtain ⟨b2, o2, e2, c2⟩ := HV.out.cellAt (k := i - 1) (by omega)
  cases e2
  have hlt1 := World.block_lt_of_cell? _ _ c1
  dsimp only at hlt1
  have E1 := hid (nth_eq hi)
  have E2 := hid (nth_eq (xs := xs) (k := i - 1) (by omega))
  generalize xs[i] = x1 at *
  generalize xs[i - 1] = x0 at *
  by_cases hx : x1 = x0
  · have HF : Hid (turnB xs i = false) := hid (turn_none hi (.inr (.inl (by rw [E1.out, E2.out, hx]))))
    rw [HF.out]
    subst hx
    go_enter Try.func93, Try.ntmps93
    go_wp2_with fail
    go_big_quiet (fail)
    go_wp2_with fail
    go_ret
    exact ⟨rfl, Bl.drewN (Below.refl _ _) _⟩
  have g1 : (x1 == x0) = false := by simpa using hx
  have F2 : Hid (∀ q, i < q → q < xs.length → nth xs q ≠ x1 → (∀ j, i ≤ j → j < q → nth xs j = x1) → turnB xs i = (decide (x1 < nth xs q) == decide (x1 < x0))) := by
    intro q h3 h4 h5 h6
    have := turn_some hi (by omega) (by rw [E1.out, E2.out]; exact hx) h3 h4 (by rw [E1.out]; exact h5) (fun j a b => by rw [E1.out]; exact h6 j a b)
    rw [E1.out, E2.out] at this
    exact this
  have F3 : Hid ((∀ j, i ≤ j → j < xs.length → nth xs j = x1) → turnB xs i = false) := fun h => turn_none hi (.inr (.inr fun j h1 h2 => by rw [E1.out]; exact h j h1 h2))
  clear hx
  go_enter Try.func93, Try.ntmps93
  go_wp2_with fail
  go_big_quiet (fail)
  go_wp2_with fail
  clear c1 c2
  go_loopw [5] (fun s wr => ∃ k : Nat, i < k ∧ k ≤ xs.length ∧ s = .int .i64 k ∧ Hid (∀ j, i ≤ j → j < k → nth xs j = x1) ∧ Below w.heap.size w wr) (fun s _ => xs.length - (intOf s).toNat)
  case atStart => 
    refine ⟨i + 1, by omega, by omega, by go_num, hid (fun j h1 h2 => ?_), Bl.drewN (Below.refl _ _) _⟩
    obtain rfl : j = i := by omega
    exact E1.out
  case round =>
    obtain ⟨k, hk1, hk2, rfl, HA, hbw⟩ := hrel
    by_cases hlt : k < xs.length
    · obtain ⟨b3, o3, e3, c3⟩ := (HV.out.below hbw).cellAt hlt
      cases e3
      obtain ⟨b4, o4, e4, c4⟩ := (HV.out.below hbw).cellAt hi
      cases e4
      obtain ⟨b5, o5, e5, c5⟩ := (HV.out.below hbw).cellAt (k := i - 1) (by omega)
      cases e5
      have q1 : xs[i] = x1 := (nth_eq hi).symm.trans E1.out
      have q2 : xs[i - 1] = x0 := (nth_eq (xs := xs) (k := i - 1) (by omega)).symm.trans E2.out
      rw [q1] at c4
      rw [q2] at c5
      have E3 := hid (nth_eq hlt)
      clear q1 q2
      generalize xs[k] = x2 at *
      have k1 : (0 : Int) ≤ (k : Int) := by omega
      have k2 : (k : Int) < xs.length := by omega
      by_cases hx : x2 = x1
      · have g2 : (x2 != x1) = false := by simpa using hx
        have HA2 : Hid (∀ j, i ≤ j → j < k + 1 → nth xs j = x1) := by
          intro j h1 h2
          by_cases e : j = k
          · subst e; rw [E3.out]; exact hx
          · exact HA.out j h1 (by omega)
        clear hx
        go_wp2_with fail
        go_big_quiet (fail)
        go_wp2_with fail
        go_roundw
        case rel => exact ⟨k + 1, by omega, by omega, by go_num, HA2, Bl.drewN hbw _⟩
        case measure => simp [intOf]; omega
      · have g2 : (x2 != x1) = true := by simpa using hx
        have HF : Hid (turnB xs i = (decide (x1 < x2) == decide (x1 < x0))) := by
          have := F2.out k hk1 hlt (by rw [E3.out]; exact hx) HA.out
          rw [E3.out] at this
          exact this
        clear hx
        go_wp2_with fail
        go_big_quiet (fail)
        go_wp2_with fail
        go_big_quiet (fail)
        go_wp2_with fail
        go_ret
        exact ⟨ret_bool HF.out.symm, Bl.drewN (Bl.drewN hbw _) _⟩
    · have HF : Hid (turnB xs i = false) := hid (F3.out fun j h1 h2 => HA.out j h1 (by omega))
      go_wp2_with fail
      go_ret
      exact ⟨ret_bool HF.out.symm, hbw⟩
theorem rturned_at (a : Option Addr) (c : Nat) (xs : List Int) (i : Nat) (w : World) (hv : Ints w (.slice a xs.length c) xs) (hi : i < xs.length) (hm : xs.length ≤ 100000) (t : Bool) (ht : Hid (turnB xs i = t)) :
    Calls Try.prog 93 #[.slice a xs.length c, .int .i64 i] w fun e w' => e = .returned (.bool t) ∧ Below w.heap.size w w' := by
  rw [← ht.out]; exact rturned_any a c xs i w hv hi hm

theorem turnsTo_zero (xs : List Int) : turnsTo xs 0 = [] := by simp [turnsTo]
set_option maxRecDepth 100000 in
set_option maxHeartbeats 4000000 in
theorem rTurns_any (v : Value) (xs : List Int) (w : World) (hv : Ints w v xs) : Calls Try.prog 63 #[v] w (RetInts (turnsF xs).1 (turnsF xs).2 w) := by
  obtain ⟨a, c, rfl, hmm⟩ := hv.shape
  have HV := hid hv; clear hv
  cases hk : listOk xs
  · have HF : Hid (turnsF xs = ([], 1)) := by simp [Hid, turnsF, listE_bad hk]
    rw [HF.out]
    have HK := hid hk; clear hk
    go_enter Try.func63, Try.ntmps63
    go_wp2_with fail
    refine (rlevels_at _ xs _ _ HV.out HK).mono ?_
    rintro e w1 ⟨rfl, rfl⟩
    go_wp2_with fail
    go_ret2
    exact ⟨_, rfl, Ints.nil, Below.refl _ _⟩
  · have hl := listE_len (listE_ok hk)
    have HF : Hid (turnsF xs = (turnsL xs, 0)) := by simp [Hid, turnsF, listE_ok hk]
    rw [HF.out]
    obtain ⟨hl1, hl2⟩ := hl
    have HK := hid hk; clear hk
    obtain ⟨i0, hi, hz0, hz1, hz2⟩ := info_parts Try.info3
    go_enter Try.func63, Try.ntmps63
    go_wp2_with fail
    refine (rlevels_at _ xs _ _ HV.out HK).mono ?_
    rintro e w1 ⟨rfl, rfl⟩
    go_wp2_with fail
    go_loopw [4, 5] (fun ou i wr => ∃ (k : Nat) (L : List Int), k ≤ xs.length ∧ i = .int .i64 k ∧ Hid (turnsTo xs k = L) ∧ L.length ≤ k ∧ Below w.heap.size w wr ∧ Hid (wr.ownsRow w.heap.size 3 1 ou L.length (L.map (Value.int .i64)))) (fun _ i _ => xs.length - (intOf i).toNat)
    case atStart => exact ⟨0, [], by omega, rfl, hid (turnsTo_zero xs), by simp, Below.refl _ _, hid (World.ownsRow_nil _ _ _ _)⟩
    case round =>
      obtain ⟨k, L, hkk, rfl, HT, hL, hbw, HO⟩ := hrel
      by_cases hlt : k < xs.length
      · obtain ⟨t, ht⟩ : ∃ t, Hid (turnB xs k = t) := ⟨_, rfl⟩
        go_wp2_with fail
        refine (rturned_at _ _ xs k _ (HV.out.below hbw) hlt (by omega) t ht).mono ?_
        rintro e w2 ⟨rfl, hb⟩
        have hbw2 := Bl.call hbw hb
        have HO2 := hid (ownsRow_below2 HO.out hb)
        clear hb HO hbw
        cases t
        · have HT2 : Hid (turnsTo xs (k + 1) = L) := by rw [Hid, turnsTo_no ht.out]; exact HT.out
          go_wp2_with fail
          go_roundw
          case rel => exact ⟨k + 1, L, by omega, by go_num, HT2, by omega, hbw2, HO2⟩
          case measure => simp [intOf]; omega
        · have HT2 : Hid (turnsTo xs (k + 1) = L ++ [(k : Int)]) := by rw [Hid, turnsTo_yes ht.out, HT.out]
          have hz := hbw2.size
          go_wp2_with (at_builtin; refine wpList_append_own _ rfl _ _ 26 rfl w.heap.size 3 i0 (.int .i64 0) 1 8 Try.underlying26 hi hz0 hz1 hz2 rfl (by decide) _ _ _ rfl (HO2.out.alloc _) ⟨w2.heap.size, 0, none⟩ 1 1 [.int .i64 k] rfl rfl (cell_one_new _ _ _) (by simp [Value.oneCell']) (by simp [maxLen]; omega) (by omega) (by simp; omega) ?_; intro v' w4 hown' hgrow _)
          have hb4 : Below w.heap.size w w4 := own_grow (Bl.alloc hbw2 _) (Nat.le_refl _) (fun k hk => (HO2.out.lt k hk).1) hgrow
          clear hgrow
          go_roundw
          case rel => exact ⟨k + 1, L ++ [(k : Int)], by omega, by go_num, HT2, by simp; omega, hb4, hid (by simpa using hown')⟩
          case measure => simp [intOf]; omega
      · have hkn : k = xs.length := by omega
        have HLL : Hid (turnsL xs = L) := by unfold turnsL; rw [← hkn]; exact HT.out
        have HP := hid (ints_of_own HO.out)
        go_wp2_with fail
        go_ret2
        exact ⟨_, rfl, by rw [HLL.out]; exact HP.out, hbw⟩
end Go.Proofs.Ytdopgaljbpjpcaa
namespace Go.Proofs.Ytdopgaljbpjpcaa
open Go.RowKit
attribute [local go_sem] cell_reg
attribute [local go_sem ↓] eql23 guard23

theorem zeros_h (b l h r n s1 s2 : Int) (w : World) (a1 a2 y : Int) (hp : Hid (zerosF b l h r n s1 s2 = ((a1, a2), y))) :
    Calls Try.prog 58 #[.agg #[.int .i64 b, .int .i64 l, .int .i64 h, .int .i64 r], .int .i64 n, .agg #[.int .i64 s1, .int .i64 s2]] w fun e w' => e = .returned (.tuple #[.agg #[.int .i64 a1, .int .i64 a2], .int .i64 y]) ∧ Below w.heap.size w w' :=
  (zeros_any b l h r n s1 s2 w).mono fun e w' k => by rw [hp.out] at k; exact k
theorem rzeros_h (b l h r n s1 s2 : Int) (w : World) (a1 a2 y : Int) (hp : Hid (zerosF b l h r n s1 s2 = ((a1, a2), y))) :
    Calls Try.prog 59 #[.agg #[.int .i64 b, .int .i64 l, .int .i64 h, .int .i64 r], .int .i64 n, .agg #[.int .i64 s1, .int .i64 s2]] w fun e w' => e = .returned (.tuple #[.agg #[.int .i64 a1, .int .i64 a2], .int .i64 y]) ∧ Below w.heap.size w w' :=
  (rzeros_any b l h r n s1 s2 w).mono fun e w' k => by rw [hp.out] at k; exact k
theorem givesP_of {L : List (Int × Int)} {y : Int} {p : List (Int × Int) × Int} {w : World} (hp : p = (L, y)) {e : Ending} {w' : World} (h : RetPE p.1 p.2 w e w') : GivesP L y w e w' := by
  subst hp
  obtain ⟨v, rfl, hv, hb⟩ := h
  obtain ⟨a, c, rfl, _⟩ := hv.shape
  exact ⟨a, c, rfl, hid hv, hb⟩
theorem stuck_h (b l h r : Int) (v : Value) (xs : List Int) (w : World) (hv : Ints w v xs) (L : List (Int × Int)) (y : Int) (hp : Hid (stuckF b l h r xs = (L, y))) :
    Calls Try.prog 60 #[.agg #[.int .i64 b, .int .i64 l, .int .i64 h, .int .i64 r], v] w (GivesP L y w) := (stuck_any b l h r v xs w hv).mono fun _ _ k => givesP_of hp.out k
theorem rstuck_h (b l h r : Int) (v : Value) (xs : List Int) (w : World) (hv : Ints w v xs) (L : List (Int × Int)) (y : Int) (hp : Hid (stuckF b l h r xs = (L, y))) :
    Calls Try.prog 61 #[.agg #[.int .i64 b, .int .i64 l, .int .i64 h, .int .i64 r], v] w (GivesP L y w) := (rstuck_any b l h r v xs w hv).mono fun _ _ k => givesP_of hp.out k
theorem rswing_h (v : Value) (xs : List Int) (w : World) (hv : Ints w v xs) (a1 a2 y : Int) (hp : Hid (swingF xs = ((a1, a2), y))) :
    Calls Try.prog 62 #[v] w fun e w' => e = .returned (.tuple #[.agg #[.int .i64 a1, .int .i64 a2], .int .i64 y]) ∧ Below w.heap.size w w' :=
  (rSwing_any v xs w hv).mono fun e w' k => by rw [hp.out] at k; exact k
theorem turnsT_h (v : Value) (xs : List Int) (w : World) (hv : Ints w v xs) (L : List Int) (y : Int) (hp : Hid (turnsF xs = (L, y))) :
    Calls Try.prog 31 #[v] w (GivesE L y w) := (Turns_any v xs w hv).mono fun _ _ k => givesE_of hp.out k
theorem rturnsT_h (v : Value) (xs : List Int) (w : World) (hv : Ints w v xs) (L : List Int) (y : Int) (hp : Hid (turnsF xs = (L, y))) :
    Calls Try.prog 63 #[v] w (GivesE L y w) := (rTurns_any v xs w hv).mono fun _ _ k => givesE_of hp.out k

set_option maxRecDepth 100000 in
set_option maxHeartbeats 4000000 in
theorem walkTurns (b l h r : Int) (v : Value) (xs : List Int) (n s1 s2 : Int) (w : World) (hv : Ints w v xs) :
    Calls Try.prog 17 #[.agg #[.int .i64 b, .int .i64 l, .int .i64 h, .int .i64 r], v, .int .i64 n, .agg #[.int .i64 s1, .int .i64 s2]] w fun e w' => e = .returned (.bool true) ∧ Below w.heap.size w w' := by
  obtain ⟨t, ht⟩ : ∃ t, Hid (decide (xs.length ≤ 500) = t) := ⟨_, rfl⟩
  obtain ⟨a1, a2, y1, h1⟩ : ∃ a1 a2 y, Hid (zerosF b l h r n s1 s2 = ((a1, a2), y)) := ⟨_, _, _, rfl⟩
  obtain ⟨LS, y2, h2⟩ : ∃ L y, Hid (stuckF b l h r xs = (L, y)) := ⟨_, _, rfl⟩
  obtain ⟨c1, c2, y3, h3⟩ : ∃ a1 a2 y, Hid (swingF xs = ((a1, a2), y)) := ⟨_, _, _, rfl⟩
  obtain ⟨LT, y4, h4⟩ : ∃ L y, Hid (turnsF xs = (L, y)) := ⟨_, _, rfl⟩
  have HV := hid hv; clear hv
  go_enter Try.func17, Try.ntmps17
  go_wp2_with fail
  refine (awake_any _).mono ?_
  rintro e w1 ⟨rfl, hb1⟩
  go_wp2_with fail
  refine (few_at _ xs t _ (HV.out.below (bl2 hb1)) ht).mono ?_
  rintro e w2 ⟨rfl, rfl⟩
  have P1 := hid ((Pbx.new _ b l h r w 25 rfl).next (bl1 hb1))
  have S1 := hid ((Rbx.new (w.heap.size + 1) s1 s2 (w.alloc (.cells #[.int .i64 b, .int .i64 l, .int .i64 h, .int .i64 r] 25)) 23 (by simp)).next hb1)
  have B1 := hid (bl2 hb1)
  clear hb1
  cases t
  · go_wp2_with fail
    go_ret
    exact ⟨rfl, B1.out⟩
  obtain ⟨q0, q1, q2, q3, q4⟩ := P1.out
  obtain ⟨m0, m1, m2, m3, m4⟩ := S1.out
  go_wp2_with fail
  refine (zeros_h _ _ _ _ _ _ _ _ _ _ _ h1).mono ?_
  rintro e w2 ⟨rfl, hb⟩
  clear q0 q1 q2 q3 q4
  clear m0 m1 m2 m3 m4
  have P2 := hid (P1.out.next (Bl.alloc hb (.cells #[.int .i64 a1, .int .i64 a2] 23)))
  have S2 := hid (S1.out.next (Bl.alloc hb (.cells #[.int .i64 a1, .int .i64 a2] 23)))
  have B2 := hid (Bl.call B1.out (Bl.alloc hb (.cells #[.int .i64 a1, .int .i64 a2] 23)))
  have G2 := hid (Rbx.new _ a1 a2 w2 23 rfl)
  clear hb P1 S1 B1
  obtain ⟨q0, q1, q2, q3, q4⟩ := P2.out
  obtain ⟨m0, m1, m2, m3, m4⟩ := S2.out
  go_wp2_with fail
  refine (rzeros_h _ _ _ _ _ _ _ _ _ _ _ h1).mono ?_
  rintro e w3 ⟨rfl, hb⟩
  clear q0 q1 q2 q3 q4
  clear m0 m1 m2 m3 m4
  have P3 := hid (P2.out.next (Bl.alloc hb (.cells #[.int .i64 a1, .int .i64 a2] 23)))
  have S3 := hid (S2.out.next (Bl.alloc hb (.cells #[.int .i64 a1, .int .i64 a2] 23)))
  have B3 := hid (Bl.call B2.out (Bl.alloc hb (.cells #[.int .i64 a1, .int .i64 a2] 23)))
  have G3 := hid (G2.out.next (Bl.alloc hb (.cells #[.int .i64 a1, .int .i64 a2] 23)))
  have H3 := hid (Rbx.new _ a1 a2 w3 23 rfl)
  clear hb P2 S2 B2 G2
  obtain ⟨q0, q1, q2, q3, q4⟩ := P3.out
  go_wp2_with fail
  refine (stuck_h _ _ _ _ _ xs _ (HV.out.below B3.out) _ _ h2).mono ?_
  rintro e w4 ⟨aa, ca, rfl, va, hb⟩
  clear q0 q1 q2 q3 q4
  have P4 := hid (P3.out.next hb)
  have B4 := hid (Bl.call B3.out hb)
  have G4 := hid (G3.out.next hb)
  have H4 := hid (H3.out.next hb)
  clear hb P3 B3 G3 H3
  have V4 := va
  obtain ⟨q0, q1, q2, q3, q4⟩ := P4.out
  go_wp2_with fail
  refine (rstuck_h _ _ _ _ _ xs _ (HV.out.below B4.out) _ _ h2).mono ?_
  rintro e w5 ⟨ab, cb, rfl, vb, hb⟩
  clear q0 q1 q2 q3 q4
  have P5 := hid (P4.out.next hb)
  have B5 := hid (Bl.call B4.out hb)
  have G5 := hid (G4.out.next hb)
  have H5 := hid (H4.out.next hb)
  have V5 := hid (V4.out.below hb)
  clear hb P4 B4 G4 H4 V4
  have W5 := vb
  go_wp2_with fail
  refine (swing_h _ xs _ (HV.out.below B5.out) _ _ _ h3).mono ?_
  rintro e w6 ⟨rfl, hb⟩
  have B6 := hid (Bl.call B5.out (Bl.alloc hb (.cells #[.int .i64 c1, .int .i64 c2] 23)))
  have G6 := hid (G5.out.next (Bl.alloc hb (.cells #[.int .i64 c1, .int .i64 c2] 23)))
  have H6 := hid (H5.out.next (Bl.alloc hb (.cells #[.int .i64 c1, .int .i64 c2] 23)))
  have V6 := hid (V5.out.below (Bl.alloc hb (.cells #[.int .i64 c1, .int .i64 c2] 23)))
  have W6 := hid (W5.out.below (Bl.alloc hb (.cells #[.int .i64 c1, .int .i64 c2] 23)))
  have I6 := hid (Rbx.new _ c1 c2 w6 23 rfl)
  clear hb B5 G5 H5 V5 W5
  go_wp2_with fail
  refine (rswing_h _ xs _ (HV.out.below B6.out) _ _ _ h3).mono ?_
  rintro e w7 ⟨rfl, hb⟩
  have B7 := hid (Bl.call B6.out (Bl.alloc hb (.cells #[.int .i64 c1, .int .i64 c2] 23)))
  have G7 := hid (G6.out.next (Bl.alloc hb (.cells #[.int .i64 c1, .int .i64 c2] 23)))
  have H7 := hid (H6.out.next (Bl.alloc hb (.cells #[.int .i64 c1, .int .i64 c2] 23)))
  have V7 := hid (V6.out.below (Bl.alloc hb (.cells #[.int .i64 c1, .int .i64 c2] 23)))
  have W7 := hid (W6.out.below (Bl.alloc hb (.cells #[.int .i64 c1, .int .i64 c2] 23)))
  have I7 := hid (I6.out.next (Bl.alloc hb (.cells #[.int .i64 c1, .int .i64 c2] 23)))
  have J7 := hid (Rbx.new _ c1 c2 w7 23 rfl)
  clear hb B6 G6 H6 V6 W6 I6
  go_wp2_with fail
  refine (turnsT_h _ xs _ (HV.out.below B7.out) _ _ h4).mono ?_
  rintro e w8 ⟨ac, cc, rfl, vc, hb⟩
  have B8 := hid (Bl.call B7.out hb)
  have G8 := hid (G7.out.next hb)
  have H8 := hid (H7.out.next hb)
  have V8 := hid (V7.out.below hb)
  have W8 := hid (W7.out.below hb)
  have I8 := hid (I7.out.next hb)
  have J8 := hid (J7.out.next hb)
  clear hb B7 G7 H7 V7 W7 I7 J7
  have VT8 := vc
  go_wp2_with fail
  refine (rturnsT_h _ xs _ (HV.out.below B8.out) _ _ h4).mono ?_
  rintro e w9 ⟨ad, cd, rfl, vd, hb⟩
  have B9 := hid (Bl.call B8.out hb)
  have G9 := hid (G8.out.next hb)
  have H9 := hid (H8.out.next hb)
  have V9 := hid (V8.out.below hb)
  have W9 := hid (W8.out.below hb)
  have I9 := hid (I8.out.next hb)
  have J9 := hid (J8.out.next hb)
  have VT9 := hid (VT8.out.below hb)
  clear hb B8 G8 H8 V8 W8 I8 J8 VT8
  have WT9 := vd
  obtain ⟨g0, g1, g2, g3, g4⟩ := G9.out
  obtain ⟨k0, k1, k2, k3, k4⟩ := H9.out
  obtain ⟨i0, i1, i2, i3, i4⟩ := I9.out
  obtain ⟨j0, j1, j2, j3, j4⟩ := J9.out
  go_wp2_with fail
  refine (sameSpans_yes _ _ LS _ V9.out W9.out).mono ?_
  rintro e w10 ⟨rfl, hb⟩
  clear g0 g1 g2 g3 g4 k0 k1 k2 k3 k4 i0 i1 i2 i3 i4 j0 j1 j2 j3 j4
  have B10 := hid (Bl.call B9.out hb)
  have G10 := hid (G9.out.next hb)
  have H10 := hid (H9.out.next hb)
  have V10 := hid (V9.out.below hb)
  have W10 := hid (W9.out.below hb)
  have I10 := hid (I9.out.next hb)
  have J10 := hid (J9.out.next hb)
  have VT10 := hid (VT9.out.below hb)
  have WT10 := hid (WT9.out.below hb)
  clear hb B9 G9 H9 V9 W9 I9 J9 VT9 WT9
  obtain ⟨g0, g1, g2, g3, g4⟩ := G10.out
  obtain ⟨k0, k1, k2, k3, k4⟩ := H10.out
  obtain ⟨i0, i1, i2, i3, i4⟩ := I10.out
  obtain ⟨j0, j1, j2, j3, j4⟩ := J10.out
  go_wp2_with fail
  refine (sameInts_yes _ _ LT _ VT10.out WT10.out).mono ?_
  rintro e wz ⟨rfl, hbz⟩
  go_wp2_with fail
  go_ret
  exact ⟨rfl, Bl.call B10.out hbz⟩
end Go.Proofs.Ytdopgaljbpjpcaa
