/- pens.Starts, pens.Step and the specification's twins. -/
import Derived.Test.YtdopgaljbpjpcaaRefA
namespace Go.Proofs.Ytdopgaljbpjpcaa
open Go.RowKit

def startsF (b l h r n : Int) : (Int × Int) × Int := if askE b l h r [n] ≠ 0 then ((0, 0), askE b l h r [n]) else ((n - b, n + b), 0)
theorem askE_ok {b l h r : Int} {xs : List Int} (h0 : askE b l h r xs = 0) : penOk b l h r = true ∧ lvls xs = true := by
  unfold askE at h0
  split at h0
  · rename_i hp
    split at h0
    · rename_i hl; exact ⟨hp, hl⟩
    · omega
  · omega
theorem rlvl_one (n : Int) : lvls [n] = lvl n := by simp [lvls]

set_option maxHeartbeats 1000000 in
theorem starts_any (b l h r n : Int) (w : World) : Calls Try.prog 44 #[.agg #[.int .i64 b, .int .i64 l, .int .i64 h, .int .i64 r], .int .i64 n] w (RetSpan (startsF b l h r n) w) := by
  by_cases h0 : askE b l h r [n] = 0
  · have hE : startsF b l h r n = ((n - b, n + b), 0) := by unfold startsF; rw [if_neg (by simp [h0])]
    rw [hE]
    obtain ⟨hp, hl⟩ := askE_ok h0
    have hb := penOk_iff.1 hp
    have hn := lvl_iff.1 (by rw [← rlvl_one]; exact hl)
    obtain ⟨hn1, hn2⟩ := hn
    have hb0 := hb.1; have hb8 := hb.2.1
    have H0 := hid h0
    clear h0 hE hp hl hb
    go_enter Try.func44, Try.ntmps44
    go_wp2_with fail
    refine (asked_ok _ _ _ _ _ [n] _ (ints1_at _ _ _ (by simp)) H0).mono ?_
    rintro e w1 ⟨rfl, hb1⟩
    have P1 := hid ((Pbx.new _ b l h r w 25 rfl).next (bl1 (bl1 hb1)))
    have R1 := hid ((Rbx.new (w.heap.size + 1) 0 0 (w.alloc (.cells #[.int .i64 b, .int .i64 l, .int .i64 h, .int .i64 r] 25)) 23 (by simp)).next (bl1 hb1))
    have B1 := hid (bl3 hb1)
    clear hb1
    obtain ⟨q0, q1, q2, q3, q4⟩ := P1.out
    obtain ⟨g0, g1, g2, g3, g4⟩ := R1.out
    obtain ⟨k0, k1⟩ := read_set R1.out (.int .i64 (n - b)) (.int .i64 (n + b))
    have n1 : ¬ w.heap.size + 1 = w.heap.size := by omega
    go_wp2_with fail
    refine bodyPost_ret (v := .tuple #[.agg #[.int .i64 (n - b), .int .i64 (n + b)], .int .i64 0]) (by simp [results, Try.results44, go_sem, k0, k1]) rfl ⟨rfl, ?_⟩
    exact Bl.set2 B1.out (by omega) _ _
  · have hE : startsF b l h r n = ((0, 0), askE b l h r [n]) := by unfold startsF; rw [if_pos h0]
    rw [hE]
    have hne : (askE b l h r [n] != 0) = true := by simpa [bne_iff_ne] using h0
    clear h0 hE
    go_enter Try.func44, Try.ntmps44
    go_wp2_with fail
    refine (asked_any _ _ _ _ _ [n] _ (ints1_at _ _ _ (by simp))).mono ?_
    rintro e w1 ⟨rfl, hb1⟩
    have R1 := hid ((Rbx.new (w.heap.size + 1) 0 0 (w.alloc (.cells #[.int .i64 b, .int .i64 l, .int .i64 h, .int .i64 r] 25)) 23 (by simp)).next (bl1 hb1))
    have B1 := hid (bl3 hb1)
    clear hb1
    obtain ⟨g0, g1, g2, g3, g4⟩ := R1.out
    obtain ⟨k0, k1⟩ := read_set R1.out (.int .i64 0) (.int .i64 0)
    go_wp2_with fail
    refine bodyPost_ret (v := .tuple #[.agg #[.int .i64 0, .int .i64 0], .int .i64 (askE b l h r [n])]) (by simp [results, Try.results44, go_sem, k0, k1]) rfl ⟨rfl, ?_⟩
    exact Bl.set2 B1.out (by omega) _ _

theorem askE_one (b l h r n : Int) : askE b l h r [n] = if penOk b l h r = true then (if lvl n = true then 0 else 1) else 30 := by unfold askE; rw [rlvl_one]
theorem rlevel_at (n : Int) (t : Bool) (w : World) (h : Hid (lvl n = t)) : Calls Try.prog 86 #[.int .i64 n] w fun e w' => e = .returned (.bool t) ∧ w = w' :=
  (rlevel_any n w).mono fun _ _ ⟨h1, h2⟩ => ⟨by rw [h1, h.out], h2⟩
set_option maxHeartbeats 1000000 in
theorem rstarts_any (b l h r n : Int) (w : World) : Calls Try.prog 45 #[.agg #[.int .i64 b, .int .i64 l, .int .i64 h, .int .i64 r], .int .i64 n] w (RetSpan (startsF b l h r n) w) := by
  obtain ⟨t, ht⟩ : ∃ t, Hid (lvl n = t) := ⟨_, rfl⟩
  cases hp : penOk b l h r
  · have hE : startsF b l h r n = ((0, 0), 30) := by unfold startsF; rw [askE_one, hp]; simp
    rw [hE]
    have HP := hid hp
    clear hp hE
    go_enter Try.func45, Try.ntmps45
    go_wp2_with fail
    refine (rcheck_bad _ _ _ _ _ HP).mono ?_
    rintro e w1 ⟨rfl, hb1⟩
    have R1 := hid ((Rbx.new (w.heap.size + 1) 0 0 (w.alloc (.cells #[.int .i64 b, .int .i64 l, .int .i64 h, .int .i64 r] 25)) 23 (by simp)).next hb1)
    have B1 := hid (bl2 hb1)
    clear hb1
    obtain ⟨g0, g1, g2, g3, g4⟩ := R1.out
    obtain ⟨k0, k1⟩ := read_set R1.out (.int .i64 0) (.int .i64 0)
    go_wp2_with fail
    refine bodyPost_ret (v := .tuple #[.agg #[.int .i64 0, .int .i64 0], .int .i64 30]) (by simp [results, Try.results45, go_sem, k0, k1]) rfl ⟨rfl, ?_⟩
    exact Bl.set2 B1.out (by omega) _ _
  · have HP := hid hp
    have hb := penOk_iff.1 hp
    have hb0 := hb.1; have hb8 := hb.2.1
    cases t
    · have hE : startsF b l h r n = ((0, 0), 1) := by unfold startsF; rw [askE_one, hp, ht.out]; simp
      rw [hE]
      clear hp hE hb
      go_enter Try.func45, Try.ntmps45
      go_wp2_with fail
      refine (rcheck_ok _ _ _ _ _ HP).mono ?_
      rintro e w1 ⟨rfl, hb1⟩
      have R1 := hid ((Rbx.new (w.heap.size + 1) 0 0 (w.alloc (.cells #[.int .i64 b, .int .i64 l, .int .i64 h, .int .i64 r] 25)) 23 (by simp)).next hb1)
      have B1 := hid (bl2 hb1)
      clear hb1
      go_wp2_with fail
      refine (rlevel_at _ _ _ ht).mono ?_
      rintro e w1 ⟨rfl, rfl⟩
      obtain ⟨g0, g1, g2, g3, g4⟩ := R1.out
      obtain ⟨k0, k1⟩ := read_set R1.out (.int .i64 0) (.int .i64 0)
      go_wp2_with fail
      refine bodyPost_ret (v := .tuple #[.agg #[.int .i64 0, .int .i64 0], .int .i64 1]) (by simp [results, Try.results45, go_sem, k0, k1]) rfl ⟨rfl, ?_⟩
      exact Bl.set2 B1.out (by omega) _ _
    · have hE : startsF b l h r n = ((n - b, n + b), 0) := by unfold startsF; rw [askE_one, hp, ht.out]; simp
      rw [hE]
      obtain ⟨hn1, hn2⟩ := lvl_iff.1 ht.out
      clear hp hE hb
      go_enter Try.func45, Try.ntmps45
      go_wp2_with fail
      refine (rcheck_ok _ _ _ _ _ HP).mono ?_
      rintro e w1 ⟨rfl, hb1⟩
      have P1 := hid ((Pbx.new _ b l h r w 25 rfl).next (bl1 hb1))
      have R1 := hid ((Rbx.new (w.heap.size + 1) 0 0 (w.alloc (.cells #[.int .i64 b, .int .i64 l, .int .i64 h, .int .i64 r] 25)) 23 (by simp)).next hb1)
      have B1 := hid (bl2 hb1)
      clear hb1
      go_wp2_with fail
      refine (rlevel_at _ _ _ ht).mono ?_
      rintro e w1 ⟨rfl, rfl⟩
      obtain ⟨q0, q1, q2, q3, q4⟩ := P1.out
      obtain ⟨g0, g1, g2, g3, g4⟩ := R1.out
      obtain ⟨k0, k1⟩ := read_set R1.out (.int .i64 (n - b)) (.int .i64 (n + b))
      go_wp2_with fail
      refine bodyPost_ret (v := .tuple #[.agg #[.int .i64 (n - b), .int .i64 (n + b)], .int .i64 0]) (by simp [results, Try.results45, go_sem, k0, k1]) rfl ⟨rfl, ?_⟩
      exact Bl.set2 B1.out (by omega) _ _

/-- What follows a moment. -/
def stepF (b l h r s m n : Int) : (Int × Int) × Int :=
  if askE b l h r [s, m, n] ≠ 0 then ((0, 0), askE b l h r [s, m, n]) else if rightB b s m = true ∧ apartN n m ≤ r then ((lazyN b s n, n), 0) else ((0, 0), 31)

theorem lvls_three {s m n : Int} (h : lvls [s, m, n] = true) : (-50000 ≤ s ∧ s ≤ 50000) ∧ (-50000 ≤ m ∧ m ≤ 50000) ∧ (-50000 ≤ n ∧ n ≤ 50000) := by
  have := lvls_iff.1 h
  exact ⟨this s (by simp), this m (by simp), this n (by simp)⟩
/-- A moment and an error code. -/
theorem step_out (b l h r s m n : Int) (w : World) (h0 : Hid (askE b l h r [s, m, n] = 0)) (x1 x2 : Int) (t : Bool) (er : Int)
    (hcall : Hid (∀ W, Calls Try.prog 87 #[.agg #[.int .i64 b, .int .i64 l, .int .i64 h, .int .i64 r], .agg #[.int .i64 s, .int .i64 m], .int .i64 n] W fun e w' => e = .returned (.tuple #[.agg #[.int .i64 x1, .int .i64 x2], .bool t]) ∧ Below W.heap.size W w'))
    (her : Hid ((t = true → er = 0) ∧ (t = false → er = 31 ∧ x1 = 0 ∧ x2 = 0))) :
    Calls Try.prog 46 #[.agg #[.int .i64 b, .int .i64 l, .int .i64 h, .int .i64 r], .agg #[.int .i64 s, .int .i64 m], .int .i64 n] w (RetSpan ((x1, x2), er) w) := by
  go_enter Try.func46, Try.ntmps46
  go_wp2_with fail
  refine (asked_ok _ _ _ _ _ [s, m, n] _ (ints3_at _ _ _ _ _ (by simp)) h0).mono ?_
  rintro e w1 ⟨rfl, hb1⟩
  have P1 := hid ((Pbx.new _ b l h r w 25 rfl).next (bl1 (bl1 (bl1 hb1))))
  have S1 := hid ((Rbx.new (w.heap.size + 1) s m (w.alloc (.cells #[.int .i64 b, .int .i64 l, .int .i64 h, .int .i64 r] 25)) 59 (by simp)).next (bl1 (bl1 hb1)))
  have R1 := hid ((Rbx.new (w.heap.size + 1 + 1) 0 0 ((w.alloc (.cells #[.int .i64 b, .int .i64 l, .int .i64 h, .int .i64 r] 25)).alloc (.cells #[.int .i64 s, .int .i64 m] 59)) 59 (by simp)).next (bl1 hb1))
  have B1 := hid (bl1 (bl3 hb1))
  clear hb1
  obtain ⟨q0, q1, q2, q3, q4⟩ := P1.out
  obtain ⟨g0, g1, g2, g3, g4⟩ := S1.out
  go_wp2_with fail
  refine (hcall.out _).mono ?_
  rintro e w2 ⟨rfl, hb2⟩
  clear q0 q1 q2 q3 q4 g0 g1 g2 g3 g4
  have R2 := hid (R1.out.next (Bl.alloc hb2 (.cells #[.int .i64 x1, .int .i64 x2] 59)))
  have N2 := hid (Rbx.new _ x1 x2 w2 59 rfl)
  have B2 := hid (Bl.call B1.out (Bl.alloc hb2 (.cells #[.int .i64 x1, .int .i64 x2] 59)))
  have hz := R1.out.2.2.2.2
  have hz2 := hb2.size
  have n1 : ¬ w2.heap.size = w.heap.size + 1 + 1 := by omega
  clear hb2 hz hz2
  cases t
  · obtain ⟨rfl, rfl, rfl⟩ := her.out.2 rfl
    obtain ⟨g0, g1, g2, g3, g4⟩ := R2.out
    obtain ⟨k0, k1⟩ := read_set R2.out (.int .i64 0) (.int .i64 0)
    go_wp2_with fail
    refine bodyPost_ret (v := .tuple #[.agg #[.int .i64 0, .int .i64 0], .int .i64 31]) (by simp [results, Try.results46, go_sem, k0, k1]) rfl ⟨rfl, ?_⟩
    exact Bl.set2 B2.out (by omega) _ _
  · obtain rfl := her.out.1 rfl
    obtain ⟨g0, g1, g2, g3, g4⟩ := R2.out
    obtain ⟨m0, m1, m2, m3, m4⟩ := N2.out
    obtain ⟨k0, k1⟩ := read_set R2.out (.int .i64 x1) (.int .i64 x2)
    go_wp2_with fail
    refine bodyPost_ret (v := .tuple #[.agg #[.int .i64 x1, .int .i64 x2], .int .i64 0]) (by simp [results, Try.results46, go_sem, k0, k1]) rfl ⟨rfl, ?_⟩
    exact Bl.set2 B2.out (by omega) _ _
set_option maxHeartbeats 1000000 in
theorem step_bad (b l h r s m n : Int) (w : World) (h0 : Hid ((askE b l h r [s, m, n] != 0) = true)) :
    Calls Try.prog 46 #[.agg #[.int .i64 b, .int .i64 l, .int .i64 h, .int .i64 r], .agg #[.int .i64 s, .int .i64 m], .int .i64 n] w (RetSpan ((0, 0), askE b l h r [s, m, n]) w) := by
  have hne := h0.out
  go_enter Try.func46, Try.ntmps46
  go_wp2_with fail
  refine (asked_any _ _ _ _ _ [s, m, n] _ (ints3_at _ _ _ _ _ (by simp))).mono ?_
  rintro e w1 ⟨rfl, hb1⟩
  have R1 := hid ((Rbx.new (w.heap.size + 1 + 1) 0 0 ((w.alloc (.cells #[.int .i64 b, .int .i64 l, .int .i64 h, .int .i64 r] 25)).alloc (.cells #[.int .i64 s, .int .i64 m] 59)) 59 (by simp)).next (bl1 hb1))
  have B1 := hid (bl1 (bl3 hb1))
  clear hb1
  obtain ⟨g0, g1, g2, g3, g4⟩ := R1.out
  obtain ⟨k0, k1⟩ := read_set R1.out (.int .i64 0) (.int .i64 0)
  go_wp2_with fail
  refine bodyPost_ret (v := .tuple #[.agg #[.int .i64 0, .int .i64 0], .int .i64 (askE b l h r [s, m, n])]) (by simp [results, Try.results46, go_sem, k0, k1]) rfl ⟨rfl, ?_⟩
  exact Bl.set2 B1.out (by omega) _ _
theorem Step_any (b l h r s m n : Int) (w : World) :
    Calls Try.prog 46 #[.agg #[.int .i64 b, .int .i64 l, .int .i64 h, .int .i64 r], .agg #[.int .i64 s, .int .i64 m], .int .i64 n] w (RetSpan (stepF b l h r s m n) w) := by
  unfold stepF
  by_cases h0 : askE b l h r [s, m, n] = 0
  · rw [if_neg (by simp [h0])]
    obtain ⟨hp, hl⟩ := askE_ok h0
    obtain ⟨l1, l2, l3⟩ := lvls_three hl
    cases hr : rightB b s m
    · rw [if_neg (by simp)]
      exact step_out b l h r s m n w (hid h0) 0 0 false 31 (hid fun W => step_no1 b l h r s m n W (by omega) (by omega) (hid hr)) (hid (by simp))
    · by_cases ha : apartN n m ≤ r
      · rw [if_pos ⟨rfl, ha⟩]
        exact step_out b l h r s m n w (hid h0) _ _ true 0 (hid fun W => step_yes b l h r s m n W (hid hp) (by omega) (by omega) (by omega) (hid hr) ha) (hid (by simp))
      · rw [if_neg (fun hq => ha hq.2)]
        exact step_out b l h r s m n w (hid h0) 0 0 false 31 (hid fun W => step_no2 b l h r s m n W (by omega) (by omega) (by omega) (hid hr) (by omega)) (hid (by simp))
  · rw [if_pos h0]
    exact step_bad b l h r s m n w (hid (by simpa [bne_iff_ne] using h0))
end Go.Proofs.Ytdopgaljbpjpcaa
