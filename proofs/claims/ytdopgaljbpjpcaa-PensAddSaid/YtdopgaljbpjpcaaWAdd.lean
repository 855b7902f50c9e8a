/- The walk of the law PensAdd. -/
import Derived.Test.YtdopgaljbpjpcaaLawTools
namespace Go.Proofs.Ytdopgaljbpjpcaa
open Go.RowKit
attribute [local go_sem ↓] neq25 guard25

theorem addF_ok {p q s : Pn} (h : addF p q = (s, 0)) : p.ok = true ∧ q.ok = true ∧ p.r ≤ q.r ∧ s = p.sum q ∧ s.ok = true := by
  unfold addF at h
  cases hp : p.ok <;> cases hq : q.ok <;> simp [hp, hq] at h
  split at h
  · simp at h
  · split at h
    · simp at h
      obtain ⟨rfl, _⟩ := h
      exact ⟨rfl, rfl, by omega, rfl, by assumption⟩
    · simp at h
theorem add_assoc4 {p q r s1 s2 s3 s4 : Pn} (h1 : addF p q = (s1, 0)) (h2 : addF q r = (s2, 0)) (h3 : addF s1 r = (s3, 0)) (h4 : addF p s2 = (s4, 0)) : s3 = s4 := by
  obtain ⟨_, _, _, rfl, _⟩ := addF_ok h1
  obtain ⟨_, _, _, rfl, _⟩ := addF_ok h2
  obtain ⟨_, _, _, rfl, _⟩ := addF_ok h3
  obtain ⟨_, _, _, rfl, _⟩ := addF_ok h4
  simp only [Pn.sum, Int.add_assoc]
theorem add_follow {p q s : Pn} (ha : addF p q = (s, 0)) {f g : Int} {xs L M : List Int} (h1 : followF p.b p.l p.h p.r f xs = (L, 0)) (h2 : followF q.b q.l q.h q.r g L = (M, 0)) : followF s.b s.l s.h s.r g xs = (M, 0) := by
  rcases followF_cases h1 with ⟨hy, _, _⟩ | ⟨_, rfl, ok1⟩
  · exact absurd rfl hy
  rcases followF_cases h2 with ⟨hy, _, _⟩ | ⟨_, rfl, ok2⟩
  · exact absurd rfl hy
  obtain ⟨hp, hq, hr, rfl, hs⟩ := addF_ok ha
  obtain ⟨a1, a2, a3, a4, a5⟩ := followOk_iff.1 ok1
  obtain ⟨b1, b2, b3, b4, b5⟩ := followOk_iff.1 ok2
  have hx := (listOk_iff.1 a3).1.1
  have hb1 := (penOk_iff.1 a1).1
  have hb2 := (penOk_iff.1 b1).1
  have hh : (shownL p.b f xs).headD 0 = f := by
    cases xs with
    | nil => simp at hx
    | cons x xs => rfl
  rw [shown_add hb1 hb2 b4]
  refine followF_ok (followOk_iff.2 ⟨hs, b2, a3, ?_, a5⟩)
  rw [hh] at b4
  simp [rightB, Pn.sum] at a4 b4 ⊢
  omega

set_option maxRecDepth 100000 in
set_option maxHeartbeats 8000000 in
theorem walkAdd (b l h r b' l' h' r' b'' l'' h'' r'' f g : Int) (v : Value) (xs : List Int) (w : World) (hv : Ints w v xs) :
    Calls Try.prog 6 #[.agg #[.int .i64 b, .int .i64 l, .int .i64 h, .int .i64 r], .agg #[.int .i64 b', .int .i64 l', .int .i64 h', .int .i64 r'], .agg #[.int .i64 b'', .int .i64 l'', .int .i64 h'', .int .i64 r''], .int .i64 f, .int .i64 g, v] w fun e w' => e = .returned (.bool true) ∧ Below w.heap.size w w' := by
  obtain ⟨t, ht⟩ : ∃ t, Hid (decide (xs.length ≤ 500) = t) := ⟨_, rfl⟩
  obtain ⟨m1, m2, m3, m4, y1, HA1⟩ : ∃ z1 z2 z3 z4 y, Hid (addF ⟨b, l, h, r⟩ ⟨b', l', h', r'⟩ = (⟨z1, z2, z3, z4⟩, y)) := ⟨_, _, _, _, _, rfl⟩
  obtain ⟨n1, n2, n3, n4, y2, HA2⟩ : ∃ z1 z2 z3 z4 y, Hid (addF ⟨b', l', h', r'⟩ ⟨b'', l'', h'', r''⟩ = (⟨z1, z2, z3, z4⟩, y)) := ⟨_, _, _, _, _, rfl⟩
  obtain ⟨o1, o2, o3, o4, y3, HA3⟩ : ∃ z1 z2 z3 z4 y, Hid (addF ⟨m1, m2, m3, m4⟩ ⟨b'', l'', h'', r''⟩ = (⟨z1, z2, z3, z4⟩, y)) := ⟨_, _, _, _, _, rfl⟩
  obtain ⟨p1, p2, p3, p4, y4, HA4⟩ : ∃ z1 z2 z3 z4 y, Hid (addF ⟨b, l, h, r⟩ ⟨n1, n2, n3, n4⟩ = (⟨z1, z2, z3, z4⟩, y)) := ⟨_, _, _, _, _, rfl⟩
  obtain ⟨L, y5, hp1⟩ : ∃ L y, Hid (followF b l h r f xs = (L, y)) := ⟨_, _, rfl⟩
  obtain ⟨M, y6, hp2⟩ : ∃ M y, Hid (followF b' l' h' r' g L = (M, y)) := ⟨_, _, rfl⟩
  have HV := hid hv; clear hv
  go_enter Try.func6, Try.ntmps6
  go_wp2_with fail
  refine (awake_any _).mono ?_
  rintro e w1 ⟨rfl, hb1⟩
  have P1 := hid ((Pbx.new _ b l h r w 25 rfl).next (bl1 (bl1 hb1)))
  have Q1 := hid ((Pbx.new (w.heap.size + 1) b' l' h' r' (w.alloc (.cells #[.int .i64 b, .int .i64 l, .int .i64 h, .int .i64 r] 25)) 25 (by simp)).next (bl1 hb1))
  have R1 := hid ((Pbx.new (w.heap.size + 1 + 1) b'' l'' h'' r'' ((w.alloc (.cells #[.int .i64 b, .int .i64 l, .int .i64 h, .int .i64 r] 25)).alloc (.cells #[.int .i64 b', .int .i64 l', .int .i64 h', .int .i64 r'] 25)) 25 (by simp)).next hb1)
  have B1 := hid (bl3 hb1)
  clear hb1
  go_wp2_with fail
  refine (few_at v xs t _ (HV.out.below B1.out) ht).mono ?_
  rintro e w1 ⟨rfl, rfl⟩
  cases t
  · go_wp2_with fail
    go_ret
    exact ⟨rfl, B1.out⟩
  obtain ⟨q0, q1, q2, q3, q4⟩ := P1.out
  obtain ⟨r0, r1, r2, r3, r4⟩ := Q1.out
  go_wp2_with fail
  refine (add_g _ _ _ _ _ _ _ _ _ _ _ _ _ _ HA1).mono ?_
  rintro e w2 ⟨rfl, hb⟩
  clear q0 q1 q2 q3 q4 r0 r1 r2 r3 r4
  have P2 := hid (P1.out.next (Bl.alloc hb (.cells #[.int .i64 m1, .int .i64 m2, .int .i64 m3, .int .i64 m4] 25)))
  have Q2 := hid (Q1.out.next (Bl.alloc hb (.cells #[.int .i64 m1, .int .i64 m2, .int .i64 m3, .int .i64 m4] 25)))
  have R2 := hid (R1.out.next (Bl.alloc hb (.cells #[.int .i64 m1, .int .i64 m2, .int .i64 m3, .int .i64 m4] 25)))
  have S2 := hid (Pbx.new _ m1 m2 m3 m4 w2 25 rfl)
  have B2 := hid (Bl.call B1.out (Bl.alloc hb (.cells #[.int .i64 m1, .int .i64 m2, .int .i64 m3, .int .i64 m4] 25)))
  clear hb P1 Q1 R1 B1
  obtain ⟨q0, q1, q2, q3, q4⟩ := Q2.out
  obtain ⟨r0, r1, r2, r3, r4⟩ := R2.out
  go_wp2_with fail
  refine (add_g _ _ _ _ _ _ _ _ _ _ _ _ _ _ HA2).mono ?_
  rintro e w3 ⟨rfl, hb⟩
  clear q0 q1 q2 q3 q4 r0 r1 r2 r3 r4
  have hb := Bl.alloc hb (.cells #[.int .i64 n1, .int .i64 n2, .int .i64 n3, .int .i64 n4] 25)
  have P3 := hid (P2.out.next hb)
  have Q3 := hid (Q2.out.next hb)
  have R3 := hid (R2.out.next hb)
  have S3 := hid (S2.out.next hb)
  have T3 := hid (Pbx.new _ n1 n2 n3 n4 w3 25 rfl)
  have B3 := hid (Bl.call B2.out hb)
  clear hb P2 Q2 R2 S2 B2
  obtain ⟨q0, q1, q2, q3, q4⟩ := S3.out
  obtain ⟨r0, r1, r2, r3, r4⟩ := R3.out
  go_wp2_with fail
  refine (add_g _ _ _ _ _ _ _ _ _ _ _ _ _ _ HA3).mono ?_
  rintro e w4 ⟨rfl, hb⟩
  clear q0 q1 q2 q3 q4 r0 r1 r2 r3 r4
  have hb := Bl.alloc hb (.cells #[.int .i64 o1, .int .i64 o2, .int .i64 o3, .int .i64 o4] 25)
  have P4 := hid (P3.out.next hb)
  have Q4 := hid (Q3.out.next hb)
  have S4 := hid (S3.out.next hb)
  have T4 := hid (T3.out.next hb)
  have U4 := hid (Pbx.new _ o1 o2 o3 o4 w4 25 rfl)
  have B4 := hid (Bl.call B3.out hb)
  clear hb P3 Q3 R3 S3 T3 B3
  obtain ⟨q0, q1, q2, q3, q4⟩ := P4.out
  obtain ⟨r0, r1, r2, r3, r4⟩ := T4.out
  go_wp2_with fail
  refine (add_g _ _ _ _ _ _ _ _ _ _ _ _ _ _ HA4).mono ?_
  rintro e w5 ⟨rfl, hb⟩
  clear q0 q1 q2 q3 q4 r0 r1 r2 r3 r4
  have hb := Bl.alloc hb (.cells #[.int .i64 p1, .int .i64 p2, .int .i64 p3, .int .i64 p4] 25)
  have P5 := hid (P4.out.next hb)
  have Q5 := hid (Q4.out.next hb)
  have S5 := hid (S4.out.next hb)
  have U5 := hid (U4.out.next hb)
  have W5 := hid (Pbx.new _ p1 p2 p3 p4 w5 25 rfl)
  have B5 := hid (Bl.call B4.out hb)
  clear hb P4 Q4 S4 T4 U4 B4
  by_cases hy1 : y1 = 0
  case neg =>
    have g1 : (y1 == 0) = false := by simpa using hy1
    have g2 := neq0 hy1
    clear hy1
    obtain ⟨q0, q1, q2, q3, q4⟩ := P5.out
    go_wp2_with fail
    refine (follow_g _ _ _ _ _ _ xs _ (HV.out.below B5.out) _ _ hp1).mono ?_
    rintro e w6 ⟨a6, c6, rfl, v6, hb⟩
    have B6 := hid (Bl.call B5.out hb)
    clear hb
    go_wp2_with fail
    go_ret
    exact ⟨rfl, B6.out⟩
  subst hy1
  obtain ⟨u0, u1, u2, u3, u4⟩ := U5.out
  obtain ⟨k0, k1, k2, k3, k4⟩ := W5.out
  by_cases hall : y2 = 0 ∧ y3 = 0 ∧ y4 = 0
  · obtain ⟨rfl, rfl, rfl⟩ := hall
    have he := add_assoc4 HA1.out HA2.out HA3.out HA4.out
    simp only [Pn.mk.injEq] at he
    obtain ⟨rfl, rfl, rfl, rfl⟩ := he
    obtain ⟨q0, q1, q2, q3, q4⟩ := P5.out
    go_wp2_with fail
    refine (follow_g _ _ _ _ _ _ xs _ (HV.out.below B5.out) _ _ hp1).mono ?_
    rintro e w6 ⟨a6, c6, rfl, v6, hb⟩
    clear q0 q1 q2 q3 q4
    have Q6 := hid (Q5.out.next hb)
    have S6 := hid (S5.out.next hb)
    have B6 := hid (Bl.call B5.out hb)
    clear hb P5 Q5 S5 B5
    by_cases hy5 : y5 = 0
    case neg =>
      have hy5' := neq0 hy5
      clear hy5
      go_wp2_with fail
      go_ret
      exact ⟨rfl, B6.out⟩
    subst hy5
    obtain ⟨q0, q1, q2, q3, q4⟩ := Q6.out
    go_wp2_with fail
    refine (follow_g _ _ _ _ _ _ L _ v6.out _ _ hp2).mono ?_
    rintro e w7 ⟨a7, c7, rfl, v7, hb⟩
    clear q0 q1 q2 q3 q4
    have S7 := hid (S6.out.next hb)
    have B7 := hid (Bl.call B6.out hb)
    clear hb Q6 S6 B6
    by_cases hy6 : y6 = 0
    case neg =>
      have hy6' := neq0 hy6
      clear hy6
      go_wp2_with fail
      go_ret
      exact ⟨rfl, B7.out⟩
    subst hy6
    have hp3 := hid (add_follow HA1.out hp1.out hp2.out)
    obtain ⟨q0, q1, q2, q3, q4⟩ := S7.out
    go_wp2_with fail
    refine (follow_g _ _ _ _ _ _ xs _ (HV.out.below B7.out) M 0 hp3).mono ?_
    rintro e w8 ⟨a8, c8, rfl, v8, hb⟩
    clear q0 q1 q2 q3 q4
    have v7' := hid (v7.out.below hb)
    have B8 := hid (Bl.call B7.out hb)
    clear hb
    go_wp2_with fail
    refine (sameInts_yes _ _ _ _ v7'.out v8.out).mono ?_
    rintro e w9 ⟨rfl, hb⟩
    have B9 := hid (Bl.call B8.out hb)
    clear hb
    go_wp2_with fail
    go_ret
    exact ⟨rfl, B9.out⟩
  · obtain ⟨t2, g2⟩ : ∃ t2, (y2 == 0) = t2 := ⟨_, rfl⟩
    obtain ⟨t3, g3⟩ : ∃ t3, (y3 == 0) = t3 := ⟨_, rfl⟩
    obtain ⟨t4, g4⟩ : ∃ t4, (y4 == 0) = t4 := ⟨_, rfl⟩
    cases t2 <;> cases t3 <;> cases t4
    case true.true.true =>
      exact absurd ⟨by simpa using g2, by simpa using g3, by simpa using g4⟩ hall
    all_goals
      clear hall
      obtain ⟨q0, q1, q2, q3, q4⟩ := P5.out
      go_wp2_with fail
      refine (follow_g _ _ _ _ _ _ xs _ (HV.out.below B5.out) _ _ hp1).mono ?_
      rintro e w6 ⟨a6, c6, rfl, v6, hb⟩
      clear q0 q1 q2 q3 q4
      have Q6 := hid (Q5.out.next hb)
      have S6 := hid (S5.out.next hb)
      have B6 := hid (Bl.call B5.out hb)
      clear hb P5 Q5 S5 B5
      by_cases hy5 : y5 = 0
      case neg =>
        have hy5' := neq0 hy5
        clear hy5
        go_wp2_with fail
        go_ret
        exact ⟨rfl, B6.out⟩
      subst hy5
      obtain ⟨q0, q1, q2, q3, q4⟩ := Q6.out
      go_wp2_with fail
      refine (follow_g _ _ _ _ _ _ L _ v6.out _ _ hp2).mono ?_
      rintro e w7 ⟨a7, c7, rfl, v7, hb⟩
      clear q0 q1 q2 q3 q4
      have S7 := hid (S6.out.next hb)
      have B7 := hid (Bl.call B6.out hb)
      clear hb Q6 S6 B6
      by_cases hy6 : y6 = 0
      case neg =>
        have hy6' := neq0 hy6
        clear hy6
        go_wp2_with fail
        go_ret
        exact ⟨rfl, B7.out⟩
      subst hy6
      have hp3 := hid (add_follow HA1.out hp1.out hp2.out)
      obtain ⟨q0, q1, q2, q3, q4⟩ := S7.out
      go_wp2_with fail
      refine (follow_g _ _ _ _ _ _ xs _ (HV.out.below B7.out) M 0 hp3).mono ?_
      rintro e w8 ⟨a8, c8, rfl, v8, hb⟩
      clear q0 q1 q2 q3 q4
      have v7' := hid (v7.out.below hb)
      have B8 := hid (Bl.call B7.out hb)
      clear hb
      go_wp2_with fail
      refine (sameInts_yes _ _ _ _ v7'.out v8.out).mono ?_
      rintro e w9 ⟨rfl, hb⟩
      have B9 := hid (Bl.call B8.out hb)
      clear hb
      go_wp2_with fail
      go_ret
      exact ⟨rfl, B9.out⟩
end Go.Proofs.Ytdopgaljbpjpcaa
