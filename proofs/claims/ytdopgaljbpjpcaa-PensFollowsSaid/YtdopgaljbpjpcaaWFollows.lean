/- The walk of the law PensFollows. -/
import Derived.Test.YtdopgaljbpjpcaaRefF
import Derived.Test.YtdopgaljbpjpcaaLawTools
namespace Go.Proofs.Ytdopgaljbpjpcaa
open Go.RowKit
attribute [local go_sem ↓] eql23 guard23 eql59 guard59

theorem starts_g (b l h r n : Int) (w : World) (a1 a2 y : Int) (hp : Hid (startsF b l h r n = ((a1, a2), y))) :
    Calls Try.prog 44 #[.agg #[.int .i64 b, .int .i64 l, .int .i64 h, .int .i64 r], .int .i64 n] w fun e w' => e = .returned (.tuple #[.agg #[.int .i64 a1, .int .i64 a2], .int .i64 y]) ∧ Below w.heap.size w w' :=
  (starts_any b l h r n w).mono fun e w' k => by rw [hp.out] at k; exact k
theorem rstarts_g (b l h r n : Int) (w : World) (a1 a2 y : Int) (hp : Hid (startsF b l h r n = ((a1, a2), y))) :
    Calls Try.prog 45 #[.agg #[.int .i64 b, .int .i64 l, .int .i64 h, .int .i64 r], .int .i64 n] w fun e w' => e = .returned (.tuple #[.agg #[.int .i64 a1, .int .i64 a2], .int .i64 y]) ∧ Below w.heap.size w w' :=
  (rstarts_any b l h r n w).mono fun e w' k => by rw [hp.out] at k; exact k
theorem Step_g (b l h r s m n : Int) (w : World) (a1 a2 y : Int) (hp : Hid (stepF b l h r s m n = ((a1, a2), y))) :
    Calls Try.prog 46 #[.agg #[.int .i64 b, .int .i64 l, .int .i64 h, .int .i64 r], .agg #[.int .i64 s, .int .i64 m], .int .i64 n] w fun e w' => e = .returned (.tuple #[.agg #[.int .i64 a1, .int .i64 a2], .int .i64 y]) ∧ Below w.heap.size w w' :=
  (Step_any b l h r s m n w).mono fun e w' k => by rw [hp.out] at k; exact k
theorem rStep_g (b l h r s m n : Int) (w : World) (a1 a2 y : Int) (hp : Hid (stepF b l h r s m n = ((a1, a2), y))) :
    Calls Try.prog 47 #[.agg #[.int .i64 b, .int .i64 l, .int .i64 h, .int .i64 r], .agg #[.int .i64 s, .int .i64 m], .int .i64 n] w fun e w' => e = .returned (.tuple #[.agg #[.int .i64 a1, .int .i64 a2], .int .i64 y]) ∧ Below w.heap.size w w' :=
  (rStep_any b l h r s m n w).mono fun e w' k => by rw [hp.out] at k; exact k
theorem rfollow_g (b l h r f : Int) (v : Value) (xs : List Int) (w : World) (hv : Ints w v xs) (L : List Int) (y : Int) (hp : Hid (followF b l h r f xs = (L, y))) :
    Calls Try.prog 48 #[.agg #[.int .i64 b, .int .i64 l, .int .i64 h, .int .i64 r], .int .i64 f, v] w (GivesE L y w) :=
  (rFollow_any b l h r f v xs w hv).mono fun _ _ k => givesE_of hp.out k

def HeldF (B g1 g2 g3 g4 : Nat) (b l h r a1 a2 c1 c2 : Int) (v u : Value) (L : List Int) (W : World) : Prop :=
  Pbx B b l h r W ∧ Rbx g1 a1 a2 W ∧ Rbx g2 a1 a2 W ∧ Rbx g3 c1 c2 W ∧ Rbx g4 c1 c2 W ∧ Ints W v L ∧ Ints W u L
theorem HeldF.next {B g1 g2 g3 g4 : Nat} {b l h r a1 a2 c1 c2 : Int} {v u : Value} {L : List Int} {W W' : World} (k : HeldF B g1 g2 g3 g4 b l h r a1 a2 c1 c2 v u L W) (hb : Below W.heap.size W W') : HeldF B g1 g2 g3 g4 b l h r a1 a2 c1 c2 v u L W' := by
  obtain ⟨h1, h2, h3, h4, h5, h6, h7⟩ := k
  exact ⟨h1.next hb, h2.next hb, h3.next hb, h4.next hb, h5.next hb, h6.below hb, h7.below hb⟩

set_option maxRecDepth 100000 in
set_option maxHeartbeats 4000000 in
theorem walkFollows (b l h r s m f : Int) (v : Value) (xs : List Int) (n : Int) (w : World) (hv : Ints w v xs) :
    Calls Try.prog 13 #[.agg #[.int .i64 b, .int .i64 l, .int .i64 h, .int .i64 r], .agg #[.int .i64 s, .int .i64 m], .int .i64 f, v, .int .i64 n] w fun e w' => e = .returned (.bool true) ∧ Below w.heap.size w w' := by
  obtain ⟨t, ht⟩ : ∃ t, Hid (decide (xs.length ≤ 500) = t) := ⟨_, rfl⟩
  obtain ⟨a1, a2, y1, h1⟩ : ∃ a1 a2 y, Hid (startsF b l h r n = ((a1, a2), y)) := ⟨_, _, _, rfl⟩
  obtain ⟨c1, c2, y2, h2⟩ : ∃ a1 a2 y, Hid (stepF b l h r s m n = ((a1, a2), y)) := ⟨_, _, _, rfl⟩
  obtain ⟨L, y3, h3⟩ : ∃ L y, Hid (followF b l h r f xs = (L, y)) := ⟨_, _, rfl⟩
  have HV := hid hv; clear hv
  go_enter Try.func13, Try.ntmps13
  go_wp2_with fail
  refine (awake_any _).mono ?_
  rintro e w1 ⟨rfl, hb1⟩
  go_wp2_with fail
  refine (few_at _ xs t _ (HV.out.below (bl2 hb1)) ht).mono ?_
  rintro e w2 ⟨rfl, rfl⟩
  have P1 := hid ((Pbx.new _ b l h r w 25 rfl).next (bl1 hb1))
  have M1 := hid ((Rbx.new (w.heap.size + 1) s m (w.alloc (.cells #[.int .i64 b, .int .i64 l, .int .i64 h, .int .i64 r] 25)) 59 (by simp)).next hb1)
  have B1 := hid (bl2 hb1)
  clear hb1
  cases t
  · go_wp2_with fail
    go_ret
    exact ⟨rfl, B1.out⟩
  obtain ⟨q0, q1, q2, q3, q4⟩ := P1.out
  go_wp2_with fail
  refine (starts_g _ _ _ _ _ _ _ _ _ h1).mono ?_
  rintro e w2 ⟨rfl, hb⟩
  clear q0 q1 q2 q3 q4
  have P2 := hid (P1.out.next (Bl.alloc hb (.cells #[.int .i64 a1, .int .i64 a2] 23)))
  have M2 := hid (M1.out.next (Bl.alloc hb (.cells #[.int .i64 a1, .int .i64 a2] 23)))
  have B2 := hid (Bl.call B1.out (Bl.alloc hb (.cells #[.int .i64 a1, .int .i64 a2] 23)))
  have G2 := hid (Rbx.new _ a1 a2 w2 23 rfl)
  clear hb P1 M1 B1
  obtain ⟨q0, q1, q2, q3, q4⟩ := P2.out
  go_wp2_with fail
  refine (rstarts_g _ _ _ _ _ _ _ _ _ h1).mono ?_
  rintro e w3 ⟨rfl, hb⟩
  clear q0 q1 q2 q3 q4
  have P3 := hid (P2.out.next (Bl.alloc hb (.cells #[.int .i64 a1, .int .i64 a2] 23)))
  have M3 := hid (M2.out.next (Bl.alloc hb (.cells #[.int .i64 a1, .int .i64 a2] 23)))
  have B3 := hid (Bl.call B2.out (Bl.alloc hb (.cells #[.int .i64 a1, .int .i64 a2] 23)))
  have G3 := hid (G2.out.next (Bl.alloc hb (.cells #[.int .i64 a1, .int .i64 a2] 23)))
  have H3 := hid (Rbx.new _ a1 a2 w3 23 rfl)
  clear hb P2 M2 B2 G2
  obtain ⟨q0, q1, q2, q3, q4⟩ := P3.out
  obtain ⟨m0, m1, m2, m3, m4⟩ := M3.out
  go_wp2_with fail
  refine (Step_g _ _ _ _ _ _ _ _ _ _ _ h2).mono ?_
  rintro e w4 ⟨rfl, hb⟩
  clear q0 q1 q2 q3 q4 m0 m1 m2 m3 m4
  have P4 := hid (P3.out.next (Bl.alloc hb (.cells #[.int .i64 c1, .int .i64 c2] 59)))
  have M4 := hid (M3.out.next (Bl.alloc hb (.cells #[.int .i64 c1, .int .i64 c2] 59)))
  have B4 := hid (Bl.call B3.out (Bl.alloc hb (.cells #[.int .i64 c1, .int .i64 c2] 59)))
  have G4 := hid (G3.out.next (Bl.alloc hb (.cells #[.int .i64 c1, .int .i64 c2] 59)))
  have H4 := hid (H3.out.next (Bl.alloc hb (.cells #[.int .i64 c1, .int .i64 c2] 59)))
  have I4 := hid (Rbx.new _ c1 c2 w4 59 rfl)
  clear hb P3 M3 B3 G3 H3
  obtain ⟨q0, q1, q2, q3, q4⟩ := P4.out
  obtain ⟨m0, m1, m2, m3, m4⟩ := M4.out
  go_wp2_with fail
  refine (rStep_g _ _ _ _ _ _ _ _ _ _ _ h2).mono ?_
  rintro e w5 ⟨rfl, hb⟩
  clear q0 q1 q2 q3 q4 m0 m1 m2 m3 m4
  have P5 := hid (P4.out.next (Bl.alloc hb (.cells #[.int .i64 c1, .int .i64 c2] 59)))
  have B5 := hid (Bl.call B4.out (Bl.alloc hb (.cells #[.int .i64 c1, .int .i64 c2] 59)))
  have G5 := hid (G4.out.next (Bl.alloc hb (.cells #[.int .i64 c1, .int .i64 c2] 59)))
  have H5 := hid (H4.out.next (Bl.alloc hb (.cells #[.int .i64 c1, .int .i64 c2] 59)))
  have I5 := hid (I4.out.next (Bl.alloc hb (.cells #[.int .i64 c1, .int .i64 c2] 59)))
  have J5 := hid (Rbx.new _ c1 c2 w5 59 rfl)
  clear hb P4 M4 B4 G4 H4 I4
  obtain ⟨q0, q1, q2, q3, q4⟩ := P5.out
  go_wp2_with fail
  refine (follow_g _ _ _ _ _ _ xs _ (HV.out.below B5.out) _ _ h3).mono ?_
  rintro e w6 ⟨a6, d6, rfl, v6, hb⟩
  clear q0 q1 q2 q3 q4
  have P6 := hid (P5.out.next hb)
  have B6 := hid (Bl.call B5.out hb)
  have G6 := hid (G5.out.next hb)
  have H6 := hid (H5.out.next hb)
  have I6 := hid (I5.out.next hb)
  have J6 := hid (J5.out.next hb)
  clear hb P5 B5 G5 H5 I5 J5
  obtain ⟨q0, q1, q2, q3, q4⟩ := P6.out
  go_wp2_with fail
  refine (rfollow_g _ _ _ _ _ _ xs _ (HV.out.below B6.out) _ _ h3).mono ?_
  rintro e w7 ⟨a7, d7, rfl, v7, hb⟩
  clear q0 q1 q2 q3 q4
  have B7 := hid (Bl.call B6.out hb)
  have K7 : Hid (HeldF w.heap.size w2.heap.size w3.heap.size w4.heap.size w5.heap.size b l h r a1 a2 c1 c2 (.slice a6 L.length d6) (.slice a7 L.length d7) L w7) :=
    hid ⟨P6.out.next hb, G6.out.next hb, H6.out.next hb, I6.out.next hb, J6.out.next hb, v6.out.below hb, v7.out⟩
  clear hb P6 B6 G6 H6 I6 J6 v6 v7
  obtain ⟨⟨q0, q1, q2, q3, q4⟩, ⟨g0, g1, g2, g3, g4⟩, ⟨h0, h1', h2', h3', h4⟩, ⟨i0, i1, i2, i3, i4⟩, ⟨j0, j1, j2, j3, j4⟩, _, _⟩ := K7.out
  go_wp2_with fail
  go_region_held3 (fun w' => (w'.cell? ⟨w.heap.size, 0, none⟩ = some (.int .i64 b) ∧ w'.cell? ⟨w.heap.size, 1, none⟩ = some (.int .i64 l) ∧ w'.cell? ⟨w.heap.size, 2, none⟩ = some (.int .i64 h) ∧ w'.cell? ⟨w.heap.size, 3, none⟩ = some (.int .i64 r)) ∧ (w'.cell? ⟨w2.heap.size, 0, none⟩ = some (.int .i64 a1) ∧ w'.cell? ⟨w2.heap.size, 1, none⟩ = some (.int .i64 a2)) ∧ (w'.cell? ⟨w3.heap.size, 0, none⟩ = some (.int .i64 a1) ∧ w'.cell? ⟨w3.heap.size, 1, none⟩ = some (.int .i64 a2)) ∧ (w'.cell? ⟨w4.heap.size, 0, none⟩ = some (.int .i64 c1) ∧ w'.cell? ⟨w4.heap.size, 1, none⟩ = some (.int .i64 c2)) ∧ (w'.cell? ⟨w5.heap.size, 0, none⟩ = some (.int .i64 c1) ∧ w'.cell? ⟨w5.heap.size, 1, none⟩ = some (.int .i64 c2))) (go_keep)
    (first
      | (go_at_call 49; refine (check_any _ _ _ _ _).mono ?_; rintro e wa ⟨rfl, hba⟩
         have KA := hid (HeldF.next (by first | exact KB.out | exact (K7.out : HeldF _ _ _ _ _ _ _ _ _ _ _ _ _ _ _ _ w7.drew)) hba)
         have BA := hid (Bl.call (by first | exact BB.out | exact Bl.drew B7.out) hba)
         clear hba
         obtain ⟨⟨qa0, qa1, qa2, qa3, qa4⟩, ⟨ga0, ga1, ga2, ga3, ga4⟩, ⟨ha0, ha1, ha2, ha3, ha4⟩, ⟨ia0, ia1, ia2, ia3, ia4⟩, ⟨ja0, ja1, ja2, ja3, ja4⟩, _, _⟩ := KA.out)
      | (go_at_call 50; refine (rcheck_any _ _ _ _ _).mono ?_; rintro e wb ⟨rfl, hbb⟩
         have KB := hid (HeldF.next (by first | exact KA.out | exact (K7.out : HeldF _ _ _ _ _ _ _ _ _ _ _ _ _ _ _ _ w7.drew)) hbb)
         have BB := hid (Bl.call (by first | exact BA.out | exact Bl.drew B7.out) hbb)
         clear hbb
         obtain ⟨⟨qb0, qb1, qb2, qb3, qb4⟩, ⟨gb0, gb1, gb2, gb3, gb4⟩, ⟨hb0, hb1, hb2, hb3, hb4⟩, ⟨ib0, ib1, ib2, ib3, ib4⟩, ⟨jb0, jb1, jb2, jb3, jb4⟩, _, _⟩ := KB.out)
      | (go_at_call 27; refine (sameInts_yes _ _ L _ (by first | exact KB.out.2.2.2.2.2.1 | exact KA.out.2.2.2.2.2.1) (by first | exact KB.out.2.2.2.2.2.2 | exact KA.out.2.2.2.2.2.2)).mono ?_; rintro e wc ⟨rfl, hbc⟩
         have KC := hid (HeldF.next (by first | exact KB.out | exact KA.out) hbc)
         have BC := hid (Bl.call (by first | exact BB.out | exact BA.out) hbc)
         clear hbc
         obtain ⟨⟨qc0, qc1, qc2, qc3, qc4⟩, ⟨gc0, gc1, gc2, gc3, gc4⟩, ⟨hc0, hc1, hc2, hc3, hc4⟩, ⟨ic0, ic1, ic2, ic3, ic4⟩, ⟨jc0, jc1, jc2, jc3, jc4⟩, _, _⟩ := KC.out))
  all_goals
    go_wp2_with fail
    go_ret
    exact ⟨rfl, BC.out⟩
end Go.Proofs.Ytdopgaljbpjpcaa
