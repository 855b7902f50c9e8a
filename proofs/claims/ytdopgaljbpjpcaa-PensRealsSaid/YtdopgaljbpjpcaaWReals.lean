/- The walk of the law PensReals. -/
import Derived.Test.YtdopgaljbpjpcaaRefL
namespace Go.Proofs.Ytdopgaljbpjpcaa
open Go.RowKit

theorem low_g (b l h r : Int) (v : Value) (xs : List Int) (w : World) (hv : Ints w v xs) (L : List Int) (y : Int) (hp : Hid (allF (fun x _ => x.1) b l h r xs = (L, y))) :
    Calls Try.prog 35 #[.agg #[.int .i64 b, .int .i64 l, .int .i64 h, .int .i64 r], v] w (GivesE L y w) :=
  (Lowest_any b l h r v xs w hv).mono fun _ _ h => givesE_of hp.out h
theorem rlow_g (b l h r : Int) (v : Value) (xs : List Int) (w : World) (hv : Ints w v xs) (L : List Int) (y : Int) (hp : Hid (allF (fun x _ => x.1) b l h r xs = (L, y))) :
    Calls Try.prog 36 #[.agg #[.int .i64 b, .int .i64 l, .int .i64 h, .int .i64 r], v] w (GivesE L y w) :=
  (rLowest_any b l h r v xs w hv).mono fun _ _ h => givesE_of hp.out h
theorem high_g (b l h r : Int) (v : Value) (xs : List Int) (w : World) (hv : Ints w v xs) (L : List Int) (y : Int) (hp : Hid (allF (fun x _ => x.2) b l h r xs = (L, y))) :
    Calls Try.prog 37 #[.agg #[.int .i64 b, .int .i64 l, .int .i64 h, .int .i64 r], v] w (GivesE L y w) :=
  (Highest_any b l h r v xs w hv).mono fun _ _ h => givesE_of hp.out h
theorem rhigh_g (b l h r : Int) (v : Value) (xs : List Int) (w : World) (hv : Ints w v xs) (L : List Int) (y : Int) (hp : Hid (allF (fun x _ => x.2) b l h r xs = (L, y))) :
    Calls Try.prog 38 #[.agg #[.int .i64 b, .int .i64 l, .int .i64 h, .int .i64 r], v] w (GivesE L y w) :=
  (rHighest_any b l h r v xs w hv).mono fun _ _ h => givesE_of hp.out h
theorem real_g (b l h r : Int) (v : Value) (xs : List Int) (w : World) (hv : Ints w v xs) (L : List Int) (y : Int) (hp : Hid (allF (fun x d => mid3 x.1 x.2 d) b l h r xs = (L, y))) :
    Calls Try.prog 39 #[.agg #[.int .i64 b, .int .i64 l, .int .i64 h, .int .i64 r], v] w (GivesE L y w) :=
  (Real_any b l h r v xs w hv).mono fun _ _ h => givesE_of hp.out h
theorem rreal_g (b l h r : Int) (v : Value) (xs : List Int) (w : World) (hv : Ints w v xs) (L : List Int) (y : Int) (hp : Hid (allF (fun x d => mid3 x.1 x.2 d) b l h r xs = (L, y))) :
    Calls Try.prog 40 #[.agg #[.int .i64 b, .int .i64 l, .int .i64 h, .int .i64 r], v] w (GivesE L y w) :=
  (rReal_any b l h r v xs w hv).mono fun _ _ h => givesE_of hp.out h

set_option maxRecDepth 100000 in
set_option maxHeartbeats 4000000 in
theorem walkReals (b l h r : Int) (v : Value) (xs : List Int) (w : World) (hv : Ints w v xs) :
    Calls Try.prog 10 #[.agg #[.int .i64 b, .int .i64 l, .int .i64 h, .int .i64 r], v] w fun e w' => e = .returned (.bool true) ∧ Below w.heap.size w w' := by
  obtain ⟨t, ht⟩ : ∃ t, Hid (decide (xs.length ≤ 500) = t) := ⟨_, rfl⟩
  obtain ⟨RL, y, hR⟩ : ∃ L y, Hid (realsF b l h r xs = (L, y)) := ⟨_, _, rfl⟩
  obtain ⟨L1, y1, h1⟩ : ∃ L y, Hid (allF (fun x _ => x.1) b l h r xs = (L, y)) := ⟨_, _, rfl⟩
  obtain ⟨L2, y2, h2⟩ : ∃ L y, Hid (allF (fun x _ => x.2) b l h r xs = (L, y)) := ⟨_, _, rfl⟩
  obtain ⟨L3, y3, h3⟩ : ∃ L y, Hid (allF (fun x d => mid3 x.1 x.2 d) b l h r xs = (L, y)) := ⟨_, _, rfl⟩
  have HV := hid hv; clear hv
  go_enter Try.func10, Try.ntmps10
  go_wp2_with fail
  refine (awake_any _).mono ?_
  rintro e w1 ⟨rfl, hb1⟩
  go_wp2_with fail
  refine (few_at _ xs t _ (HV.out.below (bl1 hb1)) ht).mono ?_
  rintro e w2 ⟨rfl, rfl⟩
  have P1 := hid ((Pbx.new _ b l h r w 25 rfl).next hb1)
  have B1 := hid (bl1 hb1)
  clear hb1
  cases t
  · go_wp2_with fail
    go_ret
    exact ⟨rfl, B1.out⟩
  obtain ⟨q0, q1, q2, q3, q4⟩ := P1.out
  go_wp2_with fail
  refine (reals_g _ _ _ _ _ xs _ (HV.out.below B1.out) _ _ hR).mono ?_
  rintro e w2 ⟨a2, c2, rfl, v2, hb⟩
  clear q0 q1 q2 q3 q4
  have P2 := hid (P1.out.next hb)
  have B2 := hid (Bl.call B1.out hb)
  clear hb P1 B1
  obtain ⟨q0, q1, q2, q3, q4⟩ := P2.out
  go_wp2_with fail
  refine (rreals_g _ _ _ _ _ xs _ (HV.out.below B2.out) _ _ hR).mono ?_
  rintro e w3 ⟨a3, c3, rfl, v3, hb⟩
  clear q0 q1 q2 q3 q4
  have P3 := hid (P2.out.next hb)
  have B3 := hid (Bl.call B2.out hb)
  have v2' := hid (v2.out.below hb)
  clear hb P2 B2 v2
  obtain ⟨q0, q1, q2, q3, q4⟩ := P3.out
  go_wp2_with fail
  refine (low_g _ _ _ _ _ xs _ (HV.out.below B3.out) _ _ h1).mono ?_
  rintro e w4 ⟨a4, c4, rfl, v4, hb⟩
  clear q0 q1 q2 q3 q4
  have P4 := hid (P3.out.next hb)
  have B4 := hid (Bl.call B3.out hb)
  have v2 := hid (v2'.out.below hb)
  have v3' := hid (v3.out.below hb)
  clear hb P3 B3 v2' v3
  obtain ⟨q0, q1, q2, q3, q4⟩ := P4.out
  go_wp2_with fail
  refine (rlow_g _ _ _ _ _ xs _ (HV.out.below B4.out) _ _ h1).mono ?_
  rintro e w5 ⟨a5, c5, rfl, v5, hb⟩
  clear q0 q1 q2 q3 q4
  have P5 := hid (P4.out.next hb)
  have B5 := hid (Bl.call B4.out hb)
  have v2' := hid (v2.out.below hb)
  have v3 := hid (v3'.out.below hb)
  have v4' := hid (v4.out.below hb)
  clear hb P4 B4 v2 v3' v4
  obtain ⟨q0, q1, q2, q3, q4⟩ := P5.out
  go_wp2_with fail
  refine (high_g _ _ _ _ _ xs _ (HV.out.below B5.out) _ _ h2).mono ?_
  rintro e w6 ⟨a6, c6, rfl, v6, hb⟩
  clear q0 q1 q2 q3 q4
  have P6 := hid (P5.out.next hb)
  have B6 := hid (Bl.call B5.out hb)
  have v2 := hid (v2'.out.below hb)
  have v3' := hid (v3.out.below hb)
  have v4 := hid (v4'.out.below hb)
  have v5' := hid (v5.out.below hb)
  clear hb P5 B5 v2' v3 v4' v5
  obtain ⟨q0, q1, q2, q3, q4⟩ := P6.out
  go_wp2_with fail
  refine (rhigh_g _ _ _ _ _ xs _ (HV.out.below B6.out) _ _ h2).mono ?_
  rintro e w7 ⟨a7, c7, rfl, v7, hb⟩
  clear q0 q1 q2 q3 q4
  have P7 := hid (P6.out.next hb)
  have B7 := hid (Bl.call B6.out hb)
  have v2' := hid (v2.out.below hb)
  have v3 := hid (v3'.out.below hb)
  have v4' := hid (v4.out.below hb)
  have v5 := hid (v5'.out.below hb)
  have v6' := hid (v6.out.below hb)
  clear hb P6 B6 v2 v3' v4 v5' v6
  obtain ⟨q0, q1, q2, q3, q4⟩ := P7.out
  go_wp2_with fail
  refine (real_g _ _ _ _ _ xs _ (HV.out.below B7.out) _ _ h3).mono ?_
  rintro e w8 ⟨a8, c8, rfl, v8, hb⟩
  clear q0 q1 q2 q3 q4
  have P8 := hid (P7.out.next hb)
  have B8 := hid (Bl.call B7.out hb)
  have v2 := hid (v2'.out.below hb)
  have v3' := hid (v3.out.below hb)
  have v4 := hid (v4'.out.below hb)
  have v5' := hid (v5.out.below hb)
  have v6 := hid (v6'.out.below hb)
  have v7' := hid (v7.out.below hb)
  clear hb P7 B7 v2' v3 v4' v5 v6' v7
  obtain ⟨q0, q1, q2, q3, q4⟩ := P8.out
  go_wp2_with fail
  refine (rreal_g _ _ _ _ _ xs _ (HV.out.below B8.out) _ _ h3).mono ?_
  rintro e w9 ⟨a9, c9, rfl, v9, hb⟩
  clear q0 q1 q2 q3 q4
  have B9 := hid (Bl.call B8.out hb)
  have v2' := hid (v2.out.below hb)
  have v3 := hid (v3'.out.below hb)
  have v4' := hid (v4.out.below hb)
  have v5 := hid (v5'.out.below hb)
  have v6' := hid (v6.out.below hb)
  have v7 := hid (v7'.out.below hb)
  have v8' := hid (v8.out.below hb)
  clear hb P8 B8 v2 v3' v4 v5' v6 v7' v8
  go_wp2_with fail
  refine (sameSpans_yes _ _ RL _ v2'.out v3.out).mono ?_
  rintro e w10 ⟨rfl, hb⟩
  have B10 := hid (Bl.call B9.out hb)
  have v4 := hid (v4'.out.below hb)
  have v5' := hid (v5.out.below hb)
  have v6 := hid (v6'.out.below hb)
  have v7' := hid (v7.out.below hb)
  have v8 := hid (v8'.out.below hb)
  have v9' := hid (v9.out.below hb)
  clear hb B9 v2' v3 v4' v5 v6' v7 v8' v9
  go_wp2_with fail
  refine (sameInts_yes _ _ L1 _ v4.out v5'.out).mono ?_
  rintro e w11 ⟨rfl, hb⟩
  have B11 := hid (Bl.call B10.out hb)
  have v6' := hid (v6.out.below hb)
  have v7 := hid (v7'.out.below hb)
  have v8' := hid (v8.out.below hb)
  have v9 := hid (v9'.out.below hb)
  clear hb B10 v4 v5' v6 v7' v8 v9'
  go_wp2_with fail
  refine (sameInts_yes _ _ L2 _ v6'.out v7.out).mono ?_
  rintro e w12 ⟨rfl, hb⟩
  have B12 := hid (Bl.call B11.out hb)
  have v8 := hid (v8'.out.below hb)
  have v9' := hid (v9.out.below hb)
  clear hb B11 v6' v7 v8' v9
  go_wp2_with fail
  refine (sameInts_yes _ _ L3 _ v8.out v9'.out).mono ?_
  rintro e w13 ⟨rfl, hb⟩
  have B13 := hid (Bl.call B12.out hb)
  clear hb
  go_wp2_with fail
  go_ret
  exact ⟨rfl, B13.out⟩
end Go.Proofs.Ytdopgaljbpjpcaa
