/- The walk of the law PensUpside. -/
import Derived.Test.YtdopgaljbpjpcaaTurned
import Derived.Test.YtdopgaljbpjpcaaWDrift
import Derived.Deep.RegionHeld3
namespace Go.Proofs.Ytdopgaljbpjpcaa
open Go.RowKit
attribute [local go_sem ↓] neq23 guard23

theorem abs_at (n av : Int) (w : World) (h : Hid (max n (wrap64 (-n)) = av)) : Calls Try.prog 30 #[.int .i64 n] w fun e w' => e = .returned (.int .i64 av) ∧ w = w' :=
  (abs_w n w).mono fun _ _ ⟨h1, h2⟩ => ⟨by rw [h1, h.out], h2⟩
theorem memory_g (b l h r : Int) (v : Value) (xs : List Int) (w : World) (hv : Ints w v xs) (L : List Int) (y : Int) (hp : Hid (memF b l h r xs = (L, y))) :
    Calls Try.prog 23 #[.agg #[.int .i64 b, .int .i64 l, .int .i64 h, .int .i64 r], v] w (GivesE L y w) :=
  (memory_any b l h r v xs w hv).mono fun _ _ h => givesE_of hp.out h
theorem turns_g (v : Value) (xs : List Int) (w : World) (hv : Ints w v xs) (L : List Int) (y : Int) (hp : Hid (turnsF xs = (L, y))) : Calls Try.prog 31 #[v] w (GivesE L y w) :=
  (Turns_any v xs w hv).mono fun _ _ h => givesE_of hp.out h

set_option maxRecDepth 100000 in
set_option maxHeartbeats 4000000 in
theorem walkUpside_few (b l h r f : Int) (v : Value) (xs : List Int) (w : World) (hv : Ints w v xs) (ht : Hid (decide (xs.length ≤ 500) = false)) :
    Calls Try.prog 8 #[.agg #[.int .i64 b, .int .i64 l, .int .i64 h, .int .i64 r], .int .i64 f, v] w fun e w' => e = .returned (.bool true) ∧ Below w.heap.size w w' := by
  go_enter Try.func8, Try.ntmps8
  go_wp2_with fail
  refine (awake_any _).mono ?_
  rintro e w1 ⟨rfl, hb1⟩
  go_wp2_with fail
  refine (few_at v xs false _ (hv.below (bl1 hb1)) ht).mono ?_
  rintro e w2 ⟨rfl, rfl⟩
  go_wp2_with fail
  go_ret
  exact ⟨rfl, bl1 hb1⟩
set_option maxRecDepth 100000 in
set_option maxHeartbeats 4000000 in
theorem walkUpside_far (b l h r f av : Int) (v : Value) (xs : List Int) (w : World) (hv : Ints w v xs) (ht : Hid (decide (xs.length ≤ 500) = true)) (hab : Hid (max f (wrap64 (-f)) = av)) (hav : Hid (decide (100000 < av) = true)) :
    Calls Try.prog 8 #[.agg #[.int .i64 b, .int .i64 l, .int .i64 h, .int .i64 r], .int .i64 f, v] w fun e w' => e = .returned (.bool true) ∧ Below w.heap.size w w' := by
  have hav' := hav.out
  go_enter Try.func8, Try.ntmps8
  go_wp2_with fail
  refine (awake_any _).mono ?_
  rintro e w1 ⟨rfl, hb1⟩
  go_wp2_with fail
  refine (few_at v xs true _ (hv.below (bl1 hb1)) ht).mono ?_
  rintro e w2 ⟨rfl, rfl⟩
  go_wp2_with fail
  refine (abs_at _ _ _ hab).mono ?_
  rintro e w2 ⟨rfl, rfl⟩
  go_wp2_with fail
  go_ret
  exact ⟨rfl, bl1 hb1⟩

theorem realsF_bds {b l h r : Int} {xs : List Int} {RL : List (Int × Int)} {y : Int} (hp : realsF b l h r xs = (RL, y)) (hx : xs.length ≤ 500) :
    RL.length ≤ 500 ∧ ∀ k, (h : k < RL.length) → -1000000 ≤ RL[k].1 ∧ RL[k].1 ≤ 1000000 ∧ -1000000 ≤ RL[k].2 ∧ RL[k].2 ≤ 1000000 := by
  rcases realsF_cases hp with ⟨_, rfl, _⟩ | ⟨_, rfl, hok, hlk, hrb⟩
  · exact ⟨by simp, fun k h => by simp at h⟩
  · have hb := penOk_iff.1 hok
    refine ⟨by rw [realsL_len]; exact hx, fun k hk => ?_⟩
    have hk' : k < xs.length := by rw [realsL_len] at hk; exact hk
    rw [reals_at_k hk' hk]
    obtain ⟨d1, d2, d3, _⟩ := span_drift hrb hb.1 hk'
    have := (listOk_iff.1 hlk).2 xs[k] (List.getElem_mem _)
    omega
theorem negP_at {ps : List (Int × Int)} {k : Nat} (h : k < (negP ps).length) (h' : k < ps.length) : (negP ps)[k] = (-ps[k].2, -ps[k].1) := by simp [negP]
set_option maxRecDepth 100000 in
set_option maxHeartbeats 8000000 in
theorem walkUpside_main (b l h r f f' av : Int) (v : Value) (xs : List Int) (w : World) (hv : Ints w v xs) (ht : Hid (decide (xs.length ≤ 500) = true)) (hab : Hid (max f (wrap64 (-f)) = av)) (hav : Hid (decide (100000 < av) = false))
    (hw1 : Hid (wrap64 (-f) = f')) (hw2 : Hid (IntKind.i64.wrap (-f) = f')) (hx5 : xs.length ≤ 500)
    (L : List Int) (y : Int) (hF : Hid (followF b l h r f xs = (L, y))) (hF2 : Hid (followF b l h r f' (negL xs) = (negL L, y))) (hLb : Hid (∀ x ∈ L, -1000000 ≤ x ∧ x ≤ 1000000)) (hLl : L.length ≤ 500) :
    Calls Try.prog 8 #[.agg #[.int .i64 b, .int .i64 l, .int .i64 h, .int .i64 r], .int .i64 f, v] w fun e w' => e = .returned (.bool true) ∧ Below w.heap.size w w' := by
  obtain ⟨RL, y2, hR⟩ : ∃ L y, Hid (realsF b l h r xs = (L, y)) := ⟨_, _, rfl⟩
  obtain ⟨ML, y3, hM⟩ : ∃ L y, Hid (memF b l h r xs = (L, y)) := ⟨_, _, rfl⟩
  obtain ⟨TL, y4, hT⟩ : ∃ L y, Hid (turnsF xs = (L, y)) := ⟨_, _, rfl⟩
  have hRb : Hid (RL.length ≤ 500 ∧ ∀ k, (h : k < RL.length) → -1000000 ≤ RL[k].1 ∧ RL[k].1 ≤ 1000000 ∧ -1000000 ≤ RL[k].2 ∧ RL[k].2 ≤ 1000000) := realsF_bds hR.out hx5
  have hR2 : Hid (realsF b l h r (negL xs) = (negP RL, y2)) := by rw [realsF_neg, hR.out]; rfl
  have hM2 : Hid (memF b l h r (negL xs) = (ML, y3)) := by rw [memF_neg, hM.out]; rfl
  have hT2 : Hid (turnsF (negL xs) = (TL, y4)) := by rw [turnsF_neg, hT.out]; rfl
  have hav' := hav.out
  obtain ⟨a, c, rfl, hm⟩ := hv.shape
  have HV := hid hv
  clear hv
  go_enter Try.func8, Try.ntmps8
  go_wp2_with fail
  refine (awake_any _).mono ?_
  rintro e w1 ⟨rfl, hb1⟩
  go_wp2_with fail
  refine (few_at _ xs true _ (HV.out.below (bl1 hb1)) ht).mono ?_
  rintro e w2 ⟨rfl, rfl⟩
  go_wp2_with fail
  refine (abs_at _ _ _ hab).mono ?_
  rintro e w1 ⟨rfl, rfl⟩
  have P1 := hid ((Pbx.new _ b l h r w 25 rfl).next hb1)
  have B1 := hid (bl1 hb1)
  clear hb1
  go_wp2_with fail
  clear hav'
  go_loopw [8] (fun i wr => ∃ k : Nat, k ≤ xs.length ∧ i = .int .i64 k ∧ Below w1.heap.size w1 wr ∧ Hid (∀ j, (h : j < xs.length) → j < k → -100000 ≤ xs[j] ∧ xs[j] ≤ 100000)) (fun i _ => xs.length - (intOf i).toNat)
  case atStart => exact ⟨0, by omega, rfl, Below.refl _ _, fun j _ hj => by omega⟩
  case round =>
    obtain ⟨k, hk, rfl, hbw, HN⟩ := hrel
    by_cases hlt : k < xs.length
    · obtain ⟨b2, o2, rfl, c2⟩ := (HV.out.below (Bl.call B1.out hbw)).cellAt hlt
      have HS : Hid (∀ x : Int, xs[k] = x → -100000 ≤ x ∧ x ≤ 100000 → ∀ j, (h : j < xs.length) → j < k + 1 → -100000 ≤ xs[j] ∧ xs[j] ≤ 100000) := by
        intro x hx hxy j h hj
        by_cases e : j = k
        · subst e; rw [hx]; exact hxy
        · exact HN.out j h (by omega)
      have HS' := hid (HS.out _ rfl)
      generalize hgx : xs[k] = x at *
      clear hgx HS
      by_cases hA : x < -100000
      · have g1 : decide (x < -100000) = true := by simpa using hA
        go_wp2_with fail
        go_ret
        exact ⟨rfl, Bl.call B1.out hbw⟩
      · have g1 : decide (x < -100000) = false := by simpa using hA
        by_cases hB : 100000 < x
        · have g2 : decide (100000 < x) = true := by simpa using hB
          go_wp2_with fail
          go_ret
          exact ⟨rfl, Bl.call B1.out hbw⟩
        · have g2 : decide (100000 < x) = false := by simpa using hB
          have HS2 := hid (HS'.out ⟨by omega, by omega⟩)
          go_wp2_with fail
          go_roundw
          case rel => exact ⟨k + 1, by omega, by go_num, hbw, HS2.out⟩
          case measure => simp [intOf]; omega
    · have HX : Hid (∀ x ∈ xs, -1000000 ≤ x ∧ x ≤ 1000000) := by
        intro x hx
        obtain ⟨j, hj, rfl⟩ := List.getElem_of_mem hx
        have := HN.out j hj (by omega)
        omega
      have P2 := hid (P1.out.next hbw)
      have B2 := hid (Bl.call B1.out hbw)
      clear hbw P1 B1
      obtain ⟨q0, q1, q2, q3, q4⟩ := P2.out
      go_wp2_with fail
      refine (follow_g _ _ _ _ _ _ xs _ (HV.out.below B2.out) _ _ hF).mono ?_
      rintro e w3 ⟨a3, c3, rfl, v3, hb⟩
      clear q0 q1 q2 q3 q4
      have P3 := hid (P2.out.next hb)
      have B3 := hid (Bl.call B2.out hb)
      clear hb P2 B2
      obtain ⟨q0, q1, q2, q3, q4⟩ := P3.out
      have e1 := hw1.out
      have e2 := hw2.out
      go_wp2_with fail
      go_region_held3 (fun w' => w'.cell? ⟨w.heap.size, 0, none⟩ = some (.int .i64 b) ∧ w'.cell? ⟨w.heap.size, 1, none⟩ = some (.int .i64 l) ∧ w'.cell? ⟨w.heap.size, 2, none⟩ = some (.int .i64 h) ∧ w'.cell? ⟨w.heap.size, 3, none⟩ = some (.int .i64 r)) (go_keep)
        ((first | (go_at_call 32; refine (turned_any _ xs _ (HV.out.below (Bl.drew B3.out)) (by omega) HX).mono ?_; rintro e w4 ⟨a4, c4, rfl, v4, hb4⟩; obtain ⟨s0, s1, s2, s3, s4⟩ := Pbx.next (W := w3.drew) P3.out hb4) | (go_at_call 28; refine (follow_g _ _ _ _ _ _ (negL xs) _ (by exact v4.out) _ _ hF2).mono ?_; rintro e w5 ⟨a5, c5, rfl, v5, hb5⟩; obtain ⟨s0', s1', s2', s3', s4'⟩ := Pbx.next (Pbx.next (W := w3.drew) P3.out hb4) hb5)))
      clear q0 q1 q2 q3 q4 s0 s1 s2 s3 s4 s0' s1' s2' s3' s4'
      have P5 := hid (Pbx.next (Pbx.next (W := w3.drew) P3.out hb4) hb5)
      have B5 := hid (Bl.call (Bl.call (Bl.drew B3.out) hb4) hb5)
      have v3' := hid (Ints.below (Ints.below (w := w3.drew) v3.out hb4) hb5)
      clear hb4 hb5 P3 B3 v3 v4 e1 e2
      obtain ⟨q0, q1, q2, q3, q4⟩ := P5.out
      go_wp2_with fail
      refine (reals_g _ _ _ _ _ xs _ (HV.out.below B5.out) _ _ hR).mono ?_
      rintro e w6 ⟨a6, c6, rfl, v6, hb⟩
      clear q0 q1 q2 q3 q4
      have P6 := hid (P5.out.next hb)
      have B6 := hid (Bl.call B5.out hb)
      have v3 := hid (v3'.out.below hb)
      have v5' := hid (v5.out.below hb)
      clear hb P5 B5 v3' v5
      obtain ⟨q0, q1, q2, q3, q4⟩ := P6.out
      go_wp2_with fail
      go_region_held3 (fun w' => w'.cell? ⟨w.heap.size, 0, none⟩ = some (.int .i64 b) ∧ w'.cell? ⟨w.heap.size, 1, none⟩ = some (.int .i64 l) ∧ w'.cell? ⟨w.heap.size, 2, none⟩ = some (.int .i64 h) ∧ w'.cell? ⟨w.heap.size, 3, none⟩ = some (.int .i64 r)) (go_keep)
        ((first | (go_at_call 32; refine (turned_any _ xs _ (HV.out.below (Bl.drew B6.out)) (by omega) HX).mono ?_; rintro e w7 ⟨a7, c7, rfl, v7, hb7⟩; obtain ⟨s0, s1, s2, s3, s4⟩ := Pbx.next (W := w6.drew) P6.out hb7) | (go_at_call 33; refine (reals_g _ _ _ _ _ (negL xs) _ (by exact v7.out) _ _ hR2).mono ?_; rintro e w8 ⟨a8, c8, rfl, v8, hb8⟩; obtain ⟨s0', s1', s2', s3', s4'⟩ := Pbx.next (Pbx.next (W := w6.drew) P6.out hb7) hb8)))
      clear q0 q1 q2 q3 q4 s0 s1 s2 s3 s4 s0' s1' s2' s3' s4'
      have P8 := hid (Pbx.next (Pbx.next (W := w6.drew) P6.out hb7) hb8)
      have B8 := hid (Bl.call (Bl.call (Bl.drew B6.out) hb7) hb8)
      have v3' := hid (Ints.below (Ints.below (w := w6.drew) v3.out hb7) hb8)
      have v5 := hid (Ints.below (Ints.below (w := w6.drew) v5'.out hb7) hb8)
      have v6' := hid (Pairs.below (Pairs.below (w := w6.drew) v6.out hb7) hb8)
      clear hb7 hb8 P6 B6 v3 v5' v6 v7
      have hln : (negP RL).length = RL.length := by simp [negP]
      have hnl : (negL L).length = L.length := negL_len L
      rw [hln, hnl]
      have HLN := hid hln
      clear hln hnl
      have hd : ((RL.length : Int) != RL.length) = false := by simp
      go_wp2_with fail
      refine (turned_any _ L _ v3'.out (by omega) hLb).mono ?_
      rintro e w9 ⟨a9, c9, rfl, v9, hb9⟩
      have P9 := hid (P8.out.next hb9)
      have B9 := hid (Bl.call B8.out hb9)
      have v5' := hid (v5.out.below hb9)
      have v6 := hid (v6'.out.below hb9)
      have v8' := hid (v8.out.below hb9)
      clear hb9 P8 B8 v3' v5 v6' v8
      go_wp2_with fail
      refine (sameInts_yes _ _ (negL L) _ v9.out (by have := v5'.out; rw [negL_len] at this; exact this)).mono ?_
      rintro e w10 ⟨rfl, hb⟩
      have P10 := hid (P9.out.next hb)
      have B10 := hid (Bl.call B9.out hb)
      have v6' := hid (v6.out.below hb)
      have v8 := hid (v8'.out.below hb)
      clear hb P9 B9 v5' v6 v8' v9
      go_wp2_with fail
      go_loopw [17] (fun i wq => ∃ k : Nat, k ≤ RL.length ∧ i = .int .i64 k ∧ Below w10.heap.size w10 wq) (fun i _ => RL.length - (intOf i).toNat)
      case atStart => exact ⟨0, by omega, rfl, Below.refl _ _⟩
      case round =>
        obtain ⟨k, hk, rfl, hbw⟩ := hrel
        by_cases hlt : k < RL.length
        · have hlt' : k < (negP RL).length := by have := HLN.out; omega
          have hkb := hRb.out.2 k hlt
          have hRl := hRb.out.1
          have hat := negP_at hlt' hlt
          obtain ⟨b1, o1, rfl, c1, c1'⟩ := (v6'.out.below hbw).cellAt hlt
          obtain ⟨b2, o2, rfl, c2, c2'⟩ := (v8.out.below hbw).cellAt hlt'
          rw [hat] at c2 c2'
          clear hat
          generalize hgl : RL[k] = lh at *
          obtain ⟨lo, hi⟩ := lh
          simp only at hkb c1 c1' c2 c2'
          clear hgl
          obtain ⟨m1, m2, m3, m4⟩ := hkb
          have f0 : (0 : Int) ≤ (k : Int) := by omega
          have f1 : (k : Int) < RL.length := by omega
          have f3 : IntKind.i64.wrap (-hi) = -hi := IntWalk.i64_in _ (by omega)
          have f4 : IntKind.i64.wrap (-lo) = -lo := IntWalk.i64_in _ (by omega)
          go_wp2_with fail
          go_quiet (fail)
          clear f3 f4
          go_wp2_with fail
          go_roundw
          case rel => exact ⟨k + 1, by omega, by go_num, Bl.drewN hbw _⟩
          case measure => simp [intOf]; omega
        · have P11 := hid (P10.out.next hbw)
          have B11 := hid (Bl.call B10.out hbw)
          clear hbw P10 B10 v6' v8
          obtain ⟨q0, q1, q2, q3, q4⟩ := P11.out
          go_wp2_with fail
          refine (memory_g _ _ _ _ _ xs _ (HV.out.below B11.out) _ _ hM).mono ?_
          rintro e w12 ⟨a12, c12, rfl, v12, hb⟩
          clear q0 q1 q2 q3 q4
          have P12 := hid (P11.out.next hb)
          have B12 := hid (Bl.call B11.out hb)
          clear hb P11 B11
          obtain ⟨q0, q1, q2, q3, q4⟩ := P12.out
          go_wp2_with fail
          go_region_held3 (fun w' => w'.cell? ⟨w.heap.size, 0, none⟩ = some (.int .i64 b) ∧ w'.cell? ⟨w.heap.size, 1, none⟩ = some (.int .i64 l) ∧ w'.cell? ⟨w.heap.size, 2, none⟩ = some (.int .i64 h) ∧ w'.cell? ⟨w.heap.size, 3, none⟩ = some (.int .i64 r)) (go_keep)
            ((first | (go_at_call 32; refine (turned_any _ xs _ (HV.out.below (Bl.drew B12.out)) (by omega) HX).mono ?_; rintro e w13 ⟨a13, c13, rfl, v13, hb13⟩; obtain ⟨s0, s1, s2, s3, s4⟩ := Pbx.next (W := w12.drew) P12.out hb13) | (go_at_call 23; refine (memory_g _ _ _ _ _ (negL xs) _ (by exact v13.out) _ _ hM2).mono ?_; rintro e w14 ⟨a14, c14, rfl, v14, hb14⟩; obtain ⟨s0', s1', s2', s3', s4'⟩ := Pbx.next (Pbx.next (W := w12.drew) P12.out hb13) hb14)))
          clear q0 q1 q2 q3 q4 s0 s1 s2 s3 s4 s0' s1' s2' s3' s4'
          have B14 := hid (Bl.call (Bl.call (Bl.drew B12.out) hb13) hb14)
          have v12' := hid (Ints.below (Ints.below (w := w12.drew) v12.out hb13) hb14)
          clear hb13 hb14 P12 B12 v12 v13
          go_wp2_with fail
          refine (turns_g _ xs _ (HV.out.below B14.out) _ _ hT).mono ?_
          rintro e w15 ⟨a15, c15, rfl, v15, hb⟩
          have B15 := hid (Bl.call B14.out hb)
          have v12 := hid (v12'.out.below hb)
          have v14' := hid (v14.out.below hb)
          clear hb B14 v12' v14
          go_wp2_with fail
          refine (turned_any _ xs _ (HV.out.below B15.out) (by omega) HX).mono ?_
          rintro e w16 ⟨a16, c16, rfl, v16, hb⟩
          have B16 := hid (Bl.call B15.out hb)
          have v12' := hid (v12.out.below hb)
          have v14 := hid (v14'.out.below hb)
          have v15' := hid (v15.out.below hb)
          clear hb B15 v12 v14' v15
          go_wp2_with fail
          refine (turns_g _ (negL xs) _ v16.out _ _ hT2).mono ?_
          rintro e w17 ⟨a17, c17, rfl, v17, hb⟩
          have B17 := hid (Bl.call B16.out hb)
          have v12 := hid (v12'.out.below hb)
          have v14' := hid (v14.out.below hb)
          have v15 := hid (v15'.out.below hb)
          clear hb B16 v12' v14 v15' v16
          go_wp2_with fail
          refine (sameInts_yes _ _ ML _ v12.out v14'.out).mono ?_
          rintro e w18 ⟨rfl, hb⟩
          have B18 := hid (Bl.call B17.out hb)
          have v15' := hid (v15.out.below hb)
          have v17' := hid (v17.out.below hb)
          clear hb B17 v12 v14' v15 v17
          go_wp2_with fail
          refine (sameInts_yes _ _ TL _ v15'.out v17'.out).mono ?_
          rintro e w19 ⟨rfl, hb⟩
          have B19 := hid (Bl.call B18.out hb)
          clear hb
          go_wp2_with fail
          go_ret
          exact ⟨rfl, B19.out⟩

theorem wrap_min : wrap64 (- -9223372036854775808) = -9223372036854775808 := by unfold wrap64; omega
theorem neg_first {f : Int} (hf1 : -9223372036854775808 ≤ f) (hf2 : f ≤ 9223372036854775807) : (wrap64 (-f) = -f) ∨ (wrap64 (-f) = f ∧ lvl f = false) := by
  by_cases h : f = -9223372036854775808
  · right
    subst h
    exact ⟨wrap_min, by decide⟩
  · left
    exact IntWalk.wrap64_in _ ⟨by omega, by omega⟩
theorem follow_turned {b l h r f : Int} {xs : List Int} (hf1 : -9223372036854775808 ≤ f) (hf2 : f ≤ 9223372036854775807) :
    followF b l h r (wrap64 (-f)) (negL xs) = (negL (followF b l h r f xs).1, (followF b l h r f xs).2) := by
  rcases neg_first hf1 hf2 with e | ⟨e, hl⟩
  · rw [e]; exact followF_neg b l h r f xs
  · rw [e]
    have k1 : followOk b l h r f xs = false := by unfold followOk; rw [hl]; simp
    have k2 : followOk b l h r f (negL xs) = false := by unfold followOk; rw [hl]; simp
    refine Prod.ext ?_ ?_
    · rw [(followF_bad k1).1, (followF_bad k2).1]; rfl
    · simp only
      rw [followF_e, followF_e, hl]; simp
theorem walkUpside (b l h r f : Int) (v : Value) (xs : List Int) (w : World) (hf : -9223372036854775808 ≤ f ∧ f ≤ 9223372036854775807) (hv : Ints w v xs) :
    Calls Try.prog 8 #[.agg #[.int .i64 b, .int .i64 l, .int .i64 h, .int .i64 r], .int .i64 f, v] w fun e w' => e = .returned (.bool true) ∧ Below w.heap.size w w' := by
  cases ht : decide (xs.length ≤ 500)
  · exact walkUpside_few b l h r f v xs w hv (hid ht)
  · cases ha : decide (100000 < max f (wrap64 (-f)))
    · cases hp : followF b l h r f xs with
      | mk L y =>
        have h2 := follow_turned (b := b) (l := l) (h := h) (r := r) (xs := xs) hf.1 hf.2
        rw [hp] at h2
        have hx5 : xs.length ≤ 500 := by simpa using ht
        have hLb : (∀ x ∈ L, -1000000 ≤ x ∧ x ≤ 1000000) ∧ L.length ≤ 500 := by
          rcases followF_cases hp with ⟨_, rfl, _⟩ | ⟨_, rfl, hok⟩
          · exact ⟨fun x hx => by simp at hx, by simp⟩
          · obtain ⟨h1, h2, h3, h4, h5⟩ := followOk_iff.1 hok
            have hb := penOk_iff.1 h1
            refine ⟨fun x hx => ?_, by rw [shownL_len]; exact hx5⟩
            have := shown_bd hb.1 (by omega) (lvl_iff.1 h2) (listOk_iff.1 h3).2 x hx
            omega
        exact walkUpside_main b l h r f (wrap64 (-f)) _ v xs w hv (hid ht) (hid rfl) (hid ha) (hid rfl) (hid (IntWalk.i64_left _)) hx5 L y (hid hp) (hid h2) (hid hLb.1) hLb.2
    · exact walkUpside_far b l h r f _ v xs w hv (hid ht) (hid rfl) (hid ha)
end Go.Proofs.Ytdopgaljbpjpcaa
