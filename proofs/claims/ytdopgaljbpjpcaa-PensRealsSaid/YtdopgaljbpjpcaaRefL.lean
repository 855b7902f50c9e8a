/- aneroidref03.Lowest, Highest, Real. -/
import Derived.Test.YtdopgaljbpjpcaaRefR
import Derived.Test.YtdopgaljbpjpcaaWDrift
namespace Go.Proofs.Ytdopgaljbpjpcaa
open Go.RowKit

theorem rreals_g (b l h r : Int) (v : Value) (xs : List Int) (w : World) (hv : Ints w v xs) (L : List (Int × Int)) (y : Int) (hp : Hid (realsF b l h r xs = (L, y))) :
    Calls Try.prog 34 #[.agg #[.int .i64 b, .int .i64 l, .int .i64 h, .int .i64 r], v] w (GivesP L y w) :=
  (rReals_any b l h r v xs w hv).mono fun e w' h => by
    rw [hp.out] at h
    obtain ⟨v, rfl, hv, hb⟩ := h
    obtain ⟨a, c, rfl, _⟩ := hv.shape
    exact ⟨a, c, rfl, hid hv, hb⟩

set_option maxRecDepth 100000 in
set_option maxHeartbeats 2000000 in
theorem rLowest_any (b l h r : Int) (v : Value) (xs : List Int) (w : World) (hv : Ints w v xs) :
    Calls Try.prog 36 #[.agg #[.int .i64 b, .int .i64 l, .int .i64 h, .int .i64 r], v] w (RetInts (allF (fun (x : Int × Int) (_ : Int) => x.1) b l h r xs).1 (allF (fun (x : Int × Int) (_ : Int) => x.1) b l h r xs).2 w) := by
  obtain ⟨RL, y, hR⟩ : ∃ L y, Hid (realsF b l h r xs = (L, y)) := ⟨_, _, rfl⟩
  obtain ⟨p, hp⟩ : ∃ p, Hid ((fun (k : Nat) (x : Int × Int) => (fun (x : Int × Int) (_ : Int) => x.1) x (xs.getD k 0)) = p) := ⟨_, rfl⟩
  have hE : Hid (allF (fun (x : Int × Int) (_ : Int) => x.1) b l h r xs = (eachTo p RL RL.length, y)) := by unfold allF; rw [hR.out, ← hp.out]; exact hid rfl
  have hl5 := realsF_few b l h r xs
  rw [hR.out] at hl5
  dsimp only at hl5
  rw [hE.out]
  clear hE
  obtain ⟨i0, hi, hz0, hz1, hz2⟩ := info_parts Try.info3
  go_enter Try.func36, Try.ntmps36
  go_wp2_with fail
  refine (rreals_g _ _ _ _ _ xs _ (Ints.below hv (Bl.alloc (Below.refl _ _) _)) _ _ hR).mono ?_
  rintro e w1 ⟨a1, d1, rfl, v1, hb1⟩
  have B1 := hid (bl1 hb1)
  clear hb1
  have HP : Hid (∀ k x, p k x = x.1) := by rw [← hp.out]; exact fun _ _ => rfl
  clear hp
  go_wp2_with fail
  go_loopw [8, 9] (fun ou i wr => ∃ k : Nat, k ≤ RL.length ∧ i = .int .i64 k ∧ Below w1.heap.size w1 wr ∧ wr.ownsRow w1.heap.size 3 1 ou (eachTo p RL k).length ((eachTo p RL k).map (Value.int .i64))) (fun _ i _ => RL.length - (intOf i).toNat)
  case atStart => exact ⟨0, by omega, rfl, Below.refl _ _, World.ownsRow_nil _ _ _ _⟩
  case round =>
    obtain ⟨k, hk, rfl, hb, hown⟩ := hrel
    have hel := eachTo_len p RL k
    by_cases hlt : k < RL.length
    · obtain ⟨b2, o2, rfl, c1, c2⟩ := (v1.out.below hb).cellAt hlt
      have HS := hid (eachTo_succ p RL k hlt)
      have HQ := hid (HP.out k RL[k])
      generalize RL[k] = x at *
      obtain ⟨lo, hi'⟩ := x
      simp only at c1 c2
      go_wp2_with (at_builtin; refine wpList_append_own _ rfl _ _ 26 rfl w1.heap.size 3 i0 (.int .i64 0) 1 8 Try.underlying26 hi hz0 hz1 hz2 rfl (by decide) _ _ _ rfl (hown.alloc _) ⟨wr.heap.size, 0, none⟩ 1 1 [.int .i64 lo] rfl rfl (cell_one_new _ _ _) (by simp [Value.oneCell']) (by simp [maxLen]; omega) (by omega) (by have := hb.size; simp; omega) ?_; intro v' w4 hown' hgrow _)
      have hb4 : Below w1.heap.size w1 w4 := own_grow (Bl.alloc hb _) (Nat.le_refl _) (fun k hk => (hown.lt k hk).1) hgrow
      go_roundw
      case rel => exact ⟨k + 1, by omega, by go_num, hb4, by rw [HS.out, HQ.out]; simpa using hown'⟩
      case measure => simp [intOf]; omega
    · have hkk : k = RL.length := by omega
      have HO : Hid (Ints wr u8 (eachTo p RL RL.length)) := by rw [← hkk]; exact hid (ints_of_own hown)
      clear hown
      go_wp2_with fail
      go_ret2
      exact ⟨_, rfl, HO.out, Bl.call B1.out hb⟩

set_option maxRecDepth 100000 in
set_option maxHeartbeats 2000000 in
theorem rHighest_any (b l h r : Int) (v : Value) (xs : List Int) (w : World) (hv : Ints w v xs) :
    Calls Try.prog 38 #[.agg #[.int .i64 b, .int .i64 l, .int .i64 h, .int .i64 r], v] w (RetInts (allF (fun (x : Int × Int) (_ : Int) => x.2) b l h r xs).1 (allF (fun (x : Int × Int) (_ : Int) => x.2) b l h r xs).2 w) := by
  obtain ⟨RL, y, hR⟩ : ∃ L y, Hid (realsF b l h r xs = (L, y)) := ⟨_, _, rfl⟩
  obtain ⟨p, hp⟩ : ∃ p, Hid ((fun (k : Nat) (x : Int × Int) => (fun (x : Int × Int) (_ : Int) => x.2) x (xs.getD k 0)) = p) := ⟨_, rfl⟩
  have hE : Hid (allF (fun (x : Int × Int) (_ : Int) => x.2) b l h r xs = (eachTo p RL RL.length, y)) := by unfold allF; rw [hR.out, ← hp.out]; exact hid rfl
  have hl5 := realsF_few b l h r xs
  rw [hR.out] at hl5
  dsimp only at hl5
  rw [hE.out]
  clear hE
  obtain ⟨i0, hi, hz0, hz1, hz2⟩ := info_parts Try.info3
  go_enter Try.func38, Try.ntmps38
  go_wp2_with fail
  refine (rreals_g _ _ _ _ _ xs _ (Ints.below hv (Bl.alloc (Below.refl _ _) _)) _ _ hR).mono ?_
  rintro e w1 ⟨a1, d1, rfl, v1, hb1⟩
  have B1 := hid (bl1 hb1)
  clear hb1
  have HP : Hid (∀ k x, p k x = x.2) := by rw [← hp.out]; exact fun _ _ => rfl
  clear hp
  go_wp2_with fail
  go_loopw [8, 9] (fun ou i wr => ∃ k : Nat, k ≤ RL.length ∧ i = .int .i64 k ∧ Below w1.heap.size w1 wr ∧ wr.ownsRow w1.heap.size 3 1 ou (eachTo p RL k).length ((eachTo p RL k).map (Value.int .i64))) (fun _ i _ => RL.length - (intOf i).toNat)
  case atStart => exact ⟨0, by omega, rfl, Below.refl _ _, World.ownsRow_nil _ _ _ _⟩
  case round =>
    obtain ⟨k, hk, rfl, hb, hown⟩ := hrel
    have hel := eachTo_len p RL k
    by_cases hlt : k < RL.length
    · obtain ⟨b2, o2, rfl, c1, c2⟩ := (v1.out.below hb).cellAt hlt
      have HS := hid (eachTo_succ p RL k hlt)
      have HQ := hid (HP.out k RL[k])
      generalize RL[k] = x at *
      obtain ⟨lo, hi'⟩ := x
      simp only at c1 c2
      go_wp2_with (at_builtin; refine wpList_append_own _ rfl _ _ 26 rfl w1.heap.size 3 i0 (.int .i64 0) 1 8 Try.underlying26 hi hz0 hz1 hz2 rfl (by decide) _ _ _ rfl (hown.alloc _) ⟨wr.heap.size, 0, none⟩ 1 1 [.int .i64 hi'] rfl rfl (cell_one_new _ _ _) (by simp [Value.oneCell']) (by simp [maxLen]; omega) (by omega) (by have := hb.size; simp; omega) ?_; intro v' w4 hown' hgrow _)
      have hb4 : Below w1.heap.size w1 w4 := own_grow (Bl.alloc hb _) (Nat.le_refl _) (fun k hk => (hown.lt k hk).1) hgrow
      go_roundw
      case rel => exact ⟨k + 1, by omega, by go_num, hb4, by rw [HS.out, HQ.out]; simpa using hown'⟩
      case measure => simp [intOf]; omega
    · have hkk : k = RL.length := by omega
      have HO : Hid (Ints wr u8 (eachTo p RL RL.length)) := by rw [← hkk]; exact hid (ints_of_own hown)
      clear hown
      go_wp2_with fail
      go_ret2
      exact ⟨_, rfl, HO.out, Bl.call B1.out hb⟩

theorem mid_of {lo hi x : Int} (h : lo ≤ hi) : mid3 lo hi x = max lo (min hi x) := by unfold mid3; omega
set_option maxRecDepth 100000 in
set_option maxHeartbeats 4000000 in
theorem rReal_any (b l h r : Int) (v : Value) (xs : List Int) (w : World) (hv : Ints w v xs) :
    Calls Try.prog 40 #[.agg #[.int .i64 b, .int .i64 l, .int .i64 h, .int .i64 r], v] w (RetInts (allF (fun (x : Int × Int) (d : Int) => mid3 x.1 x.2 d) b l h r xs).1 (allF (fun (x : Int × Int) (d : Int) => mid3 x.1 x.2 d) b l h r xs).2 w) := by
  obtain ⟨RL, y, hR⟩ : ∃ L y, Hid (realsF b l h r xs = (L, y)) := ⟨_, _, rfl⟩
  obtain ⟨p, hp⟩ : ∃ p, Hid ((fun (k : Nat) (x : Int × Int) => (fun (x : Int × Int) (d : Int) => mid3 x.1 x.2 d) x (xs.getD k 0)) = p) := ⟨_, rfl⟩
  have hE : Hid (allF (fun (x : Int × Int) (d : Int) => mid3 x.1 x.2 d) b l h r xs = (eachTo p RL RL.length, y)) := by unfold allF; rw [hR.out, ← hp.out]; exact hid rfl
  have hl5 := realsF_few b l h r xs
  rw [hR.out] at hl5
  dsimp only at hl5
  rw [hE.out]
  clear hE
  have hlen : Hid (RL.length ≤ xs.length ∧ ∀ k, (hk : k < RL.length) → RL[k].1 ≤ RL[k].2) := by
    rcases realsF_cases hR.out with ⟨_, rfl, _⟩ | ⟨_, rfl, _, _, hrb⟩
    · exact ⟨by simp, fun k hk => by simp at hk⟩
    · refine ⟨by rw [realsL_len]; exact Nat.le_refl _, fun k hk => ?_⟩
      have hk' : k < xs.length := by rw [realsL_len] at hk; exact hk
      rw [reals_at_k hk' hk]
      exact realsB_iff.1 hrb k hk'
  obtain ⟨av, cv, rfl, _⟩ := hv.shape
  have HV := hid hv; clear hv
  obtain ⟨i0, hi, hz0, hz1, hz2⟩ := info_parts Try.info3
  go_enter Try.func40, Try.ntmps40
  go_wp2_with fail
  refine (rreals_g _ _ _ _ _ xs _ (HV.out.below (Bl.alloc (Below.refl _ _) _)) _ _ hR).mono ?_
  rintro e w1 ⟨a1, d1, rfl, v1, hb1⟩
  have B1 := hid (bl1 hb1)
  clear hb1
  have HL1 := hlen.out.1
  have HP : Hid (∀ k, (hk : k < xs.length) → ∀ x : Int × Int, x.1 ≤ x.2 → p k x = max x.1 (min x.2 xs[k])) := by
    intro k hk x hx
    rw [← hp.out]
    have : xs.getD k 0 = xs[k] := by simp [List.getD_eq_getElem?_getD, hk]
    simp only [this]
    exact mid_of hx
  clear hp
  go_wp2_with fail
  go_loopw [8, 9] (fun ou i wr => ∃ k : Nat, k ≤ RL.length ∧ i = .int .i64 k ∧ Below w1.heap.size w1 wr ∧ Hid (wr.ownsRow w1.heap.size 3 1 ou k ((eachTo p RL k).map (Value.int .i64)))) (fun _ i _ => RL.length - (intOf i).toNat)
  case atStart => exact ⟨0, by omega, rfl, Below.refl _ _, World.ownsRow_nil _ _ _ _⟩
  case round =>
    obtain ⟨k, hk, rfl, hbw, HO⟩ := hrel
    by_cases hlt : k < RL.length
    · have hlt' : k < xs.length := by omega
      obtain ⟨b1, o1, e1, c1⟩ := (HV.out.below B1.out).cellAt hlt'
      obtain ⟨b2, o2, e2, c2, c3⟩ := v1.out.cellAt hlt
      have hl1 := World.block_lt_of_cell? w1 _ c1
      have hl2 := World.block_lt_of_cell? w1 _ c2
      have c1' := (hbw.cell hl1).trans c1
      have c2' := (hbw.cell hl2).trans c2
      have c3' := (hbw.cell (p := ⟨b2, o2 + k * 2 + 1, none⟩) hl2).trans c3
      have HS := hid (eachTo_succ p RL k hlt)
      have HQ := hid (HP.out k hlt' RL[k] (hlen.out.2 k hlt))
      clear c1 c2 c3
      generalize RL[k] = lh at *
      generalize xs[k] = x at *
      obtain ⟨lo, hi'⟩ := lh
      simp only at c2' c3'
      have HQ' : Hid (p k (lo, hi') = max lo (min hi' x)) := HQ
      clear HQ
      subst e1 e2
      have i1 : (0 : Int) ≤ (k : Int) := by omega
      have i2 : (k : Int) < xs.length := by omega
      have i3 : (k : Int) < RL.length := by omega
      have hzw := hbw.size
      have n1 : b1 < wr.heap.size := by dsimp only at hl1; omega
      have n2 : b2 < wr.heap.size := by dsimp only at hl2; omega
      dsimp only at hl1 hl2
      go_wp2_with fail
      go_region_held3 (fun w' => w'.cell? ⟨b1, o1 + k, none⟩ = some (.int .i64 x) ∧ w'.cell? ⟨b2, o2 + k * 2, none⟩ = some (.int .i64 lo) ∧ w'.cell? ⟨b2, o2 + k * 2 + 1, none⟩ = some (.int .i64 hi')) (go_keep)
        ((refine step_append_lies _ (by rfl) _ _ 26 (by rfl) w1.heap.size 3 i0 (.int .i64 0) 1 8 Try.underlying26 hi hz0 hz1 hz2 rfl (by decide) _ k _ (by rfl) (HO.out.drew.alloc _) ⟨wr.heap.size, 0, none⟩ 1 1 [.int .i64 (max lo (min hi' x))] (by rfl) rfl (cell_one_new _ _ _) (by simp [Value.oneCell']) (by omega) (by simp [maxLen]; omega) (by omega) (by simp; omega) (wr.heap.size + 1) (by simp) ?_; intro g cap w4 hown' hgrow hat hlt4
          have t1 := (hgrow.cell_far ⟨b1, o1 + k, none⟩ (by simp; omega) (by intro e; have := (HO.out.lt b1 e.symm).1; omega)).trans (cell_alloc1 (w := wr.drew) c1')
          have t2 := (hgrow.cell_far ⟨b2, o2 + k * 2, none⟩ (by simp; omega) (by intro e; have := (HO.out.lt b2 e.symm).1; omega)).trans (cell_alloc1 (w := wr.drew) c2')
          have t3 := (hgrow.cell_far ⟨b2, o2 + k * 2 + 1, none⟩ (by simp; omega) (by intro e; have := (HO.out.lt b2 e.symm).1; omega)).trans (cell_alloc1 (w := wr.drew) c3')))
      have HB4 := hid (own_grow (Bl.alloc (Bl.drew hbw) _) (B := w1.heap.size) (Nat.le_refl _) (fun j hj => (HO.out.lt j hj).1) hgrow)
      have HO4 : Hid (w4.ownsRow w1.heap.size 3 1 (.slice (some ⟨g, 0, none⟩) (k + 1) cap) (k + 1) ((eachTo p RL (k + 1)).map (Value.int .i64))) := by
        rw [HS.out, HQ'.out, List.map_append]; exact hown'
      clear t1 t2 t3 hown' hgrow hat hlt4
      go_wp2_with fail
      go_roundw
      case rel => exact ⟨k + 1, by omega, by go_num, HB4.out, HO4⟩
      case measure => simp [intOf]; omega
    · have hkk : k = RL.length := by omega
      have HF : Hid (Ints wr u8 (eachTo p RL RL.length)) := by
        subst hkk
        exact ints_of_own (by rw [eachTo_len]; exact HO.out)
      clear HO
      go_wp2_with fail
      go_ret2
      exact ⟨_, rfl, HF.out, Bl.call B1.out hbw⟩
end Go.Proofs.Ytdopgaljbpjpcaa
