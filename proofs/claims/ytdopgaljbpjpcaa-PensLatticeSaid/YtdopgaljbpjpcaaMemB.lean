/- aneroidref03.Memory. -/
import Derived.Test.YtdopgaljbpjpcaaMemA
namespace Go.Proofs.Ytdopgaljbpjpcaa
open Go.RowKit

theorem Ints.drop {w : World} {b o n c : Nat} {xs : List Int} (h : Ints w (.slice (some ⟨b, o, none⟩) n c) xs) {k : Nat} (hk : k < xs.length) : Ints w (.slice (some ⟨b, o + k, none⟩) (n - k) (c - k)) (xs.drop k) := by
  obtain ⟨a', c', e, h1, h2, h3⟩ := h
  simp only [Value.slice.injEq] at e
  obtain ⟨rfl, rfl, rfl⟩ := e
  obtain ⟨b', o', e, h4⟩ := h3 (by omega)
  cases e
  refine ⟨_, _, by rw [List.length_drop], by rw [List.length_drop]; omega, by omega, fun _ => ⟨b, o + k, rfl, fun j hj => ?_⟩⟩
  rw [List.length_drop] at hj
  have := h4 (k + j) (by omega)
  rw [show o + k + j = o + (k + j) by omega, this]
  simp [List.getD_eq_getElem?_getD]

theorem ownsRow_below2 {w w' : World} {base e size : Nat} {v : Value} {n : Nat} {xs : List Value} (h : w.ownsRow base e size v n xs) (hb : Below w.heap.size w w') : w'.ownsRow base e size v n xs :=
  h.kept (row := none) ⟨hb.os, hb.tape, hb.output, hb.size, fun k hk _ => hb.block k hk⟩ (by cases hv : v.ownBlock <;> simp)
theorem ownsRow_drewN {w : World} {base e size : Nat} {v : Value} {n : Nat} {xs : List Value} (h : w.ownsRow base e size v n xs) (q : Nat) : (w.drewN q).ownsRow base e size v n xs :=
  ownsRow_below2 h (Bl.drewN (Below.refl _ _) q)
/-- What has been appended so far to a variable of the call's own. -/
theorem own_grow {w0 w w' : World} {v : Value} (h : Below w0.heap.size w0 w) {B : Nat} (hB : w0.heap.size ≤ B) (hv : ∀ k, v.ownBlock = some k → B ≤ k) (hg : w.grownBy w' v.ownBlock) : Below w0.heap.size w0 w' :=
  h.grown hg h.size (fun k e => Nat.le_trans hB (hv k e))

theorem lvlD {xs : List Int} (h : ∀ x ∈ xs, -50000 ≤ x ∧ x ≤ 50000) : ∀ (d i : Nat), i + d + 1 = xs.length → -50000 ≤ loD xs i ∧ loD xs i ≤ hiD xs i ∧ hiD xs i ≤ 50000
  | 0, i, hi => by
    rw [loD_last xs i (by omega), hiD_last xs i (by omega)]
    have := h xs[i] (List.getElem_mem _)
    omega
  | d + 1, i, hi => by
    rw [loD_step xs i (by omega), hiD_step xs i (by omega)]
    have := h xs[i] (List.getElem_mem _)
    have := lvlD h d (i + 1) (by omega)
    omega
theorem rswing_drop (b0 o0 k n c : Nat) (xs : List Int) (w : World) (hv : Ints w (.slice (some ⟨b0, o0, none⟩) n c) xs) (hk : k < xs.length) :
    Calls Try.prog 73 #[.slice (some ⟨b0, o0 + k, none⟩) (n - k) (c - k)] w fun e w' => e = .returned (.agg #[.int .i64 (loD xs k), .int .i64 (hiD xs k)]) ∧ Below w.heap.size w w' :=
  rswing_any _ (xs.drop k) w (hv.drop hk) (by rw [List.length_drop]; omega)

set_option maxHeartbeats 400000 in
theorem rmemory_bad (b l h r : Int) (v : Value) (xs : List Int) (w : World) (hv : Ints w v xs) (hb : Hid (listedE b l h r xs ≠ 0)) :
    Calls Try.prog 24 #[.agg #[.int .i64 b, .int .i64 l, .int .i64 h, .int .i64 r], v] w (RetInts [] (listedE b l h r xs) w) := by
  have hne : (listedE b l h r xs != 0) = true := by simpa [bne_iff_ne] using hb.out
  go_enter Try.func24, Try.ntmps24
  go_wp2_with fail
  refine (rshown_any _ _ _ _ _ xs _ (Ints.below hv (Bl.alloc (Below.refl _ _) _))).mono ?_
  rintro e w1 ⟨rfl, hb1⟩
  go_wp2_with fail
  go_ret2
  exact ⟨_, rfl, Ints.nil, Bl.call (Bl.alloc (Below.refl _ _) _) (by assumption)⟩

set_option maxRecDepth 20000 in
set_option maxHeartbeats 2000000 in
theorem rmemory_ok (b l h r : Int) (a : Option Addr) (c : Nat) (xs : List Int) (w : World) (hv : Ints w (.slice a xs.length c) xs) (h0 : Hid (listedE b l h r xs = 0)) :
    Calls Try.prog 24 #[.agg #[.int .i64 b, .int .i64 l, .int .i64 h, .int .i64 r], .slice a xs.length c] w (RetInts (memL b xs) 0 w) := by
  have hlv : Hid (∀ x ∈ xs, -50000 ≤ x ∧ x ≤ 50000) := hid (listedE_lvl h0.out)
  obtain ⟨hn1, hn2⟩ := listedE_len h0.out
  have hpo := listedE_pen h0.out
  simp [penOk] at hpo
  obtain ⟨p1, p2, p3, p4, p5, p6, p7, p8⟩ := hpo
  clear p3 p4 p5 p6
  obtain ⟨i0, hi, hz0, hz1, hz2⟩ := info_parts Try.info3
  have hcap : xs.length ≤ c := by
    obtain ⟨_, _, e, h1, _⟩ := hv
    simp only [Value.slice.injEq] at e
    omega
  go_enter Try.func24, Try.ntmps24
  go_wp2_with fail
  refine (rshown_ok _ _ _ _ _ xs _ (Ints.below hv (Bl.alloc (Below.refl _ _) _)) h0).mono ?_
  rintro e w1 ⟨rfl, hb1⟩
  have hB1 : Below w.heap.size w w1 := Bl.call (Bl.alloc (Below.refl _ _) _) hb1
  have q0 := box_cell hb1 (o := 0) rfl
  have hlt1 : w.heap.size < w1.heap.size := by have := hb1.size; simp at this; omega
  simp only [List.getElem_toArray, List.getElem_cons_zero] at q0
  clear hb1
  obtain ⟨b0, o0, rfl, c0⟩ := (hv.below hB1).cellAt (k := 0) (by omega)
  have hv1 := hv.below hB1
  clear c0
  go_wp2_with fail
  go_loopw [7, 8] (fun ou i wr => ∃ (k : Nat), k ≤ xs.length - 1 ∧ i = .int .i64 k ∧ Below w1.heap.size w1 wr ∧ wr.ownsRow w1.heap.size 3 1 ou (memTo b xs k).length ((memTo b xs k).map (Value.int .i64)))
    (fun _ i _ => xs.length - (intOf i).toNat)
  case atStart => exact ⟨0, by omega, rfl, Below.refl _ _, World.ownsRow_nil _ _ _ _⟩
  case round =>
    obtain ⟨k, hk, rfl, hb, hown⟩ := hrel
    have hml := memTo_le b xs k
    by_cases hlt : k < xs.length - 1
    · have hlt' : k < xs.length := by omega
      obtain ⟨bx, ox, e, cx⟩ := (hv1.below hb).cellAt hlt'
      cases e
      have hltx : b0 < wr.heap.size := World.block_lt_of_cell? wr _ cx
      have r0 := (hb.cell (p := ⟨w.heap.size, 0, none⟩) hlt1).trans q0
      have hltr : w.heap.size < wr.heap.size := by have := hb.size; omega
      have e1 : (k : Int) + 1 ≤ xs.length := by omega
      go_wp2_with fail
      refine (rswing_drop b0 o0 (k + 1) _ _ xs _ (hv1.below hb) (by omega)).mono ?_
      rintro e w2 ⟨rfl, hb2⟩
      clear e1
      have hlvk := lvlD hlv.out (xs.length - 1 - (k + 1)) (k + 1) (by omega)
      obtain ⟨l1, l2, l3⟩ := hlvk
      have hB2 := Bl.call hb hb2
      have hown2 := ownsRow_below2 hown hb2
      have hown5 : (w2.alloc (.cells #[.int .i64 (loD xs (k + 1)), .int .i64 (hiD xs (k + 1))] 23)).ownsRow w1.heap.size 3 1 u7 (memTo b xs k).length ((memTo b xs k).map (Value.int .i64)) := hown2.alloc _
      have r0 := (hb2.cell (p := ⟨w.heap.size, 0, none⟩) hltr).trans r0
      have cx := (hb2.cell (p := ⟨b0, o0 + k, none⟩) hltx).trans cx
      have hz2' := hb2.size
      have hltr : w.heap.size < w2.heap.size := by omega
      have hltx : b0 < w2.heap.size := by omega
      have hcl := cell_last (w := w2) (vs := #[.int .i64 (loD xs (k + 1)), .int .i64 (hiD xs (k + 1))]) (e := 23) (k := 0) rfl
      have hch := cell_last (w := w2) (vs := #[.int .i64 (loD xs (k + 1)), .int .i64 (hiD xs (k + 1))]) (e := 23) (k := 1) rfl
      have f1 : (0 : Int) ≤ k := by omega
      have f2 : (k : Int) < xs.length := by omega
      by_cases hA : hiD xs (k + 1) < xs[k]
      · have g1 : decide (hiD xs (k + 1) < xs[k]) = true := by simpa using hA
        by_cases hC : hiD xs (k + 1) - loD xs (k + 1) < 2 * b
        · have g3 : decide (hiD xs (k + 1) - loD xs (k + 1) < 2 * b) = true := by simpa using hC
          have HK : Hid (keepB b xs k = true) := by
            show keepB b xs k = true
            simp [keepB, List.getD_eq_getElem?_getD, hlt']; omega
          go_wp2_with fail
          go_quiet (fail)
          have hb5 : Below w1.heap.size w1 (w2.alloc (.cells #[.int .i64 (loD xs (k + 1)), .int .i64 (hiD xs (k + 1))] 23)) := Bl.alloc hB2 _
          generalize hwq : World.drewN _ nq = wq
          have hbq : Below w1.heap.size w1 wq := by rw [← hwq]; exact Bl.drewN hb5 _
          have hoq : wq.ownsRow w1.heap.size 3 1 u7 (memTo b xs k).length ((memTo b xs k).map (Value.int .i64)) := by rw [← hwq]; exact ownsRow_drewN hown5 nq
          clear hwq hown5 r0 cx hcl hch
          go_wp2_with (at_builtin; refine wpList_append_own _ rfl _ _ 26 rfl w1.heap.size 3 i0 (.int .i64 0) 1 8 Try.underlying26 hi hz0 hz1 hz2 rfl (by decide) _ _ _ rfl (hoq.alloc _) ⟨wq.heap.size, 0, none⟩ 1 1 [.int .i64 k] rfl rfl (cell_one_new _ _ _) (by simp [Value.oneCell']) (by simp [maxLen]; omega) (by omega) (by have := hbq.size; simp; omega) ?_; intro v' w4 hown' hgrow _)
          have hb4 : Below w1.heap.size w1 w4 := own_grow (Bl.alloc hbq _) (Nat.le_refl _) (fun k hk => (hoq.lt k hk).1) hgrow
          go_roundw
          case rel => exact ⟨k + 1, by omega, by go_num, hb4, by rw [memTo_succ, if_pos HK.out]; simpa using hown'⟩
          case measure => simp [intOf]; omega
        · have g3 : decide (hiD xs (k + 1) - loD xs (k + 1) < 2 * b) = false := by simpa using hC
          have HK : Hid (keepB b xs k = false) := by
            show keepB b xs k = false
            simp [keepB, List.getD_eq_getElem?_getD, hlt']; omega
          go_wp2_with fail
          go_quiet (fail)
          have hb5 : Below w1.heap.size w1 (w2.alloc (.cells #[.int .i64 (loD xs (k + 1)), .int .i64 (hiD xs (k + 1))] 23)) := Bl.alloc hB2 _
          generalize hwq : World.drewN _ nq = wq
          have hbq : Below w1.heap.size w1 wq := by rw [← hwq]; exact Bl.drewN hb5 _
          have hoq : wq.ownsRow w1.heap.size 3 1 u7 (memTo b xs k).length ((memTo b xs k).map (Value.int .i64)) := by rw [← hwq]; exact ownsRow_drewN hown5 nq
          clear hwq hown5 r0 cx hcl hch
          go_wp2_with fail
          go_roundw
          case rel => exact ⟨k + 1, by omega, by go_num, hbq, by rw [memTo_succ, if_neg (by rw [HK.out]; simp)]; exact hoq⟩
          case measure => simp [intOf]; omega
      · have g1 : decide (hiD xs (k + 1) < xs[k]) = false := by simpa using hA
        by_cases hB : xs[k] < loD xs (k + 1)
        · have g2 : decide (xs[k] < loD xs (k + 1)) = true := by simpa using hB
          by_cases hC : hiD xs (k + 1) - loD xs (k + 1) < 2 * b
          · have g3 : decide (hiD xs (k + 1) - loD xs (k + 1) < 2 * b) = true := by simpa using hC
            have HK : Hid (keepB b xs k = true) := by
              show keepB b xs k = true
              simp [keepB, List.getD_eq_getElem?_getD, hlt']; omega
            go_wp2_with fail
            go_quiet (fail)
            have hb5 : Below w1.heap.size w1 (w2.alloc (.cells #[.int .i64 (loD xs (k + 1)), .int .i64 (hiD xs (k + 1))] 23)) := Bl.alloc hB2 _
            generalize hwq : World.drewN _ nq = wq
            have hbq : Below w1.heap.size w1 wq := by rw [← hwq]; exact Bl.drewN hb5 _
            have hoq : wq.ownsRow w1.heap.size 3 1 u7 (memTo b xs k).length ((memTo b xs k).map (Value.int .i64)) := by rw [← hwq]; exact ownsRow_drewN hown5 nq
            clear hwq hown5 r0 cx hcl hch
            go_wp2_with (at_builtin; refine wpList_append_own _ rfl _ _ 26 rfl w1.heap.size 3 i0 (.int .i64 0) 1 8 Try.underlying26 hi hz0 hz1 hz2 rfl (by decide) _ _ _ rfl (hoq.alloc _) ⟨wq.heap.size, 0, none⟩ 1 1 [.int .i64 k] rfl rfl (cell_one_new _ _ _) (by simp [Value.oneCell']) (by simp [maxLen]; omega) (by omega) (by have := hbq.size; simp; omega) ?_; intro v' w4 hown' hgrow _)
            have hb4 : Below w1.heap.size w1 w4 := own_grow (Bl.alloc hbq _) (Nat.le_refl _) (fun k hk => (hoq.lt k hk).1) hgrow
            go_roundw
            case rel => exact ⟨k + 1, by omega, by go_num, hb4, by rw [memTo_succ, if_pos HK.out]; simpa using hown'⟩
            case measure => simp [intOf]; omega
          · have g3 : decide (hiD xs (k + 1) - loD xs (k + 1) < 2 * b) = false := by simpa using hC
            have HK : Hid (keepB b xs k = false) := by
              show keepB b xs k = false
              simp [keepB, List.getD_eq_getElem?_getD, hlt']; omega
            go_wp2_with fail
            go_quiet (fail)
            have hb5 : Below w1.heap.size w1 (w2.alloc (.cells #[.int .i64 (loD xs (k + 1)), .int .i64 (hiD xs (k + 1))] 23)) := Bl.alloc hB2 _
            generalize hwq : World.drewN _ nq = wq
            have hbq : Below w1.heap.size w1 wq := by rw [← hwq]; exact Bl.drewN hb5 _
            have hoq : wq.ownsRow w1.heap.size 3 1 u7 (memTo b xs k).length ((memTo b xs k).map (Value.int .i64)) := by rw [← hwq]; exact ownsRow_drewN hown5 nq
            clear hwq hown5 r0 cx hcl hch
            go_wp2_with fail
            go_roundw
            case rel => exact ⟨k + 1, by omega, by go_num, hbq, by rw [memTo_succ, if_neg (by rw [HK.out]; simp)]; exact hoq⟩
            case measure => simp [intOf]; omega
        · have g2 : decide (xs[k] < loD xs (k + 1)) = false := by simpa using hB
          have HK : Hid (keepB b xs k = false) := by
            show keepB b xs k = false
            simp [keepB, List.getD_eq_getElem?_getD, hlt']; omega
          go_wp2_with fail
          go_quiet (fail)
          have hb5 : Below w1.heap.size w1 (w2.alloc (.cells #[.int .i64 (loD xs (k + 1)), .int .i64 (hiD xs (k + 1))] 23)) := Bl.alloc hB2 _
          generalize hwq : World.drewN _ nq = wq
          have hbq : Below w1.heap.size w1 wq := by rw [← hwq]; exact Bl.drewN hb5 _
          have hoq : wq.ownsRow w1.heap.size 3 1 u7 (memTo b xs k).length ((memTo b xs k).map (Value.int .i64)) := by rw [← hwq]; exact ownsRow_drewN hown5 nq
          clear hwq hown5 r0 cx hcl hch
          go_wp2_with fail
          go_roundw
          case rel => exact ⟨k + 1, by omega, by go_num, hbq, by rw [memTo_succ, if_neg (by rw [HK.out]; simp)]; exact hoq⟩
          case measure => simp [intOf]; omega
    · have hke : k = xs.length - 1 := by omega
      have HKE := hid hke; clear hke
      go_wp2_with (at_builtin; refine wpList_append_own _ rfl _ _ 26 rfl w1.heap.size 3 i0 (.int .i64 0) 1 8 Try.underlying26 hi hz0 hz1 hz2 rfl (by decide) _ _ _ rfl (hown.alloc _) ⟨wr.heap.size, 0, none⟩ 1 1 [.int .i64 ((xs.length : Int) - 1)] rfl rfl (cell_one_new _ _ _) (by simp [Value.oneCell']) (by simp [maxLen]; omega) (by omega) (by have := hb.size; simp; omega) ?_; intro v' w4 hown' hgrow _)
      have hb4 : Below w1.heap.size w1 w4 := own_grow (Bl.alloc hb _) (Nat.le_refl _) (fun k hk => (hown.lt k hk).1) hgrow
      go_ret2
      refine ⟨_, rfl, ?_, hB1.trans (hb4.mono hB1.size)⟩
      have hml : memL b xs = memTo b xs k ++ [(xs.length : Int) - 1] := by
        rw [HKE.out]; unfold memL memTo; congr 2; omega
      rw [hml]
      exact ints_of_own (by simpa using hown')

theorem rmemory_any (b l h r : Int) (v : Value) (xs : List Int) (w : World) (hv : Ints w v xs) :
    Calls Try.prog 24 #[.agg #[.int .i64 b, .int .i64 l, .int .i64 h, .int .i64 r], v] w (RetInts (memF b l h r xs).1 (memF b l h r xs).2 w) := by
  by_cases h0 : listedE b l h r xs = 0
  · obtain ⟨a, c, rfl, _⟩ := hv.shape
    have := rmemory_ok b l h r a c xs w hv (hid h0)
    simp only [memF, h0, ne_eq, not_true_eq_false, if_false]; exact this
  · have := rmemory_bad b l h r v xs w hv (hid h0)
    simp only [memF, ne_eq, h0, not_false_eq_true, if_true]; exact this
end Go.Proofs.Ytdopgaljbpjpcaa
