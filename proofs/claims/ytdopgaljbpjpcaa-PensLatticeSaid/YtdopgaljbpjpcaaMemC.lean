/- pens.Memory. -/
import Derived.Test.YtdopgaljbpjpcaaMemB
namespace Go.Proofs.Ytdopgaljbpjpcaa
open Go.RowKit

theorem swing_drop (b0 o0 k n c : Nat) (xs : List Int) (w : World) (hv : Ints w (.slice (some ⟨b0, o0, none⟩) n c) xs) (hk : k < xs.length) :
    Calls Try.prog 70 #[.slice (some ⟨b0, o0 + k, none⟩) (n - k) (c - k)] w fun e w' => e = .returned (.agg #[.int .i64 (loD xs k), .int .i64 (hiD xs k)]) ∧ Below w.heap.size w w' :=
  swing_any _ (xs.drop k) w (hv.drop hk) (by rw [List.length_drop]; omega)
theorem within_at (a b c : Int) (t : Bool) (w : World) (h : Hid (withinB a b c = t)) : Calls Try.prog 71 #[.int .i64 a, .int .i64 b, .int .i64 c] w fun e w' => e = .returned (.bool t) ∧ w = w' :=
  (within_any a b c w).mono fun e w' ⟨h1, h2⟩ => ⟨by rw [h1, h.out], h2⟩
theorem ownsRow_lit1 (w : World) (x : Int) : (w.alloc (.cells #[.int .i64 x] 3)).ownsRow w.heap.size 3 1 (.slice (some ⟨w.heap.size, 0, none⟩) 1 1) 1 [.int .i64 x] :=
  ⟨by simp, .inr ⟨w.heap.size, 1, #[.int .i64 x], rfl, Nat.le_refl _, heap_alloc_new w _, by omega, by simp [maxLen], by simp, by simp⟩⟩

/-- slices.Reverse of a row of the call's own. -/
theorem reverse_own (w : World) (base : Nat) (v : Value) (xs : List Int) (hown : w.ownsRow base 3 1 v xs.length (xs.map (Value.int .i64))) :
    Calls Try.prog 72 #[v] w fun e w' => e = .returned (.tuple #[]) ∧ Ints w' v xs.reverse ∧ w.grownBy w' v.ownBlock := by
  rcases hown.2 with ⟨rfl, h0⟩ | ⟨g, cap, cur, rfl, hg, hh, hn, hc, hs, ht⟩
  · have : xs = [] := List.eq_nil_of_length_eq_zero h0
    subst this
    refine (Try.slices_Reverse_int_empty none 0 w).mono ?_
    rintro e w' ⟨rfl, rfl⟩
    exact ⟨rfl, Ints.nil, ⟨rfl, rfl, rfl, Nat.le_refl _, fun _ _ _ => rfl⟩⟩
  · have hH : Sort.Holds (Value.int .i64) w g 0 xs.toArray := holds_of_blockI hh (by rw [← Nat.mul_one xs.length]; exact ht)
    refine (Try.slices_Reverse_int g 0 cap xs w hH (by unfold maxLen at hc; omega)).mono ?_
    rintro e w' ⟨rfl, n, rfl⟩
    refine ⟨rfl, ?_, ?_⟩
    · have hb := Sort.grow_empty (Sort.putRow (Value.int .i64) (Sort.ahead w n) g 0 xs.reverse.toArray)
      have ho := ownsRow_sortedI (os := #[]) (n := n) (base := base) (cap := cap) (ss := xs) (ts := xs.reverse) (by simp) hg hh hn hc hs
      rw [hb] at ho
      have := ints_of_own (xs := xs.reverse) (v := .slice (some ⟨g, 0, none⟩) xs.length cap) (by rw [List.length_reverse]; exact ho)
      exact this
    · have := grownBy_sortedI (w := w) (g := g) (n := n) (os := #[]) xs.reverse.toArray
      rw [Sort.grow_empty] at this
      exact this

/-- The block S holds cells of type t. -/
def Typed (w : World) (S t : Nat) : Prop := ∃ cs fr, w.heap[S]? = some (.cells cs t fr)
theorem Typed.keep {w w' : World} {S t : Nat} (h : Typed w S t) (hb : w'.heap[S]? = w.heap[S]?) : Typed w' S t := by
  obtain ⟨cs, fr, h⟩ := h; exact ⟨cs, fr, hb.trans h⟩
theorem Typed.setCell {w : World} {S t : Nat} (h : Typed w S t) (p : Addr) (v : Value) : Typed (w.setCell p v) S t := by
  obtain ⟨cs, fr, h⟩ := h
  by_cases e : S = p.block
  · subst e
    refine ⟨(if p.spot.isSome then cs else cs.setIfInBounds p.off v), fr, ?_⟩
    simp [World.setCell, Array.getElem?_modify, h]
  · exact ⟨cs, fr, (Below.heap_setCell w p v S e).trans h⟩
theorem Typed.apart {w : World} {S t base e size n : Nat} {v : Value} {xs : List Value} (h : Typed w S t) (ho : w.ownsRow base e size v n xs) (hne : t ≠ e) : v.ownBlock ≠ some S := by
  intro hv
  rcases ho.2 with ⟨rfl, _⟩ | ⟨g, cap, cur, rfl, _, hh, _⟩
  · cases hv
  · cases hv
    obtain ⟨cs, fr, h⟩ := h
    rw [h] at hh; cases hh; exact hne rfl
theorem ownsRow_setCell_ne {w : World} {base e size n : Nat} {v : Value} {xs : List Value} (h : w.ownsRow base e size v n xs) {p : Addr} (hp : v.ownBlock ≠ some p.block) (u : Value) : (w.setCell p u).ownsRow base e size v n xs :=
  h.kept (row := some p.block) ⟨rfl, rfl, rfl, by simp [World.setCell], fun k _ hk => Below.heap_setCell _ _ _ _ (fun e => hk (by rw [e]))⟩ (.inr hp)

theorem loD_pred (xs : List Int) (m : Nat) (h1 : m ≠ 0) (h2 : m < xs.length) : loD xs (m - 1) = min (xs[m - 1]'(by omega)) (loD xs m) := by
  cases m with
  | zero => exact absurd rfl h1
  | succ j => exact loD_step xs j h2
theorem hiD_pred (xs : List Int) (m : Nat) (h1 : m ≠ 0) (h2 : m < xs.length) : hiD xs (m - 1) = max (xs[m - 1]'(by omega)) (hiD xs m) := by
  cases m with
  | zero => exact absurd rfl h1
  | succ j => exact hiD_step xs j h2
theorem keepB_pred (b : Int) (xs : List Int) (m : Nat) (h1 : m ≠ 0) (h2 : m < xs.length) (hsw : hiD xs m - loD xs m < 2 * b) : keepB b xs (m - 1) = !withinB (xs[m - 1]'(by omega)) (loD xs m) (hiD xs m) := by
  cases m with
  | zero => exact absurd rfl h1
  | succ j =>
    simp only [Nat.add_sub_cancel]
    unfold keepB withinB
    rw [List.getD_eq_getElem?_getD, List.getElem?_eq_getElem (by omega), Option.getD_some, decide_eq_true hsw, Bool.and_true, Bool.eq_iff_iff]
    simp; omega
theorem memDn_pred (b : Int) (xs : List Int) (m : Nat) (h1 : m ≠ 0) (h2 : m < xs.length) : memDn b xs (m - 1) = if keepB b xs (m - 1) = true then memDn b xs m ++ [((m - 1 : Nat) : Int)] else memDn b xs m := by
  cases m with
  | zero => exact absurd rfl h1
  | succ j => exact memDn_step b xs j (by omega)

set_option maxHeartbeats 400000 in
theorem memory_bad (b l h r : Int) (v : Value) (xs : List Int) (w : World) (hv : Ints w v xs) (hb : Hid (listedE b l h r xs ≠ 0)) :
    Calls Try.prog 23 #[.agg #[.int .i64 b, .int .i64 l, .int .i64 h, .int .i64 r], v] w (RetInts [] (listedE b l h r xs) w) := by
  have hne : (listedE b l h r xs != 0) = true := by simpa [bne_iff_ne] using hb.out
  go_enter Try.func23, Try.ntmps23
  go_wp2_with fail
  refine (listed_any _ _ _ _ _ xs _ (Ints.below hv (Bl.alloc (Below.refl _ _) _))).mono ?_
  rintro e w1 ⟨rfl, hb1⟩
  go_wp2_with fail
  go_ret2
  exact ⟨_, rfl, Ints.nil, Bl.call (Bl.alloc (Below.refl _ _) _) (by assumption)⟩

set_option maxRecDepth 20000 in
set_option maxHeartbeats 2000000 in
theorem memory_ok (b l h r : Int) (a : Option Addr) (c : Nat) (xs : List Int) (w : World) (hv : Ints w (.slice a xs.length c) xs) (h0 : Hid (listedE b l h r xs = 0)) :
    Calls Try.prog 23 #[.agg #[.int .i64 b, .int .i64 l, .int .i64 h, .int .i64 r], .slice a xs.length c] w (RetInts (memL b xs) 0 w) := by
  have hlv : Hid (∀ x ∈ xs, -50000 ≤ x ∧ x ≤ 50000) := hid (listedE_lvl h0.out)
  obtain ⟨hn1, hn2⟩ := listedE_len h0.out
  have hpo := listedE_pen h0.out
  simp [penOk] at hpo
  obtain ⟨p1, p2, p3, p4, p5, p6, p7, p8⟩ := hpo
  clear p3 p4 p5 p6
  obtain ⟨i0, hi, hz0, hz1, hz2⟩ := info_parts Try.info3
  have hcap : xs.length ≤ c := by
    obtain ⟨_, _, e, h1, _⟩ := hv
    simp only [Value.slice.injEq] at e
    omega
  go_enter Try.func23, Try.ntmps23
  go_wp2_with fail
  refine (listed_ok _ _ _ _ _ xs _ (Ints.below hv (Bl.alloc (Below.refl _ _) _)) h0).mono ?_
  rintro e w1 ⟨rfl, hb1⟩
  have hB1 : Below w.heap.size w w1 := Bl.call (Bl.alloc (Below.refl _ _) _) hb1
  have q0 := box_cell hb1 (o := 0) rfl
  have hlt1 : w.heap.size < w1.heap.size := by have := hb1.size; simp at this; omega
  simp only [List.getElem_toArray, List.getElem_cons_zero] at q0
  clear hb1
  obtain ⟨b0, o0, rfl, c0⟩ := (hv.below hB1).cellAt (k := 0) (by omega)
  have hv1 := hv.below hB1
  clear c0
  go_wp2_with fail
  refine (swing_drop b0 o0 (xs.length - 1) _ _ xs _ (hv1.below (Bl.alloc (Below.refl _ _) _)) (by omega)).mono ?_
  rintro e w2 ⟨rfl, hb2⟩
  have hB2 : Below w1.heap.size w1 w2 := Bl.call (Bl.alloc (Below.refl _ _) _) hb2
  have hzz2 : w1.heap.size + 1 ≤ w2.heap.size := by have := hb2.size; simpa using this
  have hown2 := ownsRow_below2 (ownsRow_lit1 w1 ((xs.length : Int) - 1)) hb2
  have hl0 := lvlD hlv.out 0 (xs.length - 1) (by omega)
  clear hb2
  go_wp2_with fail
  have hcast : (((xs.length - 1 : Nat) : Int)) = (xs.length : Int) - 1 := by omega
  have HD0 : Hid (memDn b xs (xs.length - 1) = [(xs.length : Int) - 1]) := by
    show memDn b xs (xs.length - 1) = _
    rw [memDn_start, hcast]
  clear hcast
  go_loopw [8, 10] (fun ou i wr => ∃ (m : Nat), m ≤ xs.length - 1 ∧ i = .int .i64 ((m : Int) - 1) ∧ Below w1.heap.size w1 wr ∧ w2.heap.size < wr.heap.size ∧ wr.ownsRow w1.heap.size 3 1 ou (memDn b xs m).length ((memDn b xs m).map (Value.int .i64)) ∧
      Typed wr w2.heap.size 23 ∧
      wr.cell? ⟨w2.heap.size, 0, none⟩ = some (.int .i64 (loD xs m)) ∧ wr.cell? ⟨w2.heap.size, 1, none⟩ = some (.int .i64 (hiD xs m)) ∧ wr.frozen? ⟨w2.heap.size, 0, none⟩ = false ∧ wr.frozen? ⟨w2.heap.size, 1, none⟩ = false)
    (fun _ i _ => (intOf i + 1).toNat)
  case atStart =>
    refine ⟨xs.length - 1, by omega, by congr 1; omega, Bl.alloc hB2 _, by simp, ?_, ?_, cell_last rfl, cell_last rfl, frozen_new _ _ _ _, frozen_new _ _ _ _⟩
    · rw [HD0.out]; exact hown2.alloc _
    · exact ⟨_, _, heap_alloc_new w2 _⟩
  case round =>
    obtain ⟨m, hm, rfl, hb, hsz, hown, hty, hlo, hhi, hf0, hf1⟩ := hrel
    have hbd := lvlD hlv.out (xs.length - 1 - m) m (by omega)
    obtain ⟨l1, l2, l3⟩ := hbd
    have r0 := (hb.cell (p := ⟨w.heap.size, 0, none⟩) hlt1).trans q0
    have hml := memDn_len b xs m
    by_cases hm0 : m = 0
    · have hfin : Hid ((memDn b xs m).reverse = memL b xs) := memDn_done b xs m (by omega) (.inl hm0)
      have g1 : decide ((1 : Int) ≤ m) = false := by simp; omega
      have g2 : decide ((0 : Int) ≤ (m : Int) - 1) = false := by simp; omega
      clear hm0
      go_wp2_with fail
      refine (reverse_own _ _ _ (memDn b xs m) hown).mono ?_
      rintro e w5 ⟨rfl, hI, hg⟩
      have hb5 := own_grow hb (Nat.le_refl _) (fun k hk => (hown.lt k hk).1) hg
      go_wp2_with fail
      go_ret2
      exact ⟨_, rfl, by rw [← hfin.out]; exact hI, hB1.trans (hb5.mono hB1.size)⟩
    · by_cases hsw : hiD xs m - loD xs m < 2 * b
      · have hk1 : m - 1 < xs.length := by omega
        obtain ⟨bx, ox, e, cx⟩ := (hv1.below hb).cellAt hk1
        cases e
        have HS1 := hid (loD_pred xs m hm0 (by omega))
        have HS2 := hid (hiD_pred xs m hm0 (by omega))
        have HST := hid (memDn_pred b xs m hm0 (by omega))
        have HKP := hid (keepB_pred b xs m hm0 (by omega) hsw)
        have e3 : ((m : Int) - 1).toNat = m - 1 := by omega
        have e1 : (1 : Int) ≤ m := by omega
        have e2 : (m : Int) ≤ xs.length := by omega
        have hcast : (((m - 1 : Nat) : Int)) = (m : Int) - 1 := by omega
        have HC := hid hcast; clear hcast
        cases hw : withinB xs[m - 1] (loD xs m) (hiD xs m)
        · have HW := hid hw; clear hw
          have hap := hty.apart hown (by omega)
          go_wp2_with (first | (go_at_call 71; refine (within_at _ _ _ _ _ HW).mono ?_; rintro e w' ⟨rfl, rfl⟩) | (at_builtin; refine wpList_append_own _ rfl _ _ 26 rfl w1.heap.size 3 i0 (.int .i64 0) 1 8 Try.underlying26 hi hz0 hz1 hz2 rfl (by decide) _ _ _ rfl (hown.alloc _) ⟨wr.heap.size, 0, none⟩ 1 1 [.int .i64 ((m : Int) - 1)] rfl rfl (cell_one_new _ _ _) (by simp [Value.oneCell']) (by simp [maxLen]; omega) (by omega) (by have := hb.size; simp; omega) ?_; intro v' w4 hown' hgrow _; have hgb := (hgrow.block w2.heap.size (by simp; omega) (fun e => hap e.symm)).trans (Below.heap_alloc wr _ w2.heap.size hsz); have k0 := (World.cell?_of_block (w := wr) (a := ⟨w2.heap.size, 0, none⟩) hgb).trans hlo; have k1 := (World.cell?_of_block (w := wr) (a := ⟨w2.heap.size, 1, none⟩) hgb).trans hhi; have k2 := (World.frozen?_of_block (w := wr) (a := ⟨w2.heap.size, 0, none⟩) hgb).trans hf0; have k3 := (World.frozen?_of_block (w := wr) (a := ⟨w2.heap.size, 1, none⟩) hgb).trans hf1))
          have hb4 : Below w1.heap.size w1 w4 := own_grow (Bl.alloc hb _) (Nat.le_refl _) (fun k hk => (hown.lt k hk).1) hgrow
          have hty4 := hty.keep hgb
          have hsz4 := hgrow.size
          simp only [World.size_alloc] at hsz4
          have hap' := hty4.apart hown' (by omega)
          have hlen : (memDn b xs (m - 1)) = memDn b xs m ++ [(m : Int) - 1] := by
            rw [HST.out, if_pos (by rw [HKP.out, HW.out]; rfl), HC.out]
          have HLEN := hid hlen; clear hlen
          go_roundw
          case rel =>
            refine ⟨m - 1, by omega, by rw [HC.out], Bl.set2 hb4 (by omega) _ _, by simp [World.setCell]; omega, ?_, (hty4.setCell _ _).setCell _ _, ?_, ?_, set2f.trans k2, set2f.trans k3⟩
            · rw [HLEN.out]
              have := ownsRow_setCell_ne (ownsRow_setCell_ne hown' (p := ⟨w2.heap.size, 0, none⟩) hap' (.int .i64 (min (loD xs m) xs[m - 1]))) (p := ⟨w2.heap.size, 1, none⟩) hap' (.int .i64 (max (hiD xs m) xs[m - 1]))
              simpa using this
            · rw [set2a k0, HS1.out, Int.min_comm]
            · rw [set2b k1, HS2.out, Int.max_comm]
          case measure => simp [intOf]; omega
        · have HW := hid hw
          have hlen : (memDn b xs (m - 1)) = memDn b xs m := by
            rw [HST.out, if_neg (by rw [HKP.out, HW.out]; simp)]
          have HLEN := hid hlen; clear hlen
          have HLO : Hid (loD xs (m - 1) = loD xs m) := by
            show loD xs (m - 1) = loD xs m
            rw [HS1.out]; simp [withinB] at hw; omega
          have HHI : Hid (hiD xs (m - 1) = hiD xs m) := by
            show hiD xs (m - 1) = hiD xs m
            rw [HS2.out]; simp [withinB] at hw; omega
          clear hw
          go_wp2_with (go_at_call 71; refine (within_at _ _ _ _ _ HW).mono ?_; rintro e w' ⟨rfl, rfl⟩)
          go_roundw
          case rel => exact ⟨m - 1, by omega, by rw [HC.out], hb, hsz, by rw [HLEN.out]; exact hown, hty, by rw [HLO.out]; exact hlo, by rw [HHI.out]; exact hhi, hf0, hf1⟩
          case measure => simp [intOf]; omega
      · have hfin : Hid ((memDn b xs m).reverse = memL b xs) := memDn_done b xs m (by omega) (.inr hsw)
        have e1 : (1 : Int) ≤ m := by omega
        have e2 : (m : Int) ≤ xs.length := by omega
        have hsw' : 2 * b ≤ hiD xs m - loD xs m := by omega
        clear hsw
        go_wp2_with fail
        refine (reverse_own _ _ _ (memDn b xs m) hown).mono ?_
        rintro e w5 ⟨rfl, hI, hg⟩
        have hb5 := own_grow hb (Nat.le_refl _) (fun k hk => (hown.lt k hk).1) hg
        go_wp2_with fail
        go_ret2
        exact ⟨_, rfl, by rw [← hfin.out]; exact hI, hB1.trans (hb5.mono hB1.size)⟩

theorem memory_any (b l h r : Int) (v : Value) (xs : List Int) (w : World) (hv : Ints w v xs) :
    Calls Try.prog 23 #[.agg #[.int .i64 b, .int .i64 l, .int .i64 h, .int .i64 r], v] w (RetInts (memF b l h r xs).1 (memF b l h r xs).2 w) := by
  by_cases h0 : listedE b l h r xs = 0
  · obtain ⟨a, c, rfl, _⟩ := hv.shape
    have := memory_ok b l h r a c xs w hv (hid h0)
    simp only [memF, h0, ne_eq, not_true_eq_false, if_false]; exact this
  · have := memory_bad b l h r v xs w hv (hid h0)
    simp only [memF, ne_eq, h0, not_false_eq_true, if_true]; exact this
end Go.Proofs.Ytdopgaljbpjpcaa
