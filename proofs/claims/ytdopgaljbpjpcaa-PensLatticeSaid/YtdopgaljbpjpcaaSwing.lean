/- pens.swing, aneroidref03.swing, Swing of both. -/
import Derived.Test.YtdopgaljbpjpcaaRadd
import Derived.Test.YtdopgaljbpjpcaaRforg
namespace Go.Proofs.Ytdopgaljbpjpcaa
open Go.RowKit

/-- The least and the greatest number of a list that is not empty. -/
def loI (xs : List Int) : Int := xs.foldl min (xs.headD 0)
def hiI (xs : List Int) : Int := xs.foldl max (xs.headD 0)

theorem swing_any (v : Value) (xs : List Int) (w : World) (hv : Ints w v xs) (h0 : 0 < xs.length) :
    Calls Try.prog 70 #[v] w fun e w' => e = .returned (.agg #[.int .i64 (loI xs), .int .i64 (hiI xs)]) ∧ Below w.heap.size w w' := by
  have hv0 := hv
  obtain ⟨a, c, rfl, hlc, hcm, hx⟩ := hv
  unfold maxLen at hcm
  obtain ⟨b, o, rfl, hc⟩ := hx h0
  have HMIN : ∀ W, Below w.heap.size w W → Calls Try.prog 94 #[.slice (some ⟨b, o, none⟩) xs.length c] W fun e w' => e = .returned (.int .i64 (loI xs)) ∧ W = w' := by
    intro W hW
    refine (Try.slices_Min_int b o xs.length c xs W h0 (Nat.le_refl _) (by omega) (fun j hj => (hW.cell (p := ⟨b, o + j, none⟩) (World.block_lt_of_cell? w _ (hc j hj))).trans (hc j hj))).mono ?_
    rintro e w' ⟨rfl, rfl⟩
    refine ⟨?_, rfl⟩
    rw [List.take_length]; rfl
  have HMAX : ∀ W, Below w.heap.size w W → Calls Try.prog 95 #[.slice (some ⟨b, o, none⟩) xs.length c] W fun e w' => e = .returned (.int .i64 (hiI xs)) ∧ W = w' := by
    intro W hW
    refine (Try.slices_Max_int b o xs.length c xs W h0 (Nat.le_refl _) (by omega) (fun j hj => (hW.cell (p := ⟨b, o + j, none⟩) (World.block_lt_of_cell? w _ (hc j hj))).trans (hc j hj))).mono ?_
    rintro e w' ⟨rfl, rfl⟩
    refine ⟨?_, rfl⟩
    rw [List.take_length]; rfl
  have H1 := hid HMIN; have H2 := hid HMAX
  clear HMIN HMAX hc hx hv0
  go_enter Try.func70, Try.ntmps70
  go_wp2_with (first | (go_at_call 94; refine (H1.out _ (Bl.alloc (Below.refl _ _) _)).mono ?_; rintro e w' ⟨rfl, rfl⟩) | (go_at_call 95; refine (H2.out _ (Bl.alloc (Below.refl _ _) _)).mono ?_; rintro e w' ⟨rfl, rfl⟩))
  refine bodyPost_ret (v := .agg #[.int .i64 (loI xs), .int .i64 (hiI xs)]) (by simp [results, Try.results70, go_sem]) rfl ⟨rfl, ?_⟩
  repeat (first | exact Below.refl _ _ | refine Bl.alloc ?_ _ | refine Bl.setCell ?_ (by simp; try omega) _ | refine Bl.drew ?_ | refine Bl.drewN ?_ _ | refine Bl.call ?_ (by assumption))

def loK (x : Int) (xs : List Int) (k : Nat) : Int := (xs.take k).foldl min x
def hiK (x : Int) (xs : List Int) (k : Nat) : Int := (xs.take k).foldl max x
theorem loK_succ (x : Int) (xs : List Int) (k : Nat) (h : k < xs.length) : loK x xs (k + 1) = min (loK x xs k) xs[k] := by
  unfold loK; rw [List.take_succ_eq_append_getElem h, List.foldl_append]; rfl
theorem hiK_succ (x : Int) (xs : List Int) (k : Nat) (h : k < xs.length) : hiK x xs (k + 1) = max (hiK x xs k) xs[k] := by
  unfold hiK; rw [List.take_succ_eq_append_getElem h, List.foldl_append]; rfl

theorem set2a {w : World} {B : Nat} {x u v : Value} (h0 : w.cell? ⟨B, 0, none⟩ = some x) : ((w.setCell ⟨B, 0, none⟩ u).setCell ⟨B, 1, none⟩ v).cell? ⟨B, 0, none⟩ = some u := by
  rw [World.cell?_setCell_other (h := by simp)]; exact World.cell?_setCell_same w _ _ h0
theorem set2b {w : World} {B : Nat} {y u v : Value} (h1 : w.cell? ⟨B, 1, none⟩ = some y) : ((w.setCell ⟨B, 0, none⟩ u).setCell ⟨B, 1, none⟩ v).cell? ⟨B, 1, none⟩ = some v := by
  refine World.cell?_setCell_same _ _ _ (u := y) ?_
  rw [World.cell?_setCell_other (h := by simp)]; exact h1
theorem set2o {w : World} {B : Nat} {u v : Value} {p : Addr} (h : p.block ≠ B) : ((w.setCell ⟨B, 0, none⟩ u).setCell ⟨B, 1, none⟩ v).cell? p = w.cell? p := by
  rw [World.cell?_setCell_other (h := by intro e; subst e; exact h rfl), World.cell?_setCell_other (h := by intro e; subst e; exact h rfl)]
theorem set2f {w : World} {B : Nat} {u v : Value} {p : Addr} : ((w.setCell ⟨B, 0, none⟩ u).setCell ⟨B, 1, none⟩ v).frozen? p = w.frozen? p := by
  rw [World.frozen?_setCell, World.frozen?_setCell]
theorem set2s {w : World} {B : Nat} {u v : Value} : ((w.setCell ⟨B, 0, none⟩ u).setCell ⟨B, 1, none⟩ v).heap.size = w.heap.size := by simp [World.setCell]
theorem Bl.set2 {a w : World} (h : Below a.heap.size a w) {B : Nat} (hB : a.heap.size ≤ B) (u v : Value) : Below a.heap.size a ((w.setCell ⟨B, 0, none⟩ u).setCell ⟨B, 1, none⟩ v) := Bl.setCell (Bl.setCell h hB _) hB _
theorem cell_alloc1 {w : World} {o : Obj} {p : Addr} {v : Value} (h : w.cell? p = some v) : (w.alloc o).cell? p = some v := ((Bl.alloc (Below.refl w.heap.size w) o).cell (World.block_lt_of_cell? w p h)).trans h
theorem frozen_new (w : World) (vs : Array Value) (e : TypeId) (k : Nat) : (w.alloc (.cells vs e)).frozen? ⟨w.heap.size, k, none⟩ = false := by
  have : (w.alloc (.cells vs e)).heap[w.heap.size]? = some (.cells vs e) := heap_alloc_new w _
  unfold World.frozen?; dsimp only; rw [this]; simp
theorem frozen_alloc1 {w : World} {o : Obj} {p : Addr} (h : p.block < w.heap.size) (hf : w.frozen? p = false) : (w.alloc o).frozen? p = false := ((Bl.alloc (Below.refl w.heap.size w) o).frozen h).trans hf

set_option maxRecDepth 20000 in
set_option maxHeartbeats 1000000 in
theorem rswing_any (v : Value) (xs : List Int) (w : World) (hv : Ints w v xs) (h0 : 0 < xs.length) :
    Calls Try.prog 73 #[v] w fun e w' => e = .returned (.agg #[.int .i64 (loI xs), .int .i64 (hiI xs)]) ∧ Below w.heap.size w w' := by
  obtain ⟨a, c, rfl, hm⟩ := hv.shape
  have HH : Hid (xs.headD 0 = xs[0]) := by
    cases xs with
    | nil => simp at h0
    | cons x t => rfl
  obtain ⟨b0, o0, rfl, c0⟩ := hv.cellAt (k := 0) h0
  simp only [Nat.add_zero] at c0
  have hlb : b0 < w.heap.size := World.block_lt_of_cell? w _ c0
  go_enter Try.func73, Try.ntmps73
  go_wp2_with fail
  go_region
  go_wp2_with fail
  clear c0
  go_loopw [4] (fun i wr => ∃ k : Nat, k ≤ xs.length ∧ i = .int .i64 k ∧ Below w.heap.size w wr ∧ w.heap.size + 1 < wr.heap.size ∧
      wr.cell? ⟨w.heap.size + 1, 0, none⟩ = some (.int .i64 (loK xs[0] xs k)) ∧ wr.cell? ⟨w.heap.size + 1, 1, none⟩ = some (.int .i64 (hiK xs[0] xs k)) ∧
      wr.frozen? ⟨w.heap.size + 1, 0, none⟩ = false ∧ wr.frozen? ⟨w.heap.size + 1, 1, none⟩ = false ∧ (∃ u0 u1, wr.cell? ⟨w.heap.size, 0, none⟩ = some u0 ∧ wr.cell? ⟨w.heap.size, 1, none⟩ = some u1) ∧ wr.frozen? ⟨w.heap.size, 0, none⟩ = false ∧ wr.frozen? ⟨w.heap.size, 1, none⟩ = false)
    (fun i _ => xs.length - (intOf i).toNat)
  case atStart =>
    have hz : (w.alloc (.cells #[.int .i64 0, .int .i64 0] 23)).heap.size = w.heap.size + 1 := by simp
    have c0 := cell_last (w := w.alloc (.cells #[.int .i64 0, .int .i64 0] 23)) (vs := #[.int .i64 xs[0], .int .i64 xs[0]]) (e := 23) (k := 0) rfl
    have c1 := cell_last (w := w.alloc (.cells #[.int .i64 0, .int .i64 0] 23)) (vs := #[.int .i64 xs[0], .int .i64 xs[0]]) (e := 23) (k := 1) rfl
    have f0 := frozen_new (w.alloc (.cells #[.int .i64 0, .int .i64 0] 23)) #[.int .i64 xs[0], .int .i64 xs[0]] 23 0
    have f1 := frozen_new (w.alloc (.cells #[.int .i64 0, .int .i64 0] 23)) #[.int .i64 xs[0], .int .i64 xs[0]] 23 1
    rw [hz] at c0 c1 f0 f1
    exact ⟨0, by omega, rfl, Bl.drew (Bl.alloc (Bl.alloc (Below.refl _ _) _) _), by simp, c0, c1, f0, f1, ⟨_, _, cell_alloc1 (cell_last (w := w) (vs := #[.int .i64 0, .int .i64 0]) (e := 23) (k := 0) rfl), cell_alloc1 (cell_last (w := w) (vs := #[.int .i64 0, .int .i64 0]) (e := 23) (k := 1) rfl)⟩,
      frozen_alloc1 (by simp) (frozen_new w _ 23 0), frozen_alloc1 (by simp) (frozen_new w _ 23 1)⟩
  case round =>
    obtain ⟨k, hk, rfl, hb, hsz, hlo, hhi, hf0, hf1, ⟨u0, u1, g0, g1⟩, gf0, gf1⟩ := hrel
    by_cases hlt : k < xs.length
    · obtain ⟨bx, ox, e, cx⟩ := (hv.below hb).cellAt hlt
      cases e
      have e1 : (0 : Int) ≤ (k : Int) := by omega
      have e2 : (k : Int) < xs.length := by omega
      have hne : ¬ b0 = w.heap.size + 1 := by omega
      go_wp2_with fail
      go_region
      clear e1 e2 hne
      go_wp2_with fail
      go_roundw
      case rel =>
        refine ⟨k + 1, by omega, by go_num, Bl.drew (Bl.set2 hb (by omega) _ _), ?_, ?_, ?_, ?_, ?_, ⟨u0, u1, ?_, ?_⟩, ?_, ?_⟩
        · simpa [World.setCell] using hsz
        · rw [loK_succ _ _ _ hlt]; exact set2a hlo
        · rw [hiK_succ _ _ _ hlt]; exact set2b hhi
        · exact set2f.trans hf0
        · exact set2f.trans hf1
        · exact (set2o (by simp)).trans g0
        · exact (set2o (by simp)).trans g1
        · exact set2f.trans gf0
        · exact set2f.trans gf1
      case measure => simp [intOf]; omega
    · have HL : Hid (loK xs[0] xs k = loI xs ∧ hiK xs[0] xs k = hiI xs) := by
        have : k = xs.length := by omega
        subst this
        exact ⟨by unfold loK loI; rw [List.take_length, HH.out], by unfold hiK hiI; rw [List.take_length, HH.out]⟩
      go_wp2_with fail
      refine bodyPost_ret (v := .agg #[.int .i64 (loI xs), .int .i64 (hiI xs)]) ?_ rfl ⟨rfl, ?_⟩
      · rw [← HL.out.1, ← HL.out.2]
        simp [results, Try.results73, go_sem, g0, g1]
      · repeat (first | exact hb | exact Below.refl _ _ | refine Bl.alloc ?_ _ | refine Bl.setCell ?_ (by simp; try omega) _ | refine Bl.drew ?_ | refine Bl.drewN ?_ _ | refine Bl.call ?_ (by assumption))

/-- A span and an error code. -/
def RetSpan (p : (Int × Int) × Int) (w : World) (e : Ending) (w' : World) : Prop := e = .returned (.tuple #[.agg #[.int .i64 p.1.1, .int .i64 p.1.2], .int .i64 p.2]) ∧ Below w.heap.size w w'
def swingF (xs : List Int) : (Int × Int) × Int := if listE xs ≠ 0 then ((0, 0), listE xs) else ((loI xs, hiI xs), 0)
theorem listE_len {xs : List Int} (h0 : listE xs = 0) : 1 ≤ xs.length ∧ xs.length ≤ 401 := by
  unfold listE at h0
  split at h0
  · rename_i h1; simp [listOk] at h1; omega
  · omega
theorem list_ok' (v : Value) (xs : List Int) (w : World) (hv : Ints w v xs) (h0 : Hid (listE xs = 0)) :
    Calls Try.prog 75 #[v] w fun e w' => e = .returned (.int .i64 0) ∧ Below w.heap.size w w' :=
  (list_any v xs w hv).mono fun e w' ⟨h1, h2⟩ => ⟨by rw [h1, h0.out], h2⟩

set_option maxHeartbeats 400000 in
theorem Swing_any (v : Value) (xs : List Int) (w : World) (hv : Ints w v xs) : Calls Try.prog 43 #[v] w (RetSpan (swingF xs) w) := by
  by_cases h0 : listE xs = 0
  · have hl := listE_len h0
    have HF : Hid (swingF xs = ((loI xs, hiI xs), 0)) := by simp [Hid, swingF, h0]
    have H0 := hid h0; clear h0
    go_enter Try.func43, Try.ntmps43
    go_wp2_with fail
    refine (list_ok' _ xs _ (Ints.below hv (Bl.alloc (Below.refl _ _) _)) H0).mono ?_
    rintro e w1 ⟨rfl, hb1⟩
    obtain ⟨hc1, hf1⟩ := bcell hb1; have z1 := hb1.size; simp only [World.size_alloc] at z1
    have z10 : w.heap.size < w1.heap.size := by omega
    go_wp2_with fail
    refine (swing_any _ xs _ (Ints.below hv (Bl.call (Bl.alloc (Below.refl _ _) _) (by assumption))) (by omega)).mono ?_
    rintro e w2 ⟨rfl, hb2⟩
    obtain ⟨hc2, hf2⟩ := bcell hb2; have z2 := hb2.size
    have z20 : w.heap.size < w2.heap.size := by omega
    go_wp2_with fail
    refine bodyPost_ret (v := .tuple #[.agg #[.int .i64 (loI xs), .int .i64 (hiI xs)], .int .i64 0]) (by simp [results, Try.results43, go_sem, hc1, hc2, z10]) rfl ⟨by rw [HF.out], ?_⟩
    repeat (first | exact Below.refl _ _ | refine Bl.alloc ?_ _ | refine Bl.setCell ?_ (by simp; try omega) _ | refine Bl.drew ?_ | refine Bl.drewN ?_ _ | refine Bl.call ?_ (by assumption))
  · have HF : Hid (swingF xs = ((0, 0), listE xs)) := by simp [Hid, swingF, h0]
    have hne : (listE xs != 0) = true := by simpa [bne_iff_ne] using h0
    clear h0
    go_enter Try.func43, Try.ntmps43
    go_wp2_with fail
    refine (list_any _ xs _ (Ints.below hv (Bl.alloc (Below.refl _ _) _))).mono ?_
    rintro e w1 ⟨rfl, hb1⟩
    obtain ⟨hc1, hf1⟩ := bcell hb1; have z1 := hb1.size; simp only [World.size_alloc] at z1
    have z10 : w.heap.size < w1.heap.size := by omega
    go_wp2_with fail
    refine bodyPost_ret (v := .tuple #[.agg #[.int .i64 0, .int .i64 0], .int .i64 (listE xs)]) (by simp [results, Try.results43, go_sem, hc1]) rfl ⟨by rw [HF.out], ?_⟩
    repeat (first | exact Below.refl _ _ | refine Bl.alloc ?_ _ | refine Bl.setCell ?_ (by simp; try omega) _ | refine Bl.drew ?_ | refine Bl.drewN ?_ _ | refine Bl.call ?_ (by assumption))

theorem listE_ok {xs : List Int} (h : listOk xs = true) : listE xs = 0 := by simp [listE, h]
theorem listE_bad {xs : List Int} (h : listOk xs = false) : listE xs = 1 := by simp [listE, h]
theorem rlevels_at (v : Value) (xs : List Int) (t : Bool) (w : World) (hv : Ints w v xs) (h : Hid (listOk xs = t)) :
    Calls Try.prog 90 #[v] w fun e w' => e = .returned (.bool t) ∧ w = w' := (rlevels_any v xs w hv).mono fun e w' ⟨h1, h2⟩ => ⟨by rw [h1, h.out], h2⟩
set_option maxHeartbeats 400000 in
theorem rSwing_any (v : Value) (xs : List Int) (w : World) (hv : Ints w v xs) : Calls Try.prog 62 #[v] w (RetSpan (swingF xs) w) := by
  cases hk : listOk xs
  · have HF : Hid (swingF xs = ((0, 0), 1)) := by simp [Hid, swingF, listE_bad hk]
    have HK := hid hk; clear hk
    go_enter Try.func62, Try.ntmps62
    go_wp2_with fail
    refine (rlevels_at _ xs _ _ (Ints.below hv (Bl.alloc (Below.refl _ _) _)) HK).mono ?_
    rintro e w1 ⟨rfl, rfl⟩
    go_wp2_with fail
    refine bodyPost_ret (v := .tuple #[.agg #[.int .i64 0, .int .i64 0], .int .i64 1]) (by simp [results, Try.results62, go_sem]) rfl ⟨by rw [HF.out], ?_⟩
    repeat (first | exact Below.refl _ _ | refine Bl.alloc ?_ _ | refine Bl.setCell ?_ (by simp; try omega) _ | refine Bl.drew ?_ | refine Bl.drewN ?_ _ | refine Bl.call ?_ (by assumption))
  · have hl := listE_len (listE_ok hk)
    have HF : Hid (swingF xs = ((loI xs, hiI xs), 0)) := by simp [Hid, swingF, listE_ok hk]
    have HK := hid hk; clear hk
    go_enter Try.func62, Try.ntmps62
    go_wp2_with fail
    refine (rlevels_at _ xs _ _ (Ints.below hv (Bl.alloc (Below.refl _ _) _)) HK).mono ?_
    rintro e w1 ⟨rfl, rfl⟩
    go_wp2_with fail
    refine (rswing_any _ xs _ (Ints.below hv (Bl.alloc (Below.refl _ _) _)) (by omega)).mono ?_
    rintro e w2 ⟨rfl, hb2⟩
    obtain ⟨hc2, hf2⟩ := bcell hb2; have z2 := hb2.size; simp only [World.size_alloc] at z2
    have z20 : w.heap.size < w2.heap.size := by omega
    go_wp2_with fail
    refine bodyPost_ret (v := .tuple #[.agg #[.int .i64 (loI xs), .int .i64 (hiI xs)], .int .i64 0]) (by simp [results, Try.results62, go_sem, hc2]) rfl ⟨by rw [HF.out], ?_⟩
    repeat (first | exact Below.refl _ _ | refine Bl.alloc ?_ _ | refine Bl.setCell ?_ (by simp; try omega) _ | refine Bl.drew ?_ | refine Bl.drewN ?_ _ | refine Bl.call ?_ (by assumption))
end Go.Proofs.Ytdopgaljbpjpcaa
