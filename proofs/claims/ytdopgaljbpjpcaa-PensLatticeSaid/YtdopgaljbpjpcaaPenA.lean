/- pens.middle, next, right, step, Step, Starts. -/
import Derived.Test.YtdopgaljbpjpcaaAsked
import Derived.Test.YtdopgaljbpjpcaaShelf
import Derived.Sort.OwnSortedInts
import Derived.Deep.QuietTactic
import Derived.BigQuiet
import Derived.Lib.QuietBelow
namespace Go.Proofs.Ytdopgaljbpjpcaa
open Go.RowKit

def mid3 (x y z : Int) : Int := max (min x y) (min (max x y) z)
theorem perm_sum {l m : List Int} (h : l.Perm m) : l.sum = m.sum := by
  induction h with
  | nil => rfl
  | cons x _ ih => simp [ih]
  | swap x y l => simp; omega
  | trans _ _ ih1 ih2 => exact ih1.trans ih2
theorem sort3 (x y z : Int) : ([x, y, z].mergeSort fun a b => decide (a ≤ b))[1]! = mid3 x y z := by
  have h1 : ([x, y, z].mergeSort fun a b => decide (a ≤ b)).Pairwise (fun a b => decide (a ≤ b) = true) := List.pairwise_mergeSort (fun a b c h1 h2 => by simp at *; omega) (fun a b => by simp; omega) _
  have h2 : ([x, y, z].mergeSort fun a b => decide (a ≤ b)).Perm [x, y, z] := List.mergeSort_perm _ _
  generalize [x, y, z].mergeSort (fun a b => decide (a ≤ b)) = l at *
  have hl := h2.length_eq
  match l, hl with
  | [a, b, c], _ =>
    simp at h1
    obtain ⟨⟨h3, h4⟩, h5⟩ := h1
    have ha : a ∈ [x, y, z] := h2.subset (by simp)
    have hb : b ∈ [x, y, z] := h2.subset (by simp)
    have hc : c ∈ [x, y, z] := h2.subset (by simp)
    have hx : x ∈ [a, b, c] := h2.symm.subset (by simp)
    have hy : y ∈ [a, b, c] := h2.symm.subset (by simp)
    have hz : z ∈ [a, b, c] := h2.symm.subset (by simp)
    have hs : a + b + c = x + y + z := by
      have := perm_sum h2
      simp at this; omega
    simp at ha hb hc hx hy hz
    show b = _
    unfold mid3
    omega

theorem sort_len3 (x y z : Int) : ([x, y, z].mergeSort fun a b => decide (a ≤ b)).length = 3 := by simp

theorem cell_new3 (W : World) (x y z : Int) : Sort.Holds (Value.int .i64) (W.alloc (.cells #[.int .i64 x, .int .i64 y, .int .i64 z] 3)) W.heap.size 0 [x, y, z].toArray := by
  intro j hj
  have : j = 0 ∨ j = 1 ∨ j = 2 := by simp at hj; omega
  have hh : (W.alloc (.cells #[.int .i64 x, .int .i64 y, .int .i64 z] 3)).heap[W.heap.size]? = some (.cells #[.int .i64 x, .int .i64 y, .int .i64 z] 3) := heap_alloc_new W _
  rcases this with rfl | rfl | rfl <;> refine ⟨cell_last rfl, ?_⟩ <;> (unfold World.frozen?; dsimp only; rw [hh]; rfl)

theorem sorted3 (x y z : Int) (W : World) :
    Calls Try.prog 113 #[.slice (some ⟨W.heap.size, 0, none⟩) 3 3] (W.alloc (.cells #[.int .i64 x, .int .i64 y, .int .i64 z] 3)) fun e w' =>
      e = .returned (.tuple #[]) ∧ Below W.heap.size W w' ∧ w'.cell? ⟨W.heap.size, 1, none⟩ = some (.int .i64 (mid3 x y z)) := by
  refine (Try.slices_Sort_int W.heap.size 0 3 [x, y, z] _ (cell_new3 W x y z) (by simp) (by simp)).mono ?_
  rintro e w' ⟨rfl, n, os, rfl⟩
  refine ⟨rfl, ?_, ?_⟩
  · exact (Bl.alloc (Below.refl _ W) _).grown (grownBy_sortedI _) (by simp) (fun k e => by cases e; exact Nat.le_refl _)
  · have hb : (W.alloc (.cells #[.int .i64 x, .int .i64 y, .int .i64 z] 3)).heap[W.heap.size]? = some (.cells #[.int .i64 x, .int .i64 y, .int .i64 z] 3 (0, 0)) := heap_alloc_new W _
    have ho := ownsRow_sortedI (os := os) (n := n) (base := W.heap.size) (cap := 3) (ss := [x, y, z]) (ts := [x, y, z].mergeSort fun a b => decide (a ≤ b)) (by simp) (Nat.le_refl _) hb (by simp) (by simp [maxLen]) (by simp)
    have hc := ho.cellAt 1 (by simp)
    rw [hc, ← sort3 x y z]
    have hl := sort_len3 x y z
    generalize ([x, y, z].mergeSort fun a b => decide (a ≤ b)) = l at hl
    match l, hl with
    | [a, b, c], _ => rfl

set_option maxHeartbeats 400000 in
theorem middle_any (x y z : Int) (W : World) :
    Calls Try.prog 85 #[.slice (some ⟨W.heap.size, 0, none⟩) 3 3] (W.alloc (.cells #[.int .i64 x, .int .i64 y, .int .i64 z] 3)) fun e w' =>
      e = .returned (.int .i64 (mid3 x y z)) ∧ Below W.heap.size W w' := by
  go_enter Try.func85, Try.ntmps85
  go_wp2_with (go_at_call 113; refine (sorted3 x y z W).mono ?_; rintro e w' ⟨rfl, hb, hc⟩)
  go_ret
  exact ⟨rfl, by assumption⟩

theorem mid3_lazy (b s n : Int) (h : 0 ≤ b) : mid3 s (n - b) (n + b) = lazyN b s n := by unfold mid3 lazyN; omega

theorem middle_at (x y z : Int) (W : World) (B : Nat) (hB : W.heap.size = B) :
    Calls Try.prog 85 #[.slice (some ⟨B, 0, none⟩) 3 3] (W.alloc (.cells #[.int .i64 x, .int .i64 y, .int .i64 z] 3)) fun e w' =>
      e = .returned (.int .i64 (mid3 x y z)) ∧ Below W.heap.size W w' := by
  subst hB; exact middle_any x y z W
theorem Bl.drewN {a w : World} (h : Below a.heap.size a w) (n : Nat) : Below a.heap.size a (w.drewN n) := by
  exact ⟨h.os, h.tape, h.output, h.size, h.block⟩

set_option maxHeartbeats 400000 in
set_option maxRecDepth 20000 in
theorem next_any (b l h r s n : Int) (w : World) (h1 : 0 ≤ b) (h2 : b ≤ 100000) (h3 : -100000 ≤ n) (h4 : n ≤ 100000) :
    Calls Try.prog 67 #[.agg #[.int .i64 b, .int .i64 l, .int .i64 h, .int .i64 r], .int .i64 s, .int .i64 n] w fun e w' => e = .returned (.int .i64 (lazyN b s n)) ∧ Below w.heap.size w w' := by
  have HM := hid (mid3_lazy b s n h1)
  go_enter Try.func67, Try.ntmps67
  go_wp2_with fail
  refine (middle_at s (n - b) (n + b) _ _ (by simp)).mono ?_
  rintro e w' ⟨rfl, hb⟩
  go_wp2
  go_ret
  exact ⟨ret_int HM.out, (Bl.alloc (Below.refl _ _) _).trans (hb.mono (by simp))⟩

theorem next_ok (b l h r s n : Int) (w : World) (hp : Hid (penOk b l h r = true)) (h3 : -100000 ≤ n) (h4 : n ≤ 100000) :
    Calls Try.prog 67 #[.agg #[.int .i64 b, .int .i64 l, .int .i64 h, .int .i64 r], .int .i64 s, .int .i64 n] w fun e w' => e = .returned (.int .i64 (lazyN b s n)) ∧ Below w.heap.size w w' := by
  have hp' := hp.out
  simp [penOk] at hp'
  exact next_any b l h r s n w (by omega) (by omega) h3 h4

def rightB (b s n : Int) : Bool := decide (max (n - s) (s - n) ≤ b)
set_option maxHeartbeats 400000 in
theorem right_any (b l h r s n : Int) (w : World) (hs : -1000000 ≤ s ∧ s ≤ 1000000) (hn : -1000000 ≤ n ∧ n ≤ 1000000) :
    Calls Try.prog 101 #[.agg #[.int .i64 b, .int .i64 l, .int .i64 h, .int .i64 r], .agg #[.int .i64 s, .int .i64 n]] w fun e w' => e = .returned (.bool (rightB b s n)) ∧ Below w.heap.size w w' := by
  go_enter Try.func101, Try.ntmps101
  go_wp2_with fail
  go_quiet ((go_at_call 66; exact Calls.quiet_of_same ((apart_any n s _ hn hs).mono fun _ _ ⟨a, b⟩ => ⟨a, b.symm⟩)))
  go_wp2
  go_ret
  exact ⟨rfl, Bl.drewN (Bl.alloc (Bl.alloc (Below.refl _ _) _) _) _⟩
end Go.Proofs.Ytdopgaljbpjpcaa
