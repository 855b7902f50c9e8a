/- pens.Reals. -/
import Derived.Test.YtdopgaljbpjpcaaRealB
namespace Go.Proofs.Ytdopgaljbpjpcaa
open Go.RowKit

/-- Pairs and an error. -/
def RetPE (ps : List (Int × Int)) (err : Int) (w : World) (e : Ending) (w' : World) : Prop := ∃ v, e = .returned (.tuple #[v, .int .i64 err]) ∧ Pairs w' v ps ∧ Below w.heap.size w w'
def realsF (b l h r : Int) (xs : List Int) : List (Int × Int) × Int :=
  if listedE b l h r xs ≠ 0 then ([], listedE b l h r xs) else if realsB b r xs = true then (realsL b r xs, 0) else ([], 31)

set_option maxHeartbeats 400000 in
theorem Reals_bad (b l h r : Int) (v : Value) (xs : List Int) (w : World) (hv : Ints w v xs) (hb : Hid (listedE b l h r xs ≠ 0)) :
    Calls Try.prog 33 #[.agg #[.int .i64 b, .int .i64 l, .int .i64 h, .int .i64 r], v] w (RetPE [] (listedE b l h r xs) w) := by
  have hne : (listedE b l h r xs != 0) = true := by simpa [bne_iff_ne] using hb.out
  go_enter Try.func33, Try.ntmps33
  go_wp2_with fail
  refine (listed_any _ _ _ _ _ xs _ (Ints.below hv (Bl.alloc (Below.refl _ _) _))).mono ?_
  rintro e w1 ⟨rfl, hb1⟩
  go_wp2_with fail
  go_ret2
  exact ⟨_, rfl, Pairs.nil, Bl.call (Bl.alloc (Below.refl _ _) _) (by assumption)⟩
theorem reals_at (b l h r : Int) (a : Option Addr) (c : Nat) (xs : List Int) (t : Bool) (w : World) (hv : Ints w (.slice a xs.length c) xs) (h0 : Hid (listedE b l h r xs = 0)) (ht : Hid (realsB b r xs = t)) :
    Calls Try.prog 79 #[.agg #[.int .i64 b, .int .i64 l, .int .i64 h, .int .i64 r], .slice a xs.length c] w fun e w' => ∃ v, e = .returned (.tuple #[v, .bool t]) ∧ Hid (Pairs w' v (realsL b r xs)) ∧ Below w.heap.size w w' := by
  obtain ⟨hn1, hn2⟩ := listedE_len h0.out
  refine (reals_any b l h r a c xs w hv (hid (listedE_pen h0.out)) (hid (listedE_lvl h0.out)) hn1 hn2).mono ?_
  rintro e w' ⟨v, rfl, h1, h2⟩
  exact ⟨v, by rw [ht.out], hid h1, h2⟩
set_option maxRecDepth 20000 in
set_option maxHeartbeats 800000 in
theorem Reals_ok (b l h r : Int) (a : Option Addr) (c : Nat) (xs : List Int) (w : World) (hv : Ints w (.slice a xs.length c) xs) (h0 : Hid (listedE b l h r xs = 0)) :
    Calls Try.prog 33 #[.agg #[.int .i64 b, .int .i64 l, .int .i64 h, .int .i64 r], .slice a xs.length c] w (RetPE (realsF b l h r xs).1 (realsF b l h r xs).2 w) := by
  have hp : Hid (penOk b l h r = true) := hid (listedE_pen h0.out)
  have hlv : Hid (∀ x ∈ xs, -50000 ≤ x ∧ x ≤ 50000) := hid (listedE_lvl h0.out)
  obtain ⟨hn1, hn2⟩ := listedE_len h0.out
  cases ht : realsB b r xs
  · have HT := hid ht; clear ht
    have HE : Hid (realsF b l h r xs = ([], 31)) := hid (by unfold realsF; rw [h0.out, HT.out]; simp)
    rw [HE.out]
    go_enter Try.func33, Try.ntmps33
    go_wp2_with fail
    refine (listed_ok _ _ _ _ _ xs _ (Ints.below hv (Bl.alloc (Below.refl _ _) _)) h0).mono ?_
    rintro e w1 ⟨rfl, hb1⟩
    have hB1 : Below w.heap.size w w1 := Bl.call (Bl.alloc (Below.refl _ _) _) hb1
    have q0 := box_cell hb1 (o := 0) rfl
    have q1 := box_cell hb1 (o := 1) rfl
    have q2 := box_cell hb1 (o := 2) rfl
    have q3 := box_cell hb1 (o := 3) rfl
    have hlt1 : w.heap.size < w1.heap.size := by have := hb1.size; simp at this; omega
    simp only [List.getElem_toArray, List.getElem_cons_zero, List.getElem_cons_succ] at q0 q1 q2 q3
    clear hb1
    go_wp2_with fail
    refine (reals_at _ _ _ _ _ _ xs _ _ (hv.below hB1) h0 HT).mono ?_
    rintro e w2 ⟨v, rfl, HP, hb2⟩
    have hB2 := Bl.call hB1 hb2
    go_wp2_with fail
    go_ret2
    exact ⟨_, rfl, Pairs.nil, by assumption⟩
  · have HT := hid ht; clear ht
    have HE : Hid (realsF b l h r xs = (realsL b r xs, 0)) := hid (by unfold realsF; rw [h0.out, HT.out]; simp)
    rw [HE.out]
    go_enter Try.func33, Try.ntmps33
    go_wp2_with fail
    refine (listed_ok _ _ _ _ _ xs _ (Ints.below hv (Bl.alloc (Below.refl _ _) _)) h0).mono ?_
    rintro e w1 ⟨rfl, hb1⟩
    have hB1 : Below w.heap.size w w1 := Bl.call (Bl.alloc (Below.refl _ _) _) hb1
    have q0 := box_cell hb1 (o := 0) rfl
    have q1 := box_cell hb1 (o := 1) rfl
    have q2 := box_cell hb1 (o := 2) rfl
    have q3 := box_cell hb1 (o := 3) rfl
    have hlt1 : w.heap.size < w1.heap.size := by have := hb1.size; simp at this; omega
    simp only [List.getElem_toArray, List.getElem_cons_zero, List.getElem_cons_succ] at q0 q1 q2 q3
    clear hb1
    go_wp2_with fail
    refine (reals_at _ _ _ _ _ _ xs _ _ (hv.below hB1) h0 HT).mono ?_
    rintro e w2 ⟨v, rfl, HP, hb2⟩
    have hB2 := Bl.call hB1 hb2
    go_wp2_with fail
    go_ret2
    exact ⟨_, rfl, HP.out, by assumption⟩

theorem Reals_any (b l h r : Int) (v : Value) (xs : List Int) (w : World) (hv : Ints w v xs) :
    Calls Try.prog 33 #[.agg #[.int .i64 b, .int .i64 l, .int .i64 h, .int .i64 r], v] w (RetPE (realsF b l h r xs).1 (realsF b l h r xs).2 w) := by
  by_cases h0 : listedE b l h r xs = 0
  · obtain ⟨a, c, rfl, _⟩ := hv.shape
    exact Reals_ok b l h r a c xs w hv (hid h0)
  · have := Reals_bad b l h r v xs w hv (hid h0)
    simp only [realsF, ne_eq, h0, not_false_eq_true, if_true]; exact this
end Go.Proofs.Ytdopgaljbpjpcaa
