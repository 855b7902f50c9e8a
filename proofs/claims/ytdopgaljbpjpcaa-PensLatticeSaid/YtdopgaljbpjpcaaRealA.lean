/- pens.reals: the closure near. -/
import Derived.Test.YtdopgaljbpjpcaaMemC
import Derived.Test.YtdopgaljbpjpcaaRange
namespace Go.Proofs.Ytdopgaljbpjpcaa
open Go.RowKit

/-- Block R holds the pairs ps, none of its cells frozen. -/
def RowOf (W : World) (R : Nat) (ps : List (Int × Int)) : Prop :=
  ∀ k, (hk : k < ps.length) → W.cell? ⟨R, k * 2, none⟩ = some (.int .i64 ps[k].1) ∧ W.cell? ⟨R, k * 2 + 1, none⟩ = some (.int .i64 ps[k].2) ∧ W.frozen? ⟨R, k * 2, none⟩ = false ∧ W.frozen? ⟨R, k * 2 + 1, none⟩ = false
theorem RowOf.keep {W W' : World} {R : Nat} {ps : List (Int × Int)} (h : RowOf W R ps) (hb : W'.heap[R]? = W.heap[R]?) : RowOf W' R ps := by
  intro k hk
  obtain ⟨h1, h2, h3, h4⟩ := h k hk
  exact ⟨(World.cell?_of_block (w := W) (a := ⟨R, k * 2, none⟩) hb).trans h1, (World.cell?_of_block (w := W) (a := ⟨R, k * 2 + 1, none⟩) hb).trans h2, (World.frozen?_of_block (w := W) (a := ⟨R, k * 2, none⟩) hb).trans h3, (World.frozen?_of_block (w := W) (a := ⟨R, k * 2 + 1, none⟩) hb).trans h4⟩
theorem RowOf.set1 {W : World} {R : Nat} {ps : List (Int × Int)} (h : RowOf W R ps) {i : Nat} (hi : i < ps.length) (a : Int) : RowOf (W.setCell ⟨R, i * 2, none⟩ (.int .i64 a)) R (ps.set i (a, ps[i].2)) := by
  intro k hk
  have hk' : k < ps.length := by simpa using hk
  obtain ⟨h1, h2, h3, h4⟩ := h k hk'
  refine ⟨?_, ?_, by rw [World.frozen?_setCell]; exact h3, by rw [World.frozen?_setCell]; exact h4⟩
  · by_cases e : k = i
    · subst e; rw [World.cell?_setCell_same _ _ _ h1]; simp
    · rw [World.cell?_setCell_other (h := by simp <;> omega), h1]; rw [List.getElem_set_ne (by omega)]
  · rw [World.cell?_setCell_other (h := by simp <;> omega), h2]
    by_cases e : k = i
    · subst e; simp
    · rw [List.getElem_set_ne (by omega)]
theorem RowOf.set2 {W : World} {R : Nat} {ps : List (Int × Int)} (h : RowOf W R ps) {i : Nat} (hi : i < ps.length) (a : Int) : RowOf (W.setCell ⟨R, i * 2 + 1, none⟩ (.int .i64 a)) R (ps.set i (ps[i].1, a)) := by
  intro k hk
  have hk' : k < ps.length := by simpa using hk
  obtain ⟨h1, h2, h3, h4⟩ := h k hk'
  refine ⟨?_, ?_, by rw [World.frozen?_setCell]; exact h3, by rw [World.frozen?_setCell]; exact h4⟩
  · rw [World.cell?_setCell_other (h := by simp <;> omega), h1]
    by_cases e : k = i
    · subst e; simp
    · rw [List.getElem_set_ne (by omega)]
  · by_cases e : k = i
    · subst e; rw [World.cell?_setCell_same _ _ _ h2]; simp
    · rw [World.cell?_setCell_other (h := by simp <;> omega), h2]; rw [List.getElem_set_ne (by omega)]
theorem RowOf.size {W : World} {R : Nat} {ps : List (Int × Int)} (h : RowOf W R ps) (h0 : 0 < ps.length) : R < W.heap.size := World.block_lt_of_cell? W _ (h 0 h0).1

def nearF (r : Int) (ps : List (Int × Int)) (i k : Nat) : List (Int × Int) :=
  ps.set i (max (ps.getD i (0, 0)).1 ((ps.getD k (0, 0)).1 - r), min (ps.getD i (0, 0)).2 ((ps.getD k (0, 0)).2 + r))
def BdP (ps : List (Int × Int)) : Prop := ∀ k, (hk : k < ps.length) → -100000 ≤ ps[k].1 ∧ ps[k].1 ≤ 100000 ∧ -100000 ≤ ps[k].2 ∧ ps[k].2 ≤ 100000
theorem nearF_len (r : Int) (ps : List (Int × Int)) (i k : Nat) : (nearF r ps i k).length = ps.length := by simp [nearF]
theorem nearF_bd {r : Int} {ps : List (Int × Int)} {i k : Nat} (h : BdP ps) (hr : 0 ≤ r) (hr' : r ≤ 12000) (hi : i < ps.length) (hk : k < ps.length) : BdP (nearF r ps i k) := by
  intro j hj
  have hj' : j < ps.length := by rw [nearF_len] at hj; exact hj
  have h1 := h j hj'
  have h2 := h i hi
  have h3 := h k hk
  simp only [nearF, List.getElem_set]
  split
  · simp only [List.getD_eq_getElem?_getD, List.getElem?_eq_getElem hi, List.getElem?_eq_getElem hk, Option.getD_some]; omega
  · exact h1

set_option maxRecDepth 20000 in
set_option maxHeartbeats 2000000 in
theorem near_any (r : Int) (W : World) (Bo Bp R i k : Nat) (ii kk : Int) (ps : List (Int × Int)) (hii : ii = i) (hkk : kk = k) (hi : i < ps.length) (hk : k < ps.length) (hik : i ≠ k) (_hn : ps.length ≤ 500) (row : RowOf W R ps)
    (co : W.cell? ⟨Bo, 0, none⟩ = some (.slice (some ⟨R, 0, none⟩) ps.length ps.length)) (cr : W.cell? ⟨Bp, 3, none⟩ = some (.int .i64 r)) (hr : 0 ≤ r) (hr' : r ≤ 12000) (bd : BdP ps) (hne : Bo ≠ R) (hne' : Bp ≠ R) :
    Calls Try.prog 106 #[.int .i64 ii, .int .i64 kk, .pointer (some ⟨Bo, 0, none⟩), .pointer (some ⟨Bp, 0, none⟩)] W fun e w' =>
      e = .returned (.tuple #[]) ∧ RowOf w' R (nearF r ps i k) ∧ Turns (fun x => x = R) W w' := by
  subst hii hkk
  obtain ⟨a1, a2, a3, a4⟩ := row i hi
  obtain ⟨c1, c2, c3, c4⟩ := row k hk
  obtain ⟨b1, b2, b3, b4⟩ := bd i hi
  obtain ⟨d1, d2, d3, d4⟩ := bd k hk
  have HROW := hid row
  have HBD := hid bd
  clear row bd
  have e1 : (0 : Int) ≤ (i : Int) := by omega
  have e2 : (i : Int) < ps.length := by omega
  have e3 : (0 : Int) ≤ (k : Int) := by omega
  have e4 : (k : Int) < ps.length := by omega
  have n1 : ¬ k * 2 = i * 2 := by omega
  have n2 : ¬ k * 2 + 1 = i * 2 := by omega
  have n3 : ¬ i * 2 + 1 = i * 2 := by omega
  have f1 : IntKind.i64.wrap (ps[k].1 - r) = ps[k].1 - r := IntWalk.i64_in _ (by omega)
  have f2 : IntKind.i64.wrap (ps[k].2 + r) = ps[k].2 + r := IntWalk.i64_in _ (by omega)
  go_enter Try.func106, Try.ntmps106
  go_wp2_with fail
  go_region
  go_wp2_with fail
  go_region
  go_wp2_with fail
  go_end0
  refine ⟨rfl, ?_, ?_⟩
  · have h1 := HROW.out.set1 hi (max ps[i].1 (ps[k].1 - r))
    have h2 := h1.set2 (by simpa using hi) (min ps[i].2 (ps[k].2 + r))
    have he : nearF r ps i k = (ps.set i (max ps[i].1 (ps[k].1 - r), ps[i].2)).set i (((ps.set i (max ps[i].1 (ps[k].1 - r), ps[i].2))[i]'(by simpa using hi)).1, min ps[i].2 (ps[k].2 + r)) := by
      unfold nearF
      simp [List.getD_eq_getElem?_getD, hi, hk]
    rw [he]
    exact h2.keep rfl
  · exact ((Turns.setCell (fun x => x = R) W ⟨R, i * 2, none⟩ _ rfl).trans (Turns.setCell (fun x => x = R) _ ⟨R, i * 2 + 1, none⟩ _ rfl)).trans ⟨rfl, rfl, rfl, Nat.le_refl _, fun _ _ _ => rfl⟩
end Go.Proofs.Ytdopgaljbpjpcaa
