/- The examples at the head of the statements: what each call returns. -/
import Derived.Test.YtdopgaljbpjpcaaTurnC
import Derived.Test.YtdopgaljbpjpcaaMovesB
import Derived.Test.YtdopgaljbpjpcaaLow
import Derived.Test.YtdopgaljbpjpcaaRforg
import Derived.Test.YtdopgaljbpjpcaaRadd
namespace Go.Proofs.Ytdopgaljbpjpcaa
open Go.RowKit

/-- A list of numbers that the call wrote down itself. -/
theorem ints_lit (w : World) (B : Nat) (hB : w.heap.size = B) (xs : List Int) (cs : Array Value) (n : Nat) (hcs : cs = (xs.map (Value.int .i64)).toArray) (hn : n = xs.length) (hm : n ≤ 1000) :
    Ints (w.alloc (.cells cs 3)) (.slice (some ⟨B, 0, none⟩) n n) xs := by
  subst hn hB hcs
  refine ints_of_row (by omega) (by simp [maxLen]; omega) (fun k hk => ?_)
  refine cell_last ?_
  simp [List.getD_eq_getElem?_getD, hk]
/-- Numbers and OK. -/
def Gives (L : List Int) (w : World) (e : Ending) (w' : World) : Prop := ∃ a c, e = .returned (.tuple #[.slice a L.length c, .int .i64 0]) ∧ Hid (Ints w' (.slice a L.length c) L) ∧ Below w.heap.size w w'
theorem gives_of {L : List Int} {p : List Int × Int} {w : World} (hp : p = (L, 0)) {e : Ending} {w' : World} (h : RetInts p.1 p.2 w e w') : Gives L w e w' := by
  subst hp
  obtain ⟨v, rfl, hv, hb⟩ := h
  obtain ⟨a, c, rfl, _⟩ := hv.shape
  exact ⟨a, c, rfl, hid hv, hb⟩
theorem aw_follow (v : Value) (w : World) (hv : Ints w v [10, 12, 13, 11, 8]) :
    Calls Try.prog 28 #[.agg #[.int .i64 2, .int .i64 (-1), .int .i64 1, .int .i64 5], .int .i64 10, v] w (Gives [10, 10, 11, 11, 10] w) :=
  (follow_all 2 (-1) 1 5 10 v _ w hv).mono fun e w' h => gives_of (by decide) h
theorem aw_real (v : Value) (w : World) (hv : Ints w v [10, 10, 11]) :
    Calls Try.prog 39 #[.agg #[.int .i64 2, .int .i64 (-1), .int .i64 1, .int .i64 5], v] w (Gives [10, 10, 13] w) :=
  (Real_any 2 (-1) 1 5 v _ w hv).mono fun e w' h => gives_of (by decide) h
theorem aw_memory (v : Value) (w : World) (hv : Ints w v [9, 14, 10, 13]) :
    Calls Try.prog 23 #[.agg #[.int .i64 2, .int .i64 (-1), .int .i64 1, .int .i64 5], v] w (Gives [1, 2, 3] w) :=
  (memory_any 2 (-1) 1 5 v _ w hv).mono fun e w' h => gives_of (by decide) h
theorem aw_turns (v : Value) (w : World) (hv : Ints w v [1, 3, 3, 2, 5, 5]) : Calls Try.prog 31 #[v] w (Gives [1, 3] w) :=
  (Turns_any v _ w hv).mono fun e w' h => gives_of (by decide) h
theorem aw_reals (v : Value) (w : World) (hv : Ints w v [10, 14]) :
    Calls Try.prog 33 #[.agg #[.int .i64 2, .int .i64 (-1), .int .i64 1, .int .i64 5], v] w fun e w' => ∃ a c, e = .returned (.tuple #[.slice a 2 c, .int .i64 0]) ∧ Hid (Pairs w' (.slice a 2 c) [(11, 12), (16, 16)]) ∧ Below w.heap.size w w' :=
  (Reals_any 2 (-1) 1 5 v _ w hv).mono fun e w' h => by
    have hp : realsF 2 (-1) 1 5 [10, 14] = ([(11, 12), (16, 16)], 0) := by decide
    rw [hp] at h
    obtain ⟨v, rfl, hv, hb⟩ := h
    obtain ⟨a, c, rfl, _⟩ := hv.shape
    exact ⟨a, c, rfl, hid hv, hb⟩
theorem aw_forgets (v : Value) (w : World) (hv : Ints w v [10, 13, 14, 9]) :
    Calls Try.prog 21 #[.agg #[.int .i64 2, .int .i64 (-1), .int .i64 1, .int .i64 5], v] w fun e w' => e = .returned (.tuple #[.int .i64 2, .int .i64 0]) ∧ Below w.heap.size w w' :=
  (forgets_any 2 (-1) 1 5 v _ w hv).mono fun e w' h => by
    have hp : forgetsF 2 (-1) 1 5 [10, 13, 14, 9] = (2, 0) := by decide
    rw [hp] at h
    exact h
theorem aw_add (w : World) :
    Calls Try.prog 25 #[.agg #[.int .i64 2, .int .i64 (-1), .int .i64 1, .int .i64 5], .agg #[.int .i64 3, .int .i64 0, .int .i64 2, .int .i64 5]] w fun e w' => e = .returned (.tuple #[.agg #[.int .i64 5, .int .i64 (-1), .int .i64 3, .int .i64 5], .int .i64 0]) ∧ Below w.heap.size w w' :=
  (add_any 2 (-1) 1 5 3 0 2 5 w).mono fun e w' h => by
    have hp : addF ⟨2, -1, 1, 5⟩ ⟨3, 0, 2, 5⟩ = (⟨5, -1, 3, 5⟩, 0) := by kernel_rfl
    rw [hp] at h
    exact h
theorem aw_moves (w : World) :
    Calls Try.prog 51 #[.agg #[.int .i64 2, .int .i64 (-1), .int .i64 1, .int .i64 5], .int .i64 1] w fun e w' => ∃ B o c, e = .returned (.tuple #[.slice (some ⟨B, o, none⟩) 5 c, .int .i64 0]) ∧ B < w'.heap.size ∧
      (w'.cell? ⟨B, o, none⟩ = some (.int .i64 0) ∧ w'.cell? ⟨B, o + 1, none⟩ = some (.int .i64 (-2)) ∧ w'.cell? ⟨B, o + 2, none⟩ = some (.int .i64 0)) ∧
      (w'.cell? ⟨B, o + 12, none⟩ = some (.int .i64 4) ∧ w'.cell? ⟨B, o + 13, none⟩ = some (.int .i64 0) ∧ w'.cell? ⟨B, o + 14, none⟩ = some (.int .i64 4)) ∧ Below w.heap.size w w' :=
  (Moves_any 2 (-1) 1 5 1 w).mono fun e w' h => by
    have hp : movesF 2 (-1) 1 5 1 = ([(0, -2, 0), (1, 0, 0), (2, 0, 0), (3, 0, 0), (4, 0, 4)], 0) := by decide
    rw [hp] at h
    obtain ⟨v, rfl, hv, hb⟩ := h
    obtain ⟨a, c, rfl, _⟩ := hv.shape
    obtain ⟨B, o, rfl, h1, h2, h3⟩ := hv.cellAt (k := 0) (by decide)
    obtain ⟨B', o', e, h4, h5, h6⟩ := hv.cellAt (k := 4) (by decide)
    cases e
    exact ⟨B, o, c, rfl, World.block_lt_of_cell? w' _ h1, ⟨h1, h2, h3⟩, ⟨h4, h5, h6⟩, hb⟩
end Go.Proofs.Ytdopgaljbpjpcaa
