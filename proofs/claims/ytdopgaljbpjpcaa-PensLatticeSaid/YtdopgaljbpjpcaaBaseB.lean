/- More small words: lists built by a call, what is handed back. -/
import Derived.Test.YtdopgaljbpjpcaaPenB
import Derived.Maps.AppendAt
namespace Go.Proofs.Ytdopgaljbpjpcaa
open Go.RowKit

theorem ints1_at (w : World) (x : Int) (B : Nat) (hB : w.heap.size = B) : Ints (w.alloc (.cells #[.int .i64 x] 3)) (.slice (some ⟨B, 0, none⟩) 1 1) [x] := by subst hB; exact ints1 w x
theorem ints2_at (w : World) (x y : Int) (B : Nat) (hB : w.heap.size = B) : Ints (w.alloc (.cells #[.int .i64 x, .int .i64 y] 3)) (.slice (some ⟨B, 0, none⟩) 2 2) [x, y] := by subst hB; exact ints2 w x y
theorem ints3_at (w : World) (x y z : Int) (B : Nat) (hB : w.heap.size = B) : Ints (w.alloc (.cells #[.int .i64 x, .int .i64 y, .int .i64 z] 3)) (.slice (some ⟨B, 0, none⟩) 3 3) [x, y, z] := by subst hB; exact ints3 w x y z
/-- The cell of a new block, in a later world. -/
theorem box_cell {w W : World} {vs : Array Value} {e : TypeId} (hb : Below (w.alloc (.cells vs e)).heap.size (w.alloc (.cells vs e)) W) {o : Nat} {v : Value} (h : vs[o]? = some v) : W.cell? ⟨w.heap.size, o, none⟩ = some v :=
  (hb.cell (p := ⟨w.heap.size, o, none⟩) (by simp)).trans (cell_last h)
/-- A slice of numbers and an error code are handed back; nothing that lay has turned. -/
def RetInts (xs : List Int) (err : Int) (w : World) (e : Ending) (w' : World) : Prop := ∃ v, e = .returned (.tuple #[v, .int .i64 err]) ∧ Ints w' v xs ∧ Below w.heap.size w w'
theorem Try.info3 : (Try.prog.info? 3).map (fun i => (i.zero, i.size, i.bytes)) = some (some (.int .i64 0), 1, 8) := by kernel_rfl
theorem ints_of_own {w : World} {base : Nat} {v : Value} {xs : List Int} (h : w.ownsRow base 3 1 v xs.length (xs.map (Value.int .i64))) : Ints w v xs := by
  have h' := h
  obtain ⟨hl, h2⟩ := h
  rcases h2 with ⟨rfl, h0⟩ | ⟨g, cap, cur, rfl, hg, hh, hn, hc, hs, ht⟩
  · have : xs = [] := List.eq_nil_of_length_eq_zero (by omega)
    subst this; exact Ints.nil
  · refine ⟨_, _, rfl, hn, hc, fun _ => ⟨g, 0, rfl, fun k hk => ?_⟩⟩
    have := h'.cellAt k (by omega)
    rw [Nat.zero_add, this]
    simp [List.getD_eq_getElem?_getD, hk]

end Go.Proofs.Ytdopgaljbpjpcaa
