/- Small words for the walks: endings, what lies below, slices of integers. -/
import Derived.Test.YtdopgaljbpjpcaaRows
import Derived.WalkKit
import Derived.WalkSpells
import Derived.WalkLawsBesides
namespace Go.Proofs.Ytdopgaljbpjpcaa
open Go.RowKit

theorem hid {p : Prop} (h : p) : Hid p := h
theorem ret_bool {a b : Bool} (h : a = b) : Ending.returned (.bool a) = .returned (.bool b) := by rw [h]
theorem ret_int {k : IntKind} {a b : Int} (h : a = b) : Ending.returned (.int k a) = .returned (.int k b) := by rw [h]
theorem Bl.alloc {a w : World} (h : Below a.heap.size a w) (o : Obj) : Below a.heap.size a (w.alloc o) := Below.alloc h h.size o
theorem Bl.drew {a w : World} (h : Below a.heap.size a w) : Below a.heap.size a w.drew := Below.drew h
theorem Bl.call {a w w' : World} (h : Below a.heap.size a w) (k : Below w.heap.size w w') : Below a.heap.size a w' := h.trans (k.mono h.size)
theorem bcell {W w1 : World} (hb : Below W.heap.size W w1) : (∀ b o, b < W.heap.size → w1.cell? ⟨b, o, none⟩ = W.cell? ⟨b, o, none⟩) ∧ (∀ b o, b < W.heap.size → w1.frozen? ⟨b, o, none⟩ = W.frozen? ⟨b, o, none⟩) :=
  ⟨fun b o h => hb.cell (p := ⟨b, o, none⟩) h, fun b o h => hb.frozen (p := ⟨b, o, none⟩) h⟩

/-- The value v is a slice that reads as the numbers xs. -/
def Ints (w : World) (v : Value) (xs : List Int) : Prop :=
  ∃ a c, v = .slice a xs.length c ∧ xs.length ≤ c ∧ c ≤ maxLen ∧
    (0 < xs.length → ∃ b o, a = some ⟨b, o, none⟩ ∧ ∀ k, k < xs.length → w.cell? ⟨b, o + k, none⟩ = some (.int .i64 (xs.getD k 0)))
theorem Ints.below {w w' : World} {v : Value} {xs : List Int} (h : Ints w v xs) (hb : Below w.heap.size w w') : Ints w' v xs := by
  obtain ⟨a, c, rfl, h1, h2, h3⟩ := h
  refine ⟨a, c, rfl, h1, h2, fun h0 => ?_⟩
  obtain ⟨b, o, rfl, h4⟩ := h3 h0
  refine ⟨b, o, rfl, fun k hk => ?_⟩
  have h5 := h4 k hk
  rw [hb.cell (p := ⟨b, o + k, none⟩) (World.block_lt_of_cell? w _ h5)]
  exact h5
theorem Ints.nil {w : World} : Ints w (.slice none 0 0) [] := ⟨none, 0, rfl, by simp, by simp, by simp⟩
theorem ints_of_row {w : World} {b o c : Nat} {xs : List Int} (h1 : xs.length ≤ c) (h2 : c ≤ maxLen) (h : ∀ k, k < xs.length → w.cell? ⟨b, o + k, none⟩ = some (.int .i64 (xs.getD k 0))) : Ints w (.slice (some ⟨b, o, none⟩) xs.length c) xs :=
  ⟨_, _, rfl, h1, h2, fun _ => ⟨b, o, rfl, h⟩⟩
theorem cell_last {w : World} {vs : Array Value} {e : TypeId} {k : Nat} {v : Value} (h : vs[k]? = some v) : (w.alloc (.cells vs e)).cell? ⟨w.heap.size, k, none⟩ = some v := by
  have : (w.alloc (.cells vs e)).heap[w.heap.size]? = some (.cells vs e) := heap_alloc_new w _
  unfold World.cell?; dsimp only; rw [this]; exact h
theorem ints1 (w : World) (x : Int) : Ints (w.alloc (.cells #[.int .i64 x] 3)) (.slice (some ⟨w.heap.size, 0, none⟩) 1 1) [x] :=
  ints_of_row (xs := [x]) (by simp) (by simp [maxLen]) (fun k hk => by
    have : k = 0 := by simpa using hk
    subst this; exact cell_last rfl)
theorem ints2 (w : World) (x y : Int) : Ints (w.alloc (.cells #[.int .i64 x, .int .i64 y] 3)) (.slice (some ⟨w.heap.size, 0, none⟩) 2 2) [x, y] :=
  ints_of_row (xs := [x, y]) (by simp) (by simp [maxLen]) (fun k hk => by
    have : k = 0 ∨ k = 1 := by simp at hk; omega
    rcases this with rfl | rfl <;> exact cell_last rfl)
theorem ints3 (w : World) (x y z : Int) : Ints (w.alloc (.cells #[.int .i64 x, .int .i64 y, .int .i64 z] 3)) (.slice (some ⟨w.heap.size, 0, none⟩) 3 3) [x, y, z] :=
  ints_of_row (xs := [x, y, z]) (by simp) (by simp [maxLen]) (fun k hk => by
    have : k = 0 ∨ k = 1 ∨ k = 2 := by simp at hk; omega
    rcases this with rfl | rfl | rfl <;> exact cell_last rfl)
/-- Where the first number is that satisfies p; -1: none does. -/
def idxOf (p : Int → Bool) (xs : List Int) : Int := match xs.findIdx? p with | some k => k | none => -1
theorem idxOf_hit {p : Int → Bool} {xs : List Int} {k : Nat} (hk : k < xs.length) (hp : p (xs.getD k 0) = true) (hn : ∀ j, j < k → p (xs.getD j 0) = false) : idxOf p xs = k := by
  have : xs.findIdx? p = some k := by
    rw [List.findIdx?_eq_some_iff_getElem]
    refine ⟨hk, by simpa [List.getD_eq_getElem?_getD, hk] using hp, fun j hj => ?_⟩
    have := hn j hj
    have hj' : j < xs.length := by omega
    simpa [List.getD_eq_getElem?_getD, hj'] using this
  simp [idxOf, this]
theorem idxOf_none {p : Int → Bool} {xs : List Int} (hn : ∀ j, j < xs.length → p (xs.getD j 0) = false) : idxOf p xs = -1 := by
  have : xs.findIdx? p = none := by
    rw [List.findIdx?_eq_none_iff]
    intro x hx
    obtain ⟨j, hj, rfl⟩ := List.getElem_of_mem hx
    have := hn j hj
    simpa [List.getD_eq_getElem?_getD, hj] using this
  simp [idxOf, this]
end Go.Proofs.Ytdopgaljbpjpcaa
