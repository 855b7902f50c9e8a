/- More that the laws' walks share: contracts whose result stands under a name. -/
import Derived.Test.YtdopgaljbpjpcaaLawTools
import Derived.Test.YtdopgaljbpjpcaaStarts
namespace Go.Proofs.Ytdopgaljbpjpcaa
open Go.RowKit

theorem starts_h (b l h r n : Int) (w : World) (a1 a2 y : Int) (hp : Hid (startsF b l h r n = ((a1, a2), y))) :
    Calls Try.prog 44 #[.agg #[.int .i64 b, .int .i64 l, .int .i64 h, .int .i64 r], .int .i64 n] w fun e w' => e = .returned (.tuple #[.agg #[.int .i64 a1, .int .i64 a2], .int .i64 y]) ∧ Below w.heap.size w w' :=
  (starts_any b l h r n w).mono fun e w' k => by rw [hp.out] at k; exact k
theorem step_h (b l h r s m n : Int) (w : World) (a1 a2 y : Int) (hp : Hid (stepF b l h r s m n = ((a1, a2), y))) :
    Calls Try.prog 46 #[.agg #[.int .i64 b, .int .i64 l, .int .i64 h, .int .i64 r], .agg #[.int .i64 s, .int .i64 m], .int .i64 n] w fun e w' => e = .returned (.tuple #[.agg #[.int .i64 a1, .int .i64 a2], .int .i64 y]) ∧ Below w.heap.size w w' :=
  (Step_any b l h r s m n w).mono fun e w' k => by rw [hp.out] at k; exact k
theorem swing_h (v : Value) (xs : List Int) (w : World) (hv : Ints w v xs) (a1 a2 y : Int) (hp : Hid (swingF xs = ((a1, a2), y))) :
    Calls Try.prog 43 #[v] w fun e w' => e = .returned (.tuple #[.agg #[.int .i64 a1, .int .i64 a2], .int .i64 y]) ∧ Below w.heap.size w w' :=
  (Swing_any v xs w hv).mono fun e w' k => by rw [hp.out] at k; exact k
theorem forgets_h (b l h r : Int) (v : Value) (xs : List Int) (w : World) (hv : Ints w v xs) (x y : Int) (hp : Hid (forgetsF b l h r xs = (x, y))) :
    Calls Try.prog 21 #[.agg #[.int .i64 b, .int .i64 l, .int .i64 h, .int .i64 r], v] w fun e w' => e = .returned (.tuple #[.int .i64 x, .int .i64 y]) ∧ Below w.heap.size w w' :=
  (forgets_any b l h r v xs w hv).mono fun e w' k => by unfold RetII at k; rw [hp.out] at k; exact k
theorem Ints.take {w : World} {a : Option Addr} {n c : Nat} {xs : List Int} (h : Ints w (.slice a n c) xs) {k : Nat} (hk : k ≤ xs.length) : Ints w (.slice a k c) (xs.take k) := by
  obtain ⟨a', c', e, h1, h2, h3⟩ := h
  simp only [Value.slice.injEq] at e
  obtain ⟨rfl, rfl, rfl⟩ := e
  have hl : (xs.take k).length = k := by simp; omega
  refine ⟨a, c, by rw [hl], by omega, h2, fun h0 => ?_⟩
  obtain ⟨b, o, rfl, h4⟩ := h3 (by omega)
  refine ⟨b, o, rfl, fun j hj => ?_⟩
  rw [h4 j (by omega)]
  have : j < k := by omega
  simp [List.getD_eq_getElem?_getD, this]
theorem startsF_cases {b l h r n a1 a2 y : Int} (hp : startsF b l h r n = ((a1, a2), y)) : (y ≠ 0) ∨ (y = 0 ∧ a1 = n - b ∧ a2 = n + b) := by
  unfold startsF at hp
  split at hp
  · rename_i h0; left; cases hp; exact h0
  · right; cases hp; exact ⟨rfl, rfl, rfl⟩
theorem Ints.cellQ {w : World} {a : Option Addr} {n c : Nat} {xs : List Int} (h : Ints w (.slice a n c) xs) {k : Nat} {x : Int} (hk : xs[k]? = some x) : ∃ b o, a = some ⟨b, o, none⟩ ∧ w.cell? ⟨b, o + k, none⟩ = some (.int .i64 x) := by
  obtain ⟨hl, e⟩ := List.getElem?_eq_some_iff.1 hk
  subst e
  exact h.cellAt hl
theorem Ints.cap {w : World} {a : Option Addr} {n c : Nat} {xs : List Int} (h : Ints w (.slice a n c) xs) : xs.length ≤ c ∧ c ≤ 9223372036854775807 := by
  obtain ⟨a', c', e, h1, h2, _⟩ := h
  simp only [Value.slice.injEq] at e
  obtain ⟨rfl, rfl, rfl⟩ := e
  exact ⟨h1, by unfold maxLen at h2; omega⟩
end Go.Proofs.Ytdopgaljbpjpcaa
