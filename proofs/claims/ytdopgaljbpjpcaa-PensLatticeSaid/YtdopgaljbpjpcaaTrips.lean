/- Slices of edges: three numbers an element. -/
import Derived.Test.YtdopgaljbpjpcaaLow
namespace Go.Proofs.Ytdopgaljbpjpcaa
open Go.RowKit

/-- The value v is a slice of structs of three numbers that reads as xs. -/
def Trips (w : World) (v : Value) (xs : List (Int × Int × Int)) : Prop :=
  ∃ a c, v = .slice a xs.length c ∧ xs.length ≤ c ∧ c ≤ maxLen ∧
    (0 < xs.length → ∃ b o, a = some ⟨b, o, none⟩ ∧ ∀ k, (hk : k < xs.length) → w.cell? ⟨b, o + k * 3, none⟩ = some (.int .i64 xs[k].1) ∧ w.cell? ⟨b, o + k * 3 + 1, none⟩ = some (.int .i64 xs[k].2.1) ∧ w.cell? ⟨b, o + k * 3 + 2, none⟩ = some (.int .i64 xs[k].2.2))
theorem Trips.below {w w' : World} {v : Value} {xs : List (Int × Int × Int)} (h : Trips w v xs) (hb : Below w.heap.size w w') : Trips w' v xs := by
  obtain ⟨a, c, rfl, h1, h2, h3⟩ := h
  refine ⟨a, c, rfl, h1, h2, fun h0 => ?_⟩
  obtain ⟨b, o, rfl, h4⟩ := h3 h0
  refine ⟨b, o, rfl, fun k hk => ?_⟩
  obtain ⟨c1, c2, c3⟩ := h4 k hk
  exact ⟨(hb.cell (World.block_lt_of_cell? w _ c1)).trans c1, (hb.cell (World.block_lt_of_cell? w _ c2)).trans c2, (hb.cell (World.block_lt_of_cell? w _ c3)).trans c3⟩
theorem Trips.nil {w : World} : Trips w (.slice none 0 0) [] := ⟨none, 0, rfl, by simp, by simp, by simp⟩
theorem Trips.shape {w : World} {v : Value} {xs : List (Int × Int × Int)} (h : Trips w v xs) : ∃ a c, v = .slice a xs.length c ∧ xs.length ≤ 9223372036854775807 := by
  obtain ⟨a, c, rfl, h1, h2, _⟩ := h
  exact ⟨a, c, rfl, by simp [maxLen] at h2; omega⟩
theorem Trips.cellAt {w : World} {a : Option Addr} {n c : Nat} {xs : List (Int × Int × Int)} (h : Trips w (.slice a n c) xs) {k : Nat} (hk : k < xs.length) :
    ∃ b o, a = some ⟨b, o, none⟩ ∧ w.cell? ⟨b, o + k * 3, none⟩ = some (.int .i64 xs[k].1) ∧ w.cell? ⟨b, o + k * 3 + 1, none⟩ = some (.int .i64 xs[k].2.1) ∧ w.cell? ⟨b, o + k * 3 + 2, none⟩ = some (.int .i64 xs[k].2.2) := by
  obtain ⟨a', c', e, h1, h2, h3⟩ := h
  cases e
  obtain ⟨b, o, rfl, h4⟩ := h3 (by omega)
  exact ⟨b, o, rfl, h4 k hk⟩
def flat3 (xs : List (Int × Int × Int)) : List Value := xs.flatMap fun x => [.int .i64 x.1, .int .i64 x.2.1, .int .i64 x.2.2]
theorem flat3_at : ∀ (xs : List (Int × Int × Int)) (k : Nat), (hk : k < xs.length) → (flat3 xs)[k * 3]? = some (.int .i64 xs[k].1) ∧ (flat3 xs)[k * 3 + 1]? = some (.int .i64 xs[k].2.1) ∧ (flat3 xs)[k * 3 + 2]? = some (.int .i64 xs[k].2.2)
  | x :: xs, 0, _ => by simp [flat3]
  | x :: xs, k + 1, hk => by
    have := flat3_at xs k (by simpa using hk)
    simp only [flat3, List.flatMap_cons, List.getElem_cons_succ] at this ⊢
    refine ⟨?_, ?_, ?_⟩
    · rw [show (k + 1) * 3 = k * 3 + 1 + 1 + 1 by omega]; simpa using this.1
    · rw [show (k + 1) * 3 + 1 = k * 3 + 1 + 1 + 1 + 1 by omega]; simpa using this.2.1
    · rw [show (k + 1) * 3 + 2 = k * 3 + 2 + 1 + 1 + 1 by omega]; simpa using this.2.2
theorem trips_of_own {w : World} {base e : Nat} {v : Value} {xs : List (Int × Int × Int)} (h : w.ownsRow base e 3 v xs.length (flat3 xs)) : Trips w v xs := by
  have h' := h
  obtain ⟨hl, h2⟩ := h
  rcases h2 with ⟨rfl, h0⟩ | ⟨g, cap, cur, rfl, hg, hh, hn, hc, hs, ht⟩
  · have : xs = [] := List.eq_nil_of_length_eq_zero (by omega)
    subst this; exact Trips.nil
  · refine ⟨_, _, rfl, hn, hc, fun _ => ⟨g, 0, rfl, fun k hk => ?_⟩⟩
    obtain ⟨f1, f2, f3⟩ := flat3_at xs k hk
    have g1 := h'.cellAt (k * 3) (by omega)
    have g2 := h'.cellAt (k * 3 + 1) (by omega)
    have g3 := h'.cellAt (k * 3 + 2) (by omega)
    simp only [Nat.zero_add]
    refine ⟨?_, ?_, ?_⟩
    · rw [g1]; simp [f1]
    · rw [g2]; simp [f2]
    · rw [g3]; simp [f3]
theorem cell_three_new (w : World) (x y z : Value) (t : TypeId) : ∀ j u, [x, y, z][j]? = some u → (w.alloc (.cells #[x, y, z] t)).cell? ((⟨w.heap.size, 0, none⟩ : Addr).add j) = some u := by
  intro j u hj
  match j, hj with
  | 0, hj => simp at hj; subst hj; simp [Addr.add]
  | 1, hj => simp at hj; subst hj; simp [Addr.add]
  | 2, hj => simp at hj; subst hj; simp [Addr.add]
theorem Try.info72 : (Try.prog.info? 72).map (fun i => (i.zero, i.size, i.bytes)) = some (some (.agg #[.int .i64 0, .int .i64 0, .int .i64 0]), 3, 24) := by kernel_rfl
/-- Edges and an error. -/
def RetTE (ps : List (Int × Int × Int)) (err : Int) (w : World) (e : Ending) (w' : World) : Prop := ∃ v, e = .returned (.tuple #[v, .int .i64 err]) ∧ Trips w' v ps ∧ Below w.heap.size w w'
def mHi (b r o t : Int) : Int := if t = b then r - b + o else 0
def mLo (b r o t : Int) : Int := if t = -b then -r + b + o else 0
def moveK (b r o t : Int) : Bool := decide (mLo b r o t ≤ 0) && (decide (0 ≤ mHi b r o t) && (!(mLo b r o t == 0 && mHi b r o t == 0) || decide (apartN t o ≤ r)))
def movesTo (b r o : Int) (k : Nat) : List (Int × Int × Int) := ((List.range k).filter fun i : Nat => moveK b r o ((i : Int) - b)).map fun i : Nat => ((i : Int), mLo b r o ((i : Int) - b), mHi b r o ((i : Int) - b))
def movesL (b r o : Int) : List (Int × Int × Int) := movesTo b r o (2 * b + 1).toNat
def movesF (b l h r o : Int) : List (Int × Int × Int) × Int := if penOk b l h r = true then (if withinB o (-b) b = true then (movesL b r o, 0) else ([], 1)) else ([], 30)
theorem movesTo_le (b r o : Int) (k : Nat) : (movesTo b r o k).length ≤ k := by
  have := List.length_filter_le (fun i : Nat => moveK b r o ((i : Int) - b)) (List.range k)
  simpa [movesTo] using this
theorem movesTo_no {b r o : Int} {k : Nat} (h : moveK b r o ((k : Int) - b) = false) : movesTo b r o (k + 1) = movesTo b r o k := by
  simp [movesTo, List.range_succ, List.filter_append, h]
theorem movesTo_yes {b r o lo hi : Int} {k : Nat} (h : moveK b r o ((k : Int) - b) = true) (h1 : mLo b r o ((k : Int) - b) = lo) (h2 : mHi b r o ((k : Int) - b) = hi) : movesTo b r o (k + 1) = movesTo b r o k ++ [((k : Int), lo, hi)] := by
  simp [movesTo, List.range_succ, List.filter_append, h, h1, h2]
end Go.Proofs.Ytdopgaljbpjpcaa
