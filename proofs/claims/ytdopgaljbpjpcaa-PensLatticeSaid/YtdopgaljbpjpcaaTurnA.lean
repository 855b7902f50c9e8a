/- pens.turns: what it computes, the closure inside it, and its making. -/
import Derived.Test.YtdopgaljbpjpcaaFollowB
import Derived.Test.YtdopgaljbpjpcaaMemC
namespace Go.Proofs.Ytdopgaljbpjpcaa
open Go.RowKit

/-- The first index from i on at which a list differs from its i-th number, less i. -/
def nextI (xs : List Int) (i : Nat) : Int := idxOf (fun n => n != xs.getD i 0) (xs.drop i)
def turnB (xs : List Int) (i : Nat) : Bool :=
  decide (1 ≤ i) && ((xs.getD i 0 != xs.getD (i - 1) 0) && (decide (0 ≤ nextI xs i) && (decide (xs.getD i 0 < xs.getD (i + (nextI xs i).toNat) 0) == decide (xs.getD i 0 < xs.getD (i - 1) 0))))
def turnsTo (xs : List Int) (k : Nat) : List Int := ((List.range k).filter fun i => turnB xs i).map fun i : Nat => (i : Int)
def turnsL (xs : List Int) : List Int := turnsTo xs xs.length
theorem turnsTo_yes {xs : List Int} {k : Nat} (h : turnB xs k = true) : turnsTo xs (k + 1) = turnsTo xs k ++ [(k : Int)] := by
  simp [turnsTo, List.range_succ, List.filter_append, h]
theorem turnsTo_no {xs : List Int} {k : Nat} (h : turnB xs k = false) : turnsTo xs (k + 1) = turnsTo xs k := by
  simp [turnsTo, List.range_succ, List.filter_append, h]
theorem turnsTo_one (xs : List Int) : turnsTo xs 1 = [] := by
  simp [turnsTo, turnB]
theorem turnsTo_le (xs : List Int) (k : Nat) : (turnsTo xs k).length ≤ k := by
  have := List.length_filter_le (fun i : Nat => turnB xs i) (List.range k)
  simpa [turnsTo] using this
theorem nextI_bd (xs : List Int) (i : Nat) (hi : i < xs.length) (h : 0 ≤ nextI xs i) : i + (nextI xs i).toNat < xs.length := by
  unfold nextI idxOf at *
  cases e : (xs.drop i).findIdx? (fun n => n != xs.getD i 0) with
  | none => rw [e] at h; simp at h
  | some k =>
    obtain ⟨hk, _⟩ := List.findIdx?_eq_some_iff_getElem.1 e
    simp at hk ⊢
    omega

set_option maxRecDepth 20000 in
theorem turns11_any (a : Option Addr) (c : Nat) (xs : List Int) (k B C : Nat) (x : Int) (w : World) (hv : Ints w (.slice a xs.length c) xs) (hk : k < xs.length)
    (h1 : w.cell? ⟨B, 0, none⟩ = some (.slice a xs.length c)) (h2 : w.cell? ⟨C, 0, none⟩ = some (.int .i64 k)) :
    Calls Try.prog 105 #[.int .i64 x, .pointer (some ⟨B, 0, none⟩), .pointer (some ⟨C, 0, none⟩)] w fun e w' => e = .returned (.bool (x != xs.getD k 0)) ∧ w = w' := by
  obtain ⟨b0, o0, rfl, cx⟩ := hv.cellAt hk
  have e1 : (0 : Int) ≤ (k : Int) := by omega
  have e2 : (k : Int) < xs.length := by omega
  have hg : xs.getD k 0 = xs[k] := by simp [List.getD_eq_getElem?_getD, hk]
  rw [hg]
  clear hg
  go_enter Try.func105, Try.ntmps105
  go_wp2_with fail
  go_ret
  exact ⟨rfl, rfl⟩
theorem turns_any (a : Option Addr) (n c : Nat) (w : World) :
    Calls Try.prog 78 #[.slice a n c] w fun e w' => e = .returned (.func (.func 103) #[] #[.pointer (some ⟨w.heap.size, 0, none⟩)]) ∧ w' = w.alloc (.cells #[.slice a n c] 26) := by
  go_enter Try.func78, Try.ntmps78
  go_wp2_with fail
  go_ret
  exact ⟨rfl, rfl⟩
end Go.Proofs.Ytdopgaljbpjpcaa
