/- pens.each and pens.choice.all. -/
import Derived.Test.YtdopgaljbpjpcaaRealC
namespace Go.Proofs.Ytdopgaljbpjpcaa
open Go.RowKit

/-- What the function g with the boxes lb tells of the elements of xs. -/
def Tells (g : Nat) (lb : Array Value) (p : Nat → Int × Int → Int) (xs : List (Int × Int)) (w : World) : Prop :=
  ∀ W k, (hk : k < xs.length) → Below w.heap.size w W → Calls Try.prog g (#[.int .i64 k, .agg #[.int .i64 xs[k].1, .int .i64 xs[k].2]] ++ lb) W fun e w' => e = .returned (.int .i64 (p k xs[k])) ∧ Below W.heap.size W w'
def eachTo (p : Nat → Int × Int → Int) (xs : List (Int × Int)) (k : Nat) : List Int := (List.range k).map fun i => p i (xs.getD i (0, 0))
theorem eachTo_succ (p : Nat → Int × Int → Int) (xs : List (Int × Int)) (k : Nat) (h : k < xs.length) : eachTo p xs (k + 1) = eachTo p xs k ++ [p k xs[k]] := by
  simp [eachTo, List.range_succ, List.getD_eq_getElem?_getD, h]
theorem eachTo_len (p : Nat → Int × Int → Int) (xs : List (Int × Int)) (k : Nat) : (eachTo p xs k).length = k := by simp [eachTo]

set_option maxRecDepth 20000 in
set_option maxHeartbeats 2000000 in
theorem each_any (v : Value) (xs : List (Int × Int)) (g : Nat) (lb : Array Value) (p : Nat → Int × Int → Int) (w : World) (hv : Pairs w v xs) (hn : xs.length ≤ 1000) (he : Enters Try.prog g) (hg : Tells g lb p xs w) :
    Calls Try.prog 111 #[v, .func (.func g) #[] lb] w fun e w' => ∃ v', e = .returned v' ∧ Hid (Ints w' v' (eachTo p xs xs.length)) ∧ Below w.heap.size w w' := by
  obtain ⟨a, c, rfl, hm⟩ := hv.shape
  have HG := hid hg; clear hg
  have he' : ∀ (args : Array Value) (w : World), (callFunc g args).run Try.prog w = .ok (.enter g args) w := he
  clear he
  obtain ⟨i0, hi, hz0, hz1, hz2⟩ := info_parts Try.info3
  go_enter Try.func111, Try.ntmps111
  go_wp2_with fail
  go_loopw [5, 10] (fun ou i wr => ∃ k : Nat, k ≤ xs.length ∧ i = .int .i64 k ∧ Below w.heap.size w wr ∧ wr.ownsRow w.heap.size 3 1 ou (eachTo p xs k).length ((eachTo p xs k).map (Value.int .i64))) (fun _ i _ => xs.length - (intOf i).toNat)
  case atStart => exact ⟨0, by omega, rfl, Below.refl _ _, World.ownsRow_nil _ _ _ _⟩
  case round =>
    obtain ⟨k, hk, rfl, hb, hown⟩ := hrel
    have hel := eachTo_len p xs k
    by_cases hlt : k < xs.length
    · obtain ⟨b, o, rfl, c1, c2⟩ := (hv.below hb).cellAt hlt
      go_wp2_with fail
      refine (HG.out _ k hlt (Bl.alloc hb _)).mono ?_
      rintro e w1 ⟨rfl, hb1⟩
      have hB1 := Bl.call (Bl.alloc hb _) hb1
      have hown1 := ownsRow_below2 (hown.alloc _) hb1
      go_wp2_with (at_builtin; refine wpList_append_own _ rfl _ _ 26 rfl w.heap.size 3 i0 (.int .i64 0) 1 8 Try.underlying26 hi hz0 hz1 hz2 rfl (by decide) _ _ _ rfl (hown1.alloc _) ⟨w1.heap.size, 0, none⟩ 1 1 [.int .i64 (p k xs[k])] rfl rfl (cell_one_new _ _ _) (by simp [Value.oneCell']) (by simp [maxLen]; omega) (by omega) (by have := hB1.size; simp; omega) ?_; intro v' w4 hown' hgrow _)
      have hb4 : Below w.heap.size w w4 := own_grow (Bl.alloc hB1 _) (Nat.le_refl _) (fun k hk => (hown1.lt k hk).1) hgrow
      go_roundw
      case rel => exact ⟨k + 1, by omega, by go_num, hb4, by rw [eachTo_succ _ _ _ hlt]; simpa using hown'⟩
      case measure => simp [intOf]; omega
    · have hkk : k = xs.length := by omega
      have HO : Hid (Ints wr u5 (eachTo p xs xs.length)) := by rw [← hkk]; exact hid (ints_of_own hown)
      clear hown
      go_wp2_with fail
      go_ret
      exact ⟨_, rfl, HO, hb⟩
end Go.Proofs.Ytdopgaljbpjpcaa
