/- slices.IndexFunc, slices.ContainsFunc at []int. -/
import Derived.Test.YtdopgaljbpjpcaaLeaf
import Derived.Shelf.Abstract
namespace Go.Proofs.Ytdopgaljbpjpcaa
open Go.RowKit

/-- What a function value answers: p, and it turns nothing. -/
def Pays (g : Nat) (lb : Array Value) (p : Int → Bool) (w : World) : Prop :=
  ∀ W x, Below w.heap.size w W → Calls Try.prog g (#[.int .i64 x] ++ lb) W fun e w' => e = .returned (.bool (p x)) ∧ Below W.heap.size W w'

set_option maxHeartbeats 400000 in
set_option maxRecDepth 20000 in
theorem indexFunc_any (v : Value) (xs : List Int) (g : Nat) (lb : Array Value) (p : Int → Bool) (w : World) (hv : Ints w v xs) (he : Enters Try.prog g) (hg : Pays g lb p w) :
    Calls Try.prog 104 #[v, .func (.func g) #[] lb] w fun e w' => e = .returned (.int .i64 (idxOf p xs)) ∧ Below w.heap.size w w' := by
  obtain ⟨a, c, rfl, hlc, hcm, hx⟩ := hv
  have HG := hid hg; clear hg
  have HX := hid hx; clear hx
  have he' : ∀ (args : Array Value) (w : World), (callFunc g args).run Try.prog w = .ok (.enter g args) w := he
  clear he
  unfold maxLen at hcm
  go_enter Try.func104, Try.ntmps104
  go_wp2_with fail
  go_loopw [8] (fun i wr => ∃ k : Nat, k ≤ xs.length ∧ i = .int .i64 k ∧ Below w.heap.size w wr ∧ Hid (∀ j, j < k → p (xs.getD j 0) = false)) (fun i _ => xs.length - (intOf i).toNat)
  case atStart => exact ⟨0, by omega, rfl, Below.refl _ _, fun j hj => by omega⟩
  case round =>
    obtain ⟨k, hk, rfl, hb, HN⟩ := hrel
    by_cases hlt : k < xs.length
    · obtain ⟨b, o, rfl, hc⟩ := HX.out (by omega)
      have hc1 := (hb.cell (p := ⟨b, o + k, none⟩) (World.block_lt_of_cell? w _ (hc k hlt))).trans (hc k hlt)
      clear hc
      go_wp2_with fail
      refine (HG.out _ _ hb).mono ?_
      rintro e w1 ⟨rfl, hb1⟩
      have hxk : Hid (xs[k] = xs.getD k 0) := by simp [Hid, List.getD_eq_getElem?_getD, hlt]
      cases hp : p xs[k]
      · go_wp2
        go_roundw
        case rel =>
          refine ⟨k + 1, by omega, by go_num, Bl.call hb hb1, fun j hj => ?_⟩
          by_cases e : j = k
          · subst e; rw [← hxk.out]; exact hp
          · exact HN.out j (by omega)
        case measure => simp [intOf]; omega
      · go_wp2
        go_ret
        exact ⟨ret_int (by rw [idxOf_hit hlt (by rw [← hxk.out]; exact hp) HN.out]), Bl.call hb hb1⟩
    · go_wp2_with fail
      go_ret
      exact ⟨ret_int (by rw [idxOf_none (fun j hj => HN.out j (by omega))]), hb⟩

def anyB (p : Int → Bool) (xs : List Int) : Bool := xs.any p
theorem anyB_idx (p : Int → Bool) (xs : List Int) : decide (0 ≤ idxOf p xs) = anyB p xs := by
  unfold idxOf anyB
  cases h : xs.findIdx? p with
  | some k =>
    obtain ⟨hk, hp, _⟩ := List.findIdx?_eq_some_iff_getElem.1 h
    simp
    exact ⟨_, List.getElem_mem hk, hp⟩
  | none => simp; simpa using h

set_option maxHeartbeats 400000 in
theorem containsFunc_any (v : Value) (xs : List Int) (g : Nat) (lb : Array Value) (p : Int → Bool) (w : World) (hv : Ints w v xs) (he : Enters Try.prog g) (hg : Pays g lb p w) :
    Calls Try.prog 96 #[v, .func (.func g) #[] lb] w fun e w' => e = .returned (.bool (anyB p xs)) ∧ Below w.heap.size w w' := by
  have hd := anyB_idx p xs
  have HD := hid hd; clear hd
  go_enter Try.func96, Try.ntmps96
  go_wp2_with (go_at_call 104; refine (indexFunc_any v xs g lb p _ hv he hg).mono ?_; rintro e w' ⟨rfl, hb⟩)
  go_ret
  exact ⟨ret_bool HD.out, by assumption⟩
end Go.Proofs.Ytdopgaljbpjpcaa
