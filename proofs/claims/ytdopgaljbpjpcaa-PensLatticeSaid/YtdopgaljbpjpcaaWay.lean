/- aneroidlaw03.abs, way. -/
import Derived.Test.YtdopgaljbpjpcaaPlainA
import Derived.Test.YtdopgaljbpjpcaaAwake
namespace Go.Proofs.Ytdopgaljbpjpcaa
open Go.RowKit

set_option maxHeartbeats 400000 in
theorem abs_same (n : Int) (w : World) (h1 : -1000000000 ≤ n) (h2 : n ≤ 1000000000) :
    Calls Try.prog 30 #[.int .i64 n] w fun e w' => e = .returned (.int .i64 (absN n)) ∧ w' = w := by
  go_enter Try.func30, Try.ntmps30
  go_wp2
  go_ret
  exact ⟨ret_int (by unfold absN; omega), rfl⟩

set_option maxRecDepth 20000 in
set_option maxHeartbeats 2000000 in
theorem way_any (v : Value) (xs : List Int) (w : World) (hv : Ints w v xs) (hb : Hid (∀ x ∈ xs, -100000 ≤ x ∧ x ≤ 100000)) (hl : xs.length ≤ 500) :
    Calls Try.prog 29 #[v] w fun e w' => e = .returned (.int .i64 (wayL xs)) ∧ Below w.heap.size w w' := by
  obtain ⟨a, c, rfl, hm⟩ := hv.shape
  have HV := hid hv; clear hv
  go_enter Try.func29, Try.ntmps29
  go_wp2_with fail
  go_loopw [3, 4] (fun n i wr => ∃ k : Nat, 1 ≤ k ∧ (k ≤ xs.length ∨ xs.length = 0) ∧ i = .int .i64 k ∧ n = .int .i64 (wayL (xs.take k)) ∧ Below w.heap.size w wr) (fun _ i _ => xs.length - (intOf i).toNat)
  case atStart =>
    refine ⟨1, by omega, by omega, rfl, ?_, Below.refl _ _⟩
    cases xs with
    | nil => rfl
    | cons x xs => simp [wayL]
  case round =>
    obtain ⟨k, hk1, hk, rfl, rfl, hbw⟩ := hrel
    by_cases hlt : k < xs.length
    · have HS : Hid (wayL (xs.take (k + 1)) = wayL (xs.take k) + absN (xs[k] - xs[k - 1])) := by
        have := wayL_take xs (k - 1) (by omega)
        simp only [show k - 1 + 2 = k + 1 by omega, show k - 1 + 1 = k by omega] at this
        exact this
      have hkp : k - 1 < xs.length := by omega
      have h1 := hb.out xs[k] (List.getElem_mem _)
      have h2 := hb.out xs[k - 1] (List.getElem_mem _)
      have h3 := wayL_bd (xs.take k) (fun x hx => hb.out x (List.mem_of_mem_take hx))
      have h3' : (xs.take k).length ≤ 500 := by simp; omega
      obtain ⟨b1, o1, rfl, c1⟩ := (HV.out.below hbw).cellAt hlt
      obtain ⟨b2, o2, e, c2⟩ := (HV.out.below hbw).cellAt hkp
      cases e
      generalize hx : xs[k] = x at *
      generalize hy : xs[k - 1] = y at *
      generalize hW : wayL (xs.take k) = W at *
      have HX := hid hx; have HY := hid hy; have HW := hid hW
      clear hx hy hW
      have f0 : (0 : Int) ≤ (k : Int) := by omega
      have f00 : (k : Int) < xs.length := by omega
      have f1 : (0 : Int) ≤ (k : Int) - 1 := by omega
      have f2 : (k : Int) - 1 < xs.length := by omega
      have f5 : -1000000000 ≤ x - y := by omega
      have f6 : x - y ≤ 1000000000 := by omega
      have f8 : 0 ≤ absN (x - y) ∧ absN (x - y) ≤ 200000 := by unfold absN; omega
      obtain ⟨f9, f10⟩ := f8
      obtain ⟨f11, f12⟩ := h3
      have f13 : W ≤ 1000000000 := by omega
      clear f12 h3'
      have f3 : ((k : Int) - 1).toNat = k - 1 := by omega
      have f4 : IntKind.i64.wrap ((k : Int) - 1) = (k : Int) - 1 := IntWalk.i64_in _ (by omega)
      have f7 : IntKind.i64.wrap (x - y) = x - y := IntWalk.i64_in _ (by omega)
      have f14 : IntKind.i64.wrap (W + absN (x - y)) = W + absN (x - y) := IntWalk.i64_in _ (by omega)
      go_wp2_with fail
      go_quiet ((go_at_call 30; exact Calls.quiet_of_same (abs_same _ _ f5 f6)))
      clear f3 f4 f7 f14
      go_wp2_with fail
      go_roundw
      case rel => exact ⟨k + 1, by omega, by omega, by go_num, by rw [HS.out], Bl.drewN hbw _⟩
      case measure => simp [intOf]; omega
    · have HF : Hid (wayL (xs.take k) = wayL xs) := by rw [List.take_of_length_le (by omega)]; rfl
      go_wp2_with fail
      go_ret
      exact ⟨ret_int HF.out, hbw⟩
end Go.Proofs.Ytdopgaljbpjpcaa
