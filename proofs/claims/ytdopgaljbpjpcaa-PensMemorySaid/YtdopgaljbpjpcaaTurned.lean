/- aneroidlaw03.turned; abs of any number. -/
import Derived.Test.YtdopgaljbpjpcaaLawTools
import Derived.Test.YtdopgaljbpjpcaaPlainT
namespace Go.Proofs.Ytdopgaljbpjpcaa
open Go.RowKit

set_option maxHeartbeats 400000 in
theorem abs_w (n : Int) (w : World) :
    Calls Try.prog 30 #[.int .i64 n] w fun e w' => e = .returned (.int .i64 (max n (wrap64 (-n)))) ∧ w = w' := by
  go_enter Try.func30, Try.ntmps30
  go_wp2
  go_ret
  exact ⟨rfl, rfl⟩
theorem negL_snoc {xs : List Int} {k : Nat} (h : k < xs.length) : negL (xs.take (k + 1)) = negL (xs.take k) ++ [-xs[k]] := by
  unfold negL; rw [List.take_succ_eq_append_getElem h, List.map_append]; rfl
set_option maxRecDepth 20000 in
set_option maxHeartbeats 1000000 in
theorem turned_any (v : Value) (xs : List Int) (w : World) (hv : Ints w v xs) (hn : xs.length ≤ 1000) (hx : Hid (∀ x ∈ xs, -1000000 ≤ x ∧ x ≤ 1000000)) :
    Calls Try.prog 32 #[v] w fun e w' => ∃ a c, e = .returned (.slice a xs.length c) ∧ Hid (Ints w' (.slice a xs.length c) (negL xs)) ∧ Below w.heap.size w w' := by
  obtain ⟨a, c, rfl, hm⟩ := hv.shape
  obtain ⟨i0, hi, hz0, hz1, hz2⟩ := info_parts Try.info3
  go_enter Try.func32, Try.ntmps32
  go_wp2_with fail
  go_loopw [3, 4] (fun ou i wr => ∃ k : Nat, k ≤ xs.length ∧ i = .int .i64 k ∧ Below w.heap.size w wr ∧ wr.ownsRow w.heap.size 3 1 ou (negL (xs.take k)).length ((negL (xs.take k)).map (Value.int .i64))) (fun _ i _ => xs.length - (intOf i).toNat)
  case atStart => exact ⟨0, by omega, rfl, Below.refl _ _, World.ownsRow_nil _ _ _ _⟩
  case round =>
    obtain ⟨k, hk, rfl, hb, hown⟩ := hrel
    have hel : (negL (xs.take k)).length = k := by rw [negL_len]; simp; omega
    by_cases hlt : k < xs.length
    · obtain ⟨b, o, rfl, c1⟩ := (hv.below hb).cellAt hlt
      have hxb := hx.out xs[k] (List.getElem_mem _)
      have HS := hid (negL_snoc hlt)
      generalize xs[k] = x at *
      obtain ⟨hx1, hx2⟩ := hxb
      go_wp2_with (at_builtin; refine wpList_append_own _ rfl _ _ 26 rfl w.heap.size 3 i0 (.int .i64 0) 1 8 Try.underlying26 hi hz0 hz1 hz2 rfl (by decide) _ _ _ rfl (hown.alloc _) ⟨wr.heap.size, 0, none⟩ 1 1 [.int .i64 (-x)] rfl rfl (cell_one_new _ _ _) (by simp [Value.oneCell']) (by simp [maxLen]; omega) (by omega) (by have := hb.size; simp; omega) ?_; intro v' w4 hown' hgrow _)
      have hb4 : Below w.heap.size w w4 := own_grow (Bl.alloc hb _) (Nat.le_refl _) (fun k hk => (hown.lt k hk).1) hgrow
      go_roundw
      case rel => exact ⟨k + 1, by omega, by go_num, hb4, by rw [HS.out]; simpa using hown'⟩
      case measure => simp [intOf]; omega
    · have HE : Hid (negL (xs.take k) = negL xs) := by rw [List.take_of_length_le (by omega)]; rfl
      have HO := hid (ints_of_own hown)
      obtain ⟨ao, co, rfl⟩ := own_shape hown
      clear hown
      go_wp2_with fail
      go_ret
      have hlen : (negL (xs.take k)).length = xs.length := by omega
      have h1 := HO.out
      rw [hlen, HE.out] at h1
      exact ⟨ao, co, congrArg (fun n => Ending.returned (.slice ao n co)) hlen, hid h1, hb⟩
end Go.Proofs.Ytdopgaljbpjpcaa
