/- pens.Lowest, Highest and Real. -/
import Derived.Test.YtdopgaljbpjpcaaAll
namespace Go.Proofs.Ytdopgaljbpjpcaa
open Go.RowKit

theorem picks81 : Picks 81 (fun x _ => x.1) := by
  intro x d W
  go_enter Try.func81, Try.ntmps81
  go_wp2_with fail
  go_ret
  exact ⟨rfl, Bl.alloc (Below.refl _ _) _⟩
theorem picks83 : Picks 83 (fun x _ => x.2) := by
  intro x d W
  go_enter Try.func83, Try.ntmps83
  go_wp2_with fail
  go_ret
  exact ⟨rfl, Bl.alloc (Below.refl _ _) _⟩
theorem picks84 : Picks 84 (fun x d => mid3 x.1 x.2 d) := by
  intro x d W
  go_enter Try.func84, Try.ntmps84
  go_wp2_with fail
  refine (middle_at x.1 x.2 d _ _ (by simp)).mono ?_
  rintro e w1 ⟨rfl, hb1⟩
  go_wp2_with fail
  go_ret
  exact ⟨rfl, Bl.call (Bl.alloc (Below.refl _ _) _) (by assumption)⟩
theorem Lowest_any (b l h r : Int) (v : Value) (xs : List Int) (w : World) (hv : Ints w v xs) :
    Calls Try.prog 35 #[.agg #[.int .i64 b, .int .i64 l, .int .i64 h, .int .i64 r], v] w (RetInts (allF (fun x _ => x.1) b l h r xs).1 (allF (fun x _ => x.1) b l h r xs).2 w) := by
  go_enter Try.func35, Try.ntmps35
  go_wp2_with fail
  refine (all_any 81 (fun x _ => x.1) b l h r _ xs _ (hv.below (Bl.alloc (Below.refl _ _) _)) (enters_of Try.func81 (by kernel_rfl) rfl) picks81).mono ?_
  rintro e w1 ⟨v1, rfl, HI, hb1⟩
  have HI := hid HI
  go_wp2_with fail
  go_ret2
  exact ⟨_, rfl, HI.out, Bl.call (Bl.alloc (Below.refl _ _) _) (by assumption)⟩
theorem Highest_any (b l h r : Int) (v : Value) (xs : List Int) (w : World) (hv : Ints w v xs) :
    Calls Try.prog 37 #[.agg #[.int .i64 b, .int .i64 l, .int .i64 h, .int .i64 r], v] w (RetInts (allF (fun x _ => x.2) b l h r xs).1 (allF (fun x _ => x.2) b l h r xs).2 w) := by
  go_enter Try.func37, Try.ntmps37
  go_wp2_with fail
  refine (all_any 83 (fun x _ => x.2) b l h r _ xs _ (hv.below (Bl.alloc (Below.refl _ _) _)) (enters_of Try.func83 (by kernel_rfl) rfl) picks83).mono ?_
  rintro e w1 ⟨v1, rfl, HI, hb1⟩
  have HI := hid HI
  go_wp2_with fail
  go_ret2
  exact ⟨_, rfl, HI.out, Bl.call (Bl.alloc (Below.refl _ _) _) (by assumption)⟩
theorem Real_any (b l h r : Int) (v : Value) (xs : List Int) (w : World) (hv : Ints w v xs) :
    Calls Try.prog 39 #[.agg #[.int .i64 b, .int .i64 l, .int .i64 h, .int .i64 r], v] w (RetInts (allF (fun x d => mid3 x.1 x.2 d) b l h r xs).1 (allF (fun x d => mid3 x.1 x.2 d) b l h r xs).2 w) := by
  go_enter Try.func39, Try.ntmps39
  go_wp2_with fail
  refine (all_any 84 (fun x d => mid3 x.1 x.2 d) b l h r _ xs _ (hv.below (Bl.alloc (Below.refl _ _) _)) (enters_of Try.func84 (by kernel_rfl) rfl) picks84).mono ?_
  rintro e w1 ⟨v1, rfl, HI, hb1⟩
  have HI := hid HI
  go_wp2_with fail
  go_ret2
  exact ⟨_, rfl, HI.out, Bl.call (Bl.alloc (Below.refl _ _) _) (by assumption)⟩
end Go.Proofs.Ytdopgaljbpjpcaa
