/- Contracts of the leaf functions. -/
import Derived.Test.YtdopgaljbpjpcaaBase
namespace Go.Proofs.Ytdopgaljbpjpcaa
open Go.RowKit

def withinB (n lo hi : Int) : Bool := decide (lo ≤ n) && decide (n ≤ hi)
def lvl (n : Int) : Bool := withinB n (-50000) 50000
def penOk (b l h r : Int) : Bool := decide (0 ≤ b ∧ b ≤ 8 ∧ -200 ≤ l ∧ l ≤ h ∧ h ≤ 200 ∧ h - l ≤ 40 ∧ 0 ≤ r ∧ r ≤ 12000)
def checkE (b l h r : Int) : Int := if penOk b l h r = true then 0 else 30
def lazyN (b s n : Int) : Int := max (n - b) (min (n + b) s)

set_option maxHeartbeats 400000 in
theorem within_any (a b c : Int) (w : World) :
    Calls Try.prog 71 #[.int .i64 a, .int .i64 b, .int .i64 c] w fun e w' => e = .returned (.bool (withinB a b c)) ∧ w = w' := by
  go_enter Try.func71, Try.ntmps71
  go_wp2
  all_goals
    go_ret
    exact ⟨ret_bool (by simp [withinB]; try omega), rfl⟩

set_option maxHeartbeats 400000 in
theorem rwithin_any (a b c : Int) (w : World) :
    Calls Try.prog 69 #[.int .i64 a, .int .i64 b, .int .i64 c] w fun e w' => e = .returned (.bool (withinB a b c)) ∧ w = w' := by
  go_enter Try.func69, Try.ntmps69
  go_wp2
  all_goals
    go_ret
    exact ⟨ret_bool (by simp [withinB]; try omega), rfl⟩

set_option maxHeartbeats 400000 in
theorem level_any (a : Int) (w : World) :
    Calls Try.prog 98 #[.int .i64 a] w fun e w' => e = .returned (.bool (lvl a)) ∧ w = w' := by
  go_enter Try.func98, Try.ntmps98
  go_wp2_with (go_at_call 71; refine (within_any _ _ _ _).mono ?_; rintro e w' ⟨rfl, rfl⟩)
  go_ret
  exact ⟨rfl, rfl⟩

set_option maxHeartbeats 400000 in
theorem rlevel_any (a : Int) (w : World) :
    Calls Try.prog 86 #[.int .i64 a] w fun e w' => e = .returned (.bool (lvl a)) ∧ w = w' := by
  go_enter Try.func86, Try.ntmps86
  go_wp2_with (go_at_call 69; refine (rwithin_any _ _ _ _).mono ?_; rintro e w' ⟨rfl, rfl⟩)
  go_ret
  exact ⟨rfl, rfl⟩

set_option maxHeartbeats 400000 in
theorem asked1_any (a : Int) (w : World) :
    Calls Try.prog 97 #[.int .i64 a] w fun e w' => e = .returned (.bool (!lvl a)) ∧ w = w' := by
  go_enter Try.func97, Try.ntmps97
  go_wp2_with (go_at_call 98; refine (level_any _ _).mono ?_; rintro e w' ⟨rfl, rfl⟩)
  go_ret
  exact ⟨rfl, rfl⟩

set_option maxHeartbeats 400000 in
theorem list1_any (a : Int) (w : World) :
    Calls Try.prog 99 #[.int .i64 a] w fun e w' => e = .returned (.bool (!lvl a)) ∧ w = w' := by
  go_enter Try.func99, Try.ntmps99
  go_wp2_with (go_at_call 98; refine (level_any _ _).mono ?_; rintro e w' ⟨rfl, rfl⟩)
  go_ret
  exact ⟨rfl, rfl⟩

set_option maxHeartbeats 400000 in
theorem apart_any (a b : Int) (w : World) (ha : -1000000 ≤ a ∧ a ≤ 1000000) (hb : -1000000 ≤ b ∧ b ≤ 1000000) :
    Calls Try.prog 66 #[.int .i64 a, .int .i64 b] w fun e w' => e = .returned (.int .i64 (max (a - b) (b - a))) ∧ w = w' := by
  obtain ⟨ha1, ha2⟩ := ha
  obtain ⟨hb1, hb2⟩ := hb
  go_enter Try.func66, Try.ntmps66
  go_wp2
  all_goals
    go_ret
    exact ⟨ret_int (by first | rfl | omega), rfl⟩

set_option maxHeartbeats 400000 in
theorem lazy_any (b s n : Int) (w : World) (h1 : -1000000 ≤ n) (h2 : n ≤ 1000000) (h3 : 0 ≤ b) (h4 : b ≤ 1000000) :
    Calls Try.prog 42 #[.int .i64 b, .int .i64 s, .int .i64 n] w fun e w' => e = .returned (.int .i64 (lazyN b s n)) ∧ w = w' := by
  go_enter Try.func42, Try.ntmps42
  go_wp2
  all_goals
    go_ret
    exact ⟨ret_int (by unfold lazyN; first | rfl | omega), rfl⟩

set_option maxHeartbeats 400000 in
theorem middle3_any (a b c : Int) (w : World) :
    Calls Try.prog 57 #[.int .i64 a, .int .i64 b, .int .i64 c] w fun e w' => e = .returned (.int .i64 (max (max (min a b) (min b c)) (min a c))) ∧ w = w' := by
  go_enter Try.func57, Try.ntmps57
  go_wp2
  all_goals
    go_ret
    exact ⟨ret_int (by first | rfl | omega), rfl⟩


set_option maxHeartbeats 800000 in
theorem check_any (b l h r : Int) (w : World) :
    Calls Try.prog 49 #[.agg #[.int .i64 b, .int .i64 l, .int .i64 h, .int .i64 r]] w fun e w' => e = .returned (.int .i64 (checkE b l h r)) ∧ Below w.heap.size w w' := by
  go_enter Try.func49, Try.ntmps49
  go_wp2_with (go_at_call 71; refine (within_any _ _ _ _).mono ?_; rintro e w' ⟨rfl, rfl⟩)
  all_goals
    go_ret
    refine ⟨ret_int ?_, Bl.alloc (Bl.alloc (Below.refl _ _) _) _⟩
    simp [withinB, wrap64] at *
    unfold checkE penOk
    split <;> first | rfl | (exfalso; simp at *; omega)

set_option maxHeartbeats 800000 in
theorem rcheck_any (b l h r : Int) (w : World) :
    Calls Try.prog 50 #[.agg #[.int .i64 b, .int .i64 l, .int .i64 h, .int .i64 r]] w fun e w' => e = .returned (.int .i64 (checkE b l h r)) ∧ Below w.heap.size w w' := by
  go_enter Try.func50, Try.ntmps50
  go_wp2_with (go_at_call 69; refine (rwithin_any _ _ _ _).mono ?_; rintro e w' ⟨rfl, rfl⟩)
  all_goals
    go_ret
    refine ⟨ret_int ?_, (Bl.alloc (Below.refl _ _) _)⟩
    simp [withinB] at *
    unfold checkE penOk
    split <;> first | rfl | (exfalso; simp at *; omega)
end Go.Proofs.Ytdopgaljbpjpcaa
