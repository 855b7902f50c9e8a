/- The walk of the law PensMoves. -/
import Derived.Test.YtdopgaljbpjpcaaRMoves
import Derived.Test.YtdopgaljbpjpcaaKeeps
import Derived.Test.YtdopgaljbpjpcaaKeepsH
namespace Go.Proofs.Ytdopgaljbpjpcaa
open Go.RowKit
attribute [local go_sem] cell_reg

theorem rkeeps_h (b l h r : Int) (v : Value) (ms : List (Int × Int)) (w : World) (hv : Pairs w v ms) (y : Int) (hp : Hid (keepsF b l h r ms = y)) :
    Calls Try.prog 54 #[.agg #[.int .i64 b, .int .i64 l, .int .i64 h, .int .i64 r], v] w fun e w' => e = .returned (.int .i64 y) ∧ Below w.heap.size w w' :=
  (rKeeps_any b l h r v ms w hv).mono fun e w' k => by rw [hp.out] at k; exact k
theorem rmoves_h (b l h r o : Int) (w : World) (L : List (Int × Int × Int)) (y : Int) (hp : Hid (movesF b l h r o = (L, y))) :
    Calls Try.prog 52 #[.agg #[.int .i64 b, .int .i64 l, .int .i64 h, .int .i64 r], .int .i64 o] w (GivesT L y w) := (rMoves_any b l h r o w).mono fun _ _ k => givesT_of hp.out k
set_option maxRecDepth 100000 in
set_option maxHeartbeats 4000000 in
theorem walkMoves (b l h r : Int) (v : Value) (ms : List (Int × Int)) (o : Int) (w : World) (hv : Pairs w v ms) :
    Calls Try.prog 14 #[.agg #[.int .i64 b, .int .i64 l, .int .i64 h, .int .i64 r], v, .int .i64 o] w fun e w' => e = .returned (.bool true) ∧ Below w.heap.size w w' := by
  obtain ⟨L, y, hM⟩ : ∃ L y, Hid (movesF b l h r o = (L, y)) := ⟨_, _, rfl⟩
  obtain ⟨z, hK⟩ : ∃ z, Hid (keepsF b l h r ms = z) := ⟨_, rfl⟩
  obtain ⟨a, c, rfl, hm⟩ := hv.shape
  have HV := hid hv; clear hv
  go_enter Try.func14, Try.ntmps14
  go_wp2_with fail
  refine (awake_any _).mono ?_
  rintro e w1 ⟨rfl, hb1⟩
  have P1 := hid ((Pbx.new _ b l h r w 25 rfl).next hb1)
  have B1 := hid (bl1 hb1)
  clear hb1
  by_cases hn : 500 < ms.length
  · have h1 : decide (500 < ms.length) = true := by simpa using hn
    go_wp2_with fail
    go_ret
    exact ⟨rfl, B1.out⟩
  have h1 : decide (500 < ms.length) = false := by simpa using hn
  obtain ⟨q0, q1, q2, q3, q4⟩ := P1.out
  go_wp2_with fail
  refine (moves_h _ _ _ _ _ _ L y hM).mono ?_
  rintro e w2 ⟨a2, c2, rfl, v2, hb⟩
  clear q0 q1 q2 q3 q4
  have P2 := hid (P1.out.next hb)
  have B2 := hid (Bl.call B1.out hb)
  clear hb P1 B1
  obtain ⟨q0, q1, q2, q3, q4⟩ := P2.out
  go_wp2_with fail
  refine (rmoves_h _ _ _ _ _ _ L y hM).mono ?_
  rintro e w3 ⟨a3, c3, rfl, v3, hb⟩
  clear q0 q1 q2 q3 q4
  have P3 := hid (P2.out.next hb)
  have B3 := hid (Bl.call B2.out hb)
  have v2' := hid (v2.out.below hb)
  clear hb P2 B2 v2
  obtain ⟨q0, q1, q2, q3, q4⟩ := P3.out
  have hn2 : ms.length ≤ 1000 := by omega
  go_wp2_with fail
  refine wp_region_qb (by kernel_rfl) (by kernel_rfl) ?_
  repeat (go_big_quiet_step (first
    | (go_at_call 53; exact Calls.regrown_of (keeps_h _ _ _ _ _ ms _ ((HV.out.below B3.out).below (below_regrown _ _ _)) hn2 z hK))
    | (go_at_call 54; exact Calls.regrown_of (rkeeps_h _ _ _ _ _ ms _ ((HV.out.below B3.out).below (below_regrown _ _ _)) z hK))
    | (go_at_call 55; exact Calls.regrown_of (sameEdges_yes _ _ L _ (v2'.out.below (below_regrown _ _ _)) (v3.out.below (below_regrown _ _ _))))))
  refine wpQuiet_nil ?_
  intro w4 hb4
  go_wp2_with fail
  go_ret
  exact ⟨rfl, Bl.call B3.out hb4⟩
end Go.Proofs.Ytdopgaljbpjpcaa
