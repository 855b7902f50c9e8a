/- pens.Keeps and pens.Moves, their results under names. -/
import Derived.Test.YtdopgaljbpjpcaaKeeps
import Derived.Test.YtdopgaljbpjpcaaLawMore
import Derived.Test.YtdopgaljbpjpcaaMovesB
namespace Go.Proofs.Ytdopgaljbpjpcaa
open Go.RowKit

theorem keeps_h (b l h r : Int) (v : Value) (ms : List (Int × Int)) (w : World) (hv : Pairs w v ms) (hn : ms.length ≤ 1000) (y : Int) (hp : Hid (keepsF b l h r ms = y)) :
    Calls Try.prog 53 #[.agg #[.int .i64 b, .int .i64 l, .int .i64 h, .int .i64 r], v] w fun e w' => e = .returned (.int .i64 y) ∧ Below w.heap.size w w' :=
  (Keeps_any b l h r v ms w hv hn).mono fun e w' k => by rw [hp.out] at k; exact k
/-- Edges and an error. -/
def GivesT (L : List (Int × Int × Int)) (y : Int) (w : World) (e : Ending) (w' : World) : Prop := ∃ a c, e = .returned (.tuple #[.slice a L.length c, .int .i64 y]) ∧ Hid (Trips w' (.slice a L.length c) L) ∧ Below w.heap.size w w'
theorem givesT_of {L : List (Int × Int × Int)} {y : Int} {p : List (Int × Int × Int) × Int} {w : World} (hp : p = (L, y)) {e : Ending} {w' : World} (h : RetTE p.1 p.2 w e w') : GivesT L y w e w' := by
  subst hp
  obtain ⟨v, rfl, hv, hb⟩ := h
  obtain ⟨a, c, rfl, _⟩ := hv.shape
  exact ⟨a, c, rfl, hid hv, hb⟩
theorem moves_h (b l h r o : Int) (w : World) (L : List (Int × Int × Int)) (y : Int) (hp : Hid (movesF b l h r o = (L, y))) :
    Calls Try.prog 51 #[.agg #[.int .i64 b, .int .i64 l, .int .i64 h, .int .i64 r], .int .i64 o] w (GivesT L y w) := (Moves_any b l h r o w).mono fun _ _ k => givesT_of hp.out k
theorem pairs_lit1 (w : World) (B : Nat) (hB : w.heap.size = B) (t : TypeId) (a b : Int) : Pairs (w.alloc (.cells #[.int .i64 a, .int .i64 b] t)) (.slice (some ⟨B, 0, none⟩) 1 1) [(a, b)] := by
  subst hB
  refine ⟨_, _, rfl, by simp, by simp [maxLen], fun _ => ⟨_, _, rfl, fun k hk => ?_⟩⟩
  have : k = 0 := by simp at hk; omega
  subst this
  exact ⟨cell_last rfl, cell_last rfl⟩
end Go.Proofs.Ytdopgaljbpjpcaa
