/- pens.Moves, whole. -/
import Derived.Test.YtdopgaljbpjpcaaMoves
namespace Go.Proofs.Ytdopgaljbpjpcaa
open Go.RowKit
theorem moves_badpen (b l h r o : Int) (w : World) (hp : Hid (penOk b l h r = false)) :
    Calls Try.prog 51 #[.agg #[.int .i64 b, .int .i64 l, .int .i64 h, .int .i64 r], .int .i64 o] w (RetTE [] 30 w) := by
  go_enter Try.func51, Try.ntmps51
  go_wp2_with fail
  refine (check_bad _ _ _ _ _ hp).mono ?_
  rintro e w1 ⟨rfl, hb1⟩
  go_wp2_with fail
  go_ret2
  exact ⟨_, rfl, Trips.nil, Bl.call (Bl.alloc (Below.refl _ _) _) (by assumption)⟩
theorem moves_badoff (b l h r o : Int) (w : World) (hp : Hid (penOk b l h r = true)) (HW : Hid (withinB o (-b) b = false)) :
    Calls Try.prog 51 #[.agg #[.int .i64 b, .int .i64 l, .int .i64 h, .int .i64 r], .int .i64 o] w (RetTE [] 1 w) := by
  have hpo := hp.out
  simp [penOk] at hpo
  obtain ⟨p1, p2, p3, p4, p5, p6, p7, p8⟩ := hpo
  clear p3 p4 p5 p6
  go_enter Try.func51, Try.ntmps51
  go_wp2_with fail
  refine (check_ok _ _ _ _ _ hp).mono ?_
  rintro e w1 ⟨rfl, hb1⟩
  have q0 := box_cell hb1 (o := 0) rfl
  have hlt1 : w.heap.size < w1.heap.size := by have := hb1.size; simp at this; omega
  simp only [List.getElem_toArray, List.getElem_cons_zero] at q0
  go_wp2_with fail
  refine (within_at _ _ _ _ _ HW).mono ?_
  rintro e w2 ⟨rfl, rfl⟩
  go_wp2_with fail
  go_ret2
  exact ⟨_, rfl, Trips.nil, Bl.call (Bl.alloc (Below.refl _ _) _) (by assumption)⟩
theorem Moves_any (b l h r o : Int) (w : World) :
    Calls Try.prog 51 #[.agg #[.int .i64 b, .int .i64 l, .int .i64 h, .int .i64 r], .int .i64 o] w (RetTE (movesF b l h r o).1 (movesF b l h r o).2 w) := by
  unfold movesF
  cases hp : penOk b l h r
  · simpa using moves_badpen b l h r o w (hid hp)
  · cases ho : withinB o (-b) b
    · simpa using moves_badoff b l h r o w (hid hp) (hid ho)
    · have := moves_ok b l h r o w (hid hp) (by simp [withinB] at ho; omega) (by simp [withinB] at ho; omega)
      simpa using this
end Go.Proofs.Ytdopgaljbpjpcaa
