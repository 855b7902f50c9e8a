/- pens.Moves. -/
import Derived.Test.YtdopgaljbpjpcaaTrips
namespace Go.Proofs.Ytdopgaljbpjpcaa
open Go.RowKit
attribute [local go_sem ↓] neq23 guard23
set_option maxRecDepth 20000 in
set_option maxHeartbeats 8000000 in
theorem moves_ok (b l h r o : Int) (w : World) (hp : Hid (penOk b l h r = true)) (ho1 : -b ≤ o) (ho2 : o ≤ b) :
    Calls Try.prog 51 #[.agg #[.int .i64 b, .int .i64 l, .int .i64 h, .int .i64 r], .int .i64 o] w (RetTE (movesL b r o) 0 w) := by
  have hpo := hp.out
  simp [penOk] at hpo
  obtain ⟨p1, p2, p3, p4, p5, p6, p7, p8⟩ := hpo
  clear p3 p4 p5 p6
  obtain ⟨i0, hi, hz0, hz1, hz2⟩ := info_parts Try.info72
  have HW : Hid (withinB o (-b) b = true) := hid (by simp [withinB]; omega)
  go_enter Try.func51, Try.ntmps51
  go_wp2_with fail
  refine (check_ok _ _ _ _ _ hp).mono ?_
  rintro e w1 ⟨rfl, hb1⟩
  have hB1 : Below w.heap.size w w1 := Bl.call (Bl.alloc (Below.refl _ _) _) hb1
  have q0 := box_cell hb1 (o := 0) rfl
  have q3 := box_cell hb1 (o := 3) rfl
  have hlt1 : w.heap.size < w1.heap.size := by have := hb1.size; simp at this; omega
  simp only [List.getElem_toArray, List.getElem_cons_zero, List.getElem_cons_succ] at q0 q3
  clear hb1
  go_wp2_with fail
  refine (within_at _ _ _ _ _ HW).mono ?_
  rintro e w2 ⟨rfl, rfl⟩
  go_wp2_with fail
  go_loopw [7, 8] (fun ou i wr => ∃ (k : Nat), (k : Int) ≤ 2 * b + 1 ∧ i = .int .i64 ((k : Int) - b) ∧ Below w1.heap.size w1 wr ∧ wr.ownsRow w1.heap.size 72 3 ou (movesTo b r o k).length (flat3 (movesTo b r o k)))
    (fun _ i _ => (b + 1 - intOf i).toNat)
  case atStart => exact ⟨0, by omega, by go_num, Below.refl _ _, World.ownsRow_nil _ _ _ _⟩
  case round =>
    obtain ⟨k, hk, rfl, hb, hown⟩ := hrel
    have r0 := (hb.cell (p := ⟨w.heap.size, 0, none⟩) hlt1).trans q0
    have r3 := (hb.cell (p := ⟨w.heap.size, 3, none⟩) hlt1).trans q3
    have hltr : w.heap.size < wr.heap.size := by have := hb.size; omega
    have hml := movesTo_le b r o k
    by_cases hlt : (k : Int) ≤ 2 * b
    · have hlt' : decide ((k : Int) - b ≤ b) = true := by simp; omega
      by_cases ht1 : (k : Int) - b = b
      · have t1 : ((k : Int) - b == b) = true := by simpa using ht1
        by_cases ht2 : (k : Int) - b = -b
        · have t2 : ((k : Int) - b == -b) = true := by simpa using ht2
          have HLo : Hid (mLo b r o ((k : Int) - b) = (-r + b + o)) := hid (by unfold mLo; simp; try omega)
          have HHi : Hid (mHi b r o ((k : Int) - b) = (r - b + o)) := hid (by unfold mHi; simp; try omega)
          have g1 : decide ((-r + b + o) ≤ 0) = true := by simp; omega
          have g2 : decide (0 ≤ (r - b + o)) = true := by simp; omega
          by_cases hC : r = 0
          · have g3 : ((-r + b + o) == 0) = true := by simp; omega
            have g3b : ((r - b + o) == 0) = true := by simp; omega
            have hD : apartN ((k : Int) - b) o ≤ r := by unfold apartN; omega
            have g4 : decide (apartN ((k : Int) - b) o ≤ r) = true := by simpa using hD
            have HK : Hid (moveK b r o ((k : Int) - b) = true) := hid (by unfold moveK; rw [HLo.out, HHi.out]; simp; omega)
            clear ht1 ht2 hC hD
            go_wp2_with fail
            go_quiet ((go_at_call 66; exact Calls.quiet_of_same (apart_same _ _ _ (by constructor <;> omega) (by constructor <;> omega))))
            have hb5 : Below w1.heap.size w1 (wr.alloc (.cells #[.int .i64 (-r + b + o), .int .i64 (r - b + o)] 23)) := by repeat (first | exact hb | refine Bl.alloc ?_ _ | refine Bl.setCell ?_ (by simp; try omega) _)
            have hown5 : (wr.alloc (.cells #[.int .i64 (-r + b + o), .int .i64 (r - b + o)] 23)).ownsRow w1.heap.size 72 3 u7 (movesTo b r o k).length (flat3 (movesTo b r o k)) := ownsRow_below2 hown (by repeat (first | exact Below.refl _ _ | refine Bl.alloc ?_ _ | refine Bl.setCell ?_ (by simp) _))
            generalize hwq : World.drewN _ nq = wq
            have hbq : Below w1.heap.size w1 wq := by rw [← hwq]; exact Bl.drewN hb5 _
            have hoq : wq.ownsRow w1.heap.size 72 3 u7 (movesTo b r o k).length (flat3 (movesTo b r o k)) := by rw [← hwq]; exact ownsRow_drewN hown5 nq
            have cq0 : wq.cell? ⟨wr.heap.size, 0, none⟩ = some (.int .i64 (-r + b + o)) := by rw [← hwq]; simp [go_sem]
            have cq1 : wq.cell? ⟨wr.heap.size, 1, none⟩ = some (.int .i64 (r - b + o)) := by rw [← hwq]; simp [go_sem]
            have cqb : wq.cell? ⟨w.heap.size, 0, none⟩ = some (.int .i64 b) := by rw [← hwq]; simp [go_sem, hltr, r0]
            have hqz : wr.heap.size < wq.heap.size := by rw [← hwq]; simp
            have hqz2 : w.heap.size < wq.heap.size := by omega
            clear hwq hown5 hb5
            go_wp2_with (at_builtin; refine wpList_append_own _ rfl _ _ 65 rfl w1.heap.size 72 i0 (.agg #[.int .i64 0, .int .i64 0, .int .i64 0]) 3 24 Try.underlying65 hi hz0 hz1 hz2 rfl (by decide) _ _ _ rfl (hoq.alloc _) ⟨wq.heap.size, 0, none⟩ 1 1 [.int .i64 (k : Int), .int .i64 (-r + b + o), .int .i64 (r - b + o)] rfl rfl (cell_three_new _ _ _ _ _) (by simp [Value.oneCell']) (by simp [maxLen]; omega) (by omega) (by have := hbq.size; simp; omega) ?_; intro v' w4 hown' hgrow _)
            have hb4 : Below w1.heap.size w1 w4 := own_grow (Bl.alloc hbq _) (Nat.le_refl _) (fun k hk => (hoq.lt k hk).1) hgrow
            go_roundw
            case rel => exact ⟨k + 1, by omega, by go_num, hb4, by rw [movesTo_yes HK.out HLo.out HHi.out]; simpa [flat3] using hown'⟩
            case measure => simp [intOf]; omega
          · have g3 : ((-r + b + o) == 0) = false := by simp; omega
            have HK : Hid (moveK b r o ((k : Int) - b) = true) := hid (by unfold moveK; rw [HLo.out, HHi.out]; simp; omega)
            clear ht1 ht2 hC
            go_wp2_with fail
            go_quiet ((go_at_call 66; exact Calls.quiet_of_same (apart_same _ _ _ (by constructor <;> omega) (by constructor <;> omega))))
            have hb5 : Below w1.heap.size w1 (wr.alloc (.cells #[.int .i64 (-r + b + o), .int .i64 (r - b + o)] 23)) := by repeat (first | exact hb | refine Bl.alloc ?_ _ | refine Bl.setCell ?_ (by simp; try omega) _)
            have hown5 : (wr.alloc (.cells #[.int .i64 (-r + b + o), .int .i64 (r - b + o)] 23)).ownsRow w1.heap.size 72 3 u7 (movesTo b r o k).length (flat3 (movesTo b r o k)) := ownsRow_below2 hown (by repeat (first | exact Below.refl _ _ | refine Bl.alloc ?_ _ | refine Bl.setCell ?_ (by simp) _))
            generalize hwq : World.drewN _ nq = wq
            have hbq : Below w1.heap.size w1 wq := by rw [← hwq]; exact Bl.drewN hb5 _
            have hoq : wq.ownsRow w1.heap.size 72 3 u7 (movesTo b r o k).length (flat3 (movesTo b r o k)) := by rw [← hwq]; exact ownsRow_drewN hown5 nq
            have cq0 : wq.cell? ⟨wr.heap.size, 0, none⟩ = some (.int .i64 (-r + b + o)) := by rw [← hwq]; simp [go_sem]
            have cq1 : wq.cell? ⟨wr.heap.size, 1, none⟩ = some (.int .i64 (r - b + o)) := by rw [← hwq]; simp [go_sem]
            have cqb : wq.cell? ⟨w.heap.size, 0, none⟩ = some (.int .i64 b) := by rw [← hwq]; simp [go_sem, hltr, r0]
            have hqz : wr.heap.size < wq.heap.size := by rw [← hwq]; simp
            have hqz2 : w.heap.size < wq.heap.size := by omega
            clear hwq hown5 hb5
            go_wp2_with (at_builtin; refine wpList_append_own _ rfl _ _ 65 rfl w1.heap.size 72 i0 (.agg #[.int .i64 0, .int .i64 0, .int .i64 0]) 3 24 Try.underlying65 hi hz0 hz1 hz2 rfl (by decide) _ _ _ rfl (hoq.alloc _) ⟨wq.heap.size, 0, none⟩ 1 1 [.int .i64 (k : Int), .int .i64 (-r + b + o), .int .i64 (r - b + o)] rfl rfl (cell_three_new _ _ _ _ _) (by simp [Value.oneCell']) (by simp [maxLen]; omega) (by omega) (by have := hbq.size; simp; omega) ?_; intro v' w4 hown' hgrow _)
            have hb4 : Below w1.heap.size w1 w4 := own_grow (Bl.alloc hbq _) (Nat.le_refl _) (fun k hk => (hoq.lt k hk).1) hgrow
            go_roundw
            case rel => exact ⟨k + 1, by omega, by go_num, hb4, by rw [movesTo_yes HK.out HLo.out HHi.out]; simpa [flat3] using hown'⟩
            case measure => simp [intOf]; omega
        · have t2 : ((k : Int) - b == -b) = false := by simpa using ht2
          have HLo : Hid (mLo b r o ((k : Int) - b) = 0) := hid (by unfold mLo; simp; try omega)
          have HHi : Hid (mHi b r o ((k : Int) - b) = (r - b + o)) := hid (by unfold mHi; simp; try omega)
          by_cases hA : 0 ≤ (r - b + o)
          · have g1 : decide (0 ≤ (r - b + o)) = true := by simpa using hA
            by_cases hC : (r - b + o) = 0
            · have g3 : ((r - b + o) == 0) = true := by simpa using hC
              by_cases hD : apartN ((k : Int) - b) o ≤ r
              · have g4 : decide (apartN ((k : Int) - b) o ≤ r) = true := by simpa using hD
                have HK : Hid (moveK b r o ((k : Int) - b) = true) := hid (by unfold moveK; rw [HLo.out, HHi.out]; simp; omega)
                clear ht1 ht2 hA hC hD
                go_wp2_with fail
                go_quiet ((go_at_call 66; exact Calls.quiet_of_same (apart_same _ _ _ (by constructor <;> omega) (by constructor <;> omega))))
                have hb5 : Below w1.heap.size w1 (wr.alloc (.cells #[.int .i64 0, .int .i64 (r - b + o)] 23)) := by repeat (first | exact hb | refine Bl.alloc ?_ _ | refine Bl.setCell ?_ (by simp; try omega) _)
                have hown5 : (wr.alloc (.cells #[.int .i64 0, .int .i64 (r - b + o)] 23)).ownsRow w1.heap.size 72 3 u7 (movesTo b r o k).length (flat3 (movesTo b r o k)) := ownsRow_below2 hown (by repeat (first | exact Below.refl _ _ | refine Bl.alloc ?_ _ | refine Bl.setCell ?_ (by simp) _))
                generalize hwq : World.drewN _ nq = wq
                have hbq : Below w1.heap.size w1 wq := by rw [← hwq]; exact Bl.drewN hb5 _
                have hoq : wq.ownsRow w1.heap.size 72 3 u7 (movesTo b r o k).length (flat3 (movesTo b r o k)) := by rw [← hwq]; exact ownsRow_drewN hown5 nq
                have cq0 : wq.cell? ⟨wr.heap.size, 0, none⟩ = some (.int .i64 0) := by rw [← hwq]; simp [go_sem]
                have cq1 : wq.cell? ⟨wr.heap.size, 1, none⟩ = some (.int .i64 (r - b + o)) := by rw [← hwq]; simp [go_sem]
                have cqb : wq.cell? ⟨w.heap.size, 0, none⟩ = some (.int .i64 b) := by rw [← hwq]; simp [go_sem, hltr, r0]
                have hqz : wr.heap.size < wq.heap.size := by rw [← hwq]; simp
                have hqz2 : w.heap.size < wq.heap.size := by omega
                clear hwq hown5 hb5
                go_wp2_with (at_builtin; refine wpList_append_own _ rfl _ _ 65 rfl w1.heap.size 72 i0 (.agg #[.int .i64 0, .int .i64 0, .int .i64 0]) 3 24 Try.underlying65 hi hz0 hz1 hz2 rfl (by decide) _ _ _ rfl (hoq.alloc _) ⟨wq.heap.size, 0, none⟩ 1 1 [.int .i64 (k : Int), .int .i64 0, .int .i64 (r - b + o)] rfl rfl (cell_three_new _ _ _ _ _) (by simp [Value.oneCell']) (by simp [maxLen]; omega) (by omega) (by have := hbq.size; simp; omega) ?_; intro v' w4 hown' hgrow _)
                have hb4 : Below w1.heap.size w1 w4 := own_grow (Bl.alloc hbq _) (Nat.le_refl _) (fun k hk => (hoq.lt k hk).1) hgrow
                go_roundw
                case rel => exact ⟨k + 1, by omega, by go_num, hb4, by rw [movesTo_yes HK.out HLo.out HHi.out]; simpa [flat3] using hown'⟩
                case measure => simp [intOf]; omega
              · have g4 : decide (apartN ((k : Int) - b) o ≤ r) = false := by simpa using hD
                have HK : Hid (moveK b r o ((k : Int) - b) = false) := hid (by unfold moveK; rw [HLo.out, HHi.out]; simp; omega)
                clear ht1 ht2 hA hC hD
                go_wp2_with fail
                go_quiet ((go_at_call 66; exact Calls.quiet_of_same (apart_same _ _ _ (by constructor <;> omega) (by constructor <;> omega))))
                have hb5 : Below w1.heap.size w1 (wr.alloc (.cells #[.int .i64 0, .int .i64 (r - b + o)] 23)) := by repeat (first | exact hb | refine Bl.alloc ?_ _ | refine Bl.setCell ?_ (by simp; try omega) _)
                have hown5 : (wr.alloc (.cells #[.int .i64 0, .int .i64 (r - b + o)] 23)).ownsRow w1.heap.size 72 3 u7 (movesTo b r o k).length (flat3 (movesTo b r o k)) := ownsRow_below2 hown (by repeat (first | exact Below.refl _ _ | refine Bl.alloc ?_ _ | refine Bl.setCell ?_ (by simp) _))
                generalize hwq : World.drewN _ nq = wq
                have hbq : Below w1.heap.size w1 wq := by rw [← hwq]; exact Bl.drewN hb5 _
                have hoq : wq.ownsRow w1.heap.size 72 3 u7 (movesTo b r o k).length (flat3 (movesTo b r o k)) := by rw [← hwq]; exact ownsRow_drewN hown5 nq
                clear hwq hown5 hb5
                go_wp2_with fail
                go_roundw
                case rel => exact ⟨k + 1, by omega, by go_num, hbq, by rw [movesTo_no HK.out]; exact hoq⟩
                case measure => simp [intOf]; omega
            · have g3 : ((r - b + o) == 0) = false := by simpa using hC
              have HK : Hid (moveK b r o ((k : Int) - b) = true) := hid (by unfold moveK; rw [HLo.out, HHi.out]; simp; omega)
              clear ht1 ht2 hA hC
              go_wp2_with fail
              go_quiet ((go_at_call 66; exact Calls.quiet_of_same (apart_same _ _ _ (by constructor <;> omega) (by constructor <;> omega))))
              have hb5 : Below w1.heap.size w1 (wr.alloc (.cells #[.int .i64 0, .int .i64 (r - b + o)] 23)) := by repeat (first | exact hb | refine Bl.alloc ?_ _ | refine Bl.setCell ?_ (by simp; try omega) _)
              have hown5 : (wr.alloc (.cells #[.int .i64 0, .int .i64 (r - b + o)] 23)).ownsRow w1.heap.size 72 3 u7 (movesTo b r o k).length (flat3 (movesTo b r o k)) := ownsRow_below2 hown (by repeat (first | exact Below.refl _ _ | refine Bl.alloc ?_ _ | refine Bl.setCell ?_ (by simp) _))
              generalize hwq : World.drewN _ nq = wq
              have hbq : Below w1.heap.size w1 wq := by rw [← hwq]; exact Bl.drewN hb5 _
              have hoq : wq.ownsRow w1.heap.size 72 3 u7 (movesTo b r o k).length (flat3 (movesTo b r o k)) := by rw [← hwq]; exact ownsRow_drewN hown5 nq
              have cq0 : wq.cell? ⟨wr.heap.size, 0, none⟩ = some (.int .i64 0) := by rw [← hwq]; simp [go_sem]
              have cq1 : wq.cell? ⟨wr.heap.size, 1, none⟩ = some (.int .i64 (r - b + o)) := by rw [← hwq]; simp [go_sem]
              have cqb : wq.cell? ⟨w.heap.size, 0, none⟩ = some (.int .i64 b) := by rw [← hwq]; simp [go_sem, hltr, r0]
              have hqz : wr.heap.size < wq.heap.size := by rw [← hwq]; simp
              have hqz2 : w.heap.size < wq.heap.size := by omega
              clear hwq hown5 hb5
              go_wp2_with (at_builtin; refine wpList_append_own _ rfl _ _ 65 rfl w1.heap.size 72 i0 (.agg #[.int .i64 0, .int .i64 0, .int .i64 0]) 3 24 Try.underlying65 hi hz0 hz1 hz2 rfl (by decide) _ _ _ rfl (hoq.alloc _) ⟨wq.heap.size, 0, none⟩ 1 1 [.int .i64 (k : Int), .int .i64 0, .int .i64 (r - b + o)] rfl rfl (cell_three_new _ _ _ _ _) (by simp [Value.oneCell']) (by simp [maxLen]; omega) (by omega) (by have := hbq.size; simp; omega) ?_; intro v' w4 hown' hgrow _)
              have hb4 : Below w1.heap.size w1 w4 := own_grow (Bl.alloc hbq _) (Nat.le_refl _) (fun k hk => (hoq.lt k hk).1) hgrow
              go_roundw
              case rel => exact ⟨k + 1, by omega, by go_num, hb4, by rw [movesTo_yes HK.out HLo.out HHi.out]; simpa [flat3] using hown'⟩
              case measure => simp [intOf]; omega
          · have g1 : decide (0 ≤ (r - b + o)) = false := by simpa using hA
            have HK : Hid (moveK b r o ((k : Int) - b) = false) := hid (by unfold moveK; rw [HLo.out, HHi.out]; simp; omega)
            clear ht1 ht2 hA
            go_wp2_with fail
            go_quiet ((go_at_call 66; exact Calls.quiet_of_same (apart_same _ _ _ (by constructor <;> omega) (by constructor <;> omega))))
            have hb5 : Below w1.heap.size w1 (wr.alloc (.cells #[.int .i64 0, .int .i64 (r - b + o)] 23)) := by repeat (first | exact hb | refine Bl.alloc ?_ _ | refine Bl.setCell ?_ (by simp; try omega) _)
            have hown5 : (wr.alloc (.cells #[.int .i64 0, .int .i64 (r - b + o)] 23)).ownsRow w1.heap.size 72 3 u7 (movesTo b r o k).length (flat3 (movesTo b r o k)) := ownsRow_below2 hown (by repeat (first | exact Below.refl _ _ | refine Bl.alloc ?_ _ | refine Bl.setCell ?_ (by simp) _))
            generalize hwq : World.drewN _ nq = wq
            have hbq : Below w1.heap.size w1 wq := by rw [← hwq]; exact Bl.drewN hb5 _
            have hoq : wq.ownsRow w1.heap.size 72 3 u7 (movesTo b r o k).length (flat3 (movesTo b r o k)) := by rw [← hwq]; exact ownsRow_drewN hown5 nq
            clear hwq hown5 hb5
            go_wp2_with fail
            go_roundw
            case rel => exact ⟨k + 1, by omega, by go_num, hbq, by rw [movesTo_no HK.out]; exact hoq⟩
            case measure => simp [intOf]; omega
      · have t1 : ((k : Int) - b == b) = false := by simpa using ht1
        by_cases ht2 : (k : Int) - b = -b
        · have t2 : ((k : Int) - b == -b) = true := by simpa using ht2
          have HLo : Hid (mLo b r o ((k : Int) - b) = (-r + b + o)) := hid (by unfold mLo; simp; try omega)
          have HHi : Hid (mHi b r o ((k : Int) - b) = 0) := hid (by unfold mHi; simp; try omega)
          by_cases hA : (-r + b + o) ≤ 0
          · have g1 : decide ((-r + b + o) ≤ 0) = true := by simpa using hA
            by_cases hC : (-r + b + o) = 0
            · have g3 : ((-r + b + o) == 0) = true := by simpa using hC
              by_cases hD : apartN ((k : Int) - b) o ≤ r
              · have g4 : decide (apartN ((k : Int) - b) o ≤ r) = true := by simpa using hD
                have HK : Hid (moveK b r o ((k : Int) - b) = true) := hid (by unfold moveK; rw [HLo.out, HHi.out]; simp; omega)
                clear ht1 ht2 hA hC hD
                go_wp2_with fail
                go_quiet ((go_at_call 66; exact Calls.quiet_of_same (apart_same _ _ _ (by constructor <;> omega) (by constructor <;> omega))))
                have hb5 : Below w1.heap.size w1 (wr.alloc (.cells #[.int .i64 (-r + b + o), .int .i64 0] 23)) := by repeat (first | exact hb | refine Bl.alloc ?_ _ | refine Bl.setCell ?_ (by simp; try omega) _)
                have hown5 : (wr.alloc (.cells #[.int .i64 (-r + b + o), .int .i64 0] 23)).ownsRow w1.heap.size 72 3 u7 (movesTo b r o k).length (flat3 (movesTo b r o k)) := ownsRow_below2 hown (by repeat (first | exact Below.refl _ _ | refine Bl.alloc ?_ _ | refine Bl.setCell ?_ (by simp) _))
                generalize hwq : World.drewN _ nq = wq
                have hbq : Below w1.heap.size w1 wq := by rw [← hwq]; exact Bl.drewN hb5 _
                have hoq : wq.ownsRow w1.heap.size 72 3 u7 (movesTo b r o k).length (flat3 (movesTo b r o k)) := by rw [← hwq]; exact ownsRow_drewN hown5 nq
                have cq0 : wq.cell? ⟨wr.heap.size, 0, none⟩ = some (.int .i64 (-r + b + o)) := by rw [← hwq]; simp [go_sem]
                have cq1 : wq.cell? ⟨wr.heap.size, 1, none⟩ = some (.int .i64 0) := by rw [← hwq]; simp [go_sem]
                have cqb : wq.cell? ⟨w.heap.size, 0, none⟩ = some (.int .i64 b) := by rw [← hwq]; simp [go_sem, hltr, r0]
                have hqz : wr.heap.size < wq.heap.size := by rw [← hwq]; simp
                have hqz2 : w.heap.size < wq.heap.size := by omega
                clear hwq hown5 hb5
                go_wp2_with (at_builtin; refine wpList_append_own _ rfl _ _ 65 rfl w1.heap.size 72 i0 (.agg #[.int .i64 0, .int .i64 0, .int .i64 0]) 3 24 Try.underlying65 hi hz0 hz1 hz2 rfl (by decide) _ _ _ rfl (hoq.alloc _) ⟨wq.heap.size, 0, none⟩ 1 1 [.int .i64 (k : Int), .int .i64 (-r + b + o), .int .i64 0] rfl rfl (cell_three_new _ _ _ _ _) (by simp [Value.oneCell']) (by simp [maxLen]; omega) (by omega) (by have := hbq.size; simp; omega) ?_; intro v' w4 hown' hgrow _)
                have hb4 : Below w1.heap.size w1 w4 := own_grow (Bl.alloc hbq _) (Nat.le_refl _) (fun k hk => (hoq.lt k hk).1) hgrow
                go_roundw
                case rel => exact ⟨k + 1, by omega, by go_num, hb4, by rw [movesTo_yes HK.out HLo.out HHi.out]; simpa [flat3] using hown'⟩
                case measure => simp [intOf]; omega
              · have g4 : decide (apartN ((k : Int) - b) o ≤ r) = false := by simpa using hD
                have HK : Hid (moveK b r o ((k : Int) - b) = false) := hid (by unfold moveK; rw [HLo.out, HHi.out]; simp; omega)
                clear ht1 ht2 hA hC hD
                go_wp2_with fail
                go_quiet ((go_at_call 66; exact Calls.quiet_of_same (apart_same _ _ _ (by constructor <;> omega) (by constructor <;> omega))))
                have hb5 : Below w1.heap.size w1 (wr.alloc (.cells #[.int .i64 (-r + b + o), .int .i64 0] 23)) := by repeat (first | exact hb | refine Bl.alloc ?_ _ | refine Bl.setCell ?_ (by simp; try omega) _)
                have hown5 : (wr.alloc (.cells #[.int .i64 (-r + b + o), .int .i64 0] 23)).ownsRow w1.heap.size 72 3 u7 (movesTo b r o k).length (flat3 (movesTo b r o k)) := ownsRow_below2 hown (by repeat (first | exact Below.refl _ _ | refine Bl.alloc ?_ _ | refine Bl.setCell ?_ (by simp) _))
                generalize hwq : World.drewN _ nq = wq
                have hbq : Below w1.heap.size w1 wq := by rw [← hwq]; exact Bl.drewN hb5 _
                have hoq : wq.ownsRow w1.heap.size 72 3 u7 (movesTo b r o k).length (flat3 (movesTo b r o k)) := by rw [← hwq]; exact ownsRow_drewN hown5 nq
                clear hwq hown5 hb5
                go_wp2_with fail
                go_roundw
                case rel => exact ⟨k + 1, by omega, by go_num, hbq, by rw [movesTo_no HK.out]; exact hoq⟩
                case measure => simp [intOf]; omega
            · have g3 : ((-r + b + o) == 0) = false := by simpa using hC
              have HK : Hid (moveK b r o ((k : Int) - b) = true) := hid (by unfold moveK; rw [HLo.out, HHi.out]; simp; omega)
              clear ht1 ht2 hA hC
              go_wp2_with fail
              go_quiet ((go_at_call 66; exact Calls.quiet_of_same (apart_same _ _ _ (by constructor <;> omega) (by constructor <;> omega))))
              have hb5 : Below w1.heap.size w1 (wr.alloc (.cells #[.int .i64 (-r + b + o), .int .i64 0] 23)) := by repeat (first | exact hb | refine Bl.alloc ?_ _ | refine Bl.setCell ?_ (by simp; try omega) _)
              have hown5 : (wr.alloc (.cells #[.int .i64 (-r + b + o), .int .i64 0] 23)).ownsRow w1.heap.size 72 3 u7 (movesTo b r o k).length (flat3 (movesTo b r o k)) := ownsRow_below2 hown (by repeat (first | exact Below.refl _ _ | refine Bl.alloc ?_ _ | refine Bl.setCell ?_ (by simp) _))
              generalize hwq : World.drewN _ nq = wq
              have hbq : Below w1.heap.size w1 wq := by rw [← hwq]; exact Bl.drewN hb5 _
              have hoq : wq.ownsRow w1.heap.size 72 3 u7 (movesTo b r o k).length (flat3 (movesTo b r o k)) := by rw [← hwq]; exact ownsRow_drewN hown5 nq
              have cq0 : wq.cell? ⟨wr.heap.size, 0, none⟩ = some (.int .i64 (-r + b + o)) := by rw [← hwq]; simp [go_sem]
              have cq1 : wq.cell? ⟨wr.heap.size, 1, none⟩ = some (.int .i64 0) := by rw [← hwq]; simp [go_sem]
              have cqb : wq.cell? ⟨w.heap.size, 0, none⟩ = some (.int .i64 b) := by rw [← hwq]; simp [go_sem, hltr, r0]
              have hqz : wr.heap.size < wq.heap.size := by rw [← hwq]; simp
              have hqz2 : w.heap.size < wq.heap.size := by omega
              clear hwq hown5 hb5
              go_wp2_with (at_builtin; refine wpList_append_own _ rfl _ _ 65 rfl w1.heap.size 72 i0 (.agg #[.int .i64 0, .int .i64 0, .int .i64 0]) 3 24 Try.underlying65 hi hz0 hz1 hz2 rfl (by decide) _ _ _ rfl (hoq.alloc _) ⟨wq.heap.size, 0, none⟩ 1 1 [.int .i64 (k : Int), .int .i64 (-r + b + o), .int .i64 0] rfl rfl (cell_three_new _ _ _ _ _) (by simp [Value.oneCell']) (by simp [maxLen]; omega) (by omega) (by have := hbq.size; simp; omega) ?_; intro v' w4 hown' hgrow _)
              have hb4 : Below w1.heap.size w1 w4 := own_grow (Bl.alloc hbq _) (Nat.le_refl _) (fun k hk => (hoq.lt k hk).1) hgrow
              go_roundw
              case rel => exact ⟨k + 1, by omega, by go_num, hb4, by rw [movesTo_yes HK.out HLo.out HHi.out]; simpa [flat3] using hown'⟩
              case measure => simp [intOf]; omega
          · have g1 : decide ((-r + b + o) ≤ 0) = false := by simpa using hA
            have HK : Hid (moveK b r o ((k : Int) - b) = false) := hid (by unfold moveK; rw [HLo.out, HHi.out]; simp; omega)
            clear ht1 ht2 hA
            go_wp2_with fail
            go_quiet ((go_at_call 66; exact Calls.quiet_of_same (apart_same _ _ _ (by constructor <;> omega) (by constructor <;> omega))))
            have hb5 : Below w1.heap.size w1 (wr.alloc (.cells #[.int .i64 (-r + b + o), .int .i64 0] 23)) := by repeat (first | exact hb | refine Bl.alloc ?_ _ | refine Bl.setCell ?_ (by simp; try omega) _)
            have hown5 : (wr.alloc (.cells #[.int .i64 (-r + b + o), .int .i64 0] 23)).ownsRow w1.heap.size 72 3 u7 (movesTo b r o k).length (flat3 (movesTo b r o k)) := ownsRow_below2 hown (by repeat (first | exact Below.refl _ _ | refine Bl.alloc ?_ _ | refine Bl.setCell ?_ (by simp) _))
            generalize hwq : World.drewN _ nq = wq
            have hbq : Below w1.heap.size w1 wq := by rw [← hwq]; exact Bl.drewN hb5 _
            have hoq : wq.ownsRow w1.heap.size 72 3 u7 (movesTo b r o k).length (flat3 (movesTo b r o k)) := by rw [← hwq]; exact ownsRow_drewN hown5 nq
            clear hwq hown5 hb5
            go_wp2_with fail
            go_roundw
            case rel => exact ⟨k + 1, by omega, by go_num, hbq, by rw [movesTo_no HK.out]; exact hoq⟩
            case measure => simp [intOf]; omega
        · have t2 : ((k : Int) - b == -b) = false := by simpa using ht2
          have HLo : Hid (mLo b r o ((k : Int) - b) = 0) := hid (by unfold mLo; simp; try omega)
          have HHi : Hid (mHi b r o ((k : Int) - b) = 0) := hid (by unfold mHi; simp; try omega)
          by_cases hD : apartN ((k : Int) - b) o ≤ r
          · have g4 : decide (apartN ((k : Int) - b) o ≤ r) = true := by simpa using hD
            have HK : Hid (moveK b r o ((k : Int) - b) = true) := hid (by unfold moveK; rw [HLo.out, HHi.out]; simp; omega)
            clear ht1 ht2 hD
            go_wp2_with fail
            go_quiet ((go_at_call 66; exact Calls.quiet_of_same (apart_same _ _ _ (by constructor <;> omega) (by constructor <;> omega))))
            have hb5 : Below w1.heap.size w1 (wr.alloc (.cells #[.int .i64 0, .int .i64 0] 23)) := by repeat (first | exact hb | refine Bl.alloc ?_ _ | refine Bl.setCell ?_ (by simp; try omega) _)
            have hown5 : (wr.alloc (.cells #[.int .i64 0, .int .i64 0] 23)).ownsRow w1.heap.size 72 3 u7 (movesTo b r o k).length (flat3 (movesTo b r o k)) := ownsRow_below2 hown (by repeat (first | exact Below.refl _ _ | refine Bl.alloc ?_ _ | refine Bl.setCell ?_ (by simp) _))
            generalize hwq : World.drewN _ nq = wq
            have hbq : Below w1.heap.size w1 wq := by rw [← hwq]; exact Bl.drewN hb5 _
            have hoq : wq.ownsRow w1.heap.size 72 3 u7 (movesTo b r o k).length (flat3 (movesTo b r o k)) := by rw [← hwq]; exact ownsRow_drewN hown5 nq
            have cq0 : wq.cell? ⟨wr.heap.size, 0, none⟩ = some (.int .i64 0) := by rw [← hwq]; simp [go_sem]
            have cq1 : wq.cell? ⟨wr.heap.size, 1, none⟩ = some (.int .i64 0) := by rw [← hwq]; simp [go_sem]
            have cqb : wq.cell? ⟨w.heap.size, 0, none⟩ = some (.int .i64 b) := by rw [← hwq]; simp [go_sem, hltr, r0]
            have hqz : wr.heap.size < wq.heap.size := by rw [← hwq]; simp
            have hqz2 : w.heap.size < wq.heap.size := by omega
            clear hwq hown5 hb5
            go_wp2_with (at_builtin; refine wpList_append_own _ rfl _ _ 65 rfl w1.heap.size 72 i0 (.agg #[.int .i64 0, .int .i64 0, .int .i64 0]) 3 24 Try.underlying65 hi hz0 hz1 hz2 rfl (by decide) _ _ _ rfl (hoq.alloc _) ⟨wq.heap.size, 0, none⟩ 1 1 [.int .i64 (k : Int), .int .i64 0, .int .i64 0] rfl rfl (cell_three_new _ _ _ _ _) (by simp [Value.oneCell']) (by simp [maxLen]; omega) (by omega) (by have := hbq.size; simp; omega) ?_; intro v' w4 hown' hgrow _)
            have hb4 : Below w1.heap.size w1 w4 := own_grow (Bl.alloc hbq _) (Nat.le_refl _) (fun k hk => (hoq.lt k hk).1) hgrow
            go_roundw
            case rel => exact ⟨k + 1, by omega, by go_num, hb4, by rw [movesTo_yes HK.out HLo.out HHi.out]; simpa [flat3] using hown'⟩
            case measure => simp [intOf]; omega
          · have g4 : decide (apartN ((k : Int) - b) o ≤ r) = false := by simpa using hD
            have HK : Hid (moveK b r o ((k : Int) - b) = false) := hid (by unfold moveK; rw [HLo.out, HHi.out]; simp; omega)
            clear ht1 ht2 hD
            go_wp2_with fail
            go_quiet ((go_at_call 66; exact Calls.quiet_of_same (apart_same _ _ _ (by constructor <;> omega) (by constructor <;> omega))))
            have hb5 : Below w1.heap.size w1 (wr.alloc (.cells #[.int .i64 0, .int .i64 0] 23)) := by repeat (first | exact hb | refine Bl.alloc ?_ _ | refine Bl.setCell ?_ (by simp; try omega) _)
            have hown5 : (wr.alloc (.cells #[.int .i64 0, .int .i64 0] 23)).ownsRow w1.heap.size 72 3 u7 (movesTo b r o k).length (flat3 (movesTo b r o k)) := ownsRow_below2 hown (by repeat (first | exact Below.refl _ _ | refine Bl.alloc ?_ _ | refine Bl.setCell ?_ (by simp) _))
            generalize hwq : World.drewN _ nq = wq
            have hbq : Below w1.heap.size w1 wq := by rw [← hwq]; exact Bl.drewN hb5 _
            have hoq : wq.ownsRow w1.heap.size 72 3 u7 (movesTo b r o k).length (flat3 (movesTo b r o k)) := by rw [← hwq]; exact ownsRow_drewN hown5 nq
            clear hwq hown5 hb5
            go_wp2_with fail
            go_roundw
            case rel => exact ⟨k + 1, by omega, by go_num, hbq, by rw [movesTo_no HK.out]; exact hoq⟩
            case measure => simp [intOf]; omega
    · have hkk : (k : Int) = 2 * b + 1 := by omega
      have hlt' : decide ((k : Int) - b ≤ b) = false := by simp; omega
      have HT : Hid (Trips wr u7 (movesL b r o)) := by
        have e : movesL b r o = movesTo b r o k := by unfold movesL; congr 1; omega
        rw [e]; exact hid (trips_of_own hown)
      clear hown
      go_wp2_with fail
      go_ret2
      exact ⟨_, rfl, HT.out, hB1.trans (hb.mono hB1.size)⟩
end Go.Proofs.Ytdopgaljbpjpcaa
