/- The examples at the head of the statements hold. -/
import Derived.Test.YtdopgaljbpjpcaaAwakeA
import Derived.Outline
namespace Go.Proofs.Ytdopgaljbpjpcaa
open Go.RowKit
attribute [local go_sem ↓] neq72 guard72 neq25 guard25

/-- Block B holds the pen of the examples. -/
def Pbx (B : Nat) (b l h r : Int) (W : World) : Prop :=
  W.cell? ⟨B, 0, none⟩ = some (.int .i64 b) ∧ W.cell? ⟨B, 1, none⟩ = some (.int .i64 l) ∧ W.cell? ⟨B, 2, none⟩ = some (.int .i64 h) ∧ W.cell? ⟨B, 3, none⟩ = some (.int .i64 r) ∧ B < W.heap.size
theorem Pbx.next {B : Nat} {b l h r : Int} {W W' : World} (hp : Pbx B b l h r W) (hb : Below W.heap.size W W') : Pbx B b l h r W' := by
  obtain ⟨h0, h1, h2, h3, h4⟩ := hp
  have := hb.size
  exact ⟨(hb.cell (p := ⟨B, 0, none⟩) h4).trans h0, (hb.cell (p := ⟨B, 1, none⟩) h4).trans h1, (hb.cell (p := ⟨B, 2, none⟩) h4).trans h2, (hb.cell (p := ⟨B, 3, none⟩) h4).trans h3, by omega⟩
theorem Pbx.new (B : Nat) (b l h r : Int) (W : World) (t : TypeId) (hB : W.heap.size = B) : Pbx B b l h r (W.alloc (.cells #[.int .i64 b, .int .i64 l, .int .i64 h, .int .i64 r] t)) := by
  subst hB
  exact ⟨cell_last rfl, cell_last rfl, cell_last rfl, cell_last rfl, by simp⟩
theorem bl1 {W W' : World} {o : Obj} (h : Below (W.alloc o).heap.size (W.alloc o) W') : Below W.heap.size W W' := Bl.call (Bl.alloc (Below.refl _ _) _) h

theorem sameInts_yes (v u : Value) (xs : List Int) (w : World) (hv : Ints w v xs) (hu : Ints w u xs) :
    Calls Try.prog 27 #[v, u] w fun e w' => e = .returned (.bool true) ∧ Below w.heap.size w w' :=
  (sameInts_any v u xs xs w hv hu).mono fun e w' ⟨h1, h2⟩ => ⟨by rw [h1]; simp, h2⟩
theorem sameSpans_yes (v u : Value) (xs : List (Int × Int)) (w : World) (hv : Pairs w v xs) (hu : Pairs w u xs) :
    Calls Try.prog 41 #[v, u] w fun e w' => e = .returned (.bool true) ∧ Below w.heap.size w w' :=
  (sameSpans_any v u xs xs w hv hu).mono fun e w' ⟨h1, h2⟩ => ⟨by rw [h1]; simp, h2⟩
theorem pairs_lit2 (w : World) (B : Nat) (hB : w.heap.size = B) (t : TypeId) (a b c d : Int) : Pairs (w.alloc (.cells #[.int .i64 a, .int .i64 b, .int .i64 c, .int .i64 d] t)) (.slice (some ⟨B, 0, none⟩) 2 2) [(a, b), (c, d)] := by
  subst hB
  refine ⟨_, _, rfl, by simp, by simp [maxLen], fun _ => ⟨_, _, rfl, fun k hk => ?_⟩⟩
  have : k = 0 ∨ k = 1 := by simp at hk; omega
  rcases this with rfl | rfl <;> exact ⟨cell_last rfl, cell_last rfl⟩

set_option maxRecDepth 100000 in
set_option maxHeartbeats 4000000 in
theorem awake_any (w : World) : Calls Try.prog 19 #[] w fun e w' => e = .returned (.bool true) ∧ Below w.heap.size w w' := by
  go_enter Try.func19, Try.ntmps19
  go_wp2_with fail
  refine (sample_any _).mono ?_
  rintro e w1 ⟨rfl, hb1⟩
  go_wp2_with fail
  refine (aw_follow _ _ (ints_lit _ _ (by simp) _ _ _ rfl rfl (by simp))).mono ?_
  rintro e w2 ⟨a2, c2, rfl, v2, hb2⟩
  have P2 := hid ((Pbx.new _ 2 (-1) 1 5 w1 25 rfl).next (bl1 hb2))
  have B2 := hid (Bl.call (Bl.alloc (Bl.alloc hb1 _) _) hb2)
  obtain ⟨q0, q1, q2, q3, q4⟩ := P2.out
  clear hb2
  go_wp2_with fail
  refine (aw_reals _ _ (ints_lit _ _ (by simp) _ _ _ rfl rfl (by simp))).mono ?_
  rintro e w3 ⟨a3, c3, rfl, v3, hb3⟩
  clear q0 q1 q2 q3 q4
  have P3 := hid (P2.out.next (bl1 hb3))
  have B3 := hid (Bl.call B2.out (bl1 hb3))
  have v2' := hid (v2.out.below (bl1 hb3))
  obtain ⟨q0, q1, q2, q3, q4⟩ := P3.out
  clear hb3 P2 B2 v2
  go_wp2_with fail
  refine (aw_real _ _ (ints_lit _ _ (by simp) _ _ _ rfl rfl (by simp))).mono ?_
  rintro e w4 ⟨a4, c4, rfl, v4, hb4⟩
  clear q0 q1 q2 q3 q4
  have P4 := hid (P3.out.next (bl1 hb4))
  have B4 := hid (Bl.call B3.out (bl1 hb4))
  have v2 := hid (v2'.out.below (bl1 hb4))
  have v3' := hid (v3.out.below (bl1 hb4))
  obtain ⟨q0, q1, q2, q3, q4⟩ := P4.out
  clear hb4 P3 B3 v2' v3
  go_wp2_with fail
  refine (aw_forgets _ _ (ints_lit _ _ (by simp) _ _ _ rfl rfl (by simp))).mono ?_
  rintro e w5 ⟨rfl, hb5⟩
  clear q0 q1 q2 q3 q4
  have P5 := hid (P4.out.next (bl1 hb5))
  have B5 := hid (Bl.call B4.out (bl1 hb5))
  have v2' := hid (v2.out.below (bl1 hb5))
  have v3 := hid (v3'.out.below (bl1 hb5))
  have v4' := hid (v4.out.below (bl1 hb5))
  obtain ⟨q0, q1, q2, q3, q4⟩ := P5.out
  clear hb5 P4 B4 v2 v3' v4
  go_wp2_with fail
  refine (aw_memory _ _ (ints_lit _ _ (by simp) _ _ _ rfl rfl (by simp))).mono ?_
  rintro e w6 ⟨a6, c6, rfl, v6, hb6⟩
  clear q0 q1 q2 q3 q4
  have P6 := hid (P5.out.next (bl1 hb6))
  have B6 := hid (Bl.call B5.out (bl1 hb6))
  have v2 := hid (v2'.out.below (bl1 hb6))
  have v3' := hid (v3.out.below (bl1 hb6))
  have v4 := hid (v4'.out.below (bl1 hb6))
  obtain ⟨q0, q1, q2, q3, q4⟩ := P6.out
  clear hb6 P5 B5 v2' v3 v4'
  go_wp2_with fail
  refine (aw_turns _ _ (ints_lit _ _ (by simp) _ _ _ rfl rfl (by simp))).mono ?_
  rintro e w7 ⟨a7, c7, rfl, v7, hb7⟩
  clear q0 q1 q2 q3 q4
  have P7 := hid (P6.out.next (bl1 hb7))
  have B7 := hid (Bl.call B6.out (bl1 hb7))
  have v2' := hid (v2.out.below (bl1 hb7))
  have v3 := hid (v3'.out.below (bl1 hb7))
  have v4' := hid (v4.out.below (bl1 hb7))
  have v6' := hid (v6.out.below (bl1 hb7))
  obtain ⟨q0, q1, q2, q3, q4⟩ := P7.out
  clear hb7 P6 B6 v2 v3' v4 v6
  go_wp2_with fail
  refine (aw_add _).mono ?_
  rintro e w8 ⟨rfl, hb8⟩
  clear q0 q1 q2 q3 q4
  have P8 := hid (P7.out.next hb8)
  have B8 := hid (Bl.call B7.out hb8)
  have v2 := hid (v2'.out.below hb8)
  have v3' := hid (v3.out.below hb8)
  have v4 := hid (v4'.out.below hb8)
  have v6 := hid (v6'.out.below hb8)
  have v7' := hid (v7.out.below hb8)
  obtain ⟨q0, q1, q2, q3, q4⟩ := P8.out
  clear hb8 P7 B7 v2' v3 v4' v6' v7
  go_wp2_with fail
  refine (aw_moves _).mono ?_
  rintro e w9 ⟨Bm, om, cm, rfl, m0, ⟨m1, m2, m3⟩, ⟨m4, m5, m6⟩, hb9⟩
  clear q0 q1 q2 q3 q4
  have hb9' := bl1 hb9
  have Q9 := hid ((Pbx.new _ 5 (-1) 3 5 w8 25 rfl).next hb9)
  have B9 := hid (Bl.call B8.out hb9')
  have v2' := hid (v2.out.below hb9')
  have v3 := hid (v3'.out.below hb9')
  have v4' := hid (v4.out.below hb9')
  have v6' := hid (v6.out.below hb9')
  have v7 := hid (v7'.out.below hb9')
  obtain ⟨q0, q1, q2, q3, q4⟩ := Q9.out
  clear hb9 hb9' P8 B8 v2 v3' v4 v6 v7'
  go_wp2_with fail
  refine (sameInts_yes _ _ _ _ (v2'.out.below (Bl.alloc (Below.refl _ _) _)) (ints_lit _ _ (by simp) _ _ _ rfl rfl (by simp))).mono ?_
  rintro e w10 ⟨rfl, hb⟩
  have B10 := hid (Bl.call B9.out (bl1 hb))
  have v3' := hid (v3.out.below (bl1 hb))
  have v4 := hid (v4'.out.below (bl1 hb))
  have v6 := hid (v6'.out.below (bl1 hb))
  have v7' := hid (v7.out.below (bl1 hb))
  clear q0 q1 q2 q3 q4 m0 m1 m2 m3 m4 m5 m6 Q9 B9 v2' v3 v4' v6' v7 hb
  go_wp2_with fail
  refine (sameSpans_yes _ _ _ _ (v3'.out.below (Bl.alloc (Below.refl _ _) _)) (pairs_lit2 _ _ (by simp) _ _ _ _ _)).mono ?_
  rintro e w11 ⟨rfl, hb⟩
  have B11 := hid (Bl.call B10.out (bl1 hb))
  have v4' := hid (v4.out.below (bl1 hb))
  have v6' := hid (v6.out.below (bl1 hb))
  have v7 := hid (v7'.out.below (bl1 hb))
  clear B10 v3' v4 v6 v7' hb
  go_wp2_with fail
  refine (sameInts_yes _ _ _ _ (v4'.out.below (Bl.alloc (Below.refl _ _) _)) (ints_lit _ _ (by simp) _ _ _ rfl rfl (by simp))).mono ?_
  rintro e w12 ⟨rfl, hb⟩
  have B12 := hid (Bl.call B11.out (bl1 hb))
  have v6 := hid (v6'.out.below (bl1 hb))
  have v7' := hid (v7.out.below (bl1 hb))
  clear B11 v4' v6' v7 hb
  go_wp2_with fail
  refine (sameInts_yes _ _ _ _ (v6.out.below (Bl.alloc (Below.refl _ _) _)) (ints_lit _ _ (by simp) _ _ _ rfl rfl (by simp))).mono ?_
  rintro e w13 ⟨rfl, hb⟩
  have B13 := hid (Bl.call B12.out (bl1 hb))
  have v7 := hid (v7'.out.below (bl1 hb))
  clear B12 v6 v7' hb
  go_wp2_with fail
  refine (sameInts_yes _ _ _ _ (v7.out.below (Bl.alloc (Below.refl _ _) _)) (ints_lit _ _ (by simp) _ _ _ rfl rfl (by simp))).mono ?_
  rintro e w14 ⟨rfl, hb⟩
  have B14 := hid (Bl.call B13.out (bl1 hb))
  clear B13 v7 hb
  go_wp2_with fail
  go_ret
  exact ⟨rfl, B14.out⟩
end Go.Proofs.Ytdopgaljbpjpcaa
