/- The walk of the law PensForgets. -/
import Derived.Test.YtdopgaljbpjpcaaAwake
namespace Go.Proofs.Ytdopgaljbpjpcaa
open Go.RowKit
attribute [local go_sem ↓] eql25 guard25

theorem forgets_g (b l h r : Int) (v : Value) (xs : List Int) (w : World) (hv : Ints w v xs) (x y : Int) (hp : Hid (forgetsF b l h r xs = (x, y))) :
    Calls Try.prog 21 #[.agg #[.int .i64 b, .int .i64 l, .int .i64 h, .int .i64 r], v] w fun e w' => e = .returned (.tuple #[.int .i64 x, .int .i64 y]) ∧ Below w.heap.size w w' :=
  (forgets_any b l h r v xs w hv).mono fun e w' h => by rw [hp.out] at h; exact h
theorem rforgets_g (b l h r : Int) (v : Value) (xs : List Int) (w : World) (hv : Ints w v xs) (x y : Int) (hp : Hid (forgetsF b l h r xs = (x, y))) :
    Calls Try.prog 22 #[.agg #[.int .i64 b, .int .i64 l, .int .i64 h, .int .i64 r], v] w fun e w' => e = .returned (.tuple #[.int .i64 x, .int .i64 y]) ∧ Below w.heap.size w w' :=
  (rforgets_any b l h r v xs w hv).mono fun e w' h => by rw [hp.out] at h; exact h
/-- Numbers and an error. -/
def GivesE (L : List Int) (y : Int) (w : World) (e : Ending) (w' : World) : Prop := ∃ a c, e = .returned (.tuple #[.slice a L.length c, .int .i64 y]) ∧ Hid (Ints w' (.slice a L.length c) L) ∧ Below w.heap.size w w'
theorem givesE_of {L : List Int} {y : Int} {p : List Int × Int} {w : World} (hp : p = (L, y)) {e : Ending} {w' : World} (h : RetInts p.1 p.2 w e w') : GivesE L y w e w' := by
  subst hp
  obtain ⟨v, rfl, hv, hb⟩ := h
  obtain ⟨a, c, rfl, _⟩ := hv.shape
  exact ⟨a, c, rfl, hid hv, hb⟩
theorem memory_g (b l h r : Int) (v : Value) (xs : List Int) (w : World) (hv : Ints w v xs) (L : List Int) (y : Int) (hp : Hid (memF b l h r xs = (L, y))) :
    Calls Try.prog 23 #[.agg #[.int .i64 b, .int .i64 l, .int .i64 h, .int .i64 r], v] w (GivesE L y w) :=
  (memory_any b l h r v xs w hv).mono fun e w' h => givesE_of hp.out h
theorem rmemory_g (b l h r : Int) (v : Value) (xs : List Int) (w : World) (hv : Ints w v xs) (L : List Int) (y : Int) (hp : Hid (memF b l h r xs = (L, y))) :
    Calls Try.prog 24 #[.agg #[.int .i64 b, .int .i64 l, .int .i64 h, .int .i64 r], v] w (GivesE L y w) :=
  (rmemory_any b l h r v xs w hv).mono fun e w' h => givesE_of hp.out h
theorem add_g (b l h r b' l' h' r' : Int) (w : World) (x1 x2 x3 x4 y : Int) (hp : Hid (addF ⟨b, l, h, r⟩ ⟨b', l', h', r'⟩ = (⟨x1, x2, x3, x4⟩, y))) :
    Calls Try.prog 25 #[.agg #[.int .i64 b, .int .i64 l, .int .i64 h, .int .i64 r], .agg #[.int .i64 b', .int .i64 l', .int .i64 h', .int .i64 r']] w fun e w' => e = .returned (.tuple #[.agg #[.int .i64 x1, .int .i64 x2, .int .i64 x3, .int .i64 x4], .int .i64 y]) ∧ Below w.heap.size w w' :=
  (add_any b l h r b' l' h' r' w).mono fun e w' h => by rw [hp.out] at h; exact h
theorem radd_g (b l h r b' l' h' r' : Int) (w : World) (x1 x2 x3 x4 y : Int) (hp : Hid (addF ⟨b, l, h, r⟩ ⟨b', l', h', r'⟩ = (⟨x1, x2, x3, x4⟩, y))) :
    Calls Try.prog 26 #[.agg #[.int .i64 b, .int .i64 l, .int .i64 h, .int .i64 r], .agg #[.int .i64 b', .int .i64 l', .int .i64 h', .int .i64 r']] w fun e w' => e = .returned (.tuple #[.agg #[.int .i64 x1, .int .i64 x2, .int .i64 x3, .int .i64 x4], .int .i64 y]) ∧ Below w.heap.size w w' :=
  (radd_any b l h r b' l' h' r' w).mono fun e w' h => by rw [hp.out] at h; exact h
theorem few_at (v : Value) (xs : List Int) (t : Bool) (w : World) (hv : Ints w v xs) (ht : Hid (decide (xs.length ≤ 500) = t)) : Calls Try.prog 20 #[v] w fun e w' => e = .returned (.bool t) ∧ w = w' :=
  (few_any v xs w hv).mono fun e w' ⟨h1, h2⟩ => ⟨by rw [h1, ht.out], h2⟩
theorem bl2 {W W' : World} {o o' : Obj} (h : Below ((W.alloc o).alloc o').heap.size ((W.alloc o).alloc o') W') : Below W.heap.size W W' := bl1 (bl1 h)

set_option maxRecDepth 100000 in
set_option maxHeartbeats 4000000 in
theorem walkForgets (b l h r b' l' h' r' : Int) (v : Value) (xs : List Int) (w : World) (hv : Ints w v xs) :
    Calls Try.prog 3 #[.agg #[.int .i64 b, .int .i64 l, .int .i64 h, .int .i64 r], .agg #[.int .i64 b', .int .i64 l', .int .i64 h', .int .i64 r'], v] w fun e w' => e = .returned (.bool true) ∧ Below w.heap.size w w' := by
  obtain ⟨x1, y1, hF⟩ : ∃ x y, Hid (forgetsF b l h r xs = (x, y)) := ⟨_, _, rfl⟩
  obtain ⟨L, y2, hM⟩ : ∃ x y, Hid (memF b l h r xs = (x, y)) := ⟨_, _, rfl⟩
  obtain ⟨z1, z2, z3, z4, y3, hA⟩ : ∃ z1 z2 z3 z4 y, Hid (addF ⟨b, l, h, r⟩ ⟨b', l', h', r'⟩ = (⟨z1, z2, z3, z4⟩, y)) := ⟨_, _, _, _, _, rfl⟩
  cases ht : decide (xs.length ≤ 500)
  · have HT := hid ht; clear ht
    go_enter Try.func3, Try.ntmps3
    go_wp2_with fail
    refine (awake_any _).mono ?_
    rintro e w1 ⟨rfl, hb1⟩
    go_wp2_with fail
    refine (few_at v xs false _ (hv.below (bl2 hb1)) HT).mono ?_
    rintro e w2 ⟨rfl, rfl⟩
    go_wp2_with fail
    go_ret
    exact ⟨rfl, bl2 hb1⟩
  · have HT := hid ht; clear ht
    go_enter Try.func3, Try.ntmps3
    go_wp2_with fail
    refine (awake_any _).mono ?_
    rintro e w1 ⟨rfl, hb1⟩
    go_wp2_with fail
    refine (few_at v xs true _ (hv.below (bl2 hb1)) HT).mono ?_
    rintro e w2 ⟨rfl, rfl⟩
    have P1 := hid ((Pbx.new _ b l h r w 25 rfl).next (bl1 hb1))
    have Q1 := hid ((Pbx.new (w.heap.size + 1) b' l' h' r' (w.alloc (.cells #[.int .i64 b, .int .i64 l, .int .i64 h, .int .i64 r] 25)) 25 (by simp)).next hb1)
    have B1 := hid (bl2 hb1)
    obtain ⟨q0, q1, q2, q3, q4⟩ := P1.out
    clear hb1
    go_wp2_with fail
    refine (forgets_g _ _ _ _ v xs _ (hv.below B1.out) _ _ hF).mono ?_
    rintro e w2 ⟨rfl, hb⟩
    clear q0 q1 q2 q3 q4
    have P2 := hid (P1.out.next hb)
    have Q2 := hid (Q1.out.next hb)
    have B2 := hid (Bl.call B1.out hb)
    obtain ⟨q0, q1, q2, q3, q4⟩ := P2.out
    clear hb P1 Q1 B1
    go_wp2_with fail
    refine (rforgets_g _ _ _ _ v xs _ (hv.below B2.out) _ _ hF).mono ?_
    rintro e w3 ⟨rfl, hb⟩
    clear q0 q1 q2 q3 q4
    have P3 := hid (P2.out.next hb)
    have Q3 := hid (Q2.out.next hb)
    have B3 := hid (Bl.call B2.out hb)
    obtain ⟨q0, q1, q2, q3, q4⟩ := P3.out
    clear hb P2 Q2 B2
    go_wp2_with fail
    refine (memory_g _ _ _ _ v xs _ (hv.below B3.out) _ _ hM).mono ?_
    rintro e w4 ⟨a4, c4, rfl, v4, hb⟩
    clear q0 q1 q2 q3 q4
    have P4 := hid (P3.out.next hb)
    have Q4 := hid (Q3.out.next hb)
    have B4 := hid (Bl.call B3.out hb)
    obtain ⟨q0, q1, q2, q3, q4⟩ := P4.out
    clear hb P3 Q3 B3
    go_wp2_with fail
    refine (rmemory_g _ _ _ _ v xs _ (hv.below B4.out) _ _ hM).mono ?_
    rintro e w5 ⟨a5, c5, rfl, v5, hb⟩
    clear q0 q1 q2 q3 q4
    have P5 := hid (P4.out.next hb)
    have Q5 := hid (Q4.out.next hb)
    have B5 := hid (Bl.call B4.out hb)
    have v4' := hid (v4.out.below hb)
    obtain ⟨q0, q1, q2, q3, q4⟩ := P5.out
    obtain ⟨r0, r1, r2, r3, r4⟩ := Q5.out
    clear hb P4 Q4 B4 v4
    go_wp2_with fail
    refine (add_g _ _ _ _ _ _ _ _ _ _ _ _ _ _ hA).mono ?_
    rintro e w6 ⟨rfl, hb⟩
    clear q0 q1 q2 q3 q4 r0 r1 r2 r3 r4
    have P6 := hid (P5.out.next hb)
    have Q6 := hid (Q5.out.next hb)
    have B6 := hid (Bl.call B5.out hb)
    have v4 := hid (v4'.out.below hb)
    have v5' := hid (v5.out.below hb)
    obtain ⟨q0, q1, q2, q3, q4⟩ := P6.out
    obtain ⟨r0, r1, r2, r3, r4⟩ := Q6.out
    clear hb P5 Q5 B5 v4' v5
    go_wp2_with fail
    refine (radd_g _ _ _ _ _ _ _ _ _ _ _ _ _ _ hA).mono ?_
    rintro e w7 ⟨rfl, hb⟩
    clear q0 q1 q2 q3 q4 r0 r1 r2 r3 r4
    have B7 := hid (Bl.call B6.out (bl1 hb))
    have M7 := hid ((Pbx.new _ z1 z2 z3 z4 w6 25 rfl).next hb)
    have v4' := hid (v4.out.below (bl1 hb))
    have v5 := hid (v5'.out.below (bl1 hb))
    obtain ⟨q0, q1, q2, q3, q4⟩ := M7.out
    clear hb P6 Q6 B6 v4 v5'
    go_wp2_with fail
    refine (sameInts_yes _ _ L _ (v4'.out.below (Bl.alloc (Below.refl _ _) _)) (v5.out.below (Bl.alloc (Below.refl _ _) _))).mono ?_
    rintro e w8 ⟨rfl, hb⟩
    have N8 := hid ((Pbx.new _ z1 z2 z3 z4 w7 25 rfl).next hb)
    have M8 := hid (M7.out.next (bl1 hb))
    have B8 := hid (Bl.call B7.out (bl1 hb))
    clear q0 q1 q2 q3 q4
    obtain ⟨q0, q1, q2, q3, q4⟩ := M8.out
    obtain ⟨r0, r1, r2, r3, r4⟩ := N8.out
    clear hb M7 B7 v4' v5
    go_wp2_with fail
    go_ret
    exact ⟨rfl, B8.out⟩
end Go.Proofs.Ytdopgaljbpjpcaa
