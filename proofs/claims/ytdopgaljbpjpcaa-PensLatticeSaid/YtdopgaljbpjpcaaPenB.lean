/- pens.step, Step, Starts. -/
import Derived.Test.YtdopgaljbpjpcaaPenA
namespace Go.Proofs.Ytdopgaljbpjpcaa
open Go.RowKit

theorem cell_reg (w : World) (d : Nat) (os : Array Obj) (b o : Nat) (h : b < w.heap.size) : (Sort.grow (redrawn w d) os).cell? ⟨b, o, none⟩ = w.cell? ⟨b, o, none⟩ :=
  (below_regrown w d os).cell (p := ⟨b, o, none⟩) h
theorem wp_region_qb {P : Program} {id : Nat} {Q : Exit → Act → World → Prop} {a : Act} {w : World} {l : List Oper} (hm : P.follows .mixedOrders = true) (hB : Region.lexB .any l.toArray = true)
    (h : wpQuiet P l.toArray (fun w' => ∃ p : Regrown, w' = Sort.grow (redrawn w p.d) p.os) (fun a' => ∀ w', Below w.heap.size w w' → Q .normal a' w') l a) : (Code.region id l.toArray true).wp P Q a w := by
  refine wp_region_quiet_below hm hB ?_
  have e : (fun a' => ∀ w', (∃ p : Regrown, w' = Sort.grow (redrawn w p.d) p.os) → Q .normal a' w') = (fun a' => ∀ w', Below w.heap.size w w' → Q .normal a' w') := by
    funext a'
    apply propext
    constructor
    · intro h w' hb; exact h w' (regrown_of_below hb)
    · rintro h w' ⟨p, rfl⟩; exact h _ (below_regrown _ _ _)
  rw [e]; exact h

theorem Bl.setCell {a w : World} (h : Below a.heap.size a w) {p : Addr} (hp : a.heap.size ≤ p.block) (u : Value) : Below a.heap.size a (w.setCell p u) := Below.setCell h hp u

theorem right_yes (b l h r s n : Int) (w : World) (hs : -1000000 ≤ s ∧ s ≤ 1000000) (hn : -1000000 ≤ n ∧ n ≤ 1000000) (hr : Hid (rightB b s n = true)) :
    Calls Try.prog 101 #[.agg #[.int .i64 b, .int .i64 l, .int .i64 h, .int .i64 r], .agg #[.int .i64 s, .int .i64 n]] w fun e w' => e = .returned (.bool true) ∧ Below w.heap.size w w' :=
  (right_any b l h r s n w hs hn).mono fun e w' ⟨h1, h2⟩ => ⟨by rw [h1, hr.out], h2⟩
theorem right_no (b l h r s n : Int) (w : World) (hs : -1000000 ≤ s ∧ s ≤ 1000000) (hn : -1000000 ≤ n ∧ n ≤ 1000000) (hr : Hid (rightB b s n = false)) :
    Calls Try.prog 101 #[.agg #[.int .i64 b, .int .i64 l, .int .i64 h, .int .i64 r], .agg #[.int .i64 s, .int .i64 n]] w fun e w' => e = .returned (.bool false) ∧ Below w.heap.size w w' :=
  (right_any b l h r s n w hs hn).mono fun e w' ⟨h1, h2⟩ => ⟨by rw [h1, hr.out], h2⟩
def apartN (a b : Int) : Int := max (a - b) (b - a)
theorem apart_b (a b : Int) (w : World) (ha : -1000000 ≤ a ∧ a ≤ 1000000) (hb : -1000000 ≤ b ∧ b ≤ 1000000) :
    Calls Try.prog 66 #[.int .i64 a, .int .i64 b] w fun e w' => e = .returned (.int .i64 (apartN a b)) ∧ Below w.heap.size w w' :=
  (apart_any a b w ha hb).mono fun e w' ⟨h1, h2⟩ => ⟨h1, by rw [← h2]; exact Below.refl _ _⟩

attribute [local go_sem] cell_reg
set_option maxHeartbeats 800000 in
set_option maxRecDepth 20000 in
theorem step_yes (b l h r s n x : Int) (w : World) (hp : Hid (penOk b l h r = true)) (hs : -1000000 ≤ s ∧ s ≤ 1000000) (hn : -1000000 ≤ n ∧ n ≤ 1000000) (hx : -100000 ≤ x ∧ x ≤ 100000)
    (hr : Hid (rightB b s n = true)) (ha : apartN x n ≤ r) :
    Calls Try.prog 87 #[.agg #[.int .i64 b, .int .i64 l, .int .i64 h, .int .i64 r], .agg #[.int .i64 s, .int .i64 n], .int .i64 x] w fun e w' =>
      e = .returned (.tuple #[.agg #[.int .i64 (lazyN b s x), .int .i64 x], .bool true]) ∧ Below w.heap.size w w' := by
  have hx' : -1000000 ≤ x ∧ x ≤ 1000000 := by omega
  go_enter Try.func87, Try.ntmps87
  go_wp2_with fail
  refine wp_region_qb (by kernel_rfl) (by kernel_rfl) ?_
  repeat (go_big_quiet_step (first | exact Calls.regrown_of (right_yes _ _ _ _ _ _ _ hs hn hr) | exact Calls.regrown_of (apart_b _ _ _ hx' hn)))
  refine wpQuiet_nil ?_
  intro w2 hb2
  obtain ⟨hc2, hf2⟩ := bcell hb2
  have z2 := hb2.size
  simp only [World.size_alloc] at z2
  have z20 : w.heap.size < w2.heap.size := by omega
  have z21 : w.heap.size + 1 < w2.heap.size := by omega
  have z22 : w.heap.size + 1 + 1 < w2.heap.size := by omega
  go_wp2_with (go_at_call 67; refine (next_ok _ _ _ _ _ _ _ hp (by omega) (by omega)).mono ?_; rintro e w3 ⟨rfl, hb3⟩; obtain ⟨hc3, hf3⟩ := bcell hb3)
  refine bodyPost_ret (v := .tuple #[.agg #[.int .i64 (lazyN b s x), .int .i64 x], .bool true]) (by simp [results, Try.results87, go_sem, hc3, hc2, z22]) rfl ⟨rfl, ?_⟩
  repeat (first | exact Below.refl _ _ | refine Bl.alloc ?_ _ | refine Bl.setCell ?_ (by simp; try omega) _ | refine Bl.drew ?_ | refine Bl.drewN ?_ _ | refine Bl.call ?_ (by assumption))

set_option maxHeartbeats 800000 in
set_option maxRecDepth 20000 in
theorem step_no1 (b l h r s n x : Int) (w : World) (hs : -1000000 ≤ s ∧ s ≤ 1000000) (hn : -1000000 ≤ n ∧ n ≤ 1000000)
    (hr : Hid (rightB b s n = false)) :
    Calls Try.prog 87 #[.agg #[.int .i64 b, .int .i64 l, .int .i64 h, .int .i64 r], .agg #[.int .i64 s, .int .i64 n], .int .i64 x] w fun e w' =>
      e = .returned (.tuple #[.agg #[.int .i64 0, .int .i64 0], .bool false]) ∧ Below w.heap.size w w' := by
  go_enter Try.func87, Try.ntmps87
  go_wp2_with fail
  refine wp_region_qb (by kernel_rfl) (by kernel_rfl) ?_
  repeat (go_big_quiet_step (first | exact Calls.regrown_of (right_no _ _ _ _ _ _ _ hs hn hr)))
  refine wpQuiet_nil ?_
  intro w2 hb2
  obtain ⟨hc2, hf2⟩ := bcell hb2
  have z2 := hb2.size
  simp only [World.size_alloc] at z2
  have z20 : w.heap.size < w2.heap.size := by omega
  have z21 : w.heap.size + 1 < w2.heap.size := by omega
  have z22 : w.heap.size + 1 + 1 < w2.heap.size := by omega
  go_wp2_with fail
  refine bodyPost_ret (v := .tuple #[.agg #[.int .i64 0, .int .i64 0], .bool false]) (by simp [results, Try.results87, go_sem, hc2]) rfl ⟨rfl, ?_⟩
  repeat (first | exact Below.refl _ _ | refine Bl.alloc ?_ _ | refine Bl.setCell ?_ (by simp; try omega) _ | refine Bl.drew ?_ | refine Bl.drewN ?_ _ | refine Bl.call ?_ (by assumption))

set_option maxHeartbeats 800000 in
set_option maxRecDepth 20000 in
theorem step_no2 (b l h r s n x : Int) (w : World) (hs : -1000000 ≤ s ∧ s ≤ 1000000) (hn : -1000000 ≤ n ∧ n ≤ 1000000) (hx : -100000 ≤ x ∧ x ≤ 100000)
    (hr : Hid (rightB b s n = true)) (ha : r < apartN x n) :
    Calls Try.prog 87 #[.agg #[.int .i64 b, .int .i64 l, .int .i64 h, .int .i64 r], .agg #[.int .i64 s, .int .i64 n], .int .i64 x] w fun e w' =>
      e = .returned (.tuple #[.agg #[.int .i64 0, .int .i64 0], .bool false]) ∧ Below w.heap.size w w' := by
  have hx' : -1000000 ≤ x ∧ x ≤ 1000000 := by omega
  go_enter Try.func87, Try.ntmps87
  go_wp2_with fail
  refine wp_region_qb (by kernel_rfl) (by kernel_rfl) ?_
  repeat (go_big_quiet_step (first | exact Calls.regrown_of (right_yes _ _ _ _ _ _ _ hs hn hr) | exact Calls.regrown_of (apart_b _ _ _ hx' hn)))
  refine wpQuiet_nil ?_
  intro w2 hb2
  obtain ⟨hc2, hf2⟩ := bcell hb2
  have z2 := hb2.size
  simp only [World.size_alloc] at z2
  have z20 : w.heap.size < w2.heap.size := by omega
  have z21 : w.heap.size + 1 < w2.heap.size := by omega
  have z22 : w.heap.size + 1 + 1 < w2.heap.size := by omega
  go_wp2_with fail
  refine bodyPost_ret (v := .tuple #[.agg #[.int .i64 0, .int .i64 0], .bool false]) (by simp [results, Try.results87, go_sem, hc2]) rfl ⟨rfl, ?_⟩
  repeat (first | exact Below.refl _ _ | refine Bl.alloc ?_ _ | refine Bl.setCell ?_ (by simp; try omega) _ | refine Bl.drew ?_ | refine Bl.drewN ?_ _ | refine Bl.call ?_ (by assumption))
end Go.Proofs.Ytdopgaljbpjpcaa
