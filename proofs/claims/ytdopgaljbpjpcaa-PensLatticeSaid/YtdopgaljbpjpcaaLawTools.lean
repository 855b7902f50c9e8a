/- What the laws' walks share. -/
import Derived.Test.YtdopgaljbpjpcaaWay
namespace Go.Proofs.Ytdopgaljbpjpcaa
open Go.RowKit

/-- Numbers and an error. -/
def GivesE (L : List Int) (y : Int) (w : World) (e : Ending) (w' : World) : Prop := ∃ a c, e = .returned (.tuple #[.slice a L.length c, .int .i64 y]) ∧ Hid (Ints w' (.slice a L.length c) L) ∧ Below w.heap.size w w'
theorem givesE_of {L : List Int} {y : Int} {p : List Int × Int} {w : World} (hp : p = (L, y)) {e : Ending} {w' : World} (h : RetInts p.1 p.2 w e w') : GivesE L y w e w' := by
  subst hp
  obtain ⟨v, rfl, hv, hb⟩ := h
  obtain ⟨a, c, rfl, _⟩ := hv.shape
  exact ⟨a, c, rfl, hid hv, hb⟩
theorem follow_g (b l h r f : Int) (v : Value) (xs : List Int) (w : World) (hv : Ints w v xs) (L : List Int) (y : Int) (hp : Hid (followF b l h r f xs = (L, y))) :
    Calls Try.prog 28 #[.agg #[.int .i64 b, .int .i64 l, .int .i64 h, .int .i64 r], .int .i64 f, v] w (GivesE L y w) :=
  (follow_all b l h r f v xs w hv).mono fun _e _w' h => givesE_of hp.out h
theorem few_at (v : Value) (xs : List Int) (t : Bool) (w : World) (hv : Ints w v xs) (ht : Hid (decide (xs.length ≤ 500) = t)) : Calls Try.prog 20 #[v] w fun e w' => e = .returned (.bool t) ∧ w = w' :=
  (few_any v xs w hv).mono fun e w' ⟨h1, h2⟩ => ⟨by rw [h1, ht.out], h2⟩
theorem bl2 {W W' : World} {o o' : Obj} (h : Below ((W.alloc o).alloc o').heap.size ((W.alloc o).alloc o') W') : Below W.heap.size W W' := bl1 (bl1 h)
theorem bl3 {W W' : World} {o o' o'' : Obj} (h : Below (((W.alloc o).alloc o').alloc o'').heap.size (((W.alloc o).alloc o').alloc o'') W') : Below W.heap.size W W' := bl1 (bl1 (bl1 h))
/-- What Follow's two results are. -/
theorem followF_cases {b l h r f : Int} {xs L : List Int} {y : Int} (hp : followF b l h r f xs = (L, y)) :
    (y ≠ 0 ∧ L = [] ∧ followOk b l h r f xs = false) ∨ (y = 0 ∧ L = shownL b f xs ∧ followOk b l h r f xs = true) := by
  cases hk : followOk b l h r f xs
  · left
    have := followF_bad hk
    rw [hp] at this
    exact ⟨this.2, this.1, rfl⟩
  · right
    rw [followF_ok hk] at hp
    cases hp
    exact ⟨rfl, rfl, rfl⟩
theorem Ints.cell0 {w : World} {a : Option Addr} {n c : Nat} {xs : List Int} (h : Ints w (.slice a n c) xs) (h0 : 0 < xs.length) : ∃ b o, a = some ⟨b, o, none⟩ ∧ w.cell? ⟨b, o, none⟩ = some (.int .i64 xs[0]) := by
  obtain ⟨b, o, e, h1⟩ := h.cellAt h0
  exact ⟨b, o, e, by simpa using h1⟩
theorem listOk_iff {xs : List Int} : listOk xs = true ↔ (1 ≤ xs.length ∧ xs.length ≤ 401) ∧ ∀ x ∈ xs, -50000 ≤ x ∧ x ≤ 50000 := by
  simp only [listOk, Bool.and_eq_true, decide_eq_true_eq, lvls_iff]
theorem add_g (b l h r b' l' h' r' : Int) (w : World) (x1 x2 x3 x4 y : Int) (hp : Hid (addF ⟨b, l, h, r⟩ ⟨b', l', h', r'⟩ = (⟨x1, x2, x3, x4⟩, y))) :
    Calls Try.prog 25 #[.agg #[.int .i64 b, .int .i64 l, .int .i64 h, .int .i64 r], .agg #[.int .i64 b', .int .i64 l', .int .i64 h', .int .i64 r']] w fun e w' => e = .returned (.tuple #[.agg #[.int .i64 x1, .int .i64 x2, .int .i64 x3, .int .i64 x4], .int .i64 y]) ∧ Below w.heap.size w w' :=
  (add_any b l h r b' l' h' r' w).mono fun e w' h => by rw [hp.out] at h; exact h
theorem int_ne_true {a b : Nat} (h : a ≠ b) : ((a : Int) != b) = true := by simp; omega
theorem int_ne_false {a b : Nat} (h : a = b) : ((a : Int) != b) = false := by simp; omega
theorem neq0 {y : Int} (h : y ≠ 0) : (y != 0) = true := by simpa using h

end Go.Proofs.Ytdopgaljbpjpcaa
