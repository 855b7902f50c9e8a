/- pens.asked, pens.list, pens.listed, and the specification's twins. -/
import Derived.Test.YtdopgaljbpjpcaaFind
import Derived.Deep.DeepFit
namespace Go.Proofs.Ytdopgaljbpjpcaa
open Go.RowKit

def lvls (xs : List Int) : Bool := xs.all lvl
theorem anyB_not (xs : List Int) : anyB (fun n => !lvl n) xs = !lvls xs := by
  unfold anyB lvls
  induction xs with
  | nil => rfl
  | cons x xs ih => simp [ih]
def listOk (xs : List Int) : Bool := decide (1 ≤ xs.length ∧ xs.length ≤ 401) && lvls xs
def listE (xs : List Int) : Int := if listOk xs = true then 0 else 1
def askE (b l h r : Int) (xs : List Int) : Int := if penOk b l h r = true then (if lvls xs = true then 0 else 1) else 30
def listedE (b l h r : Int) (xs : List Int) : Int := if penOk b l h r = true then listE xs else 30

theorem pays97 (w : World) : Pays 97 #[] (fun n => !lvl n) w := fun W x _ => (asked1_any x W).mono fun e w' ⟨h1, h2⟩ => ⟨h1, by rw [← h2]; exact Below.refl _ _⟩
theorem pays99 (w : World) : Pays 99 #[] (fun n => !lvl n) w := fun W x _ => (list1_any x W).mono fun e w' ⟨h1, h2⟩ => ⟨h1, by rw [← h2]; exact Below.refl _ _⟩
theorem checkE_ok {b l h r : Int} (hp : penOk b l h r = true) : checkE b l h r = 0 := by simp [checkE, hp]
theorem checkE_bad {b l h r : Int} (hp : penOk b l h r = false) : checkE b l h r = 30 := by simp [checkE, hp]
theorem check_ok (b l h r : Int) (w : World) (hp : Hid (penOk b l h r = true)) :
    Calls Try.prog 49 #[.agg #[.int .i64 b, .int .i64 l, .int .i64 h, .int .i64 r]] w fun e w' => e = .returned (.int .i64 0) ∧ Below w.heap.size w w' :=
  (check_any b l h r w).mono fun e w' ⟨h1, h2⟩ => ⟨by rw [h1, checkE_ok hp.out], h2⟩
theorem check_bad (b l h r : Int) (w : World) (hp : Hid (penOk b l h r = false)) :
    Calls Try.prog 49 #[.agg #[.int .i64 b, .int .i64 l, .int .i64 h, .int .i64 r]] w fun e w' => e = .returned (.int .i64 30) ∧ Below w.heap.size w w' :=
  (check_any b l h r w).mono fun e w' ⟨h1, h2⟩ => ⟨by rw [h1, checkE_bad hp.out], h2⟩
theorem rcheck_ok (b l h r : Int) (w : World) (hp : Hid (penOk b l h r = true)) :
    Calls Try.prog 50 #[.agg #[.int .i64 b, .int .i64 l, .int .i64 h, .int .i64 r]] w fun e w' => e = .returned (.int .i64 0) ∧ Below w.heap.size w w' :=
  (rcheck_any b l h r w).mono fun e w' ⟨h1, h2⟩ => ⟨by rw [h1, checkE_ok hp.out], h2⟩
theorem rcheck_bad (b l h r : Int) (w : World) (hp : Hid (penOk b l h r = false)) :
    Calls Try.prog 50 #[.agg #[.int .i64 b, .int .i64 l, .int .i64 h, .int .i64 r]] w fun e w' => e = .returned (.int .i64 30) ∧ Below w.heap.size w w' :=
  (rcheck_any b l h r w).mono fun e w' ⟨h1, h2⟩ => ⟨by rw [h1, checkE_bad hp.out], h2⟩

set_option maxHeartbeats 400000 in
theorem asked_any (b l h r : Int) (v : Value) (xs : List Int) (w : World) (hv : Ints w v xs) :
    Calls Try.prog 74 #[.agg #[.int .i64 b, .int .i64 l, .int .i64 h, .int .i64 r], v] w fun e w' => e = .returned (.int .i64 (askE b l h r xs)) ∧ Below w.heap.size w w' := by
  cases hp : penOk b l h r
  · have HF : Hid (askE b l h r xs = 30) := by simp [Hid, askE, hp]
    have HP := hid hp; clear hp
    go_enter Try.func74, Try.ntmps74
    go_wp2_with (go_at_call 49; refine (check_bad _ _ _ _ _ HP).mono ?_; rintro e w1 ⟨rfl, hb1⟩)
    go_ret
    exact ⟨ret_int HF.out.symm, Bl.call (Bl.alloc (Below.refl _ _) _) (by assumption)⟩
  · cases hx : lvls xs
    all_goals
      have HF : Hid (askE b l h r xs = if lvls xs = true then 0 else 1) := by simp [Hid, askE, hp]
      have HA : Hid (anyB (fun n => !lvl n) xs = !lvls xs) := anyB_not xs
      have HX := hid hx
      have HP := hid hp; clear hp hx
      go_enter Try.func74, Try.ntmps74
      go_wp2_with (go_at_call 49; refine (check_ok _ _ _ _ _ HP).mono ?_; rintro e w1 ⟨rfl, hb1⟩)
      refine (containsFunc_any _ xs 97 #[] _ _ (Ints.below hv (Bl.call (Bl.alloc (Below.refl _ _) _) (by assumption))) (enters_of Try.func97 (by kernel_rfl) rfl) (pays97 _)).mono ?_
      rintro e w2 ⟨rfl, hb2⟩
      rw [HA.out, HX.out]
      go_wp2
      go_ret
      exact ⟨ret_int (by rw [HF.out, HX.out]; rfl), Bl.call (Bl.call (Bl.alloc (Below.refl _ _) _) (by assumption)) (by assumption)⟩

set_option maxHeartbeats 400000 in
theorem list_any (v : Value) (xs : List Int) (w : World) (hv : Ints w v xs) :
    Calls Try.prog 75 #[v] w fun e w' => e = .returned (.int .i64 (listE xs)) ∧ Below w.heap.size w w' := by
  have HA : Hid (anyB (fun n => !lvl n) xs = !lvls xs) := anyB_not xs
  have HV := hid hv
  obtain ⟨a, c, rfl, hlc, hcm, hx⟩ := hv
  clear hx
  unfold maxLen at hcm
  cases hn : withinB xs.length 1 401
  · have HF : Hid (listE xs = 1) := by
      simp [withinB] at hn
      simp [Hid, listE, listOk]; omega
    have HN := hid hn; clear hn
    go_enter Try.func75, Try.ntmps75
    go_wp2_with (go_at_call 71; refine (within_any _ _ _ _).mono ?_; rintro e w' ⟨rfl, rfl⟩; rw [HN.out])
    go_ret
    exact ⟨ret_int HF.out.symm, Below.refl _ _⟩
  · cases hx : lvls xs
    all_goals
      have HF : Hid (listE xs = if lvls xs = true then 0 else 1) := by
        have hn' : 1 ≤ xs.length ∧ xs.length ≤ 401 := by simp [withinB] at hn; omega
        simp [Hid, listE, listOk, hn']
      have HX := hid hx
      have HN := hid hn; clear hn hx
      go_enter Try.func75, Try.ntmps75
      go_wp2_with (go_at_call 71; refine (within_any _ _ _ _).mono ?_; rintro e w' ⟨rfl, rfl⟩; rw [HN.out])
      refine (containsFunc_any _ xs 99 #[] _ _ HV.out (enters_of Try.func99 (by kernel_rfl) rfl) (pays99 _)).mono ?_
      rintro e w2 ⟨rfl, hb2⟩
      rw [HA.out, HX.out]
      go_wp2
      go_ret
      exact ⟨ret_int (by rw [HF.out, HX.out]; rfl), by assumption⟩

set_option maxHeartbeats 400000 in
theorem listed_any (b l h r : Int) (v : Value) (xs : List Int) (w : World) (hv : Ints w v xs) :
    Calls Try.prog 65 #[.agg #[.int .i64 b, .int .i64 l, .int .i64 h, .int .i64 r], v] w fun e w' => e = .returned (.int .i64 (listedE b l h r xs)) ∧ Below w.heap.size w w' := by
  cases hp : penOk b l h r
  · have HF : Hid (listedE b l h r xs = 30) := by simp [Hid, listedE, hp]
    have HP := hid hp; clear hp
    go_enter Try.func65, Try.ntmps65
    go_wp2_with (go_at_call 49; refine (check_bad _ _ _ _ _ HP).mono ?_; rintro e w1 ⟨rfl, hb1⟩)
    go_ret
    exact ⟨ret_int HF.out.symm, Bl.call (Bl.alloc (Below.refl _ _) _) (by assumption)⟩
  · have HF : Hid (listedE b l h r xs = listE xs) := by simp [Hid, listedE, hp]
    have HP := hid hp; clear hp
    go_enter Try.func65, Try.ntmps65
    go_wp2_with (go_at_call 49; refine (check_ok _ _ _ _ _ HP).mono ?_; rintro e w1 ⟨rfl, hb1⟩)
    refine (list_any _ xs _ (Ints.below hv (Bl.call (Bl.alloc (Below.refl _ _) _) (by assumption)))).mono ?_
    rintro e w2 ⟨rfl, hb2⟩
    go_wp2
    go_ret
    exact ⟨ret_int HF.out.symm, Bl.call (Bl.call (Bl.alloc (Below.refl _ _) _) (by assumption)) (by assumption)⟩
end Go.Proofs.Ytdopgaljbpjpcaa
