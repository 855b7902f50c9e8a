/- Slices of structs of two numbers (spans, moments): IndexFunc, ContainsFunc, SameSpans. -/
import Derived.Test.YtdopgaljbpjpcaaSame
import Derived.Test.YtdopgaljbpjpcaaEq
namespace Go.Proofs.Ytdopgaljbpjpcaa
open Go.RowKit
attribute [local go_sem ↓] neq23 guard23

/-- The value v is a slice of structs of two numbers that reads as xs. -/
def Pairs (w : World) (v : Value) (xs : List (Int × Int)) : Prop :=
  ∃ a c, v = .slice a xs.length c ∧ xs.length ≤ c ∧ c ≤ maxLen ∧
    (0 < xs.length → ∃ b o, a = some ⟨b, o, none⟩ ∧ ∀ k, (hk : k < xs.length) → w.cell? ⟨b, o + k * 2, none⟩ = some (.int .i64 xs[k].1) ∧ w.cell? ⟨b, o + k * 2 + 1, none⟩ = some (.int .i64 xs[k].2))
theorem Pairs.below {w w' : World} {v : Value} {xs : List (Int × Int)} (h : Pairs w v xs) (hb : Below w.heap.size w w') : Pairs w' v xs := by
  obtain ⟨a, c, rfl, h1, h2, h3⟩ := h
  refine ⟨a, c, rfl, h1, h2, fun h0 => ?_⟩
  obtain ⟨b, o, rfl, h4⟩ := h3 h0
  refine ⟨b, o, rfl, fun k hk => ?_⟩
  obtain ⟨h5, h6⟩ := h4 k hk
  rw [hb.cell (p := ⟨b, o + k * 2, none⟩) (World.block_lt_of_cell? w _ h5), hb.cell (p := ⟨b, o + k * 2 + 1, none⟩) (World.block_lt_of_cell? w _ h6)]
  exact ⟨h5, h6⟩
theorem Pairs.nil {w : World} : Pairs w (.slice none 0 0) [] := ⟨none, 0, rfl, by simp, by simp, by simp⟩
theorem Pairs.shape {w : World} {v : Value} {xs : List (Int × Int)} (h : Pairs w v xs) : ∃ a c, v = .slice a xs.length c ∧ xs.length ≤ 9223372036854775807 := by
  obtain ⟨a, c, rfl, h1, h2, _⟩ := h
  exact ⟨a, c, rfl, by unfold maxLen at h2; omega⟩
theorem Pairs.cellAt {w : World} {a : Option Addr} {n c : Nat} {xs : List (Int × Int)} (h : Pairs w (.slice a n c) xs) {k : Nat} (hk : k < xs.length) :
    ∃ b o, a = some ⟨b, o, none⟩ ∧ w.cell? ⟨b, o + k * 2, none⟩ = some (.int .i64 xs[k].1) ∧ w.cell? ⟨b, o + k * 2 + 1, none⟩ = some (.int .i64 xs[k].2) := by
  obtain ⟨a', c', e, _, _, h3⟩ := h
  obtain ⟨b, o, rfl, h4⟩ := h3 (by omega)
  simp only [Value.slice.injEq] at e
  exact ⟨b, o, e.1, h4 k hk⟩

def PaysP (g : Nat) (lb : Array Value) (p : Int × Int → Bool) (w : World) : Prop :=
  ∀ W x, Below w.heap.size w W → Calls Try.prog g (#[.agg #[.int .i64 x.1, .int .i64 x.2]] ++ lb) W fun e w' => e = .returned (.bool (p x)) ∧ Below W.heap.size W w'
def idxP (p : Int × Int → Bool) (xs : List (Int × Int)) : Int := match xs.findIdx? p with | some k => k | none => -1
theorem idxP_hit {p : Int × Int → Bool} {xs : List (Int × Int)} {k : Nat} (hk : k < xs.length) (hp : p xs[k] = true) (hn : ∀ j, (hj : j < xs.length) → j < k → p xs[j] = false) : idxP p xs = k := by
  have : xs.findIdx? p = some k := by
    rw [List.findIdx?_eq_some_iff_getElem]
    refine ⟨hk, hp, fun j hj => ?_⟩
    have := hn j (by omega) hj
    simp [this]
  simp [idxP, this]
theorem idxP_none {p : Int × Int → Bool} {xs : List (Int × Int)} (hn : ∀ j, (hj : j < xs.length) → p xs[j] = false) : idxP p xs = -1 := by
  have : xs.findIdx? p = none := by
    rw [List.findIdx?_eq_none_iff]
    intro x hx
    obtain ⟨j, hj, rfl⟩ := List.getElem_of_mem hx
    exact hn j hj
  simp [idxP, this]
theorem any_idxP (p : Int × Int → Bool) (xs : List (Int × Int)) : decide (0 ≤ idxP p xs) = xs.any p := by
  unfold idxP
  cases h : xs.findIdx? p with
  | some k =>
    obtain ⟨hk, hp, _⟩ := List.findIdx?_eq_some_iff_getElem.1 h
    simp
    exact ⟨_, _, List.getElem_mem hk, hp⟩
  | none => simp; simpa using h

set_option maxHeartbeats 400000 in
set_option maxRecDepth 20000 in
theorem indexFuncP_any (v : Value) (xs : List (Int × Int)) (g : Nat) (lb : Array Value) (p : Int × Int → Bool) (w : World) (hv : Pairs w v xs) (he : Enters Try.prog g) (hg : PaysP g lb p w) :
    Calls Try.prog 114 #[v, .func (.func g) #[] lb] w fun e w' => e = .returned (.int .i64 (idxP p xs)) ∧ Below w.heap.size w w' := by
  obtain ⟨a, c, rfl, hm⟩ := hv.shape
  have HG := hid hg; clear hg
  have he' : ∀ (args : Array Value) (w : World), (callFunc g args).run Try.prog w = .ok (.enter g args) w := he
  clear he
  go_enter Try.func114, Try.ntmps114
  go_wp2_with fail
  go_loopw [8] (fun i wr => ∃ k : Nat, k ≤ xs.length ∧ i = .int .i64 k ∧ Below w.heap.size w wr ∧ Hid (∀ j, (hj : j < xs.length) → j < k → p xs[j] = false)) (fun i _ => xs.length - (intOf i).toNat)
  case atStart => exact ⟨0, by omega, rfl, Below.refl _ _, fun j _ hj => by omega⟩
  case round =>
    obtain ⟨k, hk, rfl, hb, HN⟩ := hrel
    by_cases hlt : k < xs.length
    · obtain ⟨b, o, rfl, c1, c2⟩ := (hv.below hb).cellAt hlt
      go_wp2_with fail
      refine (HG.out _ xs[k] hb).mono ?_
      rintro e w1 ⟨rfl, hb1⟩
      cases hp : p xs[k]
      · have HP := hid hp; clear hp
        go_wp2
        go_roundw
        case rel =>
          refine ⟨k + 1, by omega, by go_num, Bl.call hb hb1, fun j h1 hj => ?_⟩
          by_cases e : j = k
          · subst e; exact HP.out
          · exact HN.out j h1 (by omega)
        case measure => simp [intOf]; omega
      · have HF : Hid (idxP p xs = k) := idxP_hit hlt hp HN.out
        clear hp
        go_wp2
        go_ret
        exact ⟨ret_int HF.out.symm, Bl.call hb hb1⟩
    · have HF : Hid (idxP p xs = -1) := idxP_none (fun j h1 => HN.out j h1 (by omega))
      go_wp2_with fail
      go_ret
      exact ⟨ret_int HF.out.symm, hb⟩

set_option maxHeartbeats 400000 in
theorem containsFuncP_any (v : Value) (xs : List (Int × Int)) (g : Nat) (lb : Array Value) (p : Int × Int → Bool) (w : World) (hv : Pairs w v xs) (he : Enters Try.prog g) (hg : PaysP g lb p w) :
    Calls Try.prog 107 #[v, .func (.func g) #[] lb] w fun e w' => e = .returned (.bool (xs.any p)) ∧ Below w.heap.size w w' := by
  have HD := hid (any_idxP p xs)
  go_enter Try.func107, Try.ntmps107
  go_wp2_with (go_at_call 114; refine (indexFuncP_any v xs g lb p _ hv he hg).mono ?_; rintro e w' ⟨rfl, hb⟩)
  go_ret
  exact ⟨ret_bool HD.out, by assumption⟩

set_option maxHeartbeats 400000 in
theorem reals2_any (a b : Int) (w : World) :
    Calls Try.prog 108 #[.agg #[.int .i64 a, .int .i64 b]] w fun e w' => e = .returned (.bool (decide (b < a))) ∧ Below w.heap.size w w' := by
  go_enter Try.func108, Try.ntmps108
  go_wp2
  go_ret
  exact ⟨rfl, Bl.alloc (Below.refl _ _) _⟩
theorem pays108 (w : World) : PaysP 108 #[] (fun x => decide (x.2 < x.1)) w := fun W x _ => reals2_any x.1 x.2 W

set_option maxHeartbeats 800000 in
set_option maxRecDepth 20000 in
theorem sameSpans_any (v u : Value) (xs ys : List (Int × Int)) (w : World) (hv : Pairs w v xs) (hu : Pairs w u ys) :
    Calls Try.prog 41 #[v, u] w fun e w' => e = .returned (.bool (decide (xs = ys))) ∧ Below w.heap.size w w' := by
  obtain ⟨a, c, rfl, hm⟩ := hv.shape
  obtain ⟨a', c', rfl, hm'⟩ := hu.shape
  by_cases hl : xs.length = ys.length
  · have hl' : ((xs.length : Int) != ys.length) = false := by simp [hl]
    have HL := hid hl; clear hl
    have hle : xs.length ≤ ys.length := by have := HL.out; omega
    go_enter Try.func41, Try.ntmps41
    go_wp2_with fail
    go_loopw [5] (fun i wr => ∃ k : Nat, k ≤ xs.length ∧ i = .int .i64 k ∧ Below w.heap.size w wr ∧ Hid (∀ j, (hj : j < xs.length) → (hj' : j < ys.length) → j < k → xs[j] = ys[j])) (fun i _ => xs.length - (intOf i).toNat)
    case atStart => exact ⟨0, by omega, rfl, Below.refl _ _, fun j _ _ hj => by omega⟩
    case round =>
      obtain ⟨k, hk, rfl, hb, HN⟩ := hrel
      by_cases hlt : k < xs.length
      · have hlt' : k < ys.length := by omega
        obtain ⟨b1, o1, rfl, c1, c1'⟩ := (hv.below hb).cellAt hlt
        obtain ⟨b2, o2, rfl, c2, c2'⟩ := (hu.below hb).cellAt hlt'
        have e1 : (0 : Int) ≤ k := by omega
        have e2 : (k : Int) < xs.length := by omega
        have e3 : (k : Int) < ys.length := by omega
        go_wp2_with fail
        go_quiet (fail)
        by_cases he : xs[k] = ys[k]
        · have hne : (!xs[k].1 == ys[k].1 || !xs[k].2 == ys[k].2) = false := by simp [he]
          have HE := hid he; clear he
          rw [hne]
          go_wp2_with fail
          go_roundw
          case rel =>
            refine ⟨k + 1, by omega, by go_num, Bl.drewN hb _, fun j h1 h2 hj => ?_⟩
            by_cases e : j = k
            · subst e; exact HE.out
            · exact HN.out j h1 h2 (by omega)
          case measure => simp [intOf]; omega
        · have hne : (!xs[k].1 == ys[k].1 || !xs[k].2 == ys[k].2) = true := by
            cases hb' : (!xs[k].1 == ys[k].1 || !xs[k].2 == ys[k].2) with
            | true => rfl
            | false => simp at hb'; exact absurd (Prod.ext hb'.1 hb'.2) he
          have HF : Hid (decide (xs = ys) = false) := by
            simp only [Hid, decide_eq_false_iff_not]
            intro e; subst e; exact he rfl
          clear he
          rw [hne]
          go_wp2_with fail
          go_ret
          exact ⟨ret_bool HF.out.symm, Bl.drewN hb _⟩
      · have HF : Hid (decide (xs = ys) = true) := by
          simp only [Hid, decide_eq_true_eq]
          exact List.ext_getElem HL.out (fun j h1 h2 => HN.out j h1 h2 (by omega))
        go_wp2_with fail
        go_ret
        exact ⟨ret_bool HF.out.symm, hb⟩
  · have hl' : ((xs.length : Int) != ys.length) = true := by simp; omega
    have HF : Hid (decide (xs = ys) = false) := by
      simp only [Hid, decide_eq_false_iff_not]
      intro e; subst e; exact hl rfl
    clear hl
    go_enter Try.func41, Try.ntmps41
    go_wp2_with fail
    go_ret
    exact ⟨ret_bool HF.out.symm, Below.refl _ _⟩
end Go.Proofs.Ytdopgaljbpjpcaa
