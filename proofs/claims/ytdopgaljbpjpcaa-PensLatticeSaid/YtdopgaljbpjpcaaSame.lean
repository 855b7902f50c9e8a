/- SameInts, SameSpans, few. -/
import Derived.Test.YtdopgaljbpjpcaaBaseB
namespace Go.Proofs.Ytdopgaljbpjpcaa
open Go.RowKit

theorem Ints.cellAt {w : World} {a : Option Addr} {n c : Nat} {xs : List Int} (h : Ints w (.slice a n c) xs) {k : Nat} (hk : k < xs.length) : ∃ b o, a = some ⟨b, o, none⟩ ∧ w.cell? ⟨b, o + k, none⟩ = some (.int .i64 xs[k]) := by
  obtain ⟨a', c', e, _, _, h3⟩ := h
  obtain ⟨b, o, rfl, h4⟩ := h3 (by omega)
  simp only [Value.slice.injEq] at e
  refine ⟨b, o, e.1, ?_⟩
  rw [h4 k hk]; simp [List.getD_eq_getElem?_getD, hk]
theorem Ints.shape {w : World} {v : Value} {xs : List Int} (h : Ints w v xs) : ∃ a c, v = .slice a xs.length c ∧ xs.length ≤ 9223372036854775807 := by
  obtain ⟨a, c, rfl, h1, h2, _⟩ := h
  exact ⟨a, c, rfl, by unfold maxLen at h2; omega⟩

set_option maxHeartbeats 400000 in
theorem few_any (v : Value) (xs : List Int) (w : World) (hv : Ints w v xs) :
    Calls Try.prog 20 #[v] w fun e w' => e = .returned (.bool (decide (xs.length ≤ 500))) ∧ w = w' := by
  obtain ⟨a, c, rfl, hm⟩ := hv.shape
  go_enter Try.func20, Try.ntmps20
  go_wp2
  go_ret
  exact ⟨ret_bool (by simp; try omega), rfl⟩

theorem eq_of_upto {xs ys : List Int} (hl : xs.length = ys.length) (h : ∀ j, (hj : j < xs.length) → (hj' : j < ys.length) → xs[j] = ys[j]) : xs = ys :=
  List.ext_getElem hl fun j h1 h2 => h j h1 h2

set_option maxHeartbeats 800000 in
set_option maxRecDepth 20000 in
theorem sameInts_any (v u : Value) (xs ys : List Int) (w : World) (hv : Ints w v xs) (hu : Ints w u ys) :
    Calls Try.prog 27 #[v, u] w fun e w' => e = .returned (.bool (decide (xs = ys))) ∧ Below w.heap.size w w' := by
  obtain ⟨a, c, rfl, hm⟩ := hv.shape
  obtain ⟨a', c', rfl, hm'⟩ := hu.shape
  by_cases hl : xs.length = ys.length
  · have hl' : ((xs.length : Int) != ys.length) = false := by simp [hl]
    have HL := hid hl; clear hl
    have hle : xs.length ≤ ys.length := by have := HL.out; omega
    go_enter Try.func27, Try.ntmps27
    go_wp2_with fail
    go_loopw [5] (fun i wr => ∃ k : Nat, k ≤ xs.length ∧ i = .int .i64 k ∧ Below w.heap.size w wr ∧ Hid (∀ j, (hj : j < xs.length) → (hj' : j < ys.length) → j < k → xs[j] = ys[j])) (fun i _ => xs.length - (intOf i).toNat)
    case atStart => exact ⟨0, by omega, rfl, Below.refl _ _, fun j _ _ hj => by omega⟩
    case round =>
      obtain ⟨k, hk, rfl, hb, HN⟩ := hrel
      by_cases hlt : k < xs.length
      · have hlt' : k < ys.length := by omega
        obtain ⟨b1, o1, rfl, c1⟩ := (hv.below hb).cellAt hlt
        obtain ⟨b2, o2, rfl, c2⟩ := (hu.below hb).cellAt hlt'
        have e1 : (0 : Int) ≤ k := by omega
        have e2 : (k : Int) < xs.length := by omega
        have e3 : (k : Int) < ys.length := by omega
        go_wp2_with fail
        go_quiet (fail)
        by_cases he : xs[k] = ys[k]
        · have hne : (xs[k] != ys[k]) = false := by simp [he]
          have HE := hid he; clear he
          go_wp2_with fail
          go_roundw
          case rel =>
            refine ⟨k + 1, by omega, by go_num, Bl.drewN hb _, fun j h1 h2 hj => ?_⟩
            by_cases e : j = k
            · subst e; exact HE.out
            · exact HN.out j h1 h2 (by omega)
          case measure => simp [intOf]; omega
        · have hne : (xs[k] != ys[k]) = true := by simp [he]
          have HF : Hid (decide (xs = ys) = false) := by
            simp only [Hid, decide_eq_false_iff_not]
            intro e; subst e; exact he rfl
          clear he
          go_wp2_with fail
          go_ret
          exact ⟨ret_bool HF.out.symm, Bl.drewN hb _⟩
      · have HF : Hid (decide (xs = ys) = true) := by
          simp only [Hid, decide_eq_true_eq]
          exact eq_of_upto HL.out (fun j h1 h2 => HN.out j h1 h2 (by omega))
        go_wp2_with fail
        go_ret
        exact ⟨ret_bool HF.out.symm, hb⟩
  · have hl' : ((xs.length : Int) != ys.length) = true := by simp; omega
    have HF : Hid (decide (xs = ys) = false) := by
      simp only [Hid, decide_eq_false_iff_not]
      intro e; subst e; exact hl rfl
    clear hl
    go_enter Try.func27, Try.ntmps27
    go_wp2_with fail
    go_ret
    exact ⟨ret_bool HF.out.symm, Below.refl _ _⟩
end Go.Proofs.Ytdopgaljbpjpcaa
