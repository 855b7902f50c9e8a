/- The walk of the law PensEven. -/
import Derived.Test.YtdopgaljbpjpcaaLawTools
import Derived.BigQuiet
import Derived.Deep.QuietTactic
namespace Go.Proofs.Ytdopgaljbpjpcaa
open Go.RowKit

set_option maxRecDepth 100000 in
set_option maxHeartbeats 4000000 in
theorem walkEven (b l h r f : Int) (v : Value) (xs : List Int) (g : Int) (u : Value) (ys : List Int) (w : World) (hv : Ints w v xs) (hu : Ints w u ys) :
    Calls Try.prog 5 #[.agg #[.int .i64 b, .int .i64 l, .int .i64 h, .int .i64 r], .int .i64 f, v, .int .i64 g, u] w fun e w' => e = .returned (.bool true) ∧ Below w.heap.size w w' := by
  obtain ⟨t, ht⟩ : ∃ t, Hid (decide (xs.length ≤ 500) = t) := ⟨_, rfl⟩
  obtain ⟨L, y1, hp1⟩ : ∃ L y, Hid (followF b l h r f xs = (L, y)) := ⟨_, _, rfl⟩
  obtain ⟨M, y2, hp2⟩ : ∃ L y, Hid (followF b l h r g ys = (L, y)) := ⟨_, _, rfl⟩
  obtain ⟨a, c, rfl, hm⟩ := hv.shape
  obtain ⟨a', c', rfl, hm'⟩ := hu.shape
  have HV := hid hv; have HU := hid hu
  clear hv hu
  go_enter Try.func5, Try.ntmps5
  go_wp2_with fail
  refine (awake_any _).mono ?_
  rintro e w1 ⟨rfl, hb1⟩
  go_wp2_with fail
  refine (few_at _ xs t _ (HV.out.below (bl1 hb1)) ht).mono ?_
  rintro e w2 ⟨rfl, rfl⟩
  have P1 := hid ((Pbx.new _ b l h r w 25 rfl).next hb1)
  have B1 := hid (bl1 hb1)
  clear hb1
  cases t
  · go_wp2_with fail
    go_ret
    exact ⟨rfl, B1.out⟩
  by_cases hn : ys.length = xs.length
  case neg =>
    have hn' := int_ne_true hn
    clear hn
    go_wp2_with fail
    go_ret
    exact ⟨rfl, B1.out⟩
  have hn' := int_ne_false hn
  have HN := hid hn; clear hn
  obtain ⟨q0, q1, q2, q3, q4⟩ := P1.out
  go_wp2_with fail
  refine (follow_g _ _ _ _ _ _ xs _ (HV.out.below B1.out) _ _ hp1).mono ?_
  rintro e w2 ⟨a2, c2, rfl, v2, hb⟩
  have P2 := hid (P1.out.next hb)
  have B2 := hid (Bl.call B1.out hb)
  clear hb P1 B1 q0 q1 q2 q3 q4
  obtain ⟨q0, q1, q2, q3, q4⟩ := P2.out
  go_wp2_with fail
  refine (follow_g _ _ _ _ _ _ ys _ (HU.out.below B2.out) _ _ hp2).mono ?_
  rintro e w3 ⟨a3, c3, rfl, v3, hb⟩
  have B3 := hid (Bl.call B2.out hb)
  have v2' := hid (v2.out.below hb)
  clear hb P2 B2 q0 q1 q2 q3 q4 v2
  rcases followF_cases hp1.out with ⟨hy, _, _⟩ | ⟨rfl, rfl, hok1⟩
  · have hy' := neq0 hy
    clear hy
    go_wp2_with fail
    go_ret
    exact ⟨rfl, B3.out⟩
  rcases followF_cases hp2.out with ⟨hy, _, _⟩ | ⟨rfl, rfl, hok2⟩
  · have hy' := neq0 hy
    clear hy hok1
    go_wp2_with fail
    go_ret
    exact ⟨rfl, B3.out⟩
  obtain ⟨h1, h2, h3, h4, h5⟩ := followOk_iff.1 hok1
  obtain ⟨k1, k2, k3, k4, k5⟩ := followOk_iff.1 hok2
  have lx := hid (listOk_iff.1 h3).2
  have ly := hid (listOk_iff.1 k3).2
  have hf := lvl_iff.1 h2
  have hg := lvl_iff.1 k2
  have hbb := penOk_iff.1 h1
  have hx4 := (listOk_iff.1 h3).1.2
  have hb0 := hbb.1; have hb8 := hbb.2.1
  obtain ⟨hf1, hf2⟩ := hf
  obtain ⟨hg1, hg2⟩ := hg
  clear hok1 hok2 h1 h2 h3 h4 h5 k1 k2 k3 k4 k5 hbb hp1 hp2
  go_wp2_with fail
  refine (abs_same _ _ (by omega) (by omega)).mono ?_
  rintro e w3 ⟨rfl, rfl⟩
  obtain ⟨ab0, hab⟩ : ∃ ab : Bool, Hid (decide (f ≤ g) = ab) := ⟨_, rfl⟩
  have hab' := hab.out
  go_wp2_with fail
  clear hab'
  go_loopw [16, 17, 18] (fun s m i wr => ∃ (k : Nat) (d : Int) (ab : Bool), k ≤ xs.length ∧ i = .int .i64 k ∧ s = .int .i64 d ∧ m = .bool ab ∧ absN (f - g) ≤ d ∧ d ≤ 200000 ∧ Hid (∀ j, (h : j < xs.length) → (h' : j < ys.length) → j < k → absN (xs[j] - ys[j]) ≤ d) ∧ Hid (ab = true → f ≤ g ∧ ∀ j, (h : j < xs.length) → (h' : j < ys.length) → j < k → xs[j] ≤ ys[j]) ∧ Below w3.heap.size w3 wr) (fun _ _ i _ => xs.length - (intOf i).toNat)
  case atStart =>
    refine ⟨0, absN (f - g), ab0, by omega, rfl, rfl, rfl, by omega, by unfold absN; omega, fun j _ _ hj => by omega, fun hq => ⟨?_, fun j _ _ hj => by omega⟩, Below.refl _ _⟩
    have := hab.out; rw [hq] at this; simpa using this
  case round =>
    obtain ⟨k, d, ab, hk, rfl, rfl, rfl, hd1, hd2, HD, HA, hbw⟩ := hrel
    by_cases hlt : k < xs.length
    · have hlt' : k < ys.length := by have := HN.out; omega
      have hxb := lx.out xs[k] (List.getElem_mem _)
      have hyb := ly.out ys[k] (List.getElem_mem _)
      obtain ⟨b1, o1, e1, c1⟩ := (HV.out.below (Bl.call B3.out hbw)).cellAt hlt
      cases e1
      obtain ⟨b2, o2, rfl, c2⟩ := (HU.out.below (Bl.call B3.out hbw)).cellAt hlt'
      have HS : Hid (∀ x y : Int, xs[k] = x → ys[k] = y → ∀ j, (h : j < xs.length) → (h' : j < ys.length) → j < k + 1 → absN (xs[j] - ys[j]) ≤ max d (absN (x - y))) := by
        intro x y hx hy j h h' hj
        by_cases e : j = k
        · subst e; rw [hx, hy]; omega
        · have := HD.out j h h' (by omega); omega
      have HT : Hid (∀ x y : Int, xs[k] = x → ys[k] = y → x ≤ y → ab = true → f ≤ g ∧ ∀ j, (h : j < xs.length) → (h' : j < ys.length) → j < k + 1 → xs[j] ≤ ys[j]) := by
        intro x y hx hy hxy hq
        obtain ⟨g1, g2⟩ := HA.out hq
        refine ⟨g1, fun j h h' hj => ?_⟩
        by_cases e : j = k
        · subst e; rw [hx, hy]; exact hxy
        · exact g2 j h h' (by omega)
      have HS' := hid (HS.out _ _ rfl rfl)
      have HT' := hid (HT.out _ _ rfl rfl)
      generalize hgx : xs[k] = x at *
      generalize hgy : ys[k] = y at *
      clear hgx hgy HS HT
      obtain ⟨hxb1, hxb2⟩ := hxb
      obtain ⟨hyb1, hyb2⟩ := hyb
      have f0 : (0 : Int) ≤ (k : Int) := by omega
      have f1 : (k : Int) < ys.length := by omega
      have f2 : (k : Int) < xs.length := by omega
      have f3 : IntKind.i64.wrap (x - y) = x - y := IntWalk.i64_in _ (by omega)
      have f5 : -1000000000 ≤ x - y := by omega
      have f6 : x - y ≤ 1000000000 := by omega
      have f7 : absN (x - y) ≤ 200000 := by unfold absN; omega
      cases ab
      · go_wp2_with fail
        go_quiet ((go_at_call 30; exact Calls.quiet_of_same (abs_same _ _ f5 f6)))
        go_wp2_with fail
        go_quiet (fail)
        clear f3
        go_wp2_with fail
        go_roundw
        case rel => exact ⟨k + 1, _, false, by omega, by go_num, rfl, rfl, by omega, by omega, HS'.out, hid (fun hq => by cases hq), Bl.drewN hbw _⟩
        case measure => simp [intOf]; omega
      · by_cases hxy : x ≤ y
        · have g1 : decide (x ≤ y) = true := by simpa using hxy
          go_wp2_with fail
          go_quiet ((go_at_call 30; exact Calls.quiet_of_same (abs_same _ _ f5 f6)))
          go_wp2_with fail
          go_quiet (fail)
          clear f3
          go_wp2_with fail
          go_roundw
          case rel => exact ⟨k + 1, _, true, by omega, by go_num, rfl, rfl, by omega, by omega, HS'.out, hid (fun _ => by simpa using HT'.out hxy), Bl.drewN hbw _⟩
          case measure => simp [intOf]; omega
        · have g1 : decide (x ≤ y) = false := by simpa using hxy
          go_wp2_with fail
          go_quiet ((go_at_call 30; exact Calls.quiet_of_same (abs_same _ _ f5 f6)))
          go_wp2_with fail
          go_quiet (fail)
          clear f3
          go_wp2_with fail
          go_roundw
          case rel => exact ⟨k + 1, _, false, by omega, by go_num, rfl, rfl, by omega, by omega, HS'.out, hid (fun hq => by cases hq), Bl.drewN hbw _⟩
          case measure => simp [intOf]; omega
    · have hLl := shownL_len b f xs
      have hMl := shownL_len b g ys
      have HE : Hid (∀ i, (h : i < (shownL b f xs).length) → (h' : i < (shownL b g ys).length) → absN ((shownL b f xs)[i] - (shownL b g ys)[i]) ≤ d) :=
        shown_even hd1 HN.out.symm (fun j h h' => HD.out j h h' (by omega))
      have HM : Hid (ab = true → ∀ i, (h : i < (shownL b f xs).length) → (h' : i < (shownL b g ys).length) → (shownL b f xs)[i] ≤ (shownL b g ys)[i]) := by
        intro hq
        obtain ⟨g1, g2⟩ := HA.out hq
        exact shown_mono g1 HN.out.symm (fun j h h' => g2 j h h' (by omega))
      have HLb : Hid (∀ x ∈ shownL b f xs, -60000 ≤ x ∧ x ≤ 60000) := shown_bd hb0 (by omega) ⟨hf1, hf2⟩ lx.out
      have HMb : Hid (∀ x ∈ shownL b g ys, -60000 ≤ x ∧ x ≤ 60000) := shown_bd hb0 (by omega) ⟨hg1, hg2⟩ ly.out
      have HLl : Hid ((shownL b f xs).length = (shownL b g ys).length) := by rw [hLl, hMl]; exact HN.out.symm
      generalize shownL b f xs = A at *
      generalize shownL b g ys = C at *
      have hA4 : A.length ≤ 401 := by omega
      clear hLl hMl
      have v3' := hid (v3.out.below hbw)
      have v2 := hid (v2'.out.below hbw)
      have B4 := hid (Bl.call B3.out hbw)
      clear hbw v2' v3 B3
      go_wp2_with fail
      go_loopw [19] (fun i wq => ∃ k : Nat, k ≤ A.length ∧ i = .int .i64 k ∧ Below wr.heap.size wr wq) (fun i _ => A.length - (intOf i).toNat)
      case atStart => exact ⟨0, by omega, rfl, Below.refl _ _⟩
      case round =>
        obtain ⟨k, hk, rfl, hbw⟩ := hrel
        by_cases hlt : k < A.length
        · have hlt' : k < C.length := by have := HLl.out; omega
          have hxb := HLb.out A[k] (List.getElem_mem _)
          have hyb := HMb.out C[k] (List.getElem_mem _)
          have he := HE.out k hlt hlt'
          have HM' := hid (fun hq => HM.out hq k hlt hlt')
          obtain ⟨b1, o1, rfl, c1⟩ := (v2.out.below hbw).cellAt hlt
          obtain ⟨b2, o2, rfl, c2⟩ := (v3'.out.below hbw).cellAt hlt'
          generalize hgx : A[k] = x at *
          generalize hgy : C[k] = y at *
          clear hgx hgy
          obtain ⟨hxb1, hxb2⟩ := hxb
          obtain ⟨hyb1, hyb2⟩ := hyb
          have f0 : (0 : Int) ≤ (k : Int) := by omega
          have f1 : (k : Int) < C.length := by omega
          have f2 : (k : Int) < A.length := by omega
          have f3 : IntKind.i64.wrap (x - y) = x - y := IntWalk.i64_in _ (by omega)
          have f5 : -1000000000 ≤ x - y := by omega
          have f6 : x - y ≤ 1000000000 := by omega
          have g1 : decide (d < absN (x - y)) = false := by simp; omega
          cases ab
          · go_wp2_with fail
            go_quiet ((go_at_call 30; exact Calls.quiet_of_same (abs_same _ _ f5 f6)))
            clear f3
            go_wp2_with fail
            go_roundw
            case rel => exact ⟨k + 1, by omega, by go_num, Bl.drewN hbw _⟩
            case measure => simp [intOf]; omega
          · have g2 : decide (y < x) = false := by have := HM'.out rfl; simp; omega
            go_wp2_with fail
            go_quiet ((go_at_call 30; exact Calls.quiet_of_same (abs_same _ _ f5 f6)))
            clear f3
            go_wp2_with fail
            go_roundw
            case rel => exact ⟨k + 1, by omega, by go_num, Bl.drewN hbw _⟩
            case measure => simp [intOf]; omega
        · go_wp2_with fail
          go_ret
          exact ⟨rfl, Bl.call B4.out hbw⟩
end Go.Proofs.Ytdopgaljbpjpcaa
