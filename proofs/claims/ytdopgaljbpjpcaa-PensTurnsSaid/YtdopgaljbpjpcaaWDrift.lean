/- The walk of the law PensDrift. -/
import Derived.Test.YtdopgaljbpjpcaaLawTools
import Derived.Test.YtdopgaljbpjpcaaPlainR
import Derived.BigQuiet
import Derived.Deep.QuietTactic
namespace Go.Proofs.Ytdopgaljbpjpcaa
open Go.RowKit
attribute [local go_sem ↓] neq23 guard23

/-- Pairs and an error. -/
def GivesP (L : List (Int × Int)) (y : Int) (w : World) (e : Ending) (w' : World) : Prop := ∃ a c, e = .returned (.tuple #[.slice a L.length c, .int .i64 y]) ∧ Hid (Pairs w' (.slice a L.length c) L) ∧ Below w.heap.size w w'
theorem reals_g (b l h r : Int) (v : Value) (xs : List Int) (w : World) (hv : Ints w v xs) (L : List (Int × Int)) (y : Int) (hp : Hid (realsF b l h r xs = (L, y))) :
    Calls Try.prog 33 #[.agg #[.int .i64 b, .int .i64 l, .int .i64 h, .int .i64 r], v] w (GivesP L y w) :=
  (Reals_any b l h r v xs w hv).mono fun e w' h => by
    rw [hp.out] at h
    obtain ⟨v, rfl, hv, hb⟩ := h
    obtain ⟨a, c, rfl, _⟩ := hv.shape
    exact ⟨a, c, rfl, hid hv, hb⟩

set_option maxRecDepth 100000 in
set_option maxHeartbeats 4000000 in
theorem walkDrift (b l h r : Int) (v : Value) (xs : List Int) (w : World) (hv : Ints w v xs) :
    Calls Try.prog 9 #[.agg #[.int .i64 b, .int .i64 l, .int .i64 h, .int .i64 r], v] w fun e w' => e = .returned (.bool true) ∧ Below w.heap.size w w' := by
  obtain ⟨t, ht⟩ : ∃ t, Hid (decide (xs.length ≤ 500) = t) := ⟨_, rfl⟩
  obtain ⟨L, y, hp⟩ : ∃ L y, Hid (realsF b l h r xs = (L, y)) := ⟨_, _, rfl⟩
  obtain ⟨a, c, rfl, hm⟩ := hv.shape
  have HV := hid hv
  clear hv
  go_enter Try.func9, Try.ntmps9
  go_wp2_with fail
  refine (awake_any _).mono ?_
  rintro e w1 ⟨rfl, hb1⟩
  go_wp2_with fail
  refine (few_at _ xs t _ (HV.out.below (bl1 hb1)) ht).mono ?_
  rintro e w2 ⟨rfl, rfl⟩
  have P1 := hid ((Pbx.new _ b l h r w 25 rfl).next hb1)
  have B1 := hid (bl1 hb1)
  clear hb1
  cases t
  · go_wp2_with fail
    go_ret
    exact ⟨rfl, B1.out⟩
  obtain ⟨q0, q1, q2, q3, q4⟩ := P1.out
  go_wp2_with fail
  refine (reals_g _ _ _ _ _ xs _ (HV.out.below B1.out) _ _ hp).mono ?_
  rintro e w2 ⟨a2, c2, rfl, v2, hb⟩
  have P2 := hid (P1.out.next hb)
  have B2 := hid (Bl.call B1.out hb)
  clear hb P1 B1 q0 q1 q2 q3 q4
  rcases realsF_cases hp.out with ⟨hy, rfl, _⟩ | ⟨rfl, rfl, hok, hlk, hrb⟩
  · have hy' := neq0 hy
    clear hy
    go_wp2_with fail
    go_ret
    exact ⟨rfl, B2.out⟩
  have hlx := hid (listOk_iff.1 hlk).2
  have hx4 := (listOk_iff.1 hlk).1.2
  have hbb := penOk_iff.1 hok
  have hb0 := hbb.1; have hb8 := hbb.2.1
  have HL := hid (realsL_len b r xs)
  have HD := hid (fun k (hk : k < xs.length) => span_drift hrb hb0 hk)
  have HG := hid (fun k (hk : k < xs.length) => reals_at_k (b := b) (r := r) hk)
  clear hok hlk hrb hbb hp
  generalize realsL b r xs = L at *
  have hn' := int_ne_false HL.out
  have hL4 : L.length ≤ 401 := by have := HL.out; omega
  go_wp2_with fail
  go_loopw [8] (fun i wr => ∃ k : Nat, k ≤ L.length ∧ i = .int .i64 k ∧ Below w2.heap.size w2 wr) (fun i _ => L.length - (intOf i).toNat)
  case atStart => exact ⟨0, by omega, rfl, Below.refl _ _⟩
  case round =>
    obtain ⟨k, hk, rfl, hbw⟩ := hrel
    by_cases hlt : k < L.length
    · have hlt' : k < xs.length := by have := HL.out; omega
      have hxb := hlx.out xs[k] (List.getElem_mem _)
      obtain ⟨b1, o1, rfl, c1, c1'⟩ := (v2.out.below hbw).cellAt hlt
      obtain ⟨b2, o2, rfl, c2⟩ := (HV.out.below (Bl.call B2.out hbw)).cellAt hlt'
      obtain ⟨q0, _, _, _, q4⟩ := P2.out.next hbw
      have hd := HD.out k hlt'
      rw [← HG.out k hlt' hlt] at hd
      obtain ⟨d1, d2, d3, d4, d5⟩ := hd
      generalize hgl : L[k] = lh at *
      obtain ⟨lo, hi⟩ := lh
      simp only [Prod.mk.injEq] at d1 d2 d3 d4 d5 c1 c1'
      generalize hgx : xs[k] = x at *
      clear hgl hgx
      obtain ⟨hxb1, hxb2⟩ := hxb
      have f0 : (0 : Int) ≤ (k : Int) := by omega
      have f1 : (k : Int) < L.length := by omega
      have f2 : (k : Int) < xs.length := by omega
      have f3 : IntKind.i64.wrap (x - b) = x - b := IntWalk.i64_in _ (by omega)
      have f4 : IntKind.i64.wrap (x + b) = x + b := IntWalk.i64_in _ (by omega)
      have g1 : decide (hi < lo) = false := by simp; omega
      have g2 : decide (lo < x - b) = false := by simp; omega
      have g3 : decide (x + b < hi) = false := by simp; omega
      have D4 := hid d4; have D5 := hid d5
      clear d4 d5 d1 d2 d3
      by_cases hk0 : k = 0
      · have i5 : decide (0 < k) = false := by simp; omega
        have i6 : decide ((0 : Int) < (k : Int)) = false := by simp; omega
        clear hk0
        go_wp2_with fail
        go_quiet (fail)
        go_wp2_with fail
        go_quiet (fail)
        go_wp2_with fail
        go_quiet (fail)
        clear f3 f4
        go_wp2_with fail
        go_roundw
        case rel => exact ⟨k + 1, by omega, by go_num, Bl.drewN hbw _⟩
        case measure => simp [intOf]; omega
      · have hkp : k - 1 < xs.length := by omega
        obtain ⟨b3, o3, e3, c3⟩ := (HV.out.below (Bl.call B2.out hbw)).cellAt hkp
        cases e3
        generalize hgp : xs[k - 1] = xp at *
        clear hgp
        have i1 : (0 : Int) ≤ (k : Int) - 1 := by omega
        have i2 : (k : Int) - 1 < xs.length := by omega
        have i3 : ((k : Int) - 1).toNat = k - 1 := by omega
        have i4 : IntKind.i64.wrap ((k : Int) - 1) = (k : Int) - 1 := IntWalk.i64_in _ (by omega)
        have i5 : decide (0 < k) = true := by simp; omega
        have i6 : decide ((0 : Int) < (k : Int)) = true := by simp; omega
        by_cases hA : xp < x
        · have e := D4.out (by omega) hA
          obtain ⟨rfl, rfl⟩ := e
          have j1 : decide (xp < x) = true := by simpa using hA
          have j2 : decide (x < xp) = false := by simp; omega
          clear hA
          go_wp2_with fail
          go_quiet (fail)
          go_wp2_with fail
          go_quiet (fail)
          go_wp2_with fail
          go_quiet (fail)
          clear f3 f4 i3 i4
          go_wp2_with fail
          go_roundw
          case rel => exact ⟨k + 1, by omega, by go_num, Bl.drewN hbw _⟩
          case measure => simp [intOf]; omega
        · have j1 : decide (xp < x) = false := by simpa using hA
          by_cases hB : x < xp
          · have e := D5.out (by omega) hB
            obtain ⟨rfl, rfl⟩ := e
            have j2 : decide (x < xp) = true := by simpa using hB
            clear hA hB
            go_wp2_with fail
            go_quiet (fail)
            go_wp2_with fail
            go_quiet (fail)
            go_wp2_with fail
            go_quiet (fail)
            clear f3 f4 i3 i4
            go_wp2_with fail
            go_roundw
            case rel => exact ⟨k + 1, by omega, by go_num, Bl.drewN hbw _⟩
            case measure => simp [intOf]; omega
          · have j2 : decide (x < xp) = false := by simpa using hB
            clear hA hB
            go_wp2_with fail
            go_quiet (fail)
            go_wp2_with fail
            go_quiet (fail)
            go_wp2_with fail
            go_quiet (fail)
            clear f3 f4 i3 i4
            go_wp2_with fail
            go_roundw
            case rel => exact ⟨k + 1, by omega, by go_num, Bl.drewN hbw _⟩
            case measure => simp [intOf]; omega
    · go_wp2_with fail
      go_ret
      exact ⟨rfl, Bl.call B2.out hbw⟩
end Go.Proofs.Ytdopgaljbpjpcaa
