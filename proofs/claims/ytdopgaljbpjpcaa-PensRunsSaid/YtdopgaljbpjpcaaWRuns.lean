/- The walk of the law PensRuns. -/
import Derived.Test.YtdopgaljbpjpcaaWUpside
import Derived.Test.YtdopgaljbpjpcaaPlainS
namespace Go.Proofs.Ytdopgaljbpjpcaa
open Go.RowKit

theorem turnsF_cases {xs L : List Int} {y : Int} (hp : turnsF xs = (L, y)) : (y ≠ 0 ∧ L = []) ∨ (y = 0 ∧ L = turnsL xs ∧ listOk xs = true) := by
  unfold turnsF at hp
  by_cases h : listE xs = 0
  · rw [if_neg (by simp [h])] at hp
    cases hp
    refine .inr ⟨rfl, rfl, ?_⟩
    unfold listE at h
    split at h
    · assumption
    · omega
  · rw [if_pos h] at hp
    cases hp
    exact .inl ⟨h, rfl⟩
theorem upTo_next {xs : List Int} {a m : Nat} (h1 : a + 1 ≤ m) : upTo xs a (m + 1 - 1 - a) = (upTo xs a (m - 1 - a) && decide (nth xs (m - 1) ≤ nth xs m)) := by
  rw [show m + 1 - 1 - a = (m - 1 - a) + 1 by omega, upTo, show a + (m - 1 - a) = m - 1 by omega, show m - 1 + 1 = m by omega]
theorem dnTo_next {xs : List Int} {a m : Nat} (h1 : a + 1 ≤ m) : dnTo xs a (m + 1 - 1 - a) = (dnTo xs a (m - 1 - a) && decide (nth xs m ≤ nth xs (m - 1))) := by
  rw [show m + 1 - 1 - a = (m - 1 - a) + 1 by omega, dnTo, show a + (m - 1 - a) = m - 1 by omega, show m - 1 + 1 = m by omega]

set_option maxRecDepth 100000 in
set_option maxHeartbeats 16000000 in
theorem walkRuns (b l h r f : Int) (v : Value) (xs : List Int) (w : World) (hv : Ints w v xs) :
    Calls Try.prog 7 #[.agg #[.int .i64 b, .int .i64 l, .int .i64 h, .int .i64 r], .int .i64 f, v] w fun e w' => e = .returned (.bool true) ∧ Below w.heap.size w w' := by
  obtain ⟨t, ht⟩ : ∃ t, Hid (decide (xs.length ≤ 500) = t) := ⟨_, rfl⟩
  obtain ⟨T, y, hT⟩ : ∃ L y, Hid (turnsF xs = (L, y)) := ⟨_, _, rfl⟩
  obtain ⟨L, y2, hF⟩ : ∃ L y, Hid (followF b l h r f xs = (L, y)) := ⟨_, _, rfl⟩
  obtain ⟨a, c, rfl, hm⟩ := hv.shape
  have HV := hid hv
  clear hv
  go_enter Try.func7, Try.ntmps7
  go_wp2_with fail
  refine (awake_any _).mono ?_
  rintro e w1 ⟨rfl, hb1⟩
  go_wp2_with fail
  refine (few_at _ xs t _ (HV.out.below (bl1 hb1)) ht).mono ?_
  rintro e w2 ⟨rfl, rfl⟩
  have P1 := hid ((Pbx.new _ b l h r w 25 rfl).next hb1)
  have B1 := hid (bl1 hb1)
  clear hb1
  cases t
  · go_wp2_with fail
    go_ret
    exact ⟨rfl, B1.out⟩
  go_wp2_with fail
  refine (turns_g _ xs _ (HV.out.below B1.out) _ _ hT).mono ?_
  rintro e w2 ⟨a2, c2, rfl, v2, hb⟩
  have P2 := hid (P1.out.next hb)
  have B2 := hid (Bl.call B1.out hb)
  clear hb P1 B1
  rcases turnsF_cases hT.out with ⟨hy, rfl⟩ | ⟨rfl, rfl, hlk⟩
  · have hy' := neq0 hy
    clear hy
    go_wp2_with fail
    go_ret
    exact ⟨rfl, B2.out⟩
  have hx1 := (listOk_iff.1 hlk).1.1
  have hx4 := (listOk_iff.1 hlk).1.2
  have HLK := hid hlk
  have hTl : (turnsL xs).length = (turnsN xs).length := by rw [turnsL_N]; simp
  have hTn : (turnsN xs).length ≤ xs.length := by unfold turnsN; exact Nat.le_trans (List.length_filter_le _ _) (by simp)
  have HTo : Hid (∀ k, (h : k < (turnsL xs).length) → (turnsL xs)[k] = ((toN xs k : Nat) : Int)) := by
    intro k h
    have h' : k < (turnsN xs).length := by omega
    simp only [turnsL_N, List.getElem_map]
    unfold toN; rw [getDN h']
  have HLast : Hid (∀ k, (turnsL xs).length ≤ k → toN xs k = xs.length - 1) := by
    intro k h
    unfold toN; rw [getDN' (by omega)]
  have HSt : Hid (∀ k, k ≤ (turnsL xs).length → (fromN xs k ≤ toN xs k ∧ toN xs k < xs.length) ∧ (UpOn xs (fromN xs k) (toN xs k) ∨ DnOn xs (fromN xs k) (toN xs k))) := by
    intro k h
    have := stretch xs (by omega) k (by omega)
    exact ⟨⟨this.1, this.2.1⟩, stretch_mono xs (by omega) k (by omega)⟩
  have HMv : Hid (∀ k, 0 < k → k < (turnsL xs).length → UpOn xs (fromN xs k) (toN xs k) → DnOn xs (fromN xs k) (toN xs k) → False) := fun k h1 h2 => stretch_moves xs k h1 (by omega)
  have HRuns : Hid (turnsL xs = [] → rightB b f (xs.headD 0) = true → 0 ≤ b → (nth xs 0 ≤ nth xs (xs.length - 1) → UpOn (shownL b f xs) 0 (xs.length - 1)) ∧ (nth xs (xs.length - 1) ≤ nth xs 0 → DnOn (shownL b f xs) 0 (xs.length - 1))) :=
    fun h1 h2 h3 => runs_shown h3 (by omega) h2 h1
  have hT5 : (turnsL xs).length ≤ 401 := by omega
  clear hTl hTn hlk hT
  generalize turnsL xs = T at *
  go_wp2_with fail
  go_loopw [10, 11] (fun fr i wr => ∃ k : Nat, k ≤ T.length + 1 ∧ i = .int .i64 k ∧ fr = .int .i64 (fromN xs k : Nat) ∧ Below w2.heap.size w2 wr) (fun _ i _ => T.length + 1 - (intOf i).toNat)
  case atStart => exact ⟨0, by omega, rfl, rfl, Below.refl _ _⟩
  case round =>
    obtain ⟨k, hk, rfl, rfl, hbw⟩ := hrel
    by_cases hlt : k ≤ T.length
    · obtain ⟨⟨s1, s2⟩, s3⟩ := HSt.out k hlt
      have HS3 := hid s3
      have HN := hid (fromN_succ xs k)
      have HM := hid (HMv.out k)
      have HL := hid (HLast.out k)
      have HT := hid (HTo.out k)
      clear s3
      generalize fromN xs k = fa at *
      generalize toN xs k = ca at *
      have g1 : decide (ca < fa) = false := by simp; omega
      have g2 : decide (xs.length ≤ ca) = false := by simp; omega
      have i1 : (k : Int) ≤ T.length := by omega
      have htail : ∀ (u2 u3 : Value), True := fun _ _ => trivial
      clear htail
      by_cases hkt : k < T.length
      · have hkt' : decide (k < T.length) = true := by simpa using hkt
        obtain ⟨b2, o2, rfl, ck⟩ := (v2.out.below hbw).cellAt hkt
        rw [HT.out hkt] at ck
        have j1 : (0 : Int) ≤ (k : Int) := by omega
        have j2 : (k : Int) < T.length := by omega
        go_wp2_with fail
        go_loopw [13, 14, 15] (fun ri fl kk wq => ∃ (m : Nat) (u d : Bool), fa + 1 ≤ m ∧ m ≤ ca + 1 ∧ kk = .int .i64 m ∧ ri = .bool u ∧ fl = .bool d ∧ Hid (upTo xs fa (m - 1 - fa) = u) ∧ Hid (dnTo xs fa (m - 1 - fa) = d) ∧ Below wr.heap.size wr wq) (fun _ _ kk _ => ca + 1 - (intOf kk).toNat)
        case atStart => exact ⟨fa + 1, true, true, by omega, by omega, by go_num, rfl, rfl, hid (by rw [show fa + 1 - 1 - fa = 0 by omega]; rfl), hid (by rw [show fa + 1 - 1 - fa = 0 by omega]; rfl), Below.refl _ _⟩
        case round =>
          obtain ⟨m, u, d, hm1, hm2, rfl, rfl, rfl, HU, HD, hbq⟩ := hrel
          by_cases hml : m ≤ ca
          · have hmx : m < xs.length := by omega
            have hmp : m - 1 < xs.length := by omega
            have HU2 : Hid (∀ x p : Int, xs[m] = x → xs[m - 1] = p → upTo xs fa (m + 1 - 1 - fa) = (u && decide (p ≤ x))) := by
              intro x p hx hp
              rw [upTo_next hm1, HU.out, nth_eq hmx, nth_eq hmp, hx, hp]
            have HD2 : Hid (∀ x p : Int, xs[m] = x → xs[m - 1] = p → dnTo xs fa (m + 1 - 1 - fa) = (d && decide (x ≤ p))) := by
              intro x p hx hp
              rw [dnTo_next hm1, HD.out, nth_eq hmx, nth_eq hmp, hx, hp]
            have HU3 := hid (HU2.out _ _ rfl rfl)
            have HD3 := hid (HD2.out _ _ rfl rfl)
            obtain ⟨b5, o5, rfl, c5⟩ := (HV.out.below (Bl.call B2.out (Bl.call hbw hbq))).cellAt hmx
            obtain ⟨b6, o6, e6, c6⟩ := (HV.out.below (Bl.call B2.out (Bl.call hbw hbq))).cellAt hmp
            cases e6
            clear HU2 HD2
            generalize xs[m] = x at *
            generalize xs[m - 1] = p at *
            have f0 : (0 : Int) ≤ (m : Int) := by omega
            have f1 : (m : Int) < xs.length := by omega
            have f2 : (0 : Int) ≤ (m : Int) - 1 := by omega
            have f3 : (m : Int) - 1 < xs.length := by omega
            have f4 : ((m : Int) - 1).toNat = m - 1 := by omega
            have f5 : IntKind.i64.wrap ((m : Int) - 1) = (m : Int) - 1 := IntWalk.i64_in _ (by omega)
            have hmi : (m : Int) ≤ ca := by omega
            obtain ⟨u', hu'⟩ : ∃ u' : Bool, decide (p ≤ x) = u' := ⟨_, rfl⟩
            obtain ⟨d', hd'⟩ : ∃ d' : Bool, decide (x ≤ p) = d' := ⟨_, rfl⟩
            rw [hu'] at HU3
            rw [hd'] at HD3
            cases u <;> cases d <;> cases u' <;> cases d'
            all_goals
              have h1 := HU3.out
              have h2 := HD3.out
              simp only [Bool.false_and, Bool.true_and] at h1 h2
              have H1 := hid h1; have H2 := hid h2
              clear h1 h2 HU3 HD3
              go_wp2_with fail
              go_quiet (fail)
              go_wp2_with fail
              go_quiet (fail)
              clear f4 f5 hu' hd'
              go_wp2_with fail
              go_roundw
              case rel => exact ⟨m + 1, _, _, by omega, by omega, by go_num, rfl, rfl, H1, H2, Bl.drewN hbq _⟩
              case measure => simp [intOf]; omega
          · have hme : m - 1 - fa = ca - fa := by omega
            have hU : u = true → UpOn xs fa ca := by
              intro e
              have := HU.out; rw [e, hme] at this
              have := (upTo_iff xs fa (ca - fa)).1 this
              rwa [show fa + (ca - fa) = ca by omega] at this
            have hD : d = true → DnOn xs fa ca := by
              intro e
              have := HD.out; rw [e, hme] at this
              have := (dnTo_iff xs fa (ca - fa)).1 this
              rwa [show fa + (ca - fa) = ca by omega] at this
            have hor : ¬ (u = false ∧ d = false) := by
              rintro ⟨e1, e2⟩
              have g1 := HU.out; have g2 := HD.out
              rw [hme] at g1 g2
              rcases HS3.out with h | h
              · have := (upTo_iff xs fa (ca - fa)).2 (by rwa [show fa + (ca - fa) = ca by omega])
                rw [g1, e1] at this; cases this
              · have := (dnTo_iff xs fa (ca - fa)).2 (by rwa [show fa + (ca - fa) = ca by omega])
                rw [g2, e2] at this; cases this
            have hand : u = true → d = true → k = 0 ∨ ¬ k < T.length := by
              intro e1 e2
              by_cases h0 : k = 0
              · exact .inl h0
              · exact .inr fun hk => HM.out (by omega) hk (hU e1) (hD e2)
            have HOR := hid hor; have HAND := hid hand
            clear hor hand hU hD hme
            have hmi : decide ((m : Int) ≤ ca) = false := by simp; omega
            have hmi' : decide (m ≤ ca) = false := by simp; omega
            obtain ⟨z, hz⟩ : ∃ z : Bool, decide (0 < k) = z := ⟨_, rfl⟩
            have hz' : decide ((0 : Int) < (k : Int)) = z := by rw [← hz]; simp
            cases u <;> cases d
            · exact absurd ⟨rfl, rfl⟩ HOR.out
            · cases z
              all_goals
                go_wp2_with fail
                clear hz hz'
                go_roundw
                case rel => exact ⟨k + 1, by omega, by go_num, by rw [HN.out], Bl.call hbw hbq⟩
                case measure => simp [intOf]; omega
            · cases z
              all_goals
                go_wp2_with fail
                clear hz hz'
                go_roundw
                case rel => exact ⟨k + 1, by omega, by go_num, by rw [HN.out], Bl.call hbw hbq⟩
                case measure => simp [intOf]; omega
            · cases z
              · go_wp2_with fail
                clear hz hz'
                go_roundw
                case rel => exact ⟨k + 1, by omega, by go_num, by rw [HN.out], Bl.call hbw hbq⟩
                case measure => simp [intOf]; omega
              · exfalso
                have := HAND.out rfl rfl
                simp at hz
                omega
      · have hkt' : decide (k < T.length) = false := by simpa using hkt
        have hce : ((xs.length : Int) - 1) = (ca : Int) := by have := HL.out (by omega); omega
        go_wp2_with fail
        clear hce
        go_loopw [13, 14, 15] (fun ri fl kk wq => ∃ (m : Nat) (u d : Bool), fa + 1 ≤ m ∧ m ≤ ca + 1 ∧ kk = .int .i64 m ∧ ri = .bool u ∧ fl = .bool d ∧ Hid (upTo xs fa (m - 1 - fa) = u) ∧ Hid (dnTo xs fa (m - 1 - fa) = d) ∧ Below wr.heap.size wr wq) (fun _ _ kk _ => ca + 1 - (intOf kk).toNat)
        case atStart => exact ⟨fa + 1, true, true, by omega, by omega, by go_num, rfl, rfl, hid (by rw [show fa + 1 - 1 - fa = 0 by omega]; rfl), hid (by rw [show fa + 1 - 1 - fa = 0 by omega]; rfl), Below.refl _ _⟩
        case round =>
          obtain ⟨m, u, d, hm1, hm2, rfl, rfl, rfl, HU, HD, hbq⟩ := hrel
          by_cases hml : m ≤ ca
          · have hmx : m < xs.length := by omega
            have hmp : m - 1 < xs.length := by omega
            have HU2 : Hid (∀ x p : Int, xs[m] = x → xs[m - 1] = p → upTo xs fa (m + 1 - 1 - fa) = (u && decide (p ≤ x))) := by
              intro x p hx hp
              rw [upTo_next hm1, HU.out, nth_eq hmx, nth_eq hmp, hx, hp]
            have HD2 : Hid (∀ x p : Int, xs[m] = x → xs[m - 1] = p → dnTo xs fa (m + 1 - 1 - fa) = (d && decide (x ≤ p))) := by
              intro x p hx hp
              rw [dnTo_next hm1, HD.out, nth_eq hmx, nth_eq hmp, hx, hp]
            have HU3 := hid (HU2.out _ _ rfl rfl)
            have HD3 := hid (HD2.out _ _ rfl rfl)
            obtain ⟨b5, o5, rfl, c5⟩ := (HV.out.below (Bl.call B2.out (Bl.call hbw hbq))).cellAt hmx
            obtain ⟨b6, o6, e6, c6⟩ := (HV.out.below (Bl.call B2.out (Bl.call hbw hbq))).cellAt hmp
            cases e6
            clear HU2 HD2
            generalize xs[m] = x at *
            generalize xs[m - 1] = p at *
            have f0 : (0 : Int) ≤ (m : Int) := by omega
            have f1 : (m : Int) < xs.length := by omega
            have f2 : (0 : Int) ≤ (m : Int) - 1 := by omega
            have f3 : (m : Int) - 1 < xs.length := by omega
            have f4 : ((m : Int) - 1).toNat = m - 1 := by omega
            have f5 : IntKind.i64.wrap ((m : Int) - 1) = (m : Int) - 1 := IntWalk.i64_in _ (by omega)
            have hmi : (m : Int) ≤ ca := by omega
            obtain ⟨u', hu'⟩ : ∃ u' : Bool, decide (p ≤ x) = u' := ⟨_, rfl⟩
            obtain ⟨d', hd'⟩ : ∃ d' : Bool, decide (x ≤ p) = d' := ⟨_, rfl⟩
            rw [hu'] at HU3
            rw [hd'] at HD3
            cases u <;> cases d <;> cases u' <;> cases d'
            all_goals
              have h1 := HU3.out
              have h2 := HD3.out
              simp only [Bool.false_and, Bool.true_and] at h1 h2
              have H1 := hid h1; have H2 := hid h2
              clear h1 h2 HU3 HD3
              go_wp2_with fail
              go_quiet (fail)
              go_wp2_with fail
              go_quiet (fail)
              clear f4 f5 hu' hd'
              go_wp2_with fail
              go_roundw
              case rel => exact ⟨m + 1, _, _, by omega, by omega, by go_num, rfl, rfl, H1, H2, Bl.drewN hbq _⟩
              case measure => simp [intOf]; omega
          · have hme : m - 1 - fa = ca - fa := by omega
            have hU : u = true → UpOn xs fa ca := by
              intro e
              have := HU.out; rw [e, hme] at this
              have := (upTo_iff xs fa (ca - fa)).1 this
              rwa [show fa + (ca - fa) = ca by omega] at this
            have hD : d = true → DnOn xs fa ca := by
              intro e
              have := HD.out; rw [e, hme] at this
              have := (dnTo_iff xs fa (ca - fa)).1 this
              rwa [show fa + (ca - fa) = ca by omega] at this
            have hor : ¬ (u = false ∧ d = false) := by
              rintro ⟨e1, e2⟩
              have g1 := HU.out; have g2 := HD.out
              rw [hme] at g1 g2
              rcases HS3.out with h | h
              · have := (upTo_iff xs fa (ca - fa)).2 (by rwa [show fa + (ca - fa) = ca by omega])
                rw [g1, e1] at this; cases this
              · have := (dnTo_iff xs fa (ca - fa)).2 (by rwa [show fa + (ca - fa) = ca by omega])
                rw [g2, e2] at this; cases this
            have hand : u = true → d = true → k = 0 ∨ ¬ k < T.length := by
              intro e1 e2
              by_cases h0 : k = 0
              · exact .inl h0
              · exact .inr fun hk => HM.out (by omega) hk (hU e1) (hD e2)
            have HOR := hid hor; have HAND := hid hand
            clear hor hand hU hD hme
            have hmi : decide ((m : Int) ≤ ca) = false := by simp; omega
            have hmi' : decide (m ≤ ca) = false := by simp; omega
            obtain ⟨z, hz⟩ : ∃ z : Bool, decide (0 < k) = z := ⟨_, rfl⟩
            have hz' : decide ((0 : Int) < (k : Int)) = z := by rw [← hz]; simp
            cases u <;> cases d
            · exact absurd ⟨rfl, rfl⟩ HOR.out
            · cases z
              all_goals
                go_wp2_with fail
                clear hz hz'
                go_roundw
                case rel => exact ⟨k + 1, by omega, by go_num, by rw [HN.out], Bl.call hbw hbq⟩
                case measure => simp [intOf]; omega
            · cases z
              all_goals
                go_wp2_with fail
                clear hz hz'
                go_roundw
                case rel => exact ⟨k + 1, by omega, by go_num, by rw [HN.out], Bl.call hbw hbq⟩
                case measure => simp [intOf]; omega
            · cases z
              · go_wp2_with fail
                clear hz hz'
                go_roundw
                case rel => exact ⟨k + 1, by omega, by go_num, by rw [HN.out], Bl.call hbw hbq⟩
                case measure => simp [intOf]; omega
              · go_wp2_with fail
                clear hz hz'
                go_roundw
                case rel => exact ⟨k + 1, by omega, by go_num, by rw [HN.out], Bl.call hbw hbq⟩
                case measure => simp [intOf]; omega
    · have P3 := hid (P2.out.next hbw)
      have B3 := hid (Bl.call B2.out hbw)
      have hkT : k = T.length + 1 := by omega
      have i1 : decide ((k : Int) ≤ T.length) = false := by simp; omega
      have i2 : decide (k ≤ T.length) = false := by simp; omega
      clear hbw P2 B2 hkT
      obtain ⟨q0, q1, q2, q3, q4⟩ := P3.out
      go_wp2_with fail
      refine (follow_g _ _ _ _ _ _ xs _ (HV.out.below B3.out) _ _ hF).mono ?_
      rintro e w4 ⟨a4, c4, rfl, v4, hb⟩
      clear q0 q1 q2 q3 q4
      have B4 := hid (Bl.call B3.out hb)
      clear hb P3 B3
      rcases followF_cases hF.out with ⟨hy, _, _⟩ | ⟨rfl, rfl, hok⟩
      · have hy' := neq0 hy
        clear hy
        go_wp2_with fail
        go_ret
        exact ⟨rfl, B4.out⟩
      by_cases hT0 : 0 < T.length
      · have k1 : decide (0 < T.length) = true := by simpa using hT0
        have k2 : decide ((0 : Int) < T.length) = true := decide_eq_true (by omega)
        clear hok
        go_wp2_with fail
        go_ret
        exact ⟨rfl, B4.out⟩
      have k1 : decide (0 < T.length) = false := by simpa using hT0
      have k2 : decide ((0 : Int) < T.length) = false := decide_eq_false (by omega)
      obtain ⟨h1, h2, h3, h4, h5⟩ := followOk_iff.1 hok
      have hTe : T = [] := List.eq_nil_of_length_eq_zero (by omega)
      have HR := hid (HRuns.out hTe h4 (penOk_iff.1 h1).1)
      have HLl := hid (shownL_len b f xs)
      clear h1 h2 h3 h4 h5 hok hTe hF HRuns
      generalize shownL b f xs = A at *
      have hA4 : A.length ≤ 401 := by have := HLl.out; omega
      go_wp2_with fail
      go_loopw [18] (fun i wq => ∃ m : Nat, 1 ≤ m ∧ m ≤ A.length ∧ i = .int .i64 m ∧ Below w4.heap.size w4 wq) (fun i _ => A.length - (intOf i).toNat)
      case atStart => exact ⟨1, by omega, by have := HLl.out; omega, rfl, Below.refl _ _⟩
      case round =>
        obtain ⟨m, hm1, hm2, rfl, hbq⟩ := hrel
        by_cases hml : m < A.length
        · have hmp : m - 1 < A.length := by omega
          have hnp : xs.length - 1 < xs.length := by omega
          obtain ⟨b1, o1, rfl, c1⟩ := (v4.out.below hbq).cellAt hml
          obtain ⟨b3, o3, e3, c3⟩ := (v4.out.below hbq).cellAt hmp
          cases e3
          obtain ⟨b5, o5, rfl, c5⟩ := (HV.out.below (Bl.call B4.out hbq)).cellAt hnp
          obtain ⟨b6, o6, e6, c6⟩ := (HV.out.below (Bl.call B4.out hbq)).cell0 hx1
          cases e6
          have HU := hid (fun hq => HR.out.1 hq (m - 1) (by omega) (by have := HLl.out; omega))
          have HD := hid (fun hq => HR.out.2 hq (m - 1) (by omega) (by have := HLl.out; omega))
          have e1 : nth A m = A[m] := nth_eq hml
          have e2 : nth A (m - 1) = A[m - 1] := nth_eq hmp
          have e4 : nth xs (xs.length - 1) = xs[xs.length - 1] := nth_eq hnp
          have e5 : nth xs 0 = xs[0] := nth_eq hx1
          have HU' : Hid (xs[0] ≤ xs[xs.length - 1] → A[m - 1] ≤ A[m]) := by
            intro hq
            have := HU.out (by rw [e4, e5]; exact hq)
            rw [show m - 1 + 1 = m by omega, e1, e2] at this
            exact this
          have HD' : Hid (xs[xs.length - 1] ≤ xs[0] → A[m] ≤ A[m - 1]) := by
            intro hq
            have := HD.out (by rw [e4, e5]; exact hq)
            rw [show m - 1 + 1 = m by omega, e1, e2] at this
            exact this
          clear HU HD e1 e2 e4 e5
          generalize A[m] = x at *
          generalize A[m - 1] = p at *
          generalize xs[xs.length - 1] = zn at *
          generalize xs[0] = z0 at *
          have f0 : (0 : Int) ≤ (m : Int) := by omega
          have f1 : (m : Int) < A.length := by omega
          have f2 : (0 : Int) ≤ (m : Int) - 1 := by omega
          have f3 : (m : Int) - 1 < A.length := by omega
          have f4 : ((m : Int) - 1).toNat = m - 1 := by omega
          have f5 : IntKind.i64.wrap ((m : Int) - 1) = (m : Int) - 1 := IntWalk.i64_in _ (by omega)
          have f6 : (0 : Int) ≤ (xs.length : Int) - 1 := by omega
          have f7 : (xs.length : Int) - 1 < xs.length := by omega
          have f8 : ((xs.length : Int) - 1).toNat = xs.length - 1 := by omega
          have f9 : IntKind.i64.wrap ((xs.length : Int) - 1) = (xs.length : Int) - 1 := IntWalk.i64_in _ (by omega)
          have f10 : (0 : Int) < xs.length := by omega
          by_cases hA : z0 ≤ zn
          · have j1 : decide (z0 ≤ zn) = true := by simpa using hA
            have j2 : decide (x < p) = false := by have := HU'.out hA; simp; omega
            by_cases hB : zn ≤ z0
            · have j3 : decide (zn ≤ z0) = true := by simpa using hB
              have j4 : decide (p < x) = false := by have := HD'.out hB; simp; omega
              clear hA hB
              go_wp2_with fail
              go_quiet (fail)
              clear f4 f5 f8 f9
              go_wp2_with fail
              go_roundw
              case rel => exact ⟨m + 1, by omega, by omega, by go_num, Bl.drewN hbq _⟩
              case measure => simp [intOf]; omega
            · have j3 : decide (zn ≤ z0) = false := by simpa using hB
              clear hA hB
              go_wp2_with fail
              go_quiet (fail)
              clear f4 f5 f8 f9
              go_wp2_with fail
              go_roundw
              case rel => exact ⟨m + 1, by omega, by omega, by go_num, Bl.drewN hbq _⟩
              case measure => simp [intOf]; omega
          · have j1 : decide (z0 ≤ zn) = false := by simpa using hA
            have j3 : decide (zn ≤ z0) = true := by simp; omega
            have j4 : decide (p < x) = false := by have := HD'.out (by omega); simp; omega
            clear hA
            go_wp2_with fail
            go_quiet (fail)
            clear f4 f5 f8 f9
            go_wp2_with fail
            go_roundw
            case rel => exact ⟨m + 1, by omega, by omega, by go_num, Bl.drewN hbq _⟩
            case measure => simp [intOf]; omega
        · go_wp2_with fail
          go_ret
          exact ⟨rfl, Bl.call B4.out hbq⟩
end Go.Proofs.Ytdopgaljbpjpcaa
