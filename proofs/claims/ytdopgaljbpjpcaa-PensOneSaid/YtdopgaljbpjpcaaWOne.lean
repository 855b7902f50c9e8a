/- The walk of the law PensOne. -/
import Derived.Test.YtdopgaljbpjpcaaKeepsH
import Derived.Test.YtdopgaljbpjpcaaPlainU
namespace Go.Proofs.Ytdopgaljbpjpcaa
open Go.RowKit
attribute [local go_sem ↓] neq59 guard59

/-- What the walk holds: the boxed pen, and lists. -/
def OneH (B : Nat) (b l h r : Int) (vx vz vl : Value) (xs zs L : List Int) (W : World) : Prop := Pbx B b l h r W ∧ Ints W vx xs ∧ Ints W vz zs ∧ Ints W vl L
theorem OneH.next {B : Nat} {b l h r : Int} {vx vz vl : Value} {xs zs L : List Int} {W W' : World} (k : OneH B b l h r vx vz vl xs zs L W) (hb : Below W.heap.size W W') : OneH B b l h r vx vz vl xs zs L W' :=
  ⟨k.1.next hb, k.2.1.below hb, k.2.2.1.below hb, k.2.2.2.below hb⟩
theorem OneH.drew {B : Nat} {b l h r : Int} {vx vz vl : Value} {xs zs L : List Int} {W : World} (k : OneH B b l h r vx vz vl xs zs L W) : OneH B b l h r vx vz vl xs zs L W.drew := k.next (Bl.drew (Below.refl _ _))
theorem sameInts_at (v u : Value) (xs ys : List Int) (t : Bool) (w : World) (hv : Ints w v xs) (hu : Ints w u ys) (ht : Hid (decide (xs = ys) = t)) :
    Calls Try.prog 27 #[v, u] w fun e w' => e = .returned (.bool t) ∧ Below w.heap.size w w' :=
  (sameInts_any v u xs ys w hv hu).mono fun e w' ⟨h1, h2⟩ => ⟨by rw [h1, ht.out], h2⟩
theorem beq_same (x : Int) : (x != x) = false := by simp
set_option maxRecDepth 100000 in
set_option maxHeartbeats 8000000 in
theorem walkOne (b l h r f : Int) (v : Value) (xs : List Int) (u : Value) (zs : List Int) (w : World) (hv : Ints w v xs) (hu : Ints w u zs) :
    Calls Try.prog 18 #[.agg #[.int .i64 b, .int .i64 l, .int .i64 h, .int .i64 r], .int .i64 f, v, u] w fun e w' => e = .returned (.bool true) ∧ Below w.heap.size w w' := by
  obtain ⟨t1, ht1⟩ : ∃ t, Hid (decide (xs.length ≤ 500) = t) := ⟨_, rfl⟩
  obtain ⟨t2, ht2⟩ : ∃ t, Hid (decide (zs.length ≤ 500) = t) := ⟨_, rfl⟩
  obtain ⟨L, y, hF⟩ : ∃ L y, Hid (followF b l h r f xs = (L, y)) := ⟨_, _, rfl⟩
  obtain ⟨z, hZ⟩ : ∃ z, Hid (keepsF b l h r (momF zs xs) = z) := ⟨_, rfl⟩
  obtain ⟨a, c, rfl, hm⟩ := hv.shape
  obtain ⟨a', c', rfl, hm'⟩ := hu.shape
  have HV := hid hv; clear hv
  have HU := hid hu; clear hu
  go_enter Try.func18, Try.ntmps18
  go_wp2_with fail
  refine (awake_any _).mono ?_
  rintro e w1 ⟨rfl, hb1⟩
  go_wp2_with fail
  refine (few_at _ xs t1 _ (HV.out.below (bl1 hb1)) ht1).mono ?_
  rintro e w2 ⟨rfl, hq⟩
  cases hq
  have P1 := hid ((Pbx.new _ b l h r w 25 rfl).next hb1)
  have B1 := hid (bl1 hb1)
  clear hb1
  cases t1
  · go_wp2_with fail
    go_ret
    exact ⟨rfl, B1.out⟩
  go_wp2_with fail
  refine (few_at _ zs t2 _ (HU.out.below B1.out) ht2).mono ?_
  rintro e w2 ⟨rfl, hq⟩
  cases hq
  cases t2
  · go_wp2_with fail
    go_ret
    exact ⟨rfl, B1.out⟩
  have hz5 : zs.length ≤ 500 := by simpa using ht2.out
  have hx5 : xs.length ≤ 500 := by simpa using ht1.out
  obtain ⟨q0, q1, q2, q3, q4⟩ := P1.out
  go_wp2_with fail
  refine (follow_g _ _ _ _ _ _ xs _ (HV.out.below B1.out) _ _ hF).mono ?_
  rintro e w3 ⟨al, cl, rfl, vl, hb⟩
  clear q0 q1 q2 q3 q4
  have B3 := hid (Bl.call B1.out hb)
  have H3 : Hid (OneH w.heap.size b l h r (.slice a xs.length c) (.slice a' zs.length c') (.slice al L.length cl) xs zs L w3) := hid ⟨P1.out.next hb, HV.out.below B3.out, HU.out.below B3.out, vl.out⟩
  clear hb P1 B1 vl
  have hmz : (momF zs xs).length ≤ 1000 := by rw [mom_len]; omega
  rcases followF_cases hF.out with ⟨hy, rfl, hk⟩ | ⟨rfl, hLe, hk⟩
  · have hy' := neq0 hy
    clear hy
    obtain ⟨⟨q0, q1, q2, q3, q4⟩, _, _, _⟩ := H3.out
    go_wp2_with fail
    go_region_held3 (fun w' => w'.cell? ⟨w.heap.size, 0, none⟩ = some (.int .i64 b) ∧ w'.cell? ⟨w.heap.size, 1, none⟩ = some (.int .i64 l) ∧ w'.cell? ⟨w.heap.size, 2, none⟩ = some (.int .i64 h) ∧ w'.cell? ⟨w.heap.size, 3, none⟩ = some (.int .i64 r)) (go_keep)
      (first
        | (go_at_call 56; refine (moments_any _ _ zs xs w3.drew H3.out.drew.2.2.1 H3.out.drew.2.1 (by omega)).mono ?_; rintro e wa ⟨am, cm, rfl, vm, hba⟩
           have HA := hid (H3.out.drew.next hba)
           have BA := hid (Bl.call (Bl.drew B3.out) hba)
           clear hba
           obtain ⟨⟨z0, z1, z2, z3, z4⟩, _, _, _⟩ := HA.out)
        | (go_at_call 53; refine (keeps_h b l h r _ (momF zs xs) _ vm.out hmz z hZ).mono ?_; rintro e wb ⟨rfl, hbb⟩
           have HB := hid (HA.out.next hbb)
           have BB := hid (Bl.call BA.out hbb)
           clear hbb
           obtain ⟨⟨y0, y1, y2, y3, y4⟩, _, _, _⟩ := HB.out)
        | fail)
    clear q0 q1 q2 q3 q4 z0 z1 z2 z3 z4 y0 y1 y2 y3 y4
    by_cases hl : zs.length = xs.length
    case neg =>
      have h1 := int_ne_true hl
      clear hl
      go_wp2_with fail
      go_ret
      exact ⟨rfl, BB.out⟩
    case pos =>
      have h1 := int_ne_false hl
      by_cases h0 : xs.length = 0
      · have h2 : ((xs.length : Int) == 0) = true := by simp only [beq_iff_eq]; omega
        clear hl h0
        go_wp2_with fail
        go_ret
        exact ⟨rfl, BB.out⟩
      · have h2 : ((xs.length : Int) == 0) = false := by simp only [beq_eq_false_iff_ne]; omega
        have hz0 : 0 < zs.length := by omega
        obtain ⟨b5, o5, e5, c5⟩ := HB.out.2.2.1.cell0 hz0
        cases e5
        have hd : zs.headD 0 = zs[0]'hz0 := by cases zs with | nil => simp at hz0 | cons x t => rfl
        have hiff := one_iff (b := b) (l := l) (h := h) (r := r) (real := xs) hl (by omega) hd
        rw [hZ.out] at hiff
        have i1 : (0 : Int) < zs.length := by omega
        generalize zs[0]'hz0 = z0 at *
        by_cases hf : z0 = f
        · subst hf
          have h3 : z ≠ 0 := by
            intro hz0
            have := (hiff.1 hz0).1
            rw [hk] at this; cases this
          have h4 := neq0 h3
          have h5 := beq_same z0
          clear hl h0 hiff h3 hd
          go_wp2_with fail
          go_ret
          exact ⟨rfl, BB.out⟩
        · have h3 : (z0 != f) = true := by simpa using hf
          clear hl h0 hiff hf hd
          go_wp2_with fail
          go_ret
          exact ⟨rfl, BB.out⟩
  · obtain ⟨⟨hxl1, hxl2⟩, hxl⟩ := listOk_iff.1 (followOk_iff.1 hk).2.2.1
    have hLl : L.length = xs.length := by rw [hLe]; exact shownL_len b f xs
    have HKL : Hid (keepsF b l h r (momF L xs) = 0) := by rw [hLe]; exact hid (one_keeps hk)
    have HST : Hid (∀ k, (h1 : 1 ≤ k) → (h2 : k < xs.length) → ∀ x1 x2 y1 y2, xs[k - 1]? = some x1 → xs[k]? = some x2 → L[k - 1]? = some y1 → L[k]? = some y2 → stepF b l h r y1 x1 x2 = ((y2, x2), 0)) := hid fun k h1 h2 x1 x2 y1 y2 e1 e2 e3 e4 => by
      obtain ⟨j, rfl⟩ : ∃ j, k = j + 1 := ⟨k - 1, by omega⟩
      have g0 := shownL_len b f xs
      have g1 : j + 1 < (shownL b f xs).length := by omega
      have g2 : j < (shownL b f xs).length := by omega
      have := one_step hk h2 g1 g2
      rw [hLe] at e3 e4
      simp only [Nat.add_sub_cancel] at e1 e3
      rw [List.getElem?_eq_getElem g2] at e3
      rw [List.getElem?_eq_getElem g1] at e4
      rw [List.getElem?_eq_getElem (show j < xs.length by omega)] at e1
      rw [List.getElem?_eq_getElem h2] at e2
      cases e1
      cases e2
      cases e3
      cases e4
      exact this
    have HIF : Hid (zs.length = xs.length → zs.headD 0 = f → (z = 0 ↔ L = zs)) := hid fun e1 e2 => by
      have := one_iff (b := b) (l := l) (h := h) (r := r) (real := xs) e1 (by omega) e2
      rw [hZ.out] at this
      rw [this, hLe]
      exact ⟨fun k => k.2, fun k => ⟨hk, k⟩⟩
    have hL0 : L[0]? = some f := by rw [hLe]; exact shown0 b f (show 0 < xs.length by omega)
    have hml : (momF L xs).length ≤ 1000 := by rw [mom_len]; omega
    have hle := int_ne_false hLl
    clear hF hLe
    obtain ⟨⟨q0, q1, q2, q3, q4⟩, _, _, _⟩ := H3.out
    obtain ⟨b5, o5, e5, c5⟩ := H3.out.2.2.2.cellQ hL0
    cases e5
    have hbl := World.block_lt_of_cell? _ _ c5
    rw [Nat.add_zero] at c5 hbl
    dsimp only at hbl
    have i1 : (0 : Int) < L.length := by omega
    have i1n : 0 < L.length := by omega
    have i2 := beq_same f
    have hL5 : L.length ≤ 500 := by omega
    have HLL := hid hLl
    clear hLl
    go_wp2_with fail
    go_region_held3 (fun w' => w'.cell? ⟨b5, o5, none⟩ = some (.int .i64 f) ∧ w'.cell? ⟨w.heap.size, 0, none⟩ = some (.int .i64 b) ∧ w'.cell? ⟨w.heap.size, 1, none⟩ = some (.int .i64 l) ∧ w'.cell? ⟨w.heap.size, 2, none⟩ = some (.int .i64 h) ∧ w'.cell? ⟨w.heap.size, 3, none⟩ = some (.int .i64 r)) (go_keep)
      (first
        | (go_at_call 56; refine (moments_any _ _ L xs w3.drew H3.out.drew.2.2.2 H3.out.drew.2.1 (by omega)).mono ?_; rintro e wa ⟨am, cm, rfl, vm, hba⟩
           have HA := hid (H3.out.drew.next hba)
           have BA := hid (Bl.call (Bl.drew B3.out) hba)
           have k1 := (hba.cell (p := ⟨b5, o5, none⟩) hbl).trans c5
           have k2 := Nat.lt_of_lt_of_le hbl hba.size
           clear hba
           obtain ⟨⟨z0, z1, z2, z3, z4⟩, _, _, _⟩ := HA.out)
        | (go_at_call 53; refine (keeps_h b l h r _ (momF L xs) _ vm.out hml 0 HKL).mono ?_; rintro e wb ⟨rfl, hbb⟩
           have HB := hid (HA.out.next hbb)
           have BB := hid (Bl.call BA.out hbb)
           have k3 := (hbb.cell (p := ⟨b5, o5, none⟩) k2).trans k1
           clear hbb
           obtain ⟨⟨y0, y1, y2, y3, y4⟩, _, _, _⟩ := HB.out)
        | fail)
    clear q0 q1 q2 q3 q4 z0 z1 z2 z3 z4 y0 y1 y2 y3 y4 k1 k2 k3 c5 hbl BA HA
    obtain ⟨b6, o6, e6, c6⟩ := HB.out.2.1.cell0 (show 0 < xs.length by omega)
    cases e6
    have hXX : xs[0]? = some (xs[0]'(by omega)) := List.getElem?_eq_getElem (by omega)
    generalize xs[0]'(by omega) = x0 at *
    have i4 : (0 : Int) < xs.length := by omega
    go_wp2_with fail
    go_loopw [14] (fun i wr => ∃ (k : Nat) (s x : Int), 1 ≤ k ∧ k ≤ xs.length ∧ i = .int .i64 k ∧ Hid (Below wb.heap.size wb wr) ∧ Hid (Rbx wb.heap.size s x wr) ∧ Hid (L[k - 1]? = some s) ∧ Hid (xs[k - 1]? = some x)) (fun i _ => xs.length - (intOf i).toNat)
    case atStart => exact ⟨1, f, x0, by omega, by omega, rfl, hid (Bl.alloc (Below.refl _ _) _), hid (Rbx.new _ f x0 wb 59 rfl), hid hL0, hid hXX⟩
    case round =>
      obtain ⟨k, s, x, hk1, hk2, rfl, HW, HG, HS, HX⟩ := hrel
      by_cases hlt : k < xs.length
      · have hll := HLL.out
        have hk3 : k < L.length := by omega
        obtain ⟨b7, o7, e7, d1⟩ := (HB.out.2.1.below HW.out).cellAt hlt
        cases e7
        obtain ⟨b8, o8, e8, d2⟩ := (HB.out.2.2.2.below HW.out).cellAt hk3
        cases e8
        have hX2 : xs[k]? = some xs[k] := List.getElem?_eq_getElem hlt
        have hL2 : L[k]? = some L[k] := List.getElem?_eq_getElem hk3
        have HSt := hid (HST.out k hk1 hlt x xs[k] s L[k] HX.out hX2 HS.out hL2)
        have HX2 := hid hX2; have HL2 := hid hL2
        clear hX2 hL2
        have hr1 := World.block_lt_of_cell? _ _ d1
        have hr2 := World.block_lt_of_cell? _ _ d2
        dsimp only at hr1 hr2
        have hx6 : b6 < wb.heap.size := by
          obtain ⟨b9, o9, e9, c9⟩ := HB.out.2.1.cellAt hlt
          cases e9
          exact World.block_lt_of_cell? _ _ c9
        have hx5' : b5 < wb.heap.size := by
          obtain ⟨b9, o9, e9, c9⟩ := HB.out.2.2.2.cellAt hk3
          cases e9
          exact World.block_lt_of_cell? _ _ c9
        generalize xs[k] = x2 at *
        generalize L[k] = s2 at *
        have HPr := hid (HB.out.1.next HW.out)
        obtain ⟨q0, q1, q2, q3, q4⟩ := HPr.out
        obtain ⟨g0, g1, g2, g3, g4⟩ := HG.out
        have hsz := HW.out.size
        have j1 : (0 : Int) ≤ (k : Int) := by omega
        have j2 : (k : Int) < xs.length := by omega
        have j3 : (k : Int) < L.length := by omega
        have n1 : ¬ w.heap.size = wr.heap.size := by omega
        have n2 : ¬ b6 = wr.heap.size := by omega
        have n3 : ¬ wb.heap.size = wr.heap.size := by omega
        clear hll
        go_wp2_with fail
        go_cut [15, 16] from 96 to 105 (fun s15 s16 wx => ∃ g : Nat, s15 = .pointer (some ⟨g, 0, none⟩) ∧ s16 = .int .i64 0 ∧ Hid (Rbx g s2 x2 wx) ∧ Hid (Rbx wb.heap.size s x wx) ∧ Hid (Below wb.heap.size wb wx) ∧ wb.heap.size < g)
        case first =>
          go_region_held3 (fun w' => (w'.cell? ⟨wb.heap.size, 0, none⟩ = some (.int .i64 s) ∧ w'.cell? ⟨wb.heap.size, 1, none⟩ = some (.int .i64 x)) ∧ w'.cell? ⟨w.heap.size, 0, none⟩ = some (.int .i64 b) ∧ w'.cell? ⟨w.heap.size, 1, none⟩ = some (.int .i64 l) ∧ w'.cell? ⟨w.heap.size, 2, none⟩ = some (.int .i64 h) ∧ w'.cell? ⟨w.heap.size, 3, none⟩ = some (.int .i64 r) ∧ w'.cell? ⟨b6, o6 + k, none⟩ = some (.int .i64 x2)) (first | (go_keep; done) | (refine ⟨⟨?_, ?_⟩, ?_, ?_, ?_, ?_, ?_⟩ <;> (refine (set2o ?_).trans ?_ <;> (first | assumption | omega | (simp; omega)))))
            (first
              | (go_at_call 46; refine (step_h b l h r s x x2 _ s2 x2 0 HSt).mono ?_; rintro e wc ⟨rfl, hbc⟩
                 have HVc := hid (Bl.call (a := wr) (by first | exact Bl.drew (Below.refl _ _) | exact Bl.alloc (Bl.drew (Below.refl _ _)) _) hbc)
                 try have HXc := hid (Rbx.next (Rbx.new wr.heap.size 0 0 wr.drew 59 rfl) hbc)
                 clear hbc
                 have HPc := hid (HPr.out.next HVc.out)
                 have HGc := hid (HG.out.next HVc.out)
                 have HWc := hid (Bl.call HW.out HVc.out)
                 obtain ⟨x0', x1', x2', x3', x4'⟩ := HPc.out
                 obtain ⟨y0', y1', _, _, y4'⟩ := HGc.out
                 try obtain ⟨z0', z1', z2', z3', z4'⟩ := HXc.out
                 have hca := (HVc.out.cell (p := ⟨b6, o6 + k, none⟩) hr1).trans d1
                 have hsc := HVc.out.size
                 have n5 : ¬ w.heap.size = wc.heap.size := by omega
                 have n6 : ¬ b6 = wc.heap.size := by omega
                 have n7 : ¬ wb.heap.size = wc.heap.size := by omega)
              | fail)
          all_goals
            go_wp2_with fail
            go_meet
            first
              | exact ⟨wc.heap.size, rfl, rfl, hid (Rbx.new _ _ _ wc 59 rfl), hid (HGc.out.alloc _), hid (Bl.alloc HWc.out _), by omega⟩
              | exact ⟨wr.heap.size, rfl, rfl, hid (Rbx.set HXc.out _ _), hid (HGc.out.set2 n3 _ _), hid (Bl.set2 HWc.out (by omega) _ _), by omega⟩
        case rest =>
          obtain ⟨g, rfl, rfl, HG2, HG3, HW2, hgg⟩ := hcut
          have d3 := (HB.out.2.1.below HW2.out).cellQ HX2.out
          have d4 := (HB.out.2.2.2.below HW2.out).cellQ HL2.out
          obtain ⟨b9, o9, e9, d5⟩ := d3
          cases e9
          obtain ⟨b10, o10, e10, d6⟩ := d4
          cases e10
          obtain ⟨f0, f1, f2, f3, f4⟩ := HG2.out
          obtain ⟨m0, m1, m2, m3, m4⟩ := HG3.out
          have p1 := beq_same s2
          have p2 := beq_same x2
          have p3 : (s2 == s2) = true := by simp
          have p4 : (x2 == x2) = true := by simp
          clear q0 q1 q2 q3 q4 g0 g1 g2 g3 g4 d1 d2 n1 n2 n3
          have n4 : ¬ wb.heap.size = g := by omega
          go_wp2_with fail
          go_big_quiet (fail)
          go_wp2_with fail
          go_roundw
          case rel => exact ⟨k + 1, s2, x2, by omega, by omega, by go_num, hid (Bl.set2 (Bl.drewN HW2.out _) (Nat.le_refl _) _ _), hid (Rbx.set HG3.out s2 x2), by rw [Nat.add_sub_cancel]; exact HL2, by rw [Nat.add_sub_cancel]; exact HX2⟩
          case measure => simp [intOf]; omega
      · have HR := hid (HB.out.next HW.out)
        have BR := hid (Bl.call BB.out HW.out)
        clear HW HG HB BB
        by_cases hl : zs.length = xs.length
        case neg =>
          have h1 := int_ne_true hl
          clear hl
          go_wp2_with fail
          go_ret
          exact ⟨rfl, BR.out⟩
        case pos =>
          have h1 := int_ne_false hl
          have hz0 : 0 < zs.length := by omega
          obtain ⟨b9, o9, e9, c9⟩ := HR.out.2.2.1.cell0 hz0
          cases e9
          have hd : zs.headD 0 = zs[0]'hz0 := by cases zs with | nil => simp at hz0 | cons x t => rfl
          have j1 : (0 : Int) < zs.length := by omega
          have HIF2 := hid (HIF.out hl)
          rw [hd] at HIF2
          generalize zs[0]'hz0 = z0 at *
          by_cases hf : z0 = f
          case neg =>
            have h3 : (z0 != f) = true := by simpa using hf
            clear hl hf hd
            go_wp2_with fail
            go_ret
            exact ⟨rfl, BR.out⟩
          case pos =>
            subst hf
            have HI3 := hid (HIF2.out rfl)
            have h5 := beq_same z0
            clear hl hd HIF HIF2
            obtain ⟨t, ht⟩ : ∃ t, Hid (decide (L = zs) = t) := ⟨_, hid rfl⟩
            have hzt : (z == 0) = t := by
              cases t
              · have h6 : ¬ L = zs := by simpa using ht.out
                have : ¬ z = 0 := fun e => h6 (HI3.out.1 e)
                simpa using this
              · have h6 : L = zs := by simpa using ht.out
                have := HI3.out.2 h6
                simpa using this
            obtain ⟨⟨q0, q1, q2, q3, q4⟩, _, _, _⟩ := HR.out
            clear HI3
            go_wp2_with fail
            go_region_held3 (fun w' => w'.cell? ⟨w.heap.size, 0, none⟩ = some (.int .i64 b) ∧ w'.cell? ⟨w.heap.size, 1, none⟩ = some (.int .i64 l) ∧ w'.cell? ⟨w.heap.size, 2, none⟩ = some (.int .i64 h) ∧ w'.cell? ⟨w.heap.size, 3, none⟩ = some (.int .i64 r)) (go_keep)
              (first
                | (go_at_call 56
                   first
                     | refine (moments_any _ _ zs xs _ KS.out.2.2.1 KS.out.2.1 (by omega)).mono ?_
                     | refine (moments_any _ _ zs xs wr.drew HR.out.drew.2.2.1 HR.out.drew.2.1 (by omega)).mono ?_
                     | fail
                   rintro e wp ⟨am2, cm2, rfl, vm2, hba⟩
                   have KP := hid (OneH.next (by first | exact KS.out | exact HR.out.drew) hba)
                   have BP := hid (Bl.call (by first | exact BS.out | exact Bl.drew BR.out) hba)
                   clear hba
                   obtain ⟨⟨z0', z1, z2, z3, z4⟩, _, _, _⟩ := KP.out)
                | (go_at_call 53
                   first
                     | refine (keeps_h b l h r _ (momF zs xs) _ vm2.out hmz z hZ).mono ?_
                     | refine (keeps_h b l h r _ (momF zs xs) _ (vm2.out.below HSb.out) hmz z hZ).mono ?_
                     | fail
                   rintro e wk ⟨rfl, hbb⟩
                   have KK := hid (OneH.next (by first | exact KP.out | exact KS.out) hbb)
                   have BK := hid (Bl.call (by first | exact BP.out | exact BS.out) hbb)
                   clear hbb
                   obtain ⟨⟨y0, y1, y2, y3, y4⟩, _, _, _⟩ := KK.out)
                | (go_at_call 27
                   first
                     | refine (sameInts_at _ _ L zs t _ KK.out.2.2.2 KK.out.2.2.1 ht).mono ?_
                     | refine (sameInts_at _ _ L zs t _ KP.out.2.2.2 KP.out.2.2.1 ht).mono ?_
                     | refine (sameInts_at _ _ L zs t wr.drew HR.out.drew.2.2.2 HR.out.drew.2.2.1 ht).mono ?_
                     | fail
                   rintro e ws ⟨rfl, hbs⟩
                   have HSb := hid hbs
                   have KS := hid (OneH.next (by first | exact KK.out | exact KP.out | exact HR.out.drew) hbs)
                   have BS := hid (Bl.call (by first | exact BK.out | exact BP.out | exact Bl.drew BR.out) hbs)
                   clear hbs
                   obtain ⟨⟨x0', x1, x2, x3, x4⟩, _, _, _⟩ := KS.out)
                | fail)
            all_goals
              cases t
              all_goals
                go_wp2_with fail
                go_ret
                first
                  | exact ⟨rfl, BS.out⟩
                  | exact ⟨rfl, BK.out⟩
end Go.Proofs.Ytdopgaljbpjpcaa
