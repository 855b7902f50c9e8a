/- The walk of the law PensLattice. -/
import Derived.Test.YtdopgaljbpjpcaaLatP
import Derived.Deep.DrawnRows
namespace Go.Proofs.Ytdopgaljbpjpcaa
open Go.RowKit
attribute [local go_sem ↓] Go.wp_at_zero Go.wp_at_succ

theorem keepsF_val (b l h r : Int) (ms : List (Int × Int)) : keepsF b l h r ms = 0 ∨ keepsF b l h r ms = 1 ∨ keepsF b l h r ms = 30 ∨ keepsF b l h r ms = 31 := by
  unfold keepsF
  split
  · split
    · split <;> simp
    · simp
  · simp
theorem nth_snoc (P : List Int) (x : Int) (j : Nat) : nth (P ++ [x]) j = if j < P.length then nth P j else if j = P.length then x else 0 := by
  unfold nth
  by_cases h : j < P.length
  · rw [if_pos h]; simp [List.getD_eq_getElem?_getD, List.getElem?_append_left h]
  · rw [if_neg h]
    by_cases h2 : j = P.length
    · subst h2; simp [List.getD_eq_getElem?_getD]
    · rw [if_neg h2, List.getD_eq_getElem?_getD, List.getElem?_eq_none (by simp; omega)]; rfl
theorem nthQ {xs : List Int} {k : Nat} (h : k < xs.length) : xs[k]? = some (nth xs k) := by rw [nth_eq h]; exact List.getElem?_eq_getElem h
set_option maxRecDepth 100000 in
set_option maxHeartbeats 16000000 in
theorem walkLattice (b l h r : Int) (v : Value) (xs : List Int) (va : Value) (us : List Int) (vb : Value) (bs : List Int) (vc : Value) (cs : List Int) (w : World) (hv : Ints w v xs) (ha : Ints w va us) (hb : Ints w vb bs) (hc : Ints w vc cs) :
    Calls Try.prog 16 #[.agg #[.int .i64 b, .int .i64 l, .int .i64 h, .int .i64 r], v, va, vb, vc] w fun e w' => e = .returned (.bool true) ∧ Below w.heap.size w w' := by
  obtain ⟨t1, ht1⟩ : ∃ t, Hid (decide (xs.length ≤ 500) = t) := ⟨_, rfl⟩
  obtain ⟨P, z, hR⟩ : ∃ P z, Hid (realsF b l h r xs = (P, z)) := ⟨_, _, rfl⟩
  obtain ⟨L, y1, hL⟩ : ∃ L y, Hid (allF (fun x _ => x.1) b l h r xs = (L, y)) := ⟨_, _, rfl⟩
  obtain ⟨H, y2, hH⟩ : ∃ L y, Hid (allF (fun x _ => x.2) b l h r xs = (L, y)) := ⟨_, _, rfl⟩
  obtain ⟨N, y3, hN⟩ : ∃ L y, Hid (allF (fun x d => mid3 x.1 x.2 d) b l h r xs = (L, y)) := ⟨_, _, rfl⟩
  obtain rfl : z = y1 := (allF_cases hR.out hL.out).1.symm
  obtain rfl : z = y2 := (allF_cases hR.out hH.out).1.symm
  obtain rfl : z = y3 := (allF_cases hR.out hN.out).1.symm
  obtain ⟨z1, hz1⟩ : ∃ z, Hid (keepsF b l h r (momF xs us) = z) := ⟨_, rfl⟩
  obtain ⟨z2, hz2⟩ : ∃ z, Hid (keepsF b l h r (momF xs bs) = z) := ⟨_, rfl⟩
  obtain ⟨z3, hz3⟩ : ∃ z, Hid (keepsF b l h r (momF xs cs) = z) := ⟨_, rfl⟩
  obtain ⟨a0, c0, rfl, hm0⟩ := hv.shape
  obtain ⟨a1, c1, rfl, hm1⟩ := ha.shape
  obtain ⟨a2, c2, rfl, hm2⟩ := hb.shape
  obtain ⟨a3, c3, rfl, hm3⟩ := hc.shape
  have HV := hid hv; clear hv
  have HA := hid ha; clear ha
  have HB := hid hb; clear hb
  have HC := hid hc; clear hc
  go_enter Try.func16, Try.ntmps16
  go_wp2_with fail
  refine (awake_any _).mono ?_
  rintro e w1 ⟨rfl, hb1⟩
  go_wp2_with fail
  refine (few_at _ xs t1 _ (HV.out.below (bl1 hb1)) ht1).mono ?_
  rintro e w2 ⟨rfl, hq⟩
  cases hq
  have P1 := hid ((Pbx.new _ b l h r w 25 rfl).next hb1)
  have B1 := hid (bl1 hb1)
  clear hb1
  cases t1
  · go_wp2_with fail
    go_ret
    exact ⟨rfl, B1.out⟩
  have hx5 : xs.length ≤ 500 := by simpa using ht1.out
  by_cases la : us.length = xs.length
  case neg =>
    have g1 := int_ne_true la
    clear la
    go_wp2_with fail
    go_ret
    exact ⟨rfl, B1.out⟩
  by_cases lb : bs.length = xs.length
  case neg =>
    have g1 := int_ne_false la
    have g2 := int_ne_true lb
    clear la lb
    go_wp2_with fail
    go_ret
    exact ⟨rfl, B1.out⟩
  by_cases lc : cs.length = xs.length
  case neg =>
    have g1 := int_ne_false la
    have g2 := int_ne_false lb
    have g3 := int_ne_true lc
    clear la lb lc
    go_wp2_with fail
    go_ret
    exact ⟨rfl, B1.out⟩
  have g1 := int_ne_false la
  have g2 := int_ne_false lb
  have g3 := int_ne_false lc
  have LA := hid la; have LB := hid lb; have LC := hid lc
  clear la lb lc
  obtain ⟨q0, q1, q2, q3, q4⟩ := P1.out
  go_wp2_with fail
  refine (low_h _ _ _ _ _ xs _ (HV.out.below B1.out) _ _ hL).mono ?_
  rintro e w2 ⟨al, cl, rfl, vl, hb⟩
  clear q0 q1 q2 q3 q4 g1 g2 g3
  have P2 := hid (P1.out.next hb)
  have B2 := hid (Bl.call B1.out hb)
  clear hb P1 B1
  obtain ⟨q0, q1, q2, q3, q4⟩ := P2.out
  go_wp2_with fail
  refine (high_h _ _ _ _ _ xs _ (HV.out.below B2.out) _ _ hH).mono ?_
  rintro e w3 ⟨ah, ch, rfl, vh, hb⟩
  clear q0 q1 q2 q3 q4
  have P3 := hid (P2.out.next hb)
  have B3 := hid (Bl.call B2.out hb)
  have vl3 := hid (vl.out.below hb)
  clear hb P2 B2 vl
  obtain ⟨q0, q1, q2, q3, q4⟩ := P3.out
  go_wp2_with fail
  refine (real_h _ _ _ _ _ xs _ (HV.out.below B3.out) _ _ hN).mono ?_
  rintro e w4 ⟨an, cn, rfl, vn, hb⟩
  clear q0 q1 q2 q3 q4
  have B4 := hid (Bl.call B3.out hb)
  have K4 : Hid (LatH w.heap.size b l h r (.slice a0 xs.length c0) (.slice a1 us.length c1) (.slice a2 bs.length c2) (.slice a3 cs.length c3) (.slice al L.length cl) (.slice ah H.length ch) (.slice an N.length cn) xs us bs cs L H N w4) :=
    hid ⟨P3.out.next hb, HV.out.below B4.out, HA.out.below B4.out, HB.out.below B4.out, HC.out.below B4.out, vl3.out.below hb, vh.out.below hb, vn.out⟩
  clear hb P3 B3 vl3 vh vn
  have hml : ∀ ys : List Int, (momF xs ys).length ≤ 1000 := fun ys => by rw [mom_len]; omega
  have HML := hid hml
  clear hml
  obtain ⟨q0, q1, q2, q3, q4⟩ := K4.out.p
  go_wp2_with fail
  go_region_held3 (fun w' => w'.cell? ⟨w.heap.size, 0, none⟩ = some (.int .i64 b) ∧ w'.cell? ⟨w.heap.size, 1, none⟩ = some (.int .i64 l) ∧ w'.cell? ⟨w.heap.size, 2, none⟩ = some (.int .i64 h) ∧ w'.cell? ⟨w.heap.size, 3, none⟩ = some (.int .i64 r)) (go_keep)
    (first
      | (go_at_call 56; refine (moments_any _ _ xs us w4.drew K4.out.drew.x K4.out.drew.ia (by omega)).mono ?_; rintro e wa ⟨am, cm, rfl, vm, hba⟩
         have KA := hid (K4.out.drew.next hba)
         have BA := hid (Bl.call (Bl.drew B4.out) hba)
         clear hba
         obtain ⟨z0, z1', z2', z3', z4⟩ := KA.out.p)
      | (go_at_call 53; refine (keeps_h b l h r _ (momF xs us) _ vm.out (HML.out us) z1 hz1).mono ?_; rintro e wb ⟨rfl, hbb⟩
         have K5 := hid (KA.out.next hbb)
         have B5 := hid (Bl.call BA.out hbb)
         clear hbb
         obtain ⟨y0', y1', y2', y3', y4'⟩ := K5.out.p)
      | fail)
  clear q0 q1 q2 q3 q4 z0 z1' z2' z3' z4 y0' y1' y2' y3' y4' KA BA K4 B4 vm
  by_cases hz : z = 0
  case neg =>
    have h1 := lat_none hR.out hz LA.out
    rw [hz1.out] at h1
    have h2 : (z1 == 0) = false := by simpa using h1
    have h3 := neq0 hz
    have h4 : (z == z) = true := by simp
    clear h1 hz
    go_wp2_with fail
    go_ret
    exact ⟨rfl, B5.out⟩
  case pos =>
    subst hz
    have HLAW := hid (lat_law hR.out hL.out hH.out hN.out LA.out LB.out LC.out)
    rw [hz1.out, hz2.out, hz3.out] at HLAW
    have hlL := HLAW.out.lens.1; have hlH := HLAW.out.lens.2.1; have hlN := HLAW.out.lens.2.2
    have g1 := int_ne_false hlL
    have g2 := int_ne_false hlH
    have g3 := int_ne_false hlN
    have HLL := hid hlL; have HLH := hid hlH; have HLN := hid hlN
    clear hlL hlH hlN hR hL hH hN
    go_wp2_with fail
    go_loopw [19, 20] (fun ins i wr => ∃ (k : Nat) (t : Bool), k ≤ xs.length ∧ i = .int .i64 k ∧ ins = .bool t ∧ wr = wb ∧ Hid (t = true → ∀ j, j < k → absN (nth xs j) ≤ 49000)) (fun _ i _ => xs.length - (intOf i).toNat)
    case atStart => exact ⟨0, true, by omega, rfl, rfl, rfl, hid fun _ j hj => by omega⟩
    case round =>
      obtain ⟨k, t, hk, rfl, rfl, hwr, HT⟩ := hrel
      subst hwr
      by_cases hlt : k < xs.length
      · obtain ⟨bx, ox, ex, d1⟩ := K5.out.x.cellAt hlt
        cases ex
        have e1 := nth_eq hlt
        have hbd := (HLAW.out.bd k hlt).1
        rw [e1] at hbd
        have HT2 : Hid (t = true → absN xs[k] ≤ 49000 → ∀ j, j < k + 1 → absN (nth xs j) ≤ 49000) := hid fun h1 h2 j hj => by
          by_cases e : j = k
          · subst e; rw [e1]; exact h2
          · exact HT.out h1 j (by omega)
        clear e1
        have i1 : (0 : Int) ≤ (k : Int) := by omega
        have i2 : (k : Int) < xs.length := by omega
        generalize xs[k] = x at *
        obtain ⟨x1, x2⟩ := hbd
        cases t
        · go_wp2_with (go_at_call 30; refine (abs_same _ _ (by omega) (by omega)).mono ?_; rintro e wq ⟨rfl, hq⟩; cases hq)
          go_roundw
          case rel => exact ⟨k + 1, false, by omega, by go_num, rfl, trivial, hid fun h => by cases h⟩
          case measure => simp [intOf]; omega
        · by_cases hx : absN x ≤ 49000
          · have e1 : decide (absN x ≤ 49000) = true := by simpa using hx
            have HT3 := hid (fun h => HT2.out h hx)
            clear hx
            go_wp2_with (go_at_call 30; refine (abs_same _ _ (by omega) (by omega)).mono ?_; rintro e wq ⟨rfl, hq⟩; cases hq)
            go_roundw
            case rel => exact ⟨k + 1, true, by omega, by go_num, rfl, trivial, hid fun _ => HT3.out trivial⟩
            case measure => simp [intOf]; omega
          · have e1 : decide (absN x ≤ 49000) = false := by simpa using hx
            clear hx
            go_wp2_with (go_at_call 30; refine (abs_same _ _ (by omega) (by omega)).mono ?_; rintro e wq ⟨rfl, hq⟩; cases hq)
            go_roundw
            case rel => exact ⟨k + 1, false, by omega, by go_num, rfl, trivial, hid fun h => by cases h⟩
            case measure => simp [intOf]; omega
      · have HIN : Hid (t = true → keepsF b l h r (momF xs L) = 0 ∧ keepsF b l h r (momF xs H) = 0 ∧ keepsF b l h r (momF xs N) = 0) := hid fun ht => HLAW.out.inside fun j hj => HT.out ht j (by omega)
        clear HT
        go_wp2_with fail
        go_cut [159] from 135 to 159 (fun s159 wx => s159 = .bool false ∧ Hid (LatH w.heap.size b l h r (.slice a0 xs.length c0) (.slice a1 us.length c1) (.slice a2 bs.length c2) (.slice a3 cs.length c3) (.slice al L.length cl) (.slice ah H.length ch) (.slice an N.length cn) xs us bs cs L H N wx) ∧ Hid (Below w.heap.size w wx))
        case first =>
          cases t
          · go_big_quiet (fail)
            go_wp2_with fail
            go_meet
            exact ⟨rfl, hid (K5.out.next (Bl.drewN (Below.refl _ _) _)), hid (Bl.drewN B5.out _)⟩
          · obtain ⟨h1, h2, h3⟩ := HIN.out rfl
            have HK1 := hid h1; have HK2 := hid h2; have HK3 := hid h3
            clear h1 h2 h3
            obtain ⟨q0, q1, q2, q3, q4⟩ := K5.out.p
            go_region_held3 (fun w' => w'.cell? ⟨w.heap.size, 0, none⟩ = some (.int .i64 b) ∧ w'.cell? ⟨w.heap.size, 1, none⟩ = some (.int .i64 l) ∧ w'.cell? ⟨w.heap.size, 2, none⟩ = some (.int .i64 h) ∧ w'.cell? ⟨w.heap.size, 3, none⟩ = some (.int .i64 r)) (go_keep)
              (first
                | (go_at_call 56
                   first
                     | with_reducible refine (moments_any _ _ xs L _ KB.out.x KB.out.lo (by omega)).mono ?_
                     | with_reducible refine (moments_any _ _ xs H _ KB.out.x KB.out.hi (by omega)).mono ?_
                     | with_reducible refine (moments_any _ _ xs N _ KB.out.x KB.out.ne (by omega)).mono ?_
                     | with_reducible refine (moments_any _ _ xs L wr.drew K5.out.drew.x K5.out.drew.lo (by omega)).mono ?_
                     | fail
                   rintro e wa ⟨am, cm, rfl, vm, hba⟩
                   have KA := hid (LatH.next (by first | exact KB.out | exact K5.out.drew) hba)
                   have BA := hid (Bl.call (by first | exact BB.out | exact Bl.drew B5.out) hba)
                   clear hba
                   obtain ⟨z0, z1', z2', z3', z4⟩ := KA.out.p)
                | (go_at_call 53
                   first
                     | with_reducible refine (keeps_h b l h r _ (momF xs L) _ vm.out (HML.out L) 0 HK1).mono ?_
                     | with_reducible refine (keeps_h b l h r _ (momF xs H) _ vm.out (HML.out H) 0 HK2).mono ?_
                     | with_reducible refine (keeps_h b l h r _ (momF xs N) _ vm.out (HML.out N) 0 HK3).mono ?_
                     | fail
                   rintro e wb ⟨rfl, hbb⟩
                   have KB := hid (KA.out.next hbb)
                   have BB := hid (Bl.call BA.out hbb)
                   clear hbb
                   obtain ⟨y0', y1', y2', y3', y4'⟩ := KB.out.p)
                | fail)
            go_wp2_with fail
            go_meet
            exact ⟨rfl, KB, BB⟩
        case rest =>
          obtain ⟨rfl, K6, B6⟩ := hcut
          by_cases hz1z : z1 = 0
          case neg =>
            have e1 : (z1 == 0) = false := by simpa using hz1z
            clear hz1z
            go_wp2_with fail
            go_ret
            exact ⟨rfl, B6.out⟩
          subst hz1z
          go_wp2_with fail
          go_loopw [21] (fun i wr => ∃ k : Nat, k ≤ us.length ∧ i = .int .i64 k ∧ Hid (Below wc.heap.size wc wr)) (fun i _ => us.length - (intOf i).toNat)
          case atStart => exact ⟨0, by omega, rfl, hid (Below.refl _ _)⟩
          case round =>
            obtain ⟨k, hk, rfl, HW⟩ := hrel
            by_cases hlt : k < us.length
            · have hlx : k < xs.length := by have := LA.out; omega
              have hkL : k < L.length := by have := HLL.out; omega
              have hkH : k < H.length := by have := HLH.out; omega
              have hkN : k < N.length := by have := HLN.out; omega
              obtain ⟨w1', w2', w3'⟩ := HLAW.out.within rfl k hlx
              obtain ⟨⟨x1, x2⟩, n1, n2⟩ := HLAW.out.bd k hlx
              obtain ⟨u1, u2⟩ := HLAW.out.abd rfl k hlx
              have KW := hid (K6.out.next HW.out)
              obtain ⟨b1, o1, e1, d1⟩ := KW.out.x.cellQ (nthQ hlx)
              cases e1
              obtain ⟨b2, o2, e2, d2⟩ := KW.out.ia.cellQ (nthQ hlt)
              cases e2
              obtain ⟨b3, o3, e3, d3⟩ := KW.out.lo.cellQ (nthQ hkL)
              cases e3
              obtain ⟨b4, o4, e4, d4⟩ := KW.out.hi.cellQ (nthQ hkH)
              cases e4
              obtain ⟨b5, o5, e5, d5⟩ := KW.out.ne.cellQ (nthQ hkN)
              cases e5
              generalize nth xs k = x at *
              generalize nth us k = A at *
              generalize nth L k = lo at *
              generalize nth H k = hi at *
              generalize nth N k = ne at *
              have i1 : (0 : Int) ≤ (k : Int) := by omega
              have i2 : (k : Int) < xs.length := by omega
              have i3 : (k : Int) < us.length := by omega
              have i4 : (k : Int) < L.length := by omega
              have i5 : (k : Int) < H.length := by omega
              have i6 : (k : Int) < N.length := by omega
              have f1 : decide (A < lo) = false := by simp; omega
              have f2 : decide (hi < A) = false := by simp; omega
              have f3 : decide (absN (A - x) < absN (ne - x)) = false := by simp; omega
              have f4 : IntKind.i64.wrap (ne - x) = ne - x := IntWalk.i64_in _ (by omega)
              have f5 : IntKind.i64.wrap (A - x) = A - x := IntWalk.i64_in _ (by omega)
              clear w1' w2' w3'
              go_wp2_with fail
              go_big_quiet ((go_at_call 30; exact (abs_same _ _ (by omega) (by omega)).mono fun _ _ ⟨h1, h2⟩ => ⟨h1, _, h2⟩))
              clear f1 f2 f3 f4 f5
              go_wp2_with fail
              go_roundw
              case rel => exact ⟨k + 1, by omega, by go_num, hid (Bl.drewN HW.out _)⟩
              case measure => simp [intOf]; omega
            · have K7 := hid (K6.out.next HW.out)
              have B7 := hid (Bl.call B6.out HW.out)
              clear K6 B6 HW
              go_wp2_with fail
              go_cut [225] from 212 to 225 (fun s225 wy => s225 = .bool (z2 != 0 || z3 != 0) ∧ Hid (LatH w.heap.size b l h r (.slice a0 xs.length c0) (.slice a1 us.length c1) (.slice a2 bs.length c2) (.slice a3 cs.length c3) (.slice al L.length cl) (.slice ah H.length ch) (.slice an N.length cn) xs us bs cs L H N wy) ∧ Hid (Below w.heap.size w wy))
              case first =>
                by_cases h2 : z2 = 0
                · subst h2
                  by_cases h3 : z3 = 0
                  · subst h3
                    obtain ⟨q0, q1, q2, q3, q4⟩ := K7.out.p
                    go_region_held3 (fun w' => w'.cell? ⟨w.heap.size, 0, none⟩ = some (.int .i64 b) ∧ w'.cell? ⟨w.heap.size, 1, none⟩ = some (.int .i64 l) ∧ w'.cell? ⟨w.heap.size, 2, none⟩ = some (.int .i64 h) ∧ w'.cell? ⟨w.heap.size, 3, none⟩ = some (.int .i64 r)) (go_keep)
                      (first
                        | (go_at_call 56
                           first
                             | with_reducible refine (moments_any _ _ xs bs _ KB.out.x KB.out.ib (by omega)).mono ?_
                             | with_reducible refine (moments_any _ _ xs cs _ KB.out.x KB.out.ic (by omega)).mono ?_
                             | with_reducible refine (moments_any _ _ xs bs wr.drew K7.out.drew.x K7.out.drew.ib (by omega)).mono ?_
                             | fail
                           rintro e wa ⟨am, cm, rfl, vm, hba⟩
                           have KA := hid (LatH.next (by first | exact KB.out | exact K7.out.drew) hba)
                           have BA := hid (Bl.call (by first | exact BB.out | exact Bl.drew B7.out) hba)
                           clear hba
                           obtain ⟨z0, z1', z2', z3', z4⟩ := KA.out.p)
                        | (go_at_call 53
                           first
                             | with_reducible refine (keeps_h b l h r _ (momF xs bs) _ vm.out (HML.out bs) 0 hz2).mono ?_
                             | with_reducible refine (keeps_h b l h r _ (momF xs cs) _ vm.out (HML.out cs) 0 hz3).mono ?_
                             | fail
                           rintro e wk ⟨rfl, hbb⟩
                           have KB := hid (KA.out.next hbb)
                           have BB := hid (Bl.call BA.out hbb)
                           clear hbb
                           obtain ⟨y0', y1', y2', y3', y4'⟩ := KB.out.p)
                        | fail)
                    go_wp2_with fail
                    go_meet
                    exact ⟨rfl, KB, BB⟩
                  · have h3' := neq0 h3
                    have h3n := hid h3
                    clear h3
                    obtain ⟨q0, q1, q2, q3, q4⟩ := K7.out.p
                    go_region_held3 (fun w' => w'.cell? ⟨w.heap.size, 0, none⟩ = some (.int .i64 b) ∧ w'.cell? ⟨w.heap.size, 1, none⟩ = some (.int .i64 l) ∧ w'.cell? ⟨w.heap.size, 2, none⟩ = some (.int .i64 h) ∧ w'.cell? ⟨w.heap.size, 3, none⟩ = some (.int .i64 r)) (go_keep)
                      (first
                        | (go_at_call 56
                           first
                             | with_reducible refine (moments_any _ _ xs bs _ KB.out.x KB.out.ib (by omega)).mono ?_
                             | with_reducible refine (moments_any _ _ xs cs _ KB.out.x KB.out.ic (by omega)).mono ?_
                             | with_reducible refine (moments_any _ _ xs bs wr.drew K7.out.drew.x K7.out.drew.ib (by omega)).mono ?_
                             | fail
                           rintro e wa ⟨am, cm, rfl, vm, hba⟩
                           have KA := hid (LatH.next (by first | exact KB.out | exact K7.out.drew) hba)
                           have BA := hid (Bl.call (by first | exact BB.out | exact Bl.drew B7.out) hba)
                           clear hba
                           obtain ⟨z0, z1', z2', z3', z4⟩ := KA.out.p)
                        | (go_at_call 53
                           first
                             | with_reducible refine (keeps_h b l h r _ (momF xs bs) _ vm.out (HML.out bs) 0 hz2).mono ?_
                             | with_reducible refine (keeps_h b l h r _ (momF xs cs) _ vm.out (HML.out cs) z3 hz3).mono ?_
                             | fail
                           rintro e wk ⟨rfl, hbb⟩
                           have KB := hid (KA.out.next hbb)
                           have BB := hid (Bl.call BA.out hbb)
                           clear hbb
                           obtain ⟨y0', y1', y2', y3', y4'⟩ := KB.out.p)
                        | fail)
                    go_wp2_with fail
                    go_meet
                    exact ⟨by rw [h3']; rfl, KB, BB⟩
                · have h2' := neq0 h2
                  have h2n := hid h2
                  clear h2 HLAW hz1 hz3 LA LB LC HLL HLH HLN g1 g2 g3
                  obtain ⟨q0, q1, q2, q3, q4⟩ := K7.out.p
                  refine wp_region_held_drew (S := (fun w' => w'.cell? ⟨w.heap.size, 0, none⟩ = some (.int .i64 b) ∧ w'.cell? ⟨w.heap.size, 1, none⟩ = some (.int .i64 l) ∧ w'.cell? ⟨w.heap.size, 2, none⟩ = some (.int .i64 h) ∧ w'.cell? ⟨w.heap.size, 3, none⟩ = some (.int .i64 r))) (by kernel_rfl) ?_ (fun hS0 => ?_)
                  · exact ⟨q0, q1, q2, q3⟩
                  refine wpAnyH_take (i := 0) (oi := { dst := some 212, op := Op.load 25 (Operand.tmp 5), type := 25, pos := "theorems.go:129", after := #[], guard := none }) (v := .agg #[.int .i64 b, .int .i64 l, .int .i64 h, .int .i64 r]) rfl (by kernel_rfl) (by kernel_rfl) (by kernel_rfl) (fun _ _ _ h => h) (Or.inl ⟨by rfl, ?_⟩) (by assumption) ?_
                  · intro w' hSw; (try dsimp only at hSw); go_simp
                  simp only [Act.put, List.setIfInBounds_toArray, List.set_cons_zero, List.set_cons_succ]
                  refine wpAnyH_take (i := 1) (oi := { dst := some 213, op := Op.move (Operand.tmp 1), type := 26, pos := "theorems.go:129", after := #[], guard := none }) (v := .slice a0 xs.length c0) rfl (by kernel_rfl) (by kernel_rfl) (by kernel_rfl) (fun _ _ _ h => h) (Or.inl ⟨by rfl, ?_⟩) (by assumption) ?_
                  · intro w' hSw; (try dsimp only at hSw); go_simp
                  simp only [Act.put, List.setIfInBounds_toArray, List.set_cons_zero, List.set_cons_succ]
                  refine wpAnyH_take (i := 2) (oi := { dst := some 214, op := Op.move (Operand.tmp 3), type := 26, pos := "theorems.go:129", after := #[], guard := none }) (v := .slice a2 bs.length c2) rfl (by kernel_rfl) (by kernel_rfl) (by kernel_rfl) (fun _ _ _ h => h) (Or.inl ⟨by rfl, ?_⟩) (by assumption) ?_
                  · intro w' hSw; (try dsimp only at hSw); go_simp
                  simp only [Act.put, List.setIfInBounds_toArray, List.set_cons_zero, List.set_cons_succ]
                  refine wpAnyH_ready (rs := [3]) (by kernel_rfl) (by simp) (AllReadyH.cons (o := { dst := some 215, op := Op.call { callee := Callee.value (Operand.func 56), args := #[Operand.tmp 213, Operand.tmp 214], argTypes := #[26, 26] }, type := 64, pos := "theorems.go:129", after := #[{ on := 1, ground := Ground.data }, { on := 2, ground := Ground.data }], guard := none }) rfl (fun K hK => ?_) AllReadyH.nil)
                  go_simp
                  go_at_call 56
                  refine (moments_any _ _ xs bs wr.drew K7.out.drew.x K7.out.drew.ib (by omega)).mono ?_
                  rintro e wa ⟨am, cm, rfl, vm, hba⟩
                  have KA := hid (LatH.next K7.out.drew hba)
                  have BA := hid (Bl.call (Bl.drew B7.out) hba)
                  clear hba
                  obtain ⟨z0, z1', z2', z3', z4⟩ := KA.out.p
                  go_wp2_with fail
                  refine hK.out _ _ ?_ (fun hHeld => ?_)
                  · exact ⟨z0, z1', z2', z3'⟩
                  clear hK K
                  try simp only [Act.put, List.setIfInBounds_toArray, List.set_cons_zero, List.set_cons_succ]
                  refine wpAnyH_ready (rs := [4]) (by kernel_rfl) (by simp) (AllReadyH.cons (o := { dst := some 216, op := Op.call { callee := Callee.value (Operand.func 53), args := #[Operand.tmp 212, Operand.tmp 215], argTypes := #[25, 64] }, type := 29, pos := "theorems.go:129", after := #[{ on := 0, ground := Ground.data }, { on := 3, ground := Ground.data }, { on := 3, ground := Ground.chain }], guard := none }) rfl (fun K hK => ?_) AllReadyH.nil)
                  go_simp
                  go_at_call 53
                  refine (keeps_h b l h r _ (momF xs bs) _ vm.out (HML.out bs) z2 hz2).mono ?_
                  rintro e wk ⟨rfl, hbb⟩
                  have KB := hid (KA.out.next hbb)
                  have BB := hid (Bl.call BA.out hbb)
                  clear hbb
                  obtain ⟨y0', y1', y2', y3', y4'⟩ := KB.out.p
                  go_wp2_with fail
                  refine hK.out _ _ ?_ (fun hHeld => ?_)
                  · exact ⟨y0', y1', y2', y3'⟩
                  clear hK K
                  try simp only [Act.put, List.setIfInBounds_toArray, List.set_cons_zero, List.set_cons_succ]
                  refine wpAnyH_take (i := 5) (oi := { dst := some 217, op := Op.binOp BinOp.neq 29 (Operand.tmp 216) (Operand.const (Value.int IntKind.i64 0)) 29, type := 4, pos := "theorems.go:129", after := #[{ on := 4, ground := Ground.data }], guard := none }) (v := .bool true) rfl (by kernel_rfl) (by kernel_rfl) (by kernel_rfl) (fun _ _ _ h => h) (Or.inl ⟨by rfl, ?_⟩) (by assumption) ?_
                  · intro w' hSw; (try dsimp only at hSw); go_simp
                  simp only [Act.put, List.setIfInBounds_toArray, List.set_cons_zero, List.set_cons_succ]
                  refine wpAnyH_take (i := 6) (oi := { dst := some 218, op := Op.move (Operand.tmp 217), type := 4, pos := "theorems.go:129", after := #[{ on := 5, ground := Ground.data }, { on := 4, ground := Ground.chain }], guard := none }) (v := .bool true) rfl (by kernel_rfl) (by kernel_rfl) (by kernel_rfl) (fun _ _ _ h => h) (Or.inl ⟨by rfl, ?_⟩) (by assumption) ?_
                  · intro w' hSw; (try dsimp only at hSw); go_simp
                  simp only [Act.put, List.setIfInBounds_toArray, List.set_cons_zero, List.set_cons_succ]
                  refine wpAnyH_take (i := 7) (oi := { dst := some 219, op := Op.load 25 (Operand.tmp 5), type := 25, pos := "theorems.go:129", after := #[{ on := 6, ground := Ground.guard }], guard := some (6, false) }) (v := undef) rfl (by kernel_rfl) (by kernel_rfl) (by kernel_rfl) (fun _ _ _ h => h) (Or.inr ⟨by simp [go_sem], rfl⟩) (by assumption) ?_
                  simp only [Act.put, List.setIfInBounds_toArray, List.set_cons_zero, List.set_cons_succ]
                  refine wpAnyH_take (i := 8) (oi := { dst := some 220, op := Op.move (Operand.tmp 1), type := 26, pos := "theorems.go:129", after := #[{ on := 6, ground := Ground.guard }], guard := some (6, false) }) (v := undef) rfl (by kernel_rfl) (by kernel_rfl) (by kernel_rfl) (fun _ _ _ h => h) (Or.inr ⟨by simp [go_sem], rfl⟩) (by assumption) ?_
                  simp only [Act.put, List.setIfInBounds_toArray, List.set_cons_zero, List.set_cons_succ]
                  refine wpAnyH_take (i := 9) (oi := { dst := some 221, op := Op.move (Operand.tmp 4), type := 26, pos := "theorems.go:129", after := #[{ on := 6, ground := Ground.guard }], guard := some (6, false) }) (v := undef) rfl (by kernel_rfl) (by kernel_rfl) (by kernel_rfl) (fun _ _ _ h => h) (Or.inr ⟨by simp [go_sem], rfl⟩) (by assumption) ?_
                  simp only [Act.put, List.setIfInBounds_toArray, List.set_cons_zero, List.set_cons_succ]
                  refine wpAnyH_take (i := 10) (oi := { dst := some 222, op := Op.call { callee := Callee.value (Operand.func 56), args := #[Operand.tmp 220, Operand.tmp 221], argTypes := #[26, 26] }, type := 64, pos := "theorems.go:129", after := #[{ on := 8, ground := Ground.data }, { on := 9, ground := Ground.data }, { on := 6, ground := Ground.chain }, { on := 6, ground := Ground.guard }], guard := some (6, false) }) (v := undef) rfl (by kernel_rfl) (by kernel_rfl) (by kernel_rfl) (fun _ _ _ h => h) (Or.inr ⟨by simp [go_sem], rfl⟩) (by assumption) ?_
                  simp only [Act.put, List.setIfInBounds_toArray, List.set_cons_zero, List.set_cons_succ]
                  refine wpAnyH_take (i := 11) (oi := { dst := some 223, op := Op.call { callee := Callee.value (Operand.func 53), args := #[Operand.tmp 219, Operand.tmp 222], argTypes := #[25, 64] }, type := 29, pos := "theorems.go:129", after := #[{ on := 7, ground := Ground.data }, { on := 10, ground := Ground.data }, { on := 10, ground := Ground.chain }, { on := 6, ground := Ground.guard }], guard := some (6, false) }) (v := undef) rfl (by kernel_rfl) (by kernel_rfl) (by kernel_rfl) (fun _ _ _ h => h) (Or.inr ⟨by simp [go_sem], rfl⟩) (by assumption) ?_
                  simp only [Act.put, List.setIfInBounds_toArray, List.set_cons_zero, List.set_cons_succ]
                  refine wpAnyH_take (i := 12) (oi := { dst := some 224, op := Op.binOp BinOp.neq 29 (Operand.tmp 223) (Operand.const (Value.int IntKind.i64 0)) 29, type := 4, pos := "theorems.go:129", after := #[{ on := 11, ground := Ground.data }, { on := 6, ground := Ground.guard }], guard := some (6, false) }) (v := undef) rfl (by kernel_rfl) (by kernel_rfl) (by kernel_rfl) (fun _ _ _ h => h) (Or.inr ⟨by simp [go_sem], rfl⟩) (by assumption) ?_
                  simp only [Act.put, List.setIfInBounds_toArray, List.set_cons_zero, List.set_cons_succ]
                  refine wpAnyH_take (i := 13) (oi := { dst := some 225, op := Op.pick (Operand.tmp 218) (Operand.const (Value.bool true)) (Operand.tmp 224), type := 4, pos := "theorems.go:129", after := #[{ on := 6, ground := Ground.data }, { on := 12, ground := Ground.data }], guard := none }) (v := .bool true) rfl (by kernel_rfl) (by kernel_rfl) (by kernel_rfl) (fun _ _ _ h => h) (Or.inl ⟨by rfl, ?_⟩) (by assumption) ?_
                  · intro w' hSw; (try dsimp only at hSw); go_simp
                  simp only [Act.put, List.setIfInBounds_toArray, List.set_cons_zero, List.set_cons_succ]
                  refine wpAnyH_done (by kernel_rfl) ?_ _
                  go_wp2_with fail
                  go_meet
                  exact ⟨by rw [h2']; rfl, KB, BB⟩
              case rest =>
                obtain ⟨rfl, K8, B8⟩ := hcut
                cases hbb : (z2 != 0 || z3 != 0)
                case true =>
                  go_wp2_with fail
                  go_ret
                  exact ⟨rfl, B8.out⟩
                case false =>
                  have hz23 : z2 = 0 ∧ z3 = 0 := by
                    rw [Bool.or_eq_false_iff] at hbb
                    exact ⟨by simpa using hbb.1, by simpa using hbb.2⟩
                  obtain ⟨rfl, rfl⟩ := hz23
                  clear hbb
                  have HCL := hid (HLAW.out.closed rfl rfl rfl)
                  have HN3 : Hid (∀ v : Value, True) := hid fun _ => trivial
                  clear HN3
                  obtain ⟨i0, hi, hz0, hz1', hz2'⟩ := info_parts Try.info3
                  have HE : Hid (∀ k, k < us.length → ∃ A B C, nth us k = A ∧ nth bs k = B ∧ nth cs k = C) := hid fun k _ => ⟨_, _, _, rfl, rfl, rfl⟩
                  clear HE
                  go_wp2_with fail
                  go_loopw [22, 23, 24, 25] (fun s1 s2 s3 i wr => ∃ (k : Nat) (P Q R : List Int), k ≤ us.length ∧ i = .int .i64 k ∧ Hid (KT wc wr s1 s2 s3 P Q R) ∧ Hid (P.length = k ∧ Q.length = k ∧ R.length = k ∧ ∀ j, j < k → nth P j = min (nth us j) (nth bs j) ∧ nth Q j = max (nth us j) (nth bs j) ∧ nth R j = mdl (nth us j) (nth bs j) (nth cs j))) (fun _ _ _ i _ => us.length - (intOf i).toNat)
                  case atStart => exact ⟨0, [], [], [], by omega, rfl, hid ⟨Below.refl _ _, World.ownsRow_nil _ _ _ _, World.ownsRow_nil _ _ _ _, World.ownsRow_nil _ _ _ _, by simp [Value.ownBlock], by simp [Value.ownBlock]⟩, hid ⟨rfl, rfl, rfl, fun j hj => by omega⟩⟩
                  case round =>
                    obtain ⟨k, P, Q, R, hk, rfl, HK, HP⟩ := hrel
                    by_cases hlt : k < us.length
                    · have hltb : k < bs.length := by have := LA.out; have := LB.out; omega
                      have hltc : k < cs.length := by have := LA.out; have := LC.out; omega
                      obtain ⟨b2, o2, e2, d2⟩ := K8.out.ia.cellQ (nthQ hlt)
                      cases e2
                      obtain ⟨b3, o3, e3, d3⟩ := K8.out.ib.cellQ (nthQ hltb)
                      cases e3
                      obtain ⟨b4, o4, e4, d4⟩ := K8.out.ic.cellQ (nthQ hltc)
                      cases e4
                      have l2 := World.block_lt_of_cell? _ _ d2
                      have l3 := World.block_lt_of_cell? _ _ d3
                      have l4 := World.block_lt_of_cell? _ _ d4
                      have s2 := (HK.out.1.cell (p := ⟨b2, o2 + k, none⟩) l2).trans d2
                      have s3 := (HK.out.1.cell (p := ⟨b3, o3 + k, none⟩) l3).trans d3
                      have s4 := (HK.out.1.cell (p := ⟨b4, o4 + k, none⟩) l4).trans d4
                      obtain ⟨p1, p2, p3, p4⟩ := HP.out
                      have HPP : Hid (∀ A B C, nth us k = A → nth bs k = B → nth cs k = C → ∀ j, j < k + 1 → nth (P ++ [min A B]) j = min (nth us j) (nth bs j) ∧ nth (Q ++ [max A B]) j = max (nth us j) (nth bs j) ∧ nth (R ++ [max (min A B) (max (min B C) (min A C))]) j = mdl (nth us j) (nth bs j) (nth cs j)) := hid fun A B C eA eB eC j hj => by
                        rw [nth_snoc, nth_snoc, nth_snoc]
                        by_cases e : j < k
                        · rw [if_pos (show j < P.length by omega), if_pos (show j < Q.length by omega), if_pos (show j < R.length by omega)]
                          exact p4 j e
                        · obtain rfl : j = k := by omega
                          rw [if_neg (show ¬ j < P.length by omega), if_pos (show j = P.length by omega), if_neg (show ¬ j < Q.length by omega), if_pos (show j = Q.length by omega), if_neg (show ¬ j < R.length by omega), if_pos (show j = R.length by omega), eA, eB, eC]
                          exact ⟨rfl, rfl, by unfold mdl; omega⟩
                      have HPQ := hid (HPP.out _ _ _ rfl rfl rfl)
                      have hP5 : P.length ≤ 1000 := by have := LA.out; omega
                      have hQ5 : Q.length ≤ 1000 := by have := LA.out; omega
                      have hR5 : R.length ≤ 1000 := by have := LA.out; omega
                      have HPL := hid p1; have HQL := hid p2; have HRL := hid p3
                      clear p1 p2 p3 p4 HPP HP
                      generalize nth us k = A at *
                      generalize nth bs k = B at *
                      generalize nth cs k = C at *
                      have hsz := HK.out.1.size
                      have i1 : (0 : Int) ≤ (k : Int) := by omega
                      have i2 : (k : Int) < us.length := by omega
                      have i3 : (k : Int) < bs.length := by omega
                      have i4 : (k : Int) < cs.length := by omega
                      go_wp2_with fail
                      go_region_held3 (fun w' => w'.cell? ⟨b2, o2 + k, none⟩ = some (.int .i64 A) ∧ w'.cell? ⟨b3, o3 + k, none⟩ = some (.int .i64 B)) (go_keep)
                        (first
                          | (refine step_append_lies _ (by rfl) _ _ 26 (by rfl) wc.heap.size 3 i0 (.int .i64 0) 1 8 Try.underlying26 hi hz0 hz1' hz2' rfl (by decide) _ P.length _ (by rfl) (HK.out.next (Bl.alloc (Bl.drew (Below.refl _ _)) (.cells #[.int .i64 (min A B)] 3))).2.1 ⟨wr.heap.size, 0, none⟩ 1 1 [.int .i64 (min A B)] (by rfl) rfl (cell_one_new _ _ _) (by simp [Value.oneCell']) (by omega) (by simp [maxLen]; omega) (by omega) (by simp; omega) _ rfl ?_
                             intro gw5 capw5 w5 hown' hgrow hat hlt4
                             have KQ := hid (KT.app (HK.out.next (Bl.alloc (Bl.drew (Below.refl _ _)) (.cells #[.int .i64 (min A B)] 3))) hown' hgrow hat)
                             have tw50 := (KQ.out.1.cell (p := ⟨b2, o2 + k, none⟩) l2).trans d2
                             have tw51 := (KQ.out.1.cell (p := ⟨b3, o3 + k, none⟩) l3).trans d3
                             have tw52 := (KQ.out.1.cell (p := ⟨b4, o4 + k, none⟩) l4).trans d4
                             clear hown' hgrow hat hlt4)
                          | fail)
                      clear s2 s3 s4
                      have KR := hid KQ.out.rot
                      have hsz5 := KQ.out.1.size
                      go_wp2_with fail
                      go_region_held3 (fun w' => w'.cell? ⟨b2, o2 + k, none⟩ = some (.int .i64 A) ∧ w'.cell? ⟨b3, o3 + k, none⟩ = some (.int .i64 B)) (go_keep)
                        (first
                          | (refine step_append_lies _ (by rfl) _ _ 26 (by rfl) wc.heap.size 3 i0 (.int .i64 0) 1 8 Try.underlying26 hi hz0 hz1' hz2' rfl (by decide) _ Q.length _ (by rfl) (KR.out.next (Bl.alloc (Bl.drew (Below.refl _ _)) (.cells #[.int .i64 (max A B)] 3))).2.1 ⟨w5.heap.size, 0, none⟩ 1 1 [.int .i64 (max A B)] (by rfl) rfl (cell_one_new _ _ _) (by simp [Value.oneCell']) (by omega) (by simp [maxLen]; omega) (by omega) (by simp; omega) _ rfl ?_
                             intro gw6 capw6 w6 hown' hgrow hat hlt4
                             have KS := hid (KT.app (KR.out.next (Bl.alloc (Bl.drew (Below.refl _ _)) (.cells #[.int .i64 (max A B)] 3))) hown' hgrow hat)
                             have tw60 := (KS.out.1.cell (p := ⟨b2, o2 + k, none⟩) l2).trans d2
                             have tw61 := (KS.out.1.cell (p := ⟨b3, o3 + k, none⟩) l3).trans d3
                             have tw62 := (KS.out.1.cell (p := ⟨b4, o4 + k, none⟩) l4).trans d4
                             clear hown' hgrow hat hlt4)
                          | fail)
                      clear tw50 tw51 tw52
                      have KU := hid KS.out.rot
                      have hsz6 := KS.out.1.size
                      go_wp2_with fail
                      go_region_held3 (fun w' => w'.cell? ⟨b2, o2 + k, none⟩ = some (.int .i64 A) ∧ w'.cell? ⟨b3, o3 + k, none⟩ = some (.int .i64 B) ∧ w'.cell? ⟨b4, o4 + k, none⟩ = some (.int .i64 C)) (go_keep)
                        (first
                          | (go_at_call 57; refine (middle3_any _ _ _ _).mono ?_; rintro e wq ⟨rfl, hq⟩; cases hq)
                          | (refine step_append_lies _ (by rfl) _ _ 26 (by rfl) wc.heap.size 3 i0 (.int .i64 0) 1 8 Try.underlying26 hi hz0 hz1' hz2' rfl (by decide) _ R.length _ (by rfl) (KU.out.next (Bl.alloc (Bl.drew (Below.refl _ _)) (.cells #[.int .i64 (max (min A B) (max (min B C) (min A C)))] 3))).2.1 ⟨w6.heap.size, 0, none⟩ 1 1 [.int .i64 (max (min A B) (max (min B C) (min A C)))] (by rfl) rfl (cell_one_new _ _ _) (by simp [Value.oneCell']) (by omega) (by simp [maxLen]; omega) (by omega) (by simp; omega) _ rfl ?_
                             intro gw7 capw7 w7 hown' hgrow hat hlt4
                             have KV := hid (KT.app (KU.out.next (Bl.alloc (Bl.drew (Below.refl _ _)) (.cells #[.int .i64 (max (min A B) (max (min B C) (min A C)))] 3))) hown' hgrow hat)
                             have tw70 := (KV.out.1.cell (p := ⟨b2, o2 + k, none⟩) l2).trans d2
                             have tw71 := (KV.out.1.cell (p := ⟨b3, o3 + k, none⟩) l3).trans d3
                             have tw72 := (KV.out.1.cell (p := ⟨b4, o4 + k, none⟩) l4).trans d4
                             clear hown' hgrow hat hlt4)
                          | fail)
                      clear tw60 tw61 tw62 tw70 tw71 tw72
                      go_wp2_with fail
                      go_roundw
                      case rel => (repeat apply Exists.intro); exact ⟨⟨k + 1, P ++ [min A B], Q ++ [max A B], R ++ [max (min A B) (max (min B C) (min A C))], by omega, by go_num, by simpa using hid KV.out.rot, hid ⟨by have := HPL.out; simp; omega, by have := HQL.out; simp; omega, by have := HRL.out; simp; omega, HPQ.out⟩⟩, rfl⟩
                      case measure => simp [intOf]; omega
                    · have hkn : k = us.length := by omega
                      obtain ⟨p1, p2, p3, p4⟩ := HP.out
                      obtain ⟨h1, h2, h3⟩ := HCL.out P Q R (by have := LA.out; omega) (by have := LA.out; omega) (by have := LA.out; omega) (fun j hj => p4 j (by have := LA.out; omega))
                      have HK1 := hid h1; have HK2 := hid h2; have HK3 := hid h3
                      clear h1 h2 h3 p1 p2 p3 p4 hkn HP
                      have IP := ints_of_own HK.out.2.1
                      have IQ := ints_of_own HK.out.2.2.1
                      have IR := ints_of_own HK.out.2.2.2.1
                      obtain ⟨ap, cp, rfl, _⟩ := IP.shape
                      obtain ⟨aq, cq, rfl, _⟩ := IQ.shape
                      obtain ⟨ar, cr, rfl, _⟩ := IR.shape
                      have K9 : Hid (LatH w.heap.size b l h r (.slice a0 xs.length c0) (.slice a1 us.length c1) (.slice a2 bs.length c2) (.slice a3 cs.length c3) (.slice ap P.length cp) (.slice aq Q.length cq) (.slice ar R.length cr) xs us bs cs P Q R wr) :=
                        hid ⟨K8.out.p.next HK.out.1, K8.out.x.below HK.out.1, K8.out.ia.below HK.out.1, K8.out.ib.below HK.out.1, K8.out.ic.below HK.out.1, IP, IQ, IR⟩
                      have B9 := hid (Bl.call B8.out HK.out.1)
                      clear HK IP IQ IR K8 B8
                      go_wp2_with fail
                      obtain ⟨q0, q1, q2, q3, q4⟩ := K9.out.p
                      go_region_held3 (fun w' => w'.cell? ⟨w.heap.size, 0, none⟩ = some (.int .i64 b) ∧ w'.cell? ⟨w.heap.size, 1, none⟩ = some (.int .i64 l) ∧ w'.cell? ⟨w.heap.size, 2, none⟩ = some (.int .i64 h) ∧ w'.cell? ⟨w.heap.size, 3, none⟩ = some (.int .i64 r)) (go_keep)
                        (first
                          | (go_at_call 56
                             first
                               | with_reducible refine (moments_any _ _ xs P _ KB.out.x KB.out.lo (by omega)).mono ?_
                               | with_reducible refine (moments_any _ _ xs Q _ KB.out.x KB.out.hi (by omega)).mono ?_
                               | with_reducible refine (moments_any _ _ xs R _ KB.out.x KB.out.ne (by omega)).mono ?_
                               | with_reducible refine (moments_any _ _ xs P wr.drew K9.out.drew.x K9.out.drew.lo (by omega)).mono ?_
                               | fail
                             rintro e wa ⟨am, cm, rfl, vm, hba⟩
                             have KA := hid (LatH.next (by first | exact KB.out | exact K9.out.drew) hba)
                             have BA := hid (Bl.call (by first | exact BB.out | exact Bl.drew B9.out) hba)
                             clear hba
                             obtain ⟨z0, z1', z2', z3', z4⟩ := KA.out.p)
                          | (go_at_call 53
                             first
                               | with_reducible refine (keeps_h b l h r _ (momF xs P) _ vm.out (HML.out P) 0 HK1).mono ?_
                               | with_reducible refine (keeps_h b l h r _ (momF xs Q) _ vm.out (HML.out Q) 0 HK2).mono ?_
                               | with_reducible refine (keeps_h b l h r _ (momF xs R) _ vm.out (HML.out R) 0 HK3).mono ?_
                               | fail
                             rintro e wk ⟨rfl, hbb⟩
                             have KB := hid (KA.out.next hbb)
                             have BB := hid (Bl.call BA.out hbb)
                             clear hbb
                             obtain ⟨y0', y1', y2', y3', y4'⟩ := KB.out.p)
                          | fail)
                      go_wp2_with fail
                      go_ret
                      exact ⟨rfl, BB.out⟩
end Go.Proofs.Ytdopgaljbpjpcaa
