/- The walk of the law PensApart. -/
import Derived.Test.YtdopgaljbpjpcaaLawMore
import Derived.Test.YtdopgaljbpjpcaaPlainP
import Derived.Test.YtdopgaljbpjpcaaRefF
namespace Go.Proofs.Ytdopgaljbpjpcaa
open Go.RowKit

theorem eq0_of {y : Int} (h : (y == 0) = true) : y = 0 := by simpa using h
/-- What the law finds at each index. -/
structure ApartAt (b f : Int) (xs La Lb Lc : List Int) (yc : Int) (k : Nat) (A B C lo hi : Int) : Prop where
  lt : k < xs.length
  ia : La[k]? = some A
  ib : Lb[k]? = some B
  d : B - A = max 0 (2 * b - (hi - lo))
  ic : yc = 0 → Lc[k]? = some C ∧ A ≤ C ∧ C ≤ B
  isw : swingF (xs.take (k + 1)) = ((lo, hi), 0)
  sw : hi - lo = swK xs (k + 1)
  bd : (-60000 ≤ A ∧ A ≤ 60000) ∧ (-60000 ≤ B ∧ B ≤ 60000) ∧ (-50000 ≤ lo ∧ lo ≤ hi ∧ hi ≤ 50000)
theorem apart_at {b l h r f yc : Int} {xs Lc : List Int} (hk1 : followOk b l h r (xs.headD 0 - b) xs = true) (hc : followF b l h r f xs = (Lc, yc)) {k : Nat} (hk : k < xs.length) :
    ∃ A B C lo hi, ApartAt b f xs (shownL b (xs.headD 0 - b) xs) (shownL b (xs.headD 0 + b) xs) Lc yc k A B C lo hi := by
  obtain ⟨hp, hf, hl, hr, hs⟩ := followOk_iff.1 hk1
  have hb0 := (penOk_iff.1 hp).1
  have hb8 := (penOk_iff.1 hp).2.1
  obtain ⟨⟨l1, l2⟩, hx⟩ := listOk_iff.1 hl
  have ha : k < (shownL b (xs.headD 0 - b) xs).length := by rw [shownL_len]; exact hk
  have hbl : k < (shownL b (xs.headD 0 + b) xs).length := by rw [shownL_len]; exact hk
  have hcl : k < (shownL b f xs).length := by rw [shownL_len]; exact hk
  have hlen : (xs.take (k + 1)).length = k + 1 := by rw [List.length_take]; omega
  have hne : xs.take (k + 1) ≠ [] := by
    intro e
    have := congrArg List.length e
    rw [hlen] at this; simp at this
  have hm := loI_mem _ hne
  have hlo := hx _ (List.mem_of_mem_take hm.1)
  have hhi := hx _ (List.mem_of_mem_take hm.2)
  have hlh := loI_le_hiI _ hne
  have hhd : -50000 ≤ xs.headD 0 ∧ xs.headD 0 ≤ 50000 := by
    cases xs with
    | nil => simp at hk
    | cons x t => exact hx x (by simp)
  have hlt : listOk (xs.take (k + 1)) = true := listOk_iff.2 ⟨by rw [hlen]; omega, fun x h => hx x (List.mem_of_mem_take h)⟩
  have hA := runF_bd (b := b) hb0 (by omega) (xs.take (k + 1)) (xs.headD 0 - b) (by omega) (fun x h => hx x (List.mem_of_mem_take h))
  have hB := runF_bd (b := b) hb0 (by omega) (xs.take (k + 1)) (xs.headD 0 + b) (by omega) (fun x h => hx x (List.mem_of_mem_take h))
  rw [← shown_run (right_ends hb0).1 hk ha] at hA
  rw [← shown_run (right_ends hb0).2 hk hbl] at hB
  refine ⟨_, _, (shownL b f xs)[k], loI (xs.take (k + 1)), hiI (xs.take (k + 1)), hk, List.getElem?_eq_getElem ha, List.getElem?_eq_getElem hbl, shown_apart hb0 hk hbl ha, fun hy => ?_, ?_, rfl, ⟨by omega, by omega, by omega⟩⟩
  · subst hy
    rcases followF_cases hc with ⟨hy, _⟩ | ⟨_, rfl, hk2⟩
    · exact absurd rfl hy
    · obtain ⟨_, _, _, hr2, _⟩ := followOk_iff.1 hk2
      have := shown_between hr2 hbl ha hcl
      exact ⟨List.getElem?_eq_getElem hcl, this⟩
  · unfold swingF listE; rw [if_pos hlt]; simp

set_option maxRecDepth 100000 in
set_option maxHeartbeats 8000000 in
theorem walkApart (b l h r : Int) (v : Value) (xs : List Int) (f : Int) (w : World) (hv : Ints w v xs) :
    Calls Try.prog 12 #[.agg #[.int .i64 b, .int .i64 l, .int .i64 h, .int .i64 r], v, .int .i64 f] w fun e w' => e = .returned (.bool true) ∧ Below w.heap.size w w' := by
  obtain ⟨t, ht⟩ : ∃ t, Hid (decide (xs.length ≤ 500) = t) := ⟨_, rfl⟩
  obtain ⟨a1, a2, ys, hS⟩ : ∃ a1 a2 y, Hid (startsF b l h r (xs.headD 0) = ((a1, a2), y)) := ⟨_, _, _, rfl⟩
  obtain ⟨La, ya, hA⟩ : ∃ L y, Hid (followF b l h r a1 xs = (L, y)) := ⟨_, _, rfl⟩
  obtain ⟨Lb, yb, hB⟩ : ∃ L y, Hid (followF b l h r a2 xs = (L, y)) := ⟨_, _, rfl⟩
  obtain ⟨Lc, yc, hC⟩ : ∃ L y, Hid (followF b l h r f xs = (L, y)) := ⟨_, _, rfl⟩
  obtain ⟨fo, yo, hO⟩ : ∃ L y, Hid (forgetsF b l h r xs = (L, y)) := ⟨_, _, rfl⟩
  obtain ⟨a, c, rfl, hm⟩ := hv.shape
  have HV := hid hv; clear hv
  go_enter Try.func12, Try.ntmps12
  go_wp2_with fail
  refine (awake_any _).mono ?_
  rintro e w1 ⟨rfl, hb1⟩
  go_wp2_with fail
  refine (few_at _ xs t _ (HV.out.below (bl1 hb1)) ht).mono ?_
  rintro e w2 ⟨rfl, rfl⟩
  have P1 := hid ((Pbx.new _ b l h r w 25 rfl).next hb1)
  have B1 := hid (bl1 hb1)
  clear hb1
  cases t
  · go_wp2_with fail
    go_ret
    exact ⟨rfl, B1.out⟩
  cases hn0 : ((xs.length : Int) == 0)
  case true =>
    have hz : xs = [] := by simpa using hn0
    subst hz
    go_wp2_with fail
    go_ret
    exact ⟨rfl, B1.out⟩
  have h0 : 0 < xs.length := by
    cases xs with
    | nil => simp at hn0
    | cons x t => simp
  have h0' : (0 : Int) < xs.length := by omega
  obtain ⟨b0, o0, rfl, c0⟩ := (HV.out.below B1.out).cell0 h0
  have hd : xs.headD 0 = xs[0] := by cases xs with | nil => simp at h0 | cons x t => rfl
  have HD := hid hd
  rw [hd] at hS
  clear hd
  generalize xs[0] = x0 at *
  have hbw := World.block_lt_of_cell? _ _ c0
  dsimp only at hbw
  obtain ⟨q0, q1, q2, q3, q4⟩ := P1.out
  have n1 : ¬ w.heap.size = w1.heap.size := by omega
  have n2 : ¬ b0 = w1.heap.size := by omega
  go_wp2_with fail
  go_cut [8, 9] from 32 to 39 (fun s8 s9 wx => ∃ g : Nat, s8 = .pointer (some ⟨g, 0, none⟩) ∧ s9 = .int .i64 ys ∧ Hid (Rbx g a1 a2 wx) ∧ Hid (Pbx w.heap.size b l h r wx) ∧ Hid (Below w.heap.size w wx))
  case first =>
    go_region_held3 (fun w' => w'.cell? ⟨b0, o0, none⟩ = some (.int .i64 x0) ∧ w'.cell? ⟨w.heap.size, 0, none⟩ = some (.int .i64 b) ∧ w'.cell? ⟨w.heap.size, 1, none⟩ = some (.int .i64 l) ∧ w'.cell? ⟨w.heap.size, 2, none⟩ = some (.int .i64 h) ∧ w'.cell? ⟨w.heap.size, 3, none⟩ = some (.int .i64 r)) (first | (go_keep; done) | (refine ⟨?_, ?_, ?_, ?_, ?_⟩ <;> (refine (set2o ?_).trans ?_ <;> (first | assumption | omega | (simp; omega)))))
      (first
        | (go_at_call 44; refine (starts_h b l h r x0 _ a1 a2 ys hS).mono ?_; rintro e wa ⟨rfl, hba⟩
           have HPa := hid (Pbx.next (by first | exact Pbx.alloc (W := w1.drew) P1.out _ | exact P1.out) hba)
           have HBa := hid (Bl.call (by first | exact Bl.alloc (Bl.drew B1.out) _ | exact Bl.drew B1.out) hba)
           have HVa := hid (Bl.call (a := w1) (by first | exact Bl.drew (Below.refl _ _) | exact Bl.alloc (Bl.drew (Below.refl _ _)) _) hba)
           try have HXa := hid (Rbx.next (Rbx.new w1.heap.size 0 0 w1.drew 23 rfl) hba)
           clear hba
           obtain ⟨x0', x1', x2, x3, x4⟩ := HPa.out
           try obtain ⟨z0, z1, z2, z3, z4⟩ := HXa.out
           have hca := (HVa.out.cell (p := ⟨b0, o0, none⟩) hbw).trans c0
           have hsa := HVa.out.size
           have n5 : ¬ w.heap.size = wa.heap.size := by omega
           have n6 : ¬ b0 = wa.heap.size := by omega)
        | fail)
    all_goals
      go_wp2_with fail
      go_meet
      first
        | exact ⟨wa.heap.size, rfl, rfl, hid (Rbx.new _ _ _ wa 23 rfl), hid (HPa.out.alloc _), hid (Bl.alloc HBa.out _)⟩
        | exact ⟨w1.heap.size, rfl, rfl, hid (Rbx.set HXa.out _ _), hid (HPa.out.set2 n1 _ _), hid (Bl.set2 HBa.out (by omega) _ _)⟩
  case rest =>
    obtain ⟨gs, rfl, rfl, HGS, HP, HB⟩ := hcut
    clear q0 q1 q2 q3 q4 c0 hbw n1 n2 P1 B1
    obtain ⟨g0, g1, _, _, _⟩ := HGS.out
    obtain ⟨q0, q1, q2, q3, q4⟩ := HP.out
    go_wp2_with fail
    refine (follow_g _ _ _ _ _ _ xs _ (HV.out.below HB.out) _ _ hA).mono ?_
    rintro e w2 ⟨aa, ca, rfl, va, hb⟩
    clear q0 q1 q2 q3 q4 g0 g1
    have HP2 := hid (HP.out.next hb)
    have HG2 := hid (HGS.out.next hb)
    have HB2 := hid (Bl.call HB.out hb)
    clear hb HP HGS HB
    obtain ⟨g0, g1, _, _, _⟩ := HG2.out
    obtain ⟨q0, q1, q2, q3, q4⟩ := HP2.out
    go_wp2_with fail
    refine (follow_g _ _ _ _ _ _ xs _ (HV.out.below HB2.out) _ _ hB).mono ?_
    rintro e w3 ⟨ab, cb, rfl, vb, hb⟩
    clear q0 q1 q2 q3 q4 g0 g1
    have HP3 := hid (HP2.out.next hb)
    have HB3 := hid (Bl.call HB2.out hb)
    have va3 := hid (va.out.below hb)
    clear hb HP2 HG2 HB2 va
    rcases startsF_cases hS.out with hy | ⟨rfl, rfl, rfl⟩
    · have hy' := neq0 hy
      clear hy
      go_wp2_with fail
      go_ret
      exact ⟨rfl, HB3.out⟩
    rcases followF_cases hA.out with ⟨hy, rfl, _⟩ | ⟨rfl, rfl, hka⟩
    · have hy' := neq0 hy
      clear hy
      go_wp2_with fail
      go_ret
      exact ⟨rfl, HB3.out⟩
    rcases followF_cases hB.out with ⟨hy, rfl, _⟩ | ⟨rfl, rfl, hkb⟩
    · have hy' := neq0 hy
      clear hy
      go_wp2_with fail
      go_ret
      exact ⟨rfl, HB3.out⟩
    obtain ⟨k1, _, k3, _, k5⟩ := followOk_iff.1 hka
    have hb0 := (penOk_iff.1 k1).1
    have hb8 := (penOk_iff.1 k1).2.1
    have hn4 := (listOk_iff.1 k3).1.2
    have HFF := hid (forgets_first (listedE_iff.2 ⟨k1, k3⟩) k5 hb0 h0 hO.out)
    have HAT : Hid (∀ k, k < xs.length → ∃ A B C lo hi, ApartAt b f xs (shownL b (x0 - b) xs) (shownL b (x0 + b) xs) Lc yc k A B C lo hi) := hid fun k hk => by
      have := apart_at (yc := yc) (Lc := Lc) (f := f) (by rw [HD.out]; exact hka) hC.out hk
      rw [HD.out] at this
      exact this
    have HLA := hid (shownL_len b (x0 - b) xs)
    have HLB := hid (shownL_len b (x0 + b) xs)
    have HLC : Hid ((yc == 0) = true → Lc.length = xs.length) := hid fun h => by
      rcases followF_cases hC.out with ⟨hy, _, _⟩ | ⟨_, rfl, _⟩
      · simp at h; exact absurd h hy
      · exact shownL_len _ _ _
    clear k1 k3 k5 hka hkb hS hA hB HD
    generalize shownL b (x0 - b) xs = La at *
    generalize shownL b (x0 + b) xs = Lb at *
    have hna := int_ne_false HLA.out
    have hnb := int_ne_false HLB.out
    obtain ⟨q0, q1, q2, q3, q4⟩ := HP3.out
    go_wp2_with fail
    refine (follow_g _ _ _ _ _ _ xs _ (HV.out.below HB3.out) _ _ hC).mono ?_
    rintro e w4 ⟨ac, cc, rfl, vc, hb⟩
    clear q0 q1 q2 q3 q4
    have HP4 := hid (HP3.out.next hb)
    have HB4 := hid (Bl.call HB3.out hb)
    have va4 := hid (va3.out.below hb)
    have vb4 := hid (vb.out.below hb)
    clear hb HP3 HB3 va3 vb
    obtain ⟨q0, q1, q2, q3, q4⟩ := HP4.out
    go_wp2_with fail
    refine (forgets_h _ _ _ _ _ xs _ (HV.out.below HB4.out) _ _ hO).mono ?_
    rintro e w5 ⟨rfl, hb⟩
    clear q0 q1 q2 q3 q4
    have HP5 := hid (HP4.out.next hb)
    have HB5 := hid (Bl.call HB4.out hb)
    have va5 := hid (va4.out.below hb)
    have vb5 := hid (vb4.out.below hb)
    have vc5 := hid (vc.out.below hb)
    clear hb HP4 HB4 va4 vb4 vc hC hO
    obtain ⟨tc, htc⟩ : ∃ t, (yc == 0) = t := ⟨_, rfl⟩
    rw [htc] at HLC
    cases tc
    all_goals
      try have hnc := int_ne_false (HLC.out rfl)
      go_wp2_with fail
      go_loopw [18, 19] (fun gn i wr => ∃ (k : Nat) (t : Bool), k ≤ xs.length ∧ i = .int .i64 k ∧ gn = .bool t ∧ Hid (Below w5.heap.size w5 wr) ∧ Hid (t = false → ∀ j, j < k → swK xs (j + 1) < 2 * b)) (fun _ i _ => xs.length - (intOf i).toNat)
      case atStart => exact ⟨0, false, by omega, rfl, rfl, hid (Below.refl _ _), hid fun _ j hj => by omega⟩
      case round =>
        obtain ⟨k, t, hk, rfl, rfl, HW, HG⟩ := hrel
        by_cases hlt : k < xs.length
        · obtain ⟨A, B, C, lo, hi, HX⟩ := HAT.out k hlt
          obtain ⟨_, hia, hib, hd, hic, hsw, hsk, ⟨hA1, hA2⟩, ⟨hB1, hB2⟩, hl1, hl2, hl3⟩ := HX
          have HD := hid hd; have HIC := hid hic; have HSW := hid hsw; have HSK := hid hsk
          clear hd hic hsw hsk
          have hcap := (HV.out.below (Bl.call HB5.out HW.out)).cap
          have hvk := HV.out.below (Bl.call HB5.out HW.out)
          have HVK := hid (hvk.take (show k + 1 ≤ xs.length by omega))
          clear hvk
          obtain ⟨b1, o1, rfl, d1⟩ := (va5.out.below HW.out).cellQ hia
          obtain ⟨b2, o2, rfl, d2⟩ := (vb5.out.below HW.out).cellQ hib
          have i1 : (0 : Int) ≤ (k : Int) := by omega
          have i2 : (k : Int) < xs.length := by omega
          have i3 : ((k : Int) + 1).toNat = k + 1 := by omega
          have i4 : IntKind.i64.wrap ((k : Int) + 1) = (k : Int) + 1 := IntWalk.i64_in _ (by omega)
          have i5 : (0 : Int) ≤ (k : Int) + 1 := by omega
          have i6 : (k : Int) + 1 ≤ c := by omega
          have i7 : k + 1 ≤ c := by omega
          clear hia hib
          go_wp2_with fail
          refine (swing_h _ (xs.take (k + 1)) _ HVK.out lo hi 0 HSW).mono ?_
          rintro e w6 ⟨rfl, hb⟩
          have hW7 := hid (Bl.alloc hb (.cells #[.int .i64 lo, .int .i64 hi] 23))
          have hX7 := hid (Rbx.new _ lo hi w6 23 rfl)
          clear hb i3 i4
          go_wp2_with fail
          generalize hw7 : w6.alloc (.cells #[.int .i64 lo, .int .i64 hi] 23) = w7 at *
          clear hw7
          have e1 := (hW7.out.cell (World.block_lt_of_cell? _ _ d1)).trans d1
          have e2 := (hW7.out.cell (World.block_lt_of_cell? _ _ d2)).trans d2
          have HP7 := hid (HP5.out.next (Bl.call HW.out hW7.out))
          have HW7 := hid (Bl.call HW.out hW7.out)
          have vc7 := hid (vc5.out.below HW7.out)
          obtain ⟨q0, _, _, _, _⟩ := HP7.out
          obtain ⟨g0, g1, _, _, _⟩ := hX7.out
          clear d1 d2
          have j1 : IntKind.i64.wrap (B - A) = B - A := IntWalk.i64_in _ (by omega)
          have j2 : IntKind.i64.wrap (2 * b) = 2 * b := IntWalk.i64_in _ (by omega)
          have j3 : IntKind.i64.wrap (hi - lo) = hi - lo := IntWalk.i64_in _ (by omega)
          have j4 : IntKind.i64.wrap (2 * b - (hi - lo)) = 2 * b - (hi - lo) := IntWalk.i64_in _ (by omega)
          have j5 : (B - A != max 0 (2 * b - (hi - lo))) = false := by rw [HD.out]; simp
          have m1 : (k : Int) < La.length := by have := HLA.out; omega
          have m2 : (k : Int) < Lb.length := by have := HLB.out; omega
          have m3 : k < La.length := by omega
          have m4 : k < Lb.length := by omega
          go_big_quiet (fail)
          clear j1 j4 j5
          try
            obtain ⟨hc1, hc2, hc3⟩ := HIC.out (eq0_of htc)
            have HLCo := HLC.out trivial
            obtain ⟨b3, o3, rfl, e3⟩ := vc7.out.cellQ hc1
            have k1 : decide (C < A) = false := by simp; omega
            have k2 : decide (B < C) = false := by simp; omega
            have m5 : (k : Int) < Lc.length := by omega
            have m6 : k < Lc.length := by omega
            clear hc1 hc2 hc3 HLCo
          go_wp2_with fail
          go_big_quiet (fail)
          have hsk := HSK.out
          cases t
          · by_cases hs2 : 2 * b ≤ hi - lo
            · have k3 : decide (2 * b ≤ hi - lo) = true := by simpa using hs2
              obtain ⟨y1, y2⟩ := HFF.out.1 k hlt (by omega) (fun j hj => HG.out rfl j hj)
              have k4 : (yo != 0) = false := by simpa using y1
              have k5 : (fo != (k : Int)) = false := by simpa using y2
              clear y1 y2 hsk hs2
              go_wp2_with fail
              go_roundw
              case rel => exact ⟨k + 1, true, by omega, by go_num, rfl, hid (Bl.drewN HW7.out _), hid fun h => by cases h⟩
              case measure => simp [intOf]; omega
            · have k3 : decide (2 * b ≤ hi - lo) = false := by simpa using hs2
              have HG4 : Hid (false = false → ∀ j, j < k + 1 → swK xs (j + 1) < 2 * b) := hid fun h j hj => by
                by_cases e : j = k
                · subst e; omega
                · exact HG.out h j (by omega)
              clear hsk hs2
              go_wp2_with fail
              go_roundw
              case rel => exact ⟨k + 1, false, by omega, by go_num, rfl, hid (Bl.drewN HW7.out _), HG4⟩
              case measure => simp [intOf]; omega
          · clear hsk
            go_wp2_with fail
            go_roundw
            case rel => exact ⟨k + 1, true, by omega, by go_num, rfl, hid (Bl.drewN HW7.out _), hid fun h => by cases h⟩
            case measure => simp [intOf]; omega
        · have hkn : k = xs.length := by omega
          have HG3 := hid (fun h : t = false => HFF.out.2 (fun j hj => HG.out h j (by omega)))
          cases t
          · have h3 : (yo == 3) = true := by simpa using HG3.out rfl
            clear hkn
            go_wp2_with fail
            go_ret
            exact ⟨rfl, Bl.call HB5.out HW.out⟩
          · clear hkn
            go_wp2_with fail
            go_ret
            exact ⟨rfl, Bl.call HB5.out HW.out⟩
end Go.Proofs.Ytdopgaljbpjpcaa
