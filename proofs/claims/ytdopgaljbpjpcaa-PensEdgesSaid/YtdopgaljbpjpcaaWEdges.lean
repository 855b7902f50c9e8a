/- The walk of the law PensEdges. -/
import Derived.Test.YtdopgaljbpjpcaaKeepsH
import Derived.Test.YtdopgaljbpjpcaaPlainE
namespace Go.Proofs.Ytdopgaljbpjpcaa
open Go.RowKit

/-- Whether one of the first k edges leads there. -/
def mayK (L : List (Int × Int × Int)) (q d : Int) (k : Nat) : Bool := (L.take k).any (leadsB q d)
theorem mayK_succ {L : List (Int × Int × Int)} {q d : Int} {k : Nat} (h : k < L.length) : mayK L q d (k + 1) = (mayK L q d k || leadsB q d L[k]) := by
  unfold mayK; rw [List.take_succ_eq_append_getElem h, List.any_append]; simp
theorem mayK_all (L : List (Int × Int × Int)) (q d : Int) : mayK L q d L.length = L.any (leadsB q d) := by unfold mayK; rw [List.take_length]
theorem keeps_one {b l h r s x : Int} (hk : keepsF b l h r [(s, x)] = 0) : (0 ≤ b ∧ b ≤ 8) ∧ (-50000 ≤ s ∧ s ≤ 50000) ∧ (-50000 ≤ x ∧ x ≤ 50000) ∧ x - s ≤ b ∧ s - x ≤ b := by
  obtain ⟨hp, l1, l2, m1⟩ := keepsF_iff.1 hk
  have h1 := (listOk_iff.1 l1).2; have h2 := (listOk_iff.1 l2).2
  simp at h1 h2
  have hb := penOk_iff.1 hp
  simp [momB, chainB, rightB] at m1
  exact ⟨⟨hb.1, hb.2.1⟩, h1, h2, by omega, by omega⟩
theorem movesL_len (b r o : Int) (hb : 0 ≤ b) (hb8 : b ≤ 8) : (movesL b r o).length ≤ 17 := by
  have := movesTo_le b r o (2 * b + 1).toNat
  unfold movesL; omega
set_option maxRecDepth 100000 in
set_option maxHeartbeats 8000000 in
theorem walkEdges (b l h r sa ra sb rb : Int) (w : World) :
    Calls Try.prog 15 #[.agg #[.int .i64 b, .int .i64 l, .int .i64 h, .int .i64 r], .agg #[.int .i64 sa, .int .i64 ra], .agg #[.int .i64 sb, .int .i64 rb]] w fun e w' => e = .returned (.bool true) ∧ Below w.heap.size w w' := by
  obtain ⟨za, hA⟩ : ∃ z, Hid (keepsF b l h r [(sa, ra)] = z) := ⟨_, rfl⟩
  obtain ⟨zb, hB⟩ : ∃ z, Hid (keepsF b l h r [(sb, rb)] = z) := ⟨_, rfl⟩
  obtain ⟨zc, hC⟩ : ∃ z, Hid (keepsF b l h r [(sa, ra), (sb, rb)] = z) := ⟨_, rfl⟩
  go_enter Try.func15, Try.ntmps15
  go_wp2_with fail
  refine (awake_any _).mono ?_
  rintro e w1 ⟨rfl, hb1⟩
  have P1 := hid ((Pbx.new _ b l h r w 25 rfl).next (bl2 hb1))
  have A1 := hid ((Rbx.new (w.heap.size + 1) sa ra (w.alloc (.cells #[.int .i64 b, .int .i64 l, .int .i64 h, .int .i64 r] 25)) 59 (by simp)).next (bl1 hb1))
  have E1 := hid ((Rbx.new (w.heap.size + 1 + 1) sb rb ((w.alloc (.cells #[.int .i64 b, .int .i64 l, .int .i64 h, .int .i64 r] 25)).alloc (.cells #[.int .i64 sa, .int .i64 ra] 59)) 59 (by simp)).next hb1)
  have B1 := hid (bl3 hb1)
  clear hb1
  obtain ⟨q0, q1, q2, q3, q4⟩ := P1.out
  obtain ⟨g0, g1, _, _, g4⟩ := A1.out
  obtain ⟨h0, h1, _, _, h4⟩ := E1.out
  go_wp2_with fail
  refine (keeps_h _ _ _ _ _ [(sa, ra)] _ (pairs_lit1 _ _ rfl _ _ _) (by simp) za hA).mono ?_
  rintro e w2 ⟨rfl, hb⟩
  clear q0 q1 q2 q3 q4 g0 g1 g4 h0 h1 h4
  have P2 := hid (P1.out.next (bl1 hb))
  have A2 := hid (A1.out.next (bl1 hb))
  have E2 := hid (E1.out.next (bl1 hb))
  have B2 := hid (Bl.call B1.out (bl1 hb))
  clear hb P1 A1 E1 B1
  by_cases hza : za = 0
  case neg =>
    have hz := neq0 hza
    clear hza
    go_wp2_with fail
    go_ret
    exact ⟨rfl, B2.out⟩
  subst hza
  obtain ⟨q0, q1, q2, q3, q4⟩ := P2.out
  obtain ⟨h0, h1, _, _, h4⟩ := E2.out
  go_wp2_with fail
  refine (keeps_h _ _ _ _ _ [(sb, rb)] _ (pairs_lit1 _ _ rfl _ _ _) (by simp) zb hB).mono ?_
  rintro e w3 ⟨rfl, hb⟩
  clear q0 q1 q2 q3 q4 h0 h1 h4
  have P3 := hid (P2.out.next (bl1 hb))
  have A3 := hid (A2.out.next (bl1 hb))
  have E3 := hid (E2.out.next (bl1 hb))
  have B3 := hid (Bl.call B2.out (bl1 hb))
  clear hb P2 A2 E2 B2
  by_cases hzb : zb = 0
  case neg =>
    have hz := neq0 hzb
    clear hzb
    go_wp2_with fail
    go_ret
    exact ⟨rfl, B3.out⟩
  subst hzb
  obtain ⟨hM, hMay⟩ := edges_may hA.out hB.out
  obtain ⟨⟨hb0, hb8⟩, ⟨s1, s2⟩, ⟨r1, r2⟩, _, _⟩ := keeps_one hA.out
  obtain ⟨_, ⟨s3, s4⟩, ⟨r3, r4⟩, _, _⟩ := keeps_one hB.out
  have hl17 := movesL_len b r (ra - sa) hb0 hb8
  have HM := hid hM
  rw [hC.out] at hMay
  rw [← mayK_all] at hMay
  have HMay := hid hMay
  clear hM hMay
  generalize movesL b r (ra - sa) = L at *
  obtain ⟨q0, q1, q2, q3, q4⟩ := P3.out
  obtain ⟨g0, g1, _, _, g4⟩ := A3.out
  go_wp2_with fail
  refine (moves_h _ _ _ _ _ _ L 0 HM).mono ?_
  rintro e w4 ⟨a4, c4, rfl, v4, hb⟩
  clear q0 q1 q2 q3 q4 g0 g1 g4
  have P4 := hid (P3.out.next hb)
  have A4 := hid (A3.out.next hb)
  have E4 := hid (E3.out.next hb)
  have B4 := hid (Bl.call B3.out hb)
  clear hb P3 A3 E3 B3
  go_wp2_with fail
  go_loopw [10, 11] (fun my i wr => ∃ (k : Nat) (t : Bool), k ≤ L.length ∧ i = .int .i64 k ∧ my = .bool t ∧ Hid (Below w4.heap.size w4 wr) ∧ Hid (mayK L (rb - sb + b) (sb - sa) k = t)) (fun _ i _ => L.length - (intOf i).toNat)
  case atStart => exact ⟨0, false, by omega, rfl, rfl, hid (Below.refl _ _), hid rfl⟩
  case round =>
    obtain ⟨k, t, hk, rfl, rfl, HW, HT⟩ := hrel
    by_cases hlt : k < L.length
    · obtain ⟨b5, o5, rfl, d1, d2, d3⟩ := (v4.out.below HW.out).cellAt hlt
      have HS := hid (mayK_succ (q := rb - sb + b) (d := sb - sa) hlt)
      generalize L[k] = m at *
      obtain ⟨q, lo, hi⟩ := m
      simp only at d1 d2 d3
      have HL : Hid (mayK L (rb - sb + b) (sb - sa) (k + 1) = (t || (q == rb - sb + b && (decide (lo ≤ sb - sa) && decide (sb - sa ≤ hi))))) := hid (by rw [HS.out, HT.out]; rfl)
      clear HS
      obtain ⟨q0, q1, q2, q3, q4⟩ := P4.out.next HW.out
      obtain ⟨g0, g1, _, _, g4⟩ := A4.out.next HW.out
      obtain ⟨h0, h1, _, _, h4⟩ := E4.out.next HW.out
      have i1 : (0 : Int) ≤ (k : Int) := by omega
      have i2 : (k : Int) < L.length := by omega
      have j1 : IntKind.i64.wrap (sb - sa) = sb - sa := IntWalk.i64_in _ (by omega)
      have j2 : IntKind.i64.wrap (rb - sb) = rb - sb := IntWalk.i64_in _ (by omega)
      have j3 : IntKind.i64.wrap (rb - sb + b) = rb - sb + b := IntWalk.i64_in _ (by omega)
      cases t
      · cases e1 : (q == rb - sb + b)
        · rw [e1] at HL
          go_wp2_with fail
          go_big_quiet (fail)
          clear e1
          go_wp2_with fail
          go_roundw
          case rel => exact ⟨k + 1, false, by omega, by go_num, rfl, hid (Bl.drewN HW.out _), HL⟩
          case measure => simp [intOf]; omega
        · rw [e1] at HL
          cases e2 : decide (lo ≤ sb - sa)
          · rw [e2] at HL
            go_wp2_with fail
            go_big_quiet (fail)
            clear e1 e2
            go_wp2_with fail
            go_roundw
            case rel => exact ⟨k + 1, false, by omega, by go_num, rfl, hid (Bl.drewN HW.out _), HL⟩
            case measure => simp [intOf]; omega
          · rw [e2] at HL
            cases e3 : decide (sb - sa ≤ hi)
            · rw [e3] at HL
              go_wp2_with fail
              go_big_quiet (fail)
              clear e1 e2 e3
              go_wp2_with fail
              go_roundw
              case rel => exact ⟨k + 1, false, by omega, by go_num, rfl, hid (Bl.drewN HW.out _), HL⟩
              case measure => simp [intOf]; omega
            · rw [e3] at HL
              go_wp2_with fail
              go_big_quiet (fail)
              clear e1 e2 e3
              go_wp2_with fail
              go_roundw
              case rel => exact ⟨k + 1, true, by omega, by go_num, rfl, hid (Bl.drewN HW.out _), HL⟩
              case measure => simp [intOf]; omega
      · go_wp2_with fail
        go_big_quiet (fail)
        go_wp2_with fail
        go_roundw
        case rel => exact ⟨k + 1, true, by omega, by go_num, rfl, hid (Bl.drewN HW.out _), HL⟩
        case measure => simp [intOf]; omega
    · have hkl : k = L.length := by omega
      subst hkl
      have HZ : Hid (t = (zc == 0)) := hid (HT.out.symm.trans HMay.out)
      clear HT HMay
      obtain ⟨q0, q1, q2, q3, q4⟩ := P4.out.next HW.out
      obtain ⟨g0, g1, _, _, g4⟩ := A4.out.next HW.out
      obtain ⟨h0, h1, _, _, h4⟩ := E4.out.next HW.out
      go_wp2_with fail
      refine (keeps_h _ _ _ _ _ [(sa, ra), (sb, rb)] _ (pairs_lit2 _ _ rfl _ _ _ _ _) (by simp) zc hC).mono ?_
      rintro e w5 ⟨rfl, hb⟩
      have HB5 := hid (Bl.call B4.out (Bl.call HW.out (bl1 hb)))
      have hz := HZ.out
      cases hz1 : (zc == 0)
      · rw [hz1] at hz
        subst hz
        go_wp2_with fail
        go_ret
        exact ⟨rfl, HB5.out⟩
      · rw [hz1] at hz
        subst hz
        go_wp2_with fail
        go_ret
        exact ⟨rfl, HB5.out⟩
end Go.Proofs.Ytdopgaljbpjpcaa
