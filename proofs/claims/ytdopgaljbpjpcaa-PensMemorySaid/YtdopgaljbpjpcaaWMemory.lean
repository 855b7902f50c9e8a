/- The walk of the law PensMemory. -/
import Derived.Test.YtdopgaljbpjpcaaWUpside
import Derived.Test.YtdopgaljbpjpcaaPlainP
import Derived.Deep.DeepCutAuto
import Derived.Deep.RegionHeld3
namespace Go.Proofs.Ytdopgaljbpjpcaa
open Go.RowKit

theorem Swing_g (v : Value) (xs : List Int) (w : World) (hv : Ints w v xs) (a1 a2 y : Int) (hp : Hid (swingF xs = ((a1, a2), y))) :
    Calls Try.prog 43 #[v] w fun e w' => e = .returned (.tuple #[.agg #[.int .i64 a1, .int .i64 a2], .int .i64 y]) ∧ Below w.heap.size w w' :=
  (Swing_any v xs w hv).mono fun e w' k => by rw [hp.out] at k; exact k
/-- What the law asks of the remembered. -/
theorem mem_facts {b l h r f : Int} {xs : List Int} (hk : followOk b l h r f xs = true) :
    memF b l h r xs = (memL b xs, 0) ∧ memF b l h r (memV b xs) = (memL b (memV b xs), 0) ∧ swingF (memV b xs) = ((loI (memV b xs), hiI (memV b xs)), 0) ∧ (∀ x ∈ memV b xs, -50000 ≤ x ∧ x ≤ 50000) := by
  obtain ⟨h1, h2, h3, h4, h5⟩ := followOk_iff.1 hk
  obtain ⟨⟨l1, l2⟩, l3⟩ := listOk_iff.1 h3
  have hm := mem_len b xs (by omega)
  have hV : ∀ x ∈ memV b xs, -50000 ≤ x ∧ x ≤ 50000 := by
    intro x hx
    unfold memV at hx
    obtain ⟨i, hi, rfl⟩ := List.mem_map.1 hx
    obtain ⟨i1, i2⟩ := mem_in (by omega) i hi
    rw [nth_eq (show i.toNat < xs.length by omega)]
    exact l3 _ (List.getElem_mem _)
  have hlen : (memV b xs).length = (memL b xs).length := by unfold memV; simp
  have hlV : listOk (memV b xs) = true := listOk_iff.2 ⟨by rw [hlen]; omega, hV⟩
  have e1 : listedE b l h r xs = 0 := by simp [listedE, listE, h1, h3]
  have e2 : listedE b l h r (memV b xs) = 0 := by simp [listedE, listE, h1, hlV]
  have e3 : listE (memV b xs) = 0 := by simp [listE, hlV]
  refine ⟨?_, ?_, ?_, hV⟩
  · unfold memF; rw [if_neg (by simp [e1])]
  · unfold memF; rw [if_neg (by simp [e2])]
  · unfold swingF; rw [if_neg (by simp [e3])]

set_option maxRecDepth 100000 in
set_option maxHeartbeats 8000000 in
theorem walkMemory (b l h r f : Int) (v : Value) (xs : List Int) (g : Int) (w : World) (hv : Ints w v xs) :
    Calls Try.prog 11 #[.agg #[.int .i64 b, .int .i64 l, .int .i64 h, .int .i64 r], .int .i64 f, v, .int .i64 g] w fun e w' => e = .returned (.bool true) ∧ Below w.heap.size w w' := by
  obtain ⟨t, ht⟩ : ∃ t, Hid (decide (xs.length ≤ 500) = t) := ⟨_, rfl⟩
  obtain ⟨L, y, hF⟩ : ∃ L y, Hid (followF b l h r f xs = (L, y)) := ⟨_, _, rfl⟩
  obtain ⟨M, ym, hM⟩ : ∃ L y, Hid (memF b l h r xs = (L, y)) := ⟨_, _, rfl⟩
  obtain ⟨a, c, rfl, hm⟩ := hv.shape
  have HV := hid hv; clear hv
  obtain ⟨i0, hi, hz0, hz1, hz2⟩ := info_parts Try.info3
  go_enter Try.func11, Try.ntmps11
  go_wp2_with fail
  refine (awake_any _).mono ?_
  rintro e w1 ⟨rfl, hb1⟩
  go_wp2_with fail
  refine (few_at _ xs t _ (HV.out.below (bl1 hb1)) ht).mono ?_
  rintro e w2 ⟨rfl, rfl⟩
  have P1 := hid ((Pbx.new _ b l h r w 25 rfl).next hb1)
  have B1 := hid (bl1 hb1)
  clear hb1
  cases t
  · go_wp2_with fail
    go_ret
    exact ⟨rfl, B1.out⟩
  cases hn0 : ((xs.length : Int) == 0)
  case true =>
    have hz : xs = [] := by simpa using hn0
    subst hz
    go_wp2_with fail
    go_ret
    exact ⟨rfl, B1.out⟩
  obtain ⟨q0, q1, q2, q3, q4⟩ := P1.out
  go_wp2_with fail
  refine (follow_g _ _ _ _ _ _ xs _ (HV.out.below B1.out) _ _ hF).mono ?_
  rintro e w2 ⟨a2, c2, rfl, v2, hb⟩
  clear q0 q1 q2 q3 q4
  have P2 := hid (P1.out.next hb)
  have B2 := hid (Bl.call B1.out hb)
  clear hb P1 B1
  obtain ⟨q0, q1, q2, q3, q4⟩ := P2.out
  go_wp2_with fail
  refine (memory_g _ _ _ _ _ xs _ (HV.out.below B2.out) _ _ hM).mono ?_
  rintro e w3 ⟨a3, c3, rfl, v3, hb⟩
  clear q0 q1 q2 q3 q4
  have P3 := hid (P2.out.next hb)
  have B3 := hid (Bl.call B2.out hb)
  have v2' := hid (v2.out.below hb)
  clear hb P2 B2 v2
  rcases followF_cases hF.out with ⟨hy, rfl, _⟩ | ⟨rfl, rfl, hk⟩
  · have hy' := neq0 hy
    clear hy
    go_wp2_with fail
    go_ret
    exact ⟨rfl, B3.out⟩
  obtain ⟨f1, f2, f3, fV⟩ := mem_facts hk
  obtain ⟨k1, _, k3, k4, _⟩ := followOk_iff.1 hk
  obtain ⟨⟨l1, l2⟩, hlx⟩ := listOk_iff.1 k3
  obtain ⟨hb0, hb8⟩ : 0 ≤ b ∧ b ≤ 8 := ⟨(penOk_iff.1 k1).1, (penOk_iff.1 k1).2.1⟩
  have e1 := f1.symm.trans hM.out
  obtain ⟨e2, e3⟩ := Prod.mk.inj e1
  subst e3
  have HX := hid hlx
  have hE := hid (shown_end (by omega : 0 < xs.length) k4)
  have hQ := hid (memV_eq (b := b) (xs := xs) (by omega))
  have HIn : Hid (∀ k, (h : k < M.length) → ∃ j : Nat, M[k] = (j : Int) ∧ j < xs.length ∧ (memV b xs)[k]? = some (nth xs j)) := by
    rw [← e2]
    intro k h
    obtain ⟨i1, i2⟩ := mem_in (by omega) _ (List.getElem_mem h)
    refine ⟨(memL b xs)[k].toNat, by omega, by omega, ?_⟩
    unfold memV; rw [List.getElem?_map, List.getElem?_eq_getElem h]; rfl
  have HUp : Hid (∀ k, (h1 : 1 ≤ k) → (h : k < M.length) → M[k - 1] < M[k]) := by
    rw [← e2]; exact fun k h1 h => mem_next h1 h
  have hml : 1 ≤ M.length ∧ M.length ≤ xs.length := by rw [← e2]; exact mem_len b xs (by omega)
  have HLa : M[M.length - 1]? = some ((xs.length - 1 : Nat) : Int) := by
    rw [← e2, ← List.getLast?_eq_getElem?]; exact mem_last b xs
  have hVl : (memV b xs).length = M.length := by rw [← e2]; unfold memV; simp
  have HAg := hid (mem_again (b := b) (xs := xs) (by omega))
  have HF2 := hid f2
  have HF3 := hid f3
  have HVb := hid fV
  clear f1 f2 f3 fV hlx k3 k4 k1 hk hM hF e1 e2
  obtain ⟨b3, o3, rfl, c3'⟩ := v3.out.cellAt (show M.length - 1 < M.length by omega)
  rw [List.getElem?_eq_getElem (show M.length - 1 < M.length by omega)] at HLa
  rw [Option.some.inj HLa] at c3'
  clear HLa
  have g1 : ((M.length : Int) == 0) = false := by simp; intro e; subst e; simp at hml
  have g2 : (0 : Int) ≤ (M.length : Int) - 1 := by omega
  have g3 : (M.length : Int) - 1 < M.length := by omega
  have g4 : ((M.length : Int) - 1).toNat = M.length - 1 := by omega
  have g5 : IntKind.i64.wrap ((M.length : Int) - 1) = (M.length : Int) - 1 := IntWalk.i64_in _ (by omega)
  have g6 : IntKind.i64.wrap ((xs.length : Int) - 1) = (xs.length : Int) - 1 := IntWalk.i64_in _ (by omega)
  have g7 : ((xs.length - 1 : Nat) : Int) = (xs.length : Int) - 1 := by omega
  rw [g7] at c3'
  clear g7
  go_wp2_with fail
  go_loopw [14, 15, 16, 17] (fun at' fa ke i wr => ∃ k : Nat, k ≤ M.length ∧ i = .int .i64 k ∧ at' = .int .i64 (runF b f ((memV b xs).take k)) ∧ fa = .int .i64 (runF b g ((memV b xs).take k)) ∧ Hid (Below w3.heap.size w3 wr) ∧ Hid (wr.ownsRow w3.heap.size 3 1 ke k (((memV b xs).take k).map (Value.int .i64)))) (fun _ _ _ i _ => M.length - (intOf i).toNat)
  case atStart => exact ⟨0, by omega, rfl, rfl, rfl, hid (Below.refl _ _), hid (World.ownsRow_nil _ _ _ _)⟩
  case round =>
    obtain ⟨k, hk, rfl, rfl, rfl, hbw, HO⟩ := hrel
    by_cases hlt : k < M.length
    · obtain ⟨j, hj, hjn, hjv⟩ := HIn.out k hlt
      obtain ⟨b4, o4, e4, d1⟩ := (v3.out.below hbw.out).cellAt hlt
      cases e4
      rw [hj] at d1
      have HHn := HV.out.below (Bl.call B3.out hbw.out)
      obtain ⟨b5, o5, rfl, d2⟩ := HHn.cellAt hjn
      clear HHn
      rw [nth_eq hjn] at hjv
      have hx5 := HX.out xs[j] (List.getElem_mem _)
      have HT : Hid ((memV b xs).take (k + 1) = (memV b xs).take k ++ [xs[j]]) := by rw [List.take_add_one, hjv]; exact hid rfl
      have HP4 := hid (P3.out.next hbw.out)
      have u0 : ∀ q : Int, True := fun _ => trivial
      clear u0
      have hkp : 1 ≤ k → ∃ j' : Nat, M[k - 1]'(by omega) = (j' : Int) ∧ j' < j := fun h1 => by
        obtain ⟨j', h2, _, _⟩ := HIn.out (k - 1) (by omega)
        exact ⟨j', h2, by have := HUp.out k h1 hlt; omega⟩
      have HKP := hid hkp
      clear hkp
      generalize hxj : xs[j] = x at *
      clear hjv hxj hj
      obtain ⟨p0, p1, p2, p3, p4⟩ := HP4.out
      have i1 : (k : Int) < M.length := by omega
      have i2 : (0 : Int) ≤ (k : Int) := by omega
      have i3 : (j : Int) < xs.length := by omega
      have i4 : (0 : Int) ≤ (j : Int) := by omega
      have i5 : decide (xs.length ≤ j) = false := by simp; omega
      obtain ⟨hrf, hrF⟩ : ∃ q, runF b f ((memV b xs).take k) = q := ⟨_, rfl⟩
      obtain ⟨hrg, hrG⟩ : ∃ q, runF b g ((memV b xs).take k) = q := ⟨_, rfl⟩
      have HRF : Hid (runF b f ((memV b xs).take (k + 1)) = lazyN b hrf x) := by rw [HT.out, runF_append, hrF]; exact hid rfl
      have HRG : Hid (runF b g ((memV b xs).take (k + 1)) = lazyN b hrg x) := by rw [HT.out, runF_append, hrG]; exact hid rfl
      rw [hrF, hrG]
      clear hrF hrG
      have g8 : decide ((j : Int) < 0) = false := by simp
      go_wp2_with fail
      go_cut [104] from 75 to 104 (fun s104 wx => s104 = .bool false ∧ ∃ n, wx = wr.drewN n)
      case first =>
        by_cases hk0 : k = 0
        · have g9 : decide (0 < k) = false := by simp; omega
          clear HKP hk0
          go_big_quiet (fail)
          go_wp2_with fail
          go_meet
          exact ⟨rfl, _, rfl⟩
        · obtain ⟨j', h2, h3⟩ := HKP.out (by omega)
          have g9 : decide (0 < k) = true := by simp; omega
          have i6 : decide (j ≤ j') = false := by simp; omega
          have hk1 : k - 1 < M.length := by omega
          obtain ⟨b6, o6, e6, d3⟩ := (v3.out.below hbw.out).cellAt hk1
          cases e6
          rw [h2] at d3
          have i7 : (0 : Int) ≤ (k : Int) - 1 := by omega
          have i8 : (k : Int) - 1 < M.length := by omega
          have i9 : ((k : Int) - 1).toNat = k - 1 := by omega
          have j1 : IntKind.i64.wrap ((k : Int) - 1) = (k : Int) - 1 := IntWalk.i64_in _ (by omega)
          clear HKP hk0 h2 h3 hk1
          go_big_quiet (fail)
          go_wp2_with fail
          go_meet
          exact ⟨rfl, _, rfl⟩
      case rest =>
        obtain ⟨rfl, nn, rfl⟩ := hcut
        clear HKP i5 g8
        obtain ⟨x1, x2⟩ := hx5
        go_wp2_with fail
        go_big_quiet ((go_at_call 42; exact (lazy_same _ _ _ _ (by omega) (by omega) (by omega) (by omega)).mono fun _ _ ⟨h1, h2⟩ => ⟨h1, _, h2⟩))
        go_wp2_with fail
        go_big_quiet ((go_at_call 42; exact (lazy_same _ _ _ _ (by omega) (by omega) (by omega) (by omega)).mono fun _ _ ⟨h1, h2⟩ => ⟨h1, _, h2⟩))
        generalize hwq : World.drewN _ nq = wq
        have hbq : Below w3.heap.size w3 wq := by rw [← hwq]; exact Bl.drewN (Bl.drewN (Bl.drewN hbw.out _) _) _
        have hoq : wq.ownsRow w3.heap.size 3 1 u16 k (((memV b xs).take k).map (Value.int .i64)) := by rw [← hwq]; exact ownsRow_drewN (ownsRow_drewN (ownsRow_drewN HO.out _) _) _
        have e4 : wq.cell? ⟨b3, o3 + k, none⟩ = some (.int .i64 (j : Int)) := by rw [← hwq]; exact d1
        have e5 : wq.cell? ⟨b5, o5 + j, none⟩ = some (.int .i64 x) := by rw [← hwq]; exact d2
        have hz := hbq.size
        clear hwq d1 d2 p0 p1 p2 p3 p4
        go_wp2_with (at_builtin; refine wpList_append_own _ rfl _ _ 26 rfl w3.heap.size 3 i0 (.int .i64 0) 1 8 Try.underlying26 hi hz0 hz1 hz2 rfl (by decide) _ _ _ rfl (hoq.alloc _) ⟨wq.heap.size, 0, none⟩ 1 1 [.int .i64 x] rfl rfl (cell_one_new _ _ _) (by simp [Value.oneCell']) (by simp [maxLen]; omega) (by omega) (by simp; omega) ?_; intro v' w4 hown' hgrow _)
        have hb4 : Below w3.heap.size w3 w4 := own_grow (Bl.alloc hbq _) (Nat.le_refl _) (fun k hk => (hoq.lt k hk).1) hgrow
        clear e4 e5 hoq hbq hgrow
        go_roundw
        case rel => exact ⟨k + 1, by omega, by go_num, by rw [HRF.out], by rw [HRG.out], hid hb4, by rw [HT.out]; exact hid (by simpa using hown')⟩
        case measure => simp [intOf]; omega
    · have hkM : k = M.length := by omega
      subst hkM
      have eT : (memV b xs).take M.length = memV b xs := List.take_of_length_le (by omega)
      rw [eT] at HO ⊢
      have HI : Hid (Ints wr u16 (memV b xs)) := hid (ints_of_own (by rw [hVl]; exact HO.out))
      have hA : Hid (runF b f (memV b xs) = runF b f xs) := by rw [hQ.out]; exact hid (run_rem hb0 xs f)
      have hne : memV b xs ≠ [] := fun e => by rw [e] at hVl; simp at hVl; omega
      have hlm := loI_mem _ hne
      have hl1 := HVb.out _ hlm.1
      have hl2 := HVb.out _ hlm.2
      have hl3 := loI_le_hiI _ hne
      have hfar : Hid (2 * b ≤ hiI (memV b xs) - loI (memV b xs) → runF b g (memV b xs) = runF b f (memV b xs)) := hid fun h => run_far hb0 hne h _ _
      have hsl : (shownL b f xs).length = xs.length := shownL_len _ _ _
      have hs1 : (shownL b f xs).length - 1 < (shownL b f xs).length := by omega
      have hE2 : (shownL b f xs)[(shownL b f xs).length - 1]? = some (runF b f xs) := by rw [← List.getLast?_eq_getElem?]; exact hE.out
      rw [List.getElem?_eq_getElem hs1] at hE2
      have HP := hid (P3.out.next hbw.out)
      have HB := hid (Bl.call B3.out hbw.out)
      have HL := hid (v2'.out.below hbw.out)
      clear hlm hne eT HO hE hQ HVb HIn HUp hml P3 B3 v2' v3 c3'
      rw [hA.out] at hfar ⊢
      clear hA
      generalize loI (memV b xs) = lo at *
      generalize hiI (memV b xs) = hi' at *
      generalize runF b g (memV b xs) = far at *
      generalize runF b f xs = at1 at *
      generalize shownL b f xs = S at *
      generalize memL b (memV b xs) = M2 at *
      have i1 : (0 : Int) ≤ (S.length : Int) - 1 := by omega
      have i2 : (S.length : Int) - 1 < S.length := by omega
      have i3 : ((S.length : Int) - 1).toNat = S.length - 1 := by omega
      have i4 : IntKind.i64.wrap ((S.length : Int) - 1) = (S.length : Int) - 1 := IntWalk.i64_in _ (by omega)
      have hs4 : S.length ≤ 401 := by omega
      clear hsl
      obtain ⟨a6, c6, rfl, hm6⟩ := HI.out.shape
      have hAg2 := int_ne_false HAg.out
      clear HAg HX hVl
      obtain ⟨q0, q1, q2, q3, q4⟩ := HP.out
      go_wp2_with fail
      refine (memory_g _ _ _ _ _ (memV b xs) _ HI.out _ _ HF2).mono ?_
      rintro e w4 ⟨a4, c4, rfl, v4, hb⟩
      clear q0 q1 q2 q3 q4
      have HP4 := hid (HP.out.next hb)
      have HB4 := hid (Bl.call HB.out hb)
      have HL4 := hid (HL.out.below hb)
      have HI4 := hid (HI.out.below hb)
      clear hb HP HB HL HI
      go_wp2_with fail
      refine (Swing_g _ (memV b xs) _ HI4.out _ _ _ HF3).mono ?_
      rintro e w5 ⟨rfl, hb⟩
      have HP5 := hid (HP4.out.next hb)
      have HB5 := hid (Bl.call HB4.out hb)
      have HL5 := hid (HL4.out.below hb)
      clear hb HP4 HB4 HL4 HI4
      obtain ⟨q0, q1, q2, q3, q4⟩ := HP5.out
      obtain ⟨b7, o7, rfl, c7⟩ := HL5.out.cellAt hs1
      rw [Option.some.inj hE2] at c7
      have n1 : b7 < w5.heap.size := World.block_lt_of_cell? _ _ c7
      clear hE2 HL5
      by_cases hsw : hi' - lo < 2 * b
      · have h1 : decide (hi' - lo < 2 * b) = true := by simpa using hsw
        clear hsw hfar
        go_wp2_with fail
        go_ret
        exact ⟨rfl, Bl.alloc HB5.out _⟩
      · have h1 : decide (hi' - lo < 2 * b) = false := by simpa using hsw
        have h2 : far = at1 := hfar.out (by omega)
        subst h2
        clear hsw hfar
        go_wp2_with fail
        go_ret
        exact ⟨rfl, Bl.alloc HB5.out _⟩
end Go.Proofs.Ytdopgaljbpjpcaa
