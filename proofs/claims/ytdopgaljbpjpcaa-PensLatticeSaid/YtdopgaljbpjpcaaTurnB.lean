/- The iterator of pens.turns. -/
import Derived.Test.YtdopgaljbpjpcaaTurnA
import Derived.Sort.QuietIn
import Derived.Test.YtdopgaljbpjpcaaFront
namespace Go.Proofs.Ytdopgaljbpjpcaa
open Go.RowKit
attribute [local go_sem] Oper.semAt_some

theorem pays105 (a : Option Addr) (c : Nat) (xs : List Int) (k B C : Nat) (w : World) (hv : Ints w (.slice a xs.length c) xs) (hk : k < xs.length)
    (h1 : w.cell? ⟨B, 0, none⟩ = some (.slice a xs.length c)) (h2 : w.cell? ⟨C, 0, none⟩ = some (.int .i64 k)) :
    Pays 105 #[.pointer (some ⟨B, 0, none⟩), .pointer (some ⟨C, 0, none⟩)] (fun n => n != xs.getD k 0) w := by
  intro W x hb
  refine (turns11_any a c xs k B C x W (hv.below hb) hk ((hb.cell (World.block_lt_of_cell? w _ h1)).trans h1) ((hb.cell (World.block_lt_of_cell? w _ h2)).trans h2)).mono ?_
  rintro e w' ⟨rfl, rfl⟩
  exact ⟨rfl, Below.refl _ _⟩
theorem Ints.keep {w w' : World} {b o n c : Nat} {xs : List Int} (h : Ints w (.slice (some ⟨b, o, none⟩) n c) xs) (hb : w'.heap[b]? = w.heap[b]?) : Ints w' (.slice (some ⟨b, o, none⟩) n c) xs := by
  obtain ⟨a', c', e, h1, h2, h3⟩ := h
  simp only [Value.slice.injEq] at e
  obtain ⟨rfl, rfl, rfl⟩ := e
  refine ⟨_, _, rfl, h1, h2, fun h0 => ?_⟩
  obtain ⟨b', o', e, h4⟩ := h3 h0
  cases e
  exact ⟨b, o, rfl, fun k hk => (World.cell?_of_block (w := w) (a := ⟨b, o + k, none⟩) hb).trans (h4 k hk)⟩
def encI (x : Int) : Array Value := #[.int .i64 x]

set_option maxRecDepth 100000 in
set_option maxHeartbeats 16000000 in
theorem turns1_in (xs : List Int) (a : Option Addr) (c : Nat) (n : Nat) (Bc : Nat) (Rd : Nat → Prop) (w : World) (h0 : 0 < xs.length) (hn5 : xs.length ≤ 500)
    (hv : Ints w (.slice a xs.length c) xs) (cl : w.cell? ⟨Bc, 0, none⟩ = some (.slice a xs.length c))
    (hRd : Rd Bc ∧ ∀ b o, a = some ⟨b, o, none⟩ → Rd b) (hRw : ∀ k, Rd k → k < w.heap.size) :
    SeqOwn Try.prog n 103 #[.pointer (some ⟨Bc, 0, none⟩)] encI Rd (fun ys => ys = turnsL xs) xs.length w := by
  intro l J W hW hJ hY hj0
  have HV := hid (hv.below hW)
  obtain ⟨ba, oa, rfl, hc⟩ := hv.cellAt h0
  have cl' := (hW.cell (World.block_lt_of_cell? w _ cl)).trans cl
  have hla : ba < W.heap.size := by have := World.block_lt_of_cell? w _ hc; have := hW.size; dsimp only at *; omega
  have hlb : Bc < W.heap.size := World.block_lt_of_cell? W _ cl'
  refine callsIn_of_wp Try.func103 rfl trivial ?_ rfl
  simp only [Try.ntmps103, List.size_toArray, List.length_cons, List.length_nil, Nat.reduceAdd, Nat.reduceSub, Array.replicate_succ, Array.replicate_zero, List.push_toArray, List.append_toArray, List.nil_append, List.cons_append]
  have HJ := hid hJ; clear hJ
  have HY := hid hY; clear hY
  have HRD := hid hRd; have HRW := hid hRw; clear hRd hRw hc hv cl
  have hcap : xs.length ≤ c ∧ c ≤ 9223372036854775807 := by
    obtain ⟨_, _, e, h1, h2, _⟩ := HV.out
    simp only [Value.slice.injEq] at e
    unfold maxLen at h2
    omega
  have hfn : ∀ k, Fence.wide.fn k := fun _ => trivial
  have hdp : ¬ (Fence.wide.depth.isSome = true) := by simp [Fence.wide]
  gi_wp2
  gi_loopw [3] (fun p wr => ∃ (k B : Nat) (own : Nat → Prop) (pre : List Int), p = .pointer (some ⟨B, 0, none⟩) ∧ 1 ≤ k ∧ k ≤ xs.length ∧ pre = turnsTo xs k ∧ J own pre wr ∧ own B ∧ Hid (∀ j, own j → ¬ Rd j) ∧
      wr.cell? ⟨B, 0, none⟩ = some (.int .i64 k) ∧ wr.frozen? ⟨B, 0, none⟩ = false ∧ W.heap.size ≤ B ∧ B < wr.heap.size ∧ Hid (∀ k, Rd k → wr.heap[k]? = W.heap[k]?))
    (fun p wr => xs.length - (match p with | .pointer (some q) => (match wr.cell? q with | some (.int .i64 i) => i.toNat | _ => 0) | _ => 0))
  case atStart =>
    have hbs : Below W.heap.size W (W.alloc (.cells #[.int .i64 1] 3)) := Bl.alloc (Below.refl _ _) _
    refine ⟨1, W.heap.size, (fun j => j = W.heap.size), [], rfl, by omega, by omega, (turnsTo_one xs).symm, HJ.out _ _ _ W _ hj0 (Turns.of_below hbs) (fun j hj => .inr ⟨by omega, by rw [hj]; simp⟩), rfl, ?_, cell_last rfl, frozen_last W _ 3 0, by omega, by simp, ?_⟩
    · intro j hj hr
      have h1 := HRW.out j hr; have h2 := hW.size; omega
    · intro j hj
      have h1 := HRW.out j hj; have h2 := hW.size
      exact hbs.block j (by omega)
  case round =>
    obtain ⟨k, B, own, pre, rfl, hk1, hk, hpre, hJr, hown, HOWN, hcB, hfB, hB1, hB2, HR⟩ := hrel
    have clr := (World.cell?_of_block (w := W) (w' := wr) (a := ⟨Bc, 0, none⟩) (HR.out Bc HRD.out.1)).trans cl'
    have HVr := hid (HV.out.keep (HR.out ba (HRD.out.2 _ _ rfl)))
    have hlbr : Bc < wr.heap.size := by omega
    have HJr := hid hJr; clear hJr
    have HPRE := hid hpre; clear hpre
    by_cases hlt : k < xs.length
    · have i1 : (k : Int) ≤ xs.length := by omega
      have i2 : (k : Int) < xs.length := by omega
      have hkp : k - 1 < xs.length := by omega
      have hcall : ∃ m : Int, Hid (nextI xs k = m) ∧ Calls Try.prog 104 #[.slice (some ⟨ba, oa + k, none⟩) (xs.length - k) (c - k), .func (.func 105) #[] #[.pointer (some ⟨Bc, 0, none⟩), .pointer (some ⟨B, 0, none⟩)]] wr fun e w' => e = .returned (.int .i64 m) ∧ Below wr.heap.size wr w' :=
        ⟨nextI xs k, hid rfl, indexFunc_any _ (xs.drop k) 105 _ (fun n => n != xs.getD k 0) wr (HVr.out.drop hlt) (enters_of Try.func105 (by kernel_rfl) rfl) (pays105 _ c xs k Bc B wr HVr.out hlt clr hcB)⟩
      obtain ⟨m, HM, hcall⟩ := hcall
      have gk : Hid (xs.getD k 0 = xs[k]) := hid (by simp [List.getD_eq_getElem?_getD, hlt])
      have gp : Hid (xs.getD (k - 1) 0 = xs[k - 1]) := hid (by simp [List.getD_eq_getElem?_getD, hkp])
      gi_wp2_with fail
      refine (callsIn_wide.2 hcall).mono ?_
      rintro e w4 ⟨rfl, hb4⟩
      have clr4 := (hb4.cell (p := ⟨Bc, 0, none⟩) hlbr).trans clr
      have hcB4 := (hb4.cell (p := ⟨B, 0, none⟩) hB2).trans hcB
      have HV4 := hid (HVr.out.below hb4)
      obtain ⟨b1, o1, e, cxk⟩ := HV4.out.cellAt hlt
      cases e
      obtain ⟨b1, o1, e, cxp⟩ := HV4.out.cellAt hkp
      cases e
      have f1 : (0 : Int) ≤ (k : Int) - 1 := by omega
      have f2 : (k : Int) - 1 < xs.length := by omega
      have f3 : ((k : Int) - 1).toNat = k - 1 := by omega
      have f4 : IntKind.i64.wrap ((k : Int) - 1) = (k : Int) - 1 := IntWalk.i64_in _ (by omega)
      have hz4 := hb4.size
      clear clr hcall
      by_cases hA : xs[k] = xs[k - 1]
      · have g1 : (xs[k] != xs[k - 1]) = false := by simp [hA]
        have g1' : (xs[k] == xs[k - 1]) = true := by simp [hA]
        have HK : Hid (turnB xs k = false) := hid (by unfold turnB; rw [gk.out, gp.out, g1]; simp)
        clear hA
        gi_wp2_with fail
        gi_quiet (fail)
        clear f1 f2 f3 f4 cxk cxp
        generalize hwq : World.drewN _ nq = wq
        have hbq : Below wr.heap.size wr wq := by rw [← hwq]; exact Bl.drewN hb4 _
        have hcBq : wq.cell? ⟨B, 0, none⟩ = some (.int .i64 k) := by rw [← hwq]; exact hcB4
        have hBq : B < wq.heap.size := by have := hbq.size; omega
        clear hwq clr4 hcB4 hz4
        gi_wp2_with fail
        go_roundw
        case rel =>
          have hbe : Below wr.heap.size wr (wq.alloc (.cells #[.int .i64 ((k : Int) + 1)] 3)) := Bl.alloc hbq _
          have hze := hbq.size
          refine ⟨k + 1, wq.heap.size, (fun j => own j ∨ j = wq.heap.size), pre, rfl, by omega, by omega, by rw [turnsTo_no HK.out]; exact HPRE.out, HJ.out own _ _ wr _ HJr.out (Turns.of_below hbe) (fun j hj => hj.elim .inl (fun e => .inr ⟨by omega, by rw [e]; simp⟩)), .inr rfl, ?_, cell_last rfl, frozen_last wq _ 3 0, by omega, by simp, ?_⟩
          · intro j hj hr
            rcases hj with h | h
            · exact HOWN.out j h hr
            · have h1 := HRW.out j hr; have h2 := hW.size; omega
          · intro j hj
            have h1 := HRW.out j hj; have h2 := hW.size
            exact (hbe.block j (by omega)).trans (HR.out j hj)
        case measure => simp [hcB]; omega
      · have g1 : (xs[k] != xs[k - 1]) = true := by simp [hA]
        have g1' : (xs[k] == xs[k - 1]) = false := by simp [hA]
        by_cases hm : m < 0
        · have g2 : decide (0 ≤ m) = false := by simp; omega
          have HK : Hid (turnB xs k = false) := hid (by unfold turnB; rw [HM.out, g2]; simp)
          clear hA hm
          gi_wp2_with fail
          gi_quiet (fail)
          clear f1 f2 f3 f4 cxk cxp
          generalize hwq : World.drewN _ nq = wq
          have hbq : Below wr.heap.size wr wq := by rw [← hwq]; exact Bl.drewN hb4 _
          have hcBq : wq.cell? ⟨B, 0, none⟩ = some (.int .i64 k) := by rw [← hwq]; exact hcB4
          have hBq : B < wq.heap.size := by have := hbq.size; omega
          clear hwq clr4 hcB4 hz4
          gi_wp2_with fail
          go_roundw
          case rel =>
            have hbe : Below wr.heap.size wr (wq.alloc (.cells #[.int .i64 ((k : Int) + 1)] 3)) := Bl.alloc hbq _
            have hze := hbq.size
            refine ⟨k + 1, wq.heap.size, (fun j => own j ∨ j = wq.heap.size), pre, rfl, by omega, by omega, by rw [turnsTo_no HK.out]; exact HPRE.out, HJ.out own _ _ wr _ HJr.out (Turns.of_below hbe) (fun j hj => hj.elim .inl (fun e => .inr ⟨by omega, by rw [e]; simp⟩)), .inr rfl, ?_, cell_last rfl, frozen_last wq _ 3 0, by omega, by simp, ?_⟩
            · intro j hj hr
              rcases hj with h | h
              · exact HOWN.out j h hr
              · have h1 := HRW.out j hr; have h2 := hW.size; omega
            · intro j hj
              have h1 := HRW.out j hj; have h2 := hW.size
              exact (hbe.block j (by omega)).trans (HR.out j hj)
          case measure => simp [hcB]; omega
        · obtain ⟨kk, rfl⟩ : ∃ kk : Nat, m = kk := ⟨m.toNat, by omega⟩
          have hkk : k + kk < xs.length := by
            have := nextI_bd xs k hlt (by rw [HM.out]; omega)
            rw [HM.out] at this; simpa using this
          obtain ⟨b1, o1, e, cxq⟩ := HV4.out.cellAt hkk
          cases e
          have gq : Hid (xs.getD (k + kk) 0 = xs[k + kk]) := hid (by simp [List.getD_eq_getElem?_getD, hkk])
          have f5 : IntKind.i64.wrap ((k : Int) + kk) = (k : Int) + kk := IntWalk.i64_in _ (by omega)
          have f6 : (0 : Int) ≤ (k : Int) + kk := by omega
          have f7 : (k : Int) + kk < xs.length := by omega
          have f8 : ((k : Int) + kk).toNat = k + kk := by omega
          have g5 : decide (1 ≤ k) = true := by simpa using hk1
          have g6 : decide (0 ≤ (kk : Int)) = true := by simp
          have HKT : Hid (turnB xs k = (decide (xs[k] < xs[k + kk]) == decide (xs[k] < xs[k - 1]))) := hid (by unfold turnB; simp only [HM.out, gk.out, gp.out, g1, Int.toNat_natCast, gq.out, g5, g6, Bool.true_and])
          clear g5 g6
          by_cases hC : xs[k] < xs[k + kk]
          · have g3 : decide (xs[k] < xs[k + kk]) = true := by simpa using hC
            by_cases hD : xs[k] < xs[k - 1]
            · have g4 : decide (xs[k] < xs[k - 1]) = true := by simpa using hD
              have HK : Hid (turnB xs k = true) := hid (by rw [HKT.out, g3, g4]; rfl)
              clear hA hm hC hD
              gi_wp2_with fail
              refine wpIn_region_front (l1 := [_, _, _, _, _, _, _, _, _, _, _, _, _, _, _, _, _, _, _, _, _, _, _, _, _, _, _, _, _, _, _, _, _, _, _, _, _, _, _, _, _]) (l2 := [_, _, _]) rfl (by kernel_rfl) (by kernel_rfl) (by kernel_rfl) ?_
              dsimp only [List.cons_append, List.nil_append, List.length_cons, List.length_nil, Nat.reduceAdd]
              repeat (gi_big_quiet_step (fail))
              refine wpQuietIn_nil ?_
              rintro _ ⟨nq, rfl⟩
              generalize hwq : World.drewN _ nq = wq
              have hbq : Below wr.heap.size wr wq := by rw [← hwq]; exact Bl.drewN hb4 _
              have hcBq : wq.cell? ⟨B, 0, none⟩ = some (.int .i64 k) := by rw [← hwq]; exact hcB4
              clear hwq clr4 hcB4 hz4 f1 f2 f3 f4 f5 f6 f7 f8 cxk cxp cxq
              obtain ⟨fn, tmps, assign, body, hy, hR⟩ := HY.out own pre k wq (HJ.out own own pre wr _ HJr.out (Turns.of_below hbq) (fun _ h => .inl h)) (by rw [HPRE.out]; have := turnsTo_le xs k; omega)
              dsimp only [encI] at hy
              refine wpAnyIn_one (i := 41) (by kernel_rfl) rfl (by rfl) ?_
              intro K' hK'
              gi_wp2_with fail
              refine hR.mono ?_
              rintro e W3 ⟨rfl, hJ3, hs3, hk3⟩
              refine hK' _ _ ?_
              clear hK' K'
              refine wpAnyIn_one (i := 42) (by kernel_rfl) rfl (by rfl) ?_
              intro K' hK'
              gi_wp2_with fail
              refine wpAnyIn_one (i := 43) (by kernel_rfl) rfl (by rfl) ?_
              intro K' hK'
              gi_wp2_with fail
              refine ⟨by kernel_rfl, ?_⟩
              have hcB3 : W3.cell? ⟨B, 0, none⟩ = some (.int .i64 k) := (World.cell?_of_block (w := wq) (a := ⟨B, 0, none⟩) (hk3 B (.inr hown))).trans hcBq
              have hqs := hbq.size
              have hB3 : B < W3.heap.size := by omega
              have HK3 := hid hk3
              have HJ3 := hid hJ3
              clear hk3 hJ3 hcBq hR hy
              gi_wp2_with fail
              go_roundw
              case rel =>
                have hbe : Below W3.heap.size W3 (W3.alloc (.cells #[.int .i64 ((k : Int) + 1)] 3)) := Bl.alloc (Below.refl _ _) _
                refine ⟨k + 1, W3.heap.size, (fun j => own j ∨ j = W3.heap.size), pre ++ [(k : Int)], rfl, by omega, by omega, by rw [turnsTo_yes HK.out, HPRE.out], HJ.out own _ _ W3 _ HJ3.out (Turns.of_below hbe) (fun j hj => hj.elim .inl (fun e => .inr ⟨by omega, by rw [e]; simp⟩)), .inr rfl, ?_, cell_last rfl, frozen_last W3 _ 3 0, by omega, by simp, ?_⟩
                · intro j hj hr
                  rcases hj with h | h
                  · exact HOWN.out j h hr
                  · have h1 := HRW.out j hr; have h2 := hW.size; omega
                · intro j hj
                  have h1 := HRW.out j hj; have h2 := hW.size
                  exact (hbe.block j (by omega)).trans ((HK3.out j (.inl hj)).trans ((hbq.block j (by omega)).trans (HR.out j hj)))
              case measure => simp [hcB]; omega
            · have g4 : decide (xs[k] < xs[k - 1]) = false := by simpa using hD
              have HK : Hid (turnB xs k = false) := hid (by rw [HKT.out, g3, g4]; rfl)
              clear hA hm hC hD
              gi_wp2_with fail
              gi_quiet (fail)
              clear f1 f2 f3 f4 f5 f6 f7 f8 cxk cxp cxq
              generalize hwq : World.drewN _ nq = wq
              have hbq : Below wr.heap.size wr wq := by rw [← hwq]; exact Bl.drewN hb4 _
              have hcBq : wq.cell? ⟨B, 0, none⟩ = some (.int .i64 k) := by rw [← hwq]; exact hcB4
              have hBq : B < wq.heap.size := by have := hbq.size; omega
              clear hwq clr4 hcB4 hz4
              gi_wp2_with fail
              go_roundw
              case rel =>
                have hbe : Below wr.heap.size wr (wq.alloc (.cells #[.int .i64 ((k : Int) + 1)] 3)) := Bl.alloc hbq _
                have hze := hbq.size
                refine ⟨k + 1, wq.heap.size, (fun j => own j ∨ j = wq.heap.size), pre, rfl, by omega, by omega, by rw [turnsTo_no HK.out]; exact HPRE.out, HJ.out own _ _ wr _ HJr.out (Turns.of_below hbe) (fun j hj => hj.elim .inl (fun e => .inr ⟨by omega, by rw [e]; simp⟩)), .inr rfl, ?_, cell_last rfl, frozen_last wq _ 3 0, by omega, by simp, ?_⟩
                · intro j hj hr
                  rcases hj with h | h
                  · exact HOWN.out j h hr
                  · have h1 := HRW.out j hr; have h2 := hW.size; omega
                · intro j hj
                  have h1 := HRW.out j hj; have h2 := hW.size
                  exact (hbe.block j (by omega)).trans (HR.out j hj)
              case measure => simp [hcB]; omega
          · have g3 : decide (xs[k] < xs[k + kk]) = false := by simpa using hC
            by_cases hD : xs[k] < xs[k - 1]
            · have g4 : decide (xs[k] < xs[k - 1]) = true := by simpa using hD
              have HK : Hid (turnB xs k = false) := hid (by rw [HKT.out, g3, g4]; rfl)
              clear hA hm hC hD
              gi_wp2_with fail
              gi_quiet (fail)
              clear f1 f2 f3 f4 f5 f6 f7 f8 cxk cxp cxq
              generalize hwq : World.drewN _ nq = wq
              have hbq : Below wr.heap.size wr wq := by rw [← hwq]; exact Bl.drewN hb4 _
              have hcBq : wq.cell? ⟨B, 0, none⟩ = some (.int .i64 k) := by rw [← hwq]; exact hcB4
              have hBq : B < wq.heap.size := by have := hbq.size; omega
              clear hwq clr4 hcB4 hz4
              gi_wp2_with fail
              go_roundw
              case rel =>
                have hbe : Below wr.heap.size wr (wq.alloc (.cells #[.int .i64 ((k : Int) + 1)] 3)) := Bl.alloc hbq _
                have hze := hbq.size
                refine ⟨k + 1, wq.heap.size, (fun j => own j ∨ j = wq.heap.size), pre, rfl, by omega, by omega, by rw [turnsTo_no HK.out]; exact HPRE.out, HJ.out own _ _ wr _ HJr.out (Turns.of_below hbe) (fun j hj => hj.elim .inl (fun e => .inr ⟨by omega, by rw [e]; simp⟩)), .inr rfl, ?_, cell_last rfl, frozen_last wq _ 3 0, by omega, by simp, ?_⟩
                · intro j hj hr
                  rcases hj with h | h
                  · exact HOWN.out j h hr
                  · have h1 := HRW.out j hr; have h2 := hW.size; omega
                · intro j hj
                  have h1 := HRW.out j hj; have h2 := hW.size
                  exact (hbe.block j (by omega)).trans (HR.out j hj)
              case measure => simp [hcB]; omega
            · have g4 : decide (xs[k] < xs[k - 1]) = false := by simpa using hD
              have HK : Hid (turnB xs k = true) := hid (by rw [HKT.out, g3, g4]; rfl)
              clear hA hm hC hD
              gi_wp2_with fail
              refine wpIn_region_front (l1 := [_, _, _, _, _, _, _, _, _, _, _, _, _, _, _, _, _, _, _, _, _, _, _, _, _, _, _, _, _, _, _, _, _, _, _, _, _, _, _, _, _]) (l2 := [_, _, _]) rfl (by kernel_rfl) (by kernel_rfl) (by kernel_rfl) ?_
              dsimp only [List.cons_append, List.nil_append, List.length_cons, List.length_nil, Nat.reduceAdd]
              repeat (gi_big_quiet_step (fail))
              refine wpQuietIn_nil ?_
              rintro _ ⟨nq, rfl⟩
              generalize hwq : World.drewN _ nq = wq
              have hbq : Below wr.heap.size wr wq := by rw [← hwq]; exact Bl.drewN hb4 _
              have hcBq : wq.cell? ⟨B, 0, none⟩ = some (.int .i64 k) := by rw [← hwq]; exact hcB4
              clear hwq clr4 hcB4 hz4 f1 f2 f3 f4 f5 f6 f7 f8 cxk cxp cxq
              obtain ⟨fn, tmps, assign, body, hy, hR⟩ := HY.out own pre k wq (HJ.out own own pre wr _ HJr.out (Turns.of_below hbq) (fun _ h => .inl h)) (by rw [HPRE.out]; have := turnsTo_le xs k; omega)
              dsimp only [encI] at hy
              refine wpAnyIn_one (i := 41) (by kernel_rfl) rfl (by rfl) ?_
              intro K' hK'
              gi_wp2_with fail
              refine hR.mono ?_
              rintro e W3 ⟨rfl, hJ3, hs3, hk3⟩
              refine hK' _ _ ?_
              clear hK' K'
              refine wpAnyIn_one (i := 42) (by kernel_rfl) rfl (by rfl) ?_
              intro K' hK'
              gi_wp2_with fail
              refine wpAnyIn_one (i := 43) (by kernel_rfl) rfl (by rfl) ?_
              intro K' hK'
              gi_wp2_with fail
              refine ⟨by kernel_rfl, ?_⟩
              have hcB3 : W3.cell? ⟨B, 0, none⟩ = some (.int .i64 k) := (World.cell?_of_block (w := wq) (a := ⟨B, 0, none⟩) (hk3 B (.inr hown))).trans hcBq
              have hqs := hbq.size
              have hB3 : B < W3.heap.size := by omega
              have HK3 := hid hk3
              have HJ3 := hid hJ3
              clear hk3 hJ3 hcBq hR hy
              gi_wp2_with fail
              go_roundw
              case rel =>
                have hbe : Below W3.heap.size W3 (W3.alloc (.cells #[.int .i64 ((k : Int) + 1)] 3)) := Bl.alloc (Below.refl _ _) _
                refine ⟨k + 1, W3.heap.size, (fun j => own j ∨ j = W3.heap.size), pre ++ [(k : Int)], rfl, by omega, by omega, by rw [turnsTo_yes HK.out, HPRE.out], HJ.out own _ _ W3 _ HJ3.out (Turns.of_below hbe) (fun j hj => hj.elim .inl (fun e => .inr ⟨by omega, by rw [e]; simp⟩)), .inr rfl, ?_, cell_last rfl, frozen_last W3 _ 3 0, by omega, by simp, ?_⟩
                · intro j hj hr
                  rcases hj with h | h
                  · exact HOWN.out j h hr
                  · have h1 := HRW.out j hr; have h2 := hW.size; omega
                · intro j hj
                  have h1 := HRW.out j hj; have h2 := hW.size
                  exact (hbe.block j (by omega)).trans ((HK3.out j (.inl hj)).trans ((hbq.block j (by omega)).trans (HR.out j hj)))
              case measure => simp [hcB]; omega
    · gi_wp2_with fail
      go_end0
      refine ⟨⟨_, rfl⟩, own, pre, ?_, HJr.out⟩
      have e : k = xs.length := by omega
      rw [HPRE.out, e]; rfl
end Go.Proofs.Ytdopgaljbpjpcaa
