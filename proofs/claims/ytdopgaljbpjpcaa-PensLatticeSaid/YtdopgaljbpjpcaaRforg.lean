/- The specification's levels, checkShown, Forgets. -/
import Derived.Test.YtdopgaljbpjpcaaForg
namespace Go.Proofs.Ytdopgaljbpjpcaa
open Go.RowKit

theorem forgets_any (b l h r : Int) (v : Value) (xs : List Int) (w : World) (hv : Ints w v xs) :
    Calls Try.prog 21 #[.agg #[.int .i64 b, .int .i64 l, .int .i64 h, .int .i64 r], v] w (RetII (forgetsF b l h r xs) w) := by
  by_cases h0 : listedE b l h r xs = 0
  · obtain ⟨a, c, rfl, _⟩ := hv.shape
    exact forgets_ok b l h r a c xs w hv (hid h0)
  · have := forgets_bad b l h r v xs w hv (hid h0)
    rw [forgetsF, if_pos h0]; exact this

theorem rlevel_same (a : Int) (w : World) : Calls Try.prog 86 #[.int .i64 a] w fun e w' => e = .returned (.bool (lvl a)) ∧ w' = w :=
  (rlevel_any a w).mono fun _e _w' ⟨h1, h2⟩ => ⟨h1, h2.symm⟩
theorem rwithin_same (a b c : Int) (w : World) : Calls Try.prog 69 #[.int .i64 a, .int .i64 b, .int .i64 c] w fun e w' => e = .returned (.bool (withinB a b c)) ∧ w' = w :=
  (rwithin_any a b c w).mono fun _e _w' ⟨h1, h2⟩ => ⟨h1, h2.symm⟩
theorem lazy_same (b s n : Int) (w : World) (h1 : -1000000 ≤ n) (h2 : n ≤ 1000000) (h3 : 0 ≤ b) (h4 : b ≤ 1000000) :
    Calls Try.prog 42 #[.int .i64 b, .int .i64 s, .int .i64 n] w fun e w' => e = .returned (.int .i64 (lazyN b s n)) ∧ w' = w :=
  (lazy_any b s n w h1 h2 h3 h4).mono fun _e _w' ⟨h1, h2⟩ => ⟨h1, h2.symm⟩

set_option maxHeartbeats 400000 in
set_option maxRecDepth 20000 in
theorem rlevels_any (v : Value) (xs : List Int) (w : World) (hv : Ints w v xs) :
    Calls Try.prog 90 #[v] w fun e w' => e = .returned (.bool (listOk xs)) ∧ w = w' := by
  obtain ⟨a, c, rfl, hm⟩ := hv.shape
  go_enter Try.func90, Try.ntmps90
  go_wp2_with fail
  go_loop [3] (fun i => ∃ k : Nat, k ≤ xs.length ∧ i = .int .i64 k ∧ Hid (∀ j, (hj : j < xs.length) → j < k → lvl xs[j] = true)) (fun i => xs.length - (intOf i).toNat)
  case atStart => exact ⟨0, by omega, rfl, fun j _ hj => by omega⟩
  case round =>
    obtain ⟨k, hk, rfl, HN⟩ := hrel
    by_cases hlt : k < xs.length
    · obtain ⟨b, o, rfl, c1⟩ := hv.cellAt hlt
      cases hl : lvl xs[k]
      · have HF : Hid (listOk xs = false) := by
          show listOk xs = false
          unfold listOk
          rw [Bool.and_eq_false_iff]; right
          unfold lvls
          rw [List.all_eq_false]
          exact ⟨xs[k], List.getElem_mem _, by simp [hl]⟩
        have HL := hid hl; clear hl
        go_wp2_with (go_at_call 86; refine (rlevel_any _ _).mono ?_; rintro e w' ⟨rfl, rfl⟩; rw [HL.out])
        go_ret
        exact ⟨ret_bool HF.out.symm, rfl⟩
      · have HL := hid hl; clear hl
        go_wp2_with (go_at_call 86; refine (rlevel_any _ _).mono ?_; rintro e w' ⟨rfl, rfl⟩; rw [HL.out])
        go_round
        case rel =>
          refine ⟨k + 1, by omega, by go_num, fun j h1 hj => ?_⟩
          by_cases e : j = k
          · subst e; exact HL.out
          · exact HN.out j h1 (by omega)
        case measure => simp [intOf]; omega
    · have HF : Hid (withinB xs.length 1 401 = listOk xs) := by
        show withinB xs.length 1 401 = listOk xs
        have hall : lvls xs = true := by
          unfold lvls
          rw [List.all_eq_true]
          intro x hx
          obtain ⟨j, hj, rfl⟩ := List.getElem_of_mem hx
          exact HN.out j hj (by omega)
        unfold listOk withinB
        rw [hall, Bool.and_true, Bool.eq_iff_iff]
        simp; omega
      go_wp2_with (go_at_call 69; refine (rwithin_any _ _ _ _).mono ?_; rintro e w' ⟨rfl, rfl⟩)
      go_ret
      exact ⟨ret_bool HF.out, rfl⟩

set_option maxHeartbeats 400000 in
theorem rshown_any (b l h r : Int) (v : Value) (xs : List Int) (w : World) (hv : Ints w v xs) :
    Calls Try.prog 68 #[.agg #[.int .i64 b, .int .i64 l, .int .i64 h, .int .i64 r], v] w fun e w' => e = .returned (.int .i64 (listedE b l h r xs)) ∧ Below w.heap.size w w' := by
  cases hp : penOk b l h r
  · have HF : Hid (listedE b l h r xs = 30) := by simp [Hid, listedE, hp]
    have HP := hid hp; clear hp
    go_enter Try.func68, Try.ntmps68
    go_wp2_with (go_at_call 50; refine (rcheck_bad _ _ _ _ _ HP).mono ?_; rintro e w1 ⟨rfl, hb1⟩)
    go_ret
    exact ⟨ret_int HF.out.symm, Bl.call (Bl.alloc (Below.refl _ _) _) (by assumption)⟩
  · cases hl : listOk xs
    all_goals
      have HF : Hid (listedE b l h r xs = if listOk xs = true then 0 else 1) := by simp [Hid, listedE, hp, listE]
      have HL := hid hl
      have HP := hid hp; clear hp hl
      go_enter Try.func68, Try.ntmps68
      go_wp2_with (go_at_call 50; refine (rcheck_ok _ _ _ _ _ HP).mono ?_; rintro e w1 ⟨rfl, hb1⟩)
      refine (rlevels_any _ xs _ (Ints.below hv (Bl.call (Bl.alloc (Below.refl _ _) _) (by assumption)))).mono ?_
      rintro e w2 ⟨rfl, rfl⟩
      rw [HL.out]
      go_wp2
      go_ret
      exact ⟨ret_int (by rw [HF.out, HL.out]; rfl), Bl.call (Bl.alloc (Below.refl _ _) _) (by assumption)⟩

theorem rshown_ok (b l h r : Int) (v : Value) (xs : List Int) (w : World) (hv : Ints w v xs) (h0 : Hid (listedE b l h r xs = 0)) :
    Calls Try.prog 68 #[.agg #[.int .i64 b, .int .i64 l, .int .i64 h, .int .i64 r], v] w fun e w' => e = .returned (.int .i64 0) ∧ Below w.heap.size w w' :=
  (rshown_any b l h r v xs w hv).mono fun e w' ⟨h1, h2⟩ => ⟨by rw [h1, h0.out], h2⟩
set_option maxHeartbeats 400000 in
theorem rforgets_bad (b l h r : Int) (v : Value) (xs : List Int) (w : World) (hv : Ints w v xs) (hb : Hid (listedE b l h r xs ≠ 0)) :
    Calls Try.prog 22 #[.agg #[.int .i64 b, .int .i64 l, .int .i64 h, .int .i64 r], v] w (RetII (0, listedE b l h r xs) w) := by
  have hne : (listedE b l h r xs != 0) = true := by simpa [bne_iff_ne] using hb.out
  go_enter Try.func22, Try.ntmps22
  go_wp2_with fail
  refine (rshown_any _ _ _ _ _ xs _ (Ints.below hv (Bl.alloc (Below.refl _ _) _))).mono ?_
  rintro e w1 ⟨rfl, hb1⟩
  go_wp2_with fail
  go_ret2
  exact ⟨rfl, Bl.call (Bl.alloc (Below.refl _ _) _) (by assumption)⟩
theorem rwithin_at (a b c : Int) (t : Bool) (w : World) (h : Hid (withinB a b c = t)) : Calls Try.prog 69 #[.int .i64 a, .int .i64 b, .int .i64 c] w fun e w' => e = .returned (.bool t) ∧ w' = w :=
  (rwithin_any a b c w).mono fun e w' ⟨h1, h2⟩ => ⟨by rw [h1, h.out], h2.symm⟩
theorem within_apart (x y r : Int) : withinB (x - y) (-r) r = decide (apartN x y ≤ r) := by
  unfold withinB apartN; rw [Bool.eq_iff_iff]; simp; omega

set_option maxRecDepth 20000 in
set_option maxHeartbeats 2000000 in
theorem rforgets_ok (b l h r : Int) (a : Option Addr) (c : Nat) (xs : List Int) (w : World) (hv : Ints w (.slice a xs.length c) xs) (h0 : Hid (listedE b l h r xs = 0)) :
    Calls Try.prog 22 #[.agg #[.int .i64 b, .int .i64 l, .int .i64 h, .int .i64 r], .slice a xs.length c] w (RetII (forgetsF b l h r xs) w) := by
  have hlv : Hid (∀ x ∈ xs, -50000 ≤ x ∧ x ≤ 50000) := hid (listedE_lvl h0.out)
  obtain ⟨hn1, hn2⟩ := listedE_len h0.out
  have hpo := listedE_pen h0.out
  simp [penOk] at hpo
  obtain ⟨p1, p2, p3, p4, p5, p6, p7, p8⟩ := hpo
  clear p3 p4 p5 p6
  have p9 : b ≤ 1000000 := by omega
  have HH : Hid (xs.headD 0 = xs[0]'(by omega)) := by
    cases xs with
    | nil => simp at hn1
    | cons x t => rfl
  have hx0 : -50000 ≤ xs[0]'(by omega) ∧ xs[0]'(by omega) ≤ 50000 := hlv.out _ (List.getElem_mem _)
  obtain ⟨hx01, hx02⟩ := hx0
  go_enter Try.func22, Try.ntmps22
  go_wp2_with fail
  refine (rshown_ok _ _ _ _ _ xs _ (Ints.below hv (Bl.alloc (Below.refl _ _) _)) h0).mono ?_
  rintro e w1 ⟨rfl, hb1⟩
  have hB1 : Below w.heap.size w w1 := Bl.call (Bl.alloc (Below.refl _ _) _) hb1
  have q0 := box_cell hb1 (o := 0) rfl
  have q3 := box_cell hb1 (o := 3) rfl
  have hlt1 : w.heap.size < w1.heap.size := by have := hb1.size; simp at this; omega
  simp only [List.getElem_toArray, List.getElem_cons_zero, List.getElem_cons_succ] at q0 q3
  clear hb1
  obtain ⟨b0, o0, rfl, c0⟩ := (hv.below hB1).cellAt (k := 0) (by omega)
  have hv1 := hv.below hB1
  simp only [Nat.add_zero] at c0
  go_wp2_with fail
  go_loopw [7] (fun i wr => ∃ (k : Nat), 1 ≤ k ∧ k ≤ xs.length ∧ i = .int .i64 k ∧ Below w1.heap.size w1 wr ∧ Hid (∀ j, (hj : j + 1 < xs.length) → j + 1 < k → apartN xs[j + 1] xs[j] ≤ r))
    (fun i _ => xs.length - (intOf i).toNat)
  case atStart => exact ⟨1, by omega, by omega, rfl, Below.refl _ _, fun j _ hj => by omega⟩
  case round =>
    obtain ⟨k, hk1, hk, rfl, hb, HST⟩ := hrel
    have r0 := (hb.cell (p := ⟨w.heap.size, 0, none⟩) hlt1).trans q0
    have r3 := (hb.cell (p := ⟨w.heap.size, 3, none⟩) hlt1).trans q3
    by_cases hlt : k < xs.length
    · obtain ⟨bx, ox, e, cx⟩ := (hv1.below hb).cellAt hlt
      cases e
      have hxk : -50000 ≤ xs[k] ∧ xs[k] ≤ 50000 := hlv.out _ (List.getElem_mem _)
      obtain ⟨hxk1, hxk2⟩ := hxk
      have hkm : k - 1 < xs.length := by omega
      obtain ⟨by', oy, e, cy⟩ := (hv1.below hb).cellAt hkm
      cases e
      have hyk : -50000 ≤ xs[k - 1] ∧ xs[k - 1] ≤ 50000 := hlv.out _ (List.getElem_mem _)
      obtain ⟨hyk1, hyk2⟩ := hyk
      have e1 : (0 : Int) ≤ (k : Int) - 1 := by omega
      have e2 : (k : Int) - 1 < xs.length := by omega
      have e3 : ((k : Int) - 1).toNat = k - 1 := by omega
      have e4 : IntKind.i64.wrap ((k : Int) - 1) = (k : Int) - 1 := IntWalk.i64_in _ (by omega)
      have e5 : IntKind.i64.wrap (xs[k] - xs[k - 1]) = xs[k] - xs[k - 1] := IntWalk.i64_in _ (by omega)
      have e6 : (k : Int) < xs.length := by omega
      have HW := hid (within_apart xs[k] xs[k - 1] r)
      by_cases hap : apartN xs[k] xs[k - 1] ≤ r
      · have HS1 : Hid (∀ j, (hj : j + 1 < xs.length) → j + 1 < k + 1 → apartN xs[j + 1] xs[j] ≤ r) := fun j hj hj' => by
          by_cases e : j + 1 = k
          · have h1 : apartN (xs[j + 1]'hj) (xs[j]'(by omega)) = apartN (xs[k]'hlt) (xs[k - 1]'hkm) := by
              congr 1
              · congr 1
              · congr 1; omega
            rw [h1]; exact hap
          · exact HST.out j hj (by omega)
        have hw1 : Hid (withinB (xs[k] - xs[k - 1]) (-r) r = true) := by show withinB (xs[k] - xs[k - 1]) (-r) r = true; rw [HW.out]; simpa using hap
        clear hap
        go_wp2_with fail
        go_quiet ((go_at_call 69; exact Calls.quiet_of_same (rwithin_at (xs[k] - xs[k - 1]) (-r) r true _ hw1)))
        clear e1 e2 e3 e4 e5
        go_wp2_with fail
        go_roundw
        case rel => exact ⟨k + 1, by omega, by omega, by go_num, Bl.drewN hb _, HS1⟩
        case measure => simp [intOf]; omega
      · have HF : Hid (forgetsF b l h r xs = (0, 31)) := by
          show forgetsF b l h r xs = _
          unfold forgetsF
          rw [if_neg (by simp [h0.out]), if_neg]
          intro hs
          have := (steadyB_iff r xs).1 hs (k - 1) (by omega)
          apply hap
          have h1 : apartN (xs[k - 1 + 1]'(by omega)) (xs[k - 1]'hkm) = apartN (xs[k]'hlt) (xs[k - 1]'hkm) := by
            congr 1; congr 1; omega
          rw [← h1]; exact this
        have hw1 : Hid (withinB (xs[k] - xs[k - 1]) (-r) r = false) := by show withinB (xs[k] - xs[k - 1]) (-r) r = false; rw [HW.out]; simpa using hap
        clear hap
        go_wp2_with fail
        go_quiet ((go_at_call 69; exact Calls.quiet_of_same (rwithin_at (xs[k] - xs[k - 1]) (-r) r false _ hw1)))
        clear e1 e2 e3 e4 e5
        go_wp2_with fail
        go_ret2
        exact ⟨by rw [HF.out]; rfl, hB1.trans ((Bl.drewN hb _).mono hB1.size)⟩
    · have HSA : Hid (steadyB r xs = true) := (steadyB_iff r xs).2 fun j hj => HST.out j hj (by omega)
      obtain ⟨bx, ox, e, cx⟩ := (hv1.below hb).cellAt (k := 0) (by omega)
      cases e
      simp only [Nat.add_zero] at cx
      have f1 : IntKind.i64.wrap (xs[0] - b) = xs[0] - b := IntWalk.i64_in _ (by omega)
      have f2 : IntKind.i64.wrap (xs[0] + b) = xs[0] + b := IntWalk.i64_in _ (by omega)
      go_wp2_with fail
      go_quiet (fail)
      go_wp2_with fail
      go_quiet (fail)
      clear f1 f2
      generalize hwq : (wr.drewN _).drewN nq = wq
      have hbq : Below w1.heap.size w1 wq := by rw [← hwq]; exact Bl.drewN (Bl.drewN hb _) _
      clear hwq r0 r3 cx hb
      go_wp2_with fail
      go_loopw [8, 9, 10] (fun lo hi i wr => ∃ (k : Nat), k ≤ xs.length ∧ i = .int .i64 k ∧ lo = .int .i64 (runK b (xs[0] - b) (xs.take k)) ∧ hi = .int .i64 (runK b (xs[0] + b) (xs.take k)) ∧ Below w1.heap.size w1 wr ∧
          Hid (∀ j, j < k → meetB b xs (j + 1) = false))
        (fun _ _ i _ => xs.length - (intOf i).toNat)
      case atStart => exact ⟨0, by omega, rfl, rfl, rfl, hbq, fun j hj => by omega⟩
      case round =>
        obtain ⟨k, hk, rfl, rfl, rfl, hb, HO⟩ := hrel
        have r0 := (hb.cell (p := ⟨w.heap.size, 0, none⟩) hlt1).trans q0
        by_cases hlt : k < xs.length
        · obtain ⟨bx, ox, e, cx⟩ := (hv1.below hb).cellAt hlt
          cases e
          have hxk : -50000 ≤ xs[k] ∧ xs[k] ≤ 50000 := hlv.out _ (List.getElem_mem _)
          have hxk1 : -1000000 ≤ xs[k] := by omega
          have hxk2 : xs[k] ≤ 1000000 := by omega
          clear hxk
          have e1 : (0 : Int) ≤ (k : Int) := by omega
          have e2 : (k : Int) < xs.length := by omega
          have HM : Hid (meetB b xs (k + 1) = decide (lazyN b (runK b (xs[0] - b) (xs.take k)) xs[k] = lazyN b (runK b (xs[0] + b) (xs.take k)) xs[k])) := by
            show meetB b xs (k + 1) = _
            unfold meetB; rw [HH.out, runK_snoc _ _ _ _ hlt, runK_snoc _ _ _ _ hlt]
          go_wp2_with fail
          go_quiet ((go_at_call 42; exact Calls.quiet_of_same (lazy_same _ _ _ _ hxk1 hxk2 p1 p9)))
          generalize hwq : wr.drewN nq = wq
          have hbq : Below w1.heap.size w1 wq := by rw [← hwq]; exact Bl.drewN hb _
          clear hwq r0 cx
          have r0 := (hbq.cell (p := ⟨w.heap.size, 0, none⟩) hlt1).trans q0
          obtain ⟨bx, ox, e, cx⟩ := (hv1.below hbq).cellAt hlt
          cases e
          go_wp2_with fail
          go_quiet ((go_at_call 42; exact Calls.quiet_of_same (lazy_same _ _ _ _ hxk1 hxk2 p1 p9)))
          cases hm : meetB b xs (k + 1)
          · have hE : (lazyN b (runK b (xs[0] - b) (xs.take k)) xs[k] == lazyN b (runK b (xs[0] + b) (xs.take k)) xs[k]) = false := by
              rw [HM.out] at hm; simpa using hm
            have HF : Hid (∀ j, j < k + 1 → meetB b xs (j + 1) = false) := fun j hj => by
              by_cases e : j = k
              · subst e; exact hm
              · exact HO.out j (by omega)
            clear hm
            go_wp2_with fail
            go_roundw
            case rel => exact ⟨k + 1, by omega, by go_num, by rw [runK_snoc _ _ _ _ hlt], by rw [runK_snoc _ _ _ _ hlt], Bl.drewN hbq _, HF⟩
            case measure => simp [intOf]; omega
          · have hE : (lazyN b (runK b (xs[0] - b) (xs.take k)) xs[k] == lazyN b (runK b (xs[0] + b) (xs.take k)) xs[k]) = true := by
              rw [HM.out] at hm; simpa using hm
            have HF : Hid (forgetsF b l h r xs = ((k : Int), 0)) := by
              show forgetsF b l h r xs = _
              unfold forgetsF
              rw [if_neg (by simp [h0.out]), if_pos HSA.out, find_some hlt hm HO.out]
            clear hm
            go_wp2_with fail
            go_ret2
            exact ⟨by rw [HF.out]; rfl, hB1.trans ((Bl.drewN hbq _).mono hB1.size)⟩
        · have HF : Hid (forgetsF b l h r xs = (0, 3)) := by
            show forgetsF b l h r xs = _
            unfold forgetsF
            rw [if_neg (by simp [h0.out]), if_pos HSA.out, find_none (fun i hi => HO.out i (by omega))]
          go_wp2_with fail
          go_ret2
          exact ⟨by rw [HF.out]; rfl, hB1.trans (hb.mono hB1.size)⟩

theorem rforgets_any (b l h r : Int) (v : Value) (xs : List Int) (w : World) (hv : Ints w v xs) :
    Calls Try.prog 22 #[.agg #[.int .i64 b, .int .i64 l, .int .i64 h, .int .i64 r], v] w (RetII (forgetsF b l h r xs) w) := by
  by_cases h0 : listedE b l h r xs = 0
  · obtain ⟨a, c, rfl, _⟩ := hv.shape
    exact rforgets_ok b l h r a c xs w hv (hid h0)
  · have := rforgets_bad b l h r v xs w hv (hid h0)
    rw [forgetsF, if_pos h0]; exact this
end Go.Proofs.Ytdopgaljbpjpcaa
