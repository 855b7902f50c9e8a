/- pens.Forgets. -/
import Derived.Test.YtdopgaljbpjpcaaPairs
namespace Go.Proofs.Ytdopgaljbpjpcaa
open Go.RowKit

def steadyB (r : Int) : List Int → Bool
  | [] => true
  | [_] => true
  | x :: y :: t => decide (apartN y x ≤ r) && steadyB r (y :: t)
theorem steadyB_iff (r : Int) : ∀ (xs : List Int), steadyB r xs = true ↔ ∀ i, (h : i + 1 < xs.length) → apartN xs[i + 1] xs[i] ≤ r
  | [] => by simp [steadyB]
  | [x] => by simp [steadyB]
  | x :: y :: t => by
    simp only [steadyB, Bool.and_eq_true, decide_eq_true_eq, steadyB_iff r (y :: t)]
    constructor
    · rintro ⟨h1, h2⟩ i hi
      cases i with
      | zero => exact h1
      | succ i => exact h2 i (by simpa using hi)
    · intro h
      exact ⟨h 0 (by simp), fun i hi => h (i + 1) (by simpa using hi)⟩
def runK (b : Int) (s : Int) (xs : List Int) : Int := xs.foldl (fun a n => lazyN b a n) s
theorem runK_snoc (b s : Int) (xs : List Int) (k : Nat) (h : k < xs.length) : runK b s (xs.take (k + 1)) = lazyN b (runK b s (xs.take k)) xs[k] := by
  rw [List.take_succ_eq_append_getElem h]; unfold runK; rw [List.foldl_append]; rfl
/-- The two runs of a pen that begins as low, and as high, as may be, meet behind k numbers. -/
def meetB (b : Int) (xs : List Int) (k : Nat) : Bool := decide (runK b (xs.headD 0 - b) (xs.take k) = runK b (xs.headD 0 + b) (xs.take k))
def forgetsF (b l h r : Int) (xs : List Int) : Int × Int :=
  if listedE b l h r xs ≠ 0 then (0, listedE b l h r xs) else
  if steadyB r xs = true then (match (List.range xs.length).find? (fun j => meetB b xs (j + 1)) with | some j => (j, 0) | none => (0, 3)) else (0, 31)
theorem find_some {n : Nat} {p : Nat → Bool} {j : Nat} (hj : j < n) (hp : p j = true) (hn : ∀ i, i < j → p i = false) : (List.range n).find? p = some j := by
  rw [List.find?_range_eq_some]
  exact ⟨hp, List.mem_range.2 hj, fun i hi => by simp [hn i hi]⟩
theorem find_none {n : Nat} {p : Nat → Bool} (hn : ∀ i, i < n → p i = false) : (List.range n).find? p = none := by
  rw [List.find?_eq_none]
  intro x hx
  simp [hn x (List.mem_range.1 hx)]

theorem listed_ok (b l h r : Int) (v : Value) (xs : List Int) (w : World) (hv : Ints w v xs) (h0 : Hid (listedE b l h r xs = 0)) :
    Calls Try.prog 65 #[.agg #[.int .i64 b, .int .i64 l, .int .i64 h, .int .i64 r], v] w fun e w' => e = .returned (.int .i64 0) ∧ Below w.heap.size w w' :=
  (listed_any b l h r v xs w hv).mono fun e w' ⟨h1, h2⟩ => ⟨by rw [h1, h0.out], h2⟩
theorem listedE_pen {b l h r : Int} {xs : List Int} (h0 : listedE b l h r xs = 0) : penOk b l h r = true := by
  unfold listedE at h0
  split at h0
  · assumption
  · omega
theorem listedE_len {b l h r : Int} {xs : List Int} (h0 : listedE b l h r xs = 0) : 1 ≤ xs.length ∧ xs.length ≤ 401 := by
  unfold listedE at h0
  rw [if_pos (by have := listedE_pen (b := b) (l := l) (h := h) (r := r) (xs := xs) h0; assumption)] at h0
  unfold listE at h0
  split at h0
  · rename_i h1; simp [listOk] at h1; omega
  · omega
theorem listedE_lvl {b l h r : Int} {xs : List Int} (h0 : listedE b l h r xs = 0) : ∀ x ∈ xs, -50000 ≤ x ∧ x ≤ 50000 := by
  have hp := listedE_pen h0
  unfold listedE at h0
  rw [if_pos hp] at h0
  unfold listE at h0
  split at h0
  · rename_i h1
    simp [listOk, lvls, lvl, withinB] at h1
    intro x hx
    exact h1.2 x hx
  · omega

theorem apart_same (a b : Int) (w : World) (ha : -1000000 ≤ a ∧ a ≤ 1000000) (hb : -1000000 ≤ b ∧ b ≤ 1000000) :
    Calls Try.prog 66 #[.int .i64 a, .int .i64 b] w fun e w' => e = .returned (.int .i64 (apartN a b)) ∧ w' = w :=
  (apart_any a b w ha hb).mono fun _e _w' ⟨h1, h2⟩ => ⟨h1, h2.symm⟩
theorem lvl_wide {x : Int} (h1 : -50000 ≤ x) (h2 : x ≤ 50000) : -1000000 ≤ x ∧ x ≤ 1000000 := by omega

/-- Two numbers, the second an error code. -/
def RetII (p : Int × Int) (w : World) (e : Ending) (w' : World) : Prop := e = .returned (.tuple #[.int .i64 p.1, .int .i64 p.2]) ∧ Below w.heap.size w w'

set_option maxHeartbeats 400000 in
theorem forgets_bad (b l h r : Int) (v : Value) (xs : List Int) (w : World) (hv : Ints w v xs) (hb : Hid (listedE b l h r xs ≠ 0)) :
    Calls Try.prog 21 #[.agg #[.int .i64 b, .int .i64 l, .int .i64 h, .int .i64 r], v] w (RetII (0, listedE b l h r xs) w) := by
  have hne : (listedE b l h r xs != 0) = true := by simpa [bne_iff_ne] using hb.out
  go_enter Try.func21, Try.ntmps21
  go_wp2_with fail
  refine (listed_any _ _ _ _ _ xs _ (Ints.below hv (Bl.alloc (Below.refl _ _) _))).mono ?_
  rintro e w1 ⟨rfl, hb1⟩
  go_wp2_with fail
  go_ret2
  exact ⟨rfl, Bl.call (Bl.alloc (Below.refl _ _) _) (by assumption)⟩

attribute [local go_sem] cell_reg
set_option maxRecDepth 20000 in
set_option maxHeartbeats 2000000 in
theorem forgets_ok (b l h r : Int) (a : Option Addr) (c : Nat) (xs : List Int) (w : World) (hv : Ints w (.slice a xs.length c) xs) (h0 : Hid (listedE b l h r xs = 0)) :
    Calls Try.prog 21 #[.agg #[.int .i64 b, .int .i64 l, .int .i64 h, .int .i64 r], .slice a xs.length c] w (RetII (forgetsF b l h r xs) w) := by
  have hp : Hid (penOk b l h r = true) := hid (listedE_pen h0.out)
  have hlv : Hid (∀ x ∈ xs, -50000 ≤ x ∧ x ≤ 50000) := hid (listedE_lvl h0.out)
  obtain ⟨hn1, hn2⟩ := listedE_len h0.out
  have hpo := hp.out
  simp [penOk] at hpo
  obtain ⟨p1, p2, p3, p4, p5, p6, p7, p8⟩ := hpo
  clear p3 p4 p5 p6
  have HH : Hid (xs.headD 0 = xs[0]'(by omega)) := by
    cases xs with
    | nil => simp at hn1
    | cons x t => rfl
  have hx0 : -50000 ≤ xs[0]'(by omega) ∧ xs[0]'(by omega) ≤ 50000 := hlv.out _ (List.getElem_mem _)
  obtain ⟨hx01, hx02⟩ := hx0
  go_enter Try.func21, Try.ntmps21
  go_wp2_with fail
  refine (listed_ok _ _ _ _ _ xs _ (Ints.below hv (Bl.alloc (Below.refl _ _) _)) h0).mono ?_
  rintro e w1 ⟨rfl, hb1⟩
  have hB1 : Below w.heap.size w w1 := Bl.call (Bl.alloc (Below.refl _ _) _) hb1
  have q0 := box_cell hb1 (o := 0) rfl
  have q1 := box_cell hb1 (o := 1) rfl
  have q2 := box_cell hb1 (o := 2) rfl
  have q3 := box_cell hb1 (o := 3) rfl
  have hlt1 : w.heap.size < w1.heap.size := by have := hb1.size; simp at this; omega
  clear hb1
  obtain ⟨b0, o0, rfl, c0⟩ := (hv.below hB1).cellAt (k := 0) (by omega)
  have hv1 := hv.below hB1
  simp only [Nat.add_zero] at c0
  go_wp2_with fail
  go_quiet (fail)
  go_wp2_with fail
  clear c0
  go_loopw [7, 8, 9, 32] (fun lo hi ou i wr => ∃ (k : Nat) (o : Int), k ≤ xs.length ∧ i = .int .i64 k ∧ lo = .int .i64 (runK b (xs[0] - b) (xs.take k)) ∧ hi = .int .i64 (runK b (xs[0] + b) (xs.take k)) ∧ ou = .int .i64 o ∧ Below w1.heap.size w1 wr ∧
      Hid (∀ j, (hj : j + 1 < xs.length) → j + 1 < k → apartN xs[j + 1] xs[j] ≤ r) ∧
      Hid ((o = -1 ∧ ∀ j, j < k → meetB b xs (j + 1) = false) ∨ (∃ m : Nat, m < k ∧ o = m ∧ meetB b xs (m + 1) = true ∧ ∀ j, j < m → meetB b xs (j + 1) = false)))
    (fun _ _ _ i _ => xs.length - (intOf i).toNat)
  case atStart => exact ⟨0, -1, by omega, rfl, rfl, rfl, rfl, Bl.drewN (Below.refl _ _) _, fun j _ hj => by omega, .inl ⟨rfl, fun j hj => by omega⟩⟩
  case round =>
    obtain ⟨k, ou, hk, rfl, rfl, rfl, rfl, hb, HST, HO⟩ := hrel
    have r0 := (hb.cell (p := ⟨w.heap.size, 0, none⟩) hlt1).trans q0
    have r1 := (hb.cell (p := ⟨w.heap.size, 1, none⟩) hlt1).trans q1
    have r2 := (hb.cell (p := ⟨w.heap.size, 2, none⟩) hlt1).trans q2
    have r3 := (hb.cell (p := ⟨w.heap.size, 3, none⟩) hlt1).trans q3
    have hltr : w.heap.size < wr.heap.size := by have := hb.size; omega
    simp only [List.getElem_toArray, List.getElem_cons_zero, List.getElem_cons_succ] at r0 r1 r2 r3
    by_cases hlt : k < xs.length
    · obtain ⟨bx, ox, e, cx⟩ := (hv1.below hb).cellAt hlt
      cases e
      have hxk : -50000 ≤ xs[k] ∧ xs[k] ≤ 50000 := hlv.out _ (List.getElem_mem _)
      obtain ⟨hxk1, hxk2⟩ := hxk
      have HM : Hid (meetB b xs (k + 1) = decide (lazyN b (runK b (xs[0] - b) (xs.take k)) xs[k] = lazyN b (runK b (xs[0] + b) (xs.take k)) xs[k])) := by
        show meetB b xs (k + 1) = _
        unfold meetB; rw [HH.out, runK_snoc _ _ _ _ hlt, runK_snoc _ _ _ _ hlt]
      have hxq1 : -100000 ≤ xs[k] := by omega
      have hxq2 : xs[k] ≤ 100000 := by omega
      by_cases hk0 : k = 0
      · have hkg : decide (0 < k) = false := by simp; omega
        have HS1 : Hid (∀ j, (hj : j + 1 < xs.length) → j + 1 < k + 1 → apartN xs[j + 1] xs[j] ≤ r) := fun j hj hj' => by omega
        clear hk0
        go_wp2_with fail
        go_quiet (fail)
        go_wp2_with fail
        generalize hwq : wr.drewN nq = wq
        have hbq : Below w1.heap.size w1 wq := by rw [← hwq]; exact Bl.drewN hb _
        clear hwq
        have s0 := (hbq.cell (p := ⟨w.heap.size, 0, none⟩) hlt1).trans q0
        have s1 := (hbq.cell (p := ⟨w.heap.size, 1, none⟩) hlt1).trans q1
        have s2 := (hbq.cell (p := ⟨w.heap.size, 2, none⟩) hlt1).trans q2
        have s3 := (hbq.cell (p := ⟨w.heap.size, 3, none⟩) hlt1).trans q3
        have hltq : w.heap.size < wq.heap.size := by have := hbq.size; omega
        simp only [List.getElem_toArray, List.getElem_cons_zero, List.getElem_cons_succ] at s0 s1 s2 s3
        refine wp_region_qb (by kernel_rfl) (by kernel_rfl) ?_
        repeat (go_big_quiet_step (exact Calls.regrown_of (next_ok _ _ _ _ _ _ _ hp hxq1 hxq2)))
        refine wpQuiet_nil ?_
        intro w5 hb5
        have hB5 : Below w1.heap.size w1 w5 := Bl.call hbq hb5
        rcases HO.out with ⟨ho1, ho2⟩ | ⟨m, hm1, hm2, hm3, hm4⟩
        · have ho1' : ou < 0 := by omega
          cases hm : meetB b xs (k + 1)
          · have hE : (lazyN b (runK b (xs[0] - b) (xs.take k)) xs[k] == lazyN b (runK b (xs[0] + b) (xs.take k)) xs[k]) = false := by
              rw [HM.out] at hm; simpa using hm
            have HF : Hid ((ou = -1 ∧ ∀ j, j < k + 1 → meetB b xs (j + 1) = false) ∨ (∃ m : Nat, m < k + 1 ∧ ou = m ∧ meetB b xs (m + 1) = true ∧ ∀ j, j < m → meetB b xs (j + 1) = false)) :=
              .inl ⟨ho1, fun j hj => by
                by_cases e : j = k
                · subst e; exact hm
                · exact ho2 j (by omega)⟩
            clear hm ho1 ho2
            go_wp2_with fail
            go_roundw
            case rel => exact ⟨k + 1, ou, by omega, by go_num, by rw [runK_snoc _ _ _ _ hlt], by rw [runK_snoc _ _ _ _ hlt], rfl, hB5, HS1, HF⟩
            case measure => simp [intOf]; omega
          · have hE : (lazyN b (runK b (xs[0] - b) (xs.take k)) xs[k] == lazyN b (runK b (xs[0] + b) (xs.take k)) xs[k]) = true := by
              rw [HM.out] at hm; simpa using hm
            have HF : Hid (((k : Int) = -1 ∧ ∀ j, j < k + 1 → meetB b xs (j + 1) = false) ∨ (∃ m : Nat, m < k + 1 ∧ (k : Int) = m ∧ meetB b xs (m + 1) = true ∧ ∀ j, j < m → meetB b xs (j + 1) = false)) :=
              .inr ⟨k, by omega, rfl, hm, ho2⟩
            clear hm ho1 ho2
            go_wp2_with fail
            go_roundw
            case rel => exact ⟨k + 1, k, by omega, by go_num, by rw [runK_snoc _ _ _ _ hlt], by rw [runK_snoc _ _ _ _ hlt], rfl, hB5, HS1, HF⟩
            case measure => simp [intOf]; omega
        · have ho1' : ¬ ou < 0 := by omega
          have HF : Hid ((ou = -1 ∧ ∀ j, j < k + 1 → meetB b xs (j + 1) = false) ∨ (∃ m : Nat, m < k + 1 ∧ ou = m ∧ meetB b xs (m + 1) = true ∧ ∀ j, j < m → meetB b xs (j + 1) = false)) :=
            .inr ⟨m, by omega, hm2, hm3, hm4⟩
          clear hm1 hm2 hm3 hm4
          go_wp2_with fail
          go_roundw
          case rel => exact ⟨k + 1, ou, by omega, by go_num, by rw [runK_snoc _ _ _ _ hlt], by rw [runK_snoc _ _ _ _ hlt], rfl, hB5, HS1, HF⟩
          case measure => simp [intOf]; omega
      · have hkm : k - 1 < xs.length := by omega
        obtain ⟨by', oy, e, cy⟩ := (hv1.below hb).cellAt hkm
        cases e
        have hyk : -50000 ≤ xs[k - 1] ∧ xs[k - 1] ≤ 50000 := hlv.out _ (List.getElem_mem _)
        obtain ⟨hyk1, hyk2⟩ := hyk
        have hkg : decide (0 < k) = true := by simp; omega
        have e1 : (0 : Int) ≤ (k : Int) - 1 := by omega
        have e2 : (k : Int) - 1 < xs.length := by omega
        have e3 : ((k : Int) - 1).toNat = k - 1 := by omega
        have e4 : IntKind.i64.wrap ((k : Int) - 1) = (k : Int) - 1 := IntWalk.i64_in _ (by omega)
        by_cases hap : apartN xs[k] xs[k - 1] ≤ r
        · have HS1 : Hid (∀ j, (hj : j + 1 < xs.length) → j + 1 < k + 1 → apartN xs[j + 1] xs[j] ≤ r) := fun j hj hj' => by
            by_cases e : j + 1 = k
            · have h1 : apartN (xs[j + 1]'hj) (xs[j]'(by omega)) = apartN (xs[k]'hlt) (xs[k - 1]'hkm) := by
                congr 1
                · congr 1
                · congr 1; omega
              rw [h1]; exact hap
            · exact HST.out j hj (by omega)
          go_wp2_with fail
          go_quiet ((go_at_call 66; exact Calls.quiet_of_same (apart_same xs[k] xs[k - 1] _ (lvl_wide hxk1 hxk2) (lvl_wide hyk1 hyk2))))
          clear e1 e2 e3 e4
          go_wp2_with fail
          generalize hwq : wr.drewN nq = wq
          have hbq : Below w1.heap.size w1 wq := by rw [← hwq]; exact Bl.drewN hb _
          clear hwq
          have s0 := (hbq.cell (p := ⟨w.heap.size, 0, none⟩) hlt1).trans q0
          have s1 := (hbq.cell (p := ⟨w.heap.size, 1, none⟩) hlt1).trans q1
          have s2 := (hbq.cell (p := ⟨w.heap.size, 2, none⟩) hlt1).trans q2
          have s3 := (hbq.cell (p := ⟨w.heap.size, 3, none⟩) hlt1).trans q3
          have hltq : w.heap.size < wq.heap.size := by have := hbq.size; omega
          simp only [List.getElem_toArray, List.getElem_cons_zero, List.getElem_cons_succ] at s0 s1 s2 s3
          refine wp_region_qb (by kernel_rfl) (by kernel_rfl) ?_
          repeat (go_big_quiet_step (exact Calls.regrown_of (next_ok _ _ _ _ _ _ _ hp hxq1 hxq2)))
          refine wpQuiet_nil ?_
          intro w5 hb5
          have hB5 : Below w1.heap.size w1 w5 := Bl.call hbq hb5
          rcases HO.out with ⟨ho1, ho2⟩ | ⟨m, hm1, hm2, hm3, hm4⟩
          · have ho1' : ou < 0 := by omega
            cases hm : meetB b xs (k + 1)
            · have hE : (lazyN b (runK b (xs[0] - b) (xs.take k)) xs[k] == lazyN b (runK b (xs[0] + b) (xs.take k)) xs[k]) = false := by
                rw [HM.out] at hm; simpa using hm
              have HF : Hid ((ou = -1 ∧ ∀ j, j < k + 1 → meetB b xs (j + 1) = false) ∨ (∃ m : Nat, m < k + 1 ∧ ou = m ∧ meetB b xs (m + 1) = true ∧ ∀ j, j < m → meetB b xs (j + 1) = false)) :=
                .inl ⟨ho1, fun j hj => by
                  by_cases e : j = k
                  · subst e; exact hm
                  · exact ho2 j (by omega)⟩
              clear hm ho1 ho2
              go_wp2_with fail
              go_roundw
              case rel => exact ⟨k + 1, ou, by omega, by go_num, by rw [runK_snoc _ _ _ _ hlt], by rw [runK_snoc _ _ _ _ hlt], rfl, hB5, HS1, HF⟩
              case measure => simp [intOf]; omega
            · have hE : (lazyN b (runK b (xs[0] - b) (xs.take k)) xs[k] == lazyN b (runK b (xs[0] + b) (xs.take k)) xs[k]) = true := by
                rw [HM.out] at hm; simpa using hm
              have HF : Hid (((k : Int) = -1 ∧ ∀ j, j < k + 1 → meetB b xs (j + 1) = false) ∨ (∃ m : Nat, m < k + 1 ∧ (k : Int) = m ∧ meetB b xs (m + 1) = true ∧ ∀ j, j < m → meetB b xs (j + 1) = false)) :=
                .inr ⟨k, by omega, rfl, hm, ho2⟩
              clear hm ho1 ho2
              go_wp2_with fail
              go_roundw
              case rel => exact ⟨k + 1, k, by omega, by go_num, by rw [runK_snoc _ _ _ _ hlt], by rw [runK_snoc _ _ _ _ hlt], rfl, hB5, HS1, HF⟩
              case measure => simp [intOf]; omega
          · have ho1' : ¬ ou < 0 := by omega
            have HF : Hid ((ou = -1 ∧ ∀ j, j < k + 1 → meetB b xs (j + 1) = false) ∨ (∃ m : Nat, m < k + 1 ∧ ou = m ∧ meetB b xs (m + 1) = true ∧ ∀ j, j < m → meetB b xs (j + 1) = false)) :=
              .inr ⟨m, by omega, hm2, hm3, hm4⟩
            clear hm1 hm2 hm3 hm4
            go_wp2_with fail
            go_roundw
            case rel => exact ⟨k + 1, ou, by omega, by go_num, by rw [runK_snoc _ _ _ _ hlt], by rw [runK_snoc _ _ _ _ hlt], rfl, hB5, HS1, HF⟩
            case measure => simp [intOf]; omega
        · have HF : Hid (forgetsF b l h r xs = (0, 31)) := by
            show forgetsF b l h r xs = _
            unfold forgetsF
            rw [if_neg (by simp [h0.out]), if_neg]
            intro hs
            have := (steadyB_iff r xs).1 hs (k - 1) (by omega)
            apply hap
            have h1 : apartN (xs[k - 1 + 1]'(by omega)) (xs[k - 1]'hkm) = apartN (xs[k]'hlt) (xs[k - 1]'hkm) := by
              congr 1; congr 1; omega
            rw [← h1]; exact this
          go_wp2_with fail
          go_quiet ((go_at_call 66; exact Calls.quiet_of_same (apart_same xs[k] xs[k - 1] _ (lvl_wide hxk1 hxk2) (lvl_wide hyk1 hyk2))))
          clear e1 e2 e3 e4
          go_wp2_with fail
          go_ret2
          exact ⟨by rw [HF.out]; rfl, (hB1.trans ((Bl.drewN hb _).mono hB1.size))⟩
    · have HSA : Hid (steadyB r xs = true) := (steadyB_iff r xs).2 fun j hj => HST.out j hj (by omega)
      rcases HO.out with ⟨ho1, ho2⟩ | ⟨m, hm1, hm2, hm3, hm4⟩
      · have HF : Hid (forgetsF b l h r xs = (0, 3)) := by
          show forgetsF b l h r xs = _
          unfold forgetsF
          rw [if_neg (by simp [h0.out]), if_pos HSA.out, find_none (fun i hi => ho2 i (by omega))]
        have ho1' : ou < 0 := by omega
        clear ho1 ho2
        go_wp2_with fail
        go_ret2
        exact ⟨by rw [HF.out]; rfl, hB1.trans (hb.mono hB1.size)⟩
      · have HF : Hid (forgetsF b l h r xs = (ou, 0)) := by
          show forgetsF b l h r xs = _
          unfold forgetsF
          rw [if_neg (by simp [h0.out]), if_pos HSA.out, find_some (j := m) (by omega) hm3 hm4, hm2]
        have ho1' : ¬ ou < 0 := by omega
        clear hm1 hm2 hm3 hm4
        go_wp2_with fail
        go_ret2
        exact ⟨by rw [HF.out]; rfl, hB1.trans (hb.mono hB1.size)⟩
end Go.Proofs.Ytdopgaljbpjpcaa
