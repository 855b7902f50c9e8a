/- pens.reals. -/
import Derived.Test.YtdopgaljbpjpcaaRealA
namespace Go.Proofs.Ytdopgaljbpjpcaa
open Go.RowKit

def initF (b : Int) (xs : List Int) (i : Nat) : Int × Int :=
  if i = 0 ∨ xs.getD i 0 = xs.getD (i - 1) 0 then (xs.getD i 0 - b, xs.getD i 0 + b) else if xs.getD (i - 1) 0 < xs.getD i 0 then (xs.getD i 0 + b, xs.getD i 0 + b) else (xs.getD i 0 - b, xs.getD i 0 - b)
def initTo (b : Int) (xs : List Int) (k : Nat) : List (Int × Int) := (List.range xs.length).map fun i => if i < k then initF b xs i else (0, 0)
theorem initTo_len (b : Int) (xs : List Int) (k : Nat) : (initTo b xs k).length = xs.length := by simp [initTo]
theorem initTo_succ (b : Int) (xs : List Int) (k : Nat) (_h : k < xs.length) : (initTo b xs k).set k (initF b xs k) = initTo b xs (k + 1) := by
  apply List.ext_getElem
  · simp [initTo]
  · intro j h1 h2
    rw [List.getElem_set]
    simp only [initTo, List.getElem_map, List.getElem_range]
    split
    · rename_i e; subst e; simp
    · rename_i e
      by_cases h : j < k
      · rw [if_pos h, if_pos (by omega)]
      · rw [if_neg h, if_neg (by omega)]
def initL (b : Int) (xs : List Int) : List (Int × Int) := initTo b xs xs.length
def fwdF (r : Int) (ps : List (Int × Int)) : Nat → List (Int × Int)
  | 0 => ps
  | k + 1 => nearF r (fwdF r ps k) (k + 1) k
def bwdF (r : Int) (ps : List (Int × Int)) : Nat → List (Int × Int)
  | 0 => ps
  | j + 1 => nearF r (bwdF r ps j) (ps.length - 2 - j) (ps.length - 1 - j)
theorem fwdF_len (r : Int) (ps : List (Int × Int)) : ∀ k, (fwdF r ps k).length = ps.length
  | 0 => rfl
  | k + 1 => by rw [fwdF, nearF_len, fwdF_len r ps k]
theorem bwdF_len (r : Int) (ps : List (Int × Int)) : ∀ k, (bwdF r ps k).length = ps.length
  | 0 => rfl
  | k + 1 => by rw [bwdF, nearF_len, bwdF_len r ps k]
theorem fwdF_bd {r : Int} {ps : List (Int × Int)} (h : BdP ps) (hr : 0 ≤ r) (hr' : r ≤ 12000) : ∀ k, k + 1 ≤ ps.length → BdP (fwdF r ps k)
  | 0, _ => h
  | k + 1, hk => nearF_bd (fwdF_bd h hr hr' k (by omega)) hr hr' (by rw [fwdF_len]; omega) (by rw [fwdF_len]; omega)
theorem bwdF_bd {r : Int} {ps : List (Int × Int)} (h : BdP ps) (hr : 0 ≤ r) (hr' : r ≤ 12000) : ∀ k, k + 1 ≤ ps.length → BdP (bwdF r ps k)
  | 0, _ => h
  | k + 1, hk => nearF_bd (bwdF_bd h hr hr' k (by omega)) hr hr' (by rw [bwdF_len]; omega) (by rw [bwdF_len]; omega)
/-- The real levels behind a list, as the program narrows them: from the left, then from the right. -/
def realsL (b r : Int) (xs : List Int) : List (Int × Int) := bwdF r (fwdF r (initL b xs) (xs.length - 1)) (xs.length - 1)
def realsB (b r : Int) (xs : List Int) : Bool := !(realsL b r xs).any fun x => decide (x.2 < x.1)
theorem initF_bd {b : Int} {xs : List Int} (hb : 0 ≤ b) (hb' : b ≤ 8) (hx : ∀ x ∈ xs, -50000 ≤ x ∧ x ≤ 50000) {i : Nat} (hi : i < xs.length) : -100000 ≤ (initF b xs i).1 ∧ (initF b xs i).1 ≤ 100000 ∧ -100000 ≤ (initF b xs i).2 ∧ (initF b xs i).2 ≤ 100000 := by
  have h1 : xs.getD i 0 = xs[i] := by simp [List.getD_eq_getElem?_getD, hi]
  have h2 := hx xs[i] (List.getElem_mem _)
  unfold initF
  rw [h1]
  split
  · simp only; omega
  · split <;> (simp only; omega)
theorem initTo_bd {b : Int} {xs : List Int} (hb : 0 ≤ b) (hb' : b ≤ 8) (hx : ∀ x ∈ xs, -50000 ≤ x ∧ x ≤ 50000) (k : Nat) : BdP (initTo b xs k) := by
  intro j hj
  have hj' : j < xs.length := by rw [initTo_len] at hj; exact hj
  simp only [initTo, List.getElem_map, List.getElem_range]
  split
  · exact initF_bd hb hb' hx hj'
  · simp
theorem Try.info23 : (Try.prog.info? 23).map (fun i => (i.zero, i.size, i.bytes)) = some (some (.agg #[.int .i64 0, .int .i64 0]), 2, 16) := by kernel_rfl
theorem made_row {w : World} {base g n c : Nat} (h : w.ownsRow base 23 2 (.slice (some ⟨g, 0, none⟩) n c) n (madeCells (Value.agg #[.int .i64 0, .int .i64 0]).cells (n * 2)).toList) : RowOf w g (List.replicate n (0, 0)) := by
  intro k hk
  have hk' : k < n := by simpa using hk
  have e : ∀ j, j < n * 2 → (madeCells (Value.agg #[.int .i64 0, .int .i64 0]).cells (n * 2)).toList[j]? = some (.int .i64 0) := by
    intro j hj
    have h2 : j % 2 = 0 ∨ j % 2 = 1 := by omega
    rcases h2 with h2 | h2 <;> simp [madeCells, Value.cells, hj, h2]
  refine ⟨?_, ?_, ?_, ?_⟩
  · rw [h.cellAt (k * 2) (by omega), e _ (by omega)]; simp
  · rw [h.cellAt (k * 2 + 1) (by omega), e _ (by omega)]; simp
  · exact h.frozenAt (k * 2)
  · exact h.frozenAt (k * 2 + 1)

/-- Pairs and a bool. -/
def RetPB (ps : List (Int × Int)) (t : Bool) (w : World) (e : Ending) (w' : World) : Prop := ∃ v, e = .returned (.tuple #[v, .bool t]) ∧ Pairs w' v ps ∧ Below w.heap.size w w'

attribute [local go_sem] cell_reg
set_option maxRecDepth 20000 in
set_option maxHeartbeats 4000000 in
theorem reals_any (b l h r : Int) (a : Option Addr) (c : Nat) (xs : List Int) (w : World) (hv : Ints w (.slice a xs.length c) xs) (hp : Hid (penOk b l h r = true)) (hlv : Hid (∀ x ∈ xs, -50000 ≤ x ∧ x ≤ 50000)) (hn1 : 1 ≤ xs.length) (hn2 : xs.length ≤ 401) :
    Calls Try.prog 79 #[.agg #[.int .i64 b, .int .i64 l, .int .i64 h, .int .i64 r], .slice a xs.length c] w (RetPB (realsL b r xs) (realsB b r xs) w) := by
  have hpo := hp.out
  simp [penOk] at hpo
  obtain ⟨p1, p2, p3, p4, p5, p6, p7, p8⟩ := hpo
  clear p3 p4 p5 p6
  obtain ⟨i0, hi, hz0, hz1, hz2⟩ := info_parts Try.info23
  have hby : i0.bytes * xs.length ≤ 281474976710656 := by rw [hz2]; omega
  have HV := hid hv
  obtain ⟨b0, o0, rfl, c0⟩ := hv.cellAt (k := 0) (by omega)
  have hltb : b0 < w.heap.size := World.block_lt_of_cell? w _ c0
  clear c0 hv
  go_enter Try.func79, Try.ntmps79
  go_wp2_with (at_make; refine wpList_make_full _ rfl _ _ 47 rfl (w.heap.size + 1) 23 i0 (.agg #[.int .i64 0, .int .i64 0]) 2 Try.underlying47 hi hz0 hz1 .i64 .i64 _ _ xs.length rfl rfl rfl rfl hby (by simp [maxLen]; omega) (by simp) ?_; intro w1 hown1 hgrow1)
  have hR : w.heap.size + 1 < w1.heap.size := (hown1.lt (w.heap.size + 1) (by simp [Value.ownBlock])).2
  have hown : w1.ownsRow (w.heap.size + 1) 23 2 (.slice (some ⟨w.heap.size + 1, 0, none⟩) xs.length xs.length) xs.length (madeCells (Value.agg #[.int .i64 0, .int .i64 0]).cells (xs.length * 2)).toList := by simpa using hown1
  have row1 := made_row hown
  obtain ⟨W0, hW0⟩ : ∃ W0, w1.alloc (.cells #[.slice (some ⟨w.heap.size + 1, 0, none⟩) xs.length xs.length] 47) = W0 := ⟨_, rfl⟩
  have hz0' : W0.heap.size = w1.heap.size + 1 := by rw [← hW0]; simp
  have hbw : Below w1.heap.size w1 W0 := by rw [← hW0]; exact Bl.alloc (Below.refl _ _) _
  have hBw : Below w.heap.size w W0 := by
    refine Bl.call ?_ hbw
    exact (Bl.alloc (Below.refl _ _) _).grown hgrow1 (by simp) (fun k e => by cases e)
  have row0 : RowOf W0 (w.heap.size + 1) (initTo b xs 0) := by
    have e : initTo b xs 0 = List.replicate xs.length (0, 0) := by
      apply List.ext_getElem <;> simp [initTo]
    rw [e]; exact row1.keep (hbw.block _ hR)
  have co : W0.cell? ⟨w1.heap.size, 0, none⟩ = some (.slice (some ⟨w.heap.size + 1, 0, none⟩) xs.length xs.length) := by rw [← hW0]; exact cell_last rfl
  have hbp : Below (w.alloc (.cells #[.int .i64 b, .int .i64 l, .int .i64 h, .int .i64 r] 82)).heap.size (w.alloc (.cells #[.int .i64 b, .int .i64 l, .int .i64 h, .int .i64 r] 82)) W0 :=
    Bl.call ((Below.refl _ _).grown hgrow1 (Nat.le_refl _) (fun k e => by cases e)) hbw
  have cb := box_cell hbp (o := 0) rfl
  have cr := box_cell hbp (o := 3) rfl
  simp only [List.getElem_toArray, List.getElem_cons_zero, List.getElem_cons_succ] at cb cr
  have HV0 := hid (HV.out.below hBw)
  clear hown1 hown hgrow1 row1 hbp hbw
  rw [hW0]
  clear hW0
  have HB := hid hBw; clear hBw
  go_loopw [17] (fun i wr => ∃ k : Nat, k ≤ xs.length ∧ i = .int .i64 k ∧ RowOf wr (w.heap.size + 1) (initTo b xs k) ∧ Turns (fun x => x = w.heap.size + 1) W0 wr) (fun i _ => xs.length - (intOf i).toNat)
  case atStart => exact ⟨0, by omega, rfl, row0, Turns.refl _ _⟩
  case round =>
    obtain ⟨k, hk, rfl, row, hT⟩ := hrel
    have keep := fun (p : Addr) (h1 : p.block < W0.heap.size) (h2 : p.block ≠ w.heap.size + 1) => World.cell?_of_block (w := W0) (w' := wr) (a := p) (hT.block p.block h1 h2)
    have co' := (keep ⟨w1.heap.size, 0, none⟩ (by show w1.heap.size < _; omega) (by show w1.heap.size ≠ _; omega)).trans co
    have cb' := (keep ⟨w.heap.size, 0, none⟩ (by show w.heap.size < _; omega) (by show w.heap.size ≠ _; omega)).trans cb
    by_cases hlt : k < xs.length
    · have hkl : k < (initTo b xs k).length := by rw [initTo_len]; exact hlt
      obtain ⟨bx, ox, e, cx⟩ := (HV0.out).cellAt hlt
      cases e
      have cx' := (keep ⟨b0, o0 + k, none⟩ (by show b0 < _; omega) (by show b0 ≠ _; omega)).trans cx
      clear cx
      have hxk : -50000 ≤ xs[k] ∧ xs[k] ≤ 50000 := hlv.out _ (List.getElem_mem _)
      obtain ⟨hxk1, hxk2⟩ := hxk
      obtain ⟨k1, k2, k3, k4⟩ := row k hkl
      have hgk : xs.getD k 0 = xs[k] := by simp [List.getD_eq_getElem?_getD, hlt]
      have HGK := hid hgk; clear hgk
      have i1 : (k : Int) < xs.length := by omega
      by_cases hk0 : k = 0
      · have HI : Hid (initF b xs k = (xs[k] - b, xs[k] + b)) := by
          show initF b xs k = _
          unfold initF; rw [if_pos (.inl hk0), HGK.out]
        have hkg : (k == 0) = true := by simp [hk0]
        have hkg' : ((k : Int) == 0) = true := by simp [hk0]
        clear hk0
        have hT' := hid hT
        clear keep co cb row0
        have HROW := hid row
        go_wp2_with fail
        go_roundw
        case rel =>
          have h1 := (row.set1 hkl (xs[k] - b)).set2 (by simpa using hkl) (xs[k] + b)
          refine ⟨k + 1, by omega, by go_num, ?_, hT.trans ((Turns.setCell (fun x => x = w.heap.size + 1) _ ⟨w.heap.size + 1, k * 2, none⟩ _ rfl).trans (Turns.setCell (fun x => x = w.heap.size + 1) _ ⟨w.heap.size + 1, k * 2 + 1, none⟩ _ rfl))⟩
          rw [← initTo_succ b xs k hlt, HI.out]
          simpa using h1
        case measure => simp [intOf]; omega
      · have hkm : k - 1 < xs.length := by omega
        obtain ⟨bx, ox, e, cy⟩ := (HV0.out).cellAt hkm
        cases e
        have cy' := (keep ⟨b0, o0 + (k - 1), none⟩ (by show b0 < _; omega) (by show b0 ≠ _; omega)).trans cy
        clear cy
        have hgm : xs.getD (k - 1) 0 = xs[k - 1] := by simp [List.getD_eq_getElem?_getD, hkm]
        have HGM := hid hgm; clear hgm
        have hkg : (k == 0) = false := by simp [hk0]
        have hkg' : ((k : Int) == 0) = false := by simp [hk0]
        have i2 : (1 : Int) ≤ k := by omega
        have i3 : ((k : Int) - 1).toNat = k - 1 := by omega
        clear keep
        by_cases heq : xs[k] = xs[k - 1]
        · have HI : Hid (initF b xs k = (xs[k] - b, xs[k] + b)) := by
            show initF b xs k = _
            unfold initF; rw [if_pos (.inr (by rw [HGK.out, HGM.out]; exact heq)), HGK.out]
          have heg : (xs[k] == xs[k - 1]) = true := by simp [heq]
          clear heq
          go_wp2_with fail
          go_roundw
          case rel =>
            have h1 := (row.set1 hkl (xs[k] - b)).set2 (by simpa using hkl) (xs[k] + b)
            refine ⟨k + 1, by omega, by go_num, ?_, hT.trans ((Turns.setCell (fun x => x = w.heap.size + 1) _ ⟨w.heap.size + 1, k * 2, none⟩ _ rfl).trans (Turns.setCell (fun x => x = w.heap.size + 1) _ ⟨w.heap.size + 1, k * 2 + 1, none⟩ _ rfl))⟩
            rw [← initTo_succ b xs k hlt, HI.out]
            simpa using h1
          case measure => simp [intOf]; omega
        · have heg : (xs[k] == xs[k - 1]) = false := by simp [heq]
          by_cases hgt : xs[k - 1] < xs[k]
          · have HI : Hid (initF b xs k = (xs[k] + b, xs[k] + b)) := by
              show initF b xs k = _
              unfold initF; rw [if_neg (by rw [HGK.out, HGM.out]; simp [hk0, heq]), if_pos (by rw [HGK.out, HGM.out]; exact hgt), HGK.out]
            have HK0 := hid hk0; clear hk0 heq
            go_wp2_with fail
            go_region
            go_wp2_with fail
            go_roundw
            case rel =>
              have h1 := ((row.set1 hkl (xs[k] - b)).set2 (by simpa using hkl) (xs[k] + b)).set1 (by simpa using hkl) (xs[k] + b)
              refine ⟨k + 1, by omega, by go_num, ?_, hT.trans (((Turns.setCell (fun x => x = w.heap.size + 1) _ ⟨w.heap.size + 1, k * 2, none⟩ _ rfl).trans ((Turns.setCell (fun x => x = w.heap.size + 1) _ ⟨w.heap.size + 1, k * 2 + 1, none⟩ _ rfl).trans (Turns.setCell (fun x => x = w.heap.size + 1) _ ⟨w.heap.size + 1, k * 2, none⟩ _ rfl))).trans ⟨rfl, rfl, rfl, Nat.le_refl _, fun _ _ _ => rfl⟩)⟩
              rw [← initTo_succ b xs k hlt, HI.out]
              simp only [List.getElem_set_self, List.set_set] at h1
              exact h1.keep rfl
            case measure => simp [intOf]; omega
          · have HI : Hid (initF b xs k = (xs[k] - b, xs[k] - b)) := by
              show initF b xs k = _
              unfold initF; rw [if_neg (by rw [HGK.out, HGM.out]; simp [hk0, heq]), if_neg (by rw [HGK.out, HGM.out]; exact hgt), HGK.out]
            have HK0 := hid hk0; clear hk0 heq
            go_wp2_with fail
            go_region
            go_wp2_with fail
            go_roundw
            case rel =>
              have h1 := ((row.set1 hkl (xs[k] - b)).set2 (by simpa using hkl) (xs[k] + b)).set2 (by simpa using hkl) (xs[k] - b)
              refine ⟨k + 1, by omega, by go_num, ?_, hT.trans (((Turns.setCell (fun x => x = w.heap.size + 1) _ ⟨w.heap.size + 1, k * 2, none⟩ _ rfl).trans ((Turns.setCell (fun x => x = w.heap.size + 1) _ ⟨w.heap.size + 1, k * 2 + 1, none⟩ _ rfl).trans (Turns.setCell (fun x => x = w.heap.size + 1) _ ⟨w.heap.size + 1, k * 2 + 1, none⟩ _ rfl))).trans ⟨rfl, rfl, rfl, Nat.le_refl _, fun _ _ _ => rfl⟩)⟩
              rw [← initTo_succ b xs k hlt, HI.out]
              simp only [List.getElem_set_self, List.set_set] at h1
              exact h1.keep rfl
            case measure => simp [intOf]; omega
    · have hkk : k = xs.length := by omega
      subst hkk
      clear row0 keep
      have HROW : Hid (RowOf wr (w.heap.size + 1) (initL b xs)) := row
      have HN := hid hn1
      have hT0 := hid hT
      have HBD : Hid (BdP (initL b xs)) := hid (initTo_bd p1 p2 hlv.out _)
      have hLen : (initL b xs).length = xs.length := initTo_len _ _ _
      have HLEN := hid hLen; clear hLen
      go_wp2_with fail
      go_loopw [10] (fun i wq => ∃ k : Nat, 1 ≤ k ∧ k ≤ xs.length ∧ i = .int .i64 k ∧ RowOf wq (w.heap.size + 1) (fwdF r (initL b xs) (k - 1)) ∧ Turns (fun x => x = w.heap.size + 1) W0 wq) (fun i _ => xs.length - (intOf i).toNat)
      case atStart => exact ⟨1, by omega, by omega, rfl, HROW.out, hT0.out⟩
      case round =>
        obtain ⟨k, hk1, hk, rfl, row2, hT2⟩ := hrel
        have keep := fun (p : Addr) (h1 : p.block < W0.heap.size) (h2 : p.block ≠ w.heap.size + 1) => World.cell?_of_block (w := W0) (w' := wr) (a := p) (hT2.block p.block h1 h2)
        have co' := (keep ⟨w1.heap.size, 0, none⟩ (by show w1.heap.size < _; omega) (by show w1.heap.size ≠ _; omega)).trans co
        have cr' := (keep ⟨w.heap.size, 3, none⟩ (by show w.heap.size < _; omega) (by show w.heap.size ≠ _; omega)).trans cr
        have cv := hid (keep)
        clear keep
        by_cases hlt : k < xs.length
        · have HROW2 := hid row2; have HT2 := hid hT2
          clear row2 hT2
          have hpl : (fwdF r (initL b xs) (k - 1)).length = xs.length := by rw [fwdF_len]; exact HLEN.out
          have hbd : BdP (fwdF r (initL b xs) (k - 1)) := fwdF_bd HBD.out p7 p8 _ (by rw [HLEN.out]; omega)
          have HPL := hid hpl; have HBF := hid hbd
          clear hpl hbd
          go_wp2_with fail
          refine (near_any r wr w1.heap.size w.heap.size (w.heap.size + 1) k (k - 1) k ((k : Int) - 1) (fwdF r (initL b xs) (k - 1)) rfl (by omega) (by rw [HPL.out]; omega) (by rw [HPL.out]; omega) (by omega) (by rw [HPL.out]; omega) HROW2.out (by rw [HPL.out]; exact co') cr' p7 p8 HBF.out (by omega) (by omega)).mono ?_
          rintro e w2 ⟨rfl, row3, hT3⟩
          have HROW3 := hid row3; have HT3 := hid hT3
          clear row3 hT3
          go_wp2_with fail
          go_roundw
          case rel =>
            refine ⟨k + 1, by omega, by omega, by go_num, ?_, HT2.out.trans HT3.out⟩
            have e : fwdF r (initL b xs) (k + 1 - 1) = nearF r (fwdF r (initL b xs) (k - 1)) k (k - 1) := by
              have e1 : k + 1 - 1 = (k - 1) + 1 := by omega
              rw [e1, fwdF]; congr 1; omega
            rw [e]; exact HROW3.out
          case measure => simp [intOf]; omega
        · have hkk : k = xs.length := by omega
          have HROW2 : Hid (RowOf wr (w.heap.size + 1) (fwdF r (initL b xs) (xs.length - 1))) := by rw [← hkk]; exact hid row2
          have HT2 := hid hT2
          have HKK := hid hkk
          clear row2 hT2 hkk
          go_wp2_with fail
          go_loopw [11] (fun i wq => ∃ j : Nat, j + 1 ≤ xs.length ∧ i = .int .i64 ((xs.length : Int) - 2 - j) ∧ RowOf wq (w.heap.size + 1) (bwdF r (fwdF r (initL b xs) (xs.length - 1)) j) ∧ Turns (fun x => x = w.heap.size + 1) W0 wq) (fun i _ => (intOf i + 1).toNat)
          case atStart => exact ⟨0, by omega, by go_num, HROW2.out, HT2.out⟩
          case round =>
            clear cv
            obtain ⟨j, hj, rfl, row4, hT4⟩ := hrel
            have keep := fun (p : Addr) (h1 : p.block < W0.heap.size) (h2 : p.block ≠ w.heap.size + 1) => World.cell?_of_block (w := W0) (w' := wr) (a := p) (hT4.block p.block h1 h2)
            have co'' := (keep ⟨w1.heap.size, 0, none⟩ (by show w1.heap.size < _; omega) (by show w1.heap.size ≠ _; omega)).trans co
            have cr'' := (keep ⟨w.heap.size, 3, none⟩ (by show w.heap.size < _; omega) (by show w.heap.size ≠ _; omega)).trans cr
            clear keep
            have HROW4 := hid row4; have HT4 := hid hT4
            clear row4 hT4
            have hfl : (fwdF r (initL b xs) (xs.length - 1)).length = xs.length := by rw [fwdF_len]; exact HLEN.out
            have hpl : (bwdF r (fwdF r (initL b xs) (xs.length - 1)) j).length = xs.length := by rw [bwdF_len]; exact hfl
            have hbd0 : BdP (fwdF r (initL b xs) (xs.length - 1)) := fwdF_bd HBD.out p7 p8 _ (by rw [HLEN.out]; omega)
            have hbd : BdP (bwdF r (fwdF r (initL b xs) (xs.length - 1)) j) := bwdF_bd hbd0 p7 p8 _ (by rw [hfl]; omega)
            have HFL := hid hfl; have HPL := hid hpl; have HBF := hid hbd
            clear hfl hpl hbd hbd0
            by_cases hlt : j + 1 < xs.length
            · go_wp2_with fail
              refine (near_any r wr w1.heap.size w.heap.size (w.heap.size + 1) (xs.length - 2 - j) (xs.length - 1 - j) ((xs.length : Int) - 2 - j) ((xs.length : Int) - 2 - j + 1) (bwdF r (fwdF r (initL b xs) (xs.length - 1)) j) (by omega) (by omega) (by rw [HPL.out]; omega) (by rw [HPL.out]; omega) (by omega) (by rw [HPL.out]; omega) HROW4.out (by rw [HPL.out]; exact co'') cr'' p7 p8 HBF.out (by omega) (by omega)).mono ?_
              rintro e w2 ⟨rfl, row3, hT3⟩
              have HROW3 := hid row3; have HT3 := hid hT3
              clear row3 hT3
              go_wp2_with fail
              go_roundw
              case rel =>
                refine ⟨j + 1, by omega, by go_num, ?_, HT4.out.trans HT3.out⟩
                rw [bwdF, HFL.out]; exact HROW3.out
              case measure => simp [intOf]; omega
            · have hjj : j = xs.length - 1 := by omega
              have HROW5 : Hid (RowOf wr (w.heap.size + 1) (realsL b r xs)) := by
                have := HROW4.out; rw [hjj] at this; exact hid this
              have HJJ := hid hjj
              have hrl : (realsL b r xs).length = xs.length := by
                show (bwdF _ _ _).length = _
                rw [bwdF_len]; exact HFL.out
              have HP : Hid (Pairs wr (.slice (some ⟨w.heap.size + 1, 0, none⟩) xs.length xs.length) (realsL b r xs)) := by
                refine hid ⟨some ⟨w.heap.size + 1, 0, none⟩, xs.length, by rw [hrl], by omega, by simp [maxLen]; omega, fun _ => ⟨w.heap.size + 1, 0, rfl, fun k hk => ?_⟩⟩
                obtain ⟨q1, q2, _, _⟩ := HROW5.out k hk
                simp only [Nat.zero_add]
                exact ⟨q1, q2⟩
              have HBr : Hid (Below w.heap.size w wr) := hid (Turns.below HB.out HT4.out (by omega) (fun k hk => by omega))
              have hsz := HT4.out.size
              have hcR : w1.heap.size < wr.heap.size := by omega
              clear hjj hrl hsz
              go_wp2_with fail
              refine wp_region_qb (by kernel_rfl) (by kernel_rfl) ?_
              repeat (go_big_quiet_step (exact Calls.regrown_of (containsFuncP_any _ (realsL b r xs) 108 #[] _ _ (HP.out.below (below_regrown _ _ _)) (enters_of Try.func108 (by kernel_rfl) rfl) (pays108 _))))
              refine wpQuiet_nil ?_
              intro w5 hb5
              go_wp2_with fail
              refine bodyPost_ret (v := .tuple #[.slice (some ⟨w.heap.size + 1, 0, none⟩) xs.length xs.length, .bool (realsB b r xs)]) (by simp [results, Try.results79, go_sem, realsB]) rfl ⟨_, rfl, HP.out.below hb5, Bl.call HBr.out hb5⟩
end Go.Proofs.Ytdopgaljbpjpcaa
