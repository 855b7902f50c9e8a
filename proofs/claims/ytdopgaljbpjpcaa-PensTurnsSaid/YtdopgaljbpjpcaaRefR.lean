/- aneroidref03.Reals. -/
import Derived.Test.YtdopgaljbpjpcaaPlainO
namespace Go.Proofs.Ytdopgaljbpjpcaa
open Go.RowKit

def spTo (b r : Int) (xs : List Int) (k : Nat) : List (Int × Int) := (List.range k).map (spanN b r xs)
theorem spTo_len (b r : Int) (xs : List Int) (k : Nat) : (spTo b r xs k).length = k := by simp [spTo]
theorem spTo_succ (b r : Int) (xs : List Int) (k : Nat) : spTo b r xs (k + 1) = spTo b r xs k ++ [spanN b r xs k] := by simp [spTo, List.range_succ]
theorem spTo_all (b r : Int) (xs : List Int) : spTo b r xs xs.length = realsL b r xs := by
  apply List.ext_getElem
  · rw [spTo_len, realsL_len]
  · intro k h1 h2
    rw [reals_at_k (by rw [spTo_len] at h1; exact h1) h2]
    simp [spTo]
theorem pairs_of_own {w : World} {base n : Nat} {v : Value} {ps : List (Int × Int)} (hn : ps.length = n) (h : w.ownsRow base 23 2 v n (flat2 ps)) : Pairs w v ps := by
  rcases h.2 with ⟨rfl, h0⟩ | ⟨g, cap, cur, rfl, _⟩
  · have : ps = [] := List.eq_nil_of_length_eq_zero (by omega)
    subst this; exact Pairs.nil
  · obtain ⟨h1, h2⟩ := own_cap h
    exact pairs_of_row (row_of_own hn h) hn h1 h2

set_option maxHeartbeats 400000 in
theorem rReals_bad (b l h r : Int) (v : Value) (xs : List Int) (w : World) (hv : Ints w v xs) (hb : Hid (listedE b l h r xs ≠ 0)) :
    Calls Try.prog 34 #[.agg #[.int .i64 b, .int .i64 l, .int .i64 h, .int .i64 r], v] w (RetPE [] (listedE b l h r xs) w) := by
  have hne : (listedE b l h r xs != 0) = true := by simpa [bne_iff_ne] using hb.out
  go_enter Try.func34, Try.ntmps34
  go_wp2_with fail
  refine (rshown_any _ _ _ _ _ xs _ (Ints.below hv (Bl.alloc (Below.refl _ _) _))).mono ?_
  rintro e w1 ⟨rfl, hb1⟩
  go_wp2_with fail
  go_ret2
  exact ⟨_, rfl, Pairs.nil, bl1 hb1⟩
set_option maxRecDepth 100000 in
set_option maxHeartbeats 4000000 in
theorem rReals_ok (b l h r : Int) (a : Option Addr) (c : Nat) (xs : List Int) (w : World) (hv : Ints w (.slice a xs.length c) xs) (h0 : Hid (listedE b l h r xs = 0)) (L : List (Int × Int)) (y : Int) (hp : Hid (realsF b l h r xs = (L, y))) :
    Calls Try.prog 34 #[.agg #[.int .i64 b, .int .i64 l, .int .i64 h, .int .i64 r], .slice a xs.length c] w (RetPE L y w) := by
  obtain ⟨hok, hlk⟩ := listedE_iff.1 h0.out
  have hbb := penOk_iff.1 hok
  have hb0 := hbb.1; have hb8 := hbb.2.1; have hr0 := hbb.2.2.2.2.2.2.1; have hr2 := hbb.2.2.2.2.2.2.2
  have hlx := hid (listOk_iff.1 hlk).2
  obtain ⟨hx1, hx4⟩ := (listOk_iff.1 hlk).1
  have HOK := hid hok
  have HOI := hid (off_iff hb0 hr0 xs)
  have HOS := hid (fun (hq : realsB b r xs = true) k (hk : k < xs.length) => off_span hb0 hr0 hq hk)
  have HBD := hid (fun k => ba_bd hb0 hb8 hr0 hr2 hlx.out (xs.length - 1 - k))
  have HV := hid hv
  clear hv hok hlk hbb
  obtain ⟨i0, hi, hz0, hz1, hz2⟩ := info_parts Try.info23
  go_enter Try.func34, Try.ntmps34
  go_wp2_with fail
  refine (rshown_ok _ _ _ _ _ xs _ (HV.out.below (Bl.alloc (Below.refl _ _) _)) h0).mono ?_
  rintro e w1 ⟨rfl, hb1⟩
  have P1 := hid ((Pbx.new _ b l h r w 25 rfl).next hb1)
  have B1 := hid (bl1 hb1)
  clear hb1
  obtain ⟨q0, q1, q2, q3, q4⟩ := P1.out
  obtain ⟨t, ht⟩ : ∃ t, Hid (realsB b r xs = t) := ⟨_, rfl⟩
  go_wp2_with fail
  refine (offsets_any b l h r _ xs _ (HV.out.below B1.out) HOK hlx hx1 hx4 t (hid (by rw [← ht.out]; exact HOI.out))).mono ?_
  rintro e w2 ⟨ov, rfl, vO, hb⟩
  have B2 := hid (Bl.call B1.out hb)
  clear q0 q1 q2 q3 q4 hb P1 B1
  cases t
  · have hp2 : L = [] ∧ y = 31 := by
      have := hp.out
      unfold realsF at this
      rw [if_neg (by simp [h0.out]), if_neg (by simp [ht.out])] at this
      cases this; exact ⟨rfl, rfl⟩
    obtain ⟨rfl, rfl⟩ := hp2
    go_wp2_with fail
    go_ret2
    exact ⟨_, rfl, Pairs.nil, B2.out⟩
  · have hp2 : L = realsL b r xs ∧ y = 0 := by
      have := hp.out
      unfold realsF at this
      rw [if_neg (by simp [h0.out]), if_pos ht.out] at this
      cases this; exact ⟨rfl, rfl⟩
    obtain ⟨rfl, rfl⟩ := hp2
    have vP := hid (vO.out rfl)
    clear vO
    obtain ⟨ao, co, rfl, _⟩ := vP.out.shape
    have hOl : ((List.range xs.length).map (offN b r xs)).length = xs.length := by simp
    rw [hOl] at vP ⊢
    have HOL := hid hOl; clear hOl
    go_wp2_with fail
    go_loopw [9, 10] (fun ou i wr => ∃ k : Nat, k ≤ xs.length ∧ i = .int .i64 k ∧ Below w2.heap.size w2 wr ∧ Hid (wr.ownsRow w2.heap.size 23 2 ou k (flat2 (spTo b r xs k)))) (fun _ i _ => xs.length - (intOf i).toNat)
    case atStart => exact ⟨0, by omega, rfl, Below.refl _ _, World.ownsRow_nil _ _ _ _⟩
    case round =>
      obtain ⟨k, hk, rfl, hbw, HO⟩ := hrel
      by_cases hlt : k < xs.length
      · have hko : k < ((List.range xs.length).map (offN b r xs)).length := by rw [HOL.out]; exact hlt
        obtain ⟨b1, o1, e1, c1⟩ := (HV.out.below B2.out).cellAt hlt
        obtain ⟨b2, o2, e2, c2, c3⟩ := vP.out.cellAt hko
        have hl1 := World.block_lt_of_cell? w2 _ c1
        have hl2 := World.block_lt_of_cell? w2 _ c2
        have c1' := (hbw.cell hl1).trans c1
        have c2' := (hbw.cell hl2).trans c2
        have c3' := (hbw.cell (p := ⟨b2, o2 + k * 2 + 1, none⟩) hl2).trans c3
        have eo : ((List.range xs.length).map (offN b r xs))[k] = offN b r xs k := by simp
        rw [eo] at c2' c3'
        have HSP : Hid (∀ x lo hi, xs[k] = x → offN b r xs k = (lo, hi) → spanN b r xs k = (x + lo, x + hi)) := by
          intro x lo hi hx ho
          rw [HOS.out ht.out k hlt, ho, nth_eq hlt, hx]
        have HSP' := hid (HSP.out _ (offN b r xs k).1 (offN b r xs k).2 rfl rfl)
        have hbd : -8 ≤ (offN b r xs k).1 ∧ (offN b r xs k).1 ≤ 120000 ∧ -120000 ≤ (offN b r xs k).2 ∧ (offN b r xs k).2 ≤ 8 := HBD.out k
        have hxb := hlx.out xs[k] (List.getElem_mem _)
        clear c1 c2 c3 eo HSP
        generalize (offN b r xs k).1 = lo at *
        generalize (offN b r xs k).2 = hi' at *
        generalize xs[k] = x at *
        subst e1 e2
        obtain ⟨m1, m2, m3, m4⟩ := hbd
        obtain ⟨x1, x2⟩ := hxb
        have i1 : (0 : Int) ≤ (k : Int) := by omega
        have i2 : (k : Int) < xs.length := by omega
        have i3 : IntKind.i64.wrap (x + lo) = x + lo := IntWalk.i64_in _ (by omega)
        have i4 : IntKind.i64.wrap (x + hi') = x + hi' := IntWalk.i64_in _ (by omega)
        have hz2 := hbw.size
        have n1 : b1 < wr.heap.size := by dsimp only at hl1; omega
        have n2 : b2 < wr.heap.size := by dsimp only at hl2; omega
        dsimp only at hl1 hl2
        clear x1 x2 m1 m2 m3 m4
        go_wp2_with fail
        go_region_held3 (fun w' => w'.cell? ⟨b1, o1 + k, none⟩ = some (.int .i64 x) ∧ w'.cell? ⟨b2, o2 + k * 2, none⟩ = some (.int .i64 lo) ∧ w'.cell? ⟨b2, o2 + k * 2 + 1, none⟩ = some (.int .i64 hi')) (go_keep)
          ((refine step_append_lies _ (by rfl) _ _ 47 (by rfl) w2.heap.size 23 i0 (.agg #[.int .i64 0, .int .i64 0]) 2 16 Try.underlying47 hi hz0 hz1 ‹i0.bytes = 16› rfl (by decide) _ k _ (by rfl) (HO.out.drew.alloc _) ⟨wr.heap.size, 0, none⟩ 1 1 [.int .i64 (x + lo), .int .i64 (x + hi')] (by rfl) rfl (cell_two_new _ _ _ _) (by simp [Value.oneCell']) (by omega) (by simp [maxLen]; omega) (by omega) (by simp; omega) (wr.heap.size + 1) (by simp) ?_; intro g cap w4 hown' hgrow hat hlt4
            have t1 := (hgrow.cell_far ⟨b1, o1 + k, none⟩ (by simp; omega) (by intro e; have := (HO.out.lt b1 e.symm).1; omega)).trans (cell_alloc1 (w := wr.drew) c1')
            have t2 := (hgrow.cell_far ⟨b2, o2 + k * 2, none⟩ (by simp; omega) (by intro e; have := (HO.out.lt b2 e.symm).1; omega)).trans (cell_alloc1 (w := wr.drew) c2')
            have t3 := (hgrow.cell_far ⟨b2, o2 + k * 2 + 1, none⟩ (by simp; omega) (by intro e; have := (HO.out.lt b2 e.symm).1; omega)).trans (cell_alloc1 (w := wr.drew) c3')))
        have HB4 := hid (own_grow (Bl.alloc (Bl.drew hbw) _) (B := w2.heap.size) (Nat.le_refl _) (fun j hj => (HO.out.lt j hj).1) hgrow)
        have HO4 : Hid (w4.ownsRow w2.heap.size 23 2 (.slice (some ⟨g, 0, none⟩) (k + 1) cap) (k + 1) (flat2 (spTo b r xs (k + 1)))) := by
          rw [spTo_succ, flat2_snoc, HSP'.out]; exact hown'
        clear t1 t2 t3 hown' hgrow hat hlt4 i3 i4
        go_wp2_with fail
        go_roundw
        case rel => exact ⟨k + 1, by omega, by go_num, HB4.out, HO4⟩
        case measure => simp [intOf]; omega
      · have hkn : k = xs.length := by omega
        have HPR : Hid (Pairs wr u9 (realsL b r xs)) := by
          subst hkn
          have := pairs_of_own (spTo_len _ _ _ _) HO.out
          rw [spTo_all] at this
          exact this
        clear HO
        go_wp2_with fail
        go_ret2
        exact ⟨_, rfl, HPR.out, Bl.call B2.out hbw⟩
theorem rReals_any (b l h r : Int) (v : Value) (xs : List Int) (w : World) (hv : Ints w v xs) :
    Calls Try.prog 34 #[.agg #[.int .i64 b, .int .i64 l, .int .i64 h, .int .i64 r], v] w (RetPE (realsF b l h r xs).1 (realsF b l h r xs).2 w) := by
  by_cases h0 : listedE b l h r xs = 0
  · obtain ⟨a, c, rfl, _⟩ := hv.shape
    exact rReals_ok b l h r a c xs w hv (hid h0) _ _ (hid rfl)
  · have := rReals_bad b l h r v xs w hv (hid h0)
    simp only [realsF, ne_eq, h0, not_false_eq_true, if_true]; exact this
end Go.Proofs.Ytdopgaljbpjpcaa
