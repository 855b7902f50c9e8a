/- aneroidref03.offsets. -/
import Derived.Test.YtdopgaljbpjpcaaRefA
import Derived.Test.YtdopgaljbpjpcaaAppendK
import Derived.Test.YtdopgaljbpjpcaaPlainR
namespace Go.Proofs.Ytdopgaljbpjpcaa
open Go.RowKit

/-- The offsets, narrowed from the left; then from the right. -/
def fo (b r : Int) (xs : List Int) : Nat → Int × Int
  | 0 => (-b, b)
  | k + 1 => afterF b r (fo b r xs k) (nth xs (k + 1) - nth xs k)
def ba (b r : Int) (xs : List Int) : Nat → Int × Int
  | 0 => fo b r xs (xs.length - 1)
  | j + 1 => bothF (fo b r xs (xs.length - 2 - j)) (aheadF b r (ba b r xs j) (nth xs (xs.length - 1 - j) - nth xs (xs.length - 2 - j)))
def offN (b r : Int) (xs : List Int) (k : Nat) : Int × Int := ba b r xs (xs.length - 1 - k)
theorem offN_last (b r : Int) (xs : List Int) : offN b r xs (xs.length - 1) = fo b r xs (xs.length - 1) := by
  unfold offN; rw [show xs.length - 1 - (xs.length - 1) = 0 by omega]; rfl
theorem offN_step {b r : Int} {xs : List Int} {k : Nat} (hk : k + 1 < xs.length) : offN b r xs k = bothF (fo b r xs k) (aheadF b r (offN b r xs (k + 1)) (nth xs (k + 1) - nth xs k)) := by
  unfold offN
  rw [show xs.length - 1 - k = (xs.length - 1 - (k + 1)) + 1 by omega, ba]
  rw [show xs.length - 2 - (xs.length - 1 - (k + 1)) = k by omega, show xs.length - 1 - (xs.length - 1 - (k + 1)) = k + 1 by omega]
theorem fo_bd {b r : Int} (hb : 0 ≤ b) (hb8 : b ≤ 8) (hr : 0 ≤ r) (xs : List Int) : ∀ k, -8 ≤ (fo b r xs k).1 ∧ (fo b r xs k).1 ≤ 8 ∧ -8 ≤ (fo b r xs k).2 ∧ (fo b r xs k).2 ≤ 8
  | 0 => by simp only [fo]; omega
  | k + 1 => by
    have ih := fo_bd hb hb8 hr xs k
    simp only [fo, afterF]
    split
    · simp
    · split
      · simp only [bothF]; omega
      · split
        · simp
        · unfold endF; split <;> simp only <;> omega
theorem ba_bd {b r : Int} (hb : 0 ≤ b) (hb8 : b ≤ 8) (hr : 0 ≤ r) (hr2 : r ≤ 12000) {xs : List Int} (hx : ∀ x ∈ xs, -50000 ≤ x ∧ x ≤ 50000) : ∀ j, -8 ≤ (ba b r xs j).1 ∧ (ba b r xs j).1 ≤ 120000 ∧ -120000 ≤ (ba b r xs j).2 ∧ (ba b r xs j).2 ≤ 8
  | 0 => by have := fo_bd hb hb8 hr xs (xs.length - 1); simp only [ba]; omega
  | j + 1 => by
    have ih := ba_bd hb hb8 hr hr2 hx j
    have hf := fo_bd hb hb8 hr xs (xs.length - 2 - j)
    have hn : ∀ k, -50000 ≤ nth xs k ∧ nth xs k ≤ 50000 := by
      intro k
      by_cases h : k < xs.length
      · rw [nth_eq h]; exact hx _ (List.getElem_mem _)
      · simp [nth, List.getD_eq_getElem?_getD, h]
    have h1 := hn (xs.length - 1 - j)
    have h2 := hn (xs.length - 2 - j)
    simp only [ba, aheadF]
    generalize nth xs (xs.length - 1 - j) = x at *
    generalize nth xs (xs.length - 2 - j) = p at *
    split
    · simp only [bothF]; omega
    · split
      · simp only [bothF]; omega
      · split
        · simp only [bothF]; omega
        · simp only [fromF, bothF]; split <;> simp only <;> omega
def flat2 (ps : List (Int × Int)) : List Value := ps.flatMap fun x => [.int .i64 x.1, .int .i64 x.2]
theorem flat2_at : ∀ (ps : List (Int × Int)) (k : Nat), (hk : k < ps.length) → (flat2 ps)[k * 2]? = some (.int .i64 ps[k].1) ∧ (flat2 ps)[k * 2 + 1]? = some (.int .i64 ps[k].2)
  | x :: xs, 0, _ => by simp [flat2]
  | x :: xs, k + 1, hk => by
    have := flat2_at xs k (by simpa using hk)
    simp only [flat2, List.flatMap_cons, List.getElem_cons_succ] at this ⊢
    refine ⟨?_, ?_⟩
    · rw [show (k + 1) * 2 = k * 2 + 1 + 1 by omega]; simpa using this.1
    · rw [show (k + 1) * 2 + 1 = k * 2 + 1 + 1 + 1 by omega]; simpa using this.2
theorem flat2_snoc (ps : List (Int × Int)) (x : Int × Int) : flat2 (ps ++ [x]) = flat2 ps ++ [.int .i64 x.1, .int .i64 x.2] := by simp [flat2]
theorem row_of_own {w : World} {base e n c g : Nat} {ps : List (Int × Int)} (hn : ps.length = n) (h : w.ownsRow base e 2 (.slice (some ⟨g, 0, none⟩) n c) n (flat2 ps)) : RowOf w g ps := by
  intro k hk
  obtain ⟨f1, f2⟩ := flat2_at ps k hk
  refine ⟨?_, ?_, h.frozenAt (k * 2), h.frozenAt (k * 2 + 1)⟩
  · rw [h.cellAt (k * 2) (by omega), f1]
  · rw [h.cellAt (k * 2 + 1) (by omega), f2]
def foTo (b r : Int) (xs : List Int) (k : Nat) : List (Int × Int) := (List.range k).map (fo b r xs)
theorem foTo_len (b r : Int) (xs : List Int) (k : Nat) : (foTo b r xs k).length = k := by simp [foTo]
theorem foTo_succ (b r : Int) (xs : List Int) (k : Nat) : foTo b r xs (k + 1) = foTo b r xs k ++ [fo b r xs k] := by simp [foTo, List.range_succ]
theorem cell_two_new (w : World) (x y : Value) (t : TypeId) : ∀ j u, [x, y][j]? = some u → (w.alloc (.cells #[x, y] t)).cell? ((⟨w.heap.size, 0, none⟩ : Addr).add j) = some u := by
  intro j u hj
  match j, hj with
  | 0, hj => simp at hj; subst hj; simp [Addr.add]
  | 1, hj => simp at hj; subst hj; simp [Addr.add]
theorem ownsRow_lit2 (w : World) (x y : Int) (B : Nat) (hB : w.heap.size = B) : (w.alloc (.cells #[.int .i64 x, .int .i64 y] 23)).ownsRow B 23 2 (.slice (some ⟨B, 0, none⟩) 1 1) 1 [.int .i64 x, .int .i64 y] := by
  subst hB
  exact ⟨rfl, .inr ⟨w.heap.size, 1, #[.int .i64 x, .int .i64 y], rfl, Nat.le_refl _, heap_alloc_new w _, Nat.le_refl _, by simp [maxLen], rfl, rfl⟩⟩
theorem Pbx.grown {B : Nat} {b l h r : Int} {W W' : World} (hp : Pbx B b l h r W) {row : Option Nat} (hg : W.grownBy W' row) (hne : some B ≠ row) : Pbx B b l h r W' := by
  obtain ⟨h0, h1, h2, h3, h4⟩ := hp
  have := hg.size
  exact ⟨(hg.cell_far ⟨B, 0, none⟩ h4 hne).trans h0, (hg.cell_far ⟨B, 1, none⟩ h4 hne).trans h1, (hg.cell_far ⟨B, 2, none⟩ h4 hne).trans h2, (hg.cell_far ⟨B, 3, none⟩ h4 hne).trans h3, by omega⟩

theorem own_cap {w : World} {base e size n c g : Nat} {xs : List Value} (h : w.ownsRow base e size (.slice (some ⟨g, 0, none⟩) n c) n xs) : n ≤ c ∧ c ≤ maxLen := by
  rcases h.2 with ⟨e0, _⟩ | ⟨g', cap, cur, e0, hbg, hg, hnc, hcm, hcs, htake⟩
  · cases e0
  · simp only [Value.slice.injEq] at e0
    obtain ⟨_, _, rfl⟩ := e0
    exact ⟨hnc, hcm⟩
theorem Pbx.setC {B : Nat} {b l h r : Int} {W : World} (hp : Pbx B b l h r W) (p : Addr) (hne : B ≠ p.block) (u : Value) : Pbx B b l h r (W.setCell p u) := by
  obtain ⟨h0, h1, h2, h3, h4⟩ := hp
  have hk : ∀ o, (W.setCell p u).cell? ⟨B, o, none⟩ = W.cell? ⟨B, o, none⟩ := fun o => World.cell?_setCell_other W p ⟨B, o, none⟩ u (fun e => hne (by rw [e]))
  exact ⟨(hk 0).trans h0, (hk 1).trans h1, (hk 2).trans h2, (hk 3).trans h3, by simpa [World.setCell] using h4⟩
/-- From place m on narrowed from the right, too. -/
def mixL (b r : Int) (xs : List Int) (m : Nat) : List (Int × Int) := (List.range xs.length).map fun k => if m ≤ k then offN b r xs k else fo b r xs k
theorem mixL_len (b r : Int) (xs : List Int) (m : Nat) : (mixL b r xs m).length = xs.length := by simp [mixL]
theorem mixL_start (b r : Int) (xs : List Int) : mixL b r xs (xs.length - 1) = foTo b r xs xs.length := by
  unfold mixL foTo
  refine List.map_congr_left fun k hk => ?_
  have hk' : k < xs.length := by simpa using hk
  by_cases h : xs.length - 1 ≤ k
  · rw [if_pos h, show k = xs.length - 1 by omega, offN_last]
  · rw [if_neg h]
theorem mixL_end (b r : Int) (xs : List Int) : mixL b r xs 0 = (List.range xs.length).map (offN b r xs) := by
  unfold mixL; exact List.map_congr_left fun k _ => if_pos (Nat.zero_le k)
theorem mixL_step {b r : Int} {xs : List Int} {m : Nat} {u v : Int} (hx : offN b r xs (m - 1) = (u, v)) (c d : Int) (hd : d = u) : ((mixL b r xs m).set (m - 1) (u, c)).set (m - 1) (d, v) = mixL b r xs (m - 1) := by
  subst hd
  rw [List.set_set]
  apply List.ext_getElem
  · simp [mixL]
  · intro k h1 h2
    rw [List.getElem_set]
    simp only [mixL, List.getElem_map, List.getElem_range]
    split
    · rename_i e
      subst e
      rw [if_pos (Nat.le_refl _), hx]
    · rename_i e
      by_cases h3 : m ≤ k
      · rw [if_pos h3, if_pos (by omega)]
      · rw [if_neg h3, if_neg (by omega)]
theorem pairs_of_row {w : World} {g n c : Nat} {ps : List (Int × Int)} (h : RowOf w g ps) (hn : ps.length = n) (h1 : n ≤ c) (h2 : c ≤ maxLen) : Pairs w (.slice (some ⟨g, 0, none⟩) n c) ps := by
  subst hn
  refine ⟨_, _, rfl, h1, h2, fun _ => ⟨g, 0, rfl, fun k hk => ?_⟩⟩
  obtain ⟨c1, c2, _, _⟩ := h k hk
  exact ⟨by simpa using c1, by simpa using c2⟩

attribute [local go_sem] cell_reg
set_option maxRecDepth 100000 in
set_option maxHeartbeats 8000000 in
theorem offsets_any (b l h r : Int) (v : Value) (xs : List Int) (w : World) (hv : Ints w v xs) (hok : Hid (penOk b l h r = true)) (hlx : Hid (∀ x ∈ xs, -50000 ≤ x ∧ x ≤ 50000)) (h1 : 1 ≤ xs.length) (h4 : xs.length ≤ 401) (t : Bool) (ht : Hid ((∀ k, k < xs.length → (offN b r xs k).1 ≤ (offN b r xs k).2) ↔ t = true)) :
    Calls Try.prog 80 #[.agg #[.int .i64 b, .int .i64 l, .int .i64 h, .int .i64 r], v] w fun e w' => ∃ v, e = .returned (.tuple #[v, .bool t]) ∧ Hid (t = true → Pairs w' v ((List.range xs.length).map (offN b r xs))) ∧ Below w.heap.size w w' := by
  have hbb := penOk_iff.1 hok.out
  have hb0 := hbb.1; have hb8 := hbb.2.1; have hr0 := hbb.2.2.2.2.2.2.1; have hr2 := hbb.2.2.2.2.2.2.2
  clear hbb
  obtain ⟨a, c, rfl, hm⟩ := hv.shape
  have HV := hid hv
  clear hv
  obtain ⟨i0, hi, hz0, hz1, hz2⟩ := info_parts Try.info23
  go_enter Try.func80, Try.ntmps80
  go_wp2_with fail
  go_loopw [7, 8] (fun ou i wr => ∃ (k g cp : Nat), 1 ≤ k ∧ k ≤ xs.length ∧ i = .int .i64 k ∧ ou = .slice (some ⟨g, 0, none⟩) k cp ∧ Below w.heap.size w wr ∧ Hid (Pbx w.heap.size b l h r wr) ∧ w.heap.size + 1 + 1 ≤ wr.heap.size ∧
    Hid (wr.ownsRow (w.heap.size + 1 + 1) 23 2 (.slice (some ⟨g, 0, none⟩) k cp) k (flat2 (foTo b r xs k)))) (fun _ i _ => xs.length - (intOf i).toNat)
  case atStart =>
    refine ⟨1, w.heap.size + 1 + 1, 1, by omega, h1, rfl, rfl, Bl.alloc (Bl.alloc (Bl.alloc (Below.refl _ _) _) _) _, ?_, by simp, ?_⟩
    · exact ((Pbx.new _ b l h r w 25 rfl).alloc _).alloc _
    · exact ownsRow_lit2 _ (-b) b _ (by simp)
  case round =>
    obtain ⟨k, g, cp, hk1, hk, rfl, rfl, hbw, HP, hsz, HO⟩ := hrel
    by_cases hlt : k < xs.length
    · have hkp : k - 1 < xs.length := by omega
      have hx1 := hlx.out xs[k] (List.getElem_mem _)
      have hx2 := hlx.out xs[k - 1] (List.getElem_mem _)
      obtain ⟨bx, ox, rfl, cx⟩ := (HV.out.below hbw).cellAt hlt
      obtain ⟨b2, o2, e2, cp1⟩ := (HV.out.below hbw).cellAt hkp
      cases e2
      have hbx : bx < w.heap.size := by
        obtain ⟨b9, o9, e9, c9⟩ := HV.out.cellAt hlt
        cases e9
        exact World.block_lt_of_cell? w _ c9
      have hkf : k - 1 < (foTo b r xs k).length := by rw [foTo_len]; omega
      obtain ⟨l1, l2, _, _⟩ := row_of_own (foTo_len b r xs k) HO.out (k - 1) hkf
      have ef : (foTo b r xs k)[k - 1] = fo b r xs (k - 1) := by simp [foTo]
      rw [ef] at l1 l2
      have hfb := fo_bd hb0 hb8 hr0 xs (k - 1)
      have HN : Hid (∀ x p f1 f2 : Int, xs[k] = x → xs[k - 1] = p → fo b r xs (k - 1) = (f1, f2) → fo b r xs k = afterF b r (f1, f2) (x - p)) := by
        intro x p f1 f2 hx hp hf
        have : fo b r xs (k - 1 + 1) = afterF b r (fo b r xs (k - 1)) (nth xs (k - 1 + 1) - nth xs (k - 1)) := rfl
        rw [show k - 1 + 1 = k by omega, hf, nth_eq hlt, nth_eq hkp, hx, hp] at this
        exact this
      have HN' := hid (HN.out _ _ _ _ rfl rfl rfl)
      clear HN ef
      generalize xs[k] = x at *
      generalize xs[k - 1] = p at *
      generalize hfo : fo b r xs (k - 1) = f at *
      clear hfo
      obtain ⟨f1, f2⟩ := f
      simp only at l1 l2 hfb
      have HNN : Hid (fo b r xs k = afterF b r (f1, f2) (x - p)) := HN'
      clear HN'
      obtain ⟨p0, p1, p2, p3, p4⟩ := HP.out
      have hgl : g < wr.heap.size := World.block_lt_of_cell? wr _ l1
      have hbl : bx < wr.heap.size := World.block_lt_of_cell? wr _ cx
      have hge : w.heap.size + 1 + 1 ≤ g := (HO.out.lt g rfl).1
      obtain ⟨m1, m2, m3, m4⟩ := hfb
      obtain ⟨x1, x2⟩ := hx1
      obtain ⟨y1, y2⟩ := hx2
      have i1 : (0 : Int) ≤ (k : Int) := by omega
      have i2 : (k : Int) < xs.length := by omega
      have i3 : (0 : Int) ≤ (k : Int) - 1 := by omega
      have i4 : (k : Int) - 1 < xs.length := by omega
      have i4' : (k : Int) - 1 < k := by omega
      have j1 : (1 : Int) ≤ (k : Int) := by omega
      have j2 : (k : Int) < xs.length + 1 := by omega
      have j3 : k - 1 < k := by omega
      have j4 : k < xs.length + 1 := by omega
      have i5 : ((k : Int) - 1).toNat = k - 1 := by omega
      have i6 : IntKind.i64.wrap ((k : Int) - 1) = (k : Int) - 1 := IntWalk.i64_in _ (by omega)
      have i7 : IntKind.i64.wrap (x - p) = x - p := IntWalk.i64_in _ (by omega)
      have c1 : -200000 ≤ x - p := by omega
      have c2 : x - p ≤ 200000 := by omega
      have s1 : -200000 ≤ f1 ∧ f1 ≤ 200000 := by omega
      have s2 : -200000 ≤ f2 ∧ f2 ≤ 200000 := by omega
      obtain ⟨z1, z2, hz⟩ : ∃ z1 z2, Hid (afterF b r (f1, f2) (x - p) = (z1, z2)) := ⟨_, _, rfl⟩
      have HC : Hid (∀ W, Calls Try.prog 109 #[.agg #[.int .i64 b, .int .i64 l, .int .i64 h, .int .i64 r], .agg #[.int .i64 f1, .int .i64 f2], .int .i64 (x - p)] W (RetS (z1, z2) W)) := by
        intro W; rw [← hz.out]; exact after_any b l h r f1 f2 (x - p) W hb0 hb8 hr0 hr2 c1 c2 s1 s2
      clear c1 c2 s1 s2 x1 x2 y1 y2
      go_wp2_with fail
      go_region_held3 (fun w' => (w'.cell? ⟨g, (k - 1) * 2, none⟩ = some (.int .i64 f1) ∧ w'.cell? ⟨g, (k - 1) * 2 + 1, none⟩ = some (.int .i64 f2)) ∧ (w'.cell? ⟨bx, ox + k, none⟩ = some (.int .i64 x) ∧ w'.cell? ⟨bx, ox + (k - 1), none⟩ = some (.int .i64 p)) ∧ w'.cell? ⟨w.heap.size, 0, none⟩ = some (.int .i64 b) ∧ w'.cell? ⟨w.heap.size, 1, none⟩ = some (.int .i64 l) ∧ w'.cell? ⟨w.heap.size, 2, none⟩ = some (.int .i64 h) ∧ w'.cell? ⟨w.heap.size, 3, none⟩ = some (.int .i64 r)) (go_keep)
        (first
          | (go_at_call 109; refine (HC.out _).mono ?_; rintro e wa ⟨rfl, hba⟩
             have HPa := hid (Pbx.next (by exact HP.out) hba)
             have HBa := hid (Bl.call (Bl.drew hbw) hba)
             have HOa := hid (ownsRow_below2 (HO.out.drew) hba)
             have LG := hid (Nat.lt_of_lt_of_le hgl hba.size)
             have u1 := (hba.cell (p := ⟨g, (k - 1) * 2, none⟩) hgl).trans l1
             have u2 := (hba.cell (p := ⟨g, (k - 1) * 2 + 1, none⟩) hgl).trans l2
             have u3 := (hba.cell (p := ⟨bx, ox + k, none⟩) hbl).trans cx
             have u4 := (hba.cell (p := ⟨bx, ox + (k - 1), none⟩) hbl).trans cp1
             have u5 : g < wa.heap.size := LG.out
             have u6 : bx < wa.heap.size := Nat.lt_of_lt_of_le hbl hba.size
             clear hba
             obtain ⟨x0, x1, x2, x3, x4⟩ := HPa.out)
          | (refine step_append_kept _ (by rfl) _ _ 47 (by rfl) (w.heap.size + 1 + 1) 23 i0 (.agg #[.int .i64 0, .int .i64 0]) 2 16 Try.underlying47 hi hz0 hz1 hz2 rfl (by decide) g cp k _ (by rfl) (HOa.out.alloc _) ⟨wa.heap.size, 0, none⟩ 1 1 [.int .i64 z1, .int .i64 z2] (by rfl) rfl (cell_two_new _ _ _ _) (by simp [Value.oneCell']) (by simp [maxLen]; omega) (by omega) (by simp; omega) ?_; intro v' w4 hown' hgrow hkept
             have HPd := hid ((HPa.out.alloc _).grown hgrow (by simp; omega))
             have HBd := hid (own_grow (Bl.alloc HBa.out _) (B := w.heap.size) (Nat.le_refl _) (v := .slice (some ⟨g, 0, none⟩) k cp) (by rintro j hj; cases hj; show w.heap.size ≤ g; omega) hgrow)
             have t1 := (hkept ((k - 1) * 2) (by omega)).trans (cell_alloc1 u1)
             have t2 := (hkept ((k - 1) * 2 + 1) (by omega)).trans (cell_alloc1 u2)
             have t3 := (hgrow.cell_far ⟨bx, ox + k, none⟩ (by simp; omega) (by simp; omega)).trans (cell_alloc1 u3)
             have t4 := (hgrow.cell_far ⟨bx, ox + (k - 1), none⟩ (by simp; omega) (by simp; omega)).trans (cell_alloc1 u4)
             clear x0 x1 x2 x3 x4 u1 u2 u3 u4
             obtain ⟨x0, x1, x2, x3, x4⟩ := HPd.out))
      obtain ⟨g', cap', rfl⟩ := ownsRow_succ hown'
      have HO4 : Hid (w4.ownsRow (w.heap.size + 1 + 1) 23 2 (.slice (some ⟨g', 0, none⟩) (k + 1) cap') (k + 1) (flat2 (foTo b r xs (k + 1)))) := by
        rw [foTo_succ, flat2_snoc, HNN.out, hz.out]; exact hown'
      have hsz4 := hgrow.size
      simp only [World.size_alloc] at hsz4
      clear hown' hgrow hkept t1 t2 t3 t4 x0 x1 x2 x3 x4
      go_wp2_with fail
      go_roundw
      case rel => exact ⟨k + 1, g', cap', by omega, by omega, by go_num, rfl, HBd.out, HPd, by omega, HO4⟩
      case measure => simp [intOf]; omega
    · have hkn : k = xs.length := by omega
      subst hkn
      obtain ⟨hcap1, hcap2⟩ := own_cap HO.out
      have HR : Hid (RowOf wr g (mixL b r xs (xs.length - 1))) := by rw [mixL_start]; exact row_of_own (foTo_len _ _ _ _) HO.out
      have hge : w.heap.size + 1 + 1 ≤ g := (HO.out.lt g rfl).1
      have HCAP := hid hcap2
      clear HO hlt hk hk1 hcap2
      go_wp2_with fail
      go_loopw [9] (fun i wq => ∃ m : Nat, m < xs.length ∧ i = .int .i64 m ∧ Below w.heap.size w wq ∧ Hid (Pbx w.heap.size b l h r wq) ∧ Hid (RowOf wq g (mixL b r xs m))) (fun i _ => (intOf i).toNat)
      case atStart => exact ⟨xs.length - 1, by omega, by go_num, hbw, HP, HR⟩
      case round =>
        obtain ⟨m, hm, rfl, hbq, HPq, HRq⟩ := hrel
        by_cases hm0 : 0 < m
        · have hmp : m - 1 < xs.length := by omega
          have hx1 := hlx.out xs[m] (List.getElem_mem _)
          have hx2 := hlx.out xs[m - 1] (List.getElem_mem _)
          obtain ⟨bx, ox, rfl, cx⟩ := (HV.out.below hbq).cellAt hm
          obtain ⟨b2, o2, e2, cp1⟩ := (HV.out.below hbq).cellAt hmp
          cases e2
          have hmf : m < (mixL b r xs m).length := by rw [mixL_len]; omega
          have hmf' : m - 1 < (mixL b r xs m).length := by rw [mixL_len]; omega
          have e1 : (mixL b r xs m)[m] = offN b r xs m := by simp [mixL]
          have e2 : (mixL b r xs m)[m - 1] = fo b r xs (m - 1) := by simp [mixL]; omega
          obtain ⟨l1, l2, l3, l4⟩ := HRq.out m hmf
          obtain ⟨k1, k2, k3, k4⟩ := HRq.out (m - 1) hmf'
          rw [e1] at l1 l2
          rw [e2] at k1 k2
          have hfb := fo_bd hb0 hb8 hr0 xs (m - 1)
          have hbb : -8 ≤ (offN b r xs m).1 ∧ (offN b r xs m).1 ≤ 120000 ∧ -120000 ≤ (offN b r xs m).2 ∧ (offN b r xs m).2 ≤ 8 := ba_bd hb0 hb8 hr0 hr2 hlx.out _
          have HN : Hid (∀ x p : Int, xs[m] = x → xs[m - 1] = p → ∀ f1 f2 s1 s2, fo b r xs (m - 1) = (f1, f2) → offN b r xs m = (s1, s2) → offN b r xs (m - 1) = bothF (f1, f2) (aheadF b r (s1, s2) (x - p))) := by
            intro x p hx hp f1 f2 s1 s2 hf hs
            have := offN_step (b := b) (r := r) (xs := xs) (k := m - 1) (by omega)
            rw [show m - 1 + 1 = m by omega, hf, hs, nth_eq hm, nth_eq hmp, hx, hp] at this
            exact this
          have HN' := hid (HN.out _ _ rfl rfl (fo b r xs (m - 1)).1 (fo b r xs (m - 1)).2 (offN b r xs m).1 (offN b r xs m).2 rfl rfl)
          clear HN e1 e2 l3 l4
          generalize xs[m] = x at *
          generalize xs[m - 1] = p at *
          generalize hfo : fo b r xs (m - 1) = f at *
          generalize hso : offN b r xs m = sq at *
          clear hfo hso
          obtain ⟨f1, f2⟩ := f
          obtain ⟨s1, s2⟩ := sq
          simp only at k1 k2 l1 l2 hfb hbb
          have HNN : Hid (offN b r xs (m - 1) = bothF (f1, f2) (aheadF b r (s1, s2) (x - p))) := HN'
          clear HN'
          obtain ⟨p0, p1, p2, p3, p4⟩ := HPq.out
          have hgl : g < wr.heap.size := World.block_lt_of_cell? wr _ l1
          have hbl : bx < wr.heap.size := World.block_lt_of_cell? wr _ cx
          obtain ⟨m1, m2, m3, m4⟩ := hfb
          obtain ⟨n1, n2, n3, n4⟩ := hbb
          obtain ⟨x1, x2⟩ := hx1
          obtain ⟨y1, y2⟩ := hx2
          have i1 : (0 : Int) ≤ (m : Int) := by omega
          have i2 : (m : Int) < xs.length := by omega
          have i3 : (0 : Int) ≤ (m : Int) - 1 := by omega
          have i4 : (m : Int) - 1 < xs.length := by omega
          have i5 : ((m : Int) - 1).toNat = m - 1 := by omega
          have i6 : IntKind.i64.wrap ((m : Int) - 1) = (m : Int) - 1 := IntWalk.i64_in _ (by omega)
          have i7 : IntKind.i64.wrap (x - p) = x - p := IntWalk.i64_in _ (by omega)
          have i8 : decide (0 < m) = true := by simpa using hm0
          have i9 : decide ((0 : Int) < (m : Int)) = true := by simp; omega
          have c1 : -200000 ≤ x - p := by omega
          have c2 : x - p ≤ 200000 := by omega
          have t1 : -200000 ≤ s1 ∧ s1 ≤ 200000 := by omega
          have t2 : -200000 ≤ s2 ∧ s2 ≤ 200000 := by omega
          obtain ⟨z1, z2, hz⟩ : ∃ z1 z2, Hid (aheadF b r (s1, s2) (x - p) = (z1, z2)) := ⟨_, _, rfl⟩
          have HC : Hid (∀ W, Calls Try.prog 110 #[.agg #[.int .i64 b, .int .i64 l, .int .i64 h, .int .i64 r], .agg #[.int .i64 s1, .int .i64 s2], .int .i64 (x - p)] W fun e w' => e = .returned (.agg #[.int .i64 z1, .int .i64 z2]) ∧ Below W.heap.size W w') := by
            intro W
            have := ahead_any b l h r s1 s2 (x - p) W hb0 hb8 hr0 hr2 c1 c2 t1 t2
            rw [hz.out] at this
            exact this
          have HD : Hid (∀ W, Calls Try.prog 92 #[.agg #[.int .i64 f1, .int .i64 f2], .agg #[.int .i64 z1, .int .i64 z2]] W fun e w' => e = .returned (.agg #[.int .i64 (max f1 z1), .int .i64 (min f2 z2)]) ∧ Below W.heap.size W w') := fun W => both_any f1 f2 z1 z2 W
          clear c1 c2 t1 t2 x1 x2 y1 y2
          go_wp2_with fail
          refine wp_region_front_b (l1 := [_, _, _, _, _, _, _, _, _, _, _, _, _, _, _, _, _, _, _, _, _, _, _, _, _, _]) (l2 := [_]) (by kernel_rfl) (by kernel_rfl) (by kernel_rfl) ?_
          dsimp only [List.cons_append, List.nil_append, List.length_cons, List.length_nil, Nat.reduceAdd]
          repeat (go_big_quiet_step (first | exact Calls.regrown_of (HC.out _) | exact Calls.regrown_of (HD.out _)))
          refine wpQuiet_nil ?_
          intro w2 hb2
          have HB2 := hid (Bl.call hbq hb2)
          have HP2 := hid (HPq.out.next hb2)
          have HR2 := hid (HRq.out.keep (hb2.block g hgl))
          obtain ⟨k1', k2', k3', k4'⟩ := HR2.out (m - 1) hmf'
          clear k1 k2 k3 k4 l1 l2 p0 p1 p2 p3 p4 cx cp1 i5 i6 i7
          refine wpAnyP_one (i := 26) (by kernel_rfl) rfl (by rfl) ?_
          intro K' hK'
          go_wp2_with fail
          refine ⟨by kernel_rfl, ?_⟩
          go_wp2_with fail
          go_roundw
          case rel =>
            have hat : offN b r xs (m - 1) = (max f1 z1, min f2 z2) := by rw [HNN.out, hz.out]; rfl
            have hR3 := (HR2.out.set1 hmf' (max f1 z1)).set2 (by simpa using hmf') (min f2 z2)
            rw [mixL_step hat _ _ (by simp)] at hR3
            refine ⟨m - 1, by omega, by go_num, ?_, ?_, hR3⟩
            · exact Bl.setCell (Bl.setCell HB2.out (by show w.heap.size ≤ g; omega) _) (by show w.heap.size ≤ g; omega) _
            · exact (HP2.out.setC _ (by show w.heap.size ≠ g; omega) _).setC _ (by show w.heap.size ≠ g; omega) _
          case measure => simp [intOf]; omega
        · have hm00 : m = 0 := by omega
          have HR0 : Hid (RowOf wr g ((List.range xs.length).map (offN b r xs))) := by rw [← mixL_end, ← hm00]; exact HRq.out
          have i8 : decide (0 < m) = false := by simpa using hm0
          have i9 : decide ((0 : Int) < (m : Int)) = false := by simp; omega
          clear hm00
          have htn : Hid (¬ (∀ k, k < xs.length → (offN b r xs k).1 ≤ (offN b r xs k).2) → t = false) := by
            intro hn
            cases t with
            | false => rfl
            | true => exact absurd (ht.out.2 rfl) hn
          have hgr : g < wr.heap.size := World.block_lt_of_cell? wr _ (HR0.out 0 (by simp; omega)).1
          go_wp2_with fail
          go_loopw [10] (fun i wz => ∃ k : Nat, k ≤ xs.length ∧ i = .int .i64 k ∧ Below wr.heap.size wr wz ∧ Hid (∀ j, j < k → (offN b r xs j).1 ≤ (offN b r xs j).2)) (fun i _ => xs.length - (intOf i).toNat)
          case atStart => exact ⟨0, by omega, rfl, Below.refl _ _, fun j hj => by omega⟩
          case round =>
            obtain ⟨k, hk, rfl, hbz, HN⟩ := hrel
            by_cases hlt : k < xs.length
            · have hkf : k < ((List.range xs.length).map (offN b r xs)).length := by simpa using hlt
              obtain ⟨c1, c2, c3, c4⟩ := (HR0.out.keep (hbz.block g hgr)) k hkf
              have e1 : ((List.range xs.length).map (offN b r xs))[k] = offN b r xs k := by simp
              rw [e1] at c1 c2
              have HS : Hid (∀ lo hi, offN b r xs k = (lo, hi) → (lo ≤ hi → ∀ j, j < k + 1 → (offN b r xs j).1 ≤ (offN b r xs j).2) ∧ (hi < lo → ¬ ∀ k, k < xs.length → (offN b r xs k).1 ≤ (offN b r xs k).2)) := by
                intro lo hi he
                refine ⟨fun hle j hj => ?_, fun hgt hall => ?_⟩
                · by_cases e : j = k
                  · subst e; rw [he]; exact hle
                  · exact HN.out j (by omega)
                · have := hall k hlt; rw [he] at this; simp only at this; omega
              have HS' := hid (HS.out (offN b r xs k).1 (offN b r xs k).2 rfl)
              clear HS e1 c3 c4
              generalize (offN b r xs k).1 = lo at *
              generalize (offN b r xs k).2 = hi at *
              have i1 : (0 : Int) ≤ (k : Int) := by omega
              have i2 : (k : Int) < xs.length := by omega
              by_cases hlo : hi < lo
              · have g1 : decide (hi < lo) = true := by simpa using hlo
                obtain rfl := htn.out (HS'.out.2 hlo)
                go_wp2_with fail
                go_quiet (fail)
                go_wp2_with fail
                go_ret2
                exact ⟨_, rfl, hid (fun h => by cases h), Bl.drewN (Bl.call hbq hbz) _⟩
              · have g1 : decide (hi < lo) = false := by simpa using hlo
                have HN2 := hid (HS'.out.1 (by omega))
                go_wp2_with fail
                go_quiet (fail)
                go_wp2_with fail
                go_roundw
                case rel => exact ⟨k + 1, by omega, by go_num, Bl.drewN hbz _, HN2.out⟩
                case measure => simp [intOf]; omega
            · have hok2 : ∀ j, j < xs.length → (offN b r xs j).1 ≤ (offN b r xs j).2 := fun j hj => HN.out j (by omega)
              obtain rfl := ht.out.1 hok2
              have HPR := hid (pairs_of_row (HR0.out.keep (hbz.block g hgr)) (by simp) hcap1 HCAP.out)
              clear hok2
              go_wp2_with fail
              go_ret2
              exact ⟨_, rfl, HPR, Bl.call hbq hbz⟩
end Go.Proofs.Ytdopgaljbpjpcaa
