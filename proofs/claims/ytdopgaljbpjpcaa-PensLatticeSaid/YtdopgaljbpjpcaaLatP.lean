/- Real levels behind one list as a lattice, plain; the lattice law; three rows of the own of a call. -/
import Derived.Test.YtdopgaljbpjpcaaKeeps
import Derived.Test.YtdopgaljbpjpcaaPlainR
import Derived.Test.YtdopgaljbpjpcaaKeepsH
namespace Go.Proofs.Ytdopgaljbpjpcaa

theorem momF_fst {xs ys : List Int} (h : xs.length = ys.length) : (momF xs ys).map (·.1) = xs := by
  unfold momF; exact List.map_fst_zip (by omega)
theorem momF_snd {xs ys : List Int} (h : xs.length = ys.length) : (momF xs ys).map (·.2) = ys := by
  unfold momF; exact List.map_snd_zip (by omega)
theorem scan_lvl {b : Int} (hb : 0 ≤ b) : ∀ (xs : List Int) (s : Int), (-50000 ≤ s ∧ s ≤ 50000) → (∀ x ∈ xs, -50000 ≤ x ∧ x ≤ 50000) → ∀ y ∈ scanL b s xs, -50000 ≤ y ∧ y ≤ 50000
  | [], _, _, _, y, hy => by simp [scanL] at hy
  | x :: xs, s, hs, hx, y, hy => by
    have h1 := hx x (by simp)
    have h2 : -50000 ≤ lazyN b s x ∧ lazyN b s x ≤ 50000 := by unfold lazyN; omega
    simp only [scanL, List.mem_cons] at hy
    rcases hy with rfl | hy
    · exact h2
    · exact scan_lvl hb xs _ h2 (fun z hz => hx z (by simp [hz])) y hy
theorem shown_lvl {b f : Int} (hb : 0 ≤ b) {xs : List Int} (hf : -50000 ≤ f ∧ f ≤ 50000) (hx : ∀ x ∈ xs, -50000 ≤ x ∧ x ≤ 50000) : ∀ y ∈ shownL b f xs, -50000 ≤ y ∧ y ≤ 50000 := by
  cases xs with
  | nil => simp [shownL]
  | cons x t =>
    intro y hy
    simp only [shownL, List.mem_cons] at hy
    rcases hy with rfl | hy
    · exact hf
    · exact scan_lvl hb t f hf (fun z hz => hx z (by simp [hz])) y hy
/-- Of a list that begins with f: it is kept just if it is what is shown. -/
theorem one_iff {b l h r f : Int} {real other : List Int} (hl : other.length = real.length) (h0 : 0 < real.length) (hf : other.headD 0 = f) :
    keepsF b l h r (momF other real) = 0 ↔ followOk b l h r f real = true ∧ shownL b f real = other := by
  have hml : 0 < (momF other real).length := by rw [mom_len]; omega
  rw [keepsF_iff, momF_fst hl, momF_snd hl, mom_shown hml, momF_fst hl, momF_snd hl, followOk_iff, hf]
  constructor
  · rintro ⟨hp, h1, h2, h3, h4, h5⟩
    refine ⟨⟨hp, ?_, h2, h3, h4⟩, h5⟩
    have := (listOk_iff.1 h1).2 f (by
      cases other with
      | nil => simp at hl; omega
      | cons o t => simp at hf; simp [hf])
    exact lvl_iff.2 this
  · rintro ⟨⟨hp, h1, h2, h3, h4⟩, h5⟩
    refine ⟨hp, ?_, h2, h3, h4, h5⟩
    have hx := listOk_iff.1 h2
    refine listOk_iff.2 ⟨by rw [hl]; exact hx.1, ?_⟩
    rw [← h5]
    exact shown_lvl (penOk_iff.1 hp).1 (lvl_iff.1 h1) hx.2
theorem shown_head {b f : Int} {real : List Int} (h0 : 0 < real.length) : (shownL b f real).headD 0 = f := by
  cases real with
  | nil => simp at h0
  | cons x t => simp [shownL]
theorem one_keeps {b l h r f : Int} {real : List Int} (hk : followOk b l h r f real = true) : keepsF b l h r (momF (shownL b f real) real) = 0 := by
  have h0 : 0 < real.length := by have := (listOk_iff.1 (followOk_iff.1 hk).2.2.1).1.1; omega
  exact (one_iff (shownL_len b f real) h0 (shown_head h0)).2 ⟨hk, rfl⟩
/-- Step by step. -/
theorem one_step {b l h r f : Int} {real : List Int} (hk : followOk b l h r f real = true) {k : Nat} (hk1 : k + 1 < real.length) (h1 : k + 1 < (shownL b f real).length) (h2 : k < (shownL b f real).length) :
    stepF b l h r (shownL b f real)[k] real[k] real[k + 1] = (((shownL b f real)[k + 1], real[k + 1]), 0) := by
  obtain ⟨hp, hf, hl, hr, hs⟩ := followOk_iff.1 hk
  have hb0 := (penOk_iff.1 hp).1
  have hx := (listOk_iff.1 hl).2
  have hlv := shown_lvl hb0 (lvl_iff.1 hf) hx _ (List.getElem_mem h2)
  have hx1 := hx _ (List.getElem_mem (show k < real.length by omega))
  have hx2 := hx _ (List.getElem_mem hk1)
  have hm : momB b r (momF (shownL b f real) real) = true := (keepsF_iff.1 (one_keeps hk)).2.2.2
  have hml : k < (momF (shownL b f real) real).length := by rw [mom_len]; omega
  have hrt := mom_right hb0 hm hml
  have e1 : (momF (shownL b f real) real)[k] = ((shownL b f real)[k], real[k]) := by simp [momF]
  rw [e1] at hrt
  have ha := (steadyB_iff r real).1 hs k hk1
  unfold stepF
  have hask : askE b l h r [(shownL b f real)[k], real[k], real[k + 1]] = 0 := by
    unfold askE
    rw [if_pos hp, if_pos]
    exact lvls_iff.2 (by simp; exact ⟨hlv, hx1, hx2⟩)
  rw [if_neg (by simp [hask]), if_pos ⟨hrt, ha⟩, shown_at hk1 h1 h2]
end Go.Proofs.Ytdopgaljbpjpcaa
namespace Go.Proofs.Ytdopgaljbpjpcaa

theorem initF_nth {b : Int} {xs : List Int} {k : Nat} : initF b xs k = if k = 0 ∨ nth xs k = nth xs (k - 1) then (nth xs k - b, nth xs k + b) else if nth xs (k - 1) < nth xs k then (nth xs k + b, nth xs k + b) else (nth xs k - b, nth xs k - b) := rfl
/-- A list of real levels that may be shown as a list. -/
theorem lat_iff {b l h r : Int} {xs ys : List Int} (hl : xs.length = ys.length) (hb : 0 ≤ b) :
    keepsF b l h r (momF xs ys) = 0 ↔ penOk b l h r = true ∧ listOk xs = true ∧ listOk ys = true ∧ May b r xs (nth ys) := by
  rw [keepsF_iff, momF_fst hl, momF_snd hl, mom_iff hb]
  have hml := mom_len xs ys
  have hat : ∀ i, (hi : i < (momF xs ys).length) → (momF xs ys)[i] = (nth xs i, nth ys i) := by
    intro i hi
    have h1 : i < xs.length := by omega
    have h2 : i < ys.length := by omega
    rw [nth_eq h1, nth_eq h2]; simp [momF]
  have key : ((∀ i, (h : i < (momF xs ys).length) → rightB b (momF xs ys)[i].1 (momF xs ys)[i].2 = true) ∧ ∀ i, (h : i + 1 < (momF xs ys).length) → apartN (momF xs ys)[i + 1].2 ((momF xs ys)[i]'(by omega)).2 ≤ r ∧ (momF xs ys)[i + 1].1 = lazyN b ((momF xs ys)[i]'(by omega)).1 (momF xs ys)[i + 1].2) ↔ May b r xs (nth ys) := by
    constructor
    · rintro ⟨h1, h2⟩
      have hb1 : ∀ k, k < xs.length → (initF b xs k).1 ≤ nth ys k ∧ nth ys k ≤ (initF b xs k).2 := by
        intro k hk
        have g1 := h1 k (by omega)
        rw [hat k (by omega)] at g1
        unfold rightB at g1
        rw [decide_eq_true_eq] at g1
        simp only at g1
        rw [initF_nth]
        by_cases h0 : k = 0 ∨ nth xs k = nth xs (k - 1)
        · rw [if_pos h0]; simp only; omega
        · obtain ⟨j, rfl⟩ : ∃ j, k = j + 1 := ⟨k - 1, by omega⟩
          have g2 := (h2 j (by omega)).2
          rw [hat (j + 1) (by omega), hat j (by omega)] at g2
          simp only [Nat.add_sub_cancel] at h0 g2 ⊢
          unfold lazyN at g2
          rw [if_neg h0]
          split <;> simp only <;> omega
      refine ⟨fun k hk => (hb1 k hk).1, fun k hk => (hb1 k hk).2, fun k hk => ?_⟩
      have g2 := (h2 k (by omega)).1
      rw [hat (k + 1) (by omega), hat k (by omega)] at g2
      unfold apartN at g2
      simp only at g2
      omega
    · intro hM
      have hr1 : ∀ k, k < xs.length → nth ys k - nth xs k ≤ b ∧ nth xs k - nth ys k ≤ b := by
        intro k hk
        have g1 := hM.lo k hk
        have g2 := hM.hi k hk
        rw [initF_nth] at g1 g2
        split at g1
        · rename_i h0
          rw [if_pos h0] at g2
          simp only at g1 g2; omega
        · rename_i h0
          rw [if_neg h0] at g2
          split at g1
          · rename_i h3
            rw [if_pos h3] at g2
            simp only at g1 g2; omega
          · rename_i h3
            rw [if_neg h3] at g2
            simp only at g1 g2; omega
      refine ⟨fun i hi => ?_, fun i hi => ⟨?_, ?_⟩⟩
      · rw [hat i hi]
        have := hr1 i (by omega)
        unfold rightB; rw [decide_eq_true_eq]; simp only; omega
      · rw [hat (i + 1) hi, hat i (by omega)]
        have := hM.near i (by omega)
        unfold apartN; simp only; omega
      · rw [hat (i + 1) hi, hat i (by omega)]
        have g0 := hr1 (i + 1) (by omega)
        have g1 := hM.lo (i + 1) (by omega)
        have g2 := hM.hi (i + 1) (by omega)
        rw [initF_nth] at g1 g2
        simp only [Nat.add_sub_cancel] at g1 g2 ⊢
        unfold lazyN
        by_cases h0 : i + 1 = 0 ∨ nth xs (i + 1) = nth xs i
        · omega
        · rw [if_neg h0] at g1 g2
          by_cases h3 : nth xs i < nth xs (i + 1)
          · rw [if_pos h3] at g1 g2
            simp only at g1 g2; omega
          · rw [if_neg h3] at g1 g2
            simp only at g1 g2; omega
  rw [key]
theorem May.congr {b r : Int} {xs : List Int} {R S : Nat → Int} (h : May b r xs R) (e : ∀ k, k < xs.length → S k = R k) : May b r xs S :=
  ⟨fun k hk => by rw [e k hk]; exact h.lo k hk, fun k hk => by rw [e k hk]; exact h.hi k hk, fun k hk => by rw [e k (by omega), e (k + 1) hk]; exact h.near k hk⟩
theorem May.min {b r : Int} {xs : List Int} {R S : Nat → Int} (h : May b r xs R) (k : May b r xs S) : May b r xs (fun i => min (R i) (S i)) :=
  ⟨fun i hi => by have := h.lo i hi; have := k.lo i hi; omega, fun i hi => by have := h.hi i hi; omega, fun i hi => by have := h.near i hi; have := k.near i hi; omega⟩
theorem May.max {b r : Int} {xs : List Int} {R S : Nat → Int} (h : May b r xs R) (k : May b r xs S) : May b r xs (fun i => max (R i) (S i)) :=
  ⟨fun i hi => by have := h.lo i hi; omega, fun i hi => by have := h.hi i hi; have := k.hi i hi; omega, fun i hi => by have := h.near i hi; have := k.near i hi; omega⟩
def mdl (a b c : Int) : Int := max (max (min a b) (min b c)) (min a c)
theorem May.mid {b r : Int} {xs : List Int} {R S T : Nat → Int} (h : May b r xs R) (k : May b r xs S) (m : May b r xs T) : May b r xs (fun i => mdl (R i) (S i) (T i)) :=
  ((h.min k).max (k.min m)).max (h.min m)
theorem may_near {b r : Int} {xs : List Int} (hb : 0 ≤ b) (hr : 0 ≤ r) (h : realsB b r xs = true) : May b r xs (fun k => mid3 (spanN b r xs k).1 (spanN b r xs k).2 (nth xs k)) := by
  have hs := realsB_iff.1 h
  refine ⟨fun k hk => ?_, fun k hk => ?_, fun k hk => ?_⟩
  · have := hs k hk; have := span_init (b := b) (r := r) hk
    unfold mid3; omega
  · have := hs k hk; have := span_init (b := b) (r := r) hk
    unfold mid3; omega
  · have g1 := hs k (by omega)
    have g2 := hs (k + 1) hk
    have g3 := span_near (b := b) hr hk
    obtain ⟨_, _, _, d4, d5⟩ := span_drift h hb hk
    obtain ⟨_, c2, c3, _, _⟩ := span_drift h hb (show k < xs.length by omega)
    simp only [Nat.add_sub_cancel] at d4 d5
    have e1 := nth_eq (show k < xs.length by omega)
    have e2 := nth_eq hk
    rw [e1, e2]
    unfold mid3
    by_cases h1 : xs[k] < xs[k + 1]
    · have := d4 (by omega) h1
      rw [this] at g3 ⊢
      simp only at g3 ⊢
      omega
    · by_cases h2 : xs[k + 1] < xs[k]
      · have := d5 (by omega) h2
        rw [this] at g3 ⊢
        simp only at g3 ⊢
        omega
      · omega
/-- What Lowest, Highest and Real return. -/
theorem allF_cases {q : Int × Int → Int → Int} {b l h r : Int} {xs L : List Int} {y z : Int} {P : List (Int × Int)} (hp : realsF b l h r xs = (P, z)) (ha : allF q b l h r xs = (L, y)) :
    y = z ∧ (z = 0 → L.length = xs.length ∧ ∀ k, k < xs.length → nth L k = q (spanN b r xs k) (nth xs k)) := by
  unfold allF at ha
  rw [hp] at ha
  cases ha
  refine ⟨rfl, fun h0 => ?_⟩
  subst h0
  rcases realsF_cases hp with ⟨h1, _⟩ | ⟨_, rfl, _⟩
  · exact absurd rfl h1
  · have hl := realsL_len b r xs
    have he : ∀ (q : Nat → Int × Int → Int) (ps : List (Int × Int)), (eachTo q ps ps.length).length = ps.length ∧ ∀ k, (hk : k < ps.length) → nth (eachTo q ps ps.length) k = q k ps[k] := by
      intro q ps
      have h1 : (eachTo q ps ps.length).length = ps.length := by simp [eachTo]
      refine ⟨h1, fun k hk => ?_⟩
      rw [nth_eq (by omega)]
      simp [eachTo, hk]
    obtain ⟨h1, h2⟩ := he (fun k x => q x (xs.getD k 0)) (realsL b r xs)
    refine ⟨by rw [h1, hl], fun k hk => ?_⟩
    have hk' : k < (realsL b r xs).length := by omega
    rw [h2 k hk', reals_at_k hk hk']
    first | done | rfl
theorem listOk_of {xs ys : List Int} (h : listOk xs = true) (hl : ys.length = xs.length) (hy : ∀ k, k < ys.length → -50000 ≤ nth ys k ∧ nth ys k ≤ 50000) : listOk ys = true := by
  have h1 := (listOk_iff.1 h).1
  refine listOk_iff.2 ⟨by omega, fun x hx => ?_⟩
  obtain ⟨k, hk, rfl⟩ := List.getElem_of_mem hx
  have := hy k hk
  rw [nth_eq hk] at this; exact this
theorem listOk_nth {xs : List Int} (h : listOk xs = true) {k : Nat} (hk : k < xs.length) : -50000 ≤ nth xs k ∧ nth xs k ≤ 50000 := by
  rw [nth_eq hk]; exact (listOk_iff.1 h).2 _ (List.getElem_mem hk)
end Go.Proofs.Ytdopgaljbpjpcaa
namespace Go.Proofs.Ytdopgaljbpjpcaa
open Go.RowKit

/-- Three rows of numbers of the call's own, in blocks of their own. -/
def KT (w0 W : World) (v1 v2 v3 : Value) (x1 x2 x3 : List Int) : Prop :=
  Below w0.heap.size w0 W ∧ W.ownsRow w0.heap.size 3 1 v1 x1.length (x1.map (Value.int .i64)) ∧ W.ownsRow w0.heap.size 3 1 v2 x2.length (x2.map (Value.int .i64)) ∧ W.ownsRow w0.heap.size 3 1 v3 x3.length (x3.map (Value.int .i64)) ∧
    (∀ k, v1.ownBlock = some k → v2.ownBlock ≠ some k ∧ v3.ownBlock ≠ some k) ∧ ∀ k, v2.ownBlock = some k → v3.ownBlock ≠ some k
section
variable {w0 W W' : World} {v1 v2 v3 : Value} {x1 x2 x3 : List Int}
theorem KT.rot (k : KT w0 W v1 v2 v3 x1 x2 x3) : KT w0 W v2 v3 v1 x2 x3 x1 :=
  ⟨k.1, k.2.2.1, k.2.2.2.1, k.2.1, fun j h => ⟨k.2.2.2.2.2 j h, fun h1 => (k.2.2.2.2.1 j h1).1 h⟩, fun j h h1 => (k.2.2.2.2.1 j h1).2 h⟩
theorem KT.next (k : KT w0 W v1 v2 v3 x1 x2 x3) (hb : Below W.heap.size W W') : KT w0 W' v1 v2 v3 x1 x2 x3 :=
  ⟨Bl.call k.1 hb, ownsRow_below2 k.2.1 hb, ownsRow_below2 k.2.2.1 hb, ownsRow_below2 k.2.2.2.1 hb, k.2.2.2.2⟩
theorem KT.app (k : KT w0 W v1 v2 v3 x1 x2 x3) {g cap : Nat} {x : Int} (hown : W'.ownsRow w0.heap.size 3 1 (.slice (some ⟨g, 0, none⟩) (x1.length + 1) cap) (x1.length + 1) (x1.map (Value.int .i64) ++ [.int .i64 x])) (hgrow : W.grownBy W' v1.ownBlock) (hat : v1.ownBlock = some g ∨ g = W.heap.size) :
    KT w0 W' (.slice (some ⟨g, 0, none⟩) (x1.length + 1) cap) v2 v3 (x1 ++ [x]) x2 x3 := by
  obtain ⟨k1, k2, k3, k4, k5, k6⟩ := k
  have hfar : ∀ u : Value, (∀ j, v1.ownBlock = some j → u.ownBlock ≠ some j) → u.ownBlock = none ∨ u.ownBlock ≠ v1.ownBlock := by
    intro u hu
    cases h : u.ownBlock with
    | none => exact .inl rfl
    | some q => right; intro e; exact hu q e.symm h
  refine ⟨own_grow k1 (Nat.le_refl _) (fun j hj => (k2.lt j hj).1) hgrow, by simpa using hown, k3.kept hgrow (hfar v2 fun j hj => (k5 j hj).1), k4.kept hgrow (hfar v3 fun j hj => (k5 j hj).2), fun j hj => ?_, k6⟩
  obtain rfl : g = j := by simpa [Value.ownBlock] using hj
  constructor
  · intro hu
    rcases hat with e | e
    · exact (k5 _ e).1 hu
    · have := (k3.lt _ hu).2; omega
  · intro hu
    rcases hat with e | e
    · exact (k5 _ e).2 hu
    · have := (k4.lt _ hu).2; omega
end
theorem low_h (b l h r : Int) (v : Value) (xs : List Int) (w : World) (hv : Ints w v xs) (L : List Int) (y : Int) (hp : Hid (allF (fun x _ => x.1) b l h r xs = (L, y))) :
    Calls Try.prog 35 #[.agg #[.int .i64 b, .int .i64 l, .int .i64 h, .int .i64 r], v] w (GivesE L y w) := (Lowest_any b l h r v xs w hv).mono fun _ _ h => givesE_of hp.out h
theorem high_h (b l h r : Int) (v : Value) (xs : List Int) (w : World) (hv : Ints w v xs) (L : List Int) (y : Int) (hp : Hid (allF (fun x _ => x.2) b l h r xs = (L, y))) :
    Calls Try.prog 37 #[.agg #[.int .i64 b, .int .i64 l, .int .i64 h, .int .i64 r], v] w (GivesE L y w) := (Highest_any b l h r v xs w hv).mono fun _ _ h => givesE_of hp.out h
theorem real_h (b l h r : Int) (v : Value) (xs : List Int) (w : World) (hv : Ints w v xs) (L : List Int) (y : Int) (hp : Hid (allF (fun x d => mid3 x.1 x.2 d) b l h r xs = (L, y))) :
    Calls Try.prog 39 #[.agg #[.int .i64 b, .int .i64 l, .int .i64 h, .int .i64 r], v] w (GivesE L y w) := (Real_any b l h r v xs w hv).mono fun _ _ h => givesE_of hp.out h
/-- What the walk holds: the boxed pen and seven lists. -/
structure LatH (B : Nat) (b l h r : Int) (vx va vb vc vl vh vn : Value) (xs us bs cs L H N : List Int) (W : World) : Prop where
  p : Pbx B b l h r W
  x : Ints W vx xs
  ia : Ints W va us
  ib : Ints W vb bs
  ic : Ints W vc cs
  lo : Ints W vl L
  hi : Ints W vh H
  ne : Ints W vn N
theorem LatH.next {B : Nat} {b l h r : Int} {vx va vb vc vl vh vn : Value} {xs us bs cs L H N : List Int} {W W' : World} (k : LatH B b l h r vx va vb vc vl vh vn xs us bs cs L H N W) (hb : Below W.heap.size W W') : LatH B b l h r vx va vb vc vl vh vn xs us bs cs L H N W' :=
  ⟨k.p.next hb, k.x.below hb, k.ia.below hb, k.ib.below hb, k.ic.below hb, k.lo.below hb, k.hi.below hb, k.ne.below hb⟩
theorem LatH.drew {B : Nat} {b l h r : Int} {vx va vb vc vl vh vn : Value} {xs us bs cs L H N : List Int} {W : World} (k : LatH B b l h r vx va vb vc vl vh vn xs us bs cs L H N W) : LatH B b l h r vx va vb vc vl vh vn xs us bs cs L H N W.drew := k.next (Bl.drew (Below.refl _ _))
/-- The plain law, where the spans are told. -/
structure LatLaw (b l h r : Int) (xs us bs cs L H N : List Int) (z1 z2 z3 : Int) : Prop where
  inside : (∀ k, k < xs.length → absN (nth xs k) ≤ 49000) → keepsF b l h r (momF xs L) = 0 ∧ keepsF b l h r (momF xs H) = 0 ∧ keepsF b l h r (momF xs N) = 0
  within : z1 = 0 → ∀ k, k < xs.length → nth L k ≤ nth us k ∧ nth us k ≤ nth H k ∧ absN (nth N k - nth xs k) ≤ absN (nth us k - nth xs k)
  closed : z1 = 0 → z2 = 0 → z3 = 0 → ∀ P Q R : List Int, P.length = xs.length → Q.length = xs.length → R.length = xs.length → (∀ k, k < xs.length → nth P k = min (nth us k) (nth bs k) ∧ nth Q k = max (nth us k) (nth bs k) ∧ nth R k = mdl (nth us k) (nth bs k) (nth cs k)) →
    keepsF b l h r (momF xs P) = 0 ∧ keepsF b l h r (momF xs Q) = 0 ∧ keepsF b l h r (momF xs R) = 0
  bd : ∀ k, k < xs.length → (-50000 ≤ nth xs k ∧ nth xs k ≤ 50000) ∧ (-60000 ≤ nth N k ∧ nth N k ≤ 60000)
  lens : L.length = xs.length ∧ H.length = xs.length ∧ N.length = xs.length
  abd : z1 = 0 → ∀ k, k < xs.length → -50000 ≤ nth us k ∧ nth us k ≤ 50000
theorem lat_law {b l h r : Int} {xs us bs cs L H N : List Int} {P : List (Int × Int)} {y1 y2 y3 : Int} (hp : realsF b l h r xs = (P, 0)) (h1 : allF (fun x _ => x.1) b l h r xs = (L, y1)) (h2 : allF (fun x _ => x.2) b l h r xs = (H, y2)) (h3 : allF (fun x d => mid3 x.1 x.2 d) b l h r xs = (N, y3))
    (la : us.length = xs.length) (lb : bs.length = xs.length) (lc : cs.length = xs.length) : LatLaw b l h r xs us bs cs L H N (keepsF b l h r (momF xs us)) (keepsF b l h r (momF xs bs)) (keepsF b l h r (momF xs cs)) := by
  obtain ⟨_, e1⟩ := allF_cases hp h1
  obtain ⟨_, e2⟩ := allF_cases hp h2
  obtain ⟨_, e3⟩ := allF_cases hp h3
  obtain ⟨l1, n1⟩ := e1 rfl
  obtain ⟨l2, n2⟩ := e2 rfl
  obtain ⟨l3, n3⟩ := e3 rfl
  rcases realsF_cases hp with ⟨hz, _⟩ | ⟨_, _, hpen, hlx, hrb⟩
  · exact absurd rfl hz
  have hb0 := (penOk_iff.1 hpen).1
  have hb8 := (penOk_iff.1 hpen).2.1
  have hr0 := (penOk_iff.1 hpen).2.2.2.2.2.2.1
  have hd := fun k (hk : k < xs.length) => span_drift hrb hb0 hk
  have mk : ∀ ys : List Int, ys.length = xs.length → (∀ k, k < xs.length → -50000 ≤ nth ys k ∧ nth ys k ≤ 50000) → May b r xs (nth ys) → keepsF b l h r (momF xs ys) = 0 := fun ys hl hy hm =>
    (lat_iff hl.symm hb0).2 ⟨hpen, hlx, listOk_of hlx hl (fun k hk => hy k (by omega)), hm⟩
  refine ⟨fun hin => ?_, fun hz k hk => ?_, fun hz1 hz2 hz3 P Q R lp lq lr hPQ => ?_, fun k hk => ?_, ⟨l1, l2, l3⟩, fun hz k hk => ?_⟩
  · have bd : ∀ k, k < xs.length → -49008 ≤ (spanN b r xs k).1 ∧ (spanN b r xs k).2 ≤ 49008 ∧ (spanN b r xs k).1 ≤ (spanN b r xs k).2 := by
      intro k hk
      have g1 := hd k hk
      have g2 := hin k hk
      rw [nth_eq hk] at g2
      unfold absN at g2
      omega
    refine ⟨mk L l1 (fun k hk => ?_) ((may_lo hr0 hrb).congr fun k hk => n1 k hk), mk H l2 (fun k hk => ?_) ((may_hi hr0 hrb).congr fun k hk => n2 k hk), mk N l3 (fun k hk => ?_) ((may_near hb0 hr0 hrb).congr fun k hk => n3 k hk)⟩
    · rw [n1 k hk]; have := bd k hk; omega
    · rw [n2 k hk]; have := bd k hk; omega
    · rw [n3 k hk]; have := bd k hk; unfold mid3; omega
  · obtain ⟨_, _, _, hm⟩ := (lat_iff la.symm hb0).1 hz
    have := hm.within hk
    rw [n1 k hk, n2 k hk, n3 k hk]
    refine ⟨this.1, this.2, ?_⟩
    unfold absN mid3
    omega
  · obtain ⟨_, _, a1, ma⟩ := (lat_iff la.symm hb0).1 hz1
    obtain ⟨_, _, b1, mb⟩ := (lat_iff lb.symm hb0).1 hz2
    obtain ⟨_, _, c1, mc⟩ := (lat_iff lc.symm hb0).1 hz3
    have ga := fun k (hk : k < xs.length) => listOk_nth a1 (k := k) (by omega)
    have gb := fun k (hk : k < xs.length) => listOk_nth b1 (k := k) (by omega)
    have gc := fun k (hk : k < xs.length) => listOk_nth c1 (k := k) (by omega)
    refine ⟨mk P lp (fun k hk => ?_) ((ma.min mb).congr fun k hk => (hPQ k hk).1), mk Q lq (fun k hk => ?_) ((ma.max mb).congr fun k hk => (hPQ k hk).2.1), mk R lr (fun k hk => ?_) ((ma.mid mb mc).congr fun k hk => (hPQ k hk).2.2)⟩
    · rw [(hPQ k hk).1]; have := ga k hk; have := gb k hk; omega
    · rw [(hPQ k hk).2.1]; have := ga k hk; have := gb k hk; omega
    · rw [(hPQ k hk).2.2]; have := ga k hk; have := gb k hk; have := gc k hk; unfold mdl; omega
  · have g0 := listOk_nth hlx hk
    refine ⟨g0, ?_⟩
    rw [n3 k hk]
    have := hd k hk
    rw [nth_eq hk] at g0 ⊢
    unfold mid3; omega
  · obtain ⟨_, _, a1, _⟩ := (lat_iff la.symm hb0).1 hz
    exact listOk_nth a1 (by omega)
/-- Where no spans are told no list is kept. -/
theorem lat_none {b l h r : Int} {xs us : List Int} {P : List (Int × Int)} {z : Int} (hp : realsF b l h r xs = (P, z)) (hz : z ≠ 0) (la : us.length = xs.length) : keepsF b l h r (momF xs us) ≠ 0 := by
  intro hk
  have hpen := (keepsF_iff.1 hk).1
  obtain ⟨_, hlx, _, hm⟩ := (lat_iff la.symm (penOk_iff.1 hpen).1).1 hk
  rcases realsF_cases hp with ⟨_, _, hn⟩ | ⟨h0, _⟩
  · exact hn ⟨hpen, hlx, hm.realsB⟩
  · exact hz h0
end Go.Proofs.Ytdopgaljbpjpcaa
