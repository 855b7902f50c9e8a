/- The real levels behind a list, as plain mathematics: the spans are the least and the greatest. -/
import Derived.Test.YtdopgaljbpjpcaaPlainA
import Derived.Test.YtdopgaljbpjpcaaAll
namespace Go.Proofs.Ytdopgaljbpjpcaa

/-- The spans of a list, narrowed from the left; then from the right. -/
def fw (b r : Int) (xs : List Int) : Nat → Int × Int
  | 0 => initF b xs 0
  | k + 1 => (max (initF b xs (k + 1)).1 ((fw b r xs k).1 - r), min (initF b xs (k + 1)).2 ((fw b r xs k).2 + r))
def bw (b r : Int) (xs : List Int) : Nat → Int × Int
  | 0 => fw b r xs (xs.length - 1)
  | j + 1 => (max (fw b r xs (xs.length - 2 - j)).1 ((bw b r xs j).1 - r), min (fw b r xs (xs.length - 2 - j)).2 ((bw b r xs j).2 + r))
def spanN (b r : Int) (xs : List Int) (k : Nat) : Int × Int := bw b r xs (xs.length - 1 - k)
theorem near_get {r : Int} {ps : List (Int × Int)} {i k j : Nat} (hi : i < ps.length) :
    (nearF r ps i k).getD j (0, 0) = if j = i then (max (ps.getD i (0, 0)).1 ((ps.getD k (0, 0)).1 - r), min (ps.getD i (0, 0)).2 ((ps.getD k (0, 0)).2 + r)) else ps.getD j (0, 0) := by
  unfold nearF
  by_cases e : j = i
  · subst e; simp [List.getD_eq_getElem?_getD, hi]
  · rw [if_neg e]
    simp only [List.getD_eq_getElem?_getD]
    rw [List.getElem?_set_ne (by omega)]
theorem init_get {b : Int} {xs : List Int} {k : Nat} (hk : k < xs.length) : (initL b xs).getD k (0, 0) = initF b xs k := by
  simp [initL, initTo, List.getD_eq_getElem?_getD, hk]
theorem fwd_get {b r : Int} {xs : List Int} : ∀ (m : Nat), m < xs.length → ∀ k, k < xs.length → (fwdF r (initL b xs) m).getD k (0, 0) = if k ≤ m then fw b r xs k else initF b xs k
  | 0, h, k, hk => by
    simp only [fwdF]
    rw [init_get hk]
    split
    · have : k = 0 := by omega
      subst this; rfl
    · rfl
  | m + 1, h, k, hk => by
    have hl : (fwdF r (initL b xs) m).length = xs.length := by rw [fwdF_len]; exact initTo_len _ _ _
    simp only [fwdF]
    rw [near_get (by omega)]
    split
    · rename_i e; subst e
      rw [fwd_get m (by omega) (m + 1) hk, fwd_get m (by omega) m (by omega), if_neg (by omega), if_pos (by omega), if_pos (by omega)]
      rfl
    · rw [fwd_get m (by omega) k hk]
      by_cases h2 : k ≤ m
      · rw [if_pos h2, if_pos (by omega)]
      · rw [if_neg h2, if_neg (by omega)]
theorem bwd_get {b r : Int} {xs : List Int} : ∀ (j : Nat), j < xs.length → ∀ k, k < xs.length → (bwdF r (fwdF r (initL b xs) (xs.length - 1)) j).getD k (0, 0) = if xs.length - 1 - j ≤ k then bw b r xs (xs.length - 1 - k) else fw b r xs k
  | 0, h, k, hk => by
    simp only [bwdF]
    rw [fwd_get _ (by omega) k hk, if_pos (by omega)]
    split
    · have : k = xs.length - 1 := by omega
      subst this; simp [bw]
    · rfl
  | j + 1, h, k, hk => by
    have hl0 : (fwdF r (initL b xs) (xs.length - 1)).length = xs.length := by rw [fwdF_len]; exact initTo_len _ _ _
    have hl : (bwdF r (fwdF r (initL b xs) (xs.length - 1)) j).length = xs.length := by rw [bwdF_len]; exact hl0
    simp only [bwdF]
    rw [near_get (by omega), hl0]
    split
    · rename_i e; subst e
      rw [bwd_get j (by omega) _ hk, bwd_get j (by omega) (xs.length - 1 - j) (by omega), if_neg (by omega), if_pos (by omega), if_pos (by omega)]
      rw [show xs.length - 1 - (xs.length - 2 - j) = j + 1 by omega, show xs.length - 1 - (xs.length - 1 - j) = j by omega]
      rfl
    · rw [bwd_get j (by omega) k hk]
      by_cases h2 : xs.length - 1 - j ≤ k
      · rw [if_pos h2, if_pos (by omega)]
      · rw [if_neg h2, if_neg (by omega)]
theorem reals_get {b r : Int} {xs : List Int} {k : Nat} (hk : k < xs.length) : (realsL b r xs).getD k (0, 0) = spanN b r xs k := by
  unfold realsL spanN
  rw [bwd_get _ (by omega) k hk, if_pos (by omega)]
theorem reals_at_k {b r : Int} {xs : List Int} {k : Nat} (hk : k < xs.length) (h : k < (realsL b r xs).length) : (realsL b r xs)[k] = spanN b r xs k := by
  rw [← reals_get hk]; simp [List.getD_eq_getElem?_getD, h]
theorem realsB_iff {b r : Int} {xs : List Int} : realsB b r xs = true ↔ ∀ k, k < xs.length → (spanN b r xs k).1 ≤ (spanN b r xs k).2 := by
  unfold realsB
  simp only [Bool.not_eq_true', List.any_eq_false, decide_eq_true_eq]
  constructor
  · intro h k hk
    have hk' : k < (realsL b r xs).length := by rw [realsL_len]; exact hk
    have := h _ (List.getElem_mem hk')
    rw [reals_at_k hk hk'] at this; omega
  · intro h x hx
    obtain ⟨k, hk, rfl⟩ := List.getElem_of_mem hx
    have hk' : k < xs.length := by rw [realsL_len] at hk; exact hk
    rw [reals_at_k hk' hk]
    have := h k hk'; omega
theorem spanN_last {b r : Int} {xs : List Int} : spanN b r xs (xs.length - 1) = fw b r xs (xs.length - 1) := by
  unfold spanN; rw [show xs.length - 1 - (xs.length - 1) = 0 by omega]; rfl
theorem spanN_step {b r : Int} {xs : List Int} {k : Nat} (hk : k + 1 < xs.length) :
    spanN b r xs k = (max (fw b r xs k).1 ((spanN b r xs (k + 1)).1 - r), min (fw b r xs k).2 ((spanN b r xs (k + 1)).2 + r)) := by
  unfold spanN
  rw [show xs.length - 1 - k = (xs.length - 1 - (k + 1)) + 1 by omega]
  simp only [bw]
  rw [show xs.length - 2 - (xs.length - 1 - (k + 1)) = k by omega]
theorem fw_init {b r : Int} {xs : List Int} : ∀ k, (initF b xs k).1 ≤ (fw b r xs k).1 ∧ (fw b r xs k).2 ≤ (initF b xs k).2
  | 0 => by simp [fw]
  | k + 1 => by simp only [fw]; omega
theorem span_fw {b r : Int} {xs : List Int} {k : Nat} (hk : k < xs.length) : (fw b r xs k).1 ≤ (spanN b r xs k).1 ∧ (spanN b r xs k).2 ≤ (fw b r xs k).2 := by
  by_cases h : k + 1 < xs.length
  · rw [spanN_step h]; simp only; omega
  · have : k = xs.length - 1 := by omega
    subst this; rw [spanN_last]; omega
theorem span_init {b r : Int} {xs : List Int} {k : Nat} (hk : k < xs.length) : (initF b xs k).1 ≤ (spanN b r xs k).1 ∧ (spanN b r xs k).2 ≤ (initF b xs k).2 := by
  have h1 := fw_init (b := b) (r := r) (xs := xs) k
  have h2 := span_fw (b := b) (r := r) hk
  omega
theorem span_near {b r : Int} {xs : List Int} {k : Nat} (hr : 0 ≤ r) (hk : k + 1 < xs.length) :
    ((spanN b r xs (k + 1)).1 - (spanN b r xs k).1 ≤ r ∧ (spanN b r xs k).1 - (spanN b r xs (k + 1)).1 ≤ r) ∧ ((spanN b r xs (k + 1)).2 - (spanN b r xs k).2 ≤ r ∧ (spanN b r xs k).2 - (spanN b r xs (k + 1)).2 ≤ r) := by
  have h1 := span_fw (b := b) (r := r) (k := k + 1) hk
  have h2 : (fw b r xs k).1 - r ≤ (fw b r xs (k + 1)).1 ∧ (fw b r xs (k + 1)).2 ≤ (fw b r xs k).2 + r := by simp only [fw]; omega
  rw [spanN_step hk]
  simp only
  omega
/-- The list R may be behind the list xs. -/
structure May (b r : Int) (xs : List Int) (R : Nat → Int) : Prop where
  lo : ∀ k, k < xs.length → (initF b xs k).1 ≤ R k
  hi : ∀ k, k < xs.length → R k ≤ (initF b xs k).2
  near : ∀ k, k + 1 < xs.length → R (k + 1) - R k ≤ r ∧ R k - R (k + 1) ≤ r
theorem fw_least {b r : Int} {xs : List Int} {R : Nat → Int} (hlo : ∀ k, k < xs.length → (initF b xs k).1 ≤ R k) (hn : ∀ k, k + 1 < xs.length → R k - R (k + 1) ≤ r) : ∀ k, k < xs.length → (fw b r xs k).1 ≤ R k
  | 0, h => hlo 0 h
  | k + 1, h => by
    have h1 := fw_least hlo hn k (by omega)
    have h2 := hlo (k + 1) h
    have h3 := hn k h
    simp only [fw]; omega
theorem fw_most {b r : Int} {xs : List Int} {R : Nat → Int} (hhi : ∀ k, k < xs.length → R k ≤ (initF b xs k).2) (hn : ∀ k, k + 1 < xs.length → R (k + 1) - R k ≤ r) : ∀ k, k < xs.length → R k ≤ (fw b r xs k).2
  | 0, h => hhi 0 h
  | k + 1, h => by
    have h1 := fw_most hhi hn k (by omega)
    have h2 := hhi (k + 1) h
    have h3 := hn k h
    simp only [fw]; omega
theorem span_least {b r : Int} {xs : List Int} {R : Nat → Int} (hlo : ∀ k, k < xs.length → (initF b xs k).1 ≤ R k) (hn : ∀ k, k + 1 < xs.length → R (k + 1) - R k ≤ r ∧ R k - R (k + 1) ≤ r) : ∀ (d k : Nat), k + d + 1 = xs.length → (spanN b r xs k).1 ≤ R k
  | 0, k, h => by
    have : k = xs.length - 1 := by omega
    subst this; rw [spanN_last]; exact fw_least hlo (fun k hk => (hn k hk).2) _ (by omega)
  | d + 1, k, h => by
    have h1 := span_least hlo hn d (k + 1) (by omega)
    have h2 := fw_least hlo (fun k hk => (hn k hk).2) k (by omega)
    have h3 := hn k (by omega)
    rw [spanN_step (by omega)]; simp only; omega
theorem span_most {b r : Int} {xs : List Int} {R : Nat → Int} (hhi : ∀ k, k < xs.length → R k ≤ (initF b xs k).2) (hn : ∀ k, k + 1 < xs.length → R (k + 1) - R k ≤ r ∧ R k - R (k + 1) ≤ r) : ∀ (d k : Nat), k + d + 1 = xs.length → R k ≤ (spanN b r xs k).2
  | 0, k, h => by
    have : k = xs.length - 1 := by omega
    subst this; rw [spanN_last]; exact fw_most hhi (fun k hk => (hn k hk).1) _ (by omega)
  | d + 1, k, h => by
    have h1 := span_most hhi hn d (k + 1) (by omega)
    have h2 := fw_most hhi (fun k hk => (hn k hk).1) k (by omega)
    have h3 := hn k (by omega)
    rw [spanN_step (by omega)]; simp only; omega
theorem May.within {b r : Int} {xs : List Int} {R : Nat → Int} (h : May b r xs R) {k : Nat} (hk : k < xs.length) : (spanN b r xs k).1 ≤ R k ∧ R k ≤ (spanN b r xs k).2 :=
  ⟨span_least h.lo h.near (xs.length - 1 - k) k (by omega), span_most h.hi h.near (xs.length - 1 - k) k (by omega)⟩
theorem May.realsB {b r : Int} {xs : List Int} {R : Nat → Int} (h : May b r xs R) : realsB b r xs = true :=
  realsB_iff.2 fun k hk => by have := h.within hk; omega
theorem may_lo {b r : Int} {xs : List Int} (hr : 0 ≤ r) (h : realsB b r xs = true) : May b r xs (fun k => (spanN b r xs k).1) :=
  ⟨fun k hk => (span_init hk).1, fun k hk => by have := realsB_iff.1 h k hk; have := span_init (b := b) (r := r) hk; omega, fun k hk => by have := span_near (b := b) hr hk; omega⟩
theorem may_hi {b r : Int} {xs : List Int} (hr : 0 ≤ r) (h : realsB b r xs = true) : May b r xs (fun k => (spanN b r xs k).2) :=
  ⟨fun k hk => by have := realsB_iff.1 h k hk; have := span_init (b := b) (r := r) hk; omega, fun k hk => (span_init hk).2, fun k hk => by have := span_near (b := b) hr hk; omega⟩
/-- What a list tells of the real level. -/
theorem span_drift {b r : Int} {xs : List Int} (h : realsB b r xs = true) (hb : 0 ≤ b) {k : Nat} (hk : k < xs.length) :
    (spanN b r xs k).1 ≤ (spanN b r xs k).2 ∧ xs[k] - b ≤ (spanN b r xs k).1 ∧ (spanN b r xs k).2 ≤ xs[k] + b ∧
    (0 < k → xs[k - 1] < xs[k] → spanN b r xs k = (xs[k] + b, xs[k] + b)) ∧ (0 < k → xs[k] < xs[k - 1] → spanN b r xs k = (xs[k] - b, xs[k] - b)) := by
  have h1 := realsB_iff.1 h k hk
  have h2 := span_init (b := b) (r := r) hk
  have e1 : xs.getD k 0 = xs[k] := by simp [List.getD_eq_getElem?_getD, hk]
  have e2 : xs.getD (k - 1) 0 = xs[k - 1] := by
    have : k - 1 < xs.length := by omega
    simp [List.getD_eq_getElem?_getD, this]
  unfold initF at h2
  rw [e1, e2] at h2
  refine ⟨h1, ?_, ?_, ?_, ?_⟩
  · split at h2
    · simp only at h2; omega
    · split at h2 <;> simp only at h2 <;> omega
  · split at h2
    · simp only at h2; omega
    · split at h2 <;> simp only at h2 <;> omega
  · intro h0 hlt
    rw [if_neg (by omega), if_pos hlt] at h2
    simp only at h2
    exact Prod.ext (by simp only; omega) (by simp only; omega)
  · intro h0 hlt
    rw [if_neg (by omega), if_neg (by omega)] at h2
    simp only at h2
    exact Prod.ext (by simp only; omega) (by simp only; omega)
theorem listedE_iff {b l h r : Int} {xs : List Int} : listedE b l h r xs = 0 ↔ penOk b l h r = true ∧ listOk xs = true := by
  unfold listedE listE
  cases penOk b l h r <;> cases listOk xs <;> simp
theorem realsF_cases {b l h r : Int} {xs : List Int} {L : List (Int × Int)} {y : Int} (hp : realsF b l h r xs = (L, y)) :
    (y ≠ 0 ∧ L = [] ∧ ¬ (penOk b l h r = true ∧ listOk xs = true ∧ realsB b r xs = true)) ∨ (y = 0 ∧ L = realsL b r xs ∧ penOk b l h r = true ∧ listOk xs = true ∧ realsB b r xs = true) := by
  unfold realsF at hp
  by_cases h0 : listedE b l h r xs = 0
  · obtain ⟨h1, h2⟩ := listedE_iff.1 h0
    rw [if_neg (by simp [h0])] at hp
    by_cases h3 : realsB b r xs = true
    · rw [if_pos h3] at hp
      cases hp
      exact .inr ⟨rfl, rfl, h1, h2, h3⟩
    · rw [if_neg h3] at hp
      cases hp
      exact .inl ⟨by omega, rfl, fun h => h3 h.2.2⟩
  · rw [if_pos h0] at hp
    cases hp
    exact .inl ⟨h0, rfl, fun h => h0 (listedE_iff.2 ⟨h.1, h.2.1⟩)⟩
end Go.Proofs.Ytdopgaljbpjpcaa
