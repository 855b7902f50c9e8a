/- The specification's offsets tell the same spans as the program. -/
import Derived.Test.YtdopgaljbpjpcaaOffs
namespace Go.Proofs.Ytdopgaljbpjpcaa
open Go.RowKit

theorem initF_cases (b : Int) (xs : List Int) (k : Nat) : (k = 0 ∨ nth xs k = nth xs (k - 1)) ∧ initF b xs k = (nth xs k - b, nth xs k + b) ∨ (0 < k ∧ nth xs (k - 1) < nth xs k ∧ initF b xs k = (nth xs k + b, nth xs k + b)) ∨ (0 < k ∧ nth xs k < nth xs (k - 1) ∧ initF b xs k = (nth xs k - b, nth xs k - b)) := by
  unfold initF
  by_cases h : k = 0 ∨ xs.getD k 0 = xs.getD (k - 1) 0
  · left; exact ⟨h, by rw [if_pos h]⟩
  · by_cases h2 : xs.getD (k - 1) 0 < xs.getD k 0
    · right; left; exact ⟨by omega, h2, by rw [if_neg h, if_pos h2]⟩
    · right; right; exact ⟨by omega, by simp only [nth]; omega, by rw [if_neg h, if_neg h2]⟩
theorem may_band {b r : Int} {xs : List Int} {R : Nat → Int} (hb : 0 ≤ b) (h : May b r xs R) {k : Nat} (hk : k < xs.length) : -b ≤ R k - nth xs k ∧ R k - nth xs k ≤ b := by
  have h1 := h.lo k hk
  have h2 := h.hi k hk
  rcases initF_cases b xs k with ⟨_, e⟩ | ⟨_, _, e⟩ | ⟨_, _, e⟩ <;> rw [e] at h1 h2 <;> simp only at h1 h2 <;> omega
theorem may_fo {b r : Int} {xs : List Int} {R : Nat → Int} (hb : 0 ≤ b) (h : May b r xs R) : ∀ k, k < xs.length → (fo b r xs k).1 ≤ R k - nth xs k ∧ R k - nth xs k ≤ (fo b r xs k).2
  | 0, hk => by have := may_band hb h hk; simp only [fo]; omega
  | k + 1, hk => by
    have ih := may_fo hb h k (by omega)
    have hn := h.near k hk
    have hb1 := may_band hb h (k := k) (by omega)
    have hb2 := may_band hb h hk
    have l1 := h.lo (k + 1) hk
    have l2 := h.hi (k + 1) hk
    simp only [fo, afterF]
    rw [if_neg (by omega)]
    rcases initF_cases b xs (k + 1) with ⟨e0, e⟩ | ⟨_, e0, e⟩ | ⟨_, e0, e⟩
    · have e1 : nth xs (k + 1) = nth xs k := by simpa using e0
      rw [if_pos (by omega)]
      simp only [bothF]; omega
    · rw [e] at l1 l2
      simp only [Nat.add_sub_cancel] at e0 l1 l2
      rw [if_neg (by omega), if_neg]
      · unfold endF; rw [if_pos (by omega)]; simp only; omega
      · unfold fromF bothF; rw [if_pos (by omega)]; simp only; omega
    · rw [e] at l1 l2
      simp only [Nat.add_sub_cancel] at e0 l1 l2
      rw [if_neg (by omega), if_neg]
      · unfold endF; rw [if_neg (by omega)]; simp only; omega
      · unfold fromF bothF; rw [if_neg (by omega)]; simp only; omega
theorem may_off {b r : Int} {xs : List Int} {R : Nat → Int} (hb : 0 ≤ b) (h : May b r xs R) : ∀ (d k : Nat), k + d + 1 = xs.length → (offN b r xs k).1 ≤ R k - nth xs k ∧ R k - nth xs k ≤ (offN b r xs k).2
  | 0, k, e => by
    have : k = xs.length - 1 := by omega
    subst this
    rw [offN_last]; exact may_fo hb h _ (by omega)
  | d + 1, k, e => by
    have ih := may_off hb h d (k + 1) (by omega)
    have hf := may_fo hb h k (by omega)
    have hn := h.near k (by omega)
    have hb1 := may_band hb h (k := k) (by omega)
    have l1 := h.lo (k + 1) (by omega)
    have l2 := h.hi (k + 1) (by omega)
    rw [offN_step (by omega)]
    generalize offN b r xs (k + 1) = s at *
    simp only [aheadF]
    rw [if_neg (by omega)]
    rcases initF_cases b xs (k + 1) with ⟨e0, e⟩ | ⟨_, e0, e⟩ | ⟨_, e0, e⟩
    · have e1 : nth xs (k + 1) = nth xs k := by simpa using e0
      rw [if_pos (by omega)]
      simp only [bothF]; omega
    · rw [e] at l1 l2
      simp only [Nat.add_sub_cancel] at e0 l1 l2
      rw [if_neg (by omega), if_neg]
      · simp only [fromF, bothF]; rw [if_pos (by omega)]; simp only; omega
      · unfold endF bothF; rw [if_pos (by omega)]; simp only; omega
    · rw [e] at l1 l2
      simp only [Nat.add_sub_cancel] at e0 l1 l2
      rw [if_neg (by omega), if_neg]
      · simp only [fromF, bothF]; rw [if_neg (by omega)]; simp only; omega
      · unfold endF bothF; rw [if_neg (by omega)]; simp only; omega
/-- What the offsets from the left say of a tick alone. -/
theorem fo_init {b r : Int} (_hb : 0 ≤ b) {xs : List Int} {k : Nat} (h : (fo b r xs k).1 ≤ (fo b r xs k).2) : (initF b xs k).1 ≤ nth xs k + (fo b r xs k).1 ∧ nth xs k + (fo b r xs k).2 ≤ (initF b xs k).2 := by
  cases k with
  | zero =>
    rcases initF_cases b xs 0 with ⟨_, e⟩ | ⟨h0, _⟩ | ⟨h0, _⟩
    · rw [e]; simp only [fo]; omega
    · omega
    · omega
  | succ k =>
    simp only [fo, afterF] at h ⊢
    split at h
    · simp at h
    · rename_i hs
      rw [if_neg hs]
      split at h
      · rename_i hc
        rw [if_pos hc]
        rcases initF_cases b xs (k + 1) with ⟨_, e⟩ | ⟨_, e0, e⟩ | ⟨_, e0, e⟩
        · rw [e]; simp only [bothF]; omega
        · simp only [Nat.add_sub_cancel] at e0; omega
        · simp only [Nat.add_sub_cancel] at e0; omega
      · rename_i hc
        rw [if_neg hc]
        split at h
        · simp at h
        · rename_i hf
          rw [if_neg hf]
          rcases initF_cases b xs (k + 1) with ⟨e0, e⟩ | ⟨_, e0, e⟩ | ⟨_, e0, e⟩
          · exfalso
            have e1 : nth xs (k + 1) = nth xs k := by simpa using e0
            omega
          · rw [e]; unfold endF; simp only [Nat.add_sub_cancel] at e0; rw [if_pos (by omega)]; simp only; omega
          · rw [e]; unfold endF; simp only [Nat.add_sub_cancel] at e0; rw [if_neg (by omega)]; simp only; omega
theorem off_fo {b r : Int} {xs : List Int} {k : Nat} (hk : k < xs.length) : (fo b r xs k).1 ≤ (offN b r xs k).1 ∧ (offN b r xs k).2 ≤ (fo b r xs k).2 := by
  by_cases h : k + 1 < xs.length
  · rw [offN_step h]; simp only [bothF]; omega
  · have : k = xs.length - 1 := by omega
    subst this; rw [offN_last]; omega
theorem off_near {b r : Int} (hb : 0 ≤ b) (hr : 0 ≤ r) {xs : List Int} (hall : ∀ k, k < xs.length → (offN b r xs k).1 ≤ (offN b r xs k).2) {k : Nat} (hk : k + 1 < xs.length) :
    ((nth xs (k + 1) + (offN b r xs (k + 1)).1) - (nth xs k + (offN b r xs k).1) ≤ r ∧ (nth xs k + (offN b r xs k).1) - (nth xs (k + 1) + (offN b r xs (k + 1)).1) ≤ r) ∧
    ((nth xs (k + 1) + (offN b r xs (k + 1)).2) - (nth xs k + (offN b r xs k).2) ≤ r ∧ (nth xs k + (offN b r xs k).2) - (nth xs (k + 1) + (offN b r xs (k + 1)).2) ≤ r) := by
  have h1 := hall (k + 1) hk
  have h0 := hall k (by omega)
  have hf := off_fo (b := b) (r := r) hk
  have hf0 := off_fo (b := b) (r := r) (xs := xs) (k := k) (by omega)
  have hi := fo_init (r := r) hb (xs := xs) (k := k + 1) (by omega)
  have hi0 := fo_init (r := r) hb (xs := xs) (k := k) (by omega)
  have hin : (initF b xs k).1 ≥ nth xs k - b ∧ (initF b xs k).2 ≤ nth xs k + b := by
    rcases initF_cases b xs k with ⟨_, e⟩ | ⟨_, _, e⟩ | ⟨_, _, e⟩ <;> rw [e] <;> simp only <;> omega
  have hst := offN_step (b := b) (r := r) hk
  have hfo : fo b r xs (k + 1) = afterF b r (fo b r xs k) (nth xs (k + 1) - nth xs k) := rfl
  rw [hst] at h0 hf0 ⊢
  generalize offN b r xs (k + 1) = s at *
  generalize fo b r xs k = f at *
  simp only [aheadF] at h0 hf0 ⊢
  rw [if_neg (by omega)] at h0 hf0 ⊢
  rcases initF_cases b xs (k + 1) with ⟨e0, e⟩ | ⟨_, e0, e⟩ | ⟨_, e0, e⟩
  · have e1 : nth xs (k + 1) = nth xs k := by simpa using e0
    rw [if_pos (by omega)] at h0 hf0 ⊢
    rw [hfo, afterF] at hf
    simp only [bothF] at h0 hf0 ⊢
    rw [if_neg (by omega), if_pos (by omega)] at hf
    simp only [bothF] at hf
    omega
  · simp only [Nat.add_sub_cancel] at e0
    rw [e] at hi
    simp only at hi
    rw [if_neg (by omega)] at h0 hf0 ⊢
    split at h0
    · exfalso; simp only [bothF] at h0; omega
    · rename_i hq
      rw [if_neg hq] at hf0 ⊢
      simp only [fromF, bothF] at h0 hf0 ⊢
      rw [if_pos (by omega)] at h0 hf0 ⊢
      simp only at h0 hf0 ⊢
      omega
  · simp only [Nat.add_sub_cancel] at e0
    rw [e] at hi
    simp only at hi
    rw [if_neg (by omega)] at h0 hf0 ⊢
    split at h0
    · exfalso; simp only [bothF] at h0; omega
    · rename_i hq
      rw [if_neg hq] at hf0 ⊢
      simp only [fromF, bothF] at h0 hf0 ⊢
      rw [if_neg (by omega)] at h0 hf0 ⊢
      simp only at h0 hf0 ⊢
      omega
theorem off_may {b r : Int} (hb : 0 ≤ b) (hr : 0 ≤ r) {xs : List Int} (hall : ∀ k, k < xs.length → (offN b r xs k).1 ≤ (offN b r xs k).2) :
    May b r xs (fun k => nth xs k + (offN b r xs k).1) ∧ May b r xs (fun k => nth xs k + (offN b r xs k).2) := by
  have hin : ∀ k, k < xs.length → (initF b xs k).1 ≤ nth xs k + (offN b r xs k).1 ∧ nth xs k + (offN b r xs k).2 ≤ (initF b xs k).2 := by
    intro k hk
    have h1 := hall k hk
    have h2 := off_fo (b := b) (r := r) hk
    have h3 := fo_init (r := r) hb (xs := xs) (k := k) (by omega)
    omega
  exact ⟨⟨fun k hk => (hin k hk).1, fun k hk => by have := hin k hk; have := hall k hk; omega, fun k hk => (off_near hb hr hall hk).1⟩,
    ⟨fun k hk => by have := hin k hk; have := hall k hk; omega, fun k hk => (hin k hk).2, fun k hk => (off_near hb hr hall hk).2⟩⟩
/-- Both tell the same. -/
theorem off_iff {b r : Int} (hb : 0 ≤ b) (hr : 0 ≤ r) (xs : List Int) : (∀ k, k < xs.length → (offN b r xs k).1 ≤ (offN b r xs k).2) ↔ realsB b r xs = true := by
  constructor
  · intro h; exact (off_may hb hr h).1.realsB
  · intro h k hk
    have := may_off hb (may_lo hr h) (xs.length - 1 - k) k (by omega)
    omega
theorem off_span {b r : Int} (hb : 0 ≤ b) (hr : 0 ≤ r) {xs : List Int} (h : realsB b r xs = true) {k : Nat} (hk : k < xs.length) : spanN b r xs k = (nth xs k + (offN b r xs k).1, nth xs k + (offN b r xs k).2) := by
  have hall := (off_iff hb hr xs).2 h
  obtain ⟨m1, m2⟩ := off_may hb hr hall
  have a1 := m1.within hk
  have a2 := m2.within hk
  have b1 := may_off hb (may_lo hr h) (xs.length - 1 - k) k (by omega)
  have b2 := may_off hb (may_hi hr h) (xs.length - 1 - k) k (by omega)
  exact Prod.ext (by simp only; omega) (by simp only; omega)
end Go.Proofs.Ytdopgaljbpjpcaa
