/- One list is shown, in plain lists. -/
import Derived.Test.YtdopgaljbpjpcaaKeeps
namespace Go.Proofs.Ytdopgaljbpjpcaa

theorem momF_fst {xs ys : List Int} (h : xs.length = ys.length) : (momF xs ys).map (·.1) = xs := by
  unfold momF; exact List.map_fst_zip (by omega)
theorem momF_snd {xs ys : List Int} (h : xs.length = ys.length) : (momF xs ys).map (·.2) = ys := by
  unfold momF; exact List.map_snd_zip (by omega)
theorem scan_lvl {b : Int} (hb : 0 ≤ b) : ∀ (xs : List Int) (s : Int), (-50000 ≤ s ∧ s ≤ 50000) → (∀ x ∈ xs, -50000 ≤ x ∧ x ≤ 50000) → ∀ y ∈ scanL b s xs, -50000 ≤ y ∧ y ≤ 50000
  | [], _, _, _, y, hy => by simp [scanL] at hy
  | x :: xs, s, hs, hx, y, hy => by
    have h1 := hx x (by simp)
    have h2 : -50000 ≤ lazyN b s x ∧ lazyN b s x ≤ 50000 := by unfold lazyN; omega
    simp only [scanL, List.mem_cons] at hy
    rcases hy with rfl | hy
    · exact h2
    · exact scan_lvl hb xs _ h2 (fun z hz => hx z (by simp [hz])) y hy
theorem shown_lvl {b f : Int} (hb : 0 ≤ b) {xs : List Int} (hf : -50000 ≤ f ∧ f ≤ 50000) (hx : ∀ x ∈ xs, -50000 ≤ x ∧ x ≤ 50000) : ∀ y ∈ shownL b f xs, -50000 ≤ y ∧ y ≤ 50000 := by
  cases xs with
  | nil => simp [shownL]
  | cons x t =>
    intro y hy
    simp only [shownL, List.mem_cons] at hy
    rcases hy with rfl | hy
    · exact hf
    · exact scan_lvl hb t f hf (fun z hz => hx z (by simp [hz])) y hy
/-- Of a list that begins with f: it is kept just if it is what is shown. -/
theorem one_iff {b l h r f : Int} {real other : List Int} (hl : other.length = real.length) (h0 : 0 < real.length) (hf : other.headD 0 = f) :
    keepsF b l h r (momF other real) = 0 ↔ followOk b l h r f real = true ∧ shownL b f real = other := by
  have hml : 0 < (momF other real).length := by rw [mom_len]; omega
  rw [keepsF_iff, momF_fst hl, momF_snd hl, mom_shown hml, momF_fst hl, momF_snd hl, followOk_iff, hf]
  constructor
  · rintro ⟨hp, h1, h2, h3, h4, h5⟩
    refine ⟨⟨hp, ?_, h2, h3, h4⟩, h5⟩
    have := (listOk_iff.1 h1).2 f (by
      cases other with
      | nil => simp at hl; omega
      | cons o t => simp at hf; simp [hf])
    exact lvl_iff.2 this
  · rintro ⟨⟨hp, h1, h2, h3, h4⟩, h5⟩
    refine ⟨hp, ?_, h2, h3, h4, h5⟩
    have hx := listOk_iff.1 h2
    refine listOk_iff.2 ⟨by rw [hl]; exact hx.1, ?_⟩
    rw [← h5]
    exact shown_lvl (penOk_iff.1 hp).1 (lvl_iff.1 h1) hx.2
theorem shown_head {b f : Int} {real : List Int} (h0 : 0 < real.length) : (shownL b f real).headD 0 = f := by
  cases real with
  | nil => simp at h0
  | cons x t => simp [shownL]
theorem one_keeps {b l h r f : Int} {real : List Int} (hk : followOk b l h r f real = true) : keepsF b l h r (momF (shownL b f real) real) = 0 := by
  have h0 : 0 < real.length := by have := (listOk_iff.1 (followOk_iff.1 hk).2.2.1).1.1; omega
  exact (one_iff (shownL_len b f real) h0 (shown_head h0)).2 ⟨hk, rfl⟩
/-- Step by step. -/
theorem one_step {b l h r f : Int} {real : List Int} (hk : followOk b l h r f real = true) {k : Nat} (hk1 : k + 1 < real.length) (h1 : k + 1 < (shownL b f real).length) (h2 : k < (shownL b f real).length) :
    stepF b l h r (shownL b f real)[k] real[k] real[k + 1] = (((shownL b f real)[k + 1], real[k + 1]), 0) := by
  obtain ⟨hp, hf, hl, hr, hs⟩ := followOk_iff.1 hk
  have hb0 := (penOk_iff.1 hp).1
  have hx := (listOk_iff.1 hl).2
  have hlv := shown_lvl hb0 (lvl_iff.1 hf) hx _ (List.getElem_mem h2)
  have hx1 := hx _ (List.getElem_mem (show k < real.length by omega))
  have hx2 := hx _ (List.getElem_mem hk1)
  have hm : momB b r (momF (shownL b f real) real) = true := (keepsF_iff.1 (one_keeps hk)).2.2.2
  have hml : k < (momF (shownL b f real) real).length := by rw [mom_len]; omega
  have hrt := mom_right hb0 hm hml
  have e1 : (momF (shownL b f real) real)[k] = ((shownL b f real)[k], real[k]) := by simp [momF]
  rw [e1] at hrt
  have ha := (steadyB_iff r real).1 hs k hk1
  unfold stepF
  have hask : askE b l h r [(shownL b f real)[k], real[k], real[k + 1]] = 0 := by
    unfold askE
    rw [if_pos hp, if_pos]
    exact lvls_iff.2 (by simp; exact ⟨hlv, hx1, hx2⟩)
  rw [if_neg (by simp [hask]), if_pos ⟨hrt, ha⟩, shown_at hk1 h1 h2]
end Go.Proofs.Ytdopgaljbpjpcaa
