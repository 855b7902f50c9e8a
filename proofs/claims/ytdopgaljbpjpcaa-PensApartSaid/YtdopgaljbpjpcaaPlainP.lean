/- How far pens are apart, in plain lists. -/
import Derived.Test.YtdopgaljbpjpcaaPlainM
namespace Go.Proofs.Ytdopgaljbpjpcaa

theorem scan_run (b : Int) : ∀ (xs : List Int) (s : Int) (k : Nat), (h : k < (s :: scanL b s xs).length) → (s :: scanL b s xs)[k] = runF b s (xs.take k)
  | _, s, 0, _ => by simp [runF]
  | [], s, k + 1, h => by simp [scanL] at h
  | x :: xs, s, k + 1, h => by
    have := scan_run b xs (lazyN b s x) k (by simpa [scanL] using h)
    simpa [scanL, runF] using this
theorem lazy_right {b f x : Int} (h : rightB b f x = true) : lazyN b f x = f := by
  unfold rightB at h; simp at h; unfold lazyN; omega
theorem shown_run {b f : Int} {xs : List Int} {k : Nat} (hr : rightB b f (xs.headD 0) = true) (hk : k < xs.length) (h : k < (shownL b f xs).length) : (shownL b f xs)[k] = runF b f (xs.take (k + 1)) := by
  cases xs with
  | nil => simp at hk
  | cons x xs =>
    have := scan_run b xs f k (by simpa [shownL, scanL_len] using hk)
    simp only [List.take_succ_cons, runF]
    rw [lazy_right (by simpa using hr)]
    simpa [shownL] using this
theorem run_stay {b s : Int} : ∀ (xs : List Int), (∀ x ∈ xs, x - b ≤ s ∧ s ≤ x + b) → runF b s xs = s
  | [], _ => rfl
  | x :: t, h => by
    have h1 := h x (by simp)
    rw [runF, show lazyN b s x = s by unfold lazyN; omega]
    exact run_stay t fun y hy => h y (by simp [hy])
theorem hiI_ge : ∀ (t : List Int), ∀ x ∈ t, loI t ≤ x ∧ x ≤ hiI t
  | [], x, hx => by simp at hx
  | [y], x, hx => by simp at hx; subst hx; rw [loI_one, hiI_one]; omega
  | y :: z :: t, x, hx => by
    rw [loI_cons, hiI_cons]
    rcases List.mem_cons.1 hx with rfl | hx
    · have := hiI_ge (z :: t) z (by simp); omega
    · have := hiI_ge (z :: t) x hx; omega
/-- Pens that begin as low, and as high, as may be: how far they are apart. -/
theorem run_apart {b x : Int} {t : List Int} (hb : 0 ≤ b) : runF b (x + b) (x :: t) - runF b (x - b) (x :: t) = max 0 (2 * b - (hiI (x :: t) - loI (x :: t))) := by
  have hx := hiI_ge (x :: t) x (by simp)
  by_cases h : 2 * b ≤ hiI (x :: t) - loI (x :: t)
  · rw [run_far hb (by simp) h (x + b) (x - b)]; omega
  · have e1 : runF b (x - b) (x :: t) = hiI (x :: t) - b := by
      rw [run_hi hb (x :: t) (x - b) (by simp) (by omega)]
      exact run_stay _ fun y hy => by have := hiI_ge (x :: t) y hy; omega
    have e2 : runF b (x + b) (x :: t) = loI (x :: t) + b := by
      rw [run_lo hb (x :: t) (x + b) (by simp) (by omega)]
      exact run_stay _ fun y hy => by have := hiI_ge (x :: t) y hy; omega
    rw [e1, e2]; omega
theorem runK_runF (b : Int) : ∀ (xs : List Int) (s : Int), runK b s xs = runF b s xs
  | [], _ => rfl
  | x :: t, s => by
    have := runK_runF b t (lazyN b s x)
    unfold runK at this ⊢
    rw [List.foldl_cons, runF, this]
/-- The swing of the first k numbers. -/
def swK (xs : List Int) (k : Nat) : Int := hiI (xs.take k) - loI (xs.take k)
theorem meet_iff {b : Int} {xs : List Int} {k : Nat} (hb : 0 ≤ b) (h0 : 0 < xs.length) : meetB b xs (k + 1) = true ↔ 2 * b ≤ swK xs (k + 1) := by
  cases xs with
  | nil => simp at h0
  | cons x t =>
    have h := run_apart (x := x) (t := t.take k) hb
    unfold meetB swK
    rw [decide_eq_true_iff, runK_runF, runK_runF]
    simp only [List.headD_cons, List.take_succ_cons]
    omega
/-- Forgets, where following goes well: the first index with the swing. -/
theorem forgets_first {b l h r : Int} {xs : List Int} (he : listedE b l h r xs = 0) (hs : steadyB r xs = true) (hb : 0 ≤ b) (h0 : 0 < xs.length) {f i : Int} (hf : forgetsF b l h r xs = (f, i)) :
    (∀ t, t < xs.length → 2 * b ≤ swK xs (t + 1) → (∀ j, j < t → swK xs (j + 1) < 2 * b) → i = 0 ∧ f = t) ∧ ((∀ t, t < xs.length → swK xs (t + 1) < 2 * b) → i = 3) := by
  unfold forgetsF at hf
  rw [if_neg (by simp [he]), if_pos hs] at hf
  constructor
  · intro t ht h1 h2
    rw [find_some ht ((meet_iff hb h0).2 h1) (fun j hj => by
      cases hm : meetB b xs (j + 1)
      · rfl
      · have := (meet_iff hb h0).1 hm; have := h2 j hj; omega)] at hf
    simp at hf; omega
  · intro h1
    rw [find_none (fun j hj => by
      cases hm : meetB b xs (j + 1)
      · rfl
      · have := (meet_iff hb h0).1 hm; have := h1 j hj; omega)] at hf
    simp at hf; omega
theorem right_ends {b x : Int} (hb : 0 ≤ b) : rightB b (x - b) x = true ∧ rightB b (x + b) x = true := by
  unfold rightB; simp; omega
/-- What the two pens show at t. -/
theorem shown_apart {b : Int} {xs : List Int} {k : Nat} (hb : 0 ≤ b) (hk : k < xs.length) (h1 : k < (shownL b (xs.headD 0 + b) xs).length) (h2 : k < (shownL b (xs.headD 0 - b) xs).length) :
    (shownL b (xs.headD 0 + b) xs)[k] - (shownL b (xs.headD 0 - b) xs)[k] = max 0 (2 * b - swK xs (k + 1)) := by
  rw [shown_run (right_ends hb).2 hk, shown_run (right_ends hb).1 hk]
  cases xs with
  | nil => simp at hk
  | cons x t =>
    simp only [List.headD_cons, List.take_succ_cons]
    rw [run_apart hb]
    unfold swK
    simp only [List.take_succ_cons]
/-- A pen that begins between them stays there. -/
theorem shown_between {b f : Int} {xs : List Int} {k : Nat} (hr : rightB b f (xs.headD 0) = true) (h1 : k < (shownL b (xs.headD 0 + b) xs).length) (h2 : k < (shownL b (xs.headD 0 - b) xs).length) (h3 : k < (shownL b f xs).length) :
    (shownL b (xs.headD 0 - b) xs)[k] ≤ (shownL b f xs)[k] ∧ (shownL b f xs)[k] ≤ (shownL b (xs.headD 0 + b) xs)[k] := by
  have hf : xs.headD 0 - b ≤ f ∧ f ≤ xs.headD 0 + b := by unfold rightB at hr; rw [decide_eq_true_eq] at hr; omega
  exact ⟨shown_mono hf.1 rfl (fun i _ _ => Int.le_refl _) k h2 h3, shown_mono hf.2 rfl (fun i _ _ => Int.le_refl _) k h3 h1⟩
theorem loI_mem : ∀ (t : List Int), t ≠ [] → loI t ∈ t ∧ hiI t ∈ t
  | [], h => absurd rfl h
  | [x], _ => by rw [loI_one, hiI_one]; simp
  | x :: y :: t, _ => by
    obtain ⟨h1, h2⟩ := loI_mem (y :: t) (by simp)
    rw [loI_cons, hiI_cons]
    constructor
    · by_cases h : x ≤ loI (y :: t)
      · rw [show min x (loI (y :: t)) = x by omega]; simp
      · rw [show min x (loI (y :: t)) = loI (y :: t) by omega]; exact List.mem_cons_of_mem _ h1
    · by_cases h : hiI (y :: t) ≤ x
      · rw [show max x (hiI (y :: t)) = x by omega]; simp
      · rw [show max x (hiI (y :: t)) = hiI (y :: t) by omega]; exact List.mem_cons_of_mem _ h2
theorem runF_bd {b : Int} (hb : 0 ≤ b) (hb8 : b ≤ 16) : ∀ (xs : List Int) (s : Int), -60000 ≤ s ∧ s ≤ 60000 → (∀ x ∈ xs, -50000 ≤ x ∧ x ≤ 50000) → -60000 ≤ runF b s xs ∧ runF b s xs ≤ 60000
  | [], s, h, _ => h
  | x :: t, s, h, hx => by
    have h1 := hx x (by simp)
    exact runF_bd hb hb8 t (lazyN b s x) (by unfold lazyN; omega) (fun y hy => hx y (by simp [hy]))
end Go.Proofs.Ytdopgaljbpjpcaa
