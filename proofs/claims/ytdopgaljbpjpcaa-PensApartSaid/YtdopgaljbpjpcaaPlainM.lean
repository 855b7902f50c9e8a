/- What a pen remembers, in plain lists. -/
import Derived.Test.YtdopgaljbpjpcaaPlainT
namespace Go.Proofs.Ytdopgaljbpjpcaa

/-- Following from s over a list: the last number. -/
def runF (b : Int) (s : Int) : List Int → Int
  | [] => s
  | x :: t => runF b (lazyN b s x) t
theorem runF_append (b : Int) : ∀ (xs ys : List Int) (s : Int), runF b s (xs ++ ys) = runF b (runF b s xs) ys
  | [], _, _ => rfl
  | x :: t, ys, s => by simp [runF, runF_append b t ys]
/-- The remembered levels. -/
def remL (b : Int) : List Int → List Int
  | [] => []
  | [x] => [x]
  | x :: y :: t => if (hiI (y :: t) < x ∨ x < loI (y :: t)) ∧ hiI (y :: t) - loI (y :: t) < 2 * b then x :: remL b (y :: t) else remL b (y :: t)
theorem remL_ne {b : Int} : ∀ {xs : List Int}, xs ≠ [] → remL b xs ≠ []
  | [], h => absurd rfl h
  | [x], _ => by simp [remL]
  | x :: y :: t, _ => by
    have ih := remL_ne (b := b) (xs := y :: t) (by simp)
    rw [remL]
    split
    · simp
    · exact ih
theorem run_hi {b : Int} (hb : 0 ≤ b) : ∀ (t : List Int) (s : Int), t ≠ [] → s ≤ hiI t - b → runF b s t = runF b (hiI t - b) t
  | [], _, h, _ => absurd rfl h
  | [y], s, _, h => by
    rw [hiI_one] at h ⊢
    simp only [runF]
    unfold lazyN; omega
  | y :: z :: t, s, _, h => by
    have ih := run_hi hb (z :: t)
    rw [hiI_cons] at h ⊢
    show runF b (lazyN b s y) (z :: t) = runF b (lazyN b (max y (hiI (z :: t)) - b) y) (z :: t)
    by_cases hy : hiI (z :: t) ≤ y
    · have e : max y (hiI (z :: t)) = y := by omega
      rw [e] at h ⊢
      have : lazyN b s y = lazyN b (y - b) y := by unfold lazyN; omega
      rw [this]
    · have e : max y (hiI (z :: t)) = hiI (z :: t) := by omega
      rw [e] at h ⊢
      rw [ih (lazyN b s y) (by simp) (by unfold lazyN; omega), ih (lazyN b (hiI (z :: t) - b) y) (by simp) (by unfold lazyN; omega)]
theorem run_lo {b : Int} (hb : 0 ≤ b) : ∀ (t : List Int) (s : Int), t ≠ [] → loI t + b ≤ s → runF b s t = runF b (loI t + b) t
  | [], _, h, _ => absurd rfl h
  | [y], s, _, h => by
    rw [loI_one] at h ⊢
    simp only [runF]
    unfold lazyN; omega
  | y :: z :: t, s, _, h => by
    have ih := run_lo hb (z :: t)
    rw [loI_cons] at h ⊢
    show runF b (lazyN b s y) (z :: t) = runF b (lazyN b (min y (loI (z :: t)) + b) y) (z :: t)
    by_cases hy : y ≤ loI (z :: t)
    · have e : min y (loI (z :: t)) = y := by omega
      rw [e] at h ⊢
      have : lazyN b s y = lazyN b (y + b) y := by unfold lazyN; omega
      rw [this]
    · have e : min y (loI (z :: t)) = loI (z :: t) := by omega
      rw [e] at h ⊢
      rw [ih (lazyN b s y) (by simp) (by unfold lazyN; omega), ih (lazyN b (loI (z :: t) + b) y) (by simp) (by unfold lazyN; omega)]
theorem run_far {b : Int} (hb : 0 ≤ b) {t : List Int} (ht : t ≠ []) (h : 2 * b ≤ hiI t - loI t) (s s' : Int) : runF b s t = runF b s' t := by
  have key : ∀ s, runF b s t = runF b (hiI t - b) t := by
    intro s
    by_cases hs : s ≤ hiI t - b
    · exact run_hi hb t s ht hs
    · rw [run_lo hb t s ht (by omega), ← run_lo hb t (hiI t - b) ht (by omega)]
  rw [key s, key s']
/-- The last number depends on the remembered levels alone. -/
theorem run_rem {b : Int} (hb : 0 ≤ b) : ∀ (xs : List Int) (s : Int), runF b s (remL b xs) = runF b s xs
  | [], _ => rfl
  | [x], _ => rfl
  | x :: y :: t, s => by
    have ih := run_rem hb (y :: t)
    rw [remL]
    split
    · exact ih _
    · rename_i hk
      rw [ih]
      show runF b s (y :: t) = runF b (lazyN b s x) (y :: t)
      by_cases hw : hiI (y :: t) - loI (y :: t) < 2 * b
      · have h1 : loI (y :: t) ≤ x ∧ x ≤ hiI (y :: t) := by
          by_cases h2 : hiI (y :: t) < x ∨ x < loI (y :: t)
          · exact absurd ⟨h2, hw⟩ hk
          · omega
        by_cases h3 : s < x - b
        · rw [show lazyN b s x = x - b by unfold lazyN; omega, run_hi hb (y :: t) s (by simp) (by omega), run_hi hb (y :: t) (x - b) (by simp) (by omega)]
        · by_cases h4 : x + b < s
          · rw [show lazyN b s x = x + b by unfold lazyN; omega, run_lo hb (y :: t) s (by simp) (by omega), run_lo hb (y :: t) (x + b) (by simp) (by omega)]
          · rw [show lazyN b s x = s by unfold lazyN; omega]
      · exact run_far hb (by simp) (by omega) _ _
theorem loI_le_hiI : ∀ (t : List Int), t ≠ [] → loI t ≤ hiI t
  | [], h => absurd rfl h
  | [x], _ => by rw [loI_one, hiI_one]; exact Int.le_refl _
  | x :: y :: t, _ => by
    have := loI_le_hiI (y :: t) (by simp)
    rw [loI_cons, hiI_cons]; omega
theorem rem_ends {b : Int} : ∀ (t : List Int), t ≠ [] → hiI t - loI t < 2 * b → hiI (remL b t) = hiI t ∧ loI (remL b t) = loI t
  | [], h, _ => absurd rfl h
  | [x], _, _ => by simp [remL]
  | x :: y :: t, _, h => by
    have hle := loI_le_hiI (y :: t) (by simp)
    have hw : hiI (y :: t) - loI (y :: t) < 2 * b := by rw [loI_cons, hiI_cons] at h; omega
    obtain ⟨i1, i2⟩ := rem_ends (y :: t) (by simp) hw
    rw [remL]
    split
    · have hne := remL_ne (b := b) (xs := y :: t) (by simp)
      obtain ⟨z, u, hz⟩ : ∃ z u, remL b (y :: t) = z :: u := by
        cases hr : remL b (y :: t) with
        | nil => exact absurd hr hne
        | cons z u => exact ⟨z, u, rfl⟩
      rw [hz] at i1 i2 ⊢
      rw [hiI_cons, loI_cons, hiI_cons, loI_cons, i1, i2]
      exact ⟨rfl, rfl⟩
    · rename_i hk
      rw [i1, i2, hiI_cons, loI_cons]
      have : ¬ (hiI (y :: t) < x ∨ x < loI (y :: t)) := fun h2 => hk ⟨h2, hw⟩
      omega
theorem rem_rem {b : Int} : ∀ (xs : List Int), remL b (remL b xs) = remL b xs
  | [] => rfl
  | [x] => rfl
  | x :: y :: t => by
    have ih := rem_rem (b := b) (y :: t)
    by_cases hk : (hiI (y :: t) < x ∨ x < loI (y :: t)) ∧ hiI (y :: t) - loI (y :: t) < 2 * b
    · obtain ⟨i1, i2⟩ := rem_ends (b := b) (y :: t) (by simp) hk.2
      have hne := remL_ne (b := b) (xs := y :: t) (by simp)
      rw [remL, if_pos hk]
      obtain ⟨z, u, hz⟩ : ∃ z u, remL b (y :: t) = z :: u := by
        cases hr : remL b (y :: t) with
        | nil => exact absurd hr hne
        | cons z u => exact ⟨z, u, rfl⟩
      rw [hz] at i1 i2 ih ⊢
      rw [remL, if_pos (by rw [i1, i2]; exact hk), ih]
    · rw [remL, if_neg hk, ih]
/-- The remembered indices show the remembered levels. -/
theorem mem_rem (b : Int) (xs : List Int) : ∀ (d i : Nat), i + d + 1 = xs.length → remL b (xs.drop i) = ((List.range' i d).filter (keepB b xs)).map (nth xs) ++ [nth xs (i + d)]
  | 0, i, h => by
    rw [List.drop_eq_getElem_cons (show i < xs.length by omega), List.drop_eq_nil_of_le (by omega)]
    have e := nth_eq (show i < xs.length by omega)
    rw [Nat.add_zero, e]
    simp [remL]
  | d + 1, i, h => by
    have ih := mem_rem b xs d (i + 1) (by omega)
    have hc : (keepB b xs i = true) ↔ (hiI (xs.drop (i + 1)) < xs[i] ∨ xs[i] < loI (xs.drop (i + 1))) ∧ hiI (xs.drop (i + 1)) - loI (xs.drop (i + 1)) < 2 * b := by
      unfold keepB hiD loD
      have : xs.getD i 0 = xs[i] := by simp [List.getD_eq_getElem?_getD, List.getElem?_eq_getElem (show i < xs.length by omega)]
      rw [this]; simp
    rw [show i + (d + 1) = i + 1 + d by omega, List.range'_succ, List.filter_cons]
    have e1 : xs.drop i = xs[i] :: xs.drop (i + 1) := List.drop_eq_getElem_cons (by omega)
    have e2 : xs.drop (i + 1) = xs[i + 1] :: xs.drop (i + 2) := List.drop_eq_getElem_cons (by omega)
    rw [e1]
    by_cases hk : keepB b xs i = true
    · rw [if_pos hk]
      have hk2 := hc.1 hk
      rw [e2] at hk2 ih ⊢
      rw [remL, if_pos hk2, ih, List.map_cons, List.cons_append, nth_eq (show i < xs.length by omega)]
    · rw [if_neg hk]
      have hk2 := fun h => hk (hc.2 h)
      rw [e2] at hk2 ih ⊢
      rw [remL, if_neg hk2, ih]
/-- The levels at the remembered indices. -/
def memV (b : Int) (xs : List Int) : List Int := (memL b xs).map fun i => nth xs i.toNat
theorem memV_eq {b : Int} {xs : List Int} (h : 0 < xs.length) : memV b xs = remL b xs := by
  have := mem_rem b xs (xs.length - 1) 0 (by omega)
  rw [List.drop_zero] at this
  rw [this]
  unfold memV memL
  rw [List.range_eq_range', List.map_append, List.map_map]
  simp [Function.comp_def]
theorem mem_in {b : Int} {xs : List Int} (h : 0 < xs.length) : ∀ x ∈ memL b xs, 0 ≤ x ∧ x < xs.length := by
  intro x hx
  unfold memL at hx
  rw [List.mem_append] at hx
  rcases hx with hx | hx
  · obtain ⟨k, hk, rfl⟩ := List.mem_map.1 hx
    have := List.mem_range.1 (List.mem_filter.1 hk).1
    simp; omega
  · simp at hx; omega
theorem mem_up {b : Int} {xs : List Int} : (memL b xs).Pairwise (· < ·) := by
  unfold memL
  rw [List.pairwise_append]
  refine ⟨?_, by simp, ?_⟩
  · rw [List.pairwise_map]
    exact (List.pairwise_lt_range.filter _).imp (fun h => by simpa using h)
  · intro x hx y hy
    obtain ⟨k, hk, rfl⟩ := List.mem_map.1 hx
    have := List.mem_range.1 (List.mem_filter.1 hk).1
    simp at hy; subst hy
    simp; omega
theorem mem_next {b : Int} {xs : List Int} {k : Nat} (h1 : 1 ≤ k) (hk : k < (memL b xs).length) : (memL b xs)[k - 1] < (memL b xs)[k] :=
  List.pairwise_iff_getElem.1 mem_up (k - 1) k (by omega) hk (by omega)
theorem mem_last (b : Int) (xs : List Int) : (memL b xs).getLast? = some ((xs.length - 1 : Nat) : Int) := by unfold memL; simp
theorem mem_len (b : Int) (xs : List Int) (h : 0 < xs.length) : 1 ≤ (memL b xs).length ∧ (memL b xs).length ≤ xs.length := by
  unfold memL
  rw [List.length_append, List.length_map]
  have := List.length_filter_le (keepB b xs) (List.range (xs.length - 1))
  simp at this ⊢; omega
/-- Memory of the remembered levels is all of them. -/
theorem mem_again {b : Int} {xs : List Int} (h : 0 < xs.length) : (memL b (memV b xs)).length = (memV b xs).length := by
  have hl := (mem_len b xs h).1
  have h2 : 0 < (memV b xs).length := by unfold memV; rw [List.length_map]; omega
  have := congrArg List.length (memV_eq (b := b) h2)
  rw [memV_eq h, rem_rem, ← memV_eq h] at this
  unfold memV at this ⊢
  simpa using this
theorem shown_last (b f : Int) : ∀ (xs : List Int) (s : Int), (s :: scanL b s xs).getLast? = some (runF b s xs)
  | [], s => by simp [scanL, runF]
  | x :: t, s => by
    have := shown_last b f t (lazyN b s x)
    rw [scanL, List.getLast?_cons_cons, this]; rfl
theorem shown_end {b f : Int} {xs : List Int} (h : 0 < xs.length) (hr : rightB b f (xs.headD 0) = true) : (shownL b f xs).getLast? = some (runF b f xs) := by
  cases xs with
  | nil => simp at h
  | cons x t =>
    rw [shownL, shown_last b f t f, runF]
    have : lazyN b f x = f := by
      unfold rightB at hr; simp at hr; unfold lazyN; omega
    rw [this]
end Go.Proofs.Ytdopgaljbpjpcaa
