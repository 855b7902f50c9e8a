/- Turns as plain mathematics; everything upside down. -/
import Derived.Test.YtdopgaljbpjpcaaPlainR
import Derived.Test.YtdopgaljbpjpcaaTurnC
namespace Go.Proofs.Ytdopgaljbpjpcaa

/-- The list turns at i: behind it a run of equal numbers ends at q on the side from which it came. -/
def TurnAt (xs : List Int) (i : Nat) : Prop :=
  1 ≤ i ∧ nth xs i ≠ nth xs (i - 1) ∧ ∃ q, i < q ∧ q < xs.length ∧ nth xs q ≠ nth xs i ∧ (∀ j, i ≤ j → j < q → nth xs j = nth xs i) ∧ (nth xs i < nth xs q ↔ nth xs i < nth xs (i - 1))
theorem getD_at {l : List Int} {m : Nat} (h : m < l.length) : l.getD m 0 = l[m] := by
  rw [List.getD_eq_getElem?_getD, List.getElem?_eq_getElem h]; rfl
theorem nextI_cases {xs : List Int} {i : Nat} (hi : i < xs.length) :
    (nextI xs i = -1 ∧ ∀ j, i ≤ j → j < xs.length → nth xs j = nth xs i) ∨
    ∃ k : Nat, nextI xs i = k ∧ i + k < xs.length ∧ nth xs (i + k) ≠ nth xs i ∧ ∀ j, i ≤ j → j < i + k → nth xs j = nth xs i := by
  have hd : ∀ m, m < (xs.drop i).length → (xs.drop i).getD m 0 = nth xs (i + m) := by
    intro m hm
    simp at hm
    have h2 : i + m < xs.length := by omega
    simp [nth, List.getD_eq_getElem?_getD, List.getElem?_drop]
  unfold nextI idxOf
  cases e : (xs.drop i).findIdx? (fun n => n != xs.getD i 0) with
  | none =>
    left
    refine ⟨rfl, fun j h1 h2 => ?_⟩
    have h := List.findIdx?_eq_none_iff.1 e
    have hm : j - i < (xs.drop i).length := by simp; omega
    have h3 := h _ (List.getElem_mem hm)
    have h4 := hd (j - i) hm
    rw [show i + (j - i) = j by omega] at h4
    rw [← h4, getD_at hm]
    exact bne_eq_false_iff_eq.1 h3
  | some k =>
    right
    obtain ⟨hk, hp, hn⟩ := List.findIdx?_eq_some_iff_getElem.1 e
    have hk' : k < xs.length - i := by simpa using hk
    refine ⟨k, rfl, by omega, ?_, fun j h1 h2 => ?_⟩
    · have h4 := hd k hk
      rw [← h4, getD_at hk]
      exact bne_iff_ne.1 hp
    · have hm : j - i < (xs.drop i).length := by simp; omega
      have h3 := hn (j - i) (by omega)
      have h4 := hd (j - i) hm
      rw [show i + (j - i) = j by omega] at h4
      rw [← h4, getD_at hm]
      exact bne_eq_false_iff_eq.1 (by simpa using h3)
theorem turnB_iff {xs : List Int} {i : Nat} (hi : i < xs.length) : turnB xs i = true ↔ TurnAt xs i := by
  unfold turnB TurnAt
  simp only [Bool.and_eq_true, decide_eq_true_eq, bne_iff_ne, ne_eq, beq_iff_eq, decide_eq_decide]
  rcases nextI_cases hi with ⟨h1, h2⟩ | ⟨k, h1, h2, h3, h4⟩
  · rw [h1]
    constructor
    · rintro ⟨_, _, h, _⟩; omega
    · rintro ⟨_, _, q, q1, q2, q3, _⟩
      exact absurd (h2 q (by omega) q2) q3
  · rw [h1]
    simp only [Int.toNat_natCast]
    constructor
    · rintro ⟨g1, g2, _, g4⟩
      refine ⟨g1, g2, i + k, ?_, h2, h3, h4, g4⟩
      rcases Nat.eq_zero_or_pos k with e | e
      · subst e; exact absurd rfl h3
      · omega
    · rintro ⟨g1, g2, q, q1, q2, q3, q4, q5⟩
      have : q = i + k := by
        rcases Nat.lt_trichotomy q (i + k) with e | e | e
        · exact absurd (h4 q (by omega) e) q3
        · exact e
        · exact absurd (q4 (i + k) (by omega) e) h3
      subst this
      exact ⟨g1, g2, by omega, q5⟩

/-! ### Upside down -/
def negL (xs : List Int) : List Int := xs.map fun x => -x
theorem negL_len (xs : List Int) : (negL xs).length = xs.length := by simp [negL]
theorem nth_neg (xs : List Int) (k : Nat) : nth (negL xs) k = -nth xs k := by
  by_cases h : k < xs.length
  · simp [nth, negL, List.getD_eq_getElem?_getD, h]
  · simp [nth, negL, List.getD_eq_getElem?_getD, h]
theorem turnAt_neg {xs : List Int} {i : Nat} : TurnAt (negL xs) i ↔ TurnAt xs i := by
  unfold TurnAt
  simp only [nth_neg, negL_len]
  constructor
  · rintro ⟨h1, h2, q, h3, h4, h5, h6, h7⟩
    exact ⟨h1, by omega, q, h3, h4, by omega, fun j a b => by have := h6 j a b; omega, by omega⟩
  · rintro ⟨h1, h2, q, h3, h4, h5, h6, h7⟩
    exact ⟨h1, by omega, q, h3, h4, by omega, fun j a b => by have := h6 j a b; omega, by omega⟩
theorem turnsL_neg (xs : List Int) : turnsL (negL xs) = turnsL xs := by
  unfold turnsL turnsTo
  rw [negL_len]
  congr 1
  refine List.filter_congr fun i hi => ?_
  have hi' : i < xs.length := by simpa using hi
  rw [Bool.eq_iff_iff, turnB_iff (by rw [negL_len]; exact hi'), turnB_iff hi', turnAt_neg]
theorem lvl_neg (n : Int) : lvl (-n) = lvl n := by
  rw [Bool.eq_iff_iff, lvl_iff, lvl_iff]; omega
theorem lvls_neg (xs : List Int) : lvls (negL xs) = lvls xs := by
  unfold lvls negL
  rw [List.all_map]
  congr 1
  funext x
  exact lvl_neg x
theorem listOk_neg (xs : List Int) : listOk (negL xs) = listOk xs := by unfold listOk; rw [negL_len, lvls_neg]
theorem listE_neg (xs : List Int) : listE (negL xs) = listE xs := by unfold listE; rw [listOk_neg]
theorem listedE_neg (b l h r : Int) (xs : List Int) : listedE b l h r (negL xs) = listedE b l h r xs := by unfold listedE; rw [listE_neg]
theorem turnsF_neg (xs : List Int) : turnsF (negL xs) = turnsF xs := by unfold turnsF; rw [listE_neg, turnsL_neg]
theorem lazyN_neg {b : Int} (hb : 0 ≤ b) (s n : Int) : lazyN b (-s) (-n) = -lazyN b s n := by unfold lazyN; omega
theorem scan_neg {b : Int} (hb : 0 ≤ b) : ∀ (xs : List Int) (s : Int), scanL b (-s) (negL xs) = negL (scanL b s xs)
  | [], _ => rfl
  | x :: xs, s => by
    have ih := scan_neg hb xs (lazyN b s x)
    unfold negL at ih ⊢
    simp only [List.map_cons, scanL, lazyN_neg hb, ih]
theorem shown_neg {b : Int} (hb : 0 ≤ b) (xs : List Int) (s : Int) : shownL b (-s) (negL xs) = negL (shownL b s xs) := by
  cases xs with
  | nil => rfl
  | cons x xs =>
    have := scan_neg hb xs s
    unfold negL at this ⊢
    simp only [List.map_cons, shownL, this]
theorem rightB_neg (b s n : Int) : rightB b (-s) (-n) = rightB b s n := by unfold rightB; rw [Bool.eq_iff_iff]; simp; omega
theorem apartN_neg (a b : Int) : apartN (-a) (-b) = apartN a b := by unfold apartN; omega
theorem steadyB_neg (r : Int) : ∀ (xs : List Int), steadyB r (negL xs) = steadyB r xs
  | [] => rfl
  | [_] => rfl
  | x :: y :: t => by
    have ih := steadyB_neg r (y :: t)
    unfold negL at ih ⊢
    simp only [List.map_cons, steadyB, apartN_neg] at ih ⊢
    rw [ih]
theorem headD_neg (xs : List Int) : (negL xs).headD 0 = -xs.headD 0 := by cases xs <;> simp [negL]
theorem followOk_neg (b l h r f : Int) (xs : List Int) : followOk b l h r (-f) (negL xs) = followOk b l h r f xs := by
  unfold followOk; rw [lvl_neg, listOk_neg, headD_neg, rightB_neg, steadyB_neg]
/-- Follow's error. -/
theorem followF_e (b l h r f : Int) (xs : List Int) : (followF b l h r f xs).2 = if penOk b l h r = true then (if lvl f = true then (if listOk xs = true then (if (rightB b f (xs.headD 0) && steadyB r xs) = true then 0 else 31) else 1) else 1) else 30 := by
  cases hk : followOk b l h r f xs
  · unfold followOk at hk
    unfold followF
    cases hp : penOk b l h r
    · simp [askE, hp]
    · cases hf : lvl f
      · simp [askE, hp, lvls, hf]
      · cases hl : listOk xs
        · simp [askE, hp, lvls, hf, listE, hl]
        · simp only [hp, hf, hl, Bool.true_and] at hk
          have hx : 0 < xs.length := by simp [listOk] at hl; omega
          rcases followL_full (r := r) (f := f) (penOk_iff.1 hp).1 hx with ⟨h1, h2⟩ | ⟨h1, h2, h3⟩
          · simp [askE, hp, lvls, hf, listE, hl, h1]
            simpa using hk
          · rw [hk] at h1; cases h1
  · rw [followF_ok hk]
    obtain ⟨h1, h2, h3, h4, h5⟩ := followOk_iff.1 hk
    rw [h1, h2, h3, h4, h5]; rfl
theorem followF_neg (b l h r f : Int) (xs : List Int) : followF b l h r (-f) (negL xs) = (negL (followF b l h r f xs).1, (followF b l h r f xs).2) := by
  have hn := followOk_neg b l h r f xs
  cases hk : followOk b l h r f xs
  · have h1 := followF_bad hk
    rw [hk] at hn
    have h2 := followF_bad hn
    refine Prod.ext ?_ ?_
    · rw [h1.1, h2.1]; rfl
    · simp only
      rw [followF_e, followF_e, lvl_neg, listOk_neg, headD_neg, rightB_neg, steadyB_neg]
  · have hb := (penOk_iff.1 (followOk_iff.1 hk).1).1
    rw [hk] at hn
    rw [followF_ok hk, followF_ok hn, shown_neg hb]
def negP (xs : List (Int × Int)) : List (Int × Int) := xs.map fun x => (-x.2, -x.1)
theorem initF_neg (b : Int) (xs : List Int) (k : Nat) : initF b (negL xs) k = (-(initF b xs k).2, -(initF b xs k).1) := by
  unfold initF
  have h1 := nth_neg xs k
  have h2 := nth_neg xs (k - 1)
  unfold nth at h1 h2
  rw [h1, h2]
  by_cases c1 : k = 0 ∨ xs.getD k 0 = xs.getD (k - 1) 0
  · rw [if_pos c1, if_pos (by omega)]; exact Prod.ext (by simp only; omega) (by simp only; omega)
  · rw [if_neg c1, if_neg (by omega)]
    by_cases c2 : xs.getD (k - 1) 0 < xs.getD k 0
    · rw [if_pos c2, if_neg (by omega)]; exact Prod.ext (by simp only; omega) (by simp only; omega)
    · rw [if_neg c2, if_pos (by omega)]; exact Prod.ext (by simp only; omega) (by simp only; omega)
theorem fw_neg (b r : Int) (xs : List Int) : ∀ k, fw b r (negL xs) k = (-(fw b r xs k).2, -(fw b r xs k).1)
  | 0 => by simp only [fw, initF_neg]
  | k + 1 => by
    simp only [fw, initF_neg, fw_neg b r xs k]
    exact Prod.ext (by simp only; omega) (by simp only; omega)
theorem bw_neg (b r : Int) (xs : List Int) : ∀ j, bw b r (negL xs) j = (-(bw b r xs j).2, -(bw b r xs j).1)
  | 0 => by simp only [bw, fw_neg, negL_len]
  | j + 1 => by
    simp only [bw, fw_neg, negL_len, bw_neg b r xs j]
    exact Prod.ext (by simp only; omega) (by simp only; omega)
theorem spanN_neg (b r : Int) (xs : List Int) (k : Nat) : spanN b r (negL xs) k = (-(spanN b r xs k).2, -(spanN b r xs k).1) := by
  unfold spanN; rw [negL_len, bw_neg]
theorem realsL_neg (b r : Int) (xs : List Int) : realsL b r (negL xs) = negP (realsL b r xs) := by
  apply List.ext_getElem
  · simp [negP, realsL_len, negL_len]
  · intro k h1 h2
    have hk : k < xs.length := by rw [realsL_len, negL_len] at h1; exact h1
    have hk2 : k < (realsL b r xs).length := by rw [realsL_len]; exact hk
    rw [reals_at_k (by rw [negL_len]; exact hk) h1, spanN_neg]
    simp only [negP, List.getElem_map]
    rw [reals_at_k hk hk2]
theorem realsB_neg (b r : Int) (xs : List Int) : realsB b r (negL xs) = realsB b r xs := by
  rw [Bool.eq_iff_iff, realsB_iff, realsB_iff]
  simp only [negL_len, spanN_neg]
  exact ⟨fun h k hk => by have := h k hk; omega, fun h k hk => by have := h k hk; omega⟩
theorem realsF_neg (b l h r : Int) (xs : List Int) : realsF b l h r (negL xs) = (negP (realsF b l h r xs).1, (realsF b l h r xs).2) := by
  unfold realsF
  rw [listedE_neg, realsB_neg, realsL_neg]
  split
  · rfl
  · split <;> rfl
theorem foldl_neg : ∀ (t : List Int) (a : Int), (t.map fun x => -x).foldl min (-a) = -t.foldl max a ∧ (t.map fun x => -x).foldl max (-a) = -t.foldl min a
  | [], a => by simp
  | x :: t, a => by
    simp only [List.map_cons, List.foldl_cons]
    have h1 : min (-a) (-x) = -(max a x) := by omega
    have h2 : max (-a) (-x) = -(min a x) := by omega
    rw [h1, h2]
    exact ⟨(foldl_neg t _).1, (foldl_neg t _).2⟩
theorem loD_neg (xs : List Int) (i : Nat) : loD (negL xs) i = -hiD xs i ∧ hiD (negL xs) i = -loD xs i := by
  unfold loD hiD loI hiI negL
  rw [← List.map_drop]
  have e : ((xs.drop i).map fun x => -x).headD 0 = -(xs.drop i).headD 0 := headD_neg _
  rw [e]
  exact foldl_neg _ _
theorem keepB_neg (b : Int) (xs : List Int) (i : Nat) : keepB b (negL xs) i = keepB b xs i := by
  unfold keepB
  have h := nth_neg xs i
  unfold nth at h
  rw [(loD_neg xs (i + 1)).1, (loD_neg xs (i + 1)).2, h, Bool.eq_iff_iff]
  simp only [Bool.and_eq_true, Bool.or_eq_true, decide_eq_true_eq]
  omega
theorem memF_neg (b l h r : Int) (xs : List Int) : memF b l h r (negL xs) = memF b l h r xs := by
  unfold memF memL
  rw [listedE_neg, negL_len]
  have : keepB b (negL xs) = keepB b xs := funext (keepB_neg b xs)
  rw [this]
end Go.Proofs.Ytdopgaljbpjpcaa
