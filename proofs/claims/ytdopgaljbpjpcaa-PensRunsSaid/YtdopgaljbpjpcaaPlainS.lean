/- Stretches between turns rise or fall. -/
import Derived.Test.YtdopgaljbpjpcaaPlainT
namespace Go.Proofs.Ytdopgaljbpjpcaa

/-- From a on, d steps: either all numbers are equal, or there is a last move. -/
theorem last_move (xs : List Int) (a : Nat) : ∀ d, (∀ j, a ≤ j → j ≤ a + d → nth xs j = nth xs (a + d)) ∨ ∃ p, a ≤ p ∧ p < a + d ∧ nth xs p ≠ nth xs (p + 1) ∧ ∀ j, p + 1 ≤ j → j ≤ a + d → nth xs j = nth xs (a + d)
  | 0 => .inl fun j h1 h2 => by rw [show j = a + 0 by omega]
  | d + 1 => by
    by_cases h : nth xs (a + d) = nth xs (a + (d + 1))
    · rcases last_move xs a d with h1 | ⟨p, h1, h2, h3, h4⟩
      · left
        intro j g1 g2
        by_cases e : j = a + (d + 1)
        · rw [e]
        · rw [h1 j g1 (by omega), h]
      · right
        refine ⟨p, h1, by omega, h3, fun j g1 g2 => ?_⟩
        by_cases e : j = a + (d + 1)
        · rw [e]
        · rw [h4 j g1 (by omega), h]
    · right
      refine ⟨a + d, by omega, by omega, by rw [show a + d + 1 = a + (d + 1) by omega]; exact h, fun j g1 g2 => by rw [show j = a + (d + 1) by omega]⟩
def UpOn (xs : List Int) (a c : Nat) : Prop := ∀ j, a ≤ j → j < c → nth xs j ≤ nth xs (j + 1)
def DnOn (xs : List Int) (a c : Nat) : Prop := ∀ j, a ≤ j → j < c → nth xs (j + 1) ≤ nth xs j
theorem mono_between (xs : List Int) (a : Nat) : ∀ d, a + d < xs.length → (∀ j, a < j → j < a + d → ¬ TurnAt xs j) → UpOn xs a (a + d) ∨ DnOn xs a (a + d)
  | 0, _, _ => .inl fun j h1 h2 => by omega
  | d + 1, h, hn => by
    have ih := mono_between xs a d (by omega) (fun j h1 h2 => hn j h1 (by omega))
    have key : ∀ p, a ≤ p → p < a + d → nth xs p ≠ nth xs (p + 1) → (∀ j, p + 1 ≤ j → j ≤ a + d → nth xs j = nth xs (a + d)) → nth xs (a + d) ≠ nth xs (a + (d + 1)) → ¬ (nth xs (a + d) < nth xs (a + (d + 1)) ↔ nth xs (p + 1) < nth xs p) := by
      intro p h1 h2 h3 h4 h5 h6
      have e := h4 (p + 1) (by omega) (by omega)
      refine hn (p + 1) (by omega) (by omega) ⟨by omega, ?_, a + (d + 1), by omega, h, ?_, fun j g1 g2 => ?_, ?_⟩
      · simpa using fun e => h3 e.symm
      · rw [e]; exact fun e => h5 e.symm
      · rw [e]; exact h4 j g1 (by omega)
      · rw [show p + 1 - 1 = p by omega, ← h6, e]
    rcases Int.lt_trichotomy (nth xs (a + d)) (nth xs (a + (d + 1))) with hc | hc | hc
    · left
      rcases ih with ih | ih
      · intro j g1 g2
        by_cases e : j = a + d
        · subst e; rw [show a + d + 1 = a + (d + 1) by omega]; omega
        · exact ih j g1 (by omega)
      · rcases last_move xs a d with h1 | ⟨p, h1, h2, h3, h4⟩
        · intro j g1 g2
          by_cases e : j = a + d
          · subst e; rw [show a + d + 1 = a + (d + 1) by omega]; omega
          · rw [h1 j g1 (by omega), h1 (j + 1) (by omega) (by omega)]; omega
        · exfalso
          have := ih p h1 (by omega)
          refine key p h1 h2 h3 h4 (by omega) ?_
          constructor <;> intro <;> omega
    · rcases ih with ih | ih
      · left
        intro j g1 g2
        by_cases e : j = a + d
        · subst e; rw [show a + d + 1 = a + (d + 1) by omega]; omega
        · exact ih j g1 (by omega)
      · right
        intro j g1 g2
        by_cases e : j = a + d
        · subst e; rw [show a + d + 1 = a + (d + 1) by omega]; omega
        · exact ih j g1 (by omega)
    · right
      rcases ih with ih | ih
      · rcases last_move xs a d with h1 | ⟨p, h1, h2, h3, h4⟩
        · intro j g1 g2
          by_cases e : j = a + d
          · subst e; rw [show a + d + 1 = a + (d + 1) by omega]; omega
          · rw [h1 j g1 (by omega), h1 (j + 1) (by omega) (by omega)]; omega
        · exfalso
          have := ih p h1 (by omega)
          refine key p h1 h2 h3 h4 (by omega) ?_
          constructor <;> intro <;> omega
      · intro j g1 g2
        by_cases e : j = a + d
        · subst e; rw [show a + d + 1 = a + (d + 1) by omega]; omega
        · exact ih j g1 (by omega)
/-- The turns as natural numbers. -/
def turnsN (xs : List Int) : List Nat := (List.range xs.length).filter fun i => turnB xs i
theorem turnsL_N (xs : List Int) : turnsL xs = (turnsN xs).map fun i : Nat => (i : Int) := rfl
theorem turnsN_lt {xs : List Int} {k : Nat} (h : k < (turnsN xs).length) : (turnsN xs)[k] < xs.length ∧ TurnAt xs (turnsN xs)[k] := by
  have hm := List.getElem_mem h
  unfold turnsN at hm
  rw [List.mem_filter, List.mem_range] at hm
  exact ⟨hm.1, (turnB_iff hm.1).1 hm.2⟩
theorem turnsN_inc {xs : List Int} {j k : Nat} (hj : j < (turnsN xs).length) (hk : k < (turnsN xs).length) (h : j < k) : (turnsN xs)[j] < (turnsN xs)[k] := by
  have hp : (turnsN xs).Pairwise (· < ·) := List.Pairwise.filter _ List.pairwise_lt_range
  exact List.pairwise_iff_getElem.1 hp j k hj hk h
theorem turnsN_mem {xs : List Int} {i : Nat} (hi : i < xs.length) (h : TurnAt xs i) : ∃ k, ∃ h : k < (turnsN xs).length, (turnsN xs)[k] = i := by
  have : i ∈ turnsN xs := by unfold turnsN; rw [List.mem_filter, List.mem_range]; exact ⟨hi, (turnB_iff hi).2 h⟩
  exact List.getElem_of_mem this
/-- Where stretch k begins, and where it ends. -/
def fromN (xs : List Int) (k : Nat) : Nat := if k = 0 then 0 else (turnsN xs).getD (k - 1) (xs.length - 1)
def toN (xs : List Int) (k : Nat) : Nat := (turnsN xs).getD k (xs.length - 1)
theorem fromN_succ (xs : List Int) (k : Nat) : fromN xs (k + 1) = toN xs k := by simp [fromN, toN]
theorem getDN {l : List Nat} {k d : Nat} (h : k < l.length) : l.getD k d = l[k] := by simp [List.getD_eq_getElem?_getD, h]
theorem getDN' {l : List Nat} {k d : Nat} (h : l.length ≤ k) : l.getD k d = d := by simp [List.getD_eq_getElem?_getD, h]
theorem stretch (xs : List Int) (h0 : 0 < xs.length) (k : Nat) (hk : k ≤ (turnsN xs).length) :
    fromN xs k ≤ toN xs k ∧ toN xs k < xs.length ∧ (∀ j, fromN xs k < j → j < toN xs k → ¬ TurnAt xs j) := by
  have hto : toN xs k < xs.length := by
    unfold toN
    by_cases h : k < (turnsN xs).length
    · rw [getDN h]; exact (turnsN_lt h).1
    · rw [getDN' (by omega)]; omega
  have hfrom : fromN xs k ≤ toN xs k := by
    unfold fromN toN
    by_cases e : k = 0
    · rw [if_pos e]; omega
    · rw [if_neg e, getDN (by omega)]
      by_cases h : k < (turnsN xs).length
      · rw [getDN h]; exact Nat.le_of_lt (turnsN_inc _ _ (by omega))
      · rw [getDN' (by omega)]
        have := (turnsN_lt (xs := xs) (k := k - 1) (by omega)).1
        omega
  refine ⟨hfrom, hto, fun j h1 h2 ht => ?_⟩
  obtain ⟨m, hm, e⟩ := turnsN_mem (by omega) ht
  have hmk : m < k := by
    by_cases h : m < k
    · exact h
    · exfalso
      unfold toN at h2
      rw [getDN (by omega)] at h2
      by_cases e2 : m = k
      · subst e2; omega
      · have := turnsN_inc (xs := xs) (j := k) (k := m) (by omega) hm (by omega); omega
  unfold fromN at h1
  rw [if_neg (by omega), getDN (by omega)] at h1
  by_cases e2 : m = k - 1
  · subst e2; omega
  · have := turnsN_inc (xs := xs) (j := m) (k := k - 1) hm (by omega) (by omega); omega
theorem stretch_mono (xs : List Int) (h0 : 0 < xs.length) (k : Nat) (hk : k ≤ (turnsN xs).length) : UpOn xs (fromN xs k) (toN xs k) ∨ DnOn xs (fromN xs k) (toN xs k) := by
  obtain ⟨h1, h2, h3⟩ := stretch xs h0 k hk
  have := mono_between xs (fromN xs k) (toN xs k - fromN xs k) (by omega) (fun j g1 g2 => h3 j g1 (by omega))
  rwa [show fromN xs k + (toN xs k - fromN xs k) = toN xs k by omega] at this
theorem stretch_moves (xs : List Int) (k : Nat) (h0 : 0 < k) (hk : k < (turnsN xs).length) (hu : UpOn xs (fromN xs k) (toN xs k)) (hd : DnOn xs (fromN xs k) (toN xs k)) : False := by
  have hlt := turnsN_inc (xs := xs) (j := k - 1) (k := k) (by omega) hk (by omega)
  obtain ⟨_, h1, h2, _⟩ := turnsN_lt hk
  have ef : fromN xs k = (turnsN xs)[k - 1] := by unfold fromN; rw [if_neg (by omega), getDN (by omega)]
  have et : toN xs k = (turnsN xs)[k] := by unfold toN; rw [getDN hk]
  rw [ef, et] at hu hd
  have g1 := hu ((turnsN xs)[k] - 1) (by omega) (by omega)
  have g2 := hd ((turnsN xs)[k] - 1) (by omega) (by omega)
  rw [show (turnsN xs)[k] - 1 + 1 = (turnsN xs)[k] by omega] at g1 g2
  omega
/-- Steps that were looked at: all rose; all fell. -/
def upTo (xs : List Int) (a : Nat) : Nat → Bool
  | 0 => true
  | d + 1 => upTo xs a d && decide (nth xs (a + d) ≤ nth xs (a + d + 1))
def dnTo (xs : List Int) (a : Nat) : Nat → Bool
  | 0 => true
  | d + 1 => dnTo xs a d && decide (nth xs (a + d + 1) ≤ nth xs (a + d))
theorem upTo_iff (xs : List Int) (a : Nat) : ∀ d, upTo xs a d = true ↔ UpOn xs a (a + d)
  | 0 => by simp [upTo, UpOn]; intros; omega
  | d + 1 => by
    rw [upTo, Bool.and_eq_true, upTo_iff xs a d, decide_eq_true_eq]
    constructor
    · rintro ⟨h1, h2⟩ j g1 g2
      by_cases e : j = a + d
      · subst e; exact h2
      · exact h1 j g1 (by omega)
    · intro h
      exact ⟨fun j g1 g2 => h j g1 (by omega), h (a + d) (by omega) (by omega)⟩
theorem dnTo_iff (xs : List Int) (a : Nat) : ∀ d, dnTo xs a d = true ↔ DnOn xs a (a + d)
  | 0 => by simp [dnTo, DnOn]; intros; omega
  | d + 1 => by
    rw [dnTo, Bool.and_eq_true, dnTo_iff xs a d, decide_eq_true_eq]
    constructor
    · rintro ⟨h1, h2⟩ j g1 g2
      by_cases e : j = a + d
      · subst e; exact h2
      · exact h1 j g1 (by omega)
    · intro h
      exact ⟨fun j g1 g2 => h j g1 (by omega), h (a + d) (by omega) (by omega)⟩
/-- Rising real levels are shown as rising ones; falling ones as falling ones. -/
theorem scan_up {b : Int} (hb : 0 ≤ b) : ∀ (xs : List Int) (s x : Int), x - b ≤ s → s ≤ x + b → UpOn (x :: xs) 0 xs.length → UpOn (s :: scanL b s xs) 0 xs.length
  | [], _, _, _, _, _ => fun j _ h2 => by simp at h2
  | y :: ys, s, x, h1, h2, hu => by
    have g := hu 0 (by omega) (by simp)
    simp [nth] at g
    have ih := scan_up hb ys (lazyN b s y) y (by unfold lazyN; omega) (by unfold lazyN; omega) (fun j g1 g2 => by have := hu (j + 1) (by omega) (by simp; omega); simpa [nth] using this)
    intro j g1 g2
    cases j with
    | zero => simp [nth, scanL]; unfold lazyN; omega
    | succ j =>
      have := ih j (by omega) (by simp at g2; omega)
      simpa [nth, scanL] using this
theorem scan_dn {b : Int} (hb : 0 ≤ b) : ∀ (xs : List Int) (s x : Int), x - b ≤ s → s ≤ x + b → DnOn (x :: xs) 0 xs.length → DnOn (s :: scanL b s xs) 0 xs.length
  | [], _, _, _, _, _ => fun j _ h2 => by simp at h2
  | y :: ys, s, x, h1, h2, hu => by
    have g := hu 0 (by omega) (by simp)
    simp [nth] at g
    have ih := scan_dn hb ys (lazyN b s y) y (by unfold lazyN; omega) (by unfold lazyN; omega) (fun j g1 g2 => by have := hu (j + 1) (by omega) (by simp; omega); simpa [nth] using this)
    intro j g1 g2
    cases j with
    | zero => simp [nth, scanL]; unfold lazyN; omega
    | succ j =>
      have := ih j (by omega) (by simp at g2; omega)
      simpa [nth, scanL] using this
theorem upOn_ends {xs : List Int} {a : Nat} : ∀ d, UpOn xs a (a + d) → nth xs a ≤ nth xs (a + d)
  | 0, _ => by simp
  | d + 1, h => by
    have h1 := upOn_ends d (fun j g1 g2 => h j g1 (by omega))
    have h2 := h (a + d) (by omega) (by omega)
    rw [show a + (d + 1) = a + d + 1 by omega]; omega
theorem dnOn_ends {xs : List Int} {a : Nat} : ∀ d, DnOn xs a (a + d) → nth xs (a + d) ≤ nth xs a
  | 0, _ => by simp
  | d + 1, h => by
    have h1 := dnOn_ends d (fun j g1 g2 => h j g1 (by omega))
    have h2 := h (a + d) (by omega) (by omega)
    rw [show a + (d + 1) = a + d + 1 by omega]; omega
theorem upOn_flat {xs : List Int} {n : Nat} (hu : UpOn xs 0 n) (he : nth xs n ≤ nth xs 0) : DnOn xs 0 n := by
  intro j _ h2
  have h1 := upOn_ends (xs := xs) (a := 0) j (fun i g1 g2 => hu i g1 (by omega))
  have h3 := upOn_ends (xs := xs) (a := j + 1) (n - (j + 1)) (fun i g1 g2 => hu i (by omega) (by omega))
  rw [show j + 1 + (n - (j + 1)) = n by omega] at h3
  simp only [Nat.zero_add] at h1
  omega
theorem dnOn_flat {xs : List Int} {n : Nat} (hu : DnOn xs 0 n) (he : nth xs 0 ≤ nth xs n) : UpOn xs 0 n := by
  intro j _ h2
  have h1 := dnOn_ends (xs := xs) (a := 0) j (fun i g1 g2 => hu i g1 (by omega))
  have h3 := dnOn_ends (xs := xs) (a := j + 1) (n - (j + 1)) (fun i g1 g2 => hu i (by omega) (by omega))
  rw [show j + 1 + (n - (j + 1)) = n by omega] at h3
  simp only [Nat.zero_add] at h1
  omega
theorem runs_shown {b f : Int} {xs : List Int} (hb : 0 ≤ b) (h0 : 0 < xs.length) (hr : rightB b f (xs.headD 0) = true) (ht : turnsL xs = []) :
    (nth xs 0 ≤ nth xs (xs.length - 1) → UpOn (shownL b f xs) 0 (xs.length - 1)) ∧ (nth xs (xs.length - 1) ≤ nth xs 0 → DnOn (shownL b f xs) 0 (xs.length - 1)) := by
  have hn : (turnsN xs).length = 0 := by
    have := congrArg List.length ht
    rw [turnsL_N] at this
    simpa using this
  have hm := stretch_mono xs h0 0 (by omega)
  have e1 : fromN xs 0 = 0 := rfl
  have e2 : toN xs 0 = xs.length - 1 := by unfold toN; rw [getDN' (by omega)]
  rw [e1, e2] at hm
  cases xs with
  | nil => simp at h0
  | cons x xs =>
    simp [rightB] at hr
    simp only [List.length_cons, Nat.add_sub_cancel] at hm ⊢
    constructor
    · intro he
      have hu : UpOn (x :: xs) 0 xs.length := by
        rcases hm with h | h
        · exact h
        · exact dnOn_flat h he
      exact scan_up hb xs f x (by omega) (by omega) hu
    · intro he
      have hd : DnOn (x :: xs) 0 xs.length := by
        rcases hm with h | h
        · exact upOn_flat h he
        · exact h
      exact scan_dn hb xs f x (by omega) (by omega) hd
end Go.Proofs.Ytdopgaljbpjpcaa
