/- What a pen shows, as plain lists: laws of following. -/
import Derived.Test.YtdopgaljbpjpcaaFollowB
import Derived.Test.YtdopgaljbpjpcaaForg
namespace Go.Proofs.Ytdopgaljbpjpcaa

/-- What a pen shows of a list of real levels, behind what it showed. -/
def scanL (b : Int) (s : Int) : List Int → List Int
  | [] => []
  | x :: xs => lazyN b s x :: scanL b (lazyN b s x) xs
def shownL (b f : Int) : List Int → List Int
  | [] => []
  | _ :: xs => f :: scanL b f xs
theorem scanL_len (b : Int) : ∀ (xs : List Int) (s : Int), (scanL b s xs).length = xs.length
  | [], _ => rfl
  | x :: xs, s => by simp [scanL, scanL_len b xs]
theorem shownL_len (b f : Int) (xs : List Int) : (shownL b f xs).length = xs.length := by
  cases xs with
  | nil => rfl
  | cons x xs => simp [shownL, scanL_len]
theorem goL_full {b r : Int} (hb : 0 ≤ b) : ∀ (xs : List Int) (s n : Int), rightB b s n = true → ((goL b r (s, n) xs).length < xs.length ∧ steadyB r (n :: xs) = false ∨ steadyB r (n :: xs) = true ∧ (goL b r (s, n) xs).map (·.1) = scanL b s xs)
  | [], s, n, h => by right; simp [goL, scanL, steadyB]
  | x :: xs, s, n, h => by
    by_cases hx : apartN x n ≤ r
    · have hg : goL b r (s, n) (x :: xs) = (lazyN b s x, x) :: goL b r (lazyN b s x, x) xs := by simp [goL, h, hx]
      rw [hg]
      rcases goL_full (r := r) hb xs (lazyN b s x) x (rightB_lazy b s x hb) with ⟨h1, h2⟩ | ⟨h1, h2⟩
      · left; simp [steadyB, h2]; omega
      · right; simp [steadyB, h1, hx, scanL, h2]
    · left; simp [goL, steadyB, hx]
theorem followL_full {b r f : Int} (hb : 0 ≤ b) {xs : List Int} (hx : 0 < xs.length) :
    ((followL b r f xs).length < xs.length ∧ (rightB b f (xs.headD 0) && steadyB r xs) = false) ∨ ((rightB b f (xs.headD 0) && steadyB r xs) = true ∧ (followL b r f xs).map (·.1) = shownL b f xs ∧ (followL b r f xs).length = xs.length) := by
  cases xs with
  | nil => simp at hx
  | cons x xs =>
    by_cases hr : rightB b f x = true
    · have hg : followL b r f (x :: xs) = (f, x) :: goL b r (f, x) xs := by simp [followL, hr]
      rw [hg]
      rcases goL_full (r := r) hb xs f x hr with ⟨h1, h2⟩ | ⟨h1, h2⟩
      · left; simp [h2]; omega
      · right
        have h3 := congrArg List.length h2
        simp [scanL_len] at h3
        simp [hr, h1, shownL, h2, h3]
    · left; simp [followL, hr]
theorem penOk_iff {b l h r : Int} : penOk b l h r = true ↔ 0 ≤ b ∧ b ≤ 8 ∧ -200 ≤ l ∧ l ≤ h ∧ h ≤ 200 ∧ h - l ≤ 40 ∧ 0 ≤ r ∧ r ≤ 12000 := by simp [penOk]
theorem lvl_iff {n : Int} : lvl n = true ↔ -50000 ≤ n ∧ n ≤ 50000 := by simp [lvl, withinB]
/-- When Follow succeeds. -/
def followOk (b l h r f : Int) (xs : List Int) : Bool := penOk b l h r && lvl f && listOk xs && (rightB b f (xs.headD 0) && steadyB r xs)
theorem followF_ok {b l h r f : Int} {xs : List Int} (h0 : followOk b l h r f xs = true) : followF b l h r f xs = (shownL b f xs, 0) := by
  simp only [followOk, Bool.and_eq_true] at h0
  obtain ⟨⟨⟨hp, hf⟩, hl⟩, hr, hs⟩ := h0
  have hb := (penOk_iff.1 hp).1
  have hx : 0 < xs.length := by simp [listOk] at hl; omega
  have ha : askE b l h r [f] = 0 := by simp [askE, hp, lvls, hf]
  have he : listE xs = 0 := by simp [listE, hl]
  unfold followF
  rw [if_neg (by simp [ha]), if_neg (by simp [he])]
  rcases followL_full (r := r) (f := f) hb hx with ⟨h1, h2⟩ | ⟨h1, h2, h3⟩
  · rw [hr, hs] at h2; cases h2
  · rw [if_neg (by omega), h2]
theorem followF_bad {b l h r f : Int} {xs : List Int} (h0 : followOk b l h r f xs = false) : (followF b l h r f xs).1 = [] ∧ (followF b l h r f xs).2 ≠ 0 := by
  unfold followF
  by_cases ha : askE b l h r [f] = 0
  · rw [if_neg (by simp [ha])]
    by_cases he : listE xs = 0
    · rw [if_neg (by simp [he])]
      have hp : penOk b l h r = true := by
        unfold askE at ha
        split at ha
        · assumption
        · omega
      have hf : lvl f = true := by
        unfold askE at ha
        rw [if_pos hp] at ha
        split at ha
        · rename_i h; simpa [lvls] using h
        · omega
      have hl : listOk xs = true := by
        unfold listE at he
        split at he
        · assumption
        · omega
      have hx : 0 < xs.length := by simp [listOk] at hl; omega
      simp only [followOk, hp, hf, hl, Bool.true_and] at h0
      rcases followL_full (r := r) (f := f) (penOk_iff.1 hp).1 hx with ⟨h1, h2⟩ | ⟨h1, h2, h3⟩
      · rw [if_pos h1]; simp
      · rw [h0] at h1; cases h1
    · rw [if_pos he]; exact ⟨rfl, he⟩
  · rw [if_pos ha]; exact ⟨rfl, ha⟩
theorem followF_err {b l h r f : Int} {xs : List Int} : (followF b l h r f xs).2 = 0 ↔ followOk b l h r f xs = true := by
  constructor
  · intro h0
    cases h1 : followOk b l h r f xs
    · exact absurd h0 (followF_bad h1).2
    · rfl
  · intro h0; rw [followF_ok h0]
/-- what Follow's success says -/
theorem followOk_iff {b l h r f : Int} {xs : List Int} : followOk b l h r f xs = true ↔ penOk b l h r = true ∧ lvl f = true ∧ listOk xs = true ∧ rightB b f (xs.headD 0) = true ∧ steadyB r xs = true := by
  simp only [followOk, Bool.and_eq_true]; constructor
  · rintro ⟨⟨⟨a, b⟩, c⟩, d, e⟩; exact ⟨a, b, c, d, e⟩
  · rintro ⟨a, b, c, d, e⟩; exact ⟨⟨⟨a, b⟩, c⟩, d, e⟩

def absN (n : Int) : Int := max n (-n)
def wayL : List Int → Int
  | [] => 0
  | [_] => 0
  | x :: y :: t => absN (y - x) + wayL (y :: t)
/-- Each number of a line is at most b away from the real level. -/
def nearL (b : Int) : List Int → List Int → Bool
  | [], [] => true
  | l :: ls, x :: xs => decide (x - b ≤ l ∧ l ≤ x + b) && nearL b ls xs
  | _, _ => false
theorem way_scan {b : Int} : ∀ (xs ls : List Int) (s c : Int), nearL b ls xs = true → wayL (s :: scanL b s xs) ≤ absN (s - c) + wayL (c :: ls)
  | [], [], s, c, _ => by simp [scanL, wayL, absN]; omega
  | x :: xs, l :: ls, s, c, h => by
    simp only [nearL, Bool.and_eq_true, decide_eq_true_eq] at h
    have ih := way_scan xs ls (lazyN b s x) l h.2
    have h1 : absN (lazyN b s x - s) + absN (lazyN b s x - l) ≤ absN (s - c) + absN (l - c) := by
      unfold absN lazyN; omega
    simp only [scanL, wayL]
    omega
theorem way_shown {b f : Int} {xs ls : List Int} (h : nearL b ls xs = true) (hf : ls.head? = some f) : wayL (shownL b f xs) ≤ wayL ls := by
  cases xs with
  | nil => cases ls <;> simp [nearL] at h ⊢ <;> simp [shownL, wayL]
  | cons x xs =>
    cases ls with
    | nil => simp [nearL] at h
    | cons l ls =>
      simp at hf; subst hf
      simp only [nearL, Bool.and_eq_true] at h
      have := way_scan xs ls l l h.2
      simp [shownL, absN] at this ⊢; exact this

theorem lazy_even {b d : Int} {s t x y : Int} (h1 : absN (s - t) ≤ d) (h2 : absN (x - y) ≤ d) : absN (lazyN b s x - lazyN b t y) ≤ d := by
  unfold absN lazyN at *; omega
theorem lazy_mono {b : Int} {s t x y : Int} (h1 : s ≤ t) (h2 : x ≤ y) : lazyN b s x ≤ lazyN b t y := by
  unfold lazyN; omega
theorem scan_even {b d : Int} : ∀ (xs ys : List Int) (s t : Int), absN (s - t) ≤ d → xs.length = ys.length → (∀ i, (h : i < xs.length) → (h' : i < ys.length) → absN (xs[i] - ys[i]) ≤ d) →
    ∀ i, (h : i < (scanL b s xs).length) → (h' : i < (scanL b t ys).length) → absN ((scanL b s xs)[i] - (scanL b t ys)[i]) ≤ d
  | [], [], s, t, _, _, _ => by intro i h; simp [scanL] at h
  | [], y :: ys, s, t, _, hl, _ => by simp at hl
  | x :: xs, [], s, t, _, hl, _ => by simp at hl
  | x :: xs, y :: ys, s, t, h1, hl, h2 => by
    have h3 := lazy_even (b := b) h1 (h2 0 (by simp) (by simp))
    intro i h h'
    cases i with
    | zero => simpa [scanL] using h3
    | succ i =>
      have := scan_even xs ys _ _ h3 (by simpa using hl) (fun i h h' => h2 (i + 1) (by simpa using h) (by simpa using h')) i (by simpa [scanL] using h) (by simpa [scanL] using h')
      simpa [scanL] using this
theorem shown_even {b d : Int} {xs ys : List Int} {s t : Int} (h1 : absN (s - t) ≤ d) (hl : xs.length = ys.length) (h2 : ∀ i, (h : i < xs.length) → (h' : i < ys.length) → absN (xs[i] - ys[i]) ≤ d) :
    ∀ i, (h : i < (shownL b s xs).length) → (h' : i < (shownL b t ys).length) → absN ((shownL b s xs)[i] - (shownL b t ys)[i]) ≤ d := by
  cases xs with
  | nil => intro i h; simp [shownL] at h
  | cons x xs =>
    cases ys with
    | nil => simp at hl
    | cons y ys =>
      intro i h h'
      cases i with
      | zero => simpa [shownL] using h1
      | succ i =>
        have := scan_even (b := b) xs ys s t h1 (by simpa using hl) (fun i h h' => h2 (i + 1) (by simpa using h) (by simpa using h')) i (by simpa [shownL] using h) (by simpa [shownL] using h')
        simpa [shownL] using this
theorem scan_mono {b : Int} : ∀ (xs ys : List Int) (s t : Int), s ≤ t → xs.length = ys.length → (∀ i, (h : i < xs.length) → (h' : i < ys.length) → xs[i] ≤ ys[i]) →
    ∀ i, (h : i < (scanL b s xs).length) → (h' : i < (scanL b t ys).length) → (scanL b s xs)[i] ≤ (scanL b t ys)[i]
  | [], [], s, t, _, _, _ => by intro i h; simp [scanL] at h
  | [], y :: ys, s, t, _, hl, _ => by simp at hl
  | x :: xs, [], s, t, _, hl, _ => by simp at hl
  | x :: xs, y :: ys, s, t, h1, hl, h2 => by
    have h3 := lazy_mono (b := b) h1 (h2 0 (by simp) (by simp))
    intro i h h'
    cases i with
    | zero => simpa [scanL] using h3
    | succ i =>
      have := scan_mono xs ys _ _ h3 (by simpa using hl) (fun i h h' => h2 (i + 1) (by simpa using h) (by simpa using h')) i (by simpa [scanL] using h) (by simpa [scanL] using h')
      simpa [scanL] using this
theorem shown_mono {b : Int} {xs ys : List Int} {s t : Int} (h1 : s ≤ t) (hl : xs.length = ys.length) (h2 : ∀ i, (h : i < xs.length) → (h' : i < ys.length) → xs[i] ≤ ys[i]) :
    ∀ i, (h : i < (shownL b s xs).length) → (h' : i < (shownL b t ys).length) → (shownL b s xs)[i] ≤ (shownL b t ys)[i] := by
  cases xs with
  | nil => intro i h; simp [shownL] at h
  | cons x xs =>
    cases ys with
    | nil => simp at hl
    | cons y ys =>
      intro i h h'
      cases i with
      | zero => simpa [shownL] using h1
      | succ i =>
        have := scan_mono (b := b) xs ys s t h1 (by simpa using hl) (fun i h h' => h2 (i + 1) (by simpa using h) (by simpa using h')) i (by simpa [shownL] using h) (by simpa [shownL] using h')
        simpa [shownL] using this

theorem scan_add {p q : Int} (hp : 0 ≤ p) (hq : 0 ≤ q) : ∀ (xs : List Int) (s t : Int), absN (t - s) ≤ q → scanL q t (scanL p s xs) = scanL (p + q) t xs
  | [], s, t, _ => by simp [scanL]
  | x :: xs, s, t, h => by
    have h1 : lazyN q t (lazyN p s x) = lazyN (p + q) t x := by unfold absN at h; unfold lazyN; omega
    simp only [scanL]
    rw [h1, scan_add hp hq xs (lazyN p s x) (lazyN (p + q) t x) (by rw [← h1]; unfold absN lazyN; omega)]
theorem shown_add {p q : Int} (hp : 0 ≤ p) (hq : 0 ≤ q) {xs : List Int} {s t : Int} (h : rightB q t ((shownL p s xs).headD 0) = true) : shownL q t (shownL p s xs) = shownL (p + q) t xs := by
  cases xs with
  | nil => rfl
  | cons x xs =>
    simp [shownL, rightB] at h
    simp only [shownL]
    rw [scan_add hp hq xs s t (by unfold absN; omega)]
theorem wayL_take : ∀ (xs : List Int) (k : Nat), (h : k + 1 < xs.length) → wayL (xs.take (k + 2)) = wayL (xs.take (k + 1)) + absN (xs[k + 1] - xs[k])
  | [], k, h => by simp at h
  | [x], k, h => by simp at h
  | x :: y :: t, 0, h => by simp [wayL]
  | x :: y :: t, k + 1, h => by
    have ih := wayL_take (y :: t) k (by simpa using h)
    simp only [List.take_succ_cons, wayL, List.getElem_cons_succ] at ih ⊢
    omega
theorem wayL_bd : ∀ (xs : List Int), (∀ x ∈ xs, -100000 ≤ x ∧ x ≤ 100000) → 0 ≤ wayL xs ∧ wayL xs ≤ 200000 * xs.length
  | [], _ => by simp [wayL]
  | [x], _ => by simp [wayL]
  | x :: y :: t, h => by
    have ih := wayL_bd (y :: t) (fun z hz => h z (by simp at hz ⊢; right; exact hz))
    have h1 := h x (by simp)
    have h2 := h y (by simp)
    simp only [wayL, List.length_cons, absN] at ih ⊢
    omega
theorem scan_bd {b : Int} (hb : 0 ≤ b) (hb' : b ≤ 16) : ∀ (xs : List Int) (s : Int), (∀ x ∈ xs, -50000 ≤ x ∧ x ≤ 50000) → ∀ y ∈ scanL b s xs, -60000 ≤ y ∧ y ≤ 60000
  | [], s, _ => by simp [scanL]
  | x :: xs, s, h => by
    intro y hy
    have h1 := h x (by simp)
    simp only [scanL, List.mem_cons] at hy
    rcases hy with rfl | hy
    · unfold lazyN; omega
    · exact scan_bd hb hb' xs _ (fun z hz => h z (by simp [hz])) y hy
theorem shown_bd {b f : Int} (hb : 0 ≤ b) (hb' : b ≤ 16) (hf : -50000 ≤ f ∧ f ≤ 50000) {xs : List Int} (h : ∀ x ∈ xs, -50000 ≤ x ∧ x ≤ 50000) : ∀ y ∈ shownL b f xs, -60000 ≤ y ∧ y ≤ 60000 := by
  cases xs with
  | nil => simp [shownL]
  | cons x xs =>
    intro y hy
    simp only [shownL, List.mem_cons] at hy
    rcases hy with rfl | hy
    · omega
    · exact scan_bd hb hb' xs f (fun z hz => h z (by simp [hz])) y hy
theorem lvls_iff {xs : List Int} : lvls xs = true ↔ ∀ x ∈ xs, -50000 ≤ x ∧ x ≤ 50000 := by
  simp [lvls, lvl, withinB]
theorem nearL_of {b : Int} : ∀ (ls xs : List Int), ls.length = xs.length → (∀ j, (h : j < ls.length) → (h' : j < xs.length) → xs[j] - b ≤ ls[j] ∧ ls[j] ≤ xs[j] + b) → nearL b ls xs = true
  | [], [], _, _ => rfl
  | [], x :: xs, h, _ => by simp at h
  | l :: ls, [], h, _ => by simp at h
  | l :: ls, x :: xs, h, hh => by
    have h0 := hh 0 (by simp) (by simp)
    simp only [nearL, Bool.and_eq_true, decide_eq_true_eq]
    exact ⟨h0, nearL_of ls xs (by simpa using h) (fun j h1 h2 => hh (j + 1) (by simpa using h1) (by simpa using h2))⟩
/-- Number k of a list. -/
abbrev nth (xs : List Int) (k : Nat) : Int := xs.getD k 0
theorem nth_eq {xs : List Int} {k : Nat} (h : k < xs.length) : nth xs k = xs[k] := by simp [nth, List.getD_eq_getElem?_getD, h]
end Go.Proofs.Ytdopgaljbpjpcaa
