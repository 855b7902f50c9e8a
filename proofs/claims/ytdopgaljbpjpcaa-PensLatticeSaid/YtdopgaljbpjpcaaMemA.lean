/- What a pen remembers: the plain law. -/
import Derived.Test.YtdopgaljbpjpcaaSwing
namespace Go.Proofs.Ytdopgaljbpjpcaa

theorem foldl_min (a b : Int) (t : List Int) : t.foldl min (min a b) = min a (t.foldl min b) := by
  induction t generalizing b with
  | nil => rfl
  | cons y t ih =>
    simp only [List.foldl_cons]
    rw [show min (min a b) y = min a (min b y) by omega]
    exact ih _
theorem foldl_max (a b : Int) (t : List Int) : t.foldl max (max a b) = max a (t.foldl max b) := by
  induction t generalizing b with
  | nil => rfl
  | cons y t ih =>
    simp only [List.foldl_cons]
    rw [show max (max a b) y = max a (max b y) by omega]
    exact ih _
theorem loI_cons (x y : Int) (t : List Int) : loI (x :: y :: t) = min x (loI (y :: t)) := by
  simp only [loI, List.headD_cons, List.foldl_cons]
  rw [show min (min x x) y = min x (min y y) by omega, foldl_min]
theorem hiI_cons (x y : Int) (t : List Int) : hiI (x :: y :: t) = max x (hiI (y :: t)) := by
  simp only [hiI, List.headD_cons, List.foldl_cons]
  rw [show max (max x x) y = max x (max y y) by omega, foldl_max]
theorem loI_one (x : Int) : loI [x] = x := by simp [loI]
theorem hiI_one (x : Int) : hiI [x] = x := by simp [hiI]
/-- The least and the greatest number from an index on. -/
def loD (xs : List Int) (i : Nat) : Int := loI (xs.drop i)
def hiD (xs : List Int) (i : Nat) : Int := hiI (xs.drop i)
theorem loD_step (xs : List Int) (i : Nat) (h : i + 1 < xs.length) : loD xs i = min xs[i] (loD xs (i + 1)) := by
  unfold loD
  rw [List.drop_eq_getElem_cons (show i < xs.length by omega), List.drop_eq_getElem_cons h, loI_cons]
theorem hiD_step (xs : List Int) (i : Nat) (h : i + 1 < xs.length) : hiD xs i = max xs[i] (hiD xs (i + 1)) := by
  unfold hiD
  rw [List.drop_eq_getElem_cons (show i < xs.length by omega), List.drop_eq_getElem_cons h, hiI_cons]
theorem loD_last (xs : List Int) (i : Nat) (h : i + 1 = xs.length) : loD xs i = xs[i] := by
  unfold loD
  rw [List.drop_eq_getElem_cons (show i < xs.length by omega), List.drop_eq_nil_of_le (by omega), loI_one]
theorem hiD_last (xs : List Int) (i : Nat) (h : i + 1 = xs.length) : hiD xs i = xs[i] := by
  unfold hiD
  rw [List.drop_eq_getElem_cons (show i < xs.length by omega), List.drop_eq_nil_of_le (by omega), hiI_one]
theorem swing_mono (xs : List Int) : ∀ (d i : Nat), i + d < xs.length → loD xs i ≤ loD xs (i + d) ∧ hiD xs (i + d) ≤ hiD xs i
  | 0, i, h => by simp
  | d + 1, i, h => by
    have h1 := loD_step xs i (by omega)
    have h2 := hiD_step xs i (by omega)
    have h3 := swing_mono xs d (i + 1) (by omega)
    rw [show i + (d + 1) = i + 1 + d by omega]
    omega

/-- The index i is remembered (i is not the last one). -/
def keepB (b : Int) (xs : List Int) (i : Nat) : Bool := (decide (hiD xs (i + 1) < xs.getD i 0) || decide (xs.getD i 0 < loD xs (i + 1))) && decide (hiD xs (i + 1) - loD xs (i + 1) < 2 * b)
def memL (b : Int) (xs : List Int) : List Int := ((List.range (xs.length - 1)).filter (keepB b xs)).map Int.ofNat ++ [((xs.length - 1 : Nat) : Int)]
def memF (b l h r : Int) (xs : List Int) : List Int × Int := if listedE b l h r xs ≠ 0 then ([], listedE b l h r xs) else (memL b xs, 0)
/-- What has been gathered ahead of index k, from the first one on. -/
def memTo (b : Int) (xs : List Int) (k : Nat) : List Int := ((List.range k).filter (keepB b xs)).map Int.ofNat
theorem memTo_succ (b : Int) (xs : List Int) (k : Nat) : memTo b xs (k + 1) = if keepB b xs k = true then memTo b xs k ++ [(k : Int)] else memTo b xs k := by
  unfold memTo
  rw [List.range_succ, List.filter_append, List.map_append]
  split <;> rename_i h <;> simp [h]
theorem memTo_le (b : Int) (xs : List Int) (k : Nat) : (memTo b xs k).length ≤ k := by
  unfold memTo
  rw [List.length_map]
  have := List.length_filter_le (keepB b xs) (List.range k)
  simpa using this
/-- What has been gathered behind index i, from the last one on. -/
def memDn (b : Int) (xs : List Int) (m : Nat) : List Int := ((xs.length - 1 : Nat) : Int) :: (((List.range (xs.length - 1)).filter (fun i => decide (m ≤ i) && keepB b xs i)).map Int.ofNat).reverse
theorem memDn_start (b : Int) (xs : List Int) : memDn b xs (xs.length - 1) = [((xs.length - 1 : Nat) : Int)] := by
  unfold memDn
  have : (List.range (xs.length - 1)).filter (fun i => decide (xs.length - 1 ≤ i) && keepB b xs i) = [] := by
    rw [List.filter_eq_nil_iff]
    intro i hi
    have := List.mem_range.1 hi
    simp; intro h; omega
  rw [this]; rfl
theorem range_split (n m : Nat) (h : m < n) : List.range n = List.range m ++ m :: (List.range' (m + 1) (n - m - 1)) := by
  apply List.ext_getElem
  · simp; omega
  · intro i h1 h2
    simp only [List.getElem_range, List.getElem_append, List.length_range]
    split
    · simp
    · rename_i h3
      obtain ⟨d, hd⟩ : ∃ d, i - m = d := ⟨_, rfl⟩
      cases d with
      | zero => simp [hd]; omega
      | succ d => simp [hd]; omega
theorem filter_ge (b : Int) (xs : List Int) (m : Nat) (h : m < xs.length - 1) : (List.range (xs.length - 1)).filter (fun i => decide (m ≤ i) && keepB b xs i) =
    (if keepB b xs m = true then [m] else []) ++ (List.range (xs.length - 1)).filter (fun i => decide (m + 1 ≤ i) && keepB b xs i) := by
  rw [range_split _ _ h, List.filter_append, List.filter_append, List.filter_cons, List.filter_cons]
  have e1 : (List.range m).filter (fun i => decide (m ≤ i) && keepB b xs i) = [] := by
    rw [List.filter_eq_nil_iff]; intro i hi; have := List.mem_range.1 hi; simp; intro h; omega
  have e2 : (List.range m).filter (fun i => decide (m + 1 ≤ i) && keepB b xs i) = [] := by
    rw [List.filter_eq_nil_iff]; intro i hi; have := List.mem_range.1 hi; simp; intro h; omega
  have e3 : (List.range' (m + 1) (xs.length - 1 - m - 1)).filter (fun i => decide (m ≤ i) && keepB b xs i) = (List.range' (m + 1) (xs.length - 1 - m - 1)).filter (fun i => decide (m + 1 ≤ i) && keepB b xs i) := by
    apply List.filter_congr
    intro i hi
    have := (List.mem_range'_1.1 hi).1
    simp [show m ≤ i by omega, this]
  rw [e1, e2, e3]
  have hd : (decide (m + 1 ≤ m) && keepB b xs m) = false := by rw [decide_eq_false (by omega)]; rfl
  rw [hd]
  by_cases hk : keepB b xs m = true <;> simp [hk]
theorem memDn_step (b : Int) (xs : List Int) (m : Nat) (h : m < xs.length - 1) : memDn b xs m = if keepB b xs m = true then memDn b xs (m + 1) ++ [(m : Int)] else memDn b xs (m + 1) := by
  unfold memDn
  rw [filter_ge b xs m h]
  split <;> simp
theorem memDn_len (b : Int) (xs : List Int) (m : Nat) : (memDn b xs m).length ≤ xs.length - 1 + 1 := by
  unfold memDn
  rw [List.length_cons, List.length_reverse, List.length_map]
  have := List.length_filter_le (fun i => decide (m ≤ i) && keepB b xs i) (List.range (xs.length - 1))
  rw [List.length_range] at this
  omega
/-- Once the swing behind index m - 1 is 2 * b, nothing ahead of it is remembered. -/
theorem memDn_done (b : Int) (xs : List Int) (m : Nat) (hm : m < xs.length) (hs : m = 0 ∨ ¬ hiD xs m - loD xs m < 2 * b) : (memDn b xs m).reverse = memL b xs := by
  unfold memDn memL
  rw [List.reverse_cons, List.reverse_reverse]
  congr 2
  apply List.filter_congr
  intro i hi
  have hi' := List.mem_range.1 hi
  by_cases h1 : m ≤ i
  · simp [h1]
  · rcases hs with hs | hs
    · omega
    · have := swing_mono xs (m - (i + 1)) (i + 1) (by omega)
      rw [show i + 1 + (m - (i + 1)) = m by omega] at this
      have hk : keepB b xs i = false := by
        unfold keepB
        rw [Bool.and_eq_false_iff]; right
        simp; omega
      simp [h1, hk]
end Go.Proofs.Ytdopgaljbpjpcaa
