/- A region that draws whose front is quiet (reads, arithmetic) and behind which one order alone is left: the front goes by one walk, inside the fence. -/
import Derived.Sort.QuietIn
namespace Go
section
variable {F : Fence} {n : Nat} {P : Program} {ops : Array Oper} {Q : Exit → Act → World → Prop} {C : World → Prop} {md : Region.Mode}

theorem wpAnyIn_more : ∀ (fuel : Nat) (listed : Array Bool) (a : Act) (w : World), wpAnyIn F n P md ops Q fuel listed a w → wpAnyIn F n P md ops Q (fuel + 1) listed a w
  | 0, _, _, _, h => ⟨fun _ => h.2, fun i hi => by rw [h.1] at hi; cases hi⟩
  | fuel + 1, _, _, _, h => ⟨h.1, fun i hi => wpOpIn_mono (fun a w hk => wpAnyIn_more fuel _ a w hk) (h.2 i hi)⟩
theorem wpAnyIn_fuel (k : Nat) {fuel : Nat} {listed : Array Bool} {a : Act} {w : World} (h : wpAnyIn F n P md ops Q fuel listed a w) : wpAnyIn F n P md ops Q (k + fuel) listed a w := by
  induction k with
  | zero => simpa using h
  | succ k ih => rw [show k + 1 + fuel = k + fuel + 1 by omega]; exact wpAnyIn_more _ _ _ _ ih

/-- Operation k waits for operation j. -/
def waits (md : Region.Mode) (ops : Array Oper) (k j : Nat) : Bool := match ops[k]? with | some o => o.after.any (fun e => Region.binds md e && e.on == j) | none => false
def frontB (md : Region.Mode) (ops : Array Oper) (m : Nat) : Bool :=
  decide (m < ops.size) && (List.range ops.size).all (fun i => match ops[i]? with
    | some o => o.after.all (fun e => decide (e.on < i)) && (match o.guard with | some (k, _) => decide (k < i) | none => true)
    | none => true) &&
  (List.range m).all (fun j => (List.range (m + 1)).any fun k => decide (j < k) && waits md ops k j) &&
  (List.range ops.size).all (fun i => decide (i ≤ m) || (List.range i).any fun k => decide (m ≤ k) && waits md ops i k)
/-- Whatever is listed has had listed what it waits for. -/
def DownL (md : Region.Mode) (ops : Array Oper) (listed : Array Bool) : Prop := ∀ k j, listed.getD k false = true → waits md ops k j = true → listed.getD j false = true
def frontList (ops : Array Oper) (m : Nat) : Array Bool := ((List.range ops.size).map fun i => decide (i < m)).toArray
theorem getD_tf {l : Array Bool} {i : Nat} (h : i < l.size) : l.getD i true = l.getD i false := by simp [Array.getD, h]
theorem frontB_after {m : Nat} (h : frontB md ops m = true) {k j : Nat} (hw : waits md ops k j = true) : j < k := by
  unfold waits at hw
  cases ho : ops[k]? with
  | none => rw [ho] at hw; cases hw
  | some o =>
    rw [ho] at hw
    simp only [frontB, Bool.and_eq_true] at h
    have h1 := List.all_eq_true.1 h.1.1.2 k (by simpa using (Array.getElem?_eq_some_iff.1 ho).1)
    rw [ho] at h1
    simp only [Bool.and_eq_true] at h1
    obtain ⟨e, he, hb⟩ := Array.any_eq_true'.1 hw
    have h2 := Array.all_eq_true'.1 h1.1 e he
    simp only [Bool.and_eq_true, beq_iff_eq, decide_eq_true_eq] at hb h2
    omega
theorem frontB_guard {m : Nat} (h : frontB md ops m = true) {i k : Nat} {o : Oper} {b : Bool} (ho : ops[i]? = some o) (hg : o.guard = some (k, b)) : k < i := by
  simp only [frontB, Bool.and_eq_true] at h
  have h1 := List.all_eq_true.1 h.1.1.2 i (by simpa using (Array.getElem?_eq_some_iff.1 ho).1)
  rw [ho] at h1
  simp only [Bool.and_eq_true, hg, decide_eq_true_eq] at h1
  exact h1.2
theorem frontB_up {m : Nat} (h : frontB md ops m = true) {j : Nat} (hj : j < m) : ∃ k, k ≤ m ∧ j < k ∧ waits md ops k j = true := by
  simp only [frontB, Bool.and_eq_true] at h
  have h1 := List.all_eq_true.1 h.1.2 j (by simpa using hj)
  obtain ⟨k, hk, h2⟩ := List.any_eq_true.1 h1
  simp only [Bool.and_eq_true, decide_eq_true_eq, List.mem_range] at hk h2
  exact ⟨k, by omega, h2.1, h2.2⟩
theorem frontB_back {m : Nat} (h : frontB md ops m = true) {i : Nat} (hi : i < ops.size) (him : m < i) : ∃ k, m ≤ k ∧ k < i ∧ waits md ops i k = true := by
  simp only [frontB, Bool.and_eq_true] at h
  have h1 := List.all_eq_true.1 h.2 i (by simpa using hi)
  simp only [Bool.or_eq_true, decide_eq_true_eq] at h1
  rcases h1 with h1 | h1
  · omega
  · obtain ⟨k, hk, h2⟩ := List.any_eq_true.1 h1
    simp only [Bool.and_eq_true, decide_eq_true_eq, List.mem_range] at hk h2
    exact ⟨k, h2.1, hk, h2.2⟩
theorem ready_iff {listed : Array Bool} {i : Nat} : i ∈ Region.ready md ops listed ↔ i < ops.size ∧ listed.getD i true = false ∧ ∀ j, waits md ops i j = true → listed.getD j false = true := by
  unfold Region.ready waits
  simp only [List.mem_filter, List.mem_range, Bool.and_eq_true, Bool.not_eq_true']
  constructor
  · rintro ⟨h1, h2, h3⟩
    refine ⟨h1, h2, fun j hj => ?_⟩
    cases ho : ops[i]? with
    | none => rw [ho] at hj; cases hj
    | some o =>
      rw [ho] at hj h3
      obtain ⟨e, he, hb⟩ := Array.any_eq_true'.1 hj
      simp only [Option.map_some, Option.getD_some] at h3
      have h4 := Array.all_eq_true'.1 h3 e he
      simp only [Bool.and_eq_true, beq_iff_eq, Bool.or_eq_true, Bool.not_eq_true'] at hb h4
      rcases h4 with h4 | h4
      · rw [hb.1] at h4; cases h4
      · rw [← hb.2]; exact h4
  · rintro ⟨h1, h2, h3⟩
    refine ⟨h1, h2, ?_⟩
    have ho : ops[i]? = some ops[i] := by simp [h1]
    rw [ho] at h3 ⊢
    simp only [Option.map_some, Option.getD_some]
    refine Array.all_eq_true'.2 fun e he => ?_
    cases hb : Region.binds md e with
    | false => simp
    | true =>
      have := h3 e.on (Array.any_eq_true'.2 ⟨e, he, by simp [hb]⟩)
      simp [this]
theorem down_front {m : Nat} {listed : Array Bool} (hB : frontB md ops m = true) (hD : DownL md ops listed) (h : ∀ j, waits md ops m j = true → listed.getD j false = true) : ∀ d j, j + d = m → 0 < d → listed.getD j false = true := by
  intro d
  induction d using Nat.strongRecOn with
  | _ d ih =>
    intro j hj hd
    obtain ⟨k, hk, hjk, hw⟩ := frontB_up hB (j := j) (by omega)
    by_cases e : k = m
    · subst e; exact h j hw
    · exact hD k j (ih (m - k) (by omega) k (by omega) (by omega)) hw
theorem down_listed {m : Nat} {listed : Array Bool} (hB : frontB md ops m = true) (hs : listed.size = ops.size) (hD : DownL md ops listed) : ∀ k, m ≤ k → listed.getD k false = true → ∀ j, waits md ops m j = true → listed.getD j false = true := by
  intro k
  induction k using Nat.strongRecOn with
  | _ k ih =>
    intro hk hl j hj
    by_cases e : k = m
    · subst e; exact hD _ _ hl hj
    · have hks : k < ops.size := by
        by_cases h : k < listed.size
        · omega
        · simp [Array.getD, h] at hl
      obtain ⟨k', h1, h2, h3⟩ := frontB_back hB hks (by omega)
      exact ih k' h2 h1 (hD _ _ hl h3) j hj
theorem ready_front {m : Nat} {listed : Array Bool} (hB : frontB md ops m = true) (hs : listed.size = ops.size) (hD : DownL md ops listed) {i : Nat} (hi : i ∈ Region.ready md ops listed) (hm : m ≤ i) : ∀ j, j < m → listed.getD j false = true := by
  obtain ⟨h1, _, h3⟩ := ready_iff.1 hi
  intro j hj
  refine down_front hB hD ?_ (m - j) j (by omega) (by omega)
  by_cases e : i = m
  · subst e; exact h3
  · obtain ⟨k, hk1, hk2, hk3⟩ := frontB_back hB h1 (by omega)
    exact down_listed hB hs hD k hk1 (h3 k hk3)
theorem yielded_congr {ops ops' : Array Oper} {k : Nat} (h : ops'[k]? = ops[k]?) (t : Array Value) : yielded ops' t k = yielded ops t k := by
  unfold yielded; rw [h]
theorem wanted_congr {ops ops' : Array Oper} {o : Oper} (h : ∀ k b, o.guard = some (k, b) → ops'[k]? = ops[k]?) (t : Array Value) : Region.wanted o (yielded ops' t) = Region.wanted o (yielded ops t) := by
  unfold Region.wanted
  cases hg : o.guard with
  | none => rfl
  | some g =>
    obtain ⟨k, b⟩ := g
    have := yielded_congr (h k b hg) t
    simp [this]
theorem qOpIn_congr {ops ops' : Array Oper} {i : Nat} {K : Act → Prop} {a : Act} (hi : ops'[i]? = ops[i]?) (hg : ∀ o k b, ops[i]? = some o → o.guard = some (k, b) → ops'[k]? = ops[k]?) (h : qOpIn F n P ops' C i K a) : qOpIn F n P ops C i K a := by
  unfold qOpIn at *
  rw [hi] at h
  cases ho : ops[i]? with
  | none => rw [ho] at h; exact h
  | some o =>
    rw [ho] at h
    simp only at h ⊢
    rw [wanted_congr (fun k b e => hg o k b ho e)] at h
    exact h
theorem wpAnyIn_front {ops' : Array Oper} {m rest : Nat} (hro : F.round = none) (hB : frontB md ops m = true) (hops : ∀ i, i < m → ops'[i]? = ops[i]?) (hsz : ops'.size = m) :
    ∀ (fuel : Nat) (listed listed' : Array Bool) (a : Act) (w : World), listed.size = ops.size → listed'.size = m → (∀ i, i < m → listed.getD i false = listed'.getD i false) → (∀ i, m ≤ i → listed.getD i false = false) →
      DownL md ops listed → C w → wpAnyQIn F n P md ops' C (fun a' => ∀ w', C w' → wpAnyIn F n P md ops Q rest (frontList ops m) a' w') fuel listed' a → wpAnyIn F n P md ops Q (fuel + rest) listed a w := by
  have hm : m < ops.size := by simp only [frontB, Bool.and_eq_true, decide_eq_true_eq] at hB; exact hB.1.1.1
  have hw' : ∀ k j, k < m → waits md ops' k j = waits md ops k j := fun k j hk => by unfold waits; rw [hops k hk]
  have hrd : ∀ listed listed' : Array Bool, listed.size = ops.size → listed'.size = m → (∀ i, i < m → listed.getD i false = listed'.getD i false) → ∀ i, i < m → (i ∈ Region.ready md ops listed ↔ i ∈ Region.ready md ops' listed') := by
    intro listed listed' hs hs' he i hi
    rw [ready_iff, ready_iff, getD_tf (by omega), getD_tf (by omega), he i hi]
    constructor
    · rintro ⟨h1, h2, h3⟩
      refine ⟨by omega, h2, fun j hj => ?_⟩
      rw [hw' i j hi] at hj
      have := frontB_after hB hj
      rw [← he j (by omega)]; exact h3 j hj
    · rintro ⟨h1, h2, h3⟩
      refine ⟨by omega, h2, fun j hj => ?_⟩
      have := frontB_after hB hj
      rw [he j (by omega)]; exact h3 j (by rw [hw' i j hi]; exact hj)
  have hall : ∀ listed listed' : Array Bool, listed.size = ops.size → listed'.size = m → (∀ i, i < m → listed.getD i false = listed'.getD i false) → (∀ i, m ≤ i → listed.getD i false = false) → Region.ready md ops' listed' = [] → listed = frontList ops m := by
    intro listed listed' hs hs' he hz hr
    have h1 : ∀ j, j < m → listed'.getD j false = true := by
      intro j
      induction j using Nat.strongRecOn with
      | _ j ih =>
        intro hj
        cases hl : listed'.getD j false with
        | true => rfl
        | false =>
          have : j ∈ Region.ready md ops' listed' := by
            rw [ready_iff, getD_tf (by omega)]
            refine ⟨by omega, hl, fun k hk => ?_⟩
            rw [hw' j k hj] at hk
            have := frontB_after hB hk
            exact ih k this (by omega)
          rw [hr] at this; cases this
    apply Array.ext
    · simp [frontList, hs]
    · intro i hi1 hi2
      have e : listed[i] = listed.getD i false := by simp [Array.getD, hi1]
      rw [e]
      by_cases him : i < m
      · rw [he i him, h1 i him]; simp [frontList, him]
      · rw [hz i (by omega)]; simp [frontList, him]
  intro fuel
  induction fuel with
  | zero =>
    intro listed listed' a w hs hs' he hz hD hC h
    rw [hall listed listed' hs hs' he hz h.1]
    exact wpAnyIn_fuel 0 (h.2 w hC)
  | succ fuel ih =>
    intro listed listed' a w hs hs' he hz hD hC h
    by_cases hr' : Region.ready md ops' listed' = []
    · rw [hall listed listed' hs hs' he hz hr']
      exact wpAnyIn_fuel (fuel + 1) (h.1 hr' w hC)
    · obtain ⟨i0, hi0⟩ := List.exists_mem_of_ne_nil _ hr'
      have hi0' := ready_iff.1 hi0
      have hi0m : i0 < m := by omega
      have hf0 : listed.getD i0 false = false := by rw [he i0 hi0m, ← getD_tf (by omega)]; exact hi0'.2.1
      rw [show fuel + 1 + rest = (fuel + rest) + 1 by omega]
      refine ⟨fun h0 => ?_, fun i hi => ?_⟩
      · have := (hrd listed listed' hs hs' he i0 hi0m).2 hi0
        rw [h0] at this; cases this
      · have him : i < m := by
          by_cases e : i < m
          · exact e
          · have := ready_front hB hs hD hi (by omega) i0 hi0m
            rw [hf0] at this; cases this
        have hi' := (hrd listed listed' hs hs' he i him).1 hi
        have hq := qOpIn_congr (ops := ops) (hops i him) (fun o k b ho hg => hops k (by have := frontB_guard hB ho hg; omega)) (h.2 i hi')
        refine wpOpIn_of_qOpIn hro hC (fun a' w' hw hk => ih _ _ a' w' (by simpa using hs) (by simpa using hs') ?_ ?_ ?_ hw hk) hq
        · intro j hj
          by_cases e : i = j
          · subst e; simp [Array.getD, hs, hs', him]; omega
          · rw [getD_set_ne false e, getD_set_ne false e]; exact he j hj
        · intro j hj
          rw [getD_set_ne false (by omega)]; exact hz j hj
        · intro k j hk hw
          by_cases e : i = j
          · subst e; simp [Array.getD, hs]; omega
          · rw [getD_set_ne false e]
            by_cases e2 : i = k
            · subst e2; exact (ready_iff.1 hi).2.2 j hw
            · rw [getD_set_ne false e2] at hk; exact hD k j hk hw
/-- The front of a region that draws, walked once; the world behind it is the one ahead after some draws. -/
theorem wpIn_region_front {id : Nat} {a : Act} {w : World} (l1 l2 : List Oper) (hro : F.round = none) (hm : P.follows .mixedOrders = true) (hB : frontB .any (l1 ++ l2).toArray l1.length = true) (hL : Region.lexB .any l1.toArray = true)
    (h : wpQuietIn F n P l1.toArray (fun w' => ∃ n, w' = w.drewN n) (fun a' => ∀ w', (∃ n, w' = w.drewN n) → wpAnyIn F n P .any (l1 ++ l2).toArray Q l2.length (frontList (l1 ++ l2).toArray l1.length) a' w') l1 a) :
    (Code.region id (l1 ++ l2).toArray true).wpIn F n P Q a w := by
  refine wpIn_region_any hm ?_
  simp only [Region.lexB, Bool.and_eq_true] at hL
  have hq := wpAnyQIn_lex (F := F) (n := n) (P := P) (C := fun w' => ∃ n, w' = w.drewN n) (md := .any) (ops := l1.toArray) hL.1 l1 0 (Array.replicate l1.toArray.size false) a (by simp) (by simpa using hL.2) h
  have hz : ∀ (s i : Nat), (Array.replicate s false).getD i false = false := by
    intro s i
    by_cases hs : i < s <;> simp [Array.getD, hs]
  have := wpAnyIn_front (F := F) (n := n) (P := P) (Q := Q) (C := fun w' => ∃ n, w' = w.drewN n) (ops := (l1 ++ l2).toArray) (ops' := l1.toArray) (m := l1.length) (rest := l2.length) hro hB (fun i hi => by simp [List.getElem?_append_left hi]) (by simp) l1.length
    (Array.replicate (l1 ++ l2).toArray.size false) (Array.replicate l1.toArray.size false) a { w with drawn := w.drawn + 1 } (by simp) (by simp) (fun i _ => by rw [hz, hz]) (fun i _ => hz _ _) (fun k j hk => by rw [hz] at hk; cases hk) ⟨1, rfl⟩ hq
  simpa using this
theorem wpAnyIn_one {fuel : Nat} {listed : Array Bool} {a : Act} {w : World} {i : Nat} {o : Oper} (hr : Region.ready md ops listed = [i]) (ho : ops[i]? = some o) (hw : Region.wanted o (yielded ops a.tmps) = true)
    (h : ∀ K' : Act → World → Prop, (∀ a w, wpAnyIn F n P md ops Q fuel (listed.setIfInBounds i true) a w → K' a w) → Oper.wpIn F n P o a w K' Q) : wpAnyIn F n P md ops Q (fuel + 1) listed a w := by
  refine ⟨fun h0 => (by rw [hr] at h0; cases h0), fun j hj => ?_⟩
  rw [hr] at hj
  obtain rfl : j = i := by simpa using hj
  unfold wpOpIn
  simp only [ho, hw, if_true]
  exact h _ (fun _ _ hk => hk)
end
end Go
