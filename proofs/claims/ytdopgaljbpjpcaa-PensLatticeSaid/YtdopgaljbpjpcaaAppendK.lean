/- An append at a step of a region that draws: what the old slice reads stays; a region that draws whose front is quiet. -/
import Derived.Test.YtdopgaljbpjpcaaFront
import Derived.Deep.Quiet
import Derived.Lib.QuietBelow
import Derived.Test.YtdopgaljbpjpcaaAppend
import Derived.Deep.AppendLies
import Derived.RegionTactic
namespace Go
open Go.RowKit Go.Sort
section
variable {P : Program} {ops : Array Oper} {Q : Exit → Act → World → Prop} {C : World → Prop} {md : Region.Mode}

theorem wpAnyP_more : ∀ (fuel : Nat) (listed : Array Bool) (a : Act) (w : World), wpAny P md ops Q fuel listed a w → wpAny P md ops Q (fuel + 1) listed a w
  | 0, _, _, _, h => ⟨fun _ => h.2, fun i hi => by rw [h.1] at hi; cases hi⟩
  | fuel + 1, _, _, _, h => ⟨h.1, fun i hi => wpOp_mono (fun a w hk => wpAnyP_more fuel _ a w hk) (h.2 i hi)⟩
theorem wpAnyP_fuel (k : Nat) {fuel : Nat} {listed : Array Bool} {a : Act} {w : World} (h : wpAny P md ops Q fuel listed a w) : wpAny P md ops Q (k + fuel) listed a w := by
  induction k with
  | zero => simpa using h
  | succ k ih => rw [show k + 1 + fuel = k + fuel + 1 by omega]; exact wpAnyP_more _ _ _ _ ih

theorem qOpP_congr {ops ops' : Array Oper} {i : Nat} {K : Act → Prop} {a : Act} (hi : ops'[i]? = ops[i]?) (hg : ∀ o k b, ops[i]? = some o → o.guard = some (k, b) → ops'[k]? = ops[k]?) (h : qOp P ops' C i K a) : qOp P ops C i K a := by
  unfold qOp at *
  rw [hi] at h
  cases ho : ops[i]? with
  | none => rw [ho] at h; exact h
  | some o =>
    rw [ho] at h
    simp only at h ⊢
    rw [wanted_congr (fun k b e => hg o k b ho e)] at h
    exact h
theorem wpAnyP_front {ops' : Array Oper} {m rest : Nat} (hB : frontB md ops m = true) (hops : ∀ i, i < m → ops'[i]? = ops[i]?) (hsz : ops'.size = m) :
    ∀ (fuel : Nat) (listed listed' : Array Bool) (a : Act) (w : World), listed.size = ops.size → listed'.size = m → (∀ i, i < m → listed.getD i false = listed'.getD i false) → (∀ i, m ≤ i → listed.getD i false = false) →
      DownL md ops listed → C w → wpAnyQ P md ops' C (fun a' => ∀ w', C w' → wpAny P md ops Q rest (frontList ops m) a' w') fuel listed' a → wpAny P md ops Q (fuel + rest) listed a w := by
  have hm : m < ops.size := by simp only [frontB, Bool.and_eq_true, decide_eq_true_eq] at hB; exact hB.1.1.1
  have hw' : ∀ k j, k < m → waits md ops' k j = waits md ops k j := fun k j hk => by unfold waits; rw [hops k hk]
  have hrd : ∀ listed listed' : Array Bool, listed.size = ops.size → listed'.size = m → (∀ i, i < m → listed.getD i false = listed'.getD i false) → ∀ i, i < m → (i ∈ Region.ready md ops listed ↔ i ∈ Region.ready md ops' listed') := by
    intro listed listed' hs hs' he i hi
    rw [ready_iff, ready_iff, getD_tf (by omega), getD_tf (by omega), he i hi]
    constructor
    · rintro ⟨h1, h2, h3⟩
      refine ⟨by omega, h2, fun j hj => ?_⟩
      rw [hw' i j hi] at hj
      have := frontB_after hB hj
      rw [← he j (by omega)]; exact h3 j hj
    · rintro ⟨h1, h2, h3⟩
      refine ⟨by omega, h2, fun j hj => ?_⟩
      have := frontB_after hB hj
      rw [he j (by omega)]; exact h3 j (by rw [hw' i j hi]; exact hj)
  have hall : ∀ listed listed' : Array Bool, listed.size = ops.size → listed'.size = m → (∀ i, i < m → listed.getD i false = listed'.getD i false) → (∀ i, m ≤ i → listed.getD i false = false) → Region.ready md ops' listed' = [] → listed = frontList ops m := by
    intro listed listed' hs hs' he hz hr
    have h1 : ∀ j, j < m → listed'.getD j false = true := by
      intro j
      induction j using Nat.strongRecOn with
      | _ j ih =>
        intro hj
        cases hl : listed'.getD j false with
        | true => rfl
        | false =>
          have : j ∈ Region.ready md ops' listed' := by
            rw [ready_iff, getD_tf (by omega)]
            refine ⟨by omega, hl, fun k hk => ?_⟩
            rw [hw' j k hj] at hk
            have := frontB_after hB hk
            exact ih k this (by omega)
          rw [hr] at this; cases this
    apply Array.ext
    · simp [frontList, hs]
    · intro i hi1 hi2
      have e : listed[i] = listed.getD i false := by simp [Array.getD, hi1]
      rw [e]
      by_cases him : i < m
      · rw [he i him, h1 i him]; simp [frontList, him]
      · rw [hz i (by omega)]; simp [frontList, him]
  intro fuel
  induction fuel with
  | zero =>
    intro listed listed' a w hs hs' he hz hD hC h
    rw [hall listed listed' hs hs' he hz h.1]
    exact wpAnyP_fuel 0 (h.2 w hC)
  | succ fuel ih =>
    intro listed listed' a w hs hs' he hz hD hC h
    by_cases hr' : Region.ready md ops' listed' = []
    · rw [hall listed listed' hs hs' he hz hr']
      exact wpAnyP_fuel (fuel + 1) (h.1 hr' w hC)
    · obtain ⟨i0, hi0⟩ := List.exists_mem_of_ne_nil _ hr'
      have hi0' := ready_iff.1 hi0
      have hi0m : i0 < m := by omega
      have hf0 : listed.getD i0 false = false := by rw [he i0 hi0m, ← getD_tf (by omega)]; exact hi0'.2.1
      rw [show fuel + 1 + rest = (fuel + rest) + 1 by omega]
      refine ⟨fun h0 => ?_, fun i hi => ?_⟩
      · have := (hrd listed listed' hs hs' he i0 hi0m).2 hi0
        rw [h0] at this; cases this
      · have him : i < m := by
          by_cases e : i < m
          · exact e
          · have := ready_front hB hs hD hi (by omega) i0 hi0m
            rw [hf0] at this; cases this
        have hi' := (hrd listed listed' hs hs' he i him).1 hi
        have hq := qOpP_congr (ops := ops) (hops i him) (fun o k b ho hg => hops k (by have := frontB_guard hB ho hg; omega)) (h.2 i hi')
        refine wpOp_of_qOp hC (fun a' w' hw hk => ih _ _ a' w' (by simpa using hs) (by simpa using hs') ?_ ?_ ?_ hw hk) hq
        · intro j hj
          by_cases e : i = j
          · subst e; simp [Array.getD, hs, hs', him]; omega
          · rw [getD_set_ne false e, getD_set_ne false e]; exact he j hj
        · intro j hj
          rw [getD_set_ne false (by omega)]; exact hz j hj
        · intro k j hk hw
          by_cases e : i = j
          · subst e; simp [Array.getD, hs]; omega
          · rw [getD_set_ne false e]
            by_cases e2 : i = k
            · subst e2; exact (ready_iff.1 hi).2.2 j hw
            · rw [getD_set_ne false e2] at hk; exact hD k j hk hw
/-- The front of a region that draws, walked once; the world behind it is the one ahead after some draws. -/
theorem wp_region_front {id : Nat} {a : Act} {w : World} (l1 l2 : List Oper) (hm : P.follows .mixedOrders = true) (hB : frontB .any (l1 ++ l2).toArray l1.length = true) (hL : Region.lexB .any l1.toArray = true)
    (h : wpQuiet P l1.toArray (fun w' => ∃ n, w' = w.drewN n) (fun a' => ∀ w', (∃ n, w' = w.drewN n) → wpAny P .any (l1 ++ l2).toArray Q l2.length (frontList (l1 ++ l2).toArray l1.length) a' w') l1 a) :
    (Code.region id (l1 ++ l2).toArray true).wp P Q a w := by
  refine wp_region_any hm ?_
  simp only [Region.lexB, Bool.and_eq_true] at hL
  have hq := wpAnyQ_lex (P := P) (C := fun w' => ∃ n, w' = w.drewN n) (md := .any) (ops := l1.toArray) hL.1 l1 0 (Array.replicate l1.toArray.size false) a (by simp) (by simpa using hL.2) h
  have hz : ∀ (s i : Nat), (Array.replicate s false).getD i false = false := by
    intro s i
    by_cases hs : i < s <;> simp [Array.getD, hs]
  have := wpAnyP_front (P := P) (Q := Q) (C := fun w' => ∃ n, w' = w.drewN n) (ops := (l1 ++ l2).toArray) (ops' := l1.toArray) (m := l1.length) (rest := l2.length) hB (fun i hi => by simp [List.getElem?_append_left hi]) (by simp) l1.length
    (Array.replicate (l1 ++ l2).toArray.size false) (Array.replicate l1.toArray.size false) a { w with drawn := w.drawn + 1 } (by simp) (by simp) (fun i _ => by rw [hz, hz]) (fun i _ => hz _ _) (fun k j hk => by rw [hz] at hk; cases hk) ⟨1, rfl⟩ hq
  simpa using this
/-- The front of a region that draws, walked once; of the world behind it is known what a class of worlds has. -/
theorem wp_region_front_b {id : Nat} {a : Act} {w : World} (l1 l2 : List Oper) (hm : P.follows .mixedOrders = true) (hB : frontB .any (l1 ++ l2).toArray l1.length = true) (hL : Region.lexB .any l1.toArray = true)
    (h : wpQuiet P l1.toArray (fun w' => ∃ p : Regrown, w' = Sort.grow (redrawn w p.d) p.os) (fun a' => ∀ w', Below w.heap.size w w' → wpAny P .any (l1 ++ l2).toArray Q l2.length (frontList (l1 ++ l2).toArray l1.length) a' w') l1 a) :
    (Code.region id (l1 ++ l2).toArray true).wp P Q a w := by
  have e : (fun a' => ∀ w', (∃ p : Regrown, w' = Sort.grow (redrawn w p.d) p.os) → wpAny P .any (l1 ++ l2).toArray Q l2.length (frontList (l1 ++ l2).toArray l1.length) a' w') = (fun a' => ∀ w', Below w.heap.size w w' → wpAny P .any (l1 ++ l2).toArray Q l2.length (frontList (l1 ++ l2).toArray l1.length) a' w') := by
    funext a'
    apply propext
    constructor
    · intro h w' hb; exact h w' (regrown_of_below hb)
    · rintro h w' ⟨p, rfl⟩; exact h _ (below_regrown _ _ _)
  rw [← e] at h
  refine wp_region_any hm ?_
  simp only [Region.lexB, Bool.and_eq_true] at hL
  have hq := wpAnyQ_lex (P := P) (C := fun w' => ∃ p : Regrown, w' = Sort.grow (redrawn w p.d) p.os) (md := .any) (ops := l1.toArray) hL.1 l1 0 (Array.replicate l1.toArray.size false) a (by simp) (by simpa using hL.2) h
  have hz : ∀ (s i : Nat), (Array.replicate s false).getD i false = false := by
    intro s i
    by_cases hs : i < s <;> simp [Array.getD, hs]
  have := wpAnyP_front (P := P) (Q := Q) (C := fun w' => ∃ p : Regrown, w' = Sort.grow (redrawn w p.d) p.os) (ops := (l1 ++ l2).toArray) (ops' := l1.toArray) (m := l1.length) (rest := l2.length) hB (fun i hi => by simp [List.getElem?_append_left hi]) (by simp) l1.length
    (Array.replicate (l1 ++ l2).toArray.size false) (Array.replicate l1.toArray.size false) a { w with drawn := w.drawn + 1 } (by simp) (by simp) (fun i _ => by rw [hz, hz]) (fun i _ => hz _ _) (fun k j hk => by rw [hz] at hk; cases hk) ⟨⟨w.drawn + 1, #[]⟩, by rw [grow_empty]; rfl⟩ hq
  simpa using this
theorem wpAnyP_one {fuel : Nat} {listed : Array Bool} {a : Act} {w : World} {i : Nat} {o : Oper} (hr : Region.ready md ops listed = [i]) (ho : ops[i]? = some o) (hw : Region.wanted o (yielded ops a.tmps) = true)
    (h : ∀ K' : Act → World → Prop, (∀ a w, wpAny P md ops Q fuel (listed.setIfInBounds i true) a w → K' a w) → Oper.wp P o a w K' Q) : wpAny P md ops Q (fuel + 1) listed a w := by
  refine ⟨fun h0 => (by rw [hr] at h0; cases h0), fun j hj => ?_⟩
  rw [hr] at hj
  obtain rfl : j = i := by simpa using hj
  unfold wpOp
  simp only [ho, hw, if_true]
  exact .inl (h _ (fun _ _ hk => hk))
end
end Go
namespace Go
open Go.RowKit

section
variable {P : Program} (w : World)
theorem run_append_kept (base : Nat) (t ty e : TypeId) (i : TypeInfo) (z : Value) (size bytes : Nat) (ht : P.underlying t = some (.slice e)) (hi : P.info? e = some i) (hz : i.zero = some z)
    (hsize : i.size = size) (hby : i.bytes = bytes) (hzs : z.cells.size = size) (hsz : 0 < size)
    (g c0 : Nat) (n : Nat) (xs : List Value) (hown : w.ownsRow base e size (.slice (some ⟨g, 0, none⟩) n c0) n xs)
    (a : Addr) (m c : Nat) (news : List Value) (hl : news.length = m * size) (hnews : ∀ j u, news[j]? = some u → w.cell? (a.add j) = some u) (h1 : ∀ u ∈ news, u.oneCell' = true)
    (h63 : n + m ≤ maxLen) (hbytes : (n + m) * bytes ≤ 140737488355328) (hbase : base ≤ w.heap.size) :
    ∃ v' w', (Builtin.append_ #[t, t] ty #[.slice (some ⟨g, 0, none⟩) n c0, .slice (some a) m c]).run P w = .ok v' w' ∧ w'.ownsRow base e size v' (n + m) (xs ++ news) ∧ w.grownBy w' (some g) ∧
      SameOrNew w (.slice (some ⟨g, 0, none⟩) n c0) v' ∧ ∀ j, j < n * size → w'.cell? ⟨g, j, none⟩ = w.cell? ⟨g, j, none⟩ := by
  obtain ⟨v', w', hr, h2, h3, _, h5⟩ := run_append_where (P := P) w base t ty e i z size bytes ht hi hz hsize hby hzs hsz _ n xs hown a m c news hl hnews h1 h63 hbytes hbase
  refine ⟨v', w', hr, h2, h3, h5, ?_⟩
  rcases hown.2 with ⟨e0, _⟩ | ⟨g', cap, cur, e0, hbg, hg, hnc, hcm, hcs, htake⟩
  · cases e0
  · simp only [Value.slice.injEq, Option.some.injEq, Addr.mk.injEq] at e0
    obtain ⟨⟨rfl, _, _⟩, _, rfl⟩ := e0
    by_cases hroom : n + m ≤ c0
    · have hfit : n * i.size + news.length ≤ cur.size := by rw [hl, hcs, ← hsize, ← Nat.add_mul]; exact Nat.mul_le_mul_right _ hroom
      have hr2 := run_append_room (P := P) w t ty e i ht hi g n c0 cur hg a m c news (by rw [hl, hsize]) hnews h1 hroom hfit
      rw [hr] at hr2
      have e1 := (by simpa using hr2 : _ ∧ _).2
      subst e1
      intro j hj
      have hj2 : j < cur.size := by rw [hsize] at hfit; omega
      rw [cell_setRow_same w g j cur _ e _ hg]
      have hc : w.cell? ⟨g, j, none⟩ = cur[j]? := cell_of_row w g j cur e (0, 0) hg
      rw [hc]
      simp only [List.getElem?_toArray, hsize]
      rw [List.getElem?_append_left (by simp; omega), List.getElem?_take_of_lt hj]
      simp
    · have holds : ∀ j u, xs[j]? = some u → w.cell? ((⟨g, 0, none⟩ : Addr).add j) = some u := hown.cells (g := g) rfl
      have hr2 := run_append_grow (P := P) w t ty e i z ht hi hz ⟨g, 0, none⟩ n c0 xs (by rw [hown.1, hsize]) holds a m c news (by rw [hl, hsize]) hnews (by omega) (by simp only [maxLen] at h63; omega) (growslice_fits (by omega) (by rw [hby]; exact hbytes))
      rw [hr] at hr2
      have e1 := (by simpa using hr2 : _ ∧ _).2
      subst e1
      intro j _
      have hlt : g < w.heap.size := (Array.getElem?_eq_some_iff.1 hg).1
      exact World.cell?_of_block (w := w) (a := ⟨g, j, none⟩) (by first | exact heap_alloc_old w.drew _ g hlt | exact heap_alloc_old w.drew _ hlt)
theorem wp_append_kept {o : Oper} {a : Act} {K : Act → World → Prop} {Q : Exit → Act → World → Prop} (s x : Operand) (t : TypeId)
    (ho : o.op = .call { callee := .builtin .append, args := #[s, x], argTypes := #[t, t] })
    (base : Nat) (e : TypeId) (i : TypeInfo) (z : Value) (size bytes : Nat) (ht : P.underlying t = some (.slice e)) (hi : P.info? e = some i) (hz : i.zero = some z)
    (hsize : i.size = size) (hby : i.bytes = bytes) (hzs : z.cells.size = size) (hsz : 0 < size)
    (g c0 : Nat) (n : Nat) (xs : List Value) (hs : a.eval s = .slice (some ⟨g, 0, none⟩) n c0) (hown : w.ownsRow base e size (.slice (some ⟨g, 0, none⟩) n c0) n xs)
    (ad : Addr) (m c : Nat) (news : List Value) (hx : a.eval x = .slice (some ad) m c) (hl : news.length = m * size) (hnews : ∀ j u, news[j]? = some u → w.cell? (ad.add j) = some u) (h1 : ∀ u ∈ news, u.oneCell' = true)
    (h63 : n + m ≤ maxLen) (hbytes : (n + m) * bytes ≤ 140737488355328) (hbase : base ≤ w.heap.size)
    (h : ∀ v' w', w'.ownsRow base e size v' (n + m) (xs ++ news) → w.grownBy w' (some g) → (∀ j, j < n * size → w'.cell? ⟨g, j, none⟩ = w.cell? ⟨g, j, none⟩) → K (a.put o.dst v') w') : o.wp P a w K Q := by
  obtain ⟨v', w', hr, h2, h3, _, h5⟩ := run_append_kept (P := P) w base t o.type e i z size bytes ht hi hz hsize hby hzs hsz g c0 n xs hown ad m c news hl hnews h1 h63 hbytes hbase
  unfold Oper.wp execOp
  simp only [ho, resolve, invoke, builtin, Sem.run_bind, Sem.run_pure, Result.andThen_ok, List.map_toArray, List.map_cons, List.map_nil, hs, hx, hr]
  exact h v' w' h2 h3 h5
theorem step_append_kept {ops : Array Oper} {o : Oper} {a : Act} {K : Act → World → Prop} {Q : Exit → Act → World → Prop} {E : Prop} (hgd : o.guard = none) (s x : Operand) (t : TypeId)
    (ho : o.op = .call { callee := .builtin .append, args := #[s, x], argTypes := #[t, t] })
    (base : Nat) (e : TypeId) (i : TypeInfo) (z : Value) (size bytes : Nat) (ht : P.underlying t = some (.slice e)) (hi : P.info? e = some i) (hz : i.zero = some z)
    (hsize : i.size = size) (hby : i.bytes = bytes) (hzs : z.cells.size = size) (hsz : 0 < size)
    (g c0 : Nat) (n : Nat) (xs : List Value) (hs : a.eval s = .slice (some ⟨g, 0, none⟩) n c0) (hown : w.ownsRow base e size (.slice (some ⟨g, 0, none⟩) n c0) n xs)
    (ad : Addr) (m c : Nat) (news : List Value) (hx : a.eval x = .slice (some ad) m c) (hl : news.length = m * size) (hnews : ∀ j u, news[j]? = some u → w.cell? (ad.add j) = some u) (h1 : ∀ u ∈ news, u.oneCell' = true)
    (h63 : n + m ≤ maxLen) (hbytes : (n + m) * bytes ≤ 140737488355328) (hbase : base ≤ w.heap.size)
    (h : ∀ v' w', w'.ownsRow base e size v' (n + m) (xs ++ news) → w.grownBy w' (some g) → (∀ j, j < n * size → w'.cell? ⟨g, j, none⟩ = w.cell? ⟨g, j, none⟩) → K (a.put o.dst v') w') :
    if Region.wanted o (yielded ops a.tmps) = true then Oper.wp P o a w K Q else E := by
  have hw : Region.wanted o (yielded ops a.tmps) = true := by simp [Region.wanted, hgd]
  rw [if_pos hw]
  exact wp_append_kept w s x t ho base e i z size bytes ht hi hz hsize hby hzs hsz g c0 n xs hs hown ad m c news hx hl hnews h1 h63 hbytes hbase h
end
end Go
