/- pens.Keeps: moments that follow one another, in plain lists; two lists that a call builds at once; moments; sameEdges. -/
import Derived.Test.YtdopgaljbpjpcaaPlainT
import Derived.Test.YtdopgaljbpjpcaaLawTools
import Derived.Test.YtdopgaljbpjpcaaRefF
import Derived.Test.YtdopgaljbpjpcaaOffs
import Derived.Test.YtdopgaljbpjpcaaTrips
namespace Go.Proofs.Ytdopgaljbpjpcaa

/-- Each moment of a list follows the one before it. -/
def chainB (b r : Int) : (Int × Int) → List (Int × Int) → Bool
  | _, [] => true
  | m, m' :: t => decide (apartN m'.2 m.2 ≤ r) && decide (m'.1 = lazyN b m.1 m'.2) && chainB b r m' t
def momB (b r : Int) : List (Int × Int) → Bool
  | [] => true
  | m :: t => rightB b m.1 m.2 && chainB b r m t
def keepsF (b l h r : Int) (ms : List (Int × Int)) : Int :=
  if penOk b l h r = true then (if (listOk (ms.map (·.1)) && listOk (ms.map (·.2))) = true then (if momB b r ms = true then 0 else 31) else 1) else 30
theorem keepsF_iff {b l h r : Int} {ms : List (Int × Int)} : keepsF b l h r ms = 0 ↔ penOk b l h r = true ∧ listOk (ms.map (·.1)) = true ∧ listOk (ms.map (·.2)) = true ∧ momB b r ms = true := by
  unfold keepsF
  cases penOk b l h r <;> simp
  cases listOk (ms.map (·.1)) <;> simp
  cases listOk (ms.map (·.2)) <;> simp
theorem right_lazy {b s x : Int} (hb : 0 ≤ b) : rightB b (lazyN b s x) x = true := by
  unfold rightB lazyN; simp; omega
theorem scan_chain {b r : Int} : ∀ (t : List (Int × Int)) (m : Int × Int), chainB b r m t = true ↔ (scanL b m.1 (t.map (·.2)) = t.map (·.1) ∧ steadyB r (m.2 :: t.map (·.2)) = true)
  | [], m => by simp [chainB, scanL, steadyB]
  | m' :: t, m => by
    have ih := scan_chain (b := b) (r := r) t m'
    simp only [chainB, Bool.and_eq_true, decide_eq_true_eq, List.map_cons, scanL, steadyB, List.cons.injEq, ih]
    constructor
    · rintro ⟨⟨h1, h2⟩, h3, h4⟩
      exact ⟨⟨h2.symm, by rw [← h2]; exact h3⟩, h1, h4⟩
    · rintro ⟨⟨h1, h2⟩, h3, h4⟩
      exact ⟨⟨h3, h1.symm⟩, by rw [← h1] ; rw [h1] at h2 ⊢; exact h2, h4⟩
theorem mom_shown {b r : Int} {ms : List (Int × Int)} (h : 0 < ms.length) : momB b r ms = true ↔ (rightB b ((ms.map (·.1)).headD 0) ((ms.map (·.2)).headD 0) = true ∧ steadyB r (ms.map (·.2)) = true ∧ shownL b ((ms.map (·.1)).headD 0) (ms.map (·.2)) = ms.map (·.1)) := by
  cases ms with
  | nil => simp at h
  | cons m t =>
    simp only [momB, Bool.and_eq_true, List.map_cons, List.headD_cons, shownL, List.cons.injEq, true_and, scan_chain]
    constructor
    · rintro ⟨h1, h2, h3⟩; exact ⟨h1, h3, h2⟩
    · rintro ⟨h1, h2, h3⟩; exact ⟨h1, h3, h2⟩
theorem chain_iff {b r : Int} : ∀ (t : List (Int × Int)) (m : Int × Int), chainB b r m t = true ↔ ∀ i, (h : i + 1 < (m :: t).length) → apartN (m :: t)[i + 1].2 ((m :: t)[i]'(by omega)).2 ≤ r ∧ (m :: t)[i + 1].1 = lazyN b ((m :: t)[i]'(by omega)).1 (m :: t)[i + 1].2
  | [], m => by simp [chainB]
  | m' :: t, m => by
    have ih := chain_iff (b := b) (r := r) t m'
    simp only [chainB, Bool.and_eq_true, decide_eq_true_eq, ih]
    constructor
    · rintro ⟨h1, h2⟩ i hi
      cases i with
      | zero => exact h1
      | succ i => exact h2 i (by simpa using hi)
    · intro h
      exact ⟨h 0 (by simp), fun i hi => h (i + 1) (by simpa using hi)⟩
theorem mom_right {b r : Int} (hb : 0 ≤ b) {ms : List (Int × Int)} (h : momB b r ms = true) {i : Nat} (hi : i < ms.length) : rightB b ms[i].1 ms[i].2 = true := by
  cases ms with
  | nil => simp at hi
  | cons m t =>
    simp only [momB, Bool.and_eq_true] at h
    cases i with
    | zero => exact h.1
    | succ i => rw [((chain_iff t m).1 h.2 i hi).2]; exact right_lazy hb
/-- What it means, index by index. -/
theorem mom_iff {b r : Int} (hb : 0 ≤ b) {ms : List (Int × Int)} : momB b r ms = true ↔ (∀ i, (h : i < ms.length) → rightB b ms[i].1 ms[i].2 = true) ∧ ∀ i, (h : i + 1 < ms.length) → apartN ms[i + 1].2 (ms[i]'(by omega)).2 ≤ r ∧ ms[i + 1].1 = lazyN b (ms[i]'(by omega)).1 ms[i + 1].2 := by
  constructor
  · intro h
    refine ⟨fun i hi => mom_right hb h hi, ?_⟩
    cases ms with
    | nil => simp
    | cons m t =>
      simp only [momB, Bool.and_eq_true] at h
      exact (chain_iff t m).1 h.2
  · rintro ⟨h1, h2⟩
    cases ms with
    | nil => rfl
    | cons m t =>
      simp only [momB, Bool.and_eq_true]
      exact ⟨h1 0 (by simp), (chain_iff t m).2 h2⟩
/-- pens.Keeps by what it calls. -/
theorem keeps_e {b l h r : Int} {ms : List (Int × Int)} {e : Int} (he : listedE b l h r (ms.map (·.1)) = e) (hne : e ≠ 0) : keepsF b l h r ms = e := by
  subst he
  unfold listedE listE at hne ⊢
  unfold keepsF
  cases hp : penOk b l h r
  · simp
  · cases hl : listOk (ms.map (·.1))
    · simp
    · simp [hp, hl] at hne
theorem keeps_r {b l h r : Int} {ms : List (Int × Int)} {e : Int} (he : listedE b l h r (ms.map (·.1)) = 0) (h2 : listE (ms.map (·.2)) = e) (hne : e ≠ 0) : keepsF b l h r ms = e := by
  subst h2
  have ⟨hp, hl⟩ := listedE_iff.1 he
  unfold listE at hne ⊢
  unfold keepsF
  cases hq : listOk (ms.map (·.2))
  · simp [hp, hl]
  · simp [hq] at hne
theorem keeps_follow {b l h r : Int} {ms : List (Int × Int)} (he : listedE b l h r (ms.map (·.1)) = 0) (h2 : listE (ms.map (·.2)) = 0) {L : List Int} {y : Int} (hf : followF b l h r ((ms.map (·.1)).headD 0) (ms.map (·.2)) = (L, y)) :
    keepsF b l h r ms = if y = 0 ∧ L = ms.map (·.1) then 0 else 31 := by
  have ⟨hp, hl⟩ := listedE_iff.1 he
  have hq : listOk (ms.map (·.2)) = true := by
    unfold listE at h2; split at h2
    · assumption
    · omega
  have hlen : 0 < ms.length := by
    have := (listOk_iff.1 hl).1.1
    simp at this; omega
  have hf0 : lvl ((ms.map (·.1)).headD 0) = true := by
    cases ms with
    | nil => simp at hlen
    | cons m t =>
      have := (listOk_iff.1 hl).2 m.1 (by simp)
      exact lvl_iff.2 (by simpa using this)
  unfold keepsF
  rw [if_pos hp, if_pos (by simp [hl, hq])]
  have hm := mom_shown (b := b) (r := r) hlen
  cases hk : followOk b l h r ((ms.map (·.1)).headD 0) (ms.map (·.2))
  · have h3 := followF_bad hk
    rw [hf] at h3
    have hn : ¬ momB b r ms = true := by
      intro k
      have ⟨k1, k2, _⟩ := hm.1 k
      have : followOk b l h r ((ms.map (·.1)).headD 0) (ms.map (·.2)) = true := followOk_iff.2 ⟨hp, hf0, hq, k1, k2⟩
      rw [hk] at this; cases this
    rw [if_neg hn, if_neg (fun k => h3.2 k.1)]
  · rw [followF_ok hk] at hf
    cases hf
    obtain ⟨_, _, _, k1, k2⟩ := followOk_iff.1 hk
    by_cases e : shownL b ((ms.map (·.1)).headD 0) (ms.map (·.2)) = ms.map (·.1)
    · rw [if_pos (hm.2 ⟨k1, k2, e⟩), if_pos ⟨rfl, e⟩]
    · rw [if_neg (fun k => e (hm.1 k).2.2), if_neg (fun k => e k.2)]
end Go.Proofs.Ytdopgaljbpjpcaa
namespace Go.Proofs.Ytdopgaljbpjpcaa
open Go.RowKit

/-- Two rows of numbers of the call's own, in blocks of their own, beside a boxed pen. -/
def KH (w0 : World) (b l h r : Int) (W : World) (v u : Value) (xs ys : List Int) : Prop :=
  Below w0.heap.size w0 W ∧ Pbx w0.heap.size b l h r W ∧ W.ownsRow (w0.heap.size + 1) 3 1 v xs.length (xs.map (Value.int .i64)) ∧ W.ownsRow (w0.heap.size + 1) 3 1 u ys.length (ys.map (Value.int .i64)) ∧ ∀ k, v.ownBlock = some k → u.ownBlock ≠ some k
section
variable {w0 W W' : World} {b l h r : Int} {v u : Value} {xs ys : List Int}
theorem KH.swap (k : KH w0 b l h r W v u xs ys) : KH w0 b l h r W u v ys xs := ⟨k.1, k.2.1, k.2.2.2.1, k.2.2.1, fun j h1 h2 => k.2.2.2.2 j h2 h1⟩
theorem KH.next (k : KH w0 b l h r W v u xs ys) (hb : Below W.heap.size W W') : KH w0 b l h r W' v u xs ys :=
  ⟨Bl.call k.1 hb, k.2.1.next hb, ownsRow_below2 k.2.2.1 hb, ownsRow_below2 k.2.2.2.1 hb, k.2.2.2.2⟩
theorem KH.app1 (k : KH w0 b l h r W v u xs ys) {g cap : Nat} {x : Int} (hown : W'.ownsRow (w0.heap.size + 1) 3 1 (.slice (some ⟨g, 0, none⟩) (xs.length + 1) cap) (xs.length + 1) (xs.map (Value.int .i64) ++ [.int .i64 x])) (hgrow : W.grownBy W' v.ownBlock) (hat : v.ownBlock = some g ∨ g = W.heap.size) :
    KH w0 b l h r W' (.slice (some ⟨g, 0, none⟩) (xs.length + 1) cap) u (xs ++ [x]) ys := by
  obtain ⟨k1, k2, k3, k4, k5⟩ := k
  refine ⟨own_grow k1 (Nat.le_refl _) (fun j hj => by have := (k3.lt j hj).1; omega) hgrow, k2.grown hgrow (fun e => by have := (k3.lt _ e.symm).1; omega), by simpa using hown, k4.kept hgrow ?_, fun j hj hu => ?_⟩
  · cases hu : u.ownBlock with
    | none => exact .inl rfl
    | some q => right; intro e; exact k5 q e.symm hu
  · obtain rfl : g = j := by simpa [Value.ownBlock] using hj
    rcases hat with e | e
    · exact k5 _ e hu
    · have := (k4.lt _ hu).2; omega
theorem KH.app2 (k : KH w0 b l h r W v u xs ys) {g cap : Nat} {x : Int} (hown : W'.ownsRow (w0.heap.size + 1) 3 1 (.slice (some ⟨g, 0, none⟩) (ys.length + 1) cap) (ys.length + 1) (ys.map (Value.int .i64) ++ [.int .i64 x])) (hgrow : W.grownBy W' u.ownBlock) (hat : u.ownBlock = some g ∨ g = W.heap.size) :
    KH w0 b l h r W' v (.slice (some ⟨g, 0, none⟩) (ys.length + 1) cap) xs (ys ++ [x]) := (k.swap.app1 hown hgrow hat).swap
end
theorem cell_one_old (W : World) (B : Nat) (hB : W.heap.size = B) (v : Value) (t : TypeId) (o : Obj) : ∀ (j : Nat) (u : Value), [v][j]? = some u → ((W.alloc (.cells #[v] t)).alloc o).cell? ((⟨B, 0, none⟩ : Addr).add j) = some u := by
  intro j u hj
  match j, hj with
  | 0, hj =>
    simp at hj; subst hj
    exact cell_alloc1 (cell_one_at W B hB v t 0 v rfl)
theorem cell_one_atd (W : World) (B : Nat) (hB : W.heap.size = B) (v : Value) (t : TypeId) : ∀ (j : Nat) (u : Value), [v][j]? = some u → (W.alloc (.cells #[v] t)).drew.cell? ((⟨B, 0, none⟩ : Addr).add j) = some u := fun j u h => cell_one_at W B hB v t j u h
theorem cell_one_oldd (W : World) (B : Nat) (hB : W.heap.size = B) (v : Value) (t : TypeId) (o : Obj) : ∀ (j : Nat) (u : Value), [v][j]? = some u → ((W.alloc (.cells #[v] t)).alloc o).drew.cell? ((⟨B, 0, none⟩ : Addr).add j) = some u := fun j u h => cell_one_old W B hB v t o j u h
theorem news_far {W W' : World} {B : Nat} {row : Option Nat} {v : Value} (hg : W.grownBy W' row) (h : ∀ (j : Nat) (u : Value), [v][j]? = some u → W.cell? ((⟨B, 0, none⟩ : Addr).add j) = some u) (hne : some B ≠ row) : ∀ (j : Nat) (u : Value), [v][j]? = some u → W'.cell? ((⟨B, 0, none⟩ : Addr).add j) = some u := by
  intro j u hj
  match j, hj with
  | 0, hj =>
    have h0 := h 0 u hj
    have e : ((⟨B, 0, none⟩ : Addr).add 0) = ⟨B, 0, none⟩ := by simp [Addr.add]
    rw [e] at h0 ⊢
    exact (hg.cell_far ⟨B, 0, none⟩ (World.block_lt_of_cell? W _ h0) hne).trans h0
theorem news_alloc {W : World} {B : Nat} {v : Value} (h : ∀ (j : Nat) (u : Value), [v][j]? = some u → W.cell? ((⟨B, 0, none⟩ : Addr).add j) = some u) (o : Obj) : ∀ (j : Nat) (u : Value), [v][j]? = some u → (W.alloc o).cell? ((⟨B, 0, none⟩ : Addr).add j) = some u := by
  intro j u hj
  match j, hj with
  | 0, hj =>
    have h0 := h 0 u hj
    have e : ((⟨B, 0, none⟩ : Addr).add 0) = ⟨B, 0, none⟩ := by simp [Addr.add]
    rw [e] at h0 ⊢
    exact cell_alloc1 h0
end Go.Proofs.Ytdopgaljbpjpcaa
namespace Go.Proofs.Ytdopgaljbpjpcaa
open Go.RowKit
attribute [local go_sem ↓] neq72 guard72

theorem Try.info59 : (Try.prog.info? 59).map (fun i => (i.zero, i.size, i.bytes)) = some (some (.agg #[.int .i64 0, .int .i64 0]), 2, 16) := by kernel_rfl
theorem pairs_own {w : World} {base e : Nat} {v : Value} {xs : List (Int × Int)} (h : w.ownsRow base e 2 v xs.length (flat2 xs)) : Pairs w v xs := by
  have h' := h
  obtain ⟨hl, h2⟩ := h
  rcases h2 with ⟨rfl, h0⟩ | ⟨g, cap, cur, rfl, hg, hh, hn, hc, hs, ht⟩
  · have : xs = [] := List.eq_nil_of_length_eq_zero (by omega)
    subst this; exact Pairs.nil
  · refine ⟨_, _, rfl, hn, hc, fun _ => ⟨g, 0, rfl, fun k hk => ?_⟩⟩
    obtain ⟨f1, f2⟩ := flat2_at xs k hk
    have g1 := h'.cellAt (k * 2) (by omega)
    have g2 := h'.cellAt (k * 2 + 1) (by omega)
    simp only [Nat.zero_add]
    exact ⟨by rw [g1]; simp [f1], by rw [g2]; simp [f2]⟩
/-- What moments returns. -/
def momF (shown real : List Int) : List (Int × Int) := shown.zip real
theorem mom_take {shown real : List Int} {k : Nat} (h1 : k < shown.length) (h2 : k < real.length) : (momF shown real).take (k + 1) = (momF shown real).take k ++ [(shown[k], real[k])] := by
  rw [List.take_add_one]
  have : k < (momF shown real).length := by simp [momF]; omega
  rw [List.getElem?_eq_getElem this]
  simp [momF]
theorem mom_len (shown real : List Int) : (momF shown real).length = min shown.length real.length := by simp [momF]
set_option maxRecDepth 100000 in
set_option maxHeartbeats 4000000 in
theorem moments_any (v u : Value) (xs ys : List Int) (w : World) (hv : Ints w v xs) (hu : Ints w u ys) (hn : xs.length ≤ 1000) :
    Calls Try.prog 56 #[v, u] w fun e w' => ∃ a c, e = .returned (.slice a (momF xs ys).length c) ∧ Hid (Pairs w' (.slice a (momF xs ys).length c) (momF xs ys)) ∧ Below w.heap.size w w' := by
  obtain ⟨a, c, rfl, hm⟩ := hv.shape
  obtain ⟨a', c', rfl, hm'⟩ := hu.shape
  have HV := hid hv; have HU := hid hu; clear hv hu
  obtain ⟨i0, hi, hz0, hz1, hz2⟩ := info_parts Try.info59
  go_enter Try.func56, Try.ntmps56
  go_wp2_with fail
  go_loopw [5, 6] (fun ou i wr => ∃ k : Nat, k ≤ xs.length ∧ k ≤ ys.length ∧ i = .int .i64 k ∧ Hid (Below w.heap.size w wr) ∧ Hid (wr.ownsRow w.heap.size 59 2 ou k (flat2 ((momF xs ys).take k)))) (fun _ i _ => xs.length - (intOf i).toNat)
  case atStart => exact ⟨0, by omega, by omega, rfl, hid (Below.refl _ _), hid (World.ownsRow_nil _ _ _ _)⟩
  case round =>
    obtain ⟨k, hk, hk', rfl, HB, HO⟩ := hrel
    by_cases hlt : k < xs.length ∧ k < ys.length
    · obtain ⟨h1, h2⟩ := hlt
      obtain ⟨b1, o1, rfl, c1⟩ := (HV.out.below HB.out).cellAt h1
      obtain ⟨b2, o2, rfl, c2⟩ := (HU.out.below HB.out).cellAt h2
      have HT := hid (mom_take h1 h2)
      have e1 : (0 : Int) ≤ k := by omega
      have e2 : (k : Int) < xs.length := by omega
      have e3 : (k : Int) < ys.length := by omega
      have hz := HB.out.size
      generalize xs[k] = s at *
      generalize ys[k] = x at *
      have n1 : b1 < wr.heap.size := World.block_lt_of_cell? _ _ c1
      have n2 : b2 < wr.heap.size := World.block_lt_of_cell? _ _ c2
      have hb1 : b1 < w.heap.size := by
        obtain ⟨b9, o9, e9, c9⟩ := HV.out.cellAt h1
        cases e9
        exact World.block_lt_of_cell? w _ c9
      have hb2 : b2 < w.heap.size := by
        obtain ⟨b9, o9, e9, c9⟩ := HU.out.cellAt h2
        cases e9
        exact World.block_lt_of_cell? w _ c9
      go_wp2_with fail
      go_region_held3 (fun w' => w'.cell? ⟨b1, o1 + k, none⟩ = some (.int .i64 s) ∧ w'.cell? ⟨b2, o2 + k, none⟩ = some (.int .i64 x)) (go_keep)
        ((refine step_append_lies _ (by rfl) _ _ 64 (by rfl) w.heap.size 59 i0 (.agg #[.int .i64 0, .int .i64 0]) 2 16 Try.underlying64 hi hz0 hz1 hz2 rfl (by decide) _ k _ (by rfl) (HO.out.drew.alloc _) ⟨wr.heap.size, 0, none⟩ 1 1 [.int .i64 s, .int .i64 x] (by rfl) rfl (cell_two_new _ _ _ _) (by simp [Value.oneCell']) (by omega) (by simp [maxLen]; omega) (by omega) (by simp; omega) (wr.heap.size + 1) (by simp) ?_; intro g cap w4 hown' hgrow hat hlt4
          have t1 := (hgrow.cell_far ⟨b1, o1 + k, none⟩ (by simp; omega) (by intro e; have := (HO.out.lt b1 e.symm).1; omega)).trans (cell_alloc1 (w := wr.drew) c1)
          have t2 := (hgrow.cell_far ⟨b2, o2 + k, none⟩ (by simp; omega) (by intro e; have := (HO.out.lt b2 e.symm).1; omega)).trans (cell_alloc1 (w := wr.drew) c2)))
      have HB4 := hid (own_grow (Bl.alloc (Bl.drew HB.out) _) (B := w.heap.size) (Nat.le_refl _) (fun j hj => (HO.out.lt j hj).1) hgrow)
      have HO4 : Hid (w4.ownsRow w.heap.size 59 2 (.slice (some ⟨g, 0, none⟩) (k + 1) cap) (k + 1) (flat2 ((momF xs ys).take (k + 1)))) := by
        rw [HT.out, flat2_snoc]; exact hown'
      clear t1 t2 hown' hgrow hat hlt4
      go_wp2_with fail
      go_roundw
      case rel => exact ⟨k + 1, by omega, by omega, by go_num, HB4, HO4⟩
      case measure => simp [intOf]; omega
    · have hkl : k = (momF xs ys).length := by rw [mom_len]; omega
      have HE : Hid ((momF xs ys).take k = momF xs ys) := by rw [hkl]; exact hid (List.take_length)
      have HO2 : Hid (wr.ownsRow w.heap.size 59 2 u5 (momF xs ys).length (flat2 (momF xs ys))) := by rw [HE.out, hkl] at HO; exact HO
      have HP := hid (pairs_own HO2.out)
      obtain ⟨ao, co, rfl⟩ := own_shape HO2.out
      clear HO HO2 HE hkl
      by_cases h2 : k < ys.length
      · have h1 : decide (xs.length ≤ k) = true := by simp; omega
        go_wp2_with fail
        go_ret
        exact ⟨ao, co, rfl, HP, HB.out⟩
      · go_wp2_with fail
        go_ret
        exact ⟨ao, co, rfl, HP, HB.out⟩
theorem sameEdges_yes (v u : Value) (L : List (Int × Int × Int)) (w : World) (hv : Trips w v L) (hu : Trips w u L) :
    Calls Try.prog 55 #[v, u] w fun e w' => e = .returned (.bool true) ∧ Below w.heap.size w w' := by
  obtain ⟨a, c, rfl, hm⟩ := hv.shape
  obtain ⟨a', c', rfl, hm'⟩ := hu.shape
  go_enter Try.func55, Try.ntmps55
  go_wp2_with fail
  go_loopw [5] (fun i wr => ∃ k : Nat, k ≤ L.length ∧ i = .int .i64 k ∧ Below w.heap.size w wr) (fun i _ => L.length - (intOf i).toNat)
  case atStart => exact ⟨0, by omega, rfl, Below.refl _ _⟩
  case round =>
    obtain ⟨k, hk, rfl, hb⟩ := hrel
    by_cases hlt : k < L.length
    · obtain ⟨b1, o1, rfl, c1, c1', c1''⟩ := (hv.below hb).cellAt hlt
      obtain ⟨b2, o2, rfl, c2, c2', c2''⟩ := (hu.below hb).cellAt hlt
      have e1 : (0 : Int) ≤ k := by omega
      have e2 : (k : Int) < L.length := by omega
      generalize L[k] = m at *
      obtain ⟨t, lo, hi⟩ := m
      go_wp2_with fail
      go_quiet (fail)
      go_wp2_with fail
      go_roundw
      case rel => exact ⟨k + 1, by omega, by go_num, Bl.drewN hb _⟩
      case measure => simp [intOf]; omega
    · go_wp2_with fail
      go_ret
      exact ⟨rfl, hb⟩
end Go.Proofs.Ytdopgaljbpjpcaa
namespace Go.Proofs.Ytdopgaljbpjpcaa
open Go.RowKit

theorem listed_at (b l h r : Int) (v : Value) (xs : List Int) (t : Int) (w : World) (hv : Ints w v xs) (h0 : Hid (listedE b l h r xs = t)) :
    Calls Try.prog 65 #[.agg #[.int .i64 b, .int .i64 l, .int .i64 h, .int .i64 r], v] w fun e w' => e = .returned (.int .i64 t) ∧ Below w.heap.size w w' :=
  (listed_any b l h r v xs w hv).mono fun e w' ⟨h1, h2⟩ => ⟨by rw [h1, h0.out], h2⟩
theorem list_at (v : Value) (xs : List Int) (t : Int) (w : World) (hv : Ints w v xs) (h0 : Hid (listE xs = t)) :
    Calls Try.prog 75 #[v] w fun e w' => e = .returned (.int .i64 t) ∧ Below w.heap.size w w' :=
  (list_any v xs w hv).mono fun e w' ⟨h1, h2⟩ => ⟨by rw [h1, h0.out], h2⟩

/-- slices.Equal. -/
theorem equal_any (v u : Value) (xs ys : List Int) (w : World) (hv : Ints w v xs) (hu : Ints w u ys) :
    Calls Try.prog 91 #[v, u] w fun e w' => e = .returned (.bool (decide (xs = ys))) ∧ Below w.heap.size w w' := by
  obtain ⟨a, c, rfl, h1, h2, h3⟩ := hv
  obtain ⟨a', c', rfl, k1, k2, k3⟩ := hu
  unfold maxLen at h2 k2
  by_cases hl : xs.length = ys.length
  · by_cases h0 : 0 < xs.length
    · obtain ⟨b, o, rfl, hc⟩ := h3 h0
      obtain ⟨b', o', rfl, hc'⟩ := k3 (by omega)
      refine (Try.slices_Equal_int b o xs.length c b' o' ys.length c' xs ys w (Nat.le_refl _) (Nat.le_refl _) (by omega) (by omega) hc hc').mono ?_
      rintro e w' ⟨rfl, q, rfl⟩
      refine ⟨ret_bool ?_, Bl.drewN (Below.refl _ _) q⟩
      rw [List.take_length, List.take_length, Bool.eq_iff_iff]; simp
    · have e1 : xs = [] := List.eq_nil_of_length_eq_zero (by omega)
      have e2 : ys = [] := List.eq_nil_of_length_eq_zero (by omega)
      subst e1 e2
      refine (Try.slices_Equal_int_empty a a' c 0 c' w (by omega)).mono ?_
      rintro e w' ⟨rfl, rfl⟩
      exact ⟨ret_bool (by simp), Below.refl _ _⟩
  · refine (Try.slices_Equal_int_lens a a' xs.length c ys.length c' w hl).mono ?_
    rintro e w' ⟨rfl, rfl⟩
    refine ⟨ret_bool ?_, Below.refl _ _⟩
    simp only [Bool.false_eq, decide_eq_false_iff_not]
    intro e; exact hl (by rw [e])
theorem equal_yes (v u : Value) (xs : List Int) (w : World) (hv : Ints w v xs) (hu : Ints w u xs) :
    Calls Try.prog 91 #[v, u] w fun e w' => e = .returned (.bool true) ∧ Below w.heap.size w w' :=
  (equal_any v u xs xs w hv hu).mono fun _ _ ⟨h1, h2⟩ => ⟨by rw [h1]; simp, h2⟩
theorem equal_no (v u : Value) (xs ys : List Int) (w : World) (hv : Ints w v xs) (hu : Ints w u ys) (h : xs ≠ ys) :
    Calls Try.prog 91 #[v, u] w fun e w' => e = .returned (.bool false) ∧ Below w.heap.size w w' :=
  (equal_any v u xs ys w hv hu).mono fun _ _ ⟨h1, h2⟩ => ⟨by rw [h1]; simp [h], h2⟩

set_option maxRecDepth 100000 in
set_option maxHeartbeats 8000000 in
theorem Keeps_any (b l h r : Int) (v : Value) (ms : List (Int × Int)) (w : World) (hv : Pairs w v ms) (hn : ms.length ≤ 1000) :
    Calls Try.prog 53 #[.agg #[.int .i64 b, .int .i64 l, .int .i64 h, .int .i64 r], v] w fun e w' => e = .returned (.int .i64 (keepsF b l h r ms)) ∧ Below w.heap.size w w' := by
  obtain ⟨a, c, rfl, hm⟩ := hv.shape
  have HV := hid hv; clear hv
  obtain ⟨i0, hi, hz0, hz1, hz2⟩ := info_parts Try.info3
  go_enter Try.func53, Try.ntmps53
  go_wp2_with fail
  go_loopw [5, 6, 15] (fun sv rv i wr => ∃ k : Nat, k ≤ ms.length ∧ i = .int .i64 k ∧ Hid (KH w b l h r wr sv rv ((ms.map (·.1)).take k) ((ms.map (·.2)).take k))) (fun _ _ i _ => ms.length - (intOf i).toNat)
  case atStart => exact ⟨0, by omega, rfl, hid ⟨Bl.alloc (Below.refl _ _) _, Pbx.new _ b l h r w 25 rfl, World.ownsRow_nil _ _ _ _, World.ownsRow_nil _ _ _ _, by simp [Value.ownBlock]⟩⟩
  case round =>
    obtain ⟨k, hk, rfl, HK⟩ := hrel
    by_cases hlt : k < ms.length
    · obtain ⟨b1, o1, rfl, c1, c2⟩ := (HV.out.below HK.out.1).cellAt hlt
      have hbw := World.block_lt_of_cell? _ _ c1
      dsimp only at hbw
      have HT : Hid ((ms.map (·.1)).take (k + 1) = (ms.map (·.1)).take k ++ [ms[k].1] ∧ (ms.map (·.2)).take (k + 1) = (ms.map (·.2)).take k ++ [ms[k].2]) := by
        constructor <;> (rw [List.take_add_one]; simp [List.getElem?_eq_getElem hlt])
      have hL1 : ((ms.map (·.1)).take k).length = k := by simp; omega
      have hL2 : ((ms.map (·.2)).take k).length = k := by simp; omega
      generalize (ms.map (·.1)).take k = xs at *
      generalize (ms.map (·.2)).take k = ys at *
      generalize hmk : ms[k] = m at *
      obtain ⟨s, x⟩ := m
      simp only at c1 c2
      clear hmk
      have HT' : Hid ((ms.map (·.1)).take (k + 1) = xs ++ [s] ∧ (ms.map (·.2)).take (k + 1) = ys ++ [x]) := HT
      clear HT
      have HL1 := hid hL1; have HL2 := hid hL2
      clear hL1 hL2
      have hxl : xs.length ≤ 1000 := by have := HL1.out; omega
      have hyl : ys.length ≤ 1000 := by have := HL2.out; omega
      have n1 : ¬ b1 = wr.heap.size := by omega
      have hs1 : w.heap.size < wr.heap.size := HK.out.2.1.2.2.2.2
      have i1 : (0 : Int) ≤ (k : Int) := by omega
      have i2 : (k : Int) < ms.length := by omega
      go_wp2_with fail
      go_region_held3 (fun w' => w'.cell? ⟨wr.heap.size, 0, none⟩ = some (.int .i64 s) ∧ w'.cell? ⟨wr.heap.size, 1, none⟩ = some (.int .i64 x)) (go_keep)
        (first
         | (first | (refine step_append_lies _ (by rfl) (.tmp 19) (.tmp 22) 26 (by rfl) (w.heap.size + 1) 3 i0 (.int .i64 0) 1 8 Try.underlying26 hi hz0 hz1 hz2 rfl (by decide) u5 xs.length (xs.map (Value.int .i64)) (by rfl) ?_ ⟨wr.heap.size + 1, 0, none⟩ 1 1 [.int .i64 s] (by rfl) rfl ?_ (by simp [Value.oneCell']) (by omega) (by simp [maxLen]; omega) (by omega) ?_ _ rfl ?_) | (refine step_append_lies _ (by rfl) (.tmp 19) (.tmp 22) 26 (by rfl) (w.heap.size + 1) 3 i0 (.int .i64 0) 1 8 Try.underlying26 hi hz0 hz1 hz2 rfl (by decide) u5 xs.length (xs.map (Value.int .i64)) (by rfl) ?_ ⟨wr.heap.size + 1 + 1, 0, none⟩ 1 1 [.int .i64 s] (by rfl) rfl ?_ (by simp [Value.oneCell']) (by omega) (by simp [maxLen]; omega) (by omega) ?_ _ rfl ?_) | (refine step_append_lies _ (by rfl) (.tmp 19) (.tmp 22) 26 (by rfl) (w.heap.size + 1) 3 i0 (.int .i64 0) 1 8 Try.underlying26 hi hz0 hz1 hz2 rfl (by decide) u5 xs.length (xs.map (Value.int .i64)) (by rfl) ?_ ⟨wB.heap.size, 0, none⟩ 1 1 [.int .i64 s] (by rfl) rfl ?_ (by simp [Value.oneCell']) (by omega) (by simp [maxLen]; omega) (by omega) ?_ _ rfl ?_) | fail
            · first | exact KB.out.2.2.1 | exact (KB.out.next (Bl.alloc (Below.refl _ _) _)).2.2.1 | exact (HK.out.next (by repeat (first | exact Below.refl _ _ | refine Bl.alloc ?_ _ | refine Bl.drew ?_))).2.2.1 | fail
            · first | exact cell_one_atd _ _ (by simp <;> omega) _ _ | exact cell_one_oldd _ _ (by simp <;> omega) _ _ _ | exact cell_one_at _ _ rfl _ _ | exact nA | fail
            · first | (simp; omega) | omega | fail
            intro gA capA wA hown' hgrow hat hlt4
            have KA := hid (KH.app1 (by first | exact KB.out | exact KB.out.next (Bl.alloc (Below.refl _ _) _) | exact HK.out.next (by repeat (first | exact Below.refl _ _ | refine Bl.alloc ?_ _ | refine Bl.drew ?_)) | fail) hown' hgrow hat)
            try have nB := news_far hgrow (cell_one_oldd _ (wr.heap.size + 1) (by simp <;> omega) (.int .i64 x) 3 _) (by intro e; have := (HK.out.2.2.1.lt _ e.symm).2; (try dsimp only at this); omega)
            try have nB := news_far hgrow (cell_one_atd _ (wr.heap.size + 1 + 1) (by simp <;> omega) (.int .i64 x) 3) (by intro e; have := (HK.out.2.2.1.lt _ e.symm).2; (try dsimp only at this); omega)
            have tA0 : wA.cell? ⟨wr.heap.size, 0, none⟩ = some (.int .i64 s) := by
              refine (hgrow.cell_far ⟨wr.heap.size, 0, none⟩ (by first | (simp <;> omega) | omega) (by intro e; have := (HK.out.2.2.1.lt _ e.symm).2; (try dsimp only at this); omega)).trans ?_
              first | exact tB0 | exact cell_alloc1 tB0 | (simp [go_sem] <;> omega) | fail
            have tA1 : wA.cell? ⟨wr.heap.size, 1, none⟩ = some (.int .i64 x) := by
              refine (hgrow.cell_far ⟨wr.heap.size, 1, none⟩ (by first | (simp <;> omega) | omega) (by intro e; have := (HK.out.2.2.1.lt _ e.symm).2; (try dsimp only at this); omega)).trans ?_
              first | exact tB1 | exact cell_alloc1 tB1 | (simp [go_sem] <;> omega) | fail
            have zA : wr.heap.size < wA.heap.size := by have := hgrow.size; (try simp at this); omega
            clear hown' hgrow hat hlt4)
         | (first | (refine step_append_lies _ (by rfl) (.tmp 24) (.tmp 27) 26 (by rfl) (w.heap.size + 1) 3 i0 (.int .i64 0) 1 8 Try.underlying26 hi hz0 hz1 hz2 rfl (by decide) u6 ys.length (ys.map (Value.int .i64)) (by rfl) ?_ ⟨wr.heap.size + 1, 0, none⟩ 1 1 [.int .i64 x] (by rfl) rfl ?_ (by simp [Value.oneCell']) (by omega) (by simp [maxLen]; omega) (by omega) ?_ _ rfl ?_) | (refine step_append_lies _ (by rfl) (.tmp 24) (.tmp 27) 26 (by rfl) (w.heap.size + 1) 3 i0 (.int .i64 0) 1 8 Try.underlying26 hi hz0 hz1 hz2 rfl (by decide) u6 ys.length (ys.map (Value.int .i64)) (by rfl) ?_ ⟨wr.heap.size + 1 + 1, 0, none⟩ 1 1 [.int .i64 x] (by rfl) rfl ?_ (by simp [Value.oneCell']) (by omega) (by simp [maxLen]; omega) (by omega) ?_ _ rfl ?_) | (refine step_append_lies _ (by rfl) (.tmp 24) (.tmp 27) 26 (by rfl) (w.heap.size + 1) 3 i0 (.int .i64 0) 1 8 Try.underlying26 hi hz0 hz1 hz2 rfl (by decide) u6 ys.length (ys.map (Value.int .i64)) (by rfl) ?_ ⟨wA.heap.size, 0, none⟩ 1 1 [.int .i64 x] (by rfl) rfl ?_ (by simp [Value.oneCell']) (by omega) (by simp [maxLen]; omega) (by omega) ?_ _ rfl ?_) | fail
            · first | exact KA.out.2.2.2.1 | exact (KA.out.next (Bl.alloc (Below.refl _ _) _)).2.2.2.1 | exact (HK.out.next (by repeat (first | exact Below.refl _ _ | refine Bl.alloc ?_ _ | refine Bl.drew ?_))).2.2.2.1 | fail
            · first | exact cell_one_atd _ _ (by simp <;> omega) _ _ | exact cell_one_oldd _ _ (by simp <;> omega) _ _ _ | exact cell_one_at _ _ rfl _ _ | exact nB | fail
            · first | (simp; omega) | omega | fail
            intro gB capB wB hown' hgrow hat hlt4
            have KB := hid (KH.app2 (by first | exact KA.out | exact KA.out.next (Bl.alloc (Below.refl _ _) _) | exact HK.out.next (by repeat (first | exact Below.refl _ _ | refine Bl.alloc ?_ _ | refine Bl.drew ?_)) | fail) hown' hgrow hat)
            try have nA := news_far hgrow (cell_one_oldd _ (wr.heap.size + 1) (by simp <;> omega) (.int .i64 s) 3 _) (by intro e; have := (HK.out.2.2.2.1.lt _ e.symm).2; (try dsimp only at this); omega)
            try have nA := news_far hgrow (cell_one_atd _ (wr.heap.size + 1 + 1) (by simp <;> omega) (.int .i64 s) 3) (by intro e; have := (HK.out.2.2.2.1.lt _ e.symm).2; (try dsimp only at this); omega)
            have tB0 : wB.cell? ⟨wr.heap.size, 0, none⟩ = some (.int .i64 s) := by
              refine (hgrow.cell_far ⟨wr.heap.size, 0, none⟩ (by first | (simp <;> omega) | omega) (by intro e; have := (HK.out.2.2.2.1.lt _ e.symm).2; (try dsimp only at this); omega)).trans ?_
              first | exact tA0 | exact cell_alloc1 tA0 | (simp [go_sem] <;> omega) | fail
            have tB1 : wB.cell? ⟨wr.heap.size, 1, none⟩ = some (.int .i64 x) := by
              refine (hgrow.cell_far ⟨wr.heap.size, 1, none⟩ (by first | (simp <;> omega) | omega) (by intro e; have := (HK.out.2.2.2.1.lt _ e.symm).2; (try dsimp only at this); omega)).trans ?_
              first | exact tA1 | exact cell_alloc1 tA1 | (simp [go_sem] <;> omega) | fail
            have zB : wr.heap.size < wB.heap.size := by have := hgrow.size; (try simp at this); omega
            clear hown' hgrow hat hlt4)
         | fail)
      all_goals
        go_wp2_with fail
        go_roundw
        case rel => exact ⟨k + 1, by omega, by go_num, by rw [HT'.out.1, HT'.out.2]; first | exact KA | exact KB⟩
        case measure => simp [intOf]; omega
    · have hkl : k = ms.length := by omega
      subst hkl
      have e1 : (ms.map (·.1)).take ms.length = ms.map (·.1) := List.take_of_length_le (by simp)
      have e2 : (ms.map (·.2)).take ms.length = ms.map (·.2) := List.take_of_length_le (by simp)
      rw [e1, e2] at HK
      clear e1 e2 hlt hk
      have HS := hid (ints_of_own HK.out.2.2.1)
      have HR := hid (ints_of_own HK.out.2.2.2.1)
      have HP := hid HK.out.2.1
      have HB := hid HK.out.1
      clear HK
      have F1 : Hid (∀ e, listedE b l h r (ms.map (·.1)) = e → e ≠ 0 → keepsF b l h r ms = e) := hid fun e => keeps_e
      have F2 : Hid (∀ e, listedE b l h r (ms.map (·.1)) = 0 → listE (ms.map (·.2)) = e → e ≠ 0 → keepsF b l h r ms = e) := hid fun e => keeps_r
      have F3 : Hid (∀ L y, listedE b l h r (ms.map (·.1)) = 0 → listE (ms.map (·.2)) = 0 → followF b l h r ((ms.map (·.1)).headD 0) (ms.map (·.2)) = (L, y) → keepsF b l h r ms = if y = 0 ∧ L = ms.map (·.1) then 0 else 31) := hid fun L y h1 h2 h3 => keeps_follow h1 h2 h3
      generalize ms.map (·.1) = xs at *
      generalize ms.map (·.2) = ys at *
      obtain ⟨a5, c5, rfl, hm5⟩ := HS.out.shape
      obtain ⟨a6, c6, rfl, hm6⟩ := HR.out.shape
      obtain ⟨t1, ht1⟩ : ∃ t, Hid (listedE b l h r xs = t) := ⟨_, rfl⟩
      obtain ⟨t2, ht2⟩ : ∃ t, Hid (listE ys = t) := ⟨_, rfl⟩
      obtain ⟨L, y, hF⟩ : ∃ L y, Hid (followF b l h r (xs.headD 0) ys = (L, y)) := ⟨_, _, rfl⟩
      obtain ⟨q0, q1, q2, q3, q4⟩ := HP.out
      go_wp2_with fail
      refine (listed_at _ _ _ _ _ xs t1 _ HS.out ht1).mono ?_
      rintro e w2 ⟨rfl, hb⟩
      clear q0 q1 q2 q3 q4
      have HB2 := hid (Bl.call HB.out hb)
      have HP2 := hid (HP.out.next hb)
      have HS2 := hid (HS.out.below hb)
      have HR2 := hid (HR.out.below hb)
      clear hb HB HP HS HR
      by_cases h1 : t1 = 0
      · subst h1
        go_wp2_with fail
        refine (list_at _ ys t2 _ HR2.out ht2).mono ?_
        rintro e w3 ⟨rfl, hb⟩
        have HB3 := hid (Bl.call HB2.out hb)
        have HP3 := hid (HP2.out.next hb)
        have HS3 := hid (HS2.out.below hb)
        have HR3 := hid (HR2.out.below hb)
        clear hb HB2 HP2 HS2 HR2
        by_cases h2 : t2 = 0
        · subst h2
          have hl0 : 0 < xs.length := (listedE_len ht1.out).1
          have HK3 := hid (F3.out L y ht1.out ht2.out hF.out)
          clear F1 F2 F3
          obtain ⟨b5, o5, rfl, c5'⟩ := HS3.out.cell0 hl0
          have hd : xs.headD 0 = xs[0] := by cases xs with | nil => simp at hl0 | cons x t => rfl
          rw [hd] at hF
          clear hd
          have hl0' : (0 : Int) < xs.length := by omega
          have hbw := World.block_lt_of_cell? _ _ c5'
          dsimp only at hbw
          obtain ⟨q0, q1, q2, q3, q4⟩ := HP3.out
          generalize xs[0] = x0 at *
          go_wp2_with fail
          go_region_held3 (fun w' => w'.cell? ⟨b5, o5, none⟩ = some (.int .i64 x0) ∧ w'.cell? ⟨w.heap.size, 0, none⟩ = some (.int .i64 b) ∧ w'.cell? ⟨w.heap.size, 1, none⟩ = some (.int .i64 l) ∧ w'.cell? ⟨w.heap.size, 2, none⟩ = some (.int .i64 h) ∧ w'.cell? ⟨w.heap.size, 3, none⟩ = some (.int .i64 r)) (go_keep)
            (first
              | (go_at_call 28; refine (follow_g b l h r x0 (.slice a6 ys.length c6) ys w3.drew (show Ints w3.drew _ _ from HR3.out) L y hF).mono ?_; rintro e w4 ⟨a7, c7, rfl, v7, hb⟩
                 have HB4 := hid (Bl.call (Bl.drew HB3.out) hb)
                 have HP4 := hid (Pbx.next (by exact HP3.out) hb)
                 have HS4 := hid (Ints.below (by exact HS3.out) hb)
                 have k0 := (hb.cell (p := ⟨b5, o5, none⟩) hbw).trans c5'
                 clear hb
                 obtain ⟨z0, z1, z2, z3, z4⟩ := HP4.out)
              | fail)
          clear q0 q1 q2 q3 q4 z0 z1 z2 z3 z4 k0 c5' HB3 HP3 HS3 HR3
          by_cases h3 : y = 0
          · subst h3
            by_cases h4 : L = xs
            · subst h4
              have h5 : keepsF b l h r ms = 0 := by rw [HK3.out]; simp
              have H5 := hid h5; clear h5 HK3
              go_wp2_with fail
              refine (equal_yes _ _ L _ v7.out HS4.out).mono ?_
              rintro e w5 ⟨rfl, hb⟩
              go_wp2_with fail
              go_ret
              exact ⟨ret_int H5.out.symm, Bl.call HB4.out hb⟩
            · have h5 : keepsF b l h r ms = 31 := by rw [HK3.out, if_neg (fun k => h4 k.2)]
              have H5 := hid h5; have H4 := hid h4; clear h5 HK3 h4
              go_wp2_with fail
              refine (equal_no _ _ L xs _ v7.out HS4.out H4.out).mono ?_
              rintro e w5 ⟨rfl, hb⟩
              go_wp2_with fail
              go_ret
              exact ⟨ret_int H5.out.symm, Bl.call HB4.out hb⟩
          · have h5 : keepsF b l h r ms = 31 := by rw [HK3.out, if_neg (fun k => h3 k.1)]
            have H5 := hid h5; have h4 := neq0 h3; clear h5 HK3 h3
            go_wp2_with fail
            go_ret
            exact ⟨ret_int H5.out.symm, HB4.out⟩
        · have H5 := hid (F2.out t2 ht1.out ht2.out h2)
          have h4 := neq0 h2
          clear h2
          go_wp2_with fail
          go_ret
          exact ⟨ret_int H5.out.symm, HB3.out⟩
      · have H5 := hid (F1.out t1 ht1.out h1)
        have h4 := neq0 h1
        clear h1
        go_wp2_with fail
        go_ret
        exact ⟨ret_int H5.out.symm, HB2.out⟩
end Go.Proofs.Ytdopgaljbpjpcaa
