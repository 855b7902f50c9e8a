/- pens.Follow. -/
import Derived.Test.YtdopgaljbpjpcaaFollow
import Derived.Test.YtdopgaljbpjpcaaCollect
namespace Go.Proofs.Ytdopgaljbpjpcaa
open Go.RowKit
attribute [local go_sem] Oper.semAt_some

def followF (b l h r f : Int) (xs : List Int) : List Int × Int :=
  if askE b l h r [f] ≠ 0 then ([], askE b l h r [f]) else if listE xs ≠ 0 then ([], listE xs) else
  if (followL b r f xs).length < xs.length then ([], 31) else ((followL b r f xs).map (·.1), 0)

set_option maxHeartbeats 400000 in
theorem follow_bad1 (b l h r f : Int) (a : Option Addr) (n c : Nat) (w : World) (hb : Hid (askE b l h r [f] ≠ 0)) :
    Calls Try.prog 28 #[.agg #[.int .i64 b, .int .i64 l, .int .i64 h, .int .i64 r], .int .i64 f, .slice a n c] w (RetInts [] (askE b l h r [f]) w) := by
  have hne : (askE b l h r [f] != 0) = true := by simpa [bne_iff_ne] using hb.out
  go_enter Try.func28, Try.ntmps28
  go_wp2_with fail
  refine (asked_any _ _ _ _ _ [f] _ (ints1_at _ _ _ (by simp))).mono ?_
  rintro e w1 ⟨rfl, hb1⟩
  go_wp2_with fail
  go_ret2
  exact ⟨_, rfl, Ints.nil, Bl.call (Bl.alloc (Bl.alloc (Below.refl _ _) _) _) (by assumption)⟩

theorem asked_ok (b l h r : Int) (v : Value) (xs : List Int) (w : World) (hv : Ints w v xs) (h0 : Hid (askE b l h r xs = 0)) :
    Calls Try.prog 74 #[.agg #[.int .i64 b, .int .i64 l, .int .i64 h, .int .i64 r], v] w fun e w' => e = .returned (.int .i64 0) ∧ Below w.heap.size w w' :=
  (asked_any b l h r v xs w hv).mono fun e w' ⟨h1, h2⟩ => ⟨by rw [h1, h0.out], h2⟩
theorem list_ok (v : Value) (xs : List Int) (w : World) (hv : Ints w v xs) (h0 : Hid (listE xs = 0)) :
    Calls Try.prog 75 #[v] w fun e w' => e = .returned (.int .i64 0) ∧ Below w.heap.size w w' :=
  (list_any v xs w hv).mono fun e w' ⟨h1, h2⟩ => ⟨by rw [h1, h0.out], h2⟩

set_option maxHeartbeats 400000 in
theorem follow_bad2 (b l h r f : Int) (v : Value) (xs : List Int) (w : World) (hv : Ints w v xs) (h0 : Hid (askE b l h r [f] = 0)) (hb : Hid (listE xs ≠ 0)) :
    Calls Try.prog 28 #[.agg #[.int .i64 b, .int .i64 l, .int .i64 h, .int .i64 r], .int .i64 f, v] w (RetInts [] (listE xs) w) := by
  have hne : (listE xs != 0) = true := by simpa [bne_iff_ne] using hb.out
  go_enter Try.func28, Try.ntmps28
  go_wp2_with fail
  refine (asked_ok _ _ _ _ _ [f] _ (ints1_at _ _ _ (by simp)) h0).mono ?_
  rintro e w1 ⟨rfl, hb1⟩
  go_wp2_with fail
  refine (list_any _ xs _ (Ints.below hv (Bl.call (Bl.alloc (Bl.alloc (Below.refl _ _) _) _) (by assumption)))).mono ?_
  rintro e w2 ⟨rfl, hb2⟩
  go_wp2_with fail
  go_ret2
  exact ⟨_, rfl, Ints.nil, Bl.call (Bl.call (Bl.alloc (Bl.alloc (Below.refl _ _) _) _) (by assumption)) (by assumption)⟩

theorem own_shape {w : World} {base e size : Nat} {v : Value} {n : Nat} {xs : List Value} (h : w.ownsRow base e size v n xs) : ∃ a c, v = .slice a n c := by
  rcases h.2 with ⟨rfl, rfl⟩ | ⟨g, cap, cur, rfl, _⟩
  · exact ⟨_, _, rfl⟩
  · exact ⟨_, _, rfl⟩
theorem followL_le (b r f : Int) (xs : List Int) : (followL b r f xs).length ≤ xs.length := by
  have hg : ∀ (xs : List Int) (m : Int × Int), (goL b r m xs).length ≤ xs.length := by
    intro xs
    induction xs with
    | nil => intro m; simp [goL]
    | cons x xs ih =>
      intro m
      simp only [goL]
      split
      · simp; exact ih _
      · simp
  cases xs with
  | nil => simp [followL]
  | cons x xs =>
    simp only [followL]
    split
    · simp; exact hg _ _
    · simp

set_option maxRecDepth 100000 in
set_option maxHeartbeats 2000000 in
theorem follow_ok (b l h r f : Int) (a : Option Addr) (n c : Nat) (xs : List Int) (w : World) (hv : Ints w (.slice a n c) xs) (h0 : Hid (askE b l h r [f] = 0)) (h1 : Hid (listE xs = 0))
    (hp : Hid (penOk b l h r = true)) (hf : -100000 ≤ f ∧ f ≤ 100000) (hxs : Hid (∀ x ∈ xs, -100000 ≤ x ∧ x ≤ 100000)) (hx1 : 0 < xs.length) (hx2 : xs.length ≤ 401)
    (ys : List Int) (er : Int) (hres : Hid (((followL b r f xs).length < xs.length → ys = [] ∧ er = 31) ∧ (¬ (followL b r f xs).length < xs.length → ys = (followL b r f xs).map (·.1) ∧ er = 0))) :
    Calls Try.prog 28 #[.agg #[.int .i64 b, .int .i64 l, .int .i64 h, .int .i64 r], .int .i64 f, .slice a n c] w (RetInts ys er w) := by
  have hn : n = xs.length := by obtain ⟨a', c', e, _⟩ := hv; simp at e; exact e.2.1
  subst hn
  have hfl := followL_le b r f xs
  obtain ⟨i0, hi, hz0, hz1, hz2⟩ := info_parts Try.info3
  refine (callsIn_wide (n := 3)).1 ?_
  refine callsIn_of_wp_marks Try.func28 rfl trivial ?_ rfl
  simp only [Try.ntmps28, List.size_toArray, List.length_cons, List.length_nil, Nat.reduceAdd, Nat.reduceSub, Array.replicate_succ, Array.replicate_zero, List.push_toArray, List.append_toArray, List.nil_append, List.cons_append]
  have hfn : ∀ k, Fence.wide.fn k := fun _ => trivial
  have hdp : ¬ (Fence.wide.depth.isSome = true) := by simp [Fence.wide]
  gi_wp2_with fail
  refine (callsIn_wide.2 (asked_ok _ _ _ _ _ [f] _ (ints1_at _ _ _ (by simp)) h0)).mono ?_
  rintro e w1 ⟨rfl, hb1⟩
  have hB1 : Below w.heap.size w w1 := Bl.call (Bl.alloc (Bl.alloc (Below.refl _ _) _) _) hb1
  obtain ⟨hc1, hf1⟩ := bcell hb1
  gi_wp2_with fail
  refine (callsIn_wide.2 (list_ok _ xs _ (Ints.below hv hB1) h1)).mono ?_
  rintro e w2 ⟨rfl, hb2⟩
  have hB2 : Below w.heap.size w w2 := Bl.call hB1 hb2
  have hB2' := Bl.call (Bl.call (Bl.alloc (Below.refl (w.alloc (.cells #[.int .i64 b, .int .i64 l, .int .i64 h, .int .i64 r] 25)).heap.size (w.alloc (.cells #[.int .i64 b, .int .i64 l, .int .i64 h, .int .i64 r] 25))) _) hb1) hb2
  have q0 := box_cell hB2' (o := 0) rfl
  have q1 := box_cell hB2' (o := 1) rfl
  have q2 := box_cell hB2' (o := 2) rfl
  have q3 := box_cell hB2' (o := 3) rfl
  have hz2' := hB2'.size
  simp only [World.size_alloc] at hz2'
  have hlt2 : w.heap.size < w2.heap.size := by omega
  clear hB2'
  clear hc1 hf1
  gi_wp2_with fail
  refine (callsIn_wide.2 (follow_any b l h r f a xs.length c _)).mono ?_
  rintro e w3 ⟨rfl, hw3⟩
  simp only [World.size_alloc]
  have hs3 : w3.heap.size = w2.heap.size + 4 := by rw [hw3]; simp
  have hB3' : Below (w2.alloc (.cells #[.slice none 0 0] 26)).heap.size (w2.alloc (.cells #[.slice none 0 0] 26)) w3 := by rw [hw3]; exact Bl.alloc (Bl.alloc (Bl.alloc (Below.refl _ _) _) _) _
  have hB3 : Below w.heap.size w w3 := Bl.call (Bl.alloc hB2 _) hB3'
  have hbo : Box w3 w2.heap.size 26 (.slice none 0 0) := (hB3'.block _ (by simp)).trans (heap_alloc_new w2 _)
  have cp := fun (o : Nat) (v : Value) (hv : (#[.int .i64 b, .int .i64 l, .int .i64 h, .int .i64 r] : Array Value)[o]? = some v) =>
    box_cell (w := w2.alloc (.cells #[.slice none 0 0] 26)) (W := w3) (vs := #[.int .i64 b, .int .i64 l, .int .i64 h, .int .i64 r]) (e := 82) (by rw [hw3]; exact Bl.alloc (Bl.alloc (Below.refl _ _) _) _) (o := o) (v := v) hv
  have cf := box_cell (w := (w2.alloc (.cells #[.slice none 0 0] 26)).alloc (.cells #[.int .i64 b, .int .i64 l, .int .i64 h, .int .i64 r] 82)) (W := w3) (vs := #[.int .i64 f]) (e := 3) (by rw [hw3]; exact Bl.alloc (Below.refl _ _) _) (o := 0) (v := .int .i64 f) rfl
  have cr := box_cell (w := ((w2.alloc (.cells #[.slice none 0 0] 26)).alloc (.cells #[.int .i64 b, .int .i64 l, .int .i64 h, .int .i64 r] 82)).alloc (.cells #[.int .i64 f] 3)) (W := w3) (vs := #[.slice a xs.length c]) (e := 26) (by rw [hw3]; exact Below.refl _ _) (o := 0) (v := .slice a xs.length c) rfl
  simp only [World.size_alloc] at cp cf cr
  have cp0 := cp 0 _ rfl; have cp1 := cp 1 _ rfl; have cp2 := cp 2 _ rfl; have cp3 := cp 3 _ rfl
  have HW3 := hid hw3; clear hw3 cp hB3'
  clear q0 q1 q2 q3 hlt2 hz2'
  gi_wp2_with fail
  refine wpIn_rangeFunc_seqOwn (gf := 100) (lb := #[.pointer (some ⟨w2.heap.size + 1 + 1, 0, none⟩), .pointer (some ⟨w2.heap.size + 1 + 1 + 1, 0, none⟩), .pointer (some ⟨w2.heap.size + 1, 0, none⟩)]) rfl (enters_of Try.func100 (by kernel_rfl) rfl)
    (follow1_in b l h r f xs a c (3 - 1) (w2.heap.size + 1) (w2.heap.size + 1 + 1) (w2.heap.size + 1 + 1 + 1) (fun k => k < w3.heap.size ∧ k ≠ w2.heap.size) w3 hp hf hxs hx1 (Ints.below hv hB3) cp0 cp1 cp2 cp3 cf cr ?rd1 (fun k hk => hk.1))
    (fun k hk => hk.1) (fun _ => rfl) (fun own pre => ColI w w2.heap.size (w3.heap.size + 2) own (pre.map (·.1))) ?hI ?h0
    (fun own pre x a1 W => ∃ Bx, a1 = { tmps := #[.agg #[.int .i64 b, .int .i64 l, .int .i64 h, .int .i64 r], .int .i64 f, .slice a xs.length c, .pointer (some ⟨w.heap.size, 0, none⟩), undef, undef, .slice none 0 0, .int .i64 0, .int .i64 0, .int .i64 0, .pointer (some ⟨w2.heap.size, 0, none⟩), .pointer (some ⟨Bx, 0, none⟩),
      .agg #[.int .i64 b, .int .i64 l, .int .i64 h, .int .i64 r], .int .i64 f, .slice (some ⟨w.heap.size + 1, 0, none⟩) 1 1, .int .i64 0, .int .i64 0, .bool false, undef, .slice a xs.length c, .int .i64 0, .int .i64 0, .bool false, undef,
      .agg #[.int .i64 b, .int .i64 l, .int .i64 h, .int .i64 r], .agg #[.int .i64 b, .int .i64 l, .int .i64 h, .int .i64 r], .int .i64 f, .slice a xs.length c, .func (.func 100) #[] #[.pointer (some ⟨w2.heap.size + 1 + 1, 0, none⟩), .pointer (some ⟨w2.heap.size + 1 + 1 + 1, 0, none⟩), .pointer (some ⟨w2.heap.size + 1, 0, none⟩)],
      .agg #[.int .i64 x.1, .int .i64 x.2], undef, undef, undef, undef, undef, undef, undef, undef, undef, undef, undef], defers := [] } ∧ W.cell? ⟨Bx, 0, none⟩ = some (.int .i64 x.1) ∧ w3.heap.size + 2 ≤ Bx ∧ Bx < W.heap.size ∧ ColI w w2.heap.size (w3.heap.size + 2) own (pre.map (·.1)) W) ?hAx ?assign ?body ?done
  case rd1 =>
    refine ⟨⟨by omega, by omega⟩, ⟨by omega, by omega⟩, ⟨by omega, by omega⟩, fun b' o' e => ?_⟩
    obtain ⟨a', c', e', _, _, hx⟩ := hv
    obtain ⟨b2, o2, e2, hc⟩ := hx hx1
    simp only [Value.slice.injEq] at e'
    rw [← e'.1, e] at e2
    cases e2
    have h1 := World.block_lt_of_cell? w _ (hc 0 hx1)
    have h2 := hB2.size
    exact ⟨by show b' < _; dsimp only at h1; omega, by show b' ≠ _; dsimp only at h1; omega⟩
  case hI =>
    intro own own' s A B hi ho hs ht hw
    exact colI_turn hi hB3.size (by omega) ho hs ht hw
  case h0 => exact ⟨_, hbo, World.ownsRow_nil _ _ _ _, (fun k hk => by cases hk), hB3⟩
  case hAx =>
    rintro own pre x a1 A B ⟨Bx, rfl, hc, h1, h2, hcol⟩ ho ht hlt hsz
    exact ⟨Bx, rfl, (World.cell?_of_block (w := A) (ht.block Bx h2 (by omega))).trans hc, h1, by omega, colI_turn hcol hB3.size (by omega) ho (by omega) (ht.mono fun k h => .inr (.inr h)) (fun k h => .inl h)⟩
  case assign =>
    rintro ll own pre x W hi ho hs hlt
    unfold encM
    gi_wp2
    refine ⟨KeepsK.of_below (Bl.alloc (Below.refl _ _) _) ?_, W.heap.size, rfl, cell_last rfl, hs, by simp, ?_⟩
    · intro k hk
      rcases hk with h | h | h | h
      · have := h.1; omega
      · have := ho k h; omega
      · omega
      · omega
    · exact colI_turn hi hB3.size (by omega) ho (by omega) (Turns.of_below (Bl.alloc (Below.refl _ _) _)) (fun k h => .inl h)
  case body =>
    rintro ll own pre x a1 W ⟨Bx, rfl, hc, h1, h2, v, hv, hr, hd, hb⟩ ho hs hlt
    have hcv : W.cell? ⟨w2.heap.size, 0, none⟩ = some v := by unfold World.cell?; dsimp only; rw [hv]; rfl
    gi_wp2_with (gi_at_builtin; refine wpListIn_append_where _ rfl _ _ 26 rfl (w3.heap.size + 2) 3 i0 (.int .i64 0) 1 8 Try.underlying26 hi hz0 hz1 hz2 rfl (by decide) _ _ _ rfl (hr.alloc _) ⟨W.heap.size, 0, none⟩ 1 1 [.int .i64 x.1] rfl rfl (cell_one_new _ _ _) (by simp [Value.oneCell']) (by simp [maxLen]; omega) (by simp; omega) (by simp; omega) ?_; intro v' w4 hown' hgrow hsn; obtain ⟨g', cap', rfl⟩ := ownsRow_succ hown'; obtain ⟨hc4, hf4, hk4, hi4⟩ := colI_append hv hr hd hb (by have := hB2.size; omega) (by omega) ho (by omega) hown' hgrow hsn)
    simp only [List.length_map] at hk4 hi4
    exact ⟨hk4, by simpa using hi4⟩
  case done =>
    clear hs3
    rintro own ls W rfl ⟨v, hv, hr, hd, hb⟩ ho hs hK
    have hcv : W.cell? ⟨w2.heap.size, 0, none⟩ = some v := by unfold World.cell?; dsimp only; rw [hv]; rfl
    obtain ⟨ao, co, rfl⟩ := own_shape hr
    have hI := ints_of_own hr
    simp only [List.length_map] at hI hr hcv hv ⊢
    by_cases hsh : (followL b r f xs).length < xs.length
    · obtain ⟨rfl, rfl⟩ := hres.out.1 hsh
      gi_wp2_with fail
      refine ⟨by simp, .inl ⟨_, _, rfl, run_takeDeferred hK, ?_⟩⟩
      exact ⟨_, results_tmp2 rfl _ _ _, _, rfl, Ints.nil, hb.trans (belowK_b (w := w) (Nat.le_refl _) W _ _ _ hB3.size hK rfl rfl)⟩
    · obtain ⟨rfl, rfl⟩ := hres.out.2 hsh
      gi_wp2_with fail
      refine ⟨by simp, .inl ⟨_, _, rfl, run_takeDeferred hK, ?_⟩⟩
      exact ⟨_, results_tmp2 rfl _ _ _, _, rfl, by simpa using ints_of_own (xs := (followL b r f xs).map (·.1)) (by simpa using ownsRow_putObj hr _ hK rfl), hb.trans (belowK_b (w := w) (Nat.le_refl _) W _ _ _ hB3.size hK rfl rfl)⟩

/-- pens.Follow. -/
theorem follow_all (b l h r f : Int) (v : Value) (xs : List Int) (w : World) (hv : Ints w v xs) :
    Calls Try.prog 28 #[.agg #[.int .i64 b, .int .i64 l, .int .i64 h, .int .i64 r], .int .i64 f, v] w (RetInts (followF b l h r f xs).1 (followF b l h r f xs).2 w) := by
  by_cases h0 : askE b l h r [f] = 0
  · by_cases h1 : listE xs = 0
    · have hl : listOk xs = true := by
        unfold listE at h1
        split at h1
        · assumption
        · omega
      have hp : penOk b l h r = true := by
        unfold askE at h0
        split at h0
        · assumption
        · omega
      have hf : lvls [f] = true := by
        unfold askE at h0
        rw [if_pos hp] at h0
        split at h0
        · assumption
        · omega
      simp [lvls, lvl, withinB] at hf
      simp [listOk] at hl
      have hx : ∀ x ∈ xs, -100000 ≤ x ∧ x ≤ 100000 := by
        intro x hx
        have := hl.2
        simp [lvls, lvl, withinB] at this
        have := this x hx
        omega
      obtain ⟨a, c, rfl, hh⟩ := hv
      refine (follow_ok b l h r f a xs.length c xs w ⟨a, c, rfl, hh⟩ (hid h0) (hid h1) (hid hp) (by omega) (hid hx) (by omega) (by omega) (followF b l h r f xs).1 (followF b l h r f xs).2 ?_)
      unfold followF
      rw [if_neg (by simp [h0]), if_neg (by simp [h1])]
      constructor
      · intro hc; rw [if_pos hc]; exact ⟨rfl, rfl⟩
      · intro hc; rw [if_neg hc]; exact ⟨rfl, rfl⟩
    · refine (follow_bad2 b l h r f v xs w hv (hid h0) (hid h1)).mono fun e w' hr => ?_
      unfold followF
      rw [if_neg (by simp [h0]), if_pos h1]
      exact hr
  · obtain ⟨a, c, rfl, hh⟩ := hv
    refine (follow_bad1 b l h r f a _ c w (hid h0)).mono fun e w' hr => ?_
    unfold followF
    rw [if_pos h0]
    exact hr
end Go.Proofs.Ytdopgaljbpjpcaa
