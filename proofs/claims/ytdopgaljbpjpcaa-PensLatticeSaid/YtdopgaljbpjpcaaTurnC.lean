/- slices.AppendSeq and slices.Collect at []int, over any iterator that hands over numbers. -/
import Derived.Test.YtdopgaljbpjpcaaTurnB
namespace Go.Proofs.Ytdopgaljbpjpcaa
open Go.RowKit
attribute [local go_sem] Oper.semAt_some

theorem SeqOwn.later {α : Type} {P : Program} {n g : Nat} {lb : Array Value} {encs : α → Array Value} {Rd : Nat → Prop} {S : List α → Prop} {N : Nat} {w w' : World} (h : SeqOwn P n g lb encs Rd S N w) (hb : Below w.heap.size w w') : SeqOwn P n g lb encs Rd S N w' :=
  fun l J W hW hJ hY h0 => h l J W (Bl.call hb hW) hJ hY h0

set_option maxRecDepth 100000 in
set_option maxHeartbeats 2000000 in
theorem appendSeq_any (g : Nat) (lb : Array Value) (L : List Int) (N : Nat) (Rd : Nat → Prop) (w : World) (hN : N ≤ 1000) (hL : L.length ≤ N) (hRd : ∀ k, Rd k → k < w.heap.size) (eg : ∀ args w, (callFunc g args).run Try.prog w = .ok (.enter g args) w)
    (hs : SeqOwn Try.prog (3 - 1) g lb encI Rd (fun ys => ys = L) N w) :
    Calls Try.prog 102 #[.slice none 0 0, .func (.func g) #[] lb] w fun e w' => ∃ v, e = .returned v ∧ Hid (Ints w' v L) ∧ Below w.heap.size w w' := by
  obtain ⟨i0, hi, hz0, hz1, hz2⟩ := info_parts Try.info3
  refine (callsIn_wide (n := 3)).1 ?_
  refine callsIn_of_wp_marks Try.func102 rfl trivial ?_ rfl
  simp only [Try.ntmps102, List.size_toArray, List.length_cons, List.length_nil, Nat.reduceAdd, Nat.reduceSub, Array.replicate_succ, Array.replicate_zero, List.push_toArray, List.append_toArray, List.nil_append, List.cons_append]
  have hfn : ∀ k, Fence.wide.fn k := fun _ => trivial
  have hdp : ¬ (Fence.wide.depth.isSome = true) := by simp [Fence.wide]
  gi_wp2_with fail
  have hbo : Box (w.alloc (.cells #[.slice none 0 0] 26)) w.heap.size 26 (.slice none 0 0) := heap_alloc_new w _
  have hB3 : Below w.heap.size w (w.alloc (.cells #[.slice none 0 0] 26)) := Bl.alloc (Below.refl _ _) _
  have hs3 : (w.alloc (.cells #[.slice none 0 0] 26)).heap.size = w.heap.size + 1 := by simp
  have HS := hid (SeqOwn.later hs hB3)
  generalize hw3 : w.alloc (.cells #[.slice none 0 0] 26) = w3
  rw [hw3] at hbo hB3 hs3 HS
  clear hw3 hs
  refine wpIn_rangeFunc_seqOwn (gf := g) (lb := lb) rfl eg HS.out (fun k hk => by have := hRd k hk; omega) (fun _ => rfl) (fun own pre => ColI w w.heap.size (w3.heap.size + 2) own pre) ?hI ?h0
    (fun own pre x a1 W => a1 = { tmps := #[.slice none 0 0, .func (.func g) #[] lb, .pointer (some ⟨w.heap.size, 0, none⟩), undef, .slice none 0 0, .int .i64 x, .func (.func g) #[] lb, .int .i64 x, undef, undef, undef, undef, undef], defers := [] } ∧ ColI w w.heap.size (w3.heap.size + 2) own pre W) ?hAx ?assign ?body ?done
  case hI =>
    intro own own' s A B hi ho hs ht hw
    exact colI_turn hi hB3.size (by omega) ho hs ht hw
  case h0 => exact ⟨_, hbo, World.ownsRow_nil _ _ _ _, (fun k hk => by cases hk), hB3⟩
  case hAx =>
    rintro own pre x a1 A B ⟨rfl, hcol⟩ ho ht hlt hsz
    exact ⟨rfl, colI_turn hcol hB3.size (by omega) ho (by omega) (ht.mono fun k h => .inr (.inr h)) (fun k h => .inl h)⟩
  case assign =>
    rintro ll own pre x W hi ho hs hlt
    unfold encI
    gi_wp2
    refine ⟨KeepsK.refl _ _ _ _, ?_, hi⟩
    first | rfl | trivial
  case body =>
    rintro ll own pre x a1 W ⟨rfl, v, hv, hr, hd, hb⟩ ho hs hlt
    have hcv : W.cell? ⟨w.heap.size, 0, none⟩ = some v := by unfold World.cell?; dsimp only; rw [hv]; rfl
    gi_wp2_with (gi_at_builtin; go_must (refine wpListIn_append_where _ rfl _ _ 26 rfl (w3.heap.size + 2) 3 i0 (.int .i64 0) 1 8 Try.underlying26 hi hz0 hz1 hz2 rfl (by decide) _ _ _ rfl (hr.alloc _) ⟨W.heap.size, 0, none⟩ 1 1 [.int .i64 x] rfl rfl (cell_one_new _ _ _) (by simp [Value.oneCell']) (by simp [maxLen]; omega) (by first | omega | (simp; omega)) (by first | omega | (simp; omega)) ?_); intro v' w4 hown' hgrow hsn; obtain ⟨g', cap', rfl⟩ := ownsRow_succ hown'; go_must (have HC := colI_append hv hr hd hb (by omega) (by omega) ho (by omega) hown' hgrow hsn); obtain ⟨hc4, hf4, hk4, hi4⟩ := HC)
    exact ⟨⟨hk4.1, fun k hk => hk4.2 k (hk.imp (fun h => by have := hRd k h; omega) id)⟩, hi4⟩
  case done =>
    clear hs3
    rintro own ls W rfl ⟨v, hv, hr, hd, hb⟩ ho hs hK
    have hcv : W.cell? ⟨w.heap.size, 0, none⟩ = some v := by unfold World.cell?; dsimp only; rw [hv]; rfl
    obtain ⟨ao, co, rfl⟩ := own_shape hr
    gi_wp2_with fail
    refine ⟨by simp, .inl ⟨_, _, rfl, run_takeDeferred hK, ?_⟩⟩
    exact ⟨_, results_tmp rfl _ _ _, _, rfl, ints_of_own (ownsRow_putObj hr _ hK rfl), hb.trans (belowK_b (w := w) (Nat.le_refl _) W _ _ _ hB3.size hK rfl rfl)⟩

set_option maxHeartbeats 400000 in
theorem collect_any (g : Nat) (lb : Array Value) (L : List Int) (N : Nat) (Rd : Nat → Prop) (w : World) (hN : N ≤ 1000) (hL : L.length ≤ N) (hRd : ∀ k, Rd k → k < w.heap.size) (eg : ∀ args w, (callFunc g args).run Try.prog w = .ok (.enter g args) w)
    (hs : SeqOwn Try.prog (3 - 1) g lb encI Rd (fun ys => ys = L) N w) :
    Calls Try.prog 77 #[.func (.func g) #[] lb] w fun e w' => ∃ v, e = .returned v ∧ Hid (Ints w' v L) ∧ Below w.heap.size w w' := by
  have HS := hid hs; clear hs
  have HG := hid eg; clear eg
  go_enter Try.func77, Try.ntmps77
  go_wp2_with fail
  refine (appendSeq_any g lb L N Rd w hN hL hRd HG.out HS.out).mono ?_
  rintro e w1 ⟨v, rfl, hv, hb⟩
  go_wp2_with fail
  go_ret
  exact ⟨_, rfl, hv, hb⟩

/-- pens.Turns. -/
def turnsF (xs : List Int) : List Int × Int := if listE xs ≠ 0 then ([], listE xs) else (turnsL xs, 0)
set_option maxHeartbeats 400000 in
theorem Turns_bad (v : Value) (xs : List Int) (w : World) (hv : Ints w v xs) (hb : Hid (listE xs ≠ 0)) :
    Calls Try.prog 31 #[v] w (RetInts [] (listE xs) w) := by
  have hne : (listE xs != 0) = true := by simpa [bne_iff_ne] using hb.out
  go_enter Try.func31, Try.ntmps31
  go_wp2_with fail
  refine (list_any _ xs _ hv).mono ?_
  rintro e w1 ⟨rfl, hb1⟩
  go_wp2_with fail
  go_ret2
  exact ⟨_, rfl, Ints.nil, hb1⟩
theorem turnsL_le (xs : List Int) : (turnsL xs).length ≤ xs.length := turnsTo_le _ _
set_option maxHeartbeats 400000 in
theorem Turns_ok (v : Value) (xs : List Int) (w : World) (hv : Ints w v xs) (h0 : Hid (listE xs = 0)) :
    Calls Try.prog 31 #[v] w (RetInts (turnsL xs) 0 w) := by
  have hlen := listE_len h0.out
  obtain ⟨a, c, rfl, hm⟩ := hv.shape
  go_enter Try.func31, Try.ntmps31
  go_wp2_with fail
  refine (list_ok' _ xs _ hv h0).mono ?_
  rintro e w1 ⟨rfl, hb1⟩
  have hv1 := hid (hv.below hb1)
  go_wp2_with fail
  refine (turns_any _ _ _ _).mono ?_
  rintro e w2 ⟨rfl, hw2⟩
  have hB2 : Below w1.heap.size w1 w2 := by rw [hw2]; exact Bl.alloc (Below.refl _ _) _
  have cl : w2.cell? ⟨w1.heap.size, 0, none⟩ = some (.slice a xs.length c) := by rw [hw2]; exact cell_last rfl
  have hz2 : w2.heap.size = w1.heap.size + 1 := by rw [hw2]; simp
  clear hw2
  have hs := hid (turns1_in xs a c (3 - 1) w1.heap.size (fun k => k < w2.heap.size) w2 hlen.1 (by omega) (hv1.out.below hB2) cl ⟨by omega, fun b o e => by
    subst e
    obtain ⟨b', o', e', hc⟩ := (hv1.out.below hB2).cellAt hlen.1
    cases e'
    exact World.block_lt_of_cell? w2 _ hc⟩ (fun k hk => hk))
  have CL := hid cl; clear cl
  go_wp2_with fail
  refine (collect_any 103 _ (turnsL xs) xs.length (fun k => k < w2.heap.size) w2 (by omega) (turnsL_le xs) (fun k hk => hk) (enters_of Try.func103 (by kernel_rfl) rfl) hs.out).mono ?_
  rintro e w3 ⟨v, rfl, hv3, hb3⟩
  go_wp2_with fail
  go_ret2
  exact ⟨_, rfl, hv3.out, Bl.call (Bl.call hb1 hB2) hb3⟩
theorem Turns_any (v : Value) (xs : List Int) (w : World) (hv : Ints w v xs) :
    Calls Try.prog 31 #[v] w (RetInts (turnsF xs).1 (turnsF xs).2 w) := by
  unfold turnsF
  by_cases h0 : listE xs = 0
  · rw [if_neg (by simp [h0])]; exact Turns_ok v xs w hv (hid h0)
  · rw [if_pos h0]; exact Turns_bad v xs w hv (hid h0)
end Go.Proofs.Ytdopgaljbpjpcaa
