/- pens.follow: its iterator; Follow. -/
import Derived.Test.YtdopgaljbpjpcaaPenB
import Derived.Test.YtdopgaljbpjpcaaRange
import Derived.Shelf.RegionOpen
import Derived.OwnWalkIn
import Derived.TacticsInMore
import Derived.LoopNIn
import Derived.LoopIn
namespace Go.Proofs.Ytdopgaljbpjpcaa
open Go.RowKit
attribute [local go_sem] Oper.semAt_some

/-- The moments of real levels from a right one on, up to the first that cannot be. -/
def goL (b r : Int) (m : Int × Int) : List Int → List (Int × Int)
  | [] => []
  | x :: xs => if (rightB b m.1 m.2 && decide (apartN x m.2 ≤ r)) = true then (lazyN b m.1 x, x) :: goL b r (lazyN b m.1 x, x) xs else []
def followL (b r first : Int) : List Int → List (Int × Int)
  | [] => []
  | x :: xs => if rightB b first x = true then (first, x) :: goL b r (first, x) xs else []

set_option maxHeartbeats 400000 in
theorem follow_any (b l h r f : Int) (a : Option Addr) (n c : Nat) (w : World) :
    Calls Try.prog 76 #[.agg #[.int .i64 b, .int .i64 l, .int .i64 h, .int .i64 r], .int .i64 f, .slice a n c] w fun e w' =>
      e = .returned (.func (.func 100) #[] #[.pointer (some ⟨w.heap.size + 1, 0, none⟩), .pointer (some ⟨w.heap.size + 1 + 1, 0, none⟩), .pointer (some ⟨w.heap.size, 0, none⟩)]) ∧
      w' = ((w.alloc (.cells #[.int .i64 b, .int .i64 l, .int .i64 h, .int .i64 r] 82)).alloc (.cells #[.int .i64 f] 3)).alloc (.cells #[.slice a n c] 26) := by
  go_enter Try.func76, Try.ntmps76
  go_wp2
  go_ret
  exact ⟨rfl, rfl⟩

def encM (m : Int × Int) : Array Value := #[.agg #[.int .i64 m.1, .int .i64 m.2]]

theorem frozen_last (w : World) (vs : Array Value) (e : TypeId) (k : Nat) : (w.alloc (.cells vs e)).frozen? ⟨w.heap.size, k, none⟩ = false := by
  have : (w.alloc (.cells vs e)).heap[w.heap.size]? = some (.cells vs e) := heap_alloc_new w _
  unfold World.frozen?; dsimp only; rw [this]; simp
theorem two_set0 {w : World} {B : Nat} {x u v : Value} (h0 : w.cell? ⟨B, 0, none⟩ = some x) : ((w.setCell ⟨B, 0, none⟩ u).setCell ⟨B, 1, none⟩ v).cell? ⟨B, 0, none⟩ = some u := by
  rw [World.cell?_setCell_other (h := by simp)]; exact World.cell?_setCell_same w _ _ h0
theorem two_set1 {w : World} {B : Nat} {y u v : Value} (h1 : w.cell? ⟨B, 1, none⟩ = some y) : ((w.setCell ⟨B, 0, none⟩ u).setCell ⟨B, 1, none⟩ v).cell? ⟨B, 1, none⟩ = some v := by
  refine World.cell?_setCell_same _ _ _ (u := y) ?_
  rw [World.cell?_setCell_other (h := by simp)]; exact h1
theorem two_turn {own : Nat → Prop} {A w : World} {B : Nat} (u v : Value) (hb : Below A.heap.size A.drew w) (ho : own B) : Turns own A ((w.setCell ⟨B, 0, none⟩ u).setCell ⟨B, 1, none⟩ v) :=
  ((Turns.of_below (own := own) (A := A) (B := w) ⟨hb.os, hb.tape, hb.output, hb.size, hb.block⟩).trans (Turns.setCell own _ _ _ ho)).trans (Turns.setCell own _ _ _ ho)
theorem rightB_lazy (b s n : Int) (hb : 0 ≤ b) : rightB b (lazyN b s n) n = true := by unfold rightB lazyN; simp; omega
theorem lazyN_bd (b s n : Int) (hb : 0 ≤ b) (hb' : b ≤ 8) (hn : -100000 ≤ n ∧ n ≤ 100000) : -1000000 ≤ lazyN b s n ∧ lazyN b s n ≤ 1000000 := by unfold lazyN; omega
theorem goL_step {b r : Int} {s m : Int} {x : Int} {ys : List Int} (h1 : rightB b s m = true) (h2 : apartN x m ≤ r) : goL b r (s, m) (x :: ys) = (lazyN b s x, x) :: goL b r (lazyN b s x, x) ys := by
  simp [goL, h1, h2]
theorem goL_stop {b r : Int} {s m : Int} {x : Int} {ys : List Int} (h2 : ¬ apartN x m ≤ r) : goL b r (s, m) (x :: ys) = [] := by
  simp [goL, h2]

set_option maxRecDepth 100000 in
set_option maxHeartbeats 2000000 in
theorem follow1_in (b l h r f : Int) (xs : List Int) (a : Option Addr) (c : Nat) (n : Nat) (Bp Bf Br : Nat) (Rd : Nat → Prop) (w : World)
    (hp : Hid (penOk b l h r = true)) (hf : -100000 ≤ f ∧ f ≤ 100000) (hxs : Hid (∀ x ∈ xs, -100000 ≤ x ∧ x ≤ 100000)) (h0 : 0 < xs.length)
    (hv : Ints w (.slice a xs.length c) xs)
    (cp0 : w.cell? ⟨Bp, 0, none⟩ = some (.int .i64 b)) (cp1 : w.cell? ⟨Bp, 1, none⟩ = some (.int .i64 l)) (cp2 : w.cell? ⟨Bp, 2, none⟩ = some (.int .i64 h)) (cp3 : w.cell? ⟨Bp, 3, none⟩ = some (.int .i64 r))
    (cf : w.cell? ⟨Bf, 0, none⟩ = some (.int .i64 f)) (cr : w.cell? ⟨Br, 0, none⟩ = some (.slice a xs.length c))
    (hRd : Rd Bp ∧ Rd Bf ∧ Rd Br ∧ ∀ b o, a = some ⟨b, o, none⟩ → Rd b) (hRw : ∀ k, Rd k → k < w.heap.size) :
    SeqOwn Try.prog n 100 #[.pointer (some ⟨Bf, 0, none⟩), .pointer (some ⟨Br, 0, none⟩), .pointer (some ⟨Bp, 0, none⟩)] encM Rd (fun ys => ys = followL b r f xs) xs.length w := by
  intro l J W hW hJ hY hj0
  obtain ⟨a', c', e', hlc, hcm, hx⟩ := hv
  simp only [Value.slice.injEq] at e'
  obtain ⟨rfl, -, rfl⟩ := e'
  obtain ⟨ba, oa, rfl, hc⟩ := hx h0
  refine callsIn_of_wp Try.func100 rfl trivial ?_ rfl
  simp only [Try.ntmps100, List.size_toArray, List.length_cons, List.length_nil, Nat.reduceAdd, Nat.reduceSub, Array.replicate_succ, Array.replicate_zero, List.push_toArray, List.append_toArray, List.nil_append, List.cons_append]
  unfold maxLen at hcm
  have bl := fun (p : Addr) (v : Value) (h : w.cell? p = some v) => (hW.cell (World.block_lt_of_cell? w p h)).trans h
  have cp0' := bl _ _ cp0; have cp1' := bl _ _ cp1; have cp2' := bl _ _ cp2; have cp3' := bl _ _ cp3; have cf' := bl _ _ cf; have cr' := bl _ _ cr
  have hc0 := bl _ _ (hc 0 h0)
  have HC := hid hc; clear hc
  have HX := hid hx; clear hx
  have HJ := hid hJ; clear hJ
  have HY := hid hY; clear hY
  have HRD := hid hRd; have HRW := hid hRw; clear hRd hRw
  have lp : Bp < W.heap.size := World.block_lt_of_cell? W _ cp0'
  have lf : Bf < W.heap.size := World.block_lt_of_cell? W _ cf'
  have lr : Br < W.heap.size := World.block_lt_of_cell? W _ cr'
  have la : ba < W.heap.size := World.block_lt_of_cell? W _ hc0
  clear cp0 cp1 cp2 cp3 cf cr bl
  simp only [Nat.add_zero] at hc0
  have hfn : ∀ k, Fence.wide.fn k := fun _ => trivial
  have hdp : ¬ (Fence.wide.depth.isSome = true) := by simp [Fence.wide]
  gi_wp2
  gi_region
  have hx0 : -1000000 ≤ xs.getD 0 0 ∧ xs.getD 0 0 ≤ 1000000 := by
    have h1 : xs.getD 0 0 ∈ xs := by rw [List.getD_eq_getElem?_getD, List.getElem?_eq_getElem h0]; exact List.getElem_mem h0
    have := hxs.out _ h1; omega
  simp only [List.getD_eq_getElem?_getD, List.getElem?_eq_getElem h0, Option.getD_some] at hx0
  gi_wp2_with (gi_at_call 101; refine (callsIn_wide.2 (right_any b _ h r f _ _ (by omega) hx0)).mono ?_; rintro e w2 ⟨rfl, hb2⟩; obtain ⟨hc2, hf2⟩ := bcell hb2)
  have s2 := hb2.size
  simp only [World.size_drew, World.size_alloc] at s2
  gi_loopw [6, 8] (fun ok i wr => ∃ (k : Nat) (t : Bool) (s m : Int) (own : Nat → Prop) (pre : List (Int × Int)), ok = .bool t ∧ i = .int .i64 k ∧ k < xs.length ∧ pre.length = k ∧ J own pre wr ∧ own W.heap.size ∧ Hid (∀ j, own j → ¬ Rd j) ∧
      wr.cell? ⟨W.heap.size, 0, none⟩ = some (.int .i64 s) ∧ wr.cell? ⟨W.heap.size, 1, none⟩ = some (.int .i64 m) ∧ wr.frozen? ⟨W.heap.size, 0, none⟩ = false ∧ wr.frozen? ⟨W.heap.size, 1, none⟩ = false ∧
      W.heap.size < wr.heap.size ∧ Hid (∀ k, Rd k → wr.heap[k]? = W.heap[k]?) ∧
      Hid (t = true → (-1000000 ≤ s ∧ s ≤ 1000000) ∧ rightB b s m = true ∧ xs[k]? = some m ∧ followL b r f xs = pre ++ (s, m) :: goL b r (s, m) (xs.drop (k + 1))) ∧ Hid (t = false → followL b r f xs = pre))
    (fun _ i _ => xs.length - (intOf i).toNat)
  case atStart =>
    have hgl : xs = xs[0] :: xs.drop 1 := by rw [← List.drop_eq_getElem_cons h0]; rfl
    refine ⟨0, rightB b f xs[0], f, xs[0], (fun k => k = W.heap.size), [], rfl, rfl, h0, rfl, HJ.out _ _ _ W _ hj0 ⟨hb2.os, hb2.tape, hb2.output, by omega, fun k hk _ => ?_⟩ (fun k h => .inr ⟨by omega, by omega⟩), rfl, fun j hj hr => ?_, ?_, ?_, ?_, ?_, by omega, fun k hk => ?_, fun ht => ⟨by omega, ht, List.getElem?_eq_getElem h0, ?_⟩, fun ht => ?_⟩
    · exact (hb2.block k (by simp; omega)).trans (Below.heap_alloc _ _ _ hk)
    · have h1 := HRW.out j hr; have h2 := hW.size; omega
    · exact (hb2.cell (p := ⟨W.heap.size, 0, none⟩) (by simp)).trans (cell_last (w := W) (vs := #[.int .i64 f, .int .i64 xs[0]]) (e := 59) (k := 0) rfl)
    · exact (hb2.cell (p := ⟨W.heap.size, 1, none⟩) (by simp)).trans (cell_last (w := W) (vs := #[.int .i64 f, .int .i64 xs[0]]) (e := 59) (k := 1) rfl)
    · exact (hb2.frozen (p := ⟨W.heap.size, 0, none⟩) (by simp)).trans (frozen_last W _ 59 0)
    · exact (hb2.frozen (p := ⟨W.heap.size, 1, none⟩) (by simp)).trans (frozen_last W _ 59 1)
    · have h1 := HRW.out k hk; have h2 := hW.size
      exact (hb2.block k (by simp; omega)).trans (Below.heap_alloc _ _ _ (by omega))
    · show followL b r f xs = _
      have h1 : followL b r f (xs[0] :: xs.drop 1) = (f, xs[0]) :: goL b r (f, xs[0]) (xs.drop 1) := by simp only [followL, ht, if_true]
      rw [← hgl] at h1; exact h1
    · show followL b r f xs = _
      have h1 : followL b r f (xs[0] :: xs.drop 1) = [] := by simp [followL, ht]
      rw [← hgl] at h1; exact h1
  case round =>
    obtain ⟨k, t, s, m, own, pre, rfl, rfl, hk, hpl, hJr, hown, HOWN, hs0, hs1, hf0, hf1, hsz, HR, HT, HFa⟩ := hrel
    cases t with
    | false =>
      gi_wp2_with fail
      go_end0
      exact ⟨⟨_, rfl⟩, own, pre, (HFa.out (by simp)).symm, hJr⟩
    | true =>
      obtain ⟨fn, tmps, assign, body, hy, hR⟩ := HY.out own pre (s, m) wr hJr (by omega)
      dsimp only [encM] at hy
      by_cases hk1 : k + 1 < xs.length
      · have hxm : xs[k + 1] ∈ xs := List.getElem_mem hk1
        have hxb : -100000 ≤ xs[k + 1] ∧ xs[k + 1] ≤ 100000 := hxs.out _ hxm
        obtain ⟨hsb, hrt, hm, hfo⟩ := HT.out (by simp)
        gi_wp2_with fail
        refine hR.mono ?_
        rintro e W3 ⟨rfl, hJ3, hs3, hk3⟩
        have hr3 : W3.cell? ⟨Br, 0, none⟩ = some (.slice (some ⟨ba, oa, none⟩) xs.length c) := by
          rw [World.cell?_of_block (w := wr) (hk3 Br (.inl HRD.out.2.2.1)), World.cell?_of_block (w := W) (HR.out Br HRD.out.2.2.1)]; exact cr'
        have hRba : Rd ba := HRD.out.2.2.2 ba oa rfl
        have hx3 : W3.cell? ⟨ba, oa + (k + 1), none⟩ = some (.int .i64 xs[k + 1]) := by
          rw [World.cell?_of_block (w := wr) (hk3 ba (.inl hRba)), World.cell?_of_block (w := W) (HR.out ba hRba), (hW.cell (p := ⟨ba, oa + (k + 1), none⟩) (HRW.out ba hRba)), HC.out (k + 1) hk1]
          simp [List.getD_eq_getElem?_getD, hk1]
        have h30 : W3.cell? ⟨W.heap.size, 0, none⟩ = some (.int .i64 s) := (World.cell?_of_block (w := wr) (hk3 W.heap.size (.inr hown))).trans hs0
        have h31 : W3.cell? ⟨W.heap.size, 1, none⟩ = some (.int .i64 m) := (World.cell?_of_block (w := wr) (hk3 W.heap.size (.inr hown))).trans hs1
        have f30 : W3.frozen? ⟨W.heap.size, 0, none⟩ = false := (World.frozen?_of_block (w := wr) (hk3 W.heap.size (.inr hown))).trans hf0
        have f31 : W3.frozen? ⟨W.heap.size, 1, none⟩ = false := (World.frozen?_of_block (w := wr) (hk3 W.heap.size (.inr hown))).trans hf1
        have hmb : -1000000 ≤ m ∧ m ≤ 1000000 := by
          have h1 : m ∈ xs := List.mem_of_getElem? hm
          have := hxs.out _ h1; omega
        have HK3 := hid hk3; clear hk3
        have HHM := hid hm; have HFO := hid hfo; have HRT := hid hrt; clear hm hfo hrt
        have hz3 : W.heap.size < W3.heap.size := by omega
        clear hs0 hs1 hf0 hf1 cp0' cp1' cp2' cp3' cf' cr' hc0 hc2 hf2 hx0
        have hpo := hp.out
        simp [penOk] at hpo
        have hb0 : 0 ≤ b := by omega
        have hb8 : b ≤ 8 := by omega
        clear hpo
        by_cases hap : apartN xs[k + 1] m ≤ r
        · have HG : Hid (followL b r f xs = (pre ++ [(s, m)]) ++ (lazyN b s xs[k + 1], xs[k + 1]) :: goL b r (lazyN b s xs[k + 1], xs[k + 1]) (xs.drop (k + 1 + 1))) := by
            show followL b r f xs = _
            rw [HFO.out, List.drop_eq_getElem_cons hk1, goL_step HRT.out hap]; simp
          gi_wp2_with fail
          have e1 : IntKind.i64.wrap ((k : Int) + 1) = (k : Int) + 1 := IntWalk.i64_in _ (by omega)
          have e2 : 0 ≤ (k : Int) + 1 := by omega
          have e3 : ((k : Int) + 1).toNat = k + 1 := by omega
          have e4 : (k : Int) + 1 < xs.length := by omega
          gi_region_with (gi_at_call 87; refine (callsIn_wide.2 (step_yes b _ h r s m xs[k + 1] _ hp hsb hmb hxb HRT hap)).mono ?_; rintro e w4 ⟨rfl, hb4⟩; have q0 := (hb4.cell (p := ⟨W.heap.size, 0, none⟩) hz3).trans h30; have q1 := (hb4.cell (p := ⟨W.heap.size, 1, none⟩) hz3).trans h31; have p0 := (hb4.frozen (p := ⟨W.heap.size, 0, none⟩) hz3).trans f30; have p1 := (hb4.frozen (p := ⟨W.heap.size, 1, none⟩) hz3).trans f31)
          all_goals gi_wp2_with fail
          all_goals
            go_roundw
            case rel =>
              have hT : Turns own W3 ((w4.setCell ⟨W.heap.size, 0, none⟩ (.int .i64 (lazyN b s xs[k + 1]))).setCell ⟨W.heap.size, 1, none⟩ (.int .i64 xs[k + 1])) := two_turn _ _ hb4 hown
              exact ⟨k + 1, true, (lazyN b s xs[k + 1]), xs[k + 1], own, pre ++ [(s, m)], rfl, by go_num, hk1, by simp [hpl], HJ.out _ _ _ _ _ hJ3 hT (fun _ h => .inl h), hown, HOWN, two_set0 q0, two_set1 q1, by rw [World.frozen?_setCell, World.frozen?_setCell]; exact p0, by rw [World.frozen?_setCell, World.frozen?_setCell]; exact p1,
                Nat.lt_of_lt_of_le hz3 hT.size, fun j hj => (hT.block j (by have h1 := HRW.out j hj; have h2 := hW.size; omega) (fun ho => HOWN.out j ho hj)).trans ((HK3.out j (.inl hj)).trans (HR.out j hj)), fun _ => ⟨lazyN_bd b s _ hb0 hb8 hxb, rightB_lazy b s _ hb0, List.getElem?_eq_getElem hk1, HG.out⟩, (fun h => by cases h)⟩
            case measure => simp [intOf]; omega
        · have hap' : r < apartN xs[k + 1] m := by omega
          have HG : Hid (followL b r f xs = pre ++ [(s, m)]) := by
            show followL b r f xs = _
            rw [HFO.out, List.drop_eq_getElem_cons hk1, goL_stop hap]
          clear hap
          gi_wp2_with fail
          have e1 : IntKind.i64.wrap ((k : Int) + 1) = (k : Int) + 1 := IntWalk.i64_in _ (by omega)
          have e2 : 0 ≤ (k : Int) + 1 := by omega
          have e3 : ((k : Int) + 1).toNat = k + 1 := by omega
          have e4 : (k : Int) + 1 < xs.length := by omega
          gi_region_with (gi_at_call 87; refine (callsIn_wide.2 (step_no2 b _ h r s m xs[k + 1] _ hsb hmb hxb HRT hap')).mono ?_; rintro e w4 ⟨rfl, hb4⟩; have q0 := (hb4.cell (p := ⟨W.heap.size, 0, none⟩) hz3).trans h30; have q1 := (hb4.cell (p := ⟨W.heap.size, 1, none⟩) hz3).trans h31; have p0 := (hb4.frozen (p := ⟨W.heap.size, 0, none⟩) hz3).trans f30; have p1 := (hb4.frozen (p := ⟨W.heap.size, 1, none⟩) hz3).trans f31)
          all_goals gi_wp2_with fail
          all_goals
            go_roundw
            case rel =>
              have hT : Turns own W3 ((w4.setCell ⟨W.heap.size, 0, none⟩ (.int .i64 0)).setCell ⟨W.heap.size, 1, none⟩ (.int .i64 0)) := two_turn _ _ hb4 hown
              exact ⟨k + 1, false, 0, 0, own, pre ++ [(s, m)], rfl, by go_num, hk1, by simp [hpl], HJ.out _ _ _ _ _ hJ3 hT (fun _ h => .inl h), hown, HOWN, two_set0 q0, two_set1 q1, by rw [World.frozen?_setCell, World.frozen?_setCell]; exact p0, by rw [World.frozen?_setCell, World.frozen?_setCell]; exact p1,
                Nat.lt_of_lt_of_le hz3 hT.size, fun j hj => (hT.block j (by have h1 := HRW.out j hj; have h2 := hW.size; omega) (fun ho => HOWN.out j ho hj)).trans ((HK3.out j (.inl hj)).trans (HR.out j hj)), (fun h => by cases h), fun _ => HG.out⟩
            case measure => simp [intOf]; omega
      · gi_wp2_with fail
        refine hR.mono ?_
        rintro e W3 ⟨rfl, hJ3, hs3, hk3⟩
        have hr3 : W3.cell? ⟨Br, 0, none⟩ = some (.slice (some ⟨ba, oa, none⟩) xs.length c) := by
          rw [World.cell?_of_block (w := wr) (hk3 Br (.inl HRD.out.2.2.1)), World.cell?_of_block (w := W) (HR.out Br HRD.out.2.2.1)]; exact cr'
        clear hk3
        gi_wp2_with fail
        go_end0
        obtain ⟨_, _, hm, hfo⟩ := HT.out (by simp)
        exact ⟨⟨_, rfl⟩, own, pre ++ [(s, m)], by rw [hfo, List.drop_eq_nil_of_le (by omega)]; rfl, hJ3⟩
end Go.Proofs.Ytdopgaljbpjpcaa
