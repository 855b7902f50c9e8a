/- pens.Add, aneroidref03.Add, sample. -/
import Derived.Test.YtdopgaljbpjpcaaPairs
namespace Go.Proofs.Ytdopgaljbpjpcaa
open Go.RowKit

structure Pn where
  b : Int
  l : Int
  h : Int
  r : Int
def Pn.ok (p : Pn) : Bool := penOk p.b p.l p.h p.r
def Pn.val (p : Pn) : Value := .agg #[.int .i64 p.b, .int .i64 p.l, .int .i64 p.h, .int .i64 p.r]
def Pn.sum (p q : Pn) : Pn := ⟨p.b + q.b, p.l + q.l, p.h + q.h, p.r⟩
def addF (p q : Pn) : Pn × Int :=
  if p.ok && q.ok then (if q.r < p.r then (⟨0, 0, 0, 0⟩, 1) else if (p.sum q).ok then (p.sum q, 0) else (⟨0, 0, 0, 0⟩, 2)) else (⟨0, 0, 0, 0⟩, 30)

set_option maxHeartbeats 400000 in
theorem add_bad1 (b l h r b' l' h' r' : Int) (w : World) (hp : Hid (penOk b l h r = false)) :
    Calls Try.prog 25 #[.agg #[.int .i64 b, .int .i64 l, .int .i64 h, .int .i64 r], .agg #[.int .i64 b', .int .i64 l', .int .i64 h', .int .i64 r']] w fun e w' => e = .returned (.tuple #[.agg #[.int .i64 0, .int .i64 0, .int .i64 0, .int .i64 0], .int .i64 30]) ∧ Below w.heap.size w w' := by
  go_enter Try.func25, Try.ntmps25
  go_wp2_with fail
  refine wp_loop_rounds 1 ?_; rw [rounds_succ]
  go_wp2_with (go_at_call 49; refine (check_bad _ _ _ _ _ hp).mono ?_; rintro e w1 ⟨rfl, hb1⟩; obtain ⟨hc1, hf1⟩ := bcell hb1; have z1 := hb1.size; simp only [World.size_alloc] at z1; have z12 : w.heap.size + 1 + 1 < w1.heap.size := by omega)
  refine bodyPost_ret (v := .tuple #[.agg #[.int .i64 0, .int .i64 0, .int .i64 0, .int .i64 0], .int .i64 30]) (by simp [results, Try.results25, go_sem, hc1]) rfl ⟨rfl, ?_⟩
  repeat (first | exact Below.refl _ _ | refine Bl.alloc ?_ _ | refine Bl.setCell ?_ (by simp; try omega) _ | refine Bl.drew ?_ | refine Bl.drewN ?_ _ | refine Bl.call ?_ (by assumption))

set_option maxHeartbeats 800000 in
theorem add_bad2 (b l h r b' l' h' r' : Int) (w : World) (hp : Hid (penOk b l h r = true)) (hq : Hid (penOk b' l' h' r' = false)) :
    Calls Try.prog 25 #[.agg #[.int .i64 b, .int .i64 l, .int .i64 h, .int .i64 r], .agg #[.int .i64 b', .int .i64 l', .int .i64 h', .int .i64 r']] w fun e w' => e = .returned (.tuple #[.agg #[.int .i64 0, .int .i64 0, .int .i64 0, .int .i64 0], .int .i64 30]) ∧ Below w.heap.size w w' := by
  go_enter Try.func25, Try.ntmps25
  go_wp2_with fail
  refine wp_loop_rounds 2 ?_; rw [rounds_succ]
  go_wp2_with fail
  refine (check_ok _ _ _ _ _ hp).mono ?_
  rintro e w1 ⟨rfl, hb1⟩; obtain ⟨hc1, hf1⟩ := bcell hb1; have z1 := hb1.size; simp only [World.size_alloc] at z1; have z10 : w.heap.size < w1.heap.size := by omega
  have z11 : w.heap.size + 1 < w1.heap.size := by omega
  have z12 : w.heap.size + 1 + 1 < w1.heap.size := by omega
  have z13 : w.heap.size + 1 + 1 + 1 < w1.heap.size := by omega
  have z14 : w.heap.size + 1 + 1 + 1 + 1 < w1.heap.size := by omega
  go_wp2_with fail
  rw [rounds_succ]
  go_wp2_with fail
  refine (check_bad _ _ _ _ _ hq).mono ?_
  rintro e w2 ⟨rfl, hb2⟩; obtain ⟨hc2, hf2⟩ := bcell hb2; have z2 := hb2.size; simp only [World.size_alloc] at z2
  have z20 : w.heap.size < w2.heap.size := by omega
  have z21 : w.heap.size + 1 < w2.heap.size := by omega
  have z22 : w.heap.size + 1 + 1 < w2.heap.size := by omega
  have z23 : w.heap.size + 1 + 1 + 1 < w2.heap.size := by omega
  have z24 : w.heap.size + 1 + 1 + 1 + 1 < w2.heap.size := by omega
  go_wp2_with fail
  refine bodyPost_ret (v := .tuple #[.agg #[.int .i64 0, .int .i64 0, .int .i64 0, .int .i64 0], .int .i64 30]) (by simp [results, Try.results25, go_sem, hc1, hc2, z11, z12]) rfl ⟨rfl, ?_⟩
  repeat (first | exact Below.refl _ _ | refine Bl.alloc ?_ _ | refine Bl.setCell ?_ (by simp; try omega) _ | refine Bl.drew ?_ | refine Bl.drewN ?_ _ | refine Bl.call ?_ (by assumption))

set_option maxHeartbeats 2000000 in
theorem add_both (b l h r b' l' h' r' : Int) (w : World) (hp : Hid (penOk b l h r = true)) (hq : Hid (penOk b' l' h' r' = true)) (s : Pn) (er : Int) (hres : Hid ((s, er) = addF ⟨b, l, h, r⟩ ⟨b', l', h', r'⟩)) :
    Calls Try.prog 25 #[.agg #[.int .i64 b, .int .i64 l, .int .i64 h, .int .i64 r], .agg #[.int .i64 b', .int .i64 l', .int .i64 h', .int .i64 r']] w fun e w' => e = .returned (.tuple #[.agg #[.int .i64 s.b, .int .i64 s.l, .int .i64 s.h, .int .i64 s.r], .int .i64 er]) ∧ Below w.heap.size w w' := by
  have hpo := hp.out
  have hqo := hq.out
  simp [penOk] at hpo hqo
  obtain ⟨p1, p2, p3, p4, p5, p6, p7, p8⟩ := hpo
  obtain ⟨q1, q2, q3, q4, q5, q6, q7, q8⟩ := hqo
  go_enter Try.func25, Try.ntmps25
  go_wp2_with fail
  refine wp_loop_rounds 3 ?_; rw [rounds_succ]
  go_wp2_with fail
  refine (check_ok _ _ _ _ _ hp).mono ?_
  rintro e w1 ⟨rfl, hb1⟩; obtain ⟨hc1, hf1⟩ := bcell hb1; have z1 := hb1.size; simp only [World.size_alloc] at z1; have z10 : w.heap.size < w1.heap.size := by omega
  have z11 : w.heap.size + 1 < w1.heap.size := by omega
  have z12 : w.heap.size + 1 + 1 < w1.heap.size := by omega
  have z13 : w.heap.size + 1 + 1 + 1 < w1.heap.size := by omega
  have z14 : w.heap.size + 1 + 1 + 1 + 1 < w1.heap.size := by omega
  go_wp2_with fail
  rw [rounds_succ]
  go_wp2_with fail
  refine (check_ok _ _ _ _ _ hq).mono ?_
  rintro e w2 ⟨rfl, hb2⟩; obtain ⟨hc2, hf2⟩ := bcell hb2; have z2 := hb2.size; simp only [World.size_alloc] at z2
  have z20 : w.heap.size < w2.heap.size := by omega
  have z21 : w.heap.size + 1 < w2.heap.size := by omega
  have z22 : w.heap.size + 1 + 1 < w2.heap.size := by omega
  have z23 : w.heap.size + 1 + 1 + 1 < w2.heap.size := by omega
  have z24 : w.heap.size + 1 + 1 + 1 + 1 < w2.heap.size := by omega
  go_wp2_with fail
  rw [rounds_succ]
  by_cases hr : r' < r
  · have hF : (s, er) = (⟨0, 0, 0, 0⟩, 1) := by rw [hres.out]; simp [addF, Pn.ok, hp.out, hq.out, hr]
    obtain ⟨rfl, rfl⟩ := Prod.mk.injEq .. ▸ hF
    go_wp2_with fail
    refine bodyPost_ret (v := .tuple #[.agg #[.int .i64 0, .int .i64 0, .int .i64 0, .int .i64 0], .int .i64 1]) (by simp [results, Try.results25, go_sem, hc1, hc2, z11, z12]) rfl ⟨rfl, ?_⟩
    repeat (first | exact Below.refl _ _ | refine Bl.alloc ?_ _ | refine Bl.setCell ?_ (by simp; try omega) _ | refine Bl.drew ?_ | refine Bl.drewN ?_ _ | refine Bl.call ?_ (by assumption))

  · go_wp2_with fail
    cases hk : penOk (b + b') (l + l') (h + h') r
    · have hF : (s, er) = (⟨0, 0, 0, 0⟩, 2) := by rw [hres.out]; simp [addF, Pn.ok, Pn.sum, hp.out, hq.out, hr, hk]
      obtain ⟨rfl, rfl⟩ := Prod.mk.injEq .. ▸ hF
      refine (check_bad _ _ _ _ _ (hid hk)).mono ?_
      clear hk hF
      rintro e w3 ⟨rfl, hb3⟩; obtain ⟨hc3, hf3⟩ := bcell hb3; have z3 := hb3.size; simp only [World.size_alloc] at z3
      have z30 : w.heap.size < w3.heap.size := by omega
      have z31 : w.heap.size + 1 < w3.heap.size := by omega
      have z32 : w.heap.size + 1 + 1 < w3.heap.size := by omega
      have z33 : w.heap.size + 1 + 1 + 1 < w3.heap.size := by omega
      have z34 : w.heap.size + 1 + 1 + 1 + 1 < w3.heap.size := by omega
      have z35 : w2.heap.size < w3.heap.size := by omega
      go_wp2_with fail
      refine bodyPost_ret (v := .tuple #[.agg #[.int .i64 0, .int .i64 0, .int .i64 0, .int .i64 0], .int .i64 2]) (by simp [results, Try.results25, go_sem, hc1, hc2, hc3, z11, z12, z21, z22]) rfl ⟨rfl, ?_⟩
      repeat (first | exact Below.refl _ _ | refine Bl.alloc ?_ _ | refine Bl.setCell ?_ (by simp; try omega) _ | refine Bl.drew ?_ | refine Bl.drewN ?_ _ | refine Bl.call ?_ (by assumption))
    · have hF : (s, er) = (⟨b + b', l + l', h + h', r⟩, 0) := by rw [hres.out]; simp [addF, Pn.ok, Pn.sum, hp.out, hq.out, hr, hk]
      obtain ⟨rfl, rfl⟩ := Prod.mk.injEq .. ▸ hF
      refine (check_ok _ _ _ _ _ (hid hk)).mono ?_
      clear hk hF
      rintro e w3 ⟨rfl, hb3⟩; obtain ⟨hc3, hf3⟩ := bcell hb3; have z3 := hb3.size; simp only [World.size_alloc] at z3
      have z30 : w.heap.size < w3.heap.size := by omega
      have z31 : w.heap.size + 1 < w3.heap.size := by omega
      have z32 : w.heap.size + 1 + 1 < w3.heap.size := by omega
      have z33 : w.heap.size + 1 + 1 + 1 < w3.heap.size := by omega
      have z34 : w.heap.size + 1 + 1 + 1 + 1 < w3.heap.size := by omega
      have z35 : w2.heap.size < w3.heap.size := by omega
      go_wp2_with fail
      refine bodyPost_ret (v := .tuple #[.agg #[.int .i64 (b + b'), .int .i64 (l + l'), .int .i64 (h + h'), .int .i64 r], .int .i64 0]) (by simp [results, Try.results25, go_sem, hc1, hc2, hc3, z11, z12, z21, z22]) rfl ⟨rfl, ?_⟩
      repeat (first | exact Below.refl _ _ | refine Bl.alloc ?_ _ | refine Bl.setCell ?_ (by simp; try omega) _ | refine Bl.drew ?_ | refine Bl.drewN ?_ _ | refine Bl.call ?_ (by assumption))
end Go.Proofs.Ytdopgaljbpjpcaa
