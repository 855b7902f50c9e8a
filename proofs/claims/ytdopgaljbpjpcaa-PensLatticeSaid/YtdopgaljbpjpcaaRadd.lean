/- aneroidref03.Add, sample; pens.Add whole. -/
import Derived.Test.YtdopgaljbpjpcaaAdd
namespace Go.Proofs.Ytdopgaljbpjpcaa
open Go.RowKit

theorem addF_bad1 {p q : Pn} (h : p.ok = false) : addF p q = (⟨0, 0, 0, 0⟩, 30) := by simp [addF, h]
theorem addF_bad2 {p q : Pn} (h : q.ok = false) : addF p q = (⟨0, 0, 0, 0⟩, 30) := by simp [addF, h]
/-- A pen and an error code. -/
def RetPen (s : Pn × Int) (w : World) (e : Ending) (w' : World) : Prop := e = .returned (.tuple #[.agg #[.int .i64 s.1.b, .int .i64 s.1.l, .int .i64 s.1.h, .int .i64 s.1.r], .int .i64 s.2]) ∧ Below w.heap.size w w'
theorem add_any (b l h r b' l' h' r' : Int) (w : World) :
    Calls Try.prog 25 #[.agg #[.int .i64 b, .int .i64 l, .int .i64 h, .int .i64 r], .agg #[.int .i64 b', .int .i64 l', .int .i64 h', .int .i64 r']] w (RetPen (addF ⟨b, l, h, r⟩ ⟨b', l', h', r'⟩) w) := by
  cases hp : penOk b l h r
  · rw [addF_bad1 (p := ⟨b, l, h, r⟩) hp]; exact add_bad1 b l h r b' l' h' r' w hp
  · cases hq : penOk b' l' h' r'
    · rw [addF_bad2 (q := ⟨b', l', h', r'⟩) hq]; exact add_bad2 b l h r b' l' h' r' w hp hq
    · exact add_both b l h r b' l' h' r' w hp hq _ _ rfl

set_option maxHeartbeats 400000 in
theorem sample_any (w : World) : Calls Try.prog 64 #[] w fun e w' => e = .returned (.agg #[.int .i64 2, .int .i64 (-1), .int .i64 1, .int .i64 5]) ∧ Below w.heap.size w w' := by
  go_enter Try.func64, Try.ntmps64
  go_wp2
  refine bodyPost_ret (v := .agg #[.int .i64 2, .int .i64 (-1), .int .i64 1, .int .i64 5]) (by simp [results, Try.results64, go_sem]) rfl ⟨rfl, ?_⟩
  repeat (first | exact Below.refl _ _ | refine Bl.alloc ?_ _ | refine Bl.setCell ?_ (by simp; try omega) _ | refine Bl.drew ?_ | refine Bl.drewN ?_ _ | refine Bl.call ?_ (by assumption))

set_option maxHeartbeats 400000 in
theorem radd_bad1 (b l h r b' l' h' r' : Int) (w : World) (hp : Hid (penOk b l h r = false)) :
    Calls Try.prog 26 #[.agg #[.int .i64 b, .int .i64 l, .int .i64 h, .int .i64 r], .agg #[.int .i64 b', .int .i64 l', .int .i64 h', .int .i64 r']] w fun e w' => e = .returned (.tuple #[.agg #[.int .i64 0, .int .i64 0, .int .i64 0, .int .i64 0], .int .i64 30]) ∧ Below w.heap.size w w' := by
  go_enter Try.func26, Try.ntmps26
  go_wp2_with fail
  refine (rcheck_bad _ _ _ _ _ hp).mono ?_
  rintro e w1 ⟨rfl, hb1⟩; obtain ⟨hc1, hf1⟩ := bcell hb1; have z1 := hb1.size; try simp only [World.size_alloc] at z1
  have z10 : w.heap.size < w1.heap.size := by omega
  have z11 : w.heap.size + 1 < w1.heap.size := by omega
  have z12 : w.heap.size + 1 + 1 < w1.heap.size := by omega
  go_wp2_with fail
  refine bodyPost_ret (v := .tuple #[.agg #[.int .i64 0, .int .i64 0, .int .i64 0, .int .i64 0], .int .i64 30]) (by simp [results, Try.results26, go_sem, hc1]) rfl ⟨rfl, ?_⟩
  repeat (first | exact Below.refl _ _ | refine Bl.alloc ?_ _ | refine Bl.setCell ?_ (by simp; try omega) _ | refine Bl.drew ?_ | refine Bl.drewN ?_ _ | refine Bl.call ?_ (by assumption))

set_option maxHeartbeats 800000 in
theorem radd_bad2 (b l h r b' l' h' r' : Int) (w : World) (hp : Hid (penOk b l h r = true)) (hq : Hid (penOk b' l' h' r' = false)) :
    Calls Try.prog 26 #[.agg #[.int .i64 b, .int .i64 l, .int .i64 h, .int .i64 r], .agg #[.int .i64 b', .int .i64 l', .int .i64 h', .int .i64 r']] w fun e w' => e = .returned (.tuple #[.agg #[.int .i64 0, .int .i64 0, .int .i64 0, .int .i64 0], .int .i64 30]) ∧ Below w.heap.size w w' := by
  go_enter Try.func26, Try.ntmps26
  go_wp2_with fail
  refine (rcheck_ok _ _ _ _ _ hp).mono ?_
  rintro e w1 ⟨rfl, hb1⟩; obtain ⟨hc1, hf1⟩ := bcell hb1; have z1 := hb1.size; try simp only [World.size_alloc] at z1
  have z10 : w.heap.size < w1.heap.size := by omega
  have z11 : w.heap.size + 1 < w1.heap.size := by omega
  have z12 : w.heap.size + 1 + 1 < w1.heap.size := by omega
  go_wp2_with fail
  refine (rcheck_bad _ _ _ _ _ hq).mono ?_
  rintro e w2 ⟨rfl, hb2⟩; obtain ⟨hc2, hf2⟩ := bcell hb2; have z2 := hb2.size; try simp only [World.size_alloc] at z2
  have z20 : w.heap.size < w2.heap.size := by omega
  have z21 : w.heap.size + 1 < w2.heap.size := by omega
  have z22 : w.heap.size + 1 + 1 < w2.heap.size := by omega
  go_wp2_with fail
  refine bodyPost_ret (v := .tuple #[.agg #[.int .i64 0, .int .i64 0, .int .i64 0, .int .i64 0], .int .i64 30]) (by simp [results, Try.results26, go_sem, hc1, hc2, z12]) rfl ⟨rfl, ?_⟩
  repeat (first | exact Below.refl _ _ | refine Bl.alloc ?_ _ | refine Bl.setCell ?_ (by simp; try omega) _ | refine Bl.drew ?_ | refine Bl.drewN ?_ _ | refine Bl.call ?_ (by assumption))

set_option maxHeartbeats 2000000 in
theorem radd_both (b l h r b' l' h' r' : Int) (w : World) (hp : Hid (penOk b l h r = true)) (hq : Hid (penOk b' l' h' r' = true)) (s : Pn) (er : Int) (hres : Hid ((s, er) = addF ⟨b, l, h, r⟩ ⟨b', l', h', r'⟩)) :
    Calls Try.prog 26 #[.agg #[.int .i64 b, .int .i64 l, .int .i64 h, .int .i64 r], .agg #[.int .i64 b', .int .i64 l', .int .i64 h', .int .i64 r']] w fun e w' => e = .returned (.tuple #[.agg #[.int .i64 s.b, .int .i64 s.l, .int .i64 s.h, .int .i64 s.r], .int .i64 er]) ∧ Below w.heap.size w w' := by
  have hpo := hp.out
  have hqo := hq.out
  simp [penOk] at hpo hqo
  obtain ⟨p1, p2, p3, p4, p5, p6, p7, p8⟩ := hpo
  obtain ⟨q1, q2, q3, q4, q5, q6, q7, q8⟩ := hqo
  go_enter Try.func26, Try.ntmps26
  go_wp2_with fail
  refine (rcheck_ok _ _ _ _ _ hp).mono ?_
  rintro e w1 ⟨rfl, hb1⟩; obtain ⟨hc1, hf1⟩ := bcell hb1; have z1 := hb1.size; try simp only [World.size_alloc] at z1
  have z10 : w.heap.size < w1.heap.size := by omega
  have z11 : w.heap.size + 1 < w1.heap.size := by omega
  have z12 : w.heap.size + 1 + 1 < w1.heap.size := by omega
  go_wp2_with fail
  refine (rcheck_ok _ _ _ _ _ hq).mono ?_
  rintro e w2 ⟨rfl, hb2⟩; obtain ⟨hc2, hf2⟩ := bcell hb2; have z2 := hb2.size; try simp only [World.size_alloc] at z2
  have z20 : w.heap.size < w2.heap.size := by omega
  have z21 : w.heap.size + 1 < w2.heap.size := by omega
  have z22 : w.heap.size + 1 + 1 < w2.heap.size := by omega
  by_cases hr : r' < r
  · have hF : (s, er) = (⟨0, 0, 0, 0⟩, 1) := by rw [hres.out]; simp [addF, Pn.ok, hp.out, hq.out, hr]
    obtain ⟨rfl, rfl⟩ := Prod.mk.injEq .. ▸ hF
    go_wp2_with fail
    refine bodyPost_ret (v := .tuple #[.agg #[.int .i64 0, .int .i64 0, .int .i64 0, .int .i64 0], .int .i64 1]) (by simp [results, Try.results26, go_sem, hc1, hc2, z12]) rfl ⟨rfl, ?_⟩
    repeat (first | exact Below.refl _ _ | refine Bl.alloc ?_ _ | refine Bl.setCell ?_ (by simp; try omega) _ | refine Bl.drew ?_ | refine Bl.drewN ?_ _ | refine Bl.call ?_ (by assumption))
  · go_wp2_with fail
    cases hk : penOk (b + b') (l + l') (h + h') r
    · have hF : (s, er) = (⟨0, 0, 0, 0⟩, 2) := by rw [hres.out]; simp [addF, Pn.ok, Pn.sum, hp.out, hq.out, hr, hk]
      obtain ⟨rfl, rfl⟩ := Prod.mk.injEq .. ▸ hF
      refine (rcheck_bad _ _ _ _ _ (hid hk)).mono ?_
      clear hk hF
      rintro e w3 ⟨rfl, hb3⟩; obtain ⟨hc3, hf3⟩ := bcell hb3; have z3 := hb3.size; try simp only [World.size_alloc] at z3
      have z30 : w.heap.size < w3.heap.size := by omega
      have z31 : w.heap.size + 1 < w3.heap.size := by omega
      have z32 : w.heap.size + 1 + 1 < w3.heap.size := by omega
      have z35 : w2.heap.size < w3.heap.size := by omega
      go_wp2_with fail
      refine bodyPost_ret (v := .tuple #[.agg #[.int .i64 0, .int .i64 0, .int .i64 0, .int .i64 0], .int .i64 2]) (by simp [results, Try.results26, go_sem, hc1, hc2, hc3, z12, z21, z22]) rfl ⟨rfl, ?_⟩
      repeat (first | exact Below.refl _ _ | refine Bl.alloc ?_ _ | refine Bl.setCell ?_ (by simp; try omega) _ | refine Bl.drew ?_ | refine Bl.drewN ?_ _ | refine Bl.call ?_ (by assumption))
    · have hF : (s, er) = (⟨b + b', l + l', h + h', r⟩, 0) := by rw [hres.out]; simp [addF, Pn.ok, Pn.sum, hp.out, hq.out, hr, hk]
      obtain ⟨rfl, rfl⟩ := Prod.mk.injEq .. ▸ hF
      refine (rcheck_ok _ _ _ _ _ (hid hk)).mono ?_
      clear hk hF
      rintro e w3 ⟨rfl, hb3⟩; obtain ⟨hc3, hf3⟩ := bcell hb3; have z3 := hb3.size; try simp only [World.size_alloc] at z3
      have z30 : w.heap.size < w3.heap.size := by omega
      have z31 : w.heap.size + 1 < w3.heap.size := by omega
      have z32 : w.heap.size + 1 + 1 < w3.heap.size := by omega
      have z35 : w2.heap.size < w3.heap.size := by omega
      go_wp2_with fail
      refine bodyPost_ret (v := .tuple #[.agg #[.int .i64 (b + b'), .int .i64 (l + l'), .int .i64 (h + h'), .int .i64 r], .int .i64 0]) (by simp [results, Try.results26, go_sem, hc1, hc2, hc3, z12, z21, z22]) rfl ⟨rfl, ?_⟩
      repeat (first | exact Below.refl _ _ | refine Bl.alloc ?_ _ | refine Bl.setCell ?_ (by simp; try omega) _ | refine Bl.drew ?_ | refine Bl.drewN ?_ _ | refine Bl.call ?_ (by assumption))

theorem radd_any (b l h r b' l' h' r' : Int) (w : World) :
    Calls Try.prog 26 #[.agg #[.int .i64 b, .int .i64 l, .int .i64 h, .int .i64 r], .agg #[.int .i64 b', .int .i64 l', .int .i64 h', .int .i64 r']] w (RetPen (addF ⟨b, l, h, r⟩ ⟨b', l', h', r'⟩) w) := by
  cases hp : penOk b l h r
  · rw [addF_bad1 (p := ⟨b, l, h, r⟩) hp]; exact radd_bad1 b l h r b' l' h' r' w hp
  · cases hq : penOk b' l' h' r'
    · rw [addF_bad2 (q := ⟨b', l', h', r'⟩) hq]; exact radd_bad2 b l h r b' l' h' r' w hp hq
    · exact radd_both b l h r b' l' h' r' w hp hq _ _ rfl
end Go.Proofs.Ytdopgaljbpjpcaa
