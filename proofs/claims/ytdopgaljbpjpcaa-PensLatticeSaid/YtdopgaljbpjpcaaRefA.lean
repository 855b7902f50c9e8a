/- aneroidref03: both, nothing, from, end, after, ahead. -/
import Derived.Test.YtdopgaljbpjpcaaLawTools
import Derived.Deep.RegionHeld3
import Derived.Deep.DeepCutAuto
namespace Go.Proofs.Ytdopgaljbpjpcaa
open Go.RowKit

def bothF (a c : Int × Int) : Int × Int := (max a.1 c.1, min a.2 c.2)
def fromF (b r c : Int) : Int × Int := if 0 < c then bothF (c + b - r, b) (-b, b) else bothF (-b, c - b + r) (-b, b)
def endF (b c : Int) : Int × Int := if 0 < c then (b, b) else (-b, -b)
def afterF (b r : Int) (s : Int × Int) (c : Int) : Int × Int :=
  if s.2 < s.1 then (1, 0) else if c = 0 then bothF (s.1 - r, s.2 + r) (-b, b) else if (bothF s (fromF b r c)).2 < (bothF s (fromF b r c)).1 then (1, 0) else endF b c
def aheadF (b r : Int) (s : Int × Int) (c : Int) : Int × Int :=
  if s.2 < s.1 then (1, 0) else if c = 0 then (s.1 - r, s.2 + r) else if (bothF s (endF b c)).2 < (bothF s (endF b c)).1 then (1, 0) else fromF b r c
def RetS (s : Int × Int) (w : World) (e : Ending) (w' : World) : Prop := e = .returned (.agg #[.int .i64 s.1, .int .i64 s.2]) ∧ Below w.heap.size w w'

set_option maxHeartbeats 400000 in
theorem both_any (a1 a2 c1 c2 : Int) (w : World) : Calls Try.prog 92 #[.agg #[.int .i64 a1, .int .i64 a2], .agg #[.int .i64 c1, .int .i64 c2]] w (RetS (max a1 c1, min a2 c2) w) := by
  go_enter Try.func92, Try.ntmps92
  go_wp2
  refine bodyPost_ret (v := .agg #[.int .i64 (max a1 c1), .int .i64 (min a2 c2)]) (by simp [results, Try.results92, go_sem]) rfl ⟨rfl, ?_⟩
  repeat (first | exact Below.refl _ _ | refine Bl.alloc ?_ _ | refine Bl.setCell ?_ (by simp; try omega) _ | refine Bl.drew ?_ | refine Bl.drewN ?_ _ | refine Bl.call ?_ (by assumption))
set_option maxHeartbeats 400000 in
theorem nothing_any (w : World) : Calls Try.prog 115 #[] w (RetS (1, 0) w) := by
  go_enter Try.func115, Try.ntmps115
  go_wp2
  refine bodyPost_ret (v := .agg #[.int .i64 1, .int .i64 0]) (by simp [results, Try.results115, go_sem]) rfl ⟨rfl, ?_⟩
  repeat (first | exact Below.refl _ _ | refine Bl.alloc ?_ _ | refine Bl.setCell ?_ (by simp; try omega) _ | refine Bl.drew ?_ | refine Bl.drewN ?_ _ | refine Bl.call ?_ (by assumption))
set_option maxHeartbeats 400000 in
theorem end_any (b l h r c : Int) (w : World) (hb : 0 ≤ b) (hb8 : b ≤ 8) : Calls Try.prog 117 #[.agg #[.int .i64 b, .int .i64 l, .int .i64 h, .int .i64 r], .int .i64 c] w (RetS (endF b c) w) := by
  unfold endF
  by_cases hc : 0 < c
  · rw [if_pos hc]
    go_enter Try.func117, Try.ntmps117
    go_wp2
    refine bodyPost_ret (v := .agg #[.int .i64 b, .int .i64 b]) (by simp [results, Try.results117, go_sem]) rfl ⟨rfl, ?_⟩
    repeat (first | exact Below.refl _ _ | refine Bl.alloc ?_ _ | refine Bl.setCell ?_ (by simp; try omega) _ | refine Bl.drew ?_ | refine Bl.drewN ?_ _ | refine Bl.call ?_ (by assumption))
  · rw [if_neg hc]
    go_enter Try.func117, Try.ntmps117
    go_wp2
    refine bodyPost_ret (v := .agg #[.int .i64 (-b), .int .i64 (-b)]) (by simp [results, Try.results117, go_sem]) rfl ⟨rfl, ?_⟩
    repeat (first | exact Below.refl _ _ | refine Bl.alloc ?_ _ | refine Bl.setCell ?_ (by simp; try omega) _ | refine Bl.drew ?_ | refine Bl.drewN ?_ _ | refine Bl.call ?_ (by assumption))
/-- Block B is a variable that holds a span. -/
def Rbx (B : Nat) (x y : Int) (W : World) : Prop :=
  W.cell? ⟨B, 0, none⟩ = some (.int .i64 x) ∧ W.cell? ⟨B, 1, none⟩ = some (.int .i64 y) ∧ W.frozen? ⟨B, 0, none⟩ = false ∧ W.frozen? ⟨B, 1, none⟩ = false ∧ B < W.heap.size
theorem Rbx.next {B : Nat} {x y : Int} {W W' : World} (hp : Rbx B x y W) (hb : Below W.heap.size W W') : Rbx B x y W' := by
  obtain ⟨h0, h1, h2, h3, h4⟩ := hp
  have := hb.size
  exact ⟨(hb.cell (p := ⟨B, 0, none⟩) h4).trans h0, (hb.cell (p := ⟨B, 1, none⟩) h4).trans h1, (hb.frozen (p := ⟨B, 0, none⟩) h4).trans h2, (hb.frozen (p := ⟨B, 1, none⟩) h4).trans h3, by omega⟩
theorem Rbx.new (B : Nat) (x y : Int) (W : World) (t : TypeId) (hB : W.heap.size = B) : Rbx B x y (W.alloc (.cells #[.int .i64 x, .int .i64 y] t)) := by
  subst hB
  exact ⟨cell_last rfl, cell_last rfl, frozen_new _ _ _ _, frozen_new _ _ _ _, by simp⟩
theorem Rbx.set {B : Nat} {x y : Int} {W : World} (h : Rbx B x y W) (u v : Int) : Rbx B u v ((W.setCell ⟨B, 0, none⟩ (.int .i64 u)).setCell ⟨B, 1, none⟩ (.int .i64 v)) := by
  obtain ⟨h0, h1, h2, h3, h4⟩ := h
  exact ⟨set2a h0, set2b h1, set2f.trans h2, set2f.trans h3, by rw [set2s]; exact h4⟩
theorem read_set {B : Nat} {x y : Int} {W : World} (h : Rbx B x y W) (u v : Value) : (W.setCell ⟨B, 0, none⟩ u).cell? ⟨B, 0, none⟩ = some u ∧ ((W.setCell ⟨B, 0, none⟩ u).setCell ⟨B, 1, none⟩ v).cell? ⟨B, 1, none⟩ = some v :=
  ⟨World.cell?_setCell_same _ _ _ h.1, set2b h.2.1⟩
set_option maxHeartbeats 800000 in
theorem from_any (b l h r c : Int) (w : World) (hb : 0 ≤ b) (hb8 : b ≤ 8) (hr : 0 ≤ r) (hr2 : r ≤ 12000) (hc1 : -200000 ≤ c) (hc2 : c ≤ 200000) :
    Calls Try.prog 116 #[.agg #[.int .i64 b, .int .i64 l, .int .i64 h, .int .i64 r], .int .i64 c] w (RetS (fromF b r c) w) := by
  unfold fromF bothF
  by_cases hc : 0 < c
  · rw [if_pos hc]
    simp only [Int.min_self]
    go_enter Try.func116, Try.ntmps116
    go_wp2_with fail
    refine (both_any _ _ _ _ _).mono ?_
    rintro e w1 ⟨rfl, hb1⟩
    have R1 := hid ((Rbx.new (w.heap.size + 1) 0 0 (w.alloc (.cells #[.int .i64 b, .int .i64 l, .int .i64 h, .int .i64 r] 25)) 23 (by simp)).next hb1)
    obtain ⟨g0, g1, g2, g3, g4⟩ := R1.out
    obtain ⟨k0, k1⟩ := read_set R1.out (.int .i64 (max (c + b - r) (-b))) (.int .i64 b)
    simp only [Int.min_self]
    go_wp2_with fail
    refine bodyPost_ret (v := .agg #[.int .i64 (max (c + b - r) (-b)), .int .i64 b]) (by simp [results, Try.results116, go_sem, k0, k1]) rfl ⟨rfl, ?_⟩
    exact Bl.set2 (Bl.call (Bl.alloc (Bl.alloc (Below.refl _ _) _) _) hb1) (by omega) _ _
  · rw [if_neg hc]
    simp only [Int.max_self]
    go_enter Try.func116, Try.ntmps116
    go_wp2_with fail
    refine (both_any _ _ _ _ _).mono ?_
    rintro e w1 ⟨rfl, hb1⟩
    have R1 := hid ((Rbx.new (w.heap.size + 1) 0 0 (w.alloc (.cells #[.int .i64 b, .int .i64 l, .int .i64 h, .int .i64 r] 25)) 23 (by simp)).next hb1)
    obtain ⟨g0, g1, g2, g3, g4⟩ := R1.out
    obtain ⟨k0, k1⟩ := read_set R1.out (.int .i64 (-b)) (.int .i64 (min (c - b + r) b))
    simp only [Int.max_self]
    go_wp2_with fail
    refine bodyPost_ret (v := .agg #[.int .i64 (-b), .int .i64 (min (c - b + r) b)]) (by simp [results, Try.results116, go_sem, k0, k1]) rfl ⟨rfl, ?_⟩
    exact Bl.set2 (Bl.call (Bl.alloc (Bl.alloc (Below.refl _ _) _) _) hb1) (by omega) _ _

theorem Rbx.alloc {B : Nat} {x y : Int} {W : World} (h : Rbx B x y W) (o : Obj) : Rbx B x y (W.alloc o) := h.next (Bl.alloc (Below.refl _ _) _)
theorem Pbx.alloc {B : Nat} {b l h r : Int} {W : World} (hp : Pbx B b l h r W) (o : Obj) : Pbx B b l h r (W.alloc o) := hp.next (Bl.alloc (Below.refl _ _) _)
theorem Pbx.set2 {B g : Nat} {b l h r : Int} {W : World} (hp : Pbx B b l h r W) (hne : B ≠ g) (u v : Value) : Pbx B b l h r ((W.setCell ⟨g, 0, none⟩ u).setCell ⟨g, 1, none⟩ v) := by
  obtain ⟨h0, h1, h2, h3, h4⟩ := hp
  exact ⟨(set2o (by simpa using hne)).trans h0, (set2o (by simpa using hne)).trans h1, (set2o (by simpa using hne)).trans h2, (set2o (by simpa using hne)).trans h3, by rw [set2s]; exact h4⟩
theorem Rbx.set2 {B g : Nat} {x y : Int} {W : World} (hp : Rbx B x y W) (hne : B ≠ g) (u v : Value) : Rbx B x y ((W.setCell ⟨g, 0, none⟩ u).setCell ⟨g, 1, none⟩ v) := by
  obtain ⟨h0, h1, h2, h3, h4⟩ := hp
  exact ⟨(set2o (by simpa using hne)).trans h0, (set2o (by simpa using hne)).trans h1, set2f.trans h2, set2f.trans h3, by rw [set2s]; exact h4⟩
theorem RetS.of {s s' : Int × Int} (h : s = s') {w : World} {e : Ending} {w' : World} (k : RetS s w e w') : RetS s' w e w' := h ▸ k
theorem bl_alloc3 {w W : World} {o1 o2 o3 : Obj} (h : Below (((w.alloc o1).alloc o2).alloc o3).heap.size (((w.alloc o1).alloc o2).alloc o3) W) : Below w.heap.size w W := bl1 (bl1 (bl1 h))

set_option maxRecDepth 20000 in
set_option maxHeartbeats 2000000 in
theorem after_none (b l h r s1 s2 c : Int) (w : World) (hs : s2 < s1) : Calls Try.prog 109 #[.agg #[.int .i64 b, .int .i64 l, .int .i64 h, .int .i64 r], .agg #[.int .i64 s1, .int .i64 s2], .int .i64 c] w (RetS (1, 0) w) := by
  have g1 : decide (s2 < s1) = true := by simpa using hs
  go_enter Try.func109, Try.ntmps109
  go_wp2_with fail
  refine (nothing_any _).mono ?_
  rintro e w1 ⟨rfl, hb1⟩
  have R1 := hid ((Rbx.new (w.heap.size + 1 + 1) 0 0 ((w.alloc (.cells #[.int .i64 b, .int .i64 l, .int .i64 h, .int .i64 r] 25)).alloc (.cells #[.int .i64 s1, .int .i64 s2] 23)) 23 (by simp)).next hb1)
  obtain ⟨g0, g1, g2, g3, g4⟩ := R1.out
  obtain ⟨k0, k1⟩ := read_set R1.out (.int .i64 1) (.int .i64 0)
  go_wp2_with fail
  refine bodyPost_ret (v := .agg #[.int .i64 1, .int .i64 0]) (by simp [results, Try.results109, go_sem, k0, k1]) rfl ⟨rfl, ?_⟩
  exact Bl.set2 (bl_alloc3 hb1) (by omega) _ _
set_option maxRecDepth 20000 in
set_option maxHeartbeats 2000000 in
theorem after_same (b l h r s1 s2 : Int) (w : World) (hs : ¬ s2 < s1) (hb : 0 ≤ b) (hb8 : b ≤ 8) (hr : 0 ≤ r) (hr2 : r ≤ 12000) (h1 : -200000 ≤ s1 ∧ s1 ≤ 200000) (h2 : -200000 ≤ s2 ∧ s2 ≤ 200000) :
    Calls Try.prog 109 #[.agg #[.int .i64 b, .int .i64 l, .int .i64 h, .int .i64 r], .agg #[.int .i64 s1, .int .i64 s2], .int .i64 0] w (RetS (max (s1 - r) (-b), min (s2 + r) b) w) := by
  have g1 : decide (s2 < s1) = false := by simpa using hs
  go_enter Try.func109, Try.ntmps109
  go_wp2_with fail
  refine (both_any _ _ _ _ _).mono ?_
  rintro e w1 ⟨rfl, hb1⟩
  have R1 := hid ((Rbx.new (w.heap.size + 1 + 1) 0 0 ((w.alloc (.cells #[.int .i64 b, .int .i64 l, .int .i64 h, .int .i64 r] 25)).alloc (.cells #[.int .i64 s1, .int .i64 s2] 23)) 23 (by simp)).next hb1)
  obtain ⟨g0, g1, g2, g3, g4⟩ := R1.out
  obtain ⟨k0, k1⟩ := read_set R1.out (.int .i64 (max (s1 - r) (-b))) (.int .i64 (min (s2 + r) b))
  go_wp2_with fail
  refine bodyPost_ret (v := .agg #[.int .i64 (max (s1 - r) (-b)), .int .i64 (min (s2 + r) b)]) (by simp [results, Try.results109, go_sem, k0, k1]) rfl ⟨rfl, ?_⟩
  exact Bl.set2 (bl_alloc3 hb1) (by omega) _ _

set_option maxRecDepth 20000 in
set_option maxHeartbeats 4000000 in
theorem after_move (b l h r s1 s2 c f1 f2 : Int) (w : World) (hs : ¬ s2 < s1) (hc : Hid ((c == 0) = false)) (hb : 0 ≤ b) (hb8 : b ≤ 8) (hr : 0 ≤ r) (hr2 : r ≤ 12000) (hc1 : -200000 ≤ c) (hc2 : c ≤ 200000) (hf : Hid (fromF b r c = (f1, f2)))
    (v : Int × Int) (hv : Hid ((min s2 f2 < max s1 f1 → v = (1, 0)) ∧ (¬ min s2 f2 < max s1 f1 → v = endF b c))) :
    Calls Try.prog 109 #[.agg #[.int .i64 b, .int .i64 l, .int .i64 h, .int .i64 r], .agg #[.int .i64 s1, .int .i64 s2], .int .i64 c] w (RetS v w) := by
  have g1 : decide (s2 < s1) = false := by simpa using hs
  have g2 := hc.out
  obtain ⟨W0, hW0⟩ : ∃ W0, ((w.alloc (.cells #[.int .i64 b, .int .i64 l, .int .i64 h, .int .i64 r] 25)).alloc (.cells #[.int .i64 s1, .int .i64 s2] 23)).alloc (.cells #[.int .i64 0, .int .i64 0] 23) = W0 := ⟨_, rfl⟩
  have P0 : Hid (Pbx w.heap.size b l h r W0) := by rw [← hW0]; exact ((Pbx.new _ b l h r w 25 rfl).alloc _).alloc _
  have S0 : Hid (Rbx (w.heap.size + 1) s1 s2 W0) := by rw [← hW0]; exact (Rbx.new _ s1 s2 _ 23 (by simp)).alloc _
  have Z0 : Hid (Rbx (w.heap.size + 1 + 1) 0 0 W0) := by rw [← hW0]; exact Rbx.new _ 0 0 _ 23 (by simp)
  have B0 : Hid (Below w.heap.size w W0) := by rw [← hW0]; exact Bl.alloc (Bl.alloc (Bl.alloc (Below.refl _ _) _) _) _
  have hfc : ∀ W, Calls Try.prog 116 #[.agg #[.int .i64 b, .int .i64 l, .int .i64 h, .int .i64 r], .int .i64 c] W (RetS (f1, f2) W) := fun W => by rw [← hf.out]; exact from_any b l h r c W hb hb8 hr hr2 hc1 hc2
  have HFC := hid hfc; clear hfc
  have HW0 := hid hW0; clear hW0
  go_enter Try.func109, Try.ntmps109
  go_upto_region 5 with fail
  rw [HW0.out]
  clear HW0 hc hs g1 g2
  go_cut [7] (fun s7 wx => ∃ g : Nat, s7 = .pointer (some ⟨g, 0, none⟩) ∧ Rbx g (max s1 f1) (min s2 f2) wx ∧ Pbx w.heap.size b l h r wx ∧ Rbx (w.heap.size + 1 + 1) 0 0 wx ∧ Below w.heap.size w wx)
  case first =>
    obtain ⟨p0, p1, p2, p3, p4⟩ := P0.out
    obtain ⟨q0, q1, q2, q3, q4⟩ := S0.out
    have n3 : ¬ w.heap.size + 1 = W0.heap.size := by omega
    have n4 : ¬ w.heap.size = W0.heap.size := by omega
    go_region_held3 (fun w' => (w'.cell? ⟨w.heap.size + 1, 0, none⟩ = some (.int .i64 s1) ∧ w'.cell? ⟨w.heap.size + 1, 1, none⟩ = some (.int .i64 s2)) ∧ w'.cell? ⟨w.heap.size, 0, none⟩ = some (.int .i64 b) ∧ w'.cell? ⟨w.heap.size, 1, none⟩ = some (.int .i64 l) ∧ w'.cell? ⟨w.heap.size, 2, none⟩ = some (.int .i64 h) ∧ w'.cell? ⟨w.heap.size, 3, none⟩ = some (.int .i64 r)) (first | go_keep | (refine ⟨⟨?_, ?_⟩, ?_, ?_, ?_, ?_⟩ <;> (refine (set2o ?_).trans ?_ <;> (first | assumption | omega | (simp; omega)))))
      (first
        | (go_at_call 116; refine (HFC.out _).mono ?_; rintro e wa ⟨rfl, hba⟩
           have HPa := hid (Pbx.next (by first | exact P0.out | exact Pbx.alloc (W := W0.drew) P0.out _) hba)
           have HSa := hid (Rbx.next (by first | exact S0.out | exact Rbx.alloc (W := W0.drew) S0.out _) hba)
           have HZa := hid (Rbx.next (by first | exact Z0.out | exact Rbx.alloc (W := W0.drew) Z0.out _) hba)
           have HBa := hid (Bl.call (by first | exact Bl.drew B0.out | exact Bl.alloc (Bl.drew B0.out) _) hba)
           try have HXa := hid (Rbx.next (Rbx.new W0.heap.size 0 0 W0.drew 23 rfl) hba)
           clear hba
           obtain ⟨x0, x1, x2, x3, x4⟩ := HPa.out
           obtain ⟨y0, y1, y2, y3, y4⟩ := HSa.out
           have n1 : ¬ w.heap.size + 1 = wa.heap.size := by omega
           have n2 : ¬ w.heap.size = wa.heap.size := by omega)
        | (go_at_call 92; refine (both_any _ _ _ _ _).mono ?_; rintro e wb ⟨rfl, hbb⟩
           have HPb := hid (Pbx.next (by first | exact HPa.out | exact Pbx.alloc HPa.out _) hbb)
           have HSb := hid (Rbx.next (by first | exact HSa.out | exact Rbx.alloc HSa.out _) hbb)
           have HZb := hid (Rbx.next (by first | exact HZa.out | exact Rbx.alloc HZa.out _) hbb)
           have HBb := hid (Bl.call (by first | exact HBa.out | exact Bl.alloc HBa.out _) hbb)
           first | have HXb := hid (Rbx.next (HXa.out) hbb) | have HXb := hid (Rbx.next (Rbx.new wa.heap.size 0 0 wa 23 rfl) hbb) | skip
           clear hbb x0 x1 x2 x3 x4 y0 y1 y2 y3 y4
           obtain ⟨x0, x1, x2, x3, x4⟩ := HPb.out
           obtain ⟨y0, y1, y2, y3, y4⟩ := HSb.out
           try obtain ⟨z0, z1, z2, z3, z4⟩ := HXb.out))
    all_goals
      go_wp2_with fail
      go_meet
      first
        | exact ⟨wb.heap.size, rfl, Rbx.new _ _ _ wb 23 rfl, HPb.out.alloc _, HZb.out.alloc _, Bl.alloc HBb.out _⟩
        | exact ⟨wa.heap.size, rfl, Rbx.set HXb.out _ _, HPb.out.set2 n2 _ _, HZb.out.set2 (by have := HZa.out.2.2.2.2; omega) _ _, Bl.set2 HBb.out (by have := HPa.out.2.2.2.2; omega) _ _⟩
        | exact ⟨W0.heap.size, rfl, Rbx.set HXb.out _ _, HPb.out.set2 n4 _ _, HZb.out.set2 (by have := Z0.out.2.2.2.2; omega) _ _, Bl.set2 HBb.out (by have := P0.out.2.2.2.2; omega) _ _⟩
  case rest =>
    obtain ⟨g, rfl, G, P1, Z1, B1⟩ := hcut
    have HP1 := hid P1; have HZ1 := hid Z1; have HB1 := hid B1
    clear P1 Z1 B1
    obtain ⟨x0, x1, x2, x3, x4⟩ := G
    by_cases hlt : min s2 f2 < max s1 f1
    · have hv1 := hid (hv.out.1 hlt)
      have g1 : decide (min s2 f2 < max s1 f1) = true := by simpa using hlt
      clear hlt
      go_wp2_with fail
      refine (nothing_any _).mono ?_
      rintro e w1 ⟨rfl, hb1⟩
      have Z2 := hid (HZ1.out.next hb1)
      have B2 := hid (Bl.call HB1.out hb1)
      clear x0 x1 x2 x3 x4 hb1
      obtain ⟨g0, g1, g2, g3, g4⟩ := Z2.out
      obtain ⟨k0, k1⟩ := read_set Z2.out (.int .i64 1) (.int .i64 0)
      go_wp2_with fail
      refine bodyPost_ret (v := .agg #[.int .i64 1, .int .i64 0]) (by simp [results, Try.results109, go_sem, k0, k1]) rfl ⟨by rw [hv1.out], ?_⟩
      exact Bl.set2 B2.out (by omega) _ _
    · have hv1 := hid (hv.out.2 hlt)
      have g1 : decide (min s2 f2 < max s1 f1) = false := by simpa using hlt
      clear hlt
      obtain ⟨p0, p1, p2, p3, p4⟩ := HP1.out
      go_wp2_with fail
      refine (end_any _ _ _ _ _ _ hb hb8).mono ?_
      rintro e w1 ⟨rfl, hb1⟩
      have Z2 := hid (HZ1.out.next hb1)
      have B2 := hid (Bl.call HB1.out hb1)
      clear x0 x1 x2 x3 x4 hb1 p0 p1 p2 p3 p4
      obtain ⟨g0, g1, g2, g3, g4⟩ := Z2.out
      obtain ⟨k0, k1⟩ := read_set Z2.out (.int .i64 (endF b c).1) (.int .i64 (endF b c).2)
      go_wp2_with fail
      refine bodyPost_ret (v := .agg #[.int .i64 (endF b c).1, .int .i64 (endF b c).2]) (by simp [results, Try.results109, go_sem, k0, k1]) rfl ⟨by rw [hv1.out], ?_⟩
      exact Bl.set2 B2.out (by omega) _ _
theorem after_any (b l h r s1 s2 c : Int) (w : World) (hb : 0 ≤ b) (hb8 : b ≤ 8) (hr : 0 ≤ r) (hr2 : r ≤ 12000) (hc1 : -200000 ≤ c) (hc2 : c ≤ 200000) (h1 : -200000 ≤ s1 ∧ s1 ≤ 200000) (h2 : -200000 ≤ s2 ∧ s2 ≤ 200000) :
    Calls Try.prog 109 #[.agg #[.int .i64 b, .int .i64 l, .int .i64 h, .int .i64 r], .agg #[.int .i64 s1, .int .i64 s2], .int .i64 c] w (RetS (afterF b r (s1, s2) c) w) := by
  unfold afterF
  by_cases hs : s2 < s1
  · rw [if_pos hs]; exact after_none b l h r s1 s2 c w hs
  · rw [if_neg hs]
    by_cases hc : c = 0
    · rw [if_pos hc]; subst hc; exact after_same b l h r s1 s2 w hs hb hb8 hr hr2 h1 h2
    · rw [if_neg hc]
      refine after_move b l h r s1 s2 c (fromF b r c).1 (fromF b r c).2 w hs (hid (by simpa using hc)) hb hb8 hr hr2 hc1 hc2 (hid rfl) _ (hid ⟨fun hlt => ?_, fun hlt => ?_⟩)
      · rw [if_pos (by simpa [bothF] using hlt)]
      · rw [if_neg (by simpa [bothF] using hlt)]

set_option maxRecDepth 20000 in
set_option maxHeartbeats 2000000 in
theorem ahead_none (b l h r s1 s2 c : Int) (w : World) (hs : s2 < s1) : Calls Try.prog 110 #[.agg #[.int .i64 b, .int .i64 l, .int .i64 h, .int .i64 r], .agg #[.int .i64 s1, .int .i64 s2], .int .i64 c] w (RetS (1, 0) w) := by
  have g1 : decide (s2 < s1) = true := by simpa using hs
  go_enter Try.func110, Try.ntmps110
  go_wp2_with fail
  refine (nothing_any _).mono ?_
  rintro e w1 ⟨rfl, hb1⟩
  have R1 := hid ((Rbx.new (w.heap.size + 1 + 1) 0 0 ((w.alloc (.cells #[.int .i64 b, .int .i64 l, .int .i64 h, .int .i64 r] 25)).alloc (.cells #[.int .i64 s1, .int .i64 s2] 23)) 23 (by simp)).next hb1)
  obtain ⟨g0, g1, g2, g3, g4⟩ := R1.out
  obtain ⟨k0, k1⟩ := read_set R1.out (.int .i64 1) (.int .i64 0)
  go_wp2_with fail
  refine bodyPost_ret (v := .agg #[.int .i64 1, .int .i64 0]) (by simp [results, Try.results110, go_sem, k0, k1]) rfl ⟨rfl, ?_⟩
  exact Bl.set2 (bl_alloc3 hb1) (by omega) _ _
set_option maxRecDepth 20000 in
set_option maxHeartbeats 2000000 in
theorem ahead_same (b l h r s1 s2 : Int) (w : World) (hs : ¬ s2 < s1) (hr : 0 ≤ r) (hr2 : r ≤ 12000) (h1 : -200000 ≤ s1 ∧ s1 ≤ 200000) (h2 : -200000 ≤ s2 ∧ s2 ≤ 200000) :
    Calls Try.prog 110 #[.agg #[.int .i64 b, .int .i64 l, .int .i64 h, .int .i64 r], .agg #[.int .i64 s1, .int .i64 s2], .int .i64 0] w (RetS (s1 - r, s2 + r) w) := by
  have g1 : decide (s2 < s1) = false := by simpa using hs
  go_enter Try.func110, Try.ntmps110
  go_wp2_with fail
  refine bodyPost_ret (v := .agg #[.int .i64 (s1 - r), .int .i64 (s2 + r)]) (by simp [results, Try.results110, go_sem]) rfl ⟨rfl, ?_⟩
  repeat (first | exact Below.refl _ _ | refine Bl.alloc ?_ _ | refine Bl.setCell ?_ (by simp; try omega) _ | refine Bl.drew ?_ | refine Bl.drewN ?_ _ | refine Bl.call ?_ (by assumption))

set_option maxRecDepth 20000 in
set_option maxHeartbeats 4000000 in
theorem ahead_move (b l h r s1 s2 c f1 f2 : Int) (w : World) (hs : ¬ s2 < s1) (hc : Hid ((c == 0) = false)) (hb : 0 ≤ b) (hb8 : b ≤ 8) (hr : 0 ≤ r) (hr2 : r ≤ 12000) (hc1 : -200000 ≤ c) (hc2 : c ≤ 200000) (hf : Hid (endF b c = (f1, f2)))
    (v : Int × Int) (hv : Hid ((min s2 f2 < max s1 f1 → v = (1, 0)) ∧ (¬ min s2 f2 < max s1 f1 → v = fromF b r c))) :
    Calls Try.prog 110 #[.agg #[.int .i64 b, .int .i64 l, .int .i64 h, .int .i64 r], .agg #[.int .i64 s1, .int .i64 s2], .int .i64 c] w (RetS v w) := by
  have g1 : decide (s2 < s1) = false := by simpa using hs
  have g2 := hc.out
  obtain ⟨W0, hW0⟩ : ∃ W0, ((w.alloc (.cells #[.int .i64 b, .int .i64 l, .int .i64 h, .int .i64 r] 25)).alloc (.cells #[.int .i64 s1, .int .i64 s2] 23)).alloc (.cells #[.int .i64 0, .int .i64 0] 23) = W0 := ⟨_, rfl⟩
  have P0 : Hid (Pbx w.heap.size b l h r W0) := by rw [← hW0]; exact ((Pbx.new _ b l h r w 25 rfl).alloc _).alloc _
  have S0 : Hid (Rbx (w.heap.size + 1) s1 s2 W0) := by rw [← hW0]; exact (Rbx.new _ s1 s2 _ 23 (by simp)).alloc _
  have Z0 : Hid (Rbx (w.heap.size + 1 + 1) 0 0 W0) := by rw [← hW0]; exact Rbx.new _ 0 0 _ 23 (by simp)
  have B0 : Hid (Below w.heap.size w W0) := by rw [← hW0]; exact Bl.alloc (Bl.alloc (Bl.alloc (Below.refl _ _) _) _) _
  have hfc : ∀ W, Calls Try.prog 117 #[.agg #[.int .i64 b, .int .i64 l, .int .i64 h, .int .i64 r], .int .i64 c] W (RetS (f1, f2) W) := fun W => by rw [← hf.out]; exact end_any b l h r c W hb hb8
  have HFC := hid hfc; clear hfc
  have HW0 := hid hW0; clear hW0
  go_enter Try.func110, Try.ntmps110
  go_upto_region 5 with fail
  rw [HW0.out]
  clear HW0 hc hs g1 g2
  go_cut [7] (fun s7 wx => ∃ g : Nat, s7 = .pointer (some ⟨g, 0, none⟩) ∧ Rbx g (max s1 f1) (min s2 f2) wx ∧ Pbx w.heap.size b l h r wx ∧ Rbx (w.heap.size + 1 + 1) 0 0 wx ∧ Below w.heap.size w wx)
  case first =>
    obtain ⟨p0, p1, p2, p3, p4⟩ := P0.out
    obtain ⟨q0, q1, q2, q3, q4⟩ := S0.out
    have n3 : ¬ w.heap.size + 1 = W0.heap.size := by omega
    have n4 : ¬ w.heap.size = W0.heap.size := by omega
    go_region_held3 (fun w' => (w'.cell? ⟨w.heap.size + 1, 0, none⟩ = some (.int .i64 s1) ∧ w'.cell? ⟨w.heap.size + 1, 1, none⟩ = some (.int .i64 s2)) ∧ w'.cell? ⟨w.heap.size, 0, none⟩ = some (.int .i64 b) ∧ w'.cell? ⟨w.heap.size, 1, none⟩ = some (.int .i64 l) ∧ w'.cell? ⟨w.heap.size, 2, none⟩ = some (.int .i64 h) ∧ w'.cell? ⟨w.heap.size, 3, none⟩ = some (.int .i64 r)) (first | go_keep | (refine ⟨⟨?_, ?_⟩, ?_, ?_, ?_, ?_⟩ <;> (refine (set2o ?_).trans ?_ <;> (first | assumption | omega | (simp; omega)))))
      (first
        | (go_at_call 117; refine (HFC.out _).mono ?_; rintro e wa ⟨rfl, hba⟩
           have HPa := hid (Pbx.next (by first | exact P0.out | exact Pbx.alloc (W := W0.drew) P0.out _) hba)
           have HSa := hid (Rbx.next (by first | exact S0.out | exact Rbx.alloc (W := W0.drew) S0.out _) hba)
           have HZa := hid (Rbx.next (by first | exact Z0.out | exact Rbx.alloc (W := W0.drew) Z0.out _) hba)
           have HBa := hid (Bl.call (by first | exact Bl.drew B0.out | exact Bl.alloc (Bl.drew B0.out) _) hba)
           try have HXa := hid (Rbx.next (Rbx.new W0.heap.size 0 0 W0.drew 23 rfl) hba)
           clear hba
           obtain ⟨x0, x1, x2, x3, x4⟩ := HPa.out
           obtain ⟨y0, y1, y2, y3, y4⟩ := HSa.out
           have n1 : ¬ w.heap.size + 1 = wa.heap.size := by omega
           have n2 : ¬ w.heap.size = wa.heap.size := by omega)
        | (go_at_call 92; refine (both_any _ _ _ _ _).mono ?_; rintro e wb ⟨rfl, hbb⟩
           have HPb := hid (Pbx.next (by first | exact HPa.out | exact Pbx.alloc HPa.out _) hbb)
           have HSb := hid (Rbx.next (by first | exact HSa.out | exact Rbx.alloc HSa.out _) hbb)
           have HZb := hid (Rbx.next (by first | exact HZa.out | exact Rbx.alloc HZa.out _) hbb)
           have HBb := hid (Bl.call (by first | exact HBa.out | exact Bl.alloc HBa.out _) hbb)
           first | have HXb := hid (Rbx.next (HXa.out) hbb) | have HXb := hid (Rbx.next (Rbx.new wa.heap.size 0 0 wa 23 rfl) hbb) | skip
           clear hbb x0 x1 x2 x3 x4 y0 y1 y2 y3 y4
           obtain ⟨x0, x1, x2, x3, x4⟩ := HPb.out
           obtain ⟨y0, y1, y2, y3, y4⟩ := HSb.out
           try obtain ⟨z0, z1, z2, z3, z4⟩ := HXb.out))
    all_goals
      go_wp2_with fail
      go_meet
      first
        | exact ⟨wb.heap.size, rfl, Rbx.new _ _ _ wb 23 rfl, HPb.out.alloc _, HZb.out.alloc _, Bl.alloc HBb.out _⟩
        | exact ⟨wa.heap.size, rfl, Rbx.set HXb.out _ _, HPb.out.set2 n2 _ _, HZb.out.set2 (by have := HZa.out.2.2.2.2; omega) _ _, Bl.set2 HBb.out (by have := HPa.out.2.2.2.2; omega) _ _⟩
        | exact ⟨W0.heap.size, rfl, Rbx.set HXb.out _ _, HPb.out.set2 n4 _ _, HZb.out.set2 (by have := Z0.out.2.2.2.2; omega) _ _, Bl.set2 HBb.out (by have := P0.out.2.2.2.2; omega) _ _⟩
  case rest =>
    obtain ⟨g, rfl, G, P1, Z1, B1⟩ := hcut
    have HP1 := hid P1; have HZ1 := hid Z1; have HB1 := hid B1
    clear P1 Z1 B1
    obtain ⟨x0, x1, x2, x3, x4⟩ := G
    by_cases hlt : min s2 f2 < max s1 f1
    · have hv1 := hid (hv.out.1 hlt)
      have g1 : decide (min s2 f2 < max s1 f1) = true := by simpa using hlt
      clear hlt
      go_wp2_with fail
      refine (nothing_any _).mono ?_
      rintro e w1 ⟨rfl, hb1⟩
      have Z2 := hid (HZ1.out.next hb1)
      have B2 := hid (Bl.call HB1.out hb1)
      clear x0 x1 x2 x3 x4 hb1
      obtain ⟨g0, g1, g2, g3, g4⟩ := Z2.out
      obtain ⟨k0, k1⟩ := read_set Z2.out (.int .i64 1) (.int .i64 0)
      go_wp2_with fail
      refine bodyPost_ret (v := .agg #[.int .i64 1, .int .i64 0]) (by simp [results, Try.results110, go_sem, k0, k1]) rfl ⟨by rw [hv1.out], ?_⟩
      exact Bl.set2 B2.out (by omega) _ _
    · have hv1 := hid (hv.out.2 hlt)
      have g1 : decide (min s2 f2 < max s1 f1) = false := by simpa using hlt
      clear hlt
      obtain ⟨p0, p1, p2, p3, p4⟩ := HP1.out
      go_wp2_with fail
      refine (from_any _ _ _ _ _ _ hb hb8 hr hr2 hc1 hc2).mono ?_
      rintro e w1 ⟨rfl, hb1⟩
      have Z2 := hid (HZ1.out.next hb1)
      have B2 := hid (Bl.call HB1.out hb1)
      clear x0 x1 x2 x3 x4 hb1 p0 p1 p2 p3 p4
      obtain ⟨g0, g1, g2, g3, g4⟩ := Z2.out
      obtain ⟨k0, k1⟩ := read_set Z2.out (.int .i64 (fromF b r c).1) (.int .i64 (fromF b r c).2)
      go_wp2_with fail
      refine bodyPost_ret (v := .agg #[.int .i64 (fromF b r c).1, .int .i64 (fromF b r c).2]) (by simp [results, Try.results110, go_sem, k0, k1]) rfl ⟨by rw [hv1.out], ?_⟩
      exact Bl.set2 B2.out (by omega) _ _
theorem ahead_any (b l h r s1 s2 c : Int) (w : World) (hb : 0 ≤ b) (hb8 : b ≤ 8) (hr : 0 ≤ r) (hr2 : r ≤ 12000) (hc1 : -200000 ≤ c) (hc2 : c ≤ 200000) (h1 : -200000 ≤ s1 ∧ s1 ≤ 200000) (h2 : -200000 ≤ s2 ∧ s2 ≤ 200000) :
    Calls Try.prog 110 #[.agg #[.int .i64 b, .int .i64 l, .int .i64 h, .int .i64 r], .agg #[.int .i64 s1, .int .i64 s2], .int .i64 c] w (RetS (aheadF b r (s1, s2) c) w) := by
  unfold aheadF
  by_cases hs : s2 < s1
  · rw [if_pos hs]; exact ahead_none b l h r s1 s2 c w hs
  · rw [if_neg hs]
    by_cases hc : c = 0
    · rw [if_pos hc]; subst hc; exact ahead_same b l h r s1 s2 w hs hr hr2 h1 h2
    · rw [if_neg hc]
      refine ahead_move b l h r s1 s2 c (endF b c).1 (endF b c).2 w hs (hid (by simpa using hc)) hb hb8 hr hr2 hc1 hc2 (hid rfl) _ (hid ⟨fun hlt => ?_, fun hlt => ?_⟩)
      · rw [if_pos (by simpa [bothF] using hlt)]
      · rw [if_neg (by simpa [bothF] using hlt)]
end Go.Proofs.Ytdopgaljbpjpcaa
