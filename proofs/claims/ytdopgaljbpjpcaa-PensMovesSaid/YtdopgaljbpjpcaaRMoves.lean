/- aneroidref03: Keeps, Moves. -/
import Derived.Test.YtdopgaljbpjpcaaRefF
import Derived.Test.YtdopgaljbpjpcaaKeeps
import Derived.Test.YtdopgaljbpjpcaaMovesB
namespace Go.Proofs.Ytdopgaljbpjpcaa
open Go.RowKit
attribute [local go_sem ↓] neq59 guard59

/-- All numbers of both kinds are levels. -/
def lvlP (ms : List (Int × Int)) : Bool := lvls (ms.map (·.1)) && lvls (ms.map (·.2))
theorem lvlP_iff {ms : List (Int × Int)} : lvlP ms = true ↔ ∀ j, (h : j < ms.length) → lvl ms[j].1 = true ∧ lvl ms[j].2 = true := by
  unfold lvlP
  rw [Bool.and_eq_true, lvls_iff, lvls_iff]
  constructor
  · rintro ⟨h1, h2⟩ j hj
    exact ⟨lvl_iff.2 (h1 _ (List.mem_map_of_mem (List.getElem_mem hj))), lvl_iff.2 (h2 _ (List.mem_map_of_mem (List.getElem_mem hj)))⟩
  · intro h
    constructor
    all_goals
      intro x hx
      obtain ⟨m, hm, rfl⟩ := List.mem_map.1 hx
      obtain ⟨j, hj, rfl⟩ := List.getElem_of_mem hm
    · exact lvl_iff.1 (h j hj).1
    · exact lvl_iff.1 (h j hj).2
theorem keeps_ref (b l h r : Int) (ms : List (Int × Int)) : keepsF b l h r ms = if penOk b l h r = true then (if withinB (ms.length : Int) 1 401 = true then (if lvlP ms = true then (if momB b r ms = true then 0 else 31) else 1) else 1) else 30 := by
  have hw : withinB (ms.length : Int) 1 401 = decide (1 ≤ ms.length ∧ ms.length ≤ 401) := by
    unfold withinB; rw [Bool.eq_iff_iff]; simp; omega
  unfold keepsF listOk lvlP
  rw [hw, List.length_map, List.length_map]
  generalize decide (1 ≤ ms.length ∧ ms.length ≤ 401) = t
  generalize lvls (ms.map (·.1)) = p
  generalize lvls (ms.map (·.2)) = q
  generalize penOk b l h r = z
  generalize momB b r ms = y
  cases t <;> cases p <;> cases q <;> cases z <;> cases y <;> rfl
set_option maxRecDepth 100000 in
set_option maxHeartbeats 8000000 in
theorem rKeeps_ok (b l h r : Int) (v : Value) (ms : List (Int × Int)) (w : World) (hv : Pairs w v ms) (hp : Hid (penOk b l h r = true)) (hn : Hid (withinB (ms.length : Int) 1 401 = true)) (K : Int)
    (hlv : Hid (lvlP ms = false → K = 1)) (hbad : Hid (lvlP ms = true → ∀ k, (h : k < ms.length) → (rightB b ms[k].1 ms[k].2 = false ∨ ∃ h' : 1 ≤ k, ¬ (apartN ms[k].2 (ms[k - 1]'(by omega)).2 ≤ r ∧ ms[k].1 = lazyN b (ms[k - 1]'(by omega)).1 ms[k].2)) → K = 31))
    (hgood : Hid (lvlP ms = true → (∀ k, (h : k < ms.length) → rightB b ms[k].1 ms[k].2 = true ∧ (1 ≤ k → apartN ms[k].2 (ms[k - 1]'(by omega)).2 ≤ r ∧ ms[k].1 = lazyN b (ms[k - 1]'(by omega)).1 ms[k].2)) → K = 0)) :
    Calls Try.prog 54 #[.agg #[.int .i64 b, .int .i64 l, .int .i64 h, .int .i64 r], v] w fun e w' => e = .returned (.int .i64 K) ∧ Below w.heap.size w w' := by
  have hbb := penOk_iff.1 hp.out
  have hb0 := hbb.1; have hb8 := hbb.2.1; have hr0 := hbb.2.2.2.2.2.2.1; have hr2 := hbb.2.2.2.2.2.2.2
  clear hbb
  obtain ⟨a, c, rfl, hm⟩ := hv.shape
  have HV := hid hv; clear hv
  go_enter Try.func54, Try.ntmps54
  go_wp2_with fail
  refine (rcheck_ok _ _ _ _ _ hp).mono ?_
  rintro e w2 ⟨rfl, hb1⟩
  have P2 := hid ((Pbx.new _ b l h r w 25 rfl).next hb1)
  have B2 := hid (bl1 hb1)
  clear hb1
  go_wp2_with fail
  refine (rwithin_at _ _ _ _ _ hn).mono ?_
  rintro e wq ⟨rfl, hq⟩
  cases hq
  go_wp2_with fail
  go_loopw [5] (fun i wr => ∃ k : Nat, k ≤ ms.length ∧ i = .int .i64 k ∧ wr = w2 ∧ Hid (∀ j, (h : j < ms.length) → j < k → lvl ms[j].1 = true ∧ lvl ms[j].2 = true)) (fun i _ => ms.length - (intOf i).toNat)
  case atStart => exact ⟨0, by omega, rfl, rfl, hid fun j _ h => by omega⟩
  case round =>
    obtain ⟨k, hk, rfl, hwr, HL⟩ := hrel
    subst hwr
    by_cases hlt : k < ms.length
    · obtain ⟨b1, o1, rfl, c1, c2⟩ := (HV.out.below B2.out).cellAt hlt
      have i1 : (0 : Int) ≤ (k : Int) := by omega
      have i2 : (k : Int) < ms.length := by omega
      have HF : Hid (lvl ms[k].1 = false ∨ lvl ms[k].2 = false → K = 1) := hid fun h => hlv.out (by
        cases hq : lvlP ms
        · rfl
        · obtain ⟨e1, e2⟩ := lvlP_iff.1 hq k hlt
          rcases h with h | h
          · rw [e1] at h; cases h
          · rw [e2] at h; cases h)
      have HL2 : Hid (lvl ms[k].1 = true → lvl ms[k].2 = true → ∀ j, (h : j < ms.length) → j < k + 1 → lvl ms[j].1 = true ∧ lvl ms[j].2 = true) := hid fun e1 e2 j h hj => by
        by_cases e : j = k
        · subst e; exact ⟨e1, e2⟩
        · exact HL.out j h (by omega)
      generalize ms[k] = m at *
      obtain ⟨s, x⟩ := m
      have HF' : Hid (lvl s = false ∨ lvl x = false → K = 1) := HF
      have HL3 : Hid (lvl s = true → lvl x = true → ∀ j, (h : j < ms.length) → j < k + 1 → lvl ms[j].1 = true ∧ lvl ms[j].2 = true) := HL2
      clear HF HL2
      simp only at c1 c2
      cases g1 : lvl s
      · have HK := hid (HF'.out (.inl g1))
        go_wp2_with (go_at_call 86; refine (rlevel_any _ _).mono ?_; rintro e wq ⟨rfl, hq⟩; cases hq)
        go_ret
        exact ⟨ret_int HK.out.symm, B2.out⟩
      · cases g2 : lvl x
        · have HK := hid (HF'.out (.inr g2))
          go_wp2_with (go_at_call 86; refine (rlevel_any _ _).mono ?_; rintro e wq ⟨rfl, hq⟩; cases hq)
          go_ret
          exact ⟨ret_int HK.out.symm, B2.out⟩
        · have HL4 := hid (HL3.out g1 g2)
          go_wp2_with (go_at_call 86; refine (rlevel_any _ _).mono ?_; rintro e wq ⟨rfl, hq⟩; cases hq)
          go_roundw
          case rel => exact ⟨k + 1, by omega, by go_num, trivial, HL4⟩
          case measure => simp [intOf]; omega
    · have hPl : lvlP ms = true := lvlP_iff.2 fun j hj => HL.out j hj (by omega)
      have HB := hid (hbad.out hPl)
      have HG := hid (hgood.out hPl)
      have HLL := hid (lvlP_iff.1 hPl)
      clear hPl HL hlv hbad hgood
      go_wp2_with fail
      go_loopw [6] (fun i wr => ∃ k : Nat, k ≤ ms.length ∧ i = .int .i64 k ∧ Hid (Below w.heap.size w wr) ∧ Hid (Pbx w.heap.size b l h r wr) ∧ Hid (∀ k', (h : k' < ms.length) → k' < k → rightB b ms[k'].1 ms[k'].2 = true ∧ (1 ≤ k' → apartN ms[k'].2 (ms[k' - 1]'(by omega)).2 ≤ r ∧ ms[k'].1 = lazyN b (ms[k' - 1]'(by omega)).1 ms[k'].2))) (fun i _ => ms.length - (intOf i).toNat)
      case atStart => exact ⟨0, by omega, rfl, B2, P2, hid fun j _ h => by omega⟩
      case round =>
        obtain ⟨k, hk, rfl, HBw, HP, HN⟩ := hrel
        by_cases hlt : k < ms.length
        · obtain ⟨b1, o1, rfl, c1, c2⟩ := (HV.out.below HBw.out).cellAt hlt
          have hbw := World.block_lt_of_cell? _ _ c1
          dsimp only at hbw
          have i1 : (0 : Int) ≤ (k : Int) := by omega
          have i2 : (k : Int) < ms.length := by omega
          obtain ⟨hl1, hl2⟩ := HLL.out k hlt
          obtain ⟨t, ht⟩ : ∃ t, Hid (rightB b ms[k].1 ms[k].2 = t) := ⟨_, hid rfl⟩
          have HX : Hid (t = false → K = 31) := hid fun h => HB.out k hlt (.inl (ht.out.trans h))
          have HY : Hid (∀ h' : 1 ≤ k, ¬ (apartN ms[k].2 (ms[k - 1]'(by omega)).2 ≤ r ∧ ms[k].1 = lazyN b (ms[k - 1]'(by omega)).1 ms[k].2) → K = 31) := hid fun h' hq => HB.out k hlt (.inr ⟨h', hq⟩)
          have HN2 : Hid (t = true → (1 ≤ k → apartN ms[k].2 (ms[k - 1]'(by omega)).2 ≤ r ∧ ms[k].1 = lazyN b (ms[k - 1]'(by omega)).1 ms[k].2) → ∀ k', (h : k' < ms.length) → k' < k + 1 → rightB b ms[k'].1 ms[k'].2 = true ∧ (1 ≤ k' → apartN ms[k'].2 (ms[k' - 1]'(by omega)).2 ≤ r ∧ ms[k'].1 = lazyN b (ms[k' - 1]'(by omega)).1 ms[k'].2)) := hid fun h1 h2 j hj hjk => by
            by_cases e : j = k
            · subst e; exact ⟨ht.out.trans h1, h2⟩
            · exact HN.out j hj (by omega)
          obtain ⟨q0, q1, q2, q3, q4⟩ := HP.out
          obtain ⟨hx1, hx2⟩ := lvl_iff.1 hl2
          have HS := hid hl1; have HM := hid hl2
          clear hl1 hl2 HN HB
          by_cases hk0 : 1 ≤ k
          case pos =>
            obtain ⟨b2, o2, e2, d1, d2⟩ := (HV.out.below HBw.out).cellAt (show k - 1 < ms.length by omega)
            cases e2
            obtain ⟨hm1, hm2⟩ := lvl_iff.1 (HLL.out (k - 1) (by omega)).2
            have HY2 := hid (HY.out hk0)
            have HN3 : Hid (t = true → (apartN ms[k].2 (ms[k - 1]'(by omega)).2 ≤ r ∧ ms[k].1 = lazyN b (ms[k - 1]'(by omega)).1 ms[k].2) → ∀ k', (h : k' < ms.length) → k' < k + 1 → rightB b ms[k'].1 ms[k'].2 = true ∧ (1 ≤ k' → apartN ms[k'].2 (ms[k' - 1]'(by omega)).2 ≤ r ∧ ms[k'].1 = lazyN b (ms[k' - 1]'(by omega)).1 ms[k'].2)) := hid fun h1 h2 => HN2.out h1 fun _ => h2
            clear HY HN2
            generalize ms[k] = m at *
            generalize ms[k - 1] = m0 at *
            obtain ⟨s, x⟩ := m
            obtain ⟨s0, x0⟩ := m0
            simp only at c1 c2 ht HS HM hx1 hx2 d1 d2 hm1 hm2
            have HY3 : Hid (¬ (apartN x x0 ≤ r ∧ s = lazyN b s0 x) → K = 31) := HY2
            have j1 : (0 : Int) ≤ (k : Int) - 1 := by omega
            have j2 : (k : Int) - 1 < ms.length := by omega
            have j3 : ((k : Int) - 1).toNat = k - 1 := by omega
            have j4 : IntKind.i64.wrap ((k : Int) - 1) = (k : Int) - 1 := IntWalk.i64_in _ (by omega)
            have j5 : ((k : Int) == 0) = false := by simp; omega
            have m1 : (1 : Int) ≤ (k : Int) := by omega
            have m2 : (k : Int) < ms.length + 1 := by omega
            have m3 : k - 1 < ms.length := by omega
            have m4 : k < ms.length + 1 := by omega
            go_wp2_with fail
            go_region_held3 (fun w' => (w'.cell? ⟨b1, o1 + k * 2, none⟩ = some (.int .i64 s) ∧ w'.cell? ⟨b1, o1 + k * 2 + 1, none⟩ = some (.int .i64 x)) ∧ w'.cell? ⟨w.heap.size, 0, none⟩ = some (.int .i64 b) ∧ w'.cell? ⟨w.heap.size, 1, none⟩ = some (.int .i64 l) ∧ w'.cell? ⟨w.heap.size, 2, none⟩ = some (.int .i64 h) ∧ w'.cell? ⟨w.heap.size, 3, none⟩ = some (.int .i64 r)) (go_keep)
              (first
                | (go_at_call 89; refine (rright_any b l h r s x t _ hb0 hb8 HS HM ht).mono ?_; rintro e wa ⟨rfl, hba⟩
                   have HPa := hid (Pbx.next (by exact HP.out) hba)
                   have HBa := hid (Bl.call (Bl.drew HBw.out) hba)
                   have k1 := (hba.cell (p := ⟨b1, o1 + k * 2, none⟩) hbw).trans c1
                   have k2 := (hba.cell (p := ⟨b1, o1 + k * 2 + 1, none⟩) hbw).trans c2
                   have k3 := (hba.cell (p := ⟨b1, o1 + (k - 1) * 2, none⟩) hbw).trans d1
                   have k4 := (hba.cell (p := ⟨b1, o1 + (k - 1) * 2 + 1, none⟩) hbw).trans d2
                   have k5 := Nat.lt_of_lt_of_le hbw hba.size
                   clear hba
                   obtain ⟨z0, z1, z2, z3, z4⟩ := HPa.out)
                | fail)
            clear q0 q1 q2 q3 q4 c1 c2 d1 d2 hbw
            cases t
            · have HK := hid (HX.out rfl)
              go_wp2_with fail
              go_ret
              exact ⟨ret_int HK.out.symm, HBa.out⟩
            · have HN4 := hid (HN3.out rfl)
              have n1 : ¬ w.heap.size = wa.heap.size := by omega
              have n2 : ¬ b1 = wa.heap.size := by omega
              go_wp2_with fail
              go_cut [7, 8] from 53 to 67 (fun s7 s8 wx => ∃ g : Nat, s7 = .pointer (some ⟨g, 0, none⟩) ∧ s8 = .bool (decide (apartN x x0 ≤ r)) ∧ Hid (Rbx g (lazyN b s0 x) x wx) ∧ Hid (Pbx w.heap.size b l h r wx) ∧ Hid (Below w.heap.size w wx) ∧ wx.cell? ⟨b1, o1 + k * 2, none⟩ = some (.int .i64 s) ∧ wx.cell? ⟨b1, o1 + k * 2 + 1, none⟩ = some (.int .i64 x))
              case first =>
                go_region_held3 (fun w' => (w'.cell? ⟨b1, o1 + (k - 1) * 2, none⟩ = some (.int .i64 s0) ∧ w'.cell? ⟨b1, o1 + (k - 1) * 2 + 1, none⟩ = some (.int .i64 x0)) ∧ w'.cell? ⟨w.heap.size, 0, none⟩ = some (.int .i64 b) ∧ w'.cell? ⟨w.heap.size, 1, none⟩ = some (.int .i64 l) ∧ w'.cell? ⟨w.heap.size, 2, none⟩ = some (.int .i64 h) ∧ w'.cell? ⟨w.heap.size, 3, none⟩ = some (.int .i64 r) ∧ w'.cell? ⟨b1, o1 + k * 2, none⟩ = some (.int .i64 s) ∧ w'.cell? ⟨b1, o1 + k * 2 + 1, none⟩ = some (.int .i64 x)) (first | (go_keep; done) | (refine ⟨⟨?_, ?_⟩, ?_, ?_, ?_, ?_, ?_, ?_⟩ <;> (refine (set2o ?_).trans ?_ <;> (first | assumption | omega | (simp; done) | (simp; omega)))))
                  (first
                    | (go_at_call 88; refine (rnext_any b l h r s0 x0 x _ hb0 hb8 hr0 hr2 (by omega) (by omega)).mono ?_; rintro e wb ⟨rfl, hbb⟩
                       have HPb := hid (Pbx.next (by first | exact Pbx.alloc (W := wa.drew) HPa.out _ | exact HPa.out) hbb)
                       have HBb := hid (Bl.call (by first | exact Bl.alloc (Bl.drew HBa.out) _ | exact Bl.drew HBa.out) hbb)
                       have HVb := hid (Bl.call (a := wa) (by first | exact Bl.drew (Below.refl _ _) | exact Bl.alloc (Bl.drew (Below.refl _ _)) _) hbb)
                       try have HXb := hid (Rbx.next (Rbx.new wa.heap.size 0 0 wa.drew 59 rfl) hbb)
                       clear hbb
                       obtain ⟨x0', x1', x2, x3, x4⟩ := HPb.out
                       try obtain ⟨y0, y1, y2, y3, y4⟩ := HXb.out
                       have l1 := (HVb.out.cell (p := ⟨b1, o1 + k * 2, none⟩) k5).trans k1
                       have l2 := (HVb.out.cell (p := ⟨b1, o1 + k * 2 + 1, none⟩) k5).trans k2
                       have l3 := (HVb.out.cell (p := ⟨b1, o1 + (k - 1) * 2, none⟩) k5).trans k3
                       have l4 := (HVb.out.cell (p := ⟨b1, o1 + (k - 1) * 2 + 1, none⟩) k5).trans k4
                       have hsb := HVb.out.size
                       have n5 : ¬ w.heap.size = wb.heap.size := by omega
                       have n6 : ¬ b1 = wb.heap.size := by omega)
                    | fail)
                all_goals
                  go_wp2_with fail
                  go_meet
                  first
                    | exact ⟨wb.heap.size, rfl, rfl, hid (Rbx.new _ _ _ wb 59 rfl), hid (HPb.out.alloc _), hid (Bl.alloc HBb.out _), cell_alloc1 l1, cell_alloc1 l2⟩
                    | exact ⟨wa.heap.size, rfl, rfl, hid (Rbx.set HXb.out _ _), hid (HPb.out.set2 n1 _ _), hid (Bl.set2 HBb.out (by omega) _ _), (set2o n2).trans l1, (set2o n2).trans l2⟩
              case rest =>
                obtain ⟨g, rfl, rfl, HG2, HP2, HB2, k1', k2'⟩ := hcut
                obtain ⟨g0, g1, _, _, _⟩ := HG2.out
                clear z0 z1 z2 z3 z4 k1 k2 k3 k4 n1 n2 j3 j4 j5
                by_cases ha : apartN x x0 ≤ r
                · have e1 : decide (apartN x x0 ≤ r) = true := by simpa using ha
                  by_cases hs : s = lazyN b s0 x
                  · have e2 : (lazyN b s0 x == s) = true := by simpa using hs.symm
                    have HN5 := hid (HN4.out ⟨ha, hs⟩)
                    clear ha hs
                    go_wp2_with fail
                    go_big_quiet (fail)
                    go_wp2_with fail
                    go_roundw
                    case rel => exact ⟨k + 1, by omega, by go_num, hid (Bl.drewN HB2.out _), HP2, HN5⟩
                    case measure => simp [intOf]; omega
                  · have e2 : (lazyN b s0 x == s) = false := by simpa using fun h => hs h.symm
                    have HK := hid (HY3.out (fun h => hs h.2))
                    clear ha hs
                    go_wp2_with fail
                    go_big_quiet (fail)
                    go_wp2_with fail
                    go_ret
                    exact ⟨ret_int HK.out.symm, Bl.drewN HB2.out _⟩
                · have e1 : decide (apartN x x0 ≤ r) = false := by simpa using ha
                  have HK := hid (HY3.out (fun h => ha h.1))
                  clear ha
                  go_wp2_with fail
                  go_big_quiet (fail)
                  go_wp2_with fail
                  go_ret
                  exact ⟨ret_int HK.out.symm, Bl.drewN HB2.out _⟩
          case neg =>
            have hk00 : k = 0 := by omega
            subst hk00
            have HN3 := hid (fun h => HN2.out h (fun h' => by omega))
            clear HY HN2
            generalize ms[0] = m at *
            obtain ⟨s, x⟩ := m
            simp only [Nat.zero_mul, Nat.add_zero] at c1 c2 ht HS HM hx1 hx2
            go_wp2_with fail
            go_region_held3 (fun w' => (w'.cell? ⟨b1, o1, none⟩ = some (.int .i64 s) ∧ w'.cell? ⟨b1, o1 + 1, none⟩ = some (.int .i64 x)) ∧ w'.cell? ⟨w.heap.size, 0, none⟩ = some (.int .i64 b) ∧ w'.cell? ⟨w.heap.size, 1, none⟩ = some (.int .i64 l) ∧ w'.cell? ⟨w.heap.size, 2, none⟩ = some (.int .i64 h) ∧ w'.cell? ⟨w.heap.size, 3, none⟩ = some (.int .i64 r)) (go_keep)
              (first
                | (go_at_call 89; refine (rright_any b l h r s x t _ hb0 hb8 HS HM ht).mono ?_; rintro e wa ⟨rfl, hba⟩
                   have HPa := hid (Pbx.next (by exact HP.out) hba)
                   have HBa := hid (Bl.call (Bl.drew HBw.out) hba)
                   have k1 := (hba.cell (p := ⟨b1, o1, none⟩) hbw).trans c1
                   have k2 := (hba.cell (p := ⟨b1, o1 + 1, none⟩) hbw).trans c2
                   clear hba
                   obtain ⟨z0, z1, z2, z3, z4⟩ := HPa.out)
                | fail)
            clear q0 q1 q2 q3 q4 z0 z1 z2 z3 z4 k1 k2 c1 c2
            cases t
            · have HK := hid (HX.out rfl)
              go_wp2_with fail
              go_ret
              exact ⟨ret_int HK.out.symm, HBa.out⟩
            · have HN4 := hid (HN3.out rfl)
              go_wp2_with fail
              go_roundw
              case rel => exact ⟨1, by omega, by go_num, HBa, HPa, HN4⟩
              case measure => simp [intOf]; omega
        · have HK := hid (HG.out fun j hj => HN.out j hj (by omega))
          go_wp2_with fail
          go_ret
          exact ⟨ret_int HK.out.symm, HBw.out⟩
set_option maxHeartbeats 1000000 in
theorem rKeeps_pen (b l h r : Int) (v : Value) (w : World) (hp : Hid (penOk b l h r = false)) :
    Calls Try.prog 54 #[.agg #[.int .i64 b, .int .i64 l, .int .i64 h, .int .i64 r], v] w fun e w' => e = .returned (.int .i64 30) ∧ Below w.heap.size w w' := by
  go_enter Try.func54, Try.ntmps54
  go_wp2_with fail
  refine (rcheck_bad _ _ _ _ _ hp).mono ?_
  rintro e w1 ⟨rfl, hb1⟩
  go_wp2_with fail
  go_ret
  exact ⟨rfl, bl1 hb1⟩
set_option maxHeartbeats 1000000 in
theorem rKeeps_len (b l h r : Int) (a : Option Addr) (n c : Nat) (w : World) (hp : Hid (penOk b l h r = true)) (hn : Hid (withinB (n : Int) 1 401 = false)) :
    Calls Try.prog 54 #[.agg #[.int .i64 b, .int .i64 l, .int .i64 h, .int .i64 r], .slice a n c] w fun e w' => e = .returned (.int .i64 1) ∧ Below w.heap.size w w' := by
  go_enter Try.func54, Try.ntmps54
  go_wp2_with fail
  refine (rcheck_ok _ _ _ _ _ hp).mono ?_
  rintro e w1 ⟨rfl, hb1⟩
  go_wp2_with fail
  refine (rwithin_at _ _ _ _ _ hn).mono ?_
  rintro e wq ⟨rfl, hq⟩
  cases hq
  go_wp2_with fail
  go_ret
  exact ⟨rfl, bl1 hb1⟩
/-- aneroidref03.Keeps. -/
theorem rKeeps_any (b l h r : Int) (v : Value) (ms : List (Int × Int)) (w : World) (hv : Pairs w v ms) :
    Calls Try.prog 54 #[.agg #[.int .i64 b, .int .i64 l, .int .i64 h, .int .i64 r], v] w fun e w' => e = .returned (.int .i64 (keepsF b l h r ms)) ∧ Below w.heap.size w w' := by
  rw [keeps_ref]
  cases hp : penOk b l h r
  · simpa using rKeeps_pen b l h r v w (hid hp)
  · cases hn : withinB (ms.length : Int) 1 401
    · obtain ⟨a, c, rfl, _⟩ := hv.shape
      simpa using rKeeps_len b l h r a ms.length c w (hid hp) (hid hn)
    · have hb0 := (penOk_iff.1 hp).1
      have hm := mom_iff (b := b) (r := r) (ms := ms) hb0
      refine rKeeps_ok b l h r v ms w hv (hid hp) (hid hn) _ (hid fun h => ?_) (hid fun h k hk hq => ?_) (hid fun h hq => ?_)
      · rw [h]; rfl
      · rw [h]
        have hne : ¬ momB b r ms = true := by
          intro hmm
          obtain ⟨h1, h2⟩ := hm.1 hmm
          rcases hq with hq | ⟨h', hq⟩
          · rw [h1 k hk] at hq; cases hq
          · apply hq
            have := h2 (k - 1) (by omega)
            simpa [show k - 1 + 1 = k by omega] using this
        rw [if_pos rfl, if_pos rfl, if_pos rfl, if_neg hne]
      · rw [h]
        have hmm : momB b r ms = true := hm.2 ⟨fun i hi => (hq i hi).1, fun i hi => by simpa using (hq (i + 1) hi).2 (by omega)⟩
        rw [if_pos rfl, if_pos rfl, if_pos rfl, if_pos hmm]
end Go.Proofs.Ytdopgaljbpjpcaa
namespace Go.Proofs.Ytdopgaljbpjpcaa
open Go.RowKit
attribute [local go_sem ↓] neq23 guard23

set_option maxHeartbeats 1000000 in
theorem rmoves_badpen (b l h r o : Int) (w : World) (hp : Hid (penOk b l h r = false)) :
    Calls Try.prog 52 #[.agg #[.int .i64 b, .int .i64 l, .int .i64 h, .int .i64 r], .int .i64 o] w (RetTE [] 30 w) := by
  go_enter Try.func52, Try.ntmps52
  go_wp2_with fail
  refine (rcheck_bad _ _ _ _ _ hp).mono ?_
  rintro e w1 ⟨rfl, hb1⟩
  go_wp2_with fail
  go_ret2
  exact ⟨_, rfl, Trips.nil, bl1 hb1⟩
set_option maxHeartbeats 1000000 in
theorem rmoves_badoff (b l h r o : Int) (w : World) (hp : Hid (penOk b l h r = true)) (HW : Hid (withinB o (-b) b = false)) :
    Calls Try.prog 52 #[.agg #[.int .i64 b, .int .i64 l, .int .i64 h, .int .i64 r], .int .i64 o] w (RetTE [] 1 w) := by
  have hbb := penOk_iff.1 hp.out
  have hb0 := hbb.1; have hb8 := hbb.2.1
  clear hbb
  go_enter Try.func52, Try.ntmps52
  go_wp2_with fail
  refine (rcheck_ok _ _ _ _ _ hp).mono ?_
  rintro e w1 ⟨rfl, hb1⟩
  obtain ⟨q0, q1, q2, q3, q4⟩ := (Pbx.new _ b l h r w 25 rfl).next hb1
  go_wp2_with fail
  refine (rwithin_at _ _ _ _ _ HW).mono ?_
  rintro e wq ⟨rfl, hq⟩
  cases hq
  go_wp2_with fail
  go_ret2
  exact ⟨_, rfl, Trips.nil, bl1 hb1⟩
theorem cell_three_at (W : World) (B : Nat) (hB : W.heap.size = B) (x y z : Value) (t : TypeId) : ∀ j u, [x, y, z][j]? = some u → (W.alloc (.cells #[x, y, z] t)).cell? ((⟨B, 0, none⟩ : Addr).add j) = some u := by subst hB; exact cell_three_new W x y z t
theorem moveK_eq (b r o t : Int) : moveK b r o t = (decide (mLo b r o t ≤ mHi b r o t) && (!(mLo b r o t == 0 && mHi b r o t == 0) || withinB (t - o) (-r) r) && decide (mLo b r o t ≤ 0) && decide (0 ≤ mHi b r o t)) := by
  unfold moveK
  rw [within_apart, Bool.eq_iff_iff]
  simp only [Bool.and_eq_true, Bool.or_eq_true, Bool.not_eq_true', Bool.and_eq_false_iff, decide_eq_true_eq, beq_eq_false_iff_ne]
  constructor
  · rintro ⟨h1, h2, h3⟩; exact ⟨⟨⟨by omega, h3⟩, h1⟩, h2⟩
  · rintro ⟨⟨⟨_, h3⟩, h1⟩, h2⟩; exact ⟨h1, h2, h3⟩
set_option maxRecDepth 100000 in
set_option maxHeartbeats 8000000 in
theorem rmoves_ok (b l h r o : Int) (w : World) (hp : Hid (penOk b l h r = true)) (ho1 : -b ≤ o) (ho2 : o ≤ b) :
    Calls Try.prog 52 #[.agg #[.int .i64 b, .int .i64 l, .int .i64 h, .int .i64 r], .int .i64 o] w (RetTE (movesL b r o) 0 w) := by
  have hbb := penOk_iff.1 hp.out
  have hb0 := hbb.1; have hb8 := hbb.2.1; have hr0 := hbb.2.2.2.2.2.2.1; have hr2 := hbb.2.2.2.2.2.2.2
  clear hbb
  obtain ⟨i0, hi, hz0, hz1, hz2⟩ := info_parts Try.info72
  have HW : Hid (withinB o (-b) b = true) := hid (by simp [withinB]; omega)
  go_enter Try.func52, Try.ntmps52
  go_wp2_with fail
  refine (rcheck_ok _ _ _ _ _ hp).mono ?_
  rintro e w1 ⟨rfl, hb1⟩
  have P1 := hid ((Pbx.new _ b l h r w 25 rfl).next hb1)
  have B1 := hid (bl1 hb1)
  clear hb1
  obtain ⟨q0, q1, q2, q3, q4⟩ := P1.out
  go_wp2_with fail
  refine (rwithin_at _ _ _ _ _ HW).mono ?_
  rintro e wq ⟨rfl, hq⟩
  cases hq
  go_wp2_with fail
  go_loopw [6, 7] (fun ou i wr => ∃ (k : Nat), (k : Int) ≤ 2 * b + 1 ∧ i = .int .i64 ((k : Int) - b) ∧ Hid (Below w.heap.size w wr) ∧ Hid (Pbx w.heap.size b l h r wr) ∧ Hid (wr.ownsRow (w.heap.size + 1) 72 3 ou (movesTo b r o k).length (flat3 (movesTo b r o k))))
    (fun _ i _ => (b + 1 - intOf i).toNat)
  case atStart => exact ⟨0, by omega, by go_num, B1, P1, hid (World.ownsRow_nil _ _ _ _)⟩
  case round =>
    obtain ⟨k, hk, rfl, HB, HP, HO⟩ := hrel
    clear q0 q1 q2 q3 q4
    obtain ⟨q0, q1, q2, q3, q4⟩ := HP.out
    have hml := movesTo_le b r o k
    by_cases hlt : (k : Int) ≤ 2 * b
    · have hlt' : decide ((k : Int) - b ≤ b) = true := by simp; omega
      have n1 : ¬ w.heap.size = wr.heap.size := by omega
      by_cases ht1 : (k : Int) - b = b
      · have t1 : ((k : Int) - b == b) = true := by simpa using ht1
        by_cases ht2 : (k : Int) - b = -b
        · have t2 : ((k : Int) - b == -b) = true := by simpa using ht2
          have HLo : Hid (mLo b r o ((k : Int) - b) = (-r + b + o)) := hid (by unfold mLo; simp; try omega)
          have HHi : Hid (mHi b r o ((k : Int) - b) = (r - b + o)) := hid (by unfold mHi; simp; try omega)
          have HMK := hid (moveK_eq b r o ((k : Int) - b))
          rw [HLo.out, HHi.out] at HMK
          have HO1 := hid (HO.out.alloc (.cells #[.int .i64 (-r + b + o), .int .i64 (r - b + o)] 23))
          have HB1 := hid (Bl.alloc HB.out (.cells #[.int .i64 (-r + b + o), .int .i64 (r - b + o)] 23))
          have HP1 := hid (HP.out.alloc (.cells #[.int .i64 (-r + b + o), .int .i64 (r - b + o)] 23))
          have g0 : decide (-r + b + o ≤ r - b + o) = true := by simp; omega
          have g00 : decide (-r + b ≤ r - b) = true := by simp; omega
          have g1 : decide (-r + b + o ≤ 0) = true := by simp; omega
          have g2 : decide (0 ≤ r - b + o) = true := by simp; omega
          by_cases hC : r = 0
          · have e1 : ((-r + b + o) == 0) = true := by simp; omega
            have e2 : ((r - b + o) == 0) = true := by simp; omega
            rw [e1, e2] at HMK
            cases hw : withinB ((k : Int) - b - o) (-r) r
            · rw [hw] at HMK
              have HK : Hid (moveK b r o ((k : Int) - b) = false) := hid (by rw [HMK.out]; simp <;> omega)
              clear ht1 ht2 hC
              go_wp2_with (go_at_call 69; refine (rwithin_any _ _ _ _).mono ?_; rintro e wq ⟨rfl, hq⟩; cases hq)
              go_roundw
              case rel => exact ⟨k + 1, by omega, by go_num, HB1, HP1, by rw [movesTo_no HK.out]; exact HO1⟩
              case measure => simp [intOf]; omega
            · rw [hw] at HMK
              have HK : Hid (moveK b r o ((k : Int) - b) = true) := hid (by rw [HMK.out]; simp <;> omega)
              clear ht1 ht2 hC
              go_wp2_with (first | (go_at_call 69; refine (rwithin_any _ _ _ _).mono ?_; rintro e wq ⟨rfl, hq⟩; cases hq) | (at_builtin; refine wpList_append_own _ rfl _ _ 65 rfl (w.heap.size + 1) 72 i0 (.agg #[.int .i64 0, .int .i64 0, .int .i64 0]) 3 24 Try.underlying65 hi hz0 hz1 hz2 rfl (by decide) _ _ _ rfl (HO1.out.alloc _) ⟨wr.heap.size + 1, 0, none⟩ 1 1 [.int .i64 (k : Int), .int .i64 (-r + b + o), .int .i64 (r - b + o)] rfl rfl (cell_three_at _ _ (by simp) _ _ _ _) (by simp [Value.oneCell']) (by simp [maxLen]; omega) (by omega) (by simp; omega) ?_; intro v' w4 hown' hgrow _))
              have hb4 := hid (own_grow (Bl.alloc HB1.out _) (B := w.heap.size) (Nat.le_refl _) (fun j hj => by have := (HO.out.lt j hj).1; omega) hgrow)
              have hp4 := hid ((HP1.out.alloc _).grown hgrow (fun e => by have := (HO.out.lt _ e.symm).1; omega))
              clear hgrow
              go_roundw
              case rel => exact ⟨k + 1, by omega, by go_num, hb4, hp4, by rw [movesTo_yes HK.out HLo.out HHi.out]; exact hid (by simpa [flat3] using hown')⟩
              case measure => simp [intOf]; omega
          · have e1 : ((-r + b + o) == 0) = false := by simp; omega
            rw [e1] at HMK
            have HK : Hid (moveK b r o ((k : Int) - b) = true) := hid (by rw [HMK.out]; simp <;> omega)
            clear ht1 ht2 hC
            go_wp2_with (first | (go_at_call 69; refine (rwithin_any _ _ _ _).mono ?_; rintro e wq ⟨rfl, hq⟩; cases hq) | (at_builtin; refine wpList_append_own _ rfl _ _ 65 rfl (w.heap.size + 1) 72 i0 (.agg #[.int .i64 0, .int .i64 0, .int .i64 0]) 3 24 Try.underlying65 hi hz0 hz1 hz2 rfl (by decide) _ _ _ rfl (HO1.out.alloc _) ⟨wr.heap.size + 1, 0, none⟩ 1 1 [.int .i64 (k : Int), .int .i64 (-r + b + o), .int .i64 (r - b + o)] rfl rfl (cell_three_at _ _ (by simp) _ _ _ _) (by simp [Value.oneCell']) (by simp [maxLen]; omega) (by omega) (by simp; omega) ?_; intro v' w4 hown' hgrow _))
            have hb4 := hid (own_grow (Bl.alloc HB1.out _) (B := w.heap.size) (Nat.le_refl _) (fun j hj => by have := (HO.out.lt j hj).1; omega) hgrow)
            have hp4 := hid ((HP1.out.alloc _).grown hgrow (fun e => by have := (HO.out.lt _ e.symm).1; omega))
            clear hgrow
            go_roundw
            case rel => exact ⟨k + 1, by omega, by go_num, hb4, hp4, by rw [movesTo_yes HK.out HLo.out HHi.out]; exact hid (by simpa [flat3] using hown')⟩
            case measure => simp [intOf]; omega
        · have t2 : ((k : Int) - b == -b) = false := by simpa using ht2
          have HLo : Hid (mLo b r o ((k : Int) - b) = 0) := hid (by unfold mLo; simp; try omega)
          have HHi : Hid (mHi b r o ((k : Int) - b) = (r - b + o)) := hid (by unfold mHi; simp; try omega)
          have HMK := hid (moveK_eq b r o ((k : Int) - b))
          rw [HLo.out, HHi.out] at HMK
          have HO1 := hid (HO.out.alloc (.cells #[.int .i64 0, .int .i64 (r - b + o)] 23))
          have HB1 := hid (Bl.alloc HB.out (.cells #[.int .i64 0, .int .i64 (r - b + o)] 23))
          have HP1 := hid (HP.out.alloc (.cells #[.int .i64 0, .int .i64 (r - b + o)] 23))
          by_cases hA : 0 ≤ (r - b + o)
          · have g1 : decide (0 ≤ (r - b + o)) = true := by simpa using hA
            by_cases hC : (r - b + o) = 0
            · have e1 : ((r - b + o) == 0) = true := by simpa using hC
              rw [e1] at HMK
              cases hw : withinB ((k : Int) - b - o) (-r) r
              · rw [hw] at HMK
                have HK : Hid (moveK b r o ((k : Int) - b) = false) := hid (by rw [HMK.out]; simp <;> omega)
                clear ht1 ht2 hC
                go_wp2_with (go_at_call 69; refine (rwithin_any _ _ _ _).mono ?_; rintro e wq ⟨rfl, hq⟩; cases hq)
                go_roundw
                case rel => exact ⟨k + 1, by omega, by go_num, HB1, HP1, by rw [movesTo_no HK.out]; exact HO1⟩
                case measure => simp [intOf]; omega
              · rw [hw] at HMK
                have HK : Hid (moveK b r o ((k : Int) - b) = true) := hid (by rw [HMK.out]; simp <;> omega)
                clear ht1 ht2 hC
                go_wp2_with (first | (go_at_call 69; refine (rwithin_any _ _ _ _).mono ?_; rintro e wq ⟨rfl, hq⟩; cases hq) | (at_builtin; refine wpList_append_own _ rfl _ _ 65 rfl (w.heap.size + 1) 72 i0 (.agg #[.int .i64 0, .int .i64 0, .int .i64 0]) 3 24 Try.underlying65 hi hz0 hz1 hz2 rfl (by decide) _ _ _ rfl (HO1.out.alloc _) ⟨wr.heap.size + 1, 0, none⟩ 1 1 [.int .i64 (k : Int), .int .i64 0, .int .i64 (r - b + o)] rfl rfl (cell_three_at _ _ (by simp) _ _ _ _) (by simp [Value.oneCell']) (by simp [maxLen]; omega) (by omega) (by simp; omega) ?_; intro v' w4 hown' hgrow _))
                have hb4 := hid (own_grow (Bl.alloc HB1.out _) (B := w.heap.size) (Nat.le_refl _) (fun j hj => by have := (HO.out.lt j hj).1; omega) hgrow)
                have hp4 := hid ((HP1.out.alloc _).grown hgrow (fun e => by have := (HO.out.lt _ e.symm).1; omega))
                clear hgrow
                go_roundw
                case rel => exact ⟨k + 1, by omega, by go_num, hb4, hp4, by rw [movesTo_yes HK.out HLo.out HHi.out]; exact hid (by simpa [flat3] using hown')⟩
                case measure => simp [intOf]; omega
            · have e1 : ((r - b + o) == 0) = false := by simpa using hC
              rw [e1] at HMK
              have HK : Hid (moveK b r o ((k : Int) - b) = true) := hid (by rw [HMK.out]; simp <;> omega)
              clear ht1 ht2 hC
              go_wp2_with (first | (go_at_call 69; refine (rwithin_any _ _ _ _).mono ?_; rintro e wq ⟨rfl, hq⟩; cases hq) | (at_builtin; refine wpList_append_own _ rfl _ _ 65 rfl (w.heap.size + 1) 72 i0 (.agg #[.int .i64 0, .int .i64 0, .int .i64 0]) 3 24 Try.underlying65 hi hz0 hz1 hz2 rfl (by decide) _ _ _ rfl (HO1.out.alloc _) ⟨wr.heap.size + 1, 0, none⟩ 1 1 [.int .i64 (k : Int), .int .i64 0, .int .i64 (r - b + o)] rfl rfl (cell_three_at _ _ (by simp) _ _ _ _) (by simp [Value.oneCell']) (by simp [maxLen]; omega) (by omega) (by simp; omega) ?_; intro v' w4 hown' hgrow _))
              have hb4 := hid (own_grow (Bl.alloc HB1.out _) (B := w.heap.size) (Nat.le_refl _) (fun j hj => by have := (HO.out.lt j hj).1; omega) hgrow)
              have hp4 := hid ((HP1.out.alloc _).grown hgrow (fun e => by have := (HO.out.lt _ e.symm).1; omega))
              clear hgrow
              go_roundw
              case rel => exact ⟨k + 1, by omega, by go_num, hb4, hp4, by rw [movesTo_yes HK.out HLo.out HHi.out]; exact hid (by simpa [flat3] using hown')⟩
              case measure => simp [intOf]; omega
          · have g1 : decide (0 ≤ (r - b + o)) = false := by simpa using hA
            have HK : Hid (moveK b r o ((k : Int) - b) = false) := hid (by rw [HMK.out]; simp <;> omega)
            clear ht1 ht2
            go_wp2_with (go_at_call 69; refine (rwithin_any _ _ _ _).mono ?_; rintro e wq ⟨rfl, hq⟩; cases hq)
            go_roundw
            case rel => exact ⟨k + 1, by omega, by go_num, HB1, HP1, by rw [movesTo_no HK.out]; exact HO1⟩
            case measure => simp [intOf]; omega
      · have t1 : ((k : Int) - b == b) = false := by simpa using ht1
        by_cases ht2 : (k : Int) - b = -b
        · have t2 : ((k : Int) - b == -b) = true := by simpa using ht2
          have HLo : Hid (mLo b r o ((k : Int) - b) = (-r + b + o)) := hid (by unfold mLo; simp; try omega)
          have HHi : Hid (mHi b r o ((k : Int) - b) = 0) := hid (by unfold mHi; simp; try omega)
          have HMK := hid (moveK_eq b r o ((k : Int) - b))
          rw [HLo.out, HHi.out] at HMK
          have HO1 := hid (HO.out.alloc (.cells #[.int .i64 (-r + b + o), .int .i64 0] 23))
          have HB1 := hid (Bl.alloc HB.out (.cells #[.int .i64 (-r + b + o), .int .i64 0] 23))
          have HP1 := hid (HP.out.alloc (.cells #[.int .i64 (-r + b + o), .int .i64 0] 23))
          by_cases hA : (-r + b + o) ≤ 0
          · have g1 : decide ((-r + b + o) ≤ 0) = true := by simpa using hA
            by_cases hC : (-r + b + o) = 0
            · have e1 : ((-r + b + o) == 0) = true := by simpa using hC
              rw [e1] at HMK
              cases hw : withinB ((k : Int) - b - o) (-r) r
              · rw [hw] at HMK
                have HK : Hid (moveK b r o ((k : Int) - b) = false) := hid (by rw [HMK.out]; simp <;> omega)
                clear ht1 ht2 hC
                go_wp2_with (go_at_call 69; refine (rwithin_any _ _ _ _).mono ?_; rintro e wq ⟨rfl, hq⟩; cases hq)
                go_roundw
                case rel => exact ⟨k + 1, by omega, by go_num, HB1, HP1, by rw [movesTo_no HK.out]; exact HO1⟩
                case measure => simp [intOf]; omega
              · rw [hw] at HMK
                have HK : Hid (moveK b r o ((k : Int) - b) = true) := hid (by rw [HMK.out]; simp <;> omega)
                clear ht1 ht2 hC
                go_wp2_with (first | (go_at_call 69; refine (rwithin_any _ _ _ _).mono ?_; rintro e wq ⟨rfl, hq⟩; cases hq) | (at_builtin; refine wpList_append_own _ rfl _ _ 65 rfl (w.heap.size + 1) 72 i0 (.agg #[.int .i64 0, .int .i64 0, .int .i64 0]) 3 24 Try.underlying65 hi hz0 hz1 hz2 rfl (by decide) _ _ _ rfl (HO1.out.alloc _) ⟨wr.heap.size + 1, 0, none⟩ 1 1 [.int .i64 (k : Int), .int .i64 (-r + b + o), .int .i64 0] rfl rfl (cell_three_at _ _ (by simp) _ _ _ _) (by simp [Value.oneCell']) (by simp [maxLen]; omega) (by omega) (by simp; omega) ?_; intro v' w4 hown' hgrow _))
                have hb4 := hid (own_grow (Bl.alloc HB1.out _) (B := w.heap.size) (Nat.le_refl _) (fun j hj => by have := (HO.out.lt j hj).1; omega) hgrow)
                have hp4 := hid ((HP1.out.alloc _).grown hgrow (fun e => by have := (HO.out.lt _ e.symm).1; omega))
                clear hgrow
                go_roundw
                case rel => exact ⟨k + 1, by omega, by go_num, hb4, hp4, by rw [movesTo_yes HK.out HLo.out HHi.out]; exact hid (by simpa [flat3] using hown')⟩
                case measure => simp [intOf]; omega
            · have e1 : ((-r + b + o) == 0) = false := by simpa using hC
              rw [e1] at HMK
              have HK : Hid (moveK b r o ((k : Int) - b) = true) := hid (by rw [HMK.out]; simp <;> omega)
              clear ht1 ht2 hC
              go_wp2_with (first | (go_at_call 69; refine (rwithin_any _ _ _ _).mono ?_; rintro e wq ⟨rfl, hq⟩; cases hq) | (at_builtin; refine wpList_append_own _ rfl _ _ 65 rfl (w.heap.size + 1) 72 i0 (.agg #[.int .i64 0, .int .i64 0, .int .i64 0]) 3 24 Try.underlying65 hi hz0 hz1 hz2 rfl (by decide) _ _ _ rfl (HO1.out.alloc _) ⟨wr.heap.size + 1, 0, none⟩ 1 1 [.int .i64 (k : Int), .int .i64 (-r + b + o), .int .i64 0] rfl rfl (cell_three_at _ _ (by simp) _ _ _ _) (by simp [Value.oneCell']) (by simp [maxLen]; omega) (by omega) (by simp; omega) ?_; intro v' w4 hown' hgrow _))
              have hb4 := hid (own_grow (Bl.alloc HB1.out _) (B := w.heap.size) (Nat.le_refl _) (fun j hj => by have := (HO.out.lt j hj).1; omega) hgrow)
              have hp4 := hid ((HP1.out.alloc _).grown hgrow (fun e => by have := (HO.out.lt _ e.symm).1; omega))
              clear hgrow
              go_roundw
              case rel => exact ⟨k + 1, by omega, by go_num, hb4, hp4, by rw [movesTo_yes HK.out HLo.out HHi.out]; exact hid (by simpa [flat3] using hown')⟩
              case measure => simp [intOf]; omega
          · have g1 : decide ((-r + b + o) ≤ 0) = false := by simpa using hA
            have HK : Hid (moveK b r o ((k : Int) - b) = false) := hid (by rw [HMK.out]; simp <;> omega)
            clear ht1 ht2
            go_wp2_with (go_at_call 69; refine (rwithin_any _ _ _ _).mono ?_; rintro e wq ⟨rfl, hq⟩; cases hq)
            go_roundw
            case rel => exact ⟨k + 1, by omega, by go_num, HB1, HP1, by rw [movesTo_no HK.out]; exact HO1⟩
            case measure => simp [intOf]; omega
        · have t2 : ((k : Int) - b == -b) = false := by simpa using ht2
          have HLo : Hid (mLo b r o ((k : Int) - b) = 0) := hid (by unfold mLo; simp; try omega)
          have HHi : Hid (mHi b r o ((k : Int) - b) = 0) := hid (by unfold mHi; simp; try omega)
          have HMK := hid (moveK_eq b r o ((k : Int) - b))
          rw [HLo.out, HHi.out] at HMK
          have HO1 := hid (HO.out.alloc (.cells #[.int .i64 0, .int .i64 0] 23))
          have HB1 := hid (Bl.alloc HB.out (.cells #[.int .i64 0, .int .i64 0] 23))
          have HP1 := hid (HP.out.alloc (.cells #[.int .i64 0, .int .i64 0] 23))
          cases hw : withinB ((k : Int) - b - o) (-r) r
          · rw [hw] at HMK
            have HK : Hid (moveK b r o ((k : Int) - b) = false) := hid (by rw [HMK.out]; simp <;> omega)
            clear ht1 ht2
            go_wp2_with (go_at_call 69; refine (rwithin_any _ _ _ _).mono ?_; rintro e wq ⟨rfl, hq⟩; cases hq)
            go_roundw
            case rel => exact ⟨k + 1, by omega, by go_num, HB1, HP1, by rw [movesTo_no HK.out]; exact HO1⟩
            case measure => simp [intOf]; omega
          · rw [hw] at HMK
            have HK : Hid (moveK b r o ((k : Int) - b) = true) := hid (by rw [HMK.out]; simp <;> omega)
            clear ht1 ht2
            go_wp2_with (first | (go_at_call 69; refine (rwithin_any _ _ _ _).mono ?_; rintro e wq ⟨rfl, hq⟩; cases hq) | (at_builtin; refine wpList_append_own _ rfl _ _ 65 rfl (w.heap.size + 1) 72 i0 (.agg #[.int .i64 0, .int .i64 0, .int .i64 0]) 3 24 Try.underlying65 hi hz0 hz1 hz2 rfl (by decide) _ _ _ rfl (HO1.out.alloc _) ⟨wr.heap.size + 1, 0, none⟩ 1 1 [.int .i64 (k : Int), .int .i64 0, .int .i64 0] rfl rfl (cell_three_at _ _ (by simp) _ _ _ _) (by simp [Value.oneCell']) (by simp [maxLen]; omega) (by omega) (by simp; omega) ?_; intro v' w4 hown' hgrow _))
            have hb4 := hid (own_grow (Bl.alloc HB1.out _) (B := w.heap.size) (Nat.le_refl _) (fun j hj => by have := (HO.out.lt j hj).1; omega) hgrow)
            have hp4 := hid ((HP1.out.alloc _).grown hgrow (fun e => by have := (HO.out.lt _ e.symm).1; omega))
            clear hgrow
            go_roundw
            case rel => exact ⟨k + 1, by omega, by go_num, hb4, hp4, by rw [movesTo_yes HK.out HLo.out HHi.out]; exact hid (by simpa [flat3] using hown')⟩
            case measure => simp [intOf]; omega
    · have hke : k = (2 * b + 1).toNat := by omega
      have HE : Hid (movesTo b r o k = movesL b r o) := by rw [hke]; exact hid rfl
      have hlt' : decide ((k : Int) - b ≤ b) = false := by simp; omega
      rw [HE.out] at HO
      have HT := hid (trips_of_own HO.out)
      clear HO HE hke
      go_wp2_with fail
      go_ret2
      exact ⟨_, rfl, HT.out, HB.out⟩
/-- aneroidref03.Moves. -/
theorem rMoves_any (b l h r o : Int) (w : World) :
    Calls Try.prog 52 #[.agg #[.int .i64 b, .int .i64 l, .int .i64 h, .int .i64 r], .int .i64 o] w (RetTE (movesF b l h r o).1 (movesF b l h r o).2 w) := by
  unfold movesF
  cases hp : penOk b l h r
  · simpa using rmoves_badpen b l h r o w (hid hp)
  · cases ho : withinB o (-b) b
    · simpa using rmoves_badoff b l h r o w (hid hp) (hid ho)
    · have := rmoves_ok b l h r o w (hid hp) (by simp [withinB] at ho; omega) (by simp [withinB] at ho; omega)
      simpa using this
end Go.Proofs.Ytdopgaljbpjpcaa
