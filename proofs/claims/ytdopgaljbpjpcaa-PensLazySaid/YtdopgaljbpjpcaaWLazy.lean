/- The walk of the law PensLazy. -/
import Derived.Test.YtdopgaljbpjpcaaLawTools
import Derived.BigQuiet
import Derived.Deep.QuietTactic
namespace Go.Proofs.Ytdopgaljbpjpcaa
open Go.RowKit

set_option maxRecDepth 100000 in
set_option maxHeartbeats 4000000 in
theorem walkLazy_few (b l h r f : Int) (v : Value) (xs : List Int) (u : Value) (ls : List Int) (w : World) (hv : Ints w v xs) (ht : Hid (decide (xs.length ≤ 500) = false)) :
    Calls Try.prog 4 #[.agg #[.int .i64 b, .int .i64 l, .int .i64 h, .int .i64 r], .int .i64 f, v, u] w fun e w' => e = .returned (.bool true) ∧ Below w.heap.size w w' := by
  go_enter Try.func4, Try.ntmps4
  go_wp2_with fail
  refine (awake_any _).mono ?_
  rintro e w1 ⟨rfl, hb1⟩
  go_wp2_with fail
  refine (few_at v xs false _ (hv.below (bl1 hb1)) ht).mono ?_
  rintro e w2 ⟨rfl, rfl⟩
  go_wp2_with fail
  go_ret
  exact ⟨rfl, bl1 hb1⟩
set_option maxRecDepth 100000 in
set_option maxHeartbeats 4000000 in
theorem walkLazy_len (b l h r f : Int) (v : Value) (xs : List Int) (u : Value) (ls : List Int) (w : World) (hv : Ints w v xs) (hu : Ints w u ls) (ht : Hid (decide (xs.length ≤ 500) = true)) (hn : Hid (((ls.length : Int) != xs.length) = true)) :
    Calls Try.prog 4 #[.agg #[.int .i64 b, .int .i64 l, .int .i64 h, .int .i64 r], .int .i64 f, v, u] w fun e w' => e = .returned (.bool true) ∧ Below w.heap.size w w' := by
  obtain ⟨a, c, rfl, hm⟩ := hv.shape
  obtain ⟨a', c', rfl, hm'⟩ := hu.shape
  have hn' := hn.out
  go_enter Try.func4, Try.ntmps4
  go_wp2_with fail
  refine (awake_any _).mono ?_
  rintro e w1 ⟨rfl, hb1⟩
  go_wp2_with fail
  refine (few_at _ xs true _ (hv.below (bl1 hb1)) ht).mono ?_
  rintro e w2 ⟨rfl, rfl⟩
  go_wp2_with fail
  go_ret
  exact ⟨rfl, bl1 hb1⟩
set_option maxRecDepth 100000 in
set_option maxHeartbeats 4000000 in
theorem walkLazy_err (b l h r f : Int) (v : Value) (xs : List Int) (u : Value) (ls : List Int) (w : World) (hv : Ints w v xs) (hu : Ints w u ls) (ht : Hid (decide (xs.length ≤ 500) = true)) (hn : Hid (((ls.length : Int) != xs.length) = false))
    (L : List Int) (y : Int) (hp : Hid (followF b l h r f xs = (L, y))) (hy : Hid ((y != 0) = true)) :
    Calls Try.prog 4 #[.agg #[.int .i64 b, .int .i64 l, .int .i64 h, .int .i64 r], .int .i64 f, v, u] w fun e w' => e = .returned (.bool true) ∧ Below w.heap.size w w' := by
  obtain ⟨a, c, rfl, hm⟩ := hv.shape
  obtain ⟨a', c', rfl, hm'⟩ := hu.shape
  have hn' := hn.out
  have hy' := hy.out
  go_enter Try.func4, Try.ntmps4
  go_wp2_with fail
  refine (awake_any _).mono ?_
  rintro e w1 ⟨rfl, hb1⟩
  go_wp2_with fail
  refine (few_at _ xs true _ (hv.below (bl1 hb1)) ht).mono ?_
  rintro e w2 ⟨rfl, rfl⟩
  have P1 := hid ((Pbx.new _ b l h r w 25 rfl).next hb1)
  have B1 := hid (bl1 hb1)
  obtain ⟨q0, q1, q2, q3, q4⟩ := P1.out
  clear hb1
  go_wp2_with fail
  refine (follow_g _ _ _ _ _ _ xs _ (hv.below B1.out) _ _ hp).mono ?_
  rintro e w2 ⟨a2, c2, rfl, v2, hb⟩
  go_wp2_with fail
  go_ret
  exact ⟨rfl, Bl.call B1.out hb⟩
set_option maxRecDepth 100000 in
set_option maxHeartbeats 4000000 in
theorem walkLazy_first (b l h r f : Int) (v : Value) (xs : List Int) (u : Value) (ls : List Int) (w : World) (hv : Ints w v xs) (hu : Ints w u ls) (ht : Hid (decide (xs.length ≤ 500) = true)) (hn : Hid (((ls.length : Int) != xs.length) = false))
    (L : List Int) (hp : Hid (followF b l h r f xs = (L, 0))) (hx : 0 < ls.length) (hf : Hid ((ls[0] != f) = true)) :
    Calls Try.prog 4 #[.agg #[.int .i64 b, .int .i64 l, .int .i64 h, .int .i64 r], .int .i64 f, v, u] w fun e w' => e = .returned (.bool true) ∧ Below w.heap.size w w' := by
  obtain ⟨a, c, rfl, hm⟩ := hv.shape
  obtain ⟨a', c', rfl, hm'⟩ := hu.shape
  have hn' := hn.out
  have hf' := hf.out
  have hx' : (0 : Int) < ls.length := by omega
  go_enter Try.func4, Try.ntmps4
  go_wp2_with fail
  refine (awake_any _).mono ?_
  rintro e w1 ⟨rfl, hb1⟩
  go_wp2_with fail
  refine (few_at _ xs true _ (hv.below (bl1 hb1)) ht).mono ?_
  rintro e w2 ⟨rfl, rfl⟩
  have P1 := hid ((Pbx.new _ b l h r w 25 rfl).next hb1)
  have B1 := hid (bl1 hb1)
  obtain ⟨q0, q1, q2, q3, q4⟩ := P1.out
  clear hb1
  go_wp2_with fail
  refine (follow_g _ _ _ _ _ _ xs _ (hv.below B1.out) _ _ hp).mono ?_
  rintro e w2 ⟨a2, c2, rfl, v2, hb⟩
  obtain ⟨b0, o0, rfl, c0⟩ := (hu.below (Bl.call B1.out hb)).cell0 hx
  go_wp2_with fail
  go_ret
  exact ⟨rfl, Bl.call B1.out hb⟩

set_option maxRecDepth 100000 in
set_option maxHeartbeats 4000000 in
theorem walkLazy_loop (b l h r f : Int) (v : Value) (xs : List Int) (u : Value) (ls : List Int) (w : World) (hv : Ints w v xs) (hu : Ints w u ls) (ht : Hid (decide (xs.length ≤ 500) = true)) (hn : Hid (((ls.length : Int) != xs.length) = false)) (hlen : Hid (ls.length = xs.length))
    (hp : Hid (followF b l h r f xs = (shownL b f xs, 0))) (hx : 0 < ls.length) (hx4 : xs.length ≤ 401) (hf : Hid ((ls[0] != f) = false)) (hf' : Hid (ls.head? = some f)) (hlv : Hid (∀ x ∈ xs, -50000 ≤ x ∧ x ≤ 50000)) (hb0 : 0 ≤ b) (hb8 : b ≤ 8) (hf2 : -50000 ≤ f ∧ f ≤ 50000) :
    Calls Try.prog 4 #[.agg #[.int .i64 b, .int .i64 l, .int .i64 h, .int .i64 r], .int .i64 f, v, u] w fun e w' => e = .returned (.bool true) ∧ Below w.heap.size w w' := by
  obtain ⟨a, c, rfl, hm⟩ := hv.shape
  obtain ⟨a', c', rfl, hm'⟩ := hu.shape
  have hn' := hn.out
  have hfq := hf.out
  have hx' : (0 : Int) < ls.length := by omega
  have HV := hid hv; have HU := hid hu
  clear hv hu
  go_enter Try.func4, Try.ntmps4
  go_wp2_with fail
  refine (awake_any _).mono ?_
  rintro e w1 ⟨rfl, hb1⟩
  go_wp2_with fail
  refine (few_at _ xs true _ (HV.out.below (bl1 hb1)) ht).mono ?_
  rintro e w2 ⟨rfl, rfl⟩
  have P1 := hid ((Pbx.new _ b l h r w 25 rfl).next hb1)
  have B1 := hid (bl1 hb1)
  obtain ⟨q0, q1, q2, q3, q4⟩ := P1.out
  clear hb1
  go_wp2_with fail
  refine (follow_g _ _ _ _ _ _ xs _ (HV.out.below B1.out) _ _ hp).mono ?_
  rintro e w2 ⟨a2, c2, rfl, v2, hb⟩
  have P2 := hid (P1.out.next hb)
  have B2 := hid (Bl.call B1.out hb)
  obtain ⟨b0, o0, rfl, c0⟩ := (HU.out.below B2.out).cell0 hx
  clear hb P1 B1 q0 q1 q2 q3 q4
  go_wp2_with fail
  clear c0
  go_loopw [12] (fun i wr => ∃ k : Nat, k ≤ ls.length ∧ i = .int .i64 k ∧ Below w2.heap.size w2 wr ∧ Hid (∀ j, (h : j < ls.length) → (h' : j < xs.length) → j < k → xs[j] - b ≤ ls[j] ∧ ls[j] ≤ xs[j] + b)) (fun i _ => ls.length - (intOf i).toNat)
  case atStart => exact ⟨0, by omega, rfl, Below.refl _ _, fun j _ _ hj => by omega⟩
  case round =>
    obtain ⟨k, hk, rfl, hbw, HN⟩ := hrel
    by_cases hlt : k < ls.length
    · have hlt' : k < xs.length := by have := hlen.out; omega
      have hxb := hlv.out xs[k] (List.getElem_mem _)
      obtain ⟨b1, o1, e1, c1⟩ := (HU.out.below (Bl.call B2.out hbw)).cellAt hlt
      cases e1
      obtain ⟨b2, o2, rfl, c2⟩ := (HV.out.below (Bl.call B2.out hbw)).cellAt hlt'
      obtain ⟨q0, _, _, _, q4⟩ := P2.out.next hbw
      have HS : Hid (∀ x y : Int, xs[k] = x → ls[k] = y → x - b ≤ y ∧ y ≤ x + b → ∀ j, (h : j < ls.length) → (h' : j < xs.length) → j < k + 1 → xs[j] - b ≤ ls[j] ∧ ls[j] ≤ xs[j] + b) := by
        intro x y hx hy hxy j h h' hj
        by_cases e : j = k
        · subst e; rw [hx, hy]; exact hxy
        · exact HN.out j h h' (by omega)
      have HS' := hid (HS.out _ _ rfl rfl)
      generalize hgx : xs[k] = x at *
      generalize hgy : ls[k] = y at *
      clear hgx hgy HS
      obtain ⟨hxb1, hxb2⟩ := hxb
      have f0 : (0 : Int) ≤ (k : Int) := by omega
      have f1 : (k : Int) < ls.length := by omega
      have f2 : (k : Int) < xs.length := by omega
      have f3 : IntKind.i64.wrap (x - b) = x - b := IntWalk.i64_in _ (by omega)
      have f4 : IntKind.i64.wrap (x + b) = x + b := IntWalk.i64_in _ (by omega)
      by_cases hA : y < x - b
      · have g1 : decide (y < x - b) = true := by simpa using hA
        go_wp2_with fail
        go_quiet (fail)
        clear f3 f4
        go_wp2_with fail
        go_ret
        exact ⟨rfl, Bl.call B2.out (Bl.drewN hbw _)⟩
      · have g1 : decide (y < x - b) = false := by simpa using hA
        by_cases hB : x + b < y
        · have g2 : decide (x + b < y) = true := by simpa using hB
          go_wp2_with fail
          go_quiet (fail)
          clear f3 f4
          go_wp2_with fail
          go_ret
          exact ⟨rfl, Bl.call B2.out (Bl.drewN hbw _)⟩
        · have g2 : decide (x + b < y) = false := by simpa using hB
          have HS2 := hid (HS'.out ⟨by omega, by omega⟩)
          go_wp2_with fail
          go_quiet (fail)
          clear f3 f4
          go_wp2_with fail
          go_roundw
          case rel => exact ⟨k + 1, by omega, by go_num, Bl.drewN hbw _, HS2.out⟩
          case measure => simp [intOf]; omega
    · have HE : Hid (wayL (shownL b f xs) ≤ wayL ls) := way_shown (nearL_of ls xs hlen.out (fun j h h' => HN.out j h h' (by omega))) hf'.out
      have HL : Hid (∀ x ∈ ls, -100000 ≤ x ∧ x ≤ 100000) := by
        intro x hx
        obtain ⟨j, hj, rfl⟩ := List.getElem_of_mem hx
        have hj' : j < xs.length := by have := hlen.out; omega
        have h1 := HN.out j hj hj' (by omega)
        have h2 := hlv.out xs[j] (List.getElem_mem _)
        omega
      have HL2 : Hid (∀ x ∈ shownL b f xs, -100000 ≤ x ∧ x ≤ 100000) := by
        intro x hx
        have := shown_bd hb0 (by omega) hf2 hlv.out x hx
        omega
      have hl5 : (shownL b f xs).length ≤ 500 := by rw [shownL_len]; omega
      have hl6 : ls.length ≤ 500 := by have := hlen.out; omega
      have HL5 := hid hl5; have HL6 := hid hl6; clear hl5 hl6
      go_wp2_with fail
      refine (way_any _ _ _ (v2.out.below hbw) HL2 HL5.out).mono ?_
      rintro e w4 ⟨rfl, hb4⟩
      go_wp2_with fail
      refine (way_any _ _ _ (HU.out.below (Bl.call B2.out (Bl.call hbw hb4))) HL HL6.out).mono ?_
      rintro e w5 ⟨rfl, hb5⟩
      have hle : decide (wayL (shownL b f xs) ≤ wayL ls) = true := by simpa using HE.out
      go_wp2_with fail
      go_ret
      exact ⟨rfl, Bl.call B2.out (Bl.call (Bl.call hbw hb4) hb5)⟩

theorem walkLazy (b l h r f : Int) (v : Value) (xs : List Int) (u : Value) (ls : List Int) (w : World) (hv : Ints w v xs) (hu : Ints w u ls) :
    Calls Try.prog 4 #[.agg #[.int .i64 b, .int .i64 l, .int .i64 h, .int .i64 r], .int .i64 f, v, u] w fun e w' => e = .returned (.bool true) ∧ Below w.heap.size w w' := by
  cases ht : decide (xs.length ≤ 500)
  · exact walkLazy_few b l h r f v xs u ls w hv (hid ht)
  · by_cases hn : ls.length = xs.length
    · have hn' : ((ls.length : Int) != xs.length) = false := by simp [hn]
      cases hp : followF b l h r f xs with
      | mk L y =>
        rcases followF_cases hp with ⟨hy, rfl, _⟩ | ⟨rfl, rfl, hok⟩
        · exact walkLazy_err b l h r f v xs u ls w hv hu (hid ht) (hid hn') [] y (hid hp) (hid (by simpa using hy))
        · obtain ⟨h1, h2, h3, h4, h5⟩ := followOk_iff.1 hok
          obtain ⟨⟨h6, h7⟩, h8⟩ := listOk_iff.1 h3
          have hb := penOk_iff.1 h1
          have hx : 0 < ls.length := by omega
          cases hf : (ls[0] != f)
          · refine walkLazy_loop b l h r f v xs u ls w hv hu (hid ht) (hid hn') (hid hn) (hid hp) hx (by omega) (hid hf) (hid ?_) (hid h8) hb.1 hb.2.1 (lvl_iff.1 h2)
            have : ls[0] = f := by simpa using hf
            rw [← this]
            exact List.head?_eq_getElem? .. |>.trans (List.getElem?_eq_getElem hx)
          · exact walkLazy_first b l h r f v xs u ls w hv hu (hid ht) (hid hn') _ (hid hp) hx (hid hf)
    · exact walkLazy_len b l h r f v xs u ls w hv hu (hid ht) (hid (by simp; omega))
end Go.Proofs.Ytdopgaljbpjpcaa
