/- The given statement PensMovesSaid: for every input the law returns true, and each argument reads as it read. No condition. Ahead of it: slices of structs of two numbers. -/
import Derived.Test.YtdopgaljbpjpcaaLawKit
import Derived.Deep.Slices
import Derived.Deep.Fields
import Derived.Test.YtdopgaljbpjpcaaWMoves
namespace Go.Proofs.Ytdopgaljbpjpcaa
open Go.ChangeShapes Go.WideShapes Go.ChangeAt Go.RowKit Go.Deep
set_option maxRecDepth 100000

section
variable {H : Type} {enc : TypeId × Value → H} {P : Program} {w : World} {base : Nat} {spare : Nat → Bool} {held : Bool}
theorem open_slice_fields {t e : TypeId} {fs : Array Field} {fuel : Nat} {cs : List Value} {x : DataW H × List MemPlace} (ht : P.underlying t = some (.slice e)) (he : P.underlying e = some (.struct fs))
    (hone : oneCellFields P fs = true) (hC : P.cellsOf e = fs.size) (h : DataW.trod enc P w base spare held fuel t cs = some x) :
    (cs = [.slice none 0 0] ∧ x = (.nil, [])) ∨
    ∃ (a : Addr) (len cap m : Nat) (D : Nat → DataW H) (Pl : Nat → List MemPlace), cs = [.slice (some a) len cap] ∧ base ≤ a.block ∧ len ≤ cap ∧ cap ≤ maxLen ∧ m = (if spare a.block then cap else len) ∧
      x = (.slice ((List.range len).map D) ((List.range (m - len)).map fun j => D (len + j)), MemPlace.row a (m * fs.size) ++ (List.range m).flatMap Pl) ∧
      ∀ i, i < m → ∃ (ys : List (DataW H × List MemPlace)) (n : Nat), D i = .agg (ys.map (·.1)) ∧ Pl i = ys.flatMap (·.2) ∧ ys.length = fs.size ∧
        ∀ (j : Nat) (f : Field), fs[j]? = some f → ∃ (v : Value) (y : DataW H × List MemPlace), w.cell? (a.add (i * fs.size + j)) = some v ∧ ys[j]? = some y ∧ DataW.trod enc P w base spare held n f.type [v] = some y := by
  rcases open_slice ht h with h0 | ⟨a, len, cap, m, n, D, Pl, hcs, hb, hl, hm, hmm, hx, hi⟩
  · exact .inl h0
  · refine .inr ⟨a, len, cap, m, D, Pl, hcs, hb, hl, hm, hmm, by rw [hC] at hx; exact hx, fun i him => ?_⟩
    obtain ⟨cs', hc, ht'⟩ := hi i him
    rw [hC] at hc
    obtain ⟨ys, n', hn', hy, hlen, hyl, hf⟩ := DataW.trod_struct he ht'
    obtain ⟨_, hcl, hat⟩ := World.cells?_some hc
    simp only [Prod.mk.injEq] at hy
    refine ⟨ys, n', hy.1, hy.2, hyl, fun j f hj => ?_⟩
    obtain ⟨ho, hk⟩ := hone_of hone j f hj
    have hjl : j < fs.size := (Array.getElem?_eq_some_iff.1 hj).1
    have hcell := hat j hjl
    have hv : cs'[j]? = some (cs'[j]'(by omega)) := List.getElem?_eq_getElem (by omega)
    have h1 := hf j f hj
    rw [ho, hk] at h1
    have hone' : (cs'.drop j).take 1 = [cs'[j]'(by omega)] := by
      rw [List.drop_eq_getElem_cons (by omega)]
      rfl
    rw [hone'] at h1
    have hys : ys[j]? = some (ys[j]'(by omega)) := List.getElem?_eq_getElem (by omega)
    refine ⟨_, _, ?_, hys, h1.trans hys⟩
    rw [← Go.Deep.add_add, hcell, hv]
end
section
variable {H : Type} {enc : TypeId × Value → H}
theorem under64 : Try.prog.underlying 64 = some (.slice 59) := Try.underlying64
/-- A slice of moments comes in. -/
theorem open_moments {W : World} {base b0 : Nat} {spare : Nat → Bool} {held : Bool} {r : Reach} {v : Value} {d : DataW H} {ps : List MemPlace} (hval : Value.okWide Try.prog W r b0 64 v) (h : DataW.Trod enc Try.prog W base spare held 64 v d ps) :
    ∃ xs, Pairs W v xs := by
  obtain ⟨a0, len, cap, rfl⟩ := okWide_slice under64 hval
  obtain ⟨fuel, hf⟩ := h
  rcases open_slice_fields under64 under59 (by kernel_rfl) (by kernel_rfl) hf with ⟨hcs, _⟩ | ⟨a, len', cap', m, D, Pl, hcs, _, hl, hm, hmm, _, hi⟩
  · simp [Value.cells] at hcs
    obtain ⟨rfl, rfl, rfl⟩ := hcs
    exact ⟨[], Pairs.nil⟩
  · simp [Value.cells] at hcs
    obtain ⟨rfl, rfl, rfl⟩ := hcs
    have hlm : len ≤ m := by rw [hmm]; split <;> omega
    have hsz : (Try.prog.fieldsOf 59).size = 2 := by kernel_rfl
    have key : ∀ k, k < len → ∃ x y : Int, W.cell? (a.add (k * 2)) = some (.int .i64 x) ∧ W.cell? (a.add (k * 2 + 1)) = some (.int .i64 y) := by
      intro k hk
      obtain ⟨ys, n, _, _, _, hj⟩ := hi k (by omega)
      rw [hsz] at hj
      obtain ⟨f0, e0⟩ : ∃ f0, (Try.prog.fieldsOf 59)[0]? = some f0 := ⟨_, rfl⟩
      obtain ⟨f1, e1⟩ : ∃ f1, (Try.prog.fieldsOf 59)[1]? = some f1 := ⟨_, rfl⟩
      have t0 : f0.type = 3 := by
        have : ((Try.prog.fieldsOf 59)[0]?).map (·.type) = some 3 := by kernel_rfl
        rw [e0] at this; simpa using this
      have t1 : f1.type = 3 := by
        have : ((Try.prog.fieldsOf 59)[1]?).map (·.type) = some 3 := by kernel_rfl
        rw [e1] at this; simpa using this
      obtain ⟨v0, y0, c0, _, g0⟩ := hj 0 f0 e0
      obtain ⟨v1, y1, c1, _, g1⟩ := hj 1 f1 e1
      rw [t0] at g0
      rw [t1] at g1
      obtain ⟨n0, k0, _⟩ := DataW.trod_int Try.underlying3 g0
      obtain ⟨n1, k1, _⟩ := DataW.trod_int Try.underlying3 g1
      simp at k0 k1
      subst k0 k1
      exact ⟨n0, n1, by simpa using c0, c1⟩
    obtain ⟨b, off, spot⟩ := a
    let g : Nat → Int × Int := fun k => if hk : k < len then ((key k hk).choose, (key k hk).choose_spec.choose) else (0, 0)
    have hg : ∀ k, k < len → W.cell? ((⟨b, off, spot⟩ : Addr).add (k * 2)) = some (.int .i64 (g k).1) ∧ W.cell? ((⟨b, off, spot⟩ : Addr).add (k * 2 + 1)) = some (.int .i64 (g k).2) := by
      intro k hk
      have := (key k hk).choose_spec.choose_spec
      simp only [g, hk, dif_pos]
      exact this
    have hlen : ((List.range len).map g).length = len := by simp
    refine ⟨(List.range len).map g, some ⟨b, off, spot⟩, cap, by rw [hlen], by omega, hm, fun h0 => ?_⟩
    rw [hlen] at h0
    have hspot : spot = none := by simpa [Addr.add] using World.cell?_spot (hg 0 h0).1
    subst hspot
    refine ⟨b, off, rfl, fun k hk => ?_⟩
    have hk' : k < len := by rw [hlen] at hk; exact hk
    have e : ∀ j, (⟨b, off, none⟩ : Addr).add j = ⟨b, off + j, none⟩ := fun j => by unfold Addr.add; split <;> simp_all
    obtain ⟨c1, c2⟩ := hg k hk'
    rw [e] at c1 c2
    simp only [List.getElem_map, List.getElem_range]
    exact ⟨c1, by rw [← Nat.add_assoc] at c2; exact c2⟩
end
end Go.Proofs.Ytdopgaljbpjpcaa
namespace Go.Proofs.Ytdopgaljbpjpcaa.pensMoves
open Go.ChangeShapes Go.WideShapes Go.ChangeAt Go.RowKit
set_option maxRecDepth 100000

theorem lifted (os : Os) (started : os.Started) (H : Type) (enc : TypeId × Value → H) :
    ReturnsInHanded {} Try.checked os 14 .any (Rows.pensMovesSpec.pre6 enc Try.prog Try.f14 Rows.pensMovesRow.domain false) (Rows.pensMovesSpec.post enc Try.prog Try.f14 false true false false) := by
  refine returnsInHanded_of_change (C := Try.checked) Try.own started (by kernel_rfl) Try.func14
    (ChangeSpec.witness6 (enc := enc) (C := Try.checked) false ⟨#[], #[.agg #[.int .i64 0, .int .i64 0, .int .i64 0, .int .i64 0], .slice none 0 0, .int .i64 0], []⟩ 8 (by kernel_rfl) (by kernel_rfl) (by kernel_rfl) (by kernel_rfl)) ?_
  intro W base args ds gs before hval0 hW _ _
  have hval : ∀ (j : Nat) t v, Try.f14.params[j]? = some t → args[j]? = some v → Value.okWide Try.prog W .any base t v := hval0
  have hW' := hW
  obtain ⟨p, q, hA0, hV, rfl, _, _⟩ := hW
  have hA : DataW.TrodAll enc Try.prog W 0 (fun _ => true) true Try.f14.params.toList args.toList ds p := hA0
  rw [Try.params14] at hA hval
  have hA1 := hA
  clear hA0 hval0
  obtain ⟨v0, vs0, d0, ds0, p0, q0, hargs, rfl, rfl, h0, r0⟩ := trodAll_cons hA
  obtain ⟨v1, vs1, d1, ds1, p1, q1, rfl, rfl, rfl, h1, r1⟩ := trodAll_cons r0
  obtain ⟨v2, vs2, d2, ds2, p2, q2, rfl, rfl, rfl, h2, r2⟩ := trodAll_cons r1
  obtain ⟨rfl, rfl, rfl⟩ := trodAll_nil r2
  obtain rfl : args = #[v0, v1, v2] := by cases args; simp_all
  obtain ⟨rfl, rfl⟩ := trodVars_none hV
  obtain ⟨b0, l0, u0, e0, rfl⟩ := open_pen (hval 0 25 v0 rfl rfl) h0
  obtain ⟨xs1, hx1⟩ := open_moments (hval 1 64 v1 rfl rfl) h1
  obtain ⟨n2, rfl, _, _, _⟩ := open_int Try.underlying3 (hval 2 3 v2 rfl rfl) h2
  refine (walkMoves b0 l0 u0 e0 v1 xs1 n2 W hx1).mono fun e W' ⟨he, hb⟩ => ?_
  subst he
  exact ⟨_, rfl, ⟨_, _, _, [], _, [], hW', trodAll_mk1 (shut_bool Try.underlying4 true), trodAll_belowP laidOut hb _ _ _ _ (by kernel_rfl) hA1 (fun x hx => hW'.lt x (by simpa using hx)), rfl, hb.frame _, fun h => by cases h⟩⟩

theorem proved : Rows.PensMovesSaid :=
  OpenClaim.holds_of_wide 14 Try.f14 rfl rfl rfl rfl rfl rfl rfl ⟨rfl, rfl, rfl, rfl, rfl⟩ rfl rfl rfl rfl rfl (by kernel_rfl) Try.func14 (by kernel_rfl)
    (of_decide_eq_true (by kernel_rfl)) (by unfold Func.isWrapper; first | (rw [if_pos (by decide +kernel)]; kernel_rfl) | (rw [if_neg (by decide +kernel)]; exact ⟨rfl, rfl⟩))
    (fun os started H enc _ => lifted os started H enc)
end Go.Proofs.Ytdopgaljbpjpcaa.pensMoves
