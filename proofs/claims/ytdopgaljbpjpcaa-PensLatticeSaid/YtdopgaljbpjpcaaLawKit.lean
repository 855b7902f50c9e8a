/- From a law's given statement to its walk: arguments opened, arguments read back. -/
import Derived.Test.YtdopgaljbpjpcaaAwake
import Derived.JoinedTies
import Derived.ChangeSame
import Derived.JoinedOf
import Derived.JoinedAt
import Derived.JoinedStill
import Derived.ProofKit
import Derived.OpenShut
import Derived.Below
import Derived.Carry
namespace Go.Proofs.Ytdopgaljbpjpcaa
open Go.ChangeShapes Go.WideShapes Go.ChangeAt Go.RowKit
set_option maxRecDepth 100000

theorem Try.own : ownKnob Try.prog.godebug = none := by kernel_rfl
theorem laidOut : laidOutB Try.prog = true := by kernel_rfl
theorem cells3 : Try.prog.cellsOf 3 = 1 := by kernel_rfl
theorem cells23 : Try.prog.cellsOf 23 = 2 := by kernel_rfl
theorem cells25 : Try.prog.cellsOf 25 = 4 := by kernel_rfl
theorem cells59 : Try.prog.cellsOf 59 = 2 := by kernel_rfl

theorem int_range {n : Int} (h : (Lit.int .i64 n).wf = true) : -9223372036854775808 ≤ n ∧ n ≤ 9223372036854775807 := by
  simpa [Lit.wf, IntKind.min, IntKind.max, IntKind.signed, IntKind.bits] using h
section
variable {H : Type} {enc : TypeId × Value → H}
/-- Arguments read behind a call, that turned nothing that lay, as they read before it. -/
theorem trodAll_belowP {P : Program} (hlo : laidOutB P = true) {W W' : World} (hb : Below W.heap.size W W') (ts : List TypeId) : ∀ (vs : List Value) (ds : List (DataW H)) (ps : List MemPlace), ts.all (fun t => P.readableRec t && decide (t < P.types.size)) = true →
    DataW.TrodAll enc P W 0 (fun _ => true) true ts vs ds ps → (∀ x ∈ ps, x.block < W.heap.size) → DataW.TrodAll enc P W' 0 (fun b => decide (b < W.heap.size)) true ts vs ds ps := by
  induction ts with
  | nil =>
    intro vs ds ps _ h _
    obtain ⟨rfl, rfl, rfl⟩ := trodAll_nil h
    exact trodAll_mk0
  | cons t ts ih =>
    intro vs ds ps hr h hlt
    obtain ⟨v, vs', d, ds', p, q, rfl, rfl, rfl, h1, h2⟩ := trodAll_cons h
    simp only [List.all_cons, Bool.and_eq_true, decide_eq_true_eq] at hr
    exact trodAll_cons_mk (Below.trod hlo hr.1.1 hr.1.2 h1 hb (fun x hx => hlt x (List.mem_append_left _ hx))) (ih vs' ds' q (by simpa using hr.2) h2 (fun x hx => hlt x (List.mem_append_right _ hx)))

theorem take_two {α : Type} {l : List α} (h : l.length = 2) : ∃ a b, l = [a, b] := by
  match l, h with
  | [a, b], _ => exact ⟨a, b, rfl⟩
theorem take_four {α : Type} {l : List α} (h : l.length = 4) : ∃ a b c d, l = [a, b, c, d] := by
  match l, h with
  | [a, b, c, d], _ => exact ⟨a, b, c, d, rfl⟩
theorem trod_two {t : TypeId} {W : World} {base : Nat} {spare : Nat → Bool} {held : Bool} {fuel : Nat} {cs : List Value} {x : DataW H × List MemPlace} {f0 f1 : Field} (ht : Try.prog.underlying t = some (.struct #[f0, f1])) (h0 : f0.type = 3 ∧ f0.offset = 0) (h1 : f1.type = 3 ∧ f1.offset = 1) (hc : Try.prog.cellsOf t = 2)
    (h : DataW.trod enc Try.prog W base spare held fuel t cs = some x) : ∃ a b : Int, cs = [.int .i64 a, .int .i64 b] := by
  obtain ⟨y0, y1, n, _, hl, g0, g1⟩ := trod_struct2 ht h
  obtain ⟨a, b, rfl⟩ := take_two (hl.trans hc)
  rw [h0.1, h0.2, cells3] at g0
  rw [h1.1, h1.2, cells3] at g1
  obtain ⟨n0, e0, _⟩ := DataW.trod_int Try.underlying3 g0
  obtain ⟨n1, e1, _⟩ := DataW.trod_int Try.underlying3 g1
  simp at e0 e1
  exact ⟨n0, n1, by rw [e0, e1]⟩
theorem open_span {W : World} {base b0 : Nat} {spare : Nat → Bool} {held : Bool} {r : Reach} {v : Value} {d : DataW H} {ps : List MemPlace} (hval : Value.okWide Try.prog W r b0 23 v) (h : DataW.Trod enc Try.prog W base spare held 23 v d ps) :
    ∃ a b : Int, v = .agg #[.int .i64 a, .int .i64 b] := by
  obtain ⟨cs, rfl, _⟩ := okWide_struct under23 hval
  obtain ⟨fuel, hf⟩ := h
  have hu : Try.prog.underlying 23 = some (.struct #[_, _]) := Try.underlying23
  obtain ⟨a, b, e⟩ := trod_two hu ⟨rfl, rfl⟩ ⟨rfl, rfl⟩ cells23 hf
  obtain ⟨l⟩ := cs
  simp [Value.cells] at e
  exact ⟨a, b, by rw [e]⟩
theorem open_moment {W : World} {base b0 : Nat} {spare : Nat → Bool} {held : Bool} {r : Reach} {v : Value} {d : DataW H} {ps : List MemPlace} (hval : Value.okWide Try.prog W r b0 59 v) (h : DataW.Trod enc Try.prog W base spare held 59 v d ps) :
    ∃ a b : Int, v = .agg #[.int .i64 a, .int .i64 b] := by
  obtain ⟨cs, rfl, _⟩ := okWide_struct under59 hval
  obtain ⟨fuel, hf⟩ := h
  have hu : Try.prog.underlying 59 = some (.struct #[_, _]) := Try.underlying59
  obtain ⟨a, b, e⟩ := trod_two hu ⟨rfl, rfl⟩ ⟨rfl, rfl⟩ cells59 hf
  obtain ⟨l⟩ := cs
  simp [Value.cells] at e
  exact ⟨a, b, by rw [e]⟩
theorem trod_pen {t : TypeId} {W : World} {base : Nat} {spare : Nat → Bool} {held : Bool} {fuel : Nat} {cs : List Value} {x : DataW H × List MemPlace} {f0 f1 f2 : Field} (ht : Try.prog.underlying t = some (.struct #[f0, f1, f2])) (h0 : f0.type = 3 ∧ f0.offset = 0) (h1 : f1.type = 23 ∧ f1.offset = 1) (h2 : f2.type = 3 ∧ f2.offset = 3) (hc : Try.prog.cellsOf t = 4)
    (h : DataW.trod enc Try.prog W base spare held fuel t cs = some x) : ∃ b l h r : Int, cs = [.int .i64 b, .int .i64 l, .int .i64 h, .int .i64 r] := by
  obtain ⟨xs, n, _, _, hl, hlen, hg⟩ := DataW.trod_struct ht h
  obtain ⟨c0, c1, c2, c3, rfl⟩ := take_four (hl.trans hc)
  have g0 := hg 0 f0 rfl
  have g1 := hg 1 f1 rfl
  have g2 := hg 2 f2 rfl
  rw [h0.1, h0.2, cells3] at g0
  rw [h1.1, h1.2, cells23] at g1
  rw [h2.1, h2.2, cells3] at g2
  have k : xs.length = 3 := by simpa using hlen
  have e0 : xs[0]? = some (xs[0]'(by omega)) := List.getElem?_eq_getElem (by omega)
  have e1 : xs[1]? = some (xs[1]'(by omega)) := List.getElem?_eq_getElem (by omega)
  have e2 : xs[2]? = some (xs[2]'(by omega)) := List.getElem?_eq_getElem (by omega)
  rw [e0] at g0; rw [e1] at g1; rw [e2] at g2
  obtain ⟨n0, k0, _⟩ := DataW.trod_int Try.underlying3 g0
  have hu3 : Try.prog.underlying 23 = some (.struct #[_, _]) := Try.underlying23
  obtain ⟨n1, n2, k1⟩ := trod_two hu3 ⟨rfl, rfl⟩ ⟨rfl, rfl⟩ cells23 g1
  obtain ⟨n3, k3, _⟩ := DataW.trod_int Try.underlying3 g2
  simp at k0 k1 k3
  exact ⟨n0, n1, n2, n3, by rw [k0, k1.1, k1.2, k3]⟩
theorem open_pen {W : World} {base b0 : Nat} {spare : Nat → Bool} {held : Bool} {r : Reach} {v : Value} {d : DataW H} {ps : List MemPlace} (hval : Value.okWide Try.prog W r b0 25 v) (h : DataW.Trod enc Try.prog W base spare held 25 v d ps) :
    ∃ b l h r : Int, v = .agg #[.int .i64 b, .int .i64 l, .int .i64 h, .int .i64 r] := by
  obtain ⟨cs, rfl, _⟩ := okWide_struct under25 hval
  obtain ⟨fuel, hf⟩ := h
  have hu : Try.prog.underlying 25 = some (.struct #[_, _, _]) := Try.underlying25
  obtain ⟨b, l, h, r, e⟩ := trod_pen hu ⟨rfl, rfl⟩ ⟨rfl, rfl⟩ ⟨rfl, rfl⟩ cells25 hf
  obtain ⟨l⟩ := cs
  simp [Value.cells] at e
  exact ⟨b, _, h, r, by rw [e]⟩
theorem open_list {W : World} {base b0 : Nat} {spare : Nat → Bool} {held : Bool} {r : Reach} {v : Value} {d : DataW H} {ps : List MemPlace} (hval : Value.okWide Try.prog W r b0 26 v) (h : DataW.Trod enc Try.prog W base spare held 26 v d ps) :
    ∃ xs, Ints W v xs := by
  obtain ⟨a0, len, cap, rfl⟩ := okWide_slice Try.underlying26 hval
  obtain ⟨fuel, hf⟩ := h
  rcases open_ints Try.underlying26 Try.underlying3 cells3 hf with ⟨hcs, _⟩ | ⟨a, len', cap', zs, hcs, _, hl, hm, hz, _, hcell, hwz⟩
  · simp [Value.cells] at hcs
    obtain ⟨rfl, rfl, rfl⟩ := hcs
    exact ⟨[], Ints.nil⟩
  · simp [Value.cells] at hcs
    obtain ⟨rfl, rfl, rfl⟩ := hcs
    have hlz : len ≤ zs.length := by rw [hz]; split <;> omega
    have hlen : (zs.take len).length = len := by simp; omega
    refine ⟨zs.take len, some a, cap, by rw [hlen], by omega, hm, fun h0 => ?_⟩
    obtain ⟨b, off, spot⟩ := a
    have hspot : spot = none := by simpa [Addr.add] using World.cell?_spot (hcell 0 (by omega))
    subst hspot
    refine ⟨b, off, rfl, fun k hk => ?_⟩
    have := hcell k (by omega)
    have hk' : k < len := by omega
    have hkz : k < zs.length := by omega
    rw [show (⟨b, off, none⟩ : Addr).add k = ⟨b, off + k, none⟩ by unfold Addr.add; split <;> simp_all] at this
    rw [this]
    simp [List.getD_eq_getElem?_getD, hk', hkz]
end
end Go.Proofs.Ytdopgaljbpjpcaa
