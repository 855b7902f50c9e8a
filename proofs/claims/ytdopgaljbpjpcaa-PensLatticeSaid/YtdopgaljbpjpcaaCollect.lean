/- A variable of the call's own into which the rounds of a range over a function append numbers. -/
import Derived.Test.YtdopgaljbpjpcaaBaseB
import Derived.Test.YtdopgaljbpjpcaaAppend
namespace Go.Proofs.Ytdopgaljbpjpcaa
open Go.RowKit

/-- The block of a variable of its own. -/
def Box (W : World) (B t : Nat) (v : Value) : Prop := W.heap[B]? = some (.cells #[v] t (0, 0))

def ColI (w0 : World) (ob base : Nat) (own : Nat → Prop) (pre : List Int) (W : World) : Prop :=
  ∃ v, Box W ob 26 v ∧ W.ownsRow base 3 1 v pre.length (pre.map (Value.int .i64)) ∧ (∀ k, v.ownBlock = some k → ¬ own k) ∧ Below w0.heap.size w0 W

theorem colI_turn {w0 : World} {ob B : Nat} {own own' : Nat → Prop} {pre : List Int} {X Y : World} (h : ColI w0 ob (B + 2) own pre X) (h0 : w0.heap.size ≤ B) (hob : ob < B) (ho : ∀ k, own k → B + 2 ≤ k ∧ k < X.heap.size) (hBX : B ≤ X.heap.size)
    (ht : Turns (fun k => own k ∨ k = B ∨ k = B + 1) X Y) (hw : ∀ k, own' k → own k ∨ (X.heap.size ≤ k ∧ k < Y.heap.size)) : ColI w0 ob (B + 2) own' pre Y := by
  obtain ⟨v, hv, hr, hd, hb⟩ := h
  refine ⟨v, ?_, ?_, ?_, Turns.below hb ht (by omega) ?_⟩
  · have hlt := (Array.getElem?_eq_some_iff.1 hv).1
    refine (ht.block ob hlt ?_).trans hv
    intro h
    rcases h with h | h | h
    · have := ho ob h; omega
    · omega
    · omega
  · refine ⟨hr.1, ?_⟩
    rcases hr.2 with hn | ⟨g, cap, cur, rfl, hg, hh, r⟩
    · exact .inl hn
    · have hlt := (Array.getElem?_eq_some_iff.1 hh).1
      refine .inr ⟨g, cap, cur, rfl, hg, (ht.block g hlt ?_).trans hh, r⟩
      intro h
      rcases h with h | h | h
      · exact hd g rfl h
      · omega
      · omega
  · intro k hk hk'
    rcases hw k hk' with h | h
    · exact hd k hk h
    · have := (hr.lt k hk).2; omega
  · rintro k (h | h | h)
    · have := ho k h; omega
    · omega
    · omega


theorem colI_append {w0 : World} {ob B : Nat} {own : Nat → Prop} {pre : List Int} {x : Int} {W w1 : World} {v v' : Value} {o : Obj} (hv : Box W ob 26 v) (hr : W.ownsRow (B + 2) 3 1 v pre.length (pre.map (Value.int .i64)))
    (hd : ∀ k, v.ownBlock = some k → ¬ own k) (hb : Below w0.heap.size w0 W) (h0 : w0.heap.size ≤ ob) (hob : ob < B) (ho : ∀ k, own k → B + 2 ≤ k ∧ k < W.heap.size) (hB : B + 2 ≤ W.heap.size)
    (hown' : w1.ownsRow (B + 2) 3 1 v' (pre.length + 1) (pre.map (Value.int .i64) ++ [.int .i64 x])) (hg : (W.alloc o).grownBy w1 v.ownBlock) (hn : SameOrNew (W.alloc o) v v') :
    w1.cell? ⟨ob, 0, none⟩ = some v ∧ w1.frozen? ⟨ob, 0, none⟩ = false ∧ KeepsK B (fun k => k < B ∧ k ≠ ob) own W (w1.setCell ⟨ob, 0, none⟩ v') ∧ ColI w0 ob (B + 2) own (pre ++ [x]) (w1.setCell ⟨ob, 0, none⟩ v') := by
  have hobW : ob < W.heap.size := by omega
  have hrow : ∀ k, v.ownBlock = some k → B + 2 ≤ k ∧ k < W.heap.size := hr.lt
  have hbox : w1.heap[ob]? = some (.cells #[v] 26 (0, 0)) := by
    refine (hg.block ob (by simp; omega) ?_).trans ((Below.heap_alloc W o ob hobW).trans hv)
    intro e; have := hrow ob e.symm; omega
  have hsz : W.heap.size + 1 ≤ w1.heap.size := by have := hg.size; simpa using this
  have hset : ∀ k, k ≠ ob → (w1.setCell ⟨ob, 0, none⟩ v').heap[k]? = w1.heap[k]? := fun k hk => Below.heap_setCell _ _ _ _ hk
  have hsets : (w1.setCell ⟨ob, 0, none⟩ v').heap.size = w1.heap.size := by simp [World.setCell]
  refine ⟨?_, ?_, ⟨by omega, ?_⟩, v', ?_, ?_, ?_, ?_⟩
  · unfold World.cell?; dsimp only; rw [hbox]; rfl
  · unfold World.frozen?; dsimp only; rw [hbox]; rfl
  · intro k hk
    have hk1 : k ≠ ob ∧ k < W.heap.size ∧ v.ownBlock ≠ some k := by
      rcases hk with ⟨h1, h2⟩ | h | h | h
      · exact ⟨h2, by omega, fun e => by have := hrow k e; omega⟩
      · have := ho k h; exact ⟨by omega, this.2, fun e => hd k e h⟩
      · exact ⟨by omega, by omega, fun e => by have := hrow k e; omega⟩
      · exact ⟨by omega, by omega, fun e => by have := hrow k e; omega⟩
    refine (hset k hk1.1).trans ((hg.block k (by simp; omega) ?_).trans (Below.heap_alloc W o k hk1.2.1))
    exact fun e => hk1.2.2 e.symm
  · show (w1.setCell ⟨ob, 0, none⟩ v').heap[ob]? = _
    simp [World.setCell, Array.getElem?_modify, hbox]
  · have h2 : (w1.setCell ⟨ob, 0, none⟩ v').ownsRow (B + 2) 3 1 v' (pre.length + 1) (pre.map (Value.int .i64) ++ [.int .i64 x]) := ownsRow_setCell_below hown' (by show ob < B + 2; omega) _
    simpa using h2
  · intro k hk hk'
    have hok := ho k hk'
    rcases hn with e | ⟨k', e, hle⟩
    · rw [hk] at e; exact hd k e.symm hk'
    · rw [hk] at e; cases e; simp at hle; omega
  · refine hb.trans ⟨?_, ?_, ?_, by omega, ?_⟩
    · exact hg.os
    · exact hg.tape
    · exact hg.output
    · intro k hk
      have hkW : k < W.heap.size := Nat.lt_of_lt_of_le hk hb.size
      refine (hset k (by omega)).trans ((hg.block k (by simp; omega) ?_).trans (Below.heap_alloc W o k hkW))
      intro e; have := hrow k e.symm; omega

end Go.Proofs.Ytdopgaljbpjpcaa
