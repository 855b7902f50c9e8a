/- A range over a function whose iterator keeps state of its own in cells (a counter, a struct): the contract between the iterator and the rounds names the iterator's own blocks. -/
import Derived.RangeFuncNested
import Derived.RangeFuncBound
import Derived.RangeFuncCalls
import Derived.RangeFuncLeaves
import Derived.Shelf.Abstract
namespace Go
open Go.RowKit

/-- From A to B: new blocks; of those that lay, the ones of 'own' alone may have turned. -/
structure Turns (own : Nat → Prop) (A B : World) : Prop where
  os : B.os = A.os
  tape : B.tape = A.tape
  output : B.output = A.output
  size : A.heap.size ≤ B.heap.size
  block : ∀ k, k < A.heap.size → ¬ own k → B.heap[k]? = A.heap[k]?
theorem Turns.refl (own : Nat → Prop) (A : World) : Turns own A A := ⟨rfl, rfl, rfl, Nat.le_refl _, fun _ _ _ => rfl⟩
theorem Turns.trans {own : Nat → Prop} {A B C : World} (h : Turns own A B) (k : Turns own B C) : Turns own A C :=
  ⟨k.os.trans h.os, k.tape.trans h.tape, k.output.trans h.output, Nat.le_trans h.size k.size, fun i hi ho => (k.block i (Nat.lt_of_lt_of_le hi h.size) ho).trans (h.block i hi ho)⟩
theorem Turns.mono {own own' : Nat → Prop} {A B : World} (h : Turns own A B) (hw : ∀ k, own k → own' k) : Turns own' A B := ⟨h.os, h.tape, h.output, h.size, fun k hk ho => h.block k hk (fun x => ho (hw k x))⟩
theorem Turns.putObj (W : World) (l : Nat) (o : Obj) : Turns (fun k => k = l) W (W.putObj l o) :=
  ⟨rfl, rfl, rfl, by simp, fun k _ hk => World.putObj_heap_other hk⟩
theorem Turns.of_below {own : Nat → Prop} {A B : World} (h : Below A.heap.size A B) : Turns own A B := ⟨h.os, h.tape, h.output, h.size, fun k hk _ => h.block k hk⟩
theorem Turns.setCell (own : Nat → Prop) (W : World) (p : Addr) (v : Value) (h : own p.block) : Turns own W (W.setCell p v) :=
  ⟨rfl, rfl, rfl, by simp [World.setCell], fun k _ hk => Below.heap_setCell _ _ _ _ (fun e => hk (by rw [e]; exact h))⟩
theorem Turns.below {own : Nat → Prop} {B : Nat} {a W W' : World} (h : Below B a W) (t : Turns own W W') (hB : B ≤ W.heap.size) (ho : ∀ k, own k → B ≤ k) : Below B a W' :=
  h.trans ⟨t.os, t.tape, t.output, t.size, fun k hk => t.block k (by omega) (fun x => by have := ho k x; omega)⟩

def AbidesOwn {β : Type} (J : (Nat → Prop) → β → World → Prop) : Prop :=
  ∀ own own' s A B, J own s A → Turns own A B → (∀ k, own' k → own k ∨ (A.heap.size ≤ k ∧ k < B.heap.size)) → J own' s B

def SeqPost {α : Type} (S : List α → Prop) (J : (Nat → Prop) → List α → World → Prop) (e : Ending) (W' : World) : Prop := (∃ v, e = .returned v) ∧ ∃ own xs, S xs ∧ J own xs W'

/-- What the iterator g (with what it captured, lb) does for every body: it hands over the elements of a list in S, one round each, and ends. Rd: the blocks that it reads; 'own': its own ones, that no round touches. -/
def SeqOwn {α : Type} (P : Program) (n : Nat) (g : Nat) (lb : Array Value) (encs : α → Array Value) (Rd : Nat → Prop) (S : List α → Prop) (N : Nat) (w : World) : Prop :=
  ∀ (l : Nat) (J : (Nat → Prop) → List α → World → Prop) (W : World), Below w.heap.size w W → AbidesOwn J →
    (∀ own pre x W1, J own pre W1 → pre.length < N → YieldAt Fence.wide (n - 1) P l (encs x) W1 fun e W' =>
      e = .returned (.bool true) ∧ J own (pre ++ [x]) W' ∧ W1.heap.size ≤ W'.heap.size ∧ ∀ k, (Rd k ∨ own k) → W'.heap[k]? = W1.heap[k]?) →
    J (fun _ => False) [] W →
    CallsIn Fence.wide n P g (#[.func (.yield l) #[] #[]] ++ lb) W (SeqPost S J)

def KeepsK (B : Nat) (Rd own : Nat → Prop) (W W' : World) : Prop := W.heap.size ≤ W'.heap.size ∧ ∀ k, (Rd k ∨ own k ∨ k = B ∨ k = B + 1) → W'.heap[k]? = W.heap[k]?
theorem KeepsK.refl (B : Nat) (Rd own : Nat → Prop) (W : World) : KeepsK B Rd own W W := ⟨Nat.le_refl _, fun _ _ => rfl⟩
theorem KeepsK.trans {B : Nat} {Rd own : Nat → Prop} {X Y Z : World} (h : KeepsK B Rd own X Y) (k : KeepsK B Rd own Y Z) : KeepsK B Rd own X Z := ⟨Nat.le_trans h.1 k.1, fun i hi => (k.2 i hi).trans (h.2 i hi)⟩
theorem KeepsK.of_below {B : Nat} {Rd own : Nat → Prop} {X Y : World} (h : Below X.heap.size X Y) (hl : ∀ k, (Rd k ∨ own k ∨ k = B ∨ k = B + 1) → k < X.heap.size) : KeepsK B Rd own X Y := ⟨h.size, fun k hk => h.block k (hl k hk)⟩
theorem KeepsK.setCell {B : Nat} {Rd own : Nat → Prop} (W : World) (p : Addr) (v : Value) (h : ¬ (Rd p.block ∨ own p.block ∨ p.block = B ∨ p.block = B + 1)) : KeepsK B Rd own W (W.setCell p v) :=
  ⟨by simp [World.setCell], fun k hk => Below.heap_setCell _ _ _ _ (fun e => h (by rw [← e]; exact hk))⟩
theorem KeepsK.grown {B : Nat} {Rd own : Nat → Prop} {W W' : World} {row : Option Nat} (hg : W.grownBy W' row) (hl : ∀ k, (Rd k ∨ own k ∨ k = B ∨ k = B + 1) → k < W.heap.size ∧ row ≠ some k) : KeepsK B Rd own W W' :=
  ⟨hg.size, fun k hk => hg.block k (hl k hk).1 (fun e => (hl k hk).2 e.symm)⟩

/-- How the body of a round ends: off its end. -/
def ownEnd {α : Type} (B : Nat) (Rd own : Nat → Prop) (I : (Nat → Prop) → List α → World → Prop) (xs : List α) (W : World) : Exit → Act → World → Prop
  | .normal, _, W' => KeepsK B Rd own W W' ∧ I own xs W'
  | _, _, _ => False

variable {n : Nat} {P : Program}
theorem wpIn_rangeFunc_seqOwn {α : Type} {g : Operand} {ps : Array Tmp} {assign body : Code} {Q : Exit → Act → World → Prop} {a : Act} {w : World}
    {gf : Nat} {lb : Array Value} (hg : a.eval g = .func (.func gf) #[] lb) (eg : ∀ args w, (callFunc gf args).run P w = .ok (.enter gf args) w)
    {encs : α → Array Value} {Rd : Nat → Prop} {S : List α → Prop} {N : Nat} (hseq : SeqOwn P (n - 1) gf lb encs Rd S N w)
    (hRd : ∀ k, Rd k → k < w.heap.size) (hps : ∀ x, (encs x).size = ps.size)
    (I : (Nat → Prop) → List α → World → Prop)
    (hI : ∀ own own' s A B, I own s A → (∀ k, own k → w.heap.size + 2 ≤ k ∧ k < A.heap.size) → w.heap.size ≤ A.heap.size → Turns (fun k => own k ∨ k = w.heap.size ∨ k = w.heap.size + 1) A B →
      (∀ k, own' k → own k ∨ (A.heap.size ≤ k ∧ k < B.heap.size)) → I own' s B)
    (h0 : I (fun _ => False) [] w)
    (Ax : (Nat → Prop) → List α → α → Act → World → Prop) (hAx : ∀ own pre x a1 A B, Ax own pre x a1 A → (∀ k, own k → w.heap.size + 2 ≤ k ∧ k < A.heap.size) → Turns (fun k => k = w.heap.size + 1) A B → w.heap.size + 1 < A.heap.size → B.heap.size = A.heap.size → Ax own pre x a1 B)
    (hassign : ∀ (l : Nat) (own : Nat → Prop) (pre : List α) (x : α) (W : World), I own pre W → (∀ k, own k → w.heap.size + 2 ≤ k ∧ k < W.heap.size) → w.heap.size + 2 ≤ W.heap.size → pre.length < N →
      assign.wpIn (Fence.wide.inRound l) (n - 1 - 1) P (Exit.then (fun a1 W1 => KeepsK w.heap.size Rd own W W1 ∧ Ax own pre x a1 W1) (fun _ _ _ => False)) { tmps := (ps.zip (encs x)).foldl (fun t (p, v) => t.setIfInBounds p v) a.tmps, defers := [] } W)
    (hbody : ∀ (l : Nat) (own : Nat → Prop) (pre : List α) (x : α) (a1 : Act) (W : World), Ax own pre x a1 W → (∀ k, own k → w.heap.size + 2 ≤ k ∧ k < W.heap.size) → w.heap.size + 2 ≤ W.heap.size → pre.length < N →
      body.wpIn (Fence.wide.inRound l) (n - 1 - 1) P (ownEnd w.heap.size Rd own I (pre ++ [x]) W) a1 W)
    (hdone : ∀ (own : Nat → Prop) (xs : List α) (W : World), S xs → I own xs W → (∀ k, own k → w.heap.size + 2 ≤ k ∧ k < W.heap.size) → w.heap.size + 2 ≤ W.heap.size → W.heap[w.heap.size]? = some (.deferred (some [])) →
      Q .normal { a with defers := { target := .collected w.heap.size, args := #[] } :: a.defers } W) :
    (Code.rangeFunc g ps assign body).wpIn Fence.wide n P Q a w := by
  refine wpIn_rangeFunc ?_
  intro fn _
  obtain ⟨rec, hrec⟩ : ∃ rec : LoopState → Loop, rec = fun st => { state := st, pending := none, fn, tmps := a.tmps, params := ps, assign, body, defers := w.heap.size } := ⟨_, rfl⟩
  obtain ⟨W1, hW1⟩ : ∃ W1, (w.alloc (.deferred (some []))).alloc (.loop (rec .ready)) = W1 := ⟨_, rfl⟩
  have hs1 : W1.heap.size = w.heap.size + 2 := by rw [← hW1]; simp
  have hL1 : W1.heap[w.heap.size + 1]? = some (.loop (rec .ready)) := by
    rw [← hW1]; have := World.alloc_heap_new (w.alloc (.deferred (some []))) (.loop (rec .ready)); rwa [World.size_alloc] at this
  have hK1 : W1.heap[w.heap.size]? = some (.deferred (some [])) := by
    rw [← hW1]; exact (Below.heap_alloc _ _ _ (by simp)).trans (World.alloc_heap_new w _)
  have hb1 : Below w.heap.size w W1 := by
    rw [← hW1]; exact ((Below.refl _ w).alloc (Nat.le_refl _) _).alloc (by simp) _
  have hI1 : I (fun _ => False) [] W1 := hI _ _ _ _ _ h0 (fun k h => h.elim) (Nat.le_refl _) (Turns.of_below hb1) (fun k h => h.elim)
  refine ⟨w.heap.size + 1, [{ target := .collected w.heap.size, args := #[] }], W1, { target := .fn (.func gf) lb, args := #[.func (.yield (w.heap.size + 1)) #[] #[]] }, W1, gf,
    #[.func (.yield (w.heap.size + 1)) #[] #[]] ++ lb, W1, ?_, ?_, ?_, ?_, ?_, ?_⟩
  · rw [← hW1, hrec]; exact run_enterLoop_outer _ _ _ _ _
  · simp only [resolve, hg]
    simp [go_sem]
  · intro f' _; trivial
  · simp [invoke, go_sem, eg]
  · intro h; simp [Fence.wide] at h
  · have hrecC : ∀ (own : Nat → Prop) (A B : World), Turns own A B → (∀ k, own k → w.heap.size + 2 ≤ k ∧ k < A.heap.size) → w.heap.size + 2 ≤ A.heap.size → ∀ k, k < w.heap.size + 2 → B.heap[k]? = A.heap[k]? :=
      fun own A B ht ho hs k hk => ht.block k (by omega) (fun x => by have := (ho k x).1; omega)
    refine (hseq (w.heap.size + 1)
      (fun own pre W => I own pre W ∧ W.heap[w.heap.size + 1]? = some (.loop (rec .ready)) ∧ W.heap[w.heap.size]? = some (.deferred (some [])) ∧ (∀ k, own k → w.heap.size + 2 ≤ k ∧ k < W.heap.size) ∧ w.heap.size + 2 ≤ W.heap.size)
      W1 hb1 ?ab ?rd ⟨hI1, hL1, hK1, fun k h => h.elim, by omega⟩).mono ?_
    case ab =>
      rintro own own' s A B ⟨hi, hl, hk, ho, hs⟩ ht hw
      refine ⟨hI _ _ _ _ _ hi ho (by omega) (ht.mono fun k h => .inl h) hw, ?_, ?_, ?_, Nat.le_trans hs ht.size⟩
      · rw [hrecC own A B ht ho hs _ (by omega)]; exact hl
      · rw [hrecC own A B ht ho hs _ (by omega)]; exact hk
      · intro k hk'
        rcases hw k hk' with h | ⟨h1, h2⟩
        · have := ho k h; exact ⟨this.1, Nat.lt_of_lt_of_le this.2 ht.size⟩
        · exact ⟨by omega, h2⟩
    case rd =>
      rintro own pre x W ⟨hi, hl, hk, ho, hs⟩ hlen
      have hlt : w.heap.size + 1 < W.heap.size := by omega
      have hy := run_yield (P := P) (args := encs x) hl (by rw [hrec]; exact hps x)
      rw [hrec] at hy
      refine ⟨fn, _, assign, body, hy, roundIn_of_wpIn trivial (wpIn_mono (hassign _ own pre x W hi ho hs hlen) ?_)⟩
      rintro e1 a1 Wa hq1
      cases e1 with
      | ret => exact hq1.elim
      | exit id => exact hq1.elim
      | goto t => exact hq1.elim
      | panic ch => exact hq1.elim
      | outgrown => exact hq1.elim
      | normal =>
      obtain ⟨hka, hax⟩ := hq1
      have hla : Wa.heap[w.heap.size + 1]? = some (.loop (rec .ready)) := (hka.2 _ (by simp)).trans hl
      have hda : Wa.heap[w.heap.size]? = some (.deferred (some [])) := (hka.2 _ (by simp)).trans hk
      have hsa := hka.1
      refine ⟨_, run_beginRound hla (by rw [hrec]), ?_⟩
      obtain ⟨W2, hW2⟩ : ∃ W2, Wa.putObj (w.heap.size + 1) (.loop { rec .ready with state := .busy }) = W2 := ⟨_, rfl⟩
      have ht2 : Turns (fun k => k = w.heap.size + 1) Wa W2 := by rw [← hW2]; exact Turns.putObj _ _ _
      have hs2 : W2.heap.size = Wa.heap.size := by rw [← hW2]; simp
      have hl2 : W2.heap[w.heap.size + 1]? = some (.loop { rec .ready with state := .busy }) := by rw [← hW2]; exact World.putObj_heap_same (by omega)
      have hk2 : W2.heap[w.heap.size]? = some (.deferred (some [])) := by rw [← hW2]; exact (World.putObj_heap_other (by omega)).trans hda
      rw [hW2]
      refine wpIn_mono (hbody _ own pre x a1 W2 (hAx _ _ _ _ _ _ hax (fun k h => by have := ho k h; omega) ht2 (by omega) hs2) (fun k h => by have := ho k h; omega) (by omega) hlen) ?_
      rintro e a3 W3 hp
      cases e with
      | normal =>
        obtain ⟨⟨hs3, hk3⟩, hi3⟩ := hp
        have hl3 : W3.heap[w.heap.size + 1]? = some (.loop { rec .ready with state := .busy }) := (hk3 _ (by simp)).trans hl2
        have hr := run_endRound (P := P) none hl3
        rw [hrec] at hr
        refine ⟨_, _, hr, rfl, ⟨?_, ?_, ?_, ?_, ?_⟩, ?_, ?_⟩
        · exact hI _ _ _ _ _ hi3 (fun k h => by have := ho k h; omega) (by omega) ((Turns.putObj _ _ _).mono fun k h => .inr (.inr h)) (fun k h => .inl h)
        · have h5 := World.putObj_heap_same (o := .loop (rec .ready)) (Array.getElem?_eq_some_iff.1 hl3).1
          rw [hrec] at h5 ⊢
          exact h5
        · exact (World.putObj_heap_other (by omega)).trans ((hk3 _ (by simp)).trans hk2)
        · intro k h; have := ho k h; simp; omega
        · simp; omega
        · simp; omega
        · intro k h
          have hne : k ≠ w.heap.size + 1 := by
            rcases h with h | h
            · have := hRd k h; omega
            · have := ho k h; omega
          have hor : Rd k ∨ own k ∨ k = w.heap.size ∨ k = w.heap.size + 1 := by
            rcases h with h | h
            · exact .inl h
            · exact .inr (.inl h)
          refine (World.putObj_heap_other hne).trans ((hk3 k hor).trans (Eq.trans ?_ (hka.2 k hor)))
          rw [← hW2]; exact World.putObj_heap_other hne
      | ret => exact hp.elim
      | exit id => exact hp.elim
      | goto t => exact hp.elim
      | panic ch => exact hp.elim
      | outgrown => exact hp.elim
    · rintro e W2 ⟨⟨v, rfl⟩, own, xs, hS, hi, hl, hk, ho, hs⟩
      refine ⟨none, _, by have := run_endLoop (P := P) hl (by rw [hrec]; simp); rw [hrec] at this; exact this, hdone own xs _ hS ?_ ?_ ?_ ?_⟩
      · exact hI _ _ _ _ _ hi ho (by omega) ((Turns.putObj _ _ _).mono fun k h => .inr (.inr h)) (fun k h => .inl h)
      · intro k h; have := ho k h; simp; omega
      · simp; omega
      · exact (World.putObj_heap_other (by omega)).trans hk
end Go
