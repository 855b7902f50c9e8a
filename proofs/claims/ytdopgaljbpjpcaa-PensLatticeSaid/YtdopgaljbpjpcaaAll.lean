/- pens.choice.all, Lowest, Highest, Real. -/
import Derived.Test.YtdopgaljbpjpcaaEach
namespace Go.Proofs.Ytdopgaljbpjpcaa
open Go.RowKit

/-- What the function g chooses of a span, by a number. -/
def Picks (g : Nat) (q : Int × Int → Int → Int) : Prop :=
  ∀ (x : Int × Int) (d : Int) (W : World), Calls Try.prog g #[.agg #[.int .i64 x.1, .int .i64 x.2], .int .i64 d] W fun e w' => e = .returned (.int .i64 (q x d)) ∧ Below W.heap.size W w'

attribute [local go_sem] cell_reg
set_option maxRecDepth 20000 in
theorem all1_any (g : Nat) (q : Int × Int → Int → Int) (a : Option Addr) (c : Nat) (xs : List Int) (k B C : Nat) (x : Int × Int) (w : World) (hv : Ints w (.slice a xs.length c) xs) (hk : k < xs.length) (he : Enters Try.prog g) (hg : Picks g q)
    (hB : B < w.heap.size) (hC : C < w.heap.size) (h1 : w.cell? ⟨B, 0, none⟩ = some (.func (.func g) #[] #[])) (h2 : w.cell? ⟨C, 0, none⟩ = some (.slice a xs.length c)) :
    Calls Try.prog 112 #[.int .i64 k, .agg #[.int .i64 x.1, .int .i64 x.2], .pointer (some ⟨B, 0, none⟩), .pointer (some ⟨C, 0, none⟩)] w fun e w' => e = .returned (.int .i64 (q x xs[k])) ∧ Below w.heap.size w w' := by
  obtain ⟨b0, o0, rfl, cx⟩ := hv.cellAt hk
  have hx0 : b0 < w.heap.size := World.block_lt_of_cell? w _ cx
  have HG := hid hg; clear hg
  have he' : ∀ (args : Array Value) (w : World), (callFunc g args).run Try.prog w = .ok (.enter g args) w := he
  clear he
  have e1 : (0 : Int) ≤ (k : Int) := by omega
  have e2 : (k : Int) < xs.length := by omega
  have e3 : ((k : Int)).toNat = k := by omega
  go_enter Try.func112, Try.ntmps112
  go_wp2_with fail
  refine wp_region_qb (by kernel_rfl) (by kernel_rfl) ?_
  repeat (go_big_quiet_step (exact Calls.regrown_of (HG.out _ _ _)))
  refine wpQuiet_nil ?_
  intro w2 hb2
  go_wp2_with fail
  refine bodyPost_ret (v := .int .i64 (q x xs[k])) (by simp [results, Try.results112, go_sem]) rfl ⟨rfl, Bl.call (Bl.alloc (Below.refl _ _) _) hb2⟩

theorem realsL_len (b r : Int) (xs : List Int) : (realsL b r xs).length = xs.length := by
  unfold realsL
  rw [bwdF_len, fwdF_len]
  exact initTo_len _ _ _
theorem realsF_len (b l h r : Int) (xs : List Int) : (realsF b l h r xs).1.length ≤ xs.length := by
  unfold realsF
  split
  · simp
  · split
    · simp [realsL_len]
    · simp
theorem realsF_few (b l h r : Int) (xs : List Int) : (realsF b l h r xs).1.length ≤ 1000 := by
  unfold realsF
  split
  · simp
  · rename_i h0
    split
    · simp only [realsL_len]
      have := (listedE_len (by simpa using h0)).2
      omega
    · simp
def allF (q : Int × Int → Int → Int) (b l h r : Int) (xs : List Int) : List Int × Int :=
  (eachTo (fun k x => q x (xs.getD k 0)) (realsF b l h r xs).1 (realsF b l h r xs).1.length, (realsF b l h r xs).2)

set_option maxRecDepth 20000 in
theorem all_any (g : Nat) (q : Int × Int → Int → Int) (b l h r : Int) (v : Value) (xs : List Int) (w : World) (hv : Ints w v xs) (he : Enters Try.prog g) (hg : Picks g q) :
    Calls Try.prog 82 #[.agg #[.func (.func g) #[] #[]], .agg #[.int .i64 b, .int .i64 l, .int .i64 h, .int .i64 r], v] w (RetInts (allF q b l h r xs).1 (allF q b l h r xs).2 w) := by
  obtain ⟨a, c, rfl, _⟩ := hv.shape
  have HF := hid (realsF_few b l h r xs)
  have HLe := hid (realsF_len b l h r xs)
  have HG := hid hg; clear hg
  have HE := hid he; clear he
  go_enter Try.func82, Try.ntmps82
  go_wp2_with fail
  have hbv : Below w.heap.size w (((w.alloc (.cells #[.func (.func g) #[] #[]] 101)).alloc (.cells #[.int .i64 b, .int .i64 l, .int .i64 h, .int .i64 r] 25)).alloc (.cells #[.slice a xs.length c] 26)) := Bl.alloc (Bl.alloc (Bl.alloc (Below.refl _ _) _) _) _
  have c1 : (((w.alloc (.cells #[.func (.func g) #[] #[]] 101)).alloc (.cells #[.int .i64 b, .int .i64 l, .int .i64 h, .int .i64 r] 25)).alloc (.cells #[.slice a xs.length c] 26)).cell? ⟨w.heap.size, 0, none⟩ = some (.func (.func g) #[] #[]) := by simp [go_sem]
  have c2 : (((w.alloc (.cells #[.func (.func g) #[] #[]] 101)).alloc (.cells #[.int .i64 b, .int .i64 l, .int .i64 h, .int .i64 r] 25)).alloc (.cells #[.slice a xs.length c] 26)).cell? ⟨w.heap.size + 1 + 1, 0, none⟩ = some (.slice a xs.length c) := by simp [go_sem]
  have z1 : (((w.alloc (.cells #[.func (.func g) #[] #[]] 101)).alloc (.cells #[.int .i64 b, .int .i64 l, .int .i64 h, .int .i64 r] 25)).alloc (.cells #[.slice a xs.length c] 26)).heap.size = w.heap.size + 3 := by simp
  generalize hww : ((w.alloc (.cells #[.func (.func g) #[] #[]] 101)).alloc (.cells #[.int .i64 b, .int .i64 l, .int .i64 h, .int .i64 r] 25)).alloc (.cells #[.slice a xs.length c] 26) = ww
  rw [hww] at hbv c1 c2 z1
  clear hww
  refine (Reals_any b l h r _ xs _ (hv.below hbv)).mono ?_
  rintro e w1 ⟨v1, rfl, HP, hb1⟩
  have HP := hid HP
  have c1' := (hb1.cell (p := ⟨w.heap.size, 0, none⟩) (by show w.heap.size < _; omega)).trans c1
  have c2' := (hb1.cell (p := ⟨w.heap.size + 1 + 1, 0, none⟩) (by show w.heap.size + 1 + 1 < _; omega)).trans c2
  have hz1 := hb1.size
  have hB1 := Bl.call hbv hb1
  go_wp2_with fail
  refine (each_any _ _ 112 _ (fun k x => q x (xs.getD k 0)) _ HP.out HF.out (enters_of Try.func112 (by kernel_rfl) rfl) ?_).mono ?_
  · intro W k hk hbW
    have hk' : k < xs.length := by have := HLe.out; omega
    have := all1_any g q a c xs k w.heap.size (w.heap.size + 1 + 1) (realsF b l h r xs).1[k] W ((hv.below hB1).below hbW) hk' HE.out HG.out (by have := hbW.size; omega) (by have := hbW.size; omega) ((hbW.cell (p := ⟨w.heap.size, 0, none⟩) (by show w.heap.size < _; omega)).trans c1') ((hbW.cell (p := ⟨w.heap.size + 1 + 1, 0, none⟩) (by show w.heap.size + 1 + 1 < _; omega)).trans c2')
    simpa [List.getD_eq_getElem?_getD, hk'] using this
  · rintro e w2 ⟨v2, rfl, HI, hb2⟩
    go_wp2_with fail
    go_ret2
    exact ⟨_, rfl, HI.out, Bl.call hB1 hb2⟩
end Go.Proofs.Ytdopgaljbpjpcaa
