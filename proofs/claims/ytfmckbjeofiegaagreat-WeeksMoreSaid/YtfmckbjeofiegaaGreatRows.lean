/-
  No cell of these rows narrows 'for every input' (looked for: loops, veiled, ifaces, maps, wideKeys, modest, calm, conditions, laid).
  DERIVED. THE GIVEN ROWS OF THIS SEAT. 4 by the template 'for every input the law returns true; each argument reads behind the call as it read before'; 0 by the template 'total and deterministic' (their statements: YtfmckbjeofiegaaGreatTotals.lean).
  GIVEN WITH THE SEED: the statements are not yours to turn. If you find one false, say at which input.
  Laid BY PROGRAM, IN A SANDBOX (cutbox-rows.mjs): the forced cells as the released guide's own fill.sh prints them over the translation ca31dab61a5fcaa6… (all of the seat's roots in one cut). By AI agents, Wed Nov 11 2026. No macro, syntax, notation, axiom, sorry.
-/
import Derived.Test.YtfmckbjeofiegaaGreatChecked
import GoSem.Claim
import GoSem.ClaimJoined
import GoSem.ClaimMapViews
import Derived.JoinedTies
import Derived.KernelRfl
namespace Go.Proofs.YtfmckbjeofiegaaGreat
/- THE CELL 'sum', in the pinned program and in every row, IS THE sha256 OF THE DUMP (.gsa) THAT YtfmckbjeofiegaaGreatProg.lean LOADS. Nothing in Lean hashes anything: it is a label: what it is worth is what the hold of that sum in a sandbox is worth. -/
noncomputable def Tryz.pinned : Pinned := { name := "ytfmckbjeofiegaagreat", sum := "ca31dab61a5fcaa6a4bb9b229a9641d2df242408a582ab65d0d2d7de4e70e512", checked := Tryz.checked }
namespace Rows
def none {H : Type} : Left H := { results := [], args := [] }

/-- 'aneroidlaw07.WeeksAlone': WHATEVER THE INPUT: true; the input reads as it did. -/
def weeksAloneSpec : ChangeSpec := { name := "weeksAlone", fn := fun _ => fun
  | [d1, d2] => { results := [.lit (.bool true)], args := [d1, d2] }
  | _ => none }
def weeksAloneRow : OpenClaim := { program := "ytfmckbjeofiegaagreat", sum := "ca31dab61a5fcaa6a4bb9b229a9641d2df242408a582ab65d0d2d7de4e70e512", func := "aneroid/aneroidlaw07.WeeksAlone", spec := "weeksAlone", unfollowed := true, recurses := true, plainKeys := false, apart := false }
def WeeksAloneSaid : Prop := weeksAloneRow.holds Tryz.pinned (OpenSpec.ofChange weeksAloneSpec)

/-- ITS FALSE NEIGHBOUR: 'it returns false'. Refute it at one input. -/
def weeksAloneWrong : ChangeSpec := { name := "weeksAlone", fn := fun _ => fun
  | [d1, d2] => { results := [.lit (.bool false)], args := [d1, d2] }
  | _ => none }
def WeeksAloneWrongFalsely : Prop := weeksAloneRow.holds Tryz.pinned (OpenSpec.ofChange weeksAloneWrong)

/-- 'aneroidlaw07.WeeksNeighbours': WHATEVER THE INPUT: true; the input reads as it did. -/
def weeksNeighboursSpec : ChangeSpec := { name := "weeksNeighbours", fn := fun _ => fun
  | [d1, d2, d3] => { results := [.lit (.bool true)], args := [d1, d2, d3] }
  | _ => none }
def weeksNeighboursRow : OpenClaim := { program := "ytfmckbjeofiegaagreat", sum := "ca31dab61a5fcaa6a4bb9b229a9641d2df242408a582ab65d0d2d7de4e70e512", func := "aneroid/aneroidlaw07.WeeksNeighbours", spec := "weeksNeighbours", unfollowed := true, recurses := true, plainKeys := false, apart := false }
def WeeksNeighboursSaid : Prop := weeksNeighboursRow.holds Tryz.pinned (OpenSpec.ofChange weeksNeighboursSpec)

/-- ITS FALSE NEIGHBOUR: 'it returns false'. Refute it at one input. -/
def weeksNeighboursWrong : ChangeSpec := { name := "weeksNeighbours", fn := fun _ => fun
  | [d1, d2, d3] => { results := [.lit (.bool false)], args := [d1, d2, d3] }
  | _ => none }
def WeeksNeighboursWrongFalsely : Prop := weeksNeighboursRow.holds Tryz.pinned (OpenSpec.ofChange weeksNeighboursWrong)

/-- 'aneroidlaw07.WeeksMore': WHATEVER THE INPUT: true; the input reads as it did. -/
def weeksMoreSpec : ChangeSpec := { name := "weeksMore", fn := fun _ => fun
  | [d1, d2, d3, d4] => { results := [.lit (.bool true)], args := [d1, d2, d3, d4] }
  | _ => none }
def weeksMoreRow : OpenClaim := { program := "ytfmckbjeofiegaagreat", sum := "ca31dab61a5fcaa6a4bb9b229a9641d2df242408a582ab65d0d2d7de4e70e512", func := "aneroid/aneroidlaw07.WeeksMore", spec := "weeksMore", unfollowed := true, recurses := true, plainKeys := false, apart := false }
def WeeksMoreSaid : Prop := weeksMoreRow.holds Tryz.pinned (OpenSpec.ofChange weeksMoreSpec)

/-- ITS FALSE NEIGHBOUR: 'it returns false'. Refute it at one input. -/
def weeksMoreWrong : ChangeSpec := { name := "weeksMore", fn := fun _ => fun
  | [d1, d2, d3, d4] => { results := [.lit (.bool false)], args := [d1, d2, d3, d4] }
  | _ => none }
def WeeksMoreWrongFalsely : Prop := weeksMoreRow.holds Tryz.pinned (OpenSpec.ofChange weeksMoreWrong)

/-- 'aneroidlaw07.WeeksFronts': WHATEVER THE INPUT: true; the input reads as it did. -/
def weeksFrontsSpec : ChangeSpec := { name := "weeksFronts", fn := fun _ => fun
  | [d1, d2] => { results := [.lit (.bool true)], args := [d1, d2] }
  | _ => none }
def weeksFrontsRow : OpenClaim := { program := "ytfmckbjeofiegaagreat", sum := "ca31dab61a5fcaa6a4bb9b229a9641d2df242408a582ab65d0d2d7de4e70e512", func := "aneroid/aneroidlaw07.WeeksFronts", spec := "weeksFronts", unfollowed := true, recurses := true, plainKeys := false, apart := false }
def WeeksFrontsSaid : Prop := weeksFrontsRow.holds Tryz.pinned (OpenSpec.ofChange weeksFrontsSpec)

/-- ITS FALSE NEIGHBOUR: 'it returns false'. Refute it at one input. -/
def weeksFrontsWrong : ChangeSpec := { name := "weeksFronts", fn := fun _ => fun
  | [d1, d2] => { results := [.lit (.bool false)], args := [d1, d2] }
  | _ => none }
def WeeksFrontsWrongFalsely : Prop := weeksFrontsRow.holds Tryz.pinned (OpenSpec.ofChange weeksFrontsWrong)

/- THE SECOND FORM. 'bulk': how many values and letters a reading holds, each counted each time it is reached (what is shared counts as often as it is met; a slice's spare places count too). A statement '..UptoSaid' is the law's where the arguments, and the package variables that the reading takes, are together of bulk at most 1048576: NARROWER than '..Said'. Prove '..Said' where nothing that the law and all that it calls make is longer than what came in: it says more and counts as full. Else prove '..UptoSaid'. A law counts once. -/
mutual
def uptoBulk {H : Type} : DataW H → Nat
  | .lit (.string bytes) => bytes.length + 1
  | .lit _ => 1
  | .nil => 1
  | .ptr d => uptoBulk d + 1
  | .slice elems spare => uptoBulkAll elems + uptoBulkAll spare + 1
  | .agg parts => uptoBulkAll parts + 1
  | .iface _ d => uptoBulk d + 1
  | .map entries => uptoBulkEntries entries + 1
  | .held _ => 1
def uptoBulkAll {H : Type} : List (DataW H) → Nat
  | [] => 0
  | d :: r => uptoBulk d + uptoBulkAll r
def uptoBulkEntries {H : Type} : List (Lit × DataW H) → Nat
  | [] => 0
  | x :: r => uptoBulkEntry x + uptoBulkEntries r
def uptoBulkEntry {H : Type} : Lit × DataW H → Nat
  | (.string bytes, d) => bytes.length + uptoBulk d + 1
  | (_, d) => uptoBulk d + 1
 end
def uptoSmall : (H : Type) → List (DataW H) → Bool := fun _ ds => decide (uptoBulkAll ds ≤ 1048576)
def OpenSpec.upto (s : _root_.Go.ChangeSpec) : _root_.Go.OpenSpec := { _root_.Go.OpenSpec.ofChange s with cond := some uptoSmall }

/-- 'aneroidlaw07.WeeksAlone', WHERE WHAT IT READS IS OF BULK AT MOST 1048576: true; the input reads as it did. -/
def weeksAloneUptoRow : OpenClaim := { program := "ytfmckbjeofiegaagreat", sum := "ca31dab61a5fcaa6a4bb9b229a9641d2df242408a582ab65d0d2d7de4e70e512", func := "aneroid/aneroidlaw07.WeeksAlone", spec := "weeksAlone", unfollowed := true, recurses := true, plainKeys := false, apart := false, narrowed := true }
def WeeksAloneUptoSaid : Prop := weeksAloneUptoRow.holds Tryz.pinned (OpenSpec.upto weeksAloneSpec)

/-- 'aneroidlaw07.WeeksNeighbours', WHERE WHAT IT READS IS OF BULK AT MOST 1048576: true; the input reads as it did. -/
def weeksNeighboursUptoRow : OpenClaim := { program := "ytfmckbjeofiegaagreat", sum := "ca31dab61a5fcaa6a4bb9b229a9641d2df242408a582ab65d0d2d7de4e70e512", func := "aneroid/aneroidlaw07.WeeksNeighbours", spec := "weeksNeighbours", unfollowed := true, recurses := true, plainKeys := false, apart := false, narrowed := true }
def WeeksNeighboursUptoSaid : Prop := weeksNeighboursUptoRow.holds Tryz.pinned (OpenSpec.upto weeksNeighboursSpec)

/-- 'aneroidlaw07.WeeksMore', WHERE WHAT IT READS IS OF BULK AT MOST 1048576: true; the input reads as it did. -/
def weeksMoreUptoRow : OpenClaim := { program := "ytfmckbjeofiegaagreat", sum := "ca31dab61a5fcaa6a4bb9b229a9641d2df242408a582ab65d0d2d7de4e70e512", func := "aneroid/aneroidlaw07.WeeksMore", spec := "weeksMore", unfollowed := true, recurses := true, plainKeys := false, apart := false, narrowed := true }
def WeeksMoreUptoSaid : Prop := weeksMoreUptoRow.holds Tryz.pinned (OpenSpec.upto weeksMoreSpec)

/-- 'aneroidlaw07.WeeksFronts', WHERE WHAT IT READS IS OF BULK AT MOST 1048576: true; the input reads as it did. -/
def weeksFrontsUptoRow : OpenClaim := { program := "ytfmckbjeofiegaagreat", sum := "ca31dab61a5fcaa6a4bb9b229a9641d2df242408a582ab65d0d2d7de4e70e512", func := "aneroid/aneroidlaw07.WeeksFronts", spec := "weeksFronts", unfollowed := true, recurses := true, plainKeys := false, apart := false, narrowed := true }
def WeeksFrontsUptoSaid : Prop := weeksFrontsUptoRow.holds Tryz.pinned (OpenSpec.upto weeksFrontsSpec)

end Rows
end Go.Proofs.YtfmckbjeofiegaaGreat
