/-
  No cell of these rows narrows 'for every input' (looked for: loops, veiled, ifaces, maps, wideKeys, modest, calm, conditions, laid).
  DERIVED. THE GIVEN ROWS OF THIS SEAT. 6 by the template 'for every input the law returns true; each argument reads behind the call as it read before'; 0 by the template 'total and deterministic' (their statements: YtdhfjgooamoodaaTotals.lean).
  GIVEN WITH THE SEED: the statements are not yours to turn. If you find one false, say at which input.
  Laid BY PROGRAM, IN A SANDBOX (cutbox-rows.mjs): the forced cells as the released guide's own fill.sh prints them over the translation a87d75f000f845de… (all of the seat's roots in one cut). By AI agents, Wed Nov 11 2026. No macro, syntax, notation, axiom, sorry.
-/
import Derived.Test.YtdhfjgooamoodaaChecked
import GoSem.Claim
import GoSem.ClaimJoined
import GoSem.ClaimMapViews
import Derived.JoinedTies
import Derived.KernelRfl
namespace Go.Proofs.Ytdhfjgooamoodaa
/- THE CELL 'sum', in the pinned program and in every row, IS THE sha256 OF THE DUMP (.gsa) THAT YtdhfjgooamoodaaProg.lean LOADS. Nothing in Lean hashes anything: it is a label: what it is worth is what the hold of that sum in a sandbox is worth. -/
noncomputable def Try.pinned : Pinned := { name := "ytdhfjgooamoodaa", sum := "a87d75f000f845defa95d97e544b13712b440087296c725aadfc9a74470b87f4", checked := Try.checked }
namespace Rows
def none {H : Type} : Left H := { results := [], args := [] }

/-- 'antiquarylaw09.PivotChoosesAsSpecified': WHATEVER THE INPUT: true; the input reads as it did. -/
def pivotChoosesAsSpecifiedSpec : ChangeSpec := { name := "pivotChoosesAsSpecified", fn := fun _ => fun
  | [d1, d2, d3, d4, d5] => { results := [.lit (.bool true)], args := [d1, d2, d3, d4, d5] }
  | _ => none }
def pivotChoosesAsSpecifiedRow : OpenClaim := { program := "ytdhfjgooamoodaa", sum := "a87d75f000f845defa95d97e544b13712b440087296c725aadfc9a74470b87f4", func := "antiquary/antiquarylaw09.PivotChoosesAsSpecified", spec := "pivotChoosesAsSpecified", unfollowed := true, recurses := true, apart := false }
def PivotChoosesAsSpecifiedSaid : Prop := pivotChoosesAsSpecifiedRow.holds Try.pinned (OpenSpec.ofChange pivotChoosesAsSpecifiedSpec)

/-- ITS FALSE NEIGHBOUR: 'it returns false'. Refute it at one input. -/
def pivotChoosesAsSpecifiedWrong : ChangeSpec := { name := "pivotChoosesAsSpecified", fn := fun _ => fun
  | [d1, d2, d3, d4, d5] => { results := [.lit (.bool false)], args := [d1, d2, d3, d4, d5] }
  | _ => none }
def PivotChoosesAsSpecifiedWrongFalsely : Prop := pivotChoosesAsSpecifiedRow.holds Try.pinned (OpenSpec.ofChange pivotChoosesAsSpecifiedWrong)

/-- 'antiquarylaw09.PivotBoundsHold': WHATEVER THE INPUT: true; the input reads as it did. -/
def pivotBoundsHoldSpec : ChangeSpec := { name := "pivotBoundsHold", fn := fun _ => fun
  | [d1, d2, d3, d4] => { results := [.lit (.bool true)], args := [d1, d2, d3, d4] }
  | _ => none }
def pivotBoundsHoldRow : OpenClaim := { program := "ytdhfjgooamoodaa", sum := "a87d75f000f845defa95d97e544b13712b440087296c725aadfc9a74470b87f4", func := "antiquary/antiquarylaw09.PivotBoundsHold", spec := "pivotBoundsHold", unfollowed := true, recurses := true, apart := false }
def PivotBoundsHoldSaid : Prop := pivotBoundsHoldRow.holds Try.pinned (OpenSpec.ofChange pivotBoundsHoldSpec)

/-- ITS FALSE NEIGHBOUR: 'it returns false'. Refute it at one input. -/
def pivotBoundsHoldWrong : ChangeSpec := { name := "pivotBoundsHold", fn := fun _ => fun
  | [d1, d2, d3, d4] => { results := [.lit (.bool false)], args := [d1, d2, d3, d4] }
  | _ => none }
def PivotBoundsHoldWrongFalsely : Prop := pivotBoundsHoldRow.holds Try.pinned (OpenSpec.ofChange pivotBoundsHoldWrong)

/-- 'antiquarylaw09.PivotsCoverWell': WHATEVER THE INPUT: true; the input reads as it did. -/
def pivotsCoverWellSpec : ChangeSpec := { name := "pivotsCoverWell", fn := fun _ => fun
  | [d1, d2, d3, d4] => { results := [.lit (.bool true)], args := [d1, d2, d3, d4] }
  | _ => none }
def pivotsCoverWellRow : OpenClaim := { program := "ytdhfjgooamoodaa", sum := "a87d75f000f845defa95d97e544b13712b440087296c725aadfc9a74470b87f4", func := "antiquary/antiquarylaw09.PivotsCoverWell", spec := "pivotsCoverWell", unfollowed := true, recurses := true, apart := false }
def PivotsCoverWellSaid : Prop := pivotsCoverWellRow.holds Try.pinned (OpenSpec.ofChange pivotsCoverWellSpec)

/-- ITS FALSE NEIGHBOUR: 'it returns false'. Refute it at one input. -/
def pivotsCoverWellWrong : ChangeSpec := { name := "pivotsCoverWell", fn := fun _ => fun
  | [d1, d2, d3, d4] => { results := [.lit (.bool false)], args := [d1, d2, d3, d4] }
  | _ => none }
def PivotsCoverWellWrongFalsely : Prop := pivotsCoverWellRow.holds Try.pinned (OpenSpec.ofChange pivotsCoverWellWrong)

/-- 'antiquarylaw09.PivotMoreIsBetter': WHATEVER THE INPUT: true; the input reads as it did. -/
def pivotMoreIsBetterSpec : ChangeSpec := { name := "pivotMoreIsBetter", fn := fun _ => fun
  | [d1, d2, d3, d4, d5] => { results := [.lit (.bool true)], args := [d1, d2, d3, d4, d5] }
  | _ => none }
def pivotMoreIsBetterRow : OpenClaim := { program := "ytdhfjgooamoodaa", sum := "a87d75f000f845defa95d97e544b13712b440087296c725aadfc9a74470b87f4", func := "antiquary/antiquarylaw09.PivotMoreIsBetter", spec := "pivotMoreIsBetter", unfollowed := true, recurses := true, apart := false }
def PivotMoreIsBetterSaid : Prop := pivotMoreIsBetterRow.holds Try.pinned (OpenSpec.ofChange pivotMoreIsBetterSpec)

/-- ITS FALSE NEIGHBOUR: 'it returns false'. Refute it at one input. -/
def pivotMoreIsBetterWrong : ChangeSpec := { name := "pivotMoreIsBetter", fn := fun _ => fun
  | [d1, d2, d3, d4, d5] => { results := [.lit (.bool false)], args := [d1, d2, d3, d4, d5] }
  | _ => none }
def PivotMoreIsBetterWrongFalsely : Prop := pivotMoreIsBetterRow.holds Try.pinned (OpenSpec.ofChange pivotMoreIsBetterWrong)

/-- 'antiquarylaw09.PivotBoundsAsSpecified': WHATEVER THE INPUT: true; the input reads as it did. -/
def pivotBoundsAsSpecifiedSpec : ChangeSpec := { name := "pivotBoundsAsSpecified", fn := fun _ => fun
  | [d1, d2, d3, d4, d5, d6] => { results := [.lit (.bool true)], args := [d1, d2, d3, d4, d5, d6] }
  | _ => none }
def pivotBoundsAsSpecifiedRow : OpenClaim := { program := "ytdhfjgooamoodaa", sum := "a87d75f000f845defa95d97e544b13712b440087296c725aadfc9a74470b87f4", func := "antiquary/antiquarylaw09.PivotBoundsAsSpecified", spec := "pivotBoundsAsSpecified", unfollowed := true, recurses := true, apart := false }
def PivotBoundsAsSpecifiedSaid : Prop := pivotBoundsAsSpecifiedRow.holds Try.pinned (OpenSpec.ofChange pivotBoundsAsSpecifiedSpec)

/-- ITS FALSE NEIGHBOUR: 'it returns false'. Refute it at one input. -/
def pivotBoundsAsSpecifiedWrong : ChangeSpec := { name := "pivotBoundsAsSpecified", fn := fun _ => fun
  | [d1, d2, d3, d4, d5, d6] => { results := [.lit (.bool false)], args := [d1, d2, d3, d4, d5, d6] }
  | _ => none }
def PivotBoundsAsSpecifiedWrongFalsely : Prop := pivotBoundsAsSpecifiedRow.holds Try.pinned (OpenSpec.ofChange pivotBoundsAsSpecifiedWrong)

/-- 'antiquarylaw09.PivotShellsJoin': WHATEVER THE INPUT: true; the input reads as it did. -/
def pivotShellsJoinSpec : ChangeSpec := { name := "pivotShellsJoin", fn := fun _ => fun
  | [d1, d2, d3, d4, d5] => { results := [.lit (.bool true)], args := [d1, d2, d3, d4, d5] }
  | _ => none }
def pivotShellsJoinRow : OpenClaim := { program := "ytdhfjgooamoodaa", sum := "a87d75f000f845defa95d97e544b13712b440087296c725aadfc9a74470b87f4", func := "antiquary/antiquarylaw09.PivotShellsJoin", spec := "pivotShellsJoin", unfollowed := true, recurses := true, apart := false }
def PivotShellsJoinSaid : Prop := pivotShellsJoinRow.holds Try.pinned (OpenSpec.ofChange pivotShellsJoinSpec)

/-- ITS FALSE NEIGHBOUR: 'it returns false'. Refute it at one input. -/
def pivotShellsJoinWrong : ChangeSpec := { name := "pivotShellsJoin", fn := fun _ => fun
  | [d1, d2, d3, d4, d5] => { results := [.lit (.bool false)], args := [d1, d2, d3, d4, d5] }
  | _ => none }
def PivotShellsJoinWrongFalsely : Prop := pivotShellsJoinRow.holds Try.pinned (OpenSpec.ofChange pivotShellsJoinWrong)

/- THE SECOND FORM. 'bulk': how many values and letters a reading holds, each counted each time it is reached (what is shared counts as often as it is met; a slice's spare places count too). A statement '..UptoSaid' is the law's where the arguments, and the package variables that the reading takes, are together of bulk at most 1048576: NARROWER than '..Said'. Prove '..Said' where nothing that the law and all that it calls make is longer than what came in: it says more and counts as full. Else prove '..UptoSaid'. A law counts once. -/
mutual
def uptoBulk {H : Type} : DataW H → Nat
  | .lit (.string bytes) => bytes.length + 1
  | .lit _ => 1
  | .nil => 1
  | .ptr d => uptoBulk d + 1
  | .slice elems spare => uptoBulkAll elems + uptoBulkAll spare + 1
  | .agg parts => uptoBulkAll parts + 1
  | .iface _ d => uptoBulk d + 1
  | .map entries => uptoBulkEntries entries + 1
  | .held _ => 1
def uptoBulkAll {H : Type} : List (DataW H) → Nat
  | [] => 0
  | d :: r => uptoBulk d + uptoBulkAll r
def uptoBulkEntries {H : Type} : List (Lit × DataW H) → Nat
  | [] => 0
  | x :: r => uptoBulkEntry x + uptoBulkEntries r
def uptoBulkEntry {H : Type} : Lit × DataW H → Nat
  | (.string bytes, d) => bytes.length + uptoBulk d + 1
  | (_, d) => uptoBulk d + 1
 end
def uptoSmall : (H : Type) → List (DataW H) → Bool := fun _ ds => decide (uptoBulkAll ds ≤ 1048576)
def OpenSpec.upto (s : _root_.Go.ChangeSpec) : _root_.Go.OpenSpec := { _root_.Go.OpenSpec.ofChange s with cond := some uptoSmall }

/-- 'antiquarylaw09.PivotChoosesAsSpecified', WHERE WHAT IT READS IS OF BULK AT MOST 1048576: true; the input reads as it did. -/
def pivotChoosesAsSpecifiedUptoRow : OpenClaim := { program := "ytdhfjgooamoodaa", sum := "a87d75f000f845defa95d97e544b13712b440087296c725aadfc9a74470b87f4", func := "antiquary/antiquarylaw09.PivotChoosesAsSpecified", spec := "pivotChoosesAsSpecified", unfollowed := true, recurses := true, apart := false, narrowed := true }
def PivotChoosesAsSpecifiedUptoSaid : Prop := pivotChoosesAsSpecifiedUptoRow.holds Try.pinned (OpenSpec.upto pivotChoosesAsSpecifiedSpec)

/-- 'antiquarylaw09.PivotBoundsHold', WHERE WHAT IT READS IS OF BULK AT MOST 1048576: true; the input reads as it did. -/
def pivotBoundsHoldUptoRow : OpenClaim := { program := "ytdhfjgooamoodaa", sum := "a87d75f000f845defa95d97e544b13712b440087296c725aadfc9a74470b87f4", func := "antiquary/antiquarylaw09.PivotBoundsHold", spec := "pivotBoundsHold", unfollowed := true, recurses := true, apart := false, narrowed := true }
def PivotBoundsHoldUptoSaid : Prop := pivotBoundsHoldUptoRow.holds Try.pinned (OpenSpec.upto pivotBoundsHoldSpec)

/-- 'antiquarylaw09.PivotsCoverWell', WHERE WHAT IT READS IS OF BULK AT MOST 1048576: true; the input reads as it did. -/
def pivotsCoverWellUptoRow : OpenClaim := { program := "ytdhfjgooamoodaa", sum := "a87d75f000f845defa95d97e544b13712b440087296c725aadfc9a74470b87f4", func := "antiquary/antiquarylaw09.PivotsCoverWell", spec := "pivotsCoverWell", unfollowed := true, recurses := true, apart := false, narrowed := true }
def PivotsCoverWellUptoSaid : Prop := pivotsCoverWellUptoRow.holds Try.pinned (OpenSpec.upto pivotsCoverWellSpec)

/-- 'antiquarylaw09.PivotMoreIsBetter', WHERE WHAT IT READS IS OF BULK AT MOST 1048576: true; the input reads as it did. -/
def pivotMoreIsBetterUptoRow : OpenClaim := { program := "ytdhfjgooamoodaa", sum := "a87d75f000f845defa95d97e544b13712b440087296c725aadfc9a74470b87f4", func := "antiquary/antiquarylaw09.PivotMoreIsBetter", spec := "pivotMoreIsBetter", unfollowed := true, recurses := true, apart := false, narrowed := true }
def PivotMoreIsBetterUptoSaid : Prop := pivotMoreIsBetterUptoRow.holds Try.pinned (OpenSpec.upto pivotMoreIsBetterSpec)

/-- 'antiquarylaw09.PivotBoundsAsSpecified', WHERE WHAT IT READS IS OF BULK AT MOST 1048576: true; the input reads as it did. -/
def pivotBoundsAsSpecifiedUptoRow : OpenClaim := { program := "ytdhfjgooamoodaa", sum := "a87d75f000f845defa95d97e544b13712b440087296c725aadfc9a74470b87f4", func := "antiquary/antiquarylaw09.PivotBoundsAsSpecified", spec := "pivotBoundsAsSpecified", unfollowed := true, recurses := true, apart := false, narrowed := true }
def PivotBoundsAsSpecifiedUptoSaid : Prop := pivotBoundsAsSpecifiedUptoRow.holds Try.pinned (OpenSpec.upto pivotBoundsAsSpecifiedSpec)

/-- 'antiquarylaw09.PivotShellsJoin', WHERE WHAT IT READS IS OF BULK AT MOST 1048576: true; the input reads as it did. -/
def pivotShellsJoinUptoRow : OpenClaim := { program := "ytdhfjgooamoodaa", sum := "a87d75f000f845defa95d97e544b13712b440087296c725aadfc9a74470b87f4", func := "antiquary/antiquarylaw09.PivotShellsJoin", spec := "pivotShellsJoin", unfollowed := true, recurses := true, apart := false, narrowed := true }
def PivotShellsJoinUptoSaid : Prop := pivotShellsJoinUptoRow.holds Try.pinned (OpenSpec.upto pivotShellsJoinSpec)

end Rows
end Go.Proofs.Ytdhfjgooamoodaa
