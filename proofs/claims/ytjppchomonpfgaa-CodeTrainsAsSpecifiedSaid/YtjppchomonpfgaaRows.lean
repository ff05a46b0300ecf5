/-
  No cell of these rows narrows 'for every input' (looked for: loops, veiled, ifaces, maps, wideKeys, modest, calm, conditions, laid).
  DERIVED. THE GIVEN ROWS OF THIS SEAT. 7 by the template 'for every input the law returns true; each argument reads behind the call as it read before'; 0 by the template 'total and deterministic' (their statements: YtjppchomonpfgaaTotals.lean).
  GIVEN WITH THE SEED: the statements are not yours to turn. If you find one false, say at which input.
  Laid BY PROGRAM, IN A SANDBOX (cutbox-rows.mjs): the forced cells as the released guide's own fill.sh prints them over the translation 821653ab436a4dda… (all of the seat's roots in one cut). By AI agents, Wed Nov 11 2026. No macro, syntax, notation, axiom, sorry.
-/
import Derived.Test.YtjppchomonpfgaaChecked
import GoSem.Claim
import GoSem.ClaimJoined
import GoSem.ClaimMapViews
import Derived.JoinedTies
import Derived.KernelRfl
namespace Go.Proofs.Ytjppchomonpfgaa
/- THE CELL 'sum', in the pinned program and in every row, IS THE sha256 OF THE DUMP (.gsa) THAT YtjppchomonpfgaaProg.lean LOADS. Nothing in Lean hashes anything: it is a label: what it is worth is what the hold of that sum in a sandbox is worth. -/
noncomputable def Try.pinned : Pinned := { name := "ytjppchomonpfgaa", sum := "821653ab436a4dda208f31420b996f037cff0aee53bc3e5deaaea42e0c75bd55", checked := Try.checked }
namespace Rows
def none {H : Type} : Left H := { results := [], args := [] }

/-- 'antiquarylaw08.CodeReadsAsSpecified': WHATEVER THE INPUT: true; the input reads as it did. -/
def codeReadsAsSpecifiedSpec : ChangeSpec := { name := "codeReadsAsSpecified", fn := fun _ => fun
  | [d1, d2, d3, d4] => { results := [.lit (.bool true)], args := [d1, d2, d3, d4] }
  | _ => none }
def codeReadsAsSpecifiedRow : OpenClaim := { program := "ytjppchomonpfgaa", sum := "821653ab436a4dda208f31420b996f037cff0aee53bc3e5deaaea42e0c75bd55", func := "antiquary/antiquarylaw08.CodeReadsAsSpecified", spec := "codeReadsAsSpecified", unfollowed := true, recurses := true, apart := false }
def CodeReadsAsSpecifiedSaid : Prop := codeReadsAsSpecifiedRow.holds Try.pinned (OpenSpec.ofChange codeReadsAsSpecifiedSpec)

/-- ITS FALSE NEIGHBOUR: 'it returns false'. Refute it at one input. -/
def codeReadsAsSpecifiedWrong : ChangeSpec := { name := "codeReadsAsSpecified", fn := fun _ => fun
  | [d1, d2, d3, d4] => { results := [.lit (.bool false)], args := [d1, d2, d3, d4] }
  | _ => none }
def CodeReadsAsSpecifiedWrongFalsely : Prop := codeReadsAsSpecifiedRow.holds Try.pinned (OpenSpec.ofChange codeReadsAsSpecifiedWrong)

/-- 'antiquarylaw08.CodeTablesAsSpecified': WHATEVER THE INPUT: true; the input reads as it did. -/
def codeTablesAsSpecifiedSpec : ChangeSpec := { name := "codeTablesAsSpecified", fn := fun _ => fun
  | [d1, d2, d3, d4, d5, d6] => { results := [.lit (.bool true)], args := [d1, d2, d3, d4, d5, d6] }
  | _ => none }
def codeTablesAsSpecifiedRow : OpenClaim := { program := "ytjppchomonpfgaa", sum := "821653ab436a4dda208f31420b996f037cff0aee53bc3e5deaaea42e0c75bd55", func := "antiquary/antiquarylaw08.CodeTablesAsSpecified", spec := "codeTablesAsSpecified", unfollowed := true, recurses := true, apart := false }
def CodeTablesAsSpecifiedSaid : Prop := codeTablesAsSpecifiedRow.holds Try.pinned (OpenSpec.ofChange codeTablesAsSpecifiedSpec)

/-- ITS FALSE NEIGHBOUR: 'it returns false'. Refute it at one input. -/
def codeTablesAsSpecifiedWrong : ChangeSpec := { name := "codeTablesAsSpecified", fn := fun _ => fun
  | [d1, d2, d3, d4, d5, d6] => { results := [.lit (.bool false)], args := [d1, d2, d3, d4, d5, d6] }
  | _ => none }
def CodeTablesAsSpecifiedWrongFalsely : Prop := codeTablesAsSpecifiedRow.holds Try.pinned (OpenSpec.ofChange codeTablesAsSpecifiedWrong)

/-- 'antiquarylaw08.CodeBoundsHold': WHATEVER THE INPUT: true; the input reads as it did. -/
def codeBoundsHoldSpec : ChangeSpec := { name := "codeBoundsHold", fn := fun _ => fun
  | [d1, d2, d3, d4] => { results := [.lit (.bool true)], args := [d1, d2, d3, d4] }
  | _ => none }
def codeBoundsHoldRow : OpenClaim := { program := "ytjppchomonpfgaa", sum := "821653ab436a4dda208f31420b996f037cff0aee53bc3e5deaaea42e0c75bd55", func := "antiquary/antiquarylaw08.CodeBoundsHold", spec := "codeBoundsHold", unfollowed := true, recurses := true, apart := false }
def CodeBoundsHoldSaid : Prop := codeBoundsHoldRow.holds Try.pinned (OpenSpec.ofChange codeBoundsHoldSpec)

/-- ITS FALSE NEIGHBOUR: 'it returns false'. Refute it at one input. -/
def codeBoundsHoldWrong : ChangeSpec := { name := "codeBoundsHold", fn := fun _ => fun
  | [d1, d2, d3, d4] => { results := [.lit (.bool false)], args := [d1, d2, d3, d4] }
  | _ => none }
def CodeBoundsHoldWrongFalsely : Prop := codeBoundsHoldRow.holds Try.pinned (OpenSpec.ofChange codeBoundsHoldWrong)

/-- 'antiquarylaw08.CodeTablesAddUp': WHATEVER THE INPUT: true; the input reads as it did. -/
def codeTablesAddUpSpec : ChangeSpec := { name := "codeTablesAddUp", fn := fun _ => fun
  | [d1, d2, d3, d4] => { results := [.lit (.bool true)], args := [d1, d2, d3, d4] }
  | _ => none }
def codeTablesAddUpRow : OpenClaim := { program := "ytjppchomonpfgaa", sum := "821653ab436a4dda208f31420b996f037cff0aee53bc3e5deaaea42e0c75bd55", func := "antiquary/antiquarylaw08.CodeTablesAddUp", spec := "codeTablesAddUp", unfollowed := true, recurses := true, apart := false }
def CodeTablesAddUpSaid : Prop := codeTablesAddUpRow.holds Try.pinned (OpenSpec.ofChange codeTablesAddUpSpec)

/-- ITS FALSE NEIGHBOUR: 'it returns false'. Refute it at one input. -/
def codeTablesAddUpWrong : ChangeSpec := { name := "codeTablesAddUp", fn := fun _ => fun
  | [d1, d2, d3, d4] => { results := [.lit (.bool false)], args := [d1, d2, d3, d4] }
  | _ => none }
def CodeTablesAddUpWrongFalsely : Prop := codeTablesAddUpRow.holds Try.pinned (OpenSpec.ofChange codeTablesAddUpWrong)

/-- 'antiquarylaw08.CodeIsNearest': WHATEVER THE INPUT: true; the input reads as it did. -/
def codeIsNearestSpec : ChangeSpec := { name := "codeIsNearest", fn := fun _ => fun
  | [d1, d2, d3, d4] => { results := [.lit (.bool true)], args := [d1, d2, d3, d4] }
  | _ => none }
def codeIsNearestRow : OpenClaim := { program := "ytjppchomonpfgaa", sum := "821653ab436a4dda208f31420b996f037cff0aee53bc3e5deaaea42e0c75bd55", func := "antiquary/antiquarylaw08.CodeIsNearest", spec := "codeIsNearest", unfollowed := true, recurses := true, apart := false }
def CodeIsNearestSaid : Prop := codeIsNearestRow.holds Try.pinned (OpenSpec.ofChange codeIsNearestSpec)

/-- ITS FALSE NEIGHBOUR: 'it returns false'. Refute it at one input. -/
def codeIsNearestWrong : ChangeSpec := { name := "codeIsNearest", fn := fun _ => fun
  | [d1, d2, d3, d4] => { results := [.lit (.bool false)], args := [d1, d2, d3, d4] }
  | _ => none }
def CodeIsNearestWrongFalsely : Prop := codeIsNearestRow.holds Try.pinned (OpenSpec.ofChange codeIsNearestWrong)

/-- 'antiquarylaw08.CodeTrainsAsSpecified': WHATEVER THE INPUT: true; the input reads as it did. -/
def codeTrainsAsSpecifiedSpec : ChangeSpec := { name := "codeTrainsAsSpecified", fn := fun _ => fun
  | [d1, d2, d3, d4] => { results := [.lit (.bool true)], args := [d1, d2, d3, d4] }
  | _ => none }
def codeTrainsAsSpecifiedRow : OpenClaim := { program := "ytjppchomonpfgaa", sum := "821653ab436a4dda208f31420b996f037cff0aee53bc3e5deaaea42e0c75bd55", func := "antiquary/antiquarylaw08.CodeTrainsAsSpecified", spec := "codeTrainsAsSpecified", unfollowed := true, recurses := true, apart := false }
def CodeTrainsAsSpecifiedSaid : Prop := codeTrainsAsSpecifiedRow.holds Try.pinned (OpenSpec.ofChange codeTrainsAsSpecifiedSpec)

/-- ITS FALSE NEIGHBOUR: 'it returns false'. Refute it at one input. -/
def codeTrainsAsSpecifiedWrong : ChangeSpec := { name := "codeTrainsAsSpecified", fn := fun _ => fun
  | [d1, d2, d3, d4] => { results := [.lit (.bool false)], args := [d1, d2, d3, d4] }
  | _ => none }
def CodeTrainsAsSpecifiedWrongFalsely : Prop := codeTrainsAsSpecifiedRow.holds Try.pinned (OpenSpec.ofChange codeTrainsAsSpecifiedWrong)

/-- 'antiquarylaw08.CodeTrainingCovers': WHATEVER THE INPUT: true; the input reads as it did. -/
def codeTrainingCoversSpec : ChangeSpec := { name := "codeTrainingCovers", fn := fun _ => fun
  | [d1, d2, d3, d4, d5] => { results := [.lit (.bool true)], args := [d1, d2, d3, d4, d5] }
  | _ => none }
def codeTrainingCoversRow : OpenClaim := { program := "ytjppchomonpfgaa", sum := "821653ab436a4dda208f31420b996f037cff0aee53bc3e5deaaea42e0c75bd55", func := "antiquary/antiquarylaw08.CodeTrainingCovers", spec := "codeTrainingCovers", unfollowed := true, recurses := true, apart := false }
def CodeTrainingCoversSaid : Prop := codeTrainingCoversRow.holds Try.pinned (OpenSpec.ofChange codeTrainingCoversSpec)

/-- ITS FALSE NEIGHBOUR: 'it returns false'. Refute it at one input. -/
def codeTrainingCoversWrong : ChangeSpec := { name := "codeTrainingCovers", fn := fun _ => fun
  | [d1, d2, d3, d4, d5] => { results := [.lit (.bool false)], args := [d1, d2, d3, d4, d5] }
  | _ => none }
def CodeTrainingCoversWrongFalsely : Prop := codeTrainingCoversRow.holds Try.pinned (OpenSpec.ofChange codeTrainingCoversWrong)

/- THE SECOND FORM. 'bulk': how many values and letters a reading holds, each counted each time it is reached (what is shared counts as often as it is met; a slice's spare places count too). A statement '..UptoSaid' is the law's where the arguments, and the package variables that the reading takes, are together of bulk at most 1048576: NARROWER than '..Said'. Prove '..Said' where nothing that the law and all that it calls make is longer than what came in: it says more and counts as full. Else prove '..UptoSaid'. A law counts once. -/
mutual
def uptoBulk {H : Type} : DataW H → Nat
  | .lit (.string bytes) => bytes.length + 1
  | .lit _ => 1
  | .nil => 1
  | .ptr d => uptoBulk d + 1
  | .slice elems spare => uptoBulkAll elems + uptoBulkAll spare + 1
  | .agg parts => uptoBulkAll parts + 1
  | .iface _ d => uptoBulk d + 1
  | .map entries => uptoBulkEntries entries + 1
  | .held _ => 1
def uptoBulkAll {H : Type} : List (DataW H) → Nat
  | [] => 0
  | d :: r => uptoBulk d + uptoBulkAll r
def uptoBulkEntries {H : Type} : List (Lit × DataW H) → Nat
  | [] => 0
  | x :: r => uptoBulkEntry x + uptoBulkEntries r
def uptoBulkEntry {H : Type} : Lit × DataW H → Nat
  | (.string bytes, d) => bytes.length + uptoBulk d + 1
  | (_, d) => uptoBulk d + 1
 end
def uptoSmall : (H : Type) → List (DataW H) → Bool := fun _ ds => decide (uptoBulkAll ds ≤ 1048576)
def OpenSpec.upto (s : _root_.Go.ChangeSpec) : _root_.Go.OpenSpec := { _root_.Go.OpenSpec.ofChange s with cond := some uptoSmall }

/-- 'antiquarylaw08.CodeReadsAsSpecified', WHERE WHAT IT READS IS OF BULK AT MOST 1048576: true; the input reads as it did. -/
def codeReadsAsSpecifiedUptoRow : OpenClaim := { program := "ytjppchomonpfgaa", sum := "821653ab436a4dda208f31420b996f037cff0aee53bc3e5deaaea42e0c75bd55", func := "antiquary/antiquarylaw08.CodeReadsAsSpecified", spec := "codeReadsAsSpecified", unfollowed := true, recurses := true, apart := false, narrowed := true }
def CodeReadsAsSpecifiedUptoSaid : Prop := codeReadsAsSpecifiedUptoRow.holds Try.pinned (OpenSpec.upto codeReadsAsSpecifiedSpec)

/-- 'antiquarylaw08.CodeTablesAsSpecified', WHERE WHAT IT READS IS OF BULK AT MOST 1048576: true; the input reads as it did. -/
def codeTablesAsSpecifiedUptoRow : OpenClaim := { program := "ytjppchomonpfgaa", sum := "821653ab436a4dda208f31420b996f037cff0aee53bc3e5deaaea42e0c75bd55", func := "antiquary/antiquarylaw08.CodeTablesAsSpecified", spec := "codeTablesAsSpecified", unfollowed := true, recurses := true, apart := false, narrowed := true }
def CodeTablesAsSpecifiedUptoSaid : Prop := codeTablesAsSpecifiedUptoRow.holds Try.pinned (OpenSpec.upto codeTablesAsSpecifiedSpec)

/-- 'antiquarylaw08.CodeBoundsHold', WHERE WHAT IT READS IS OF BULK AT MOST 1048576: true; the input reads as it did. -/
def codeBoundsHoldUptoRow : OpenClaim := { program := "ytjppchomonpfgaa", sum := "821653ab436a4dda208f31420b996f037cff0aee53bc3e5deaaea42e0c75bd55", func := "antiquary/antiquarylaw08.CodeBoundsHold", spec := "codeBoundsHold", unfollowed := true, recurses := true, apart := false, narrowed := true }
def CodeBoundsHoldUptoSaid : Prop := codeBoundsHoldUptoRow.holds Try.pinned (OpenSpec.upto codeBoundsHoldSpec)

/-- 'antiquarylaw08.CodeTablesAddUp', WHERE WHAT IT READS IS OF BULK AT MOST 1048576: true; the input reads as it did. -/
def codeTablesAddUpUptoRow : OpenClaim := { program := "ytjppchomonpfgaa", sum := "821653ab436a4dda208f31420b996f037cff0aee53bc3e5deaaea42e0c75bd55", func := "antiquary/antiquarylaw08.CodeTablesAddUp", spec := "codeTablesAddUp", unfollowed := true, recurses := true, apart := false, narrowed := true }
def CodeTablesAddUpUptoSaid : Prop := codeTablesAddUpUptoRow.holds Try.pinned (OpenSpec.upto codeTablesAddUpSpec)

/-- 'antiquarylaw08.CodeIsNearest', WHERE WHAT IT READS IS OF BULK AT MOST 1048576: true; the input reads as it did. -/
def codeIsNearestUptoRow : OpenClaim := { program := "ytjppchomonpfgaa", sum := "821653ab436a4dda208f31420b996f037cff0aee53bc3e5deaaea42e0c75bd55", func := "antiquary/antiquarylaw08.CodeIsNearest", spec := "codeIsNearest", unfollowed := true, recurses := true, apart := false, narrowed := true }
def CodeIsNearestUptoSaid : Prop := codeIsNearestUptoRow.holds Try.pinned (OpenSpec.upto codeIsNearestSpec)

/-- 'antiquarylaw08.CodeTrainsAsSpecified', WHERE WHAT IT READS IS OF BULK AT MOST 1048576: true; the input reads as it did. -/
def codeTrainsAsSpecifiedUptoRow : OpenClaim := { program := "ytjppchomonpfgaa", sum := "821653ab436a4dda208f31420b996f037cff0aee53bc3e5deaaea42e0c75bd55", func := "antiquary/antiquarylaw08.CodeTrainsAsSpecified", spec := "codeTrainsAsSpecified", unfollowed := true, recurses := true, apart := false, narrowed := true }
def CodeTrainsAsSpecifiedUptoSaid : Prop := codeTrainsAsSpecifiedUptoRow.holds Try.pinned (OpenSpec.upto codeTrainsAsSpecifiedSpec)

/-- 'antiquarylaw08.CodeTrainingCovers', WHERE WHAT IT READS IS OF BULK AT MOST 1048576: true; the input reads as it did. -/
def codeTrainingCoversUptoRow : OpenClaim := { program := "ytjppchomonpfgaa", sum := "821653ab436a4dda208f31420b996f037cff0aee53bc3e5deaaea42e0c75bd55", func := "antiquary/antiquarylaw08.CodeTrainingCovers", spec := "codeTrainingCovers", unfollowed := true, recurses := true, apart := false, narrowed := true }
def CodeTrainingCoversUptoSaid : Prop := codeTrainingCoversUptoRow.holds Try.pinned (OpenSpec.upto codeTrainingCoversSpec)

end Rows
end Go.Proofs.Ytjppchomonpfgaa
