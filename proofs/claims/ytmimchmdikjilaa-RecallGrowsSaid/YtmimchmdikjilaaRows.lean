/-
  No cell of these rows narrows 'for every input' (looked for: loops, veiled, ifaces, maps, wideKeys, modest, calm, conditions, laid).
  DERIVED. THE GIVEN ROWS OF THIS SEAT. 6 by the template 'for every input the law returns true; each argument reads behind the call as it read before'; 0 by the template 'total and deterministic' (their statements: YtmimchmdikjilaaTotals.lean).
  GIVEN WITH THE SEED: the statements are not yours to turn. If you find one false, say at which input.
  Laid BY PROGRAM, IN A SANDBOX (cutbox-rows.mjs): the forced cells as the released guide's own fill.sh prints them over the translation 65efdb63c5ba3197… (all of the seat's roots in one cut). By AI agents, Wed Nov 11 2026. No macro, syntax, notation, axiom, sorry.
-/
import Derived.Test.YtmimchmdikjilaaChecked
import GoSem.Claim
import GoSem.ClaimJoined
import GoSem.ClaimMapViews
import Derived.JoinedTies
import Derived.KernelRfl
namespace Go.Proofs.Ytmimchmdikjilaa
/- THE CELL 'sum', in the pinned program and in every row, IS THE sha256 OF THE DUMP (.gsa) THAT YtmimchmdikjilaaProg.lean LOADS. Nothing in Lean hashes anything: it is a label: what it is worth is what the hold of that sum in a sandbox is worth. -/
noncomputable def Try.pinned : Pinned := { name := "ytmimchmdikjilaa", sum := "65efdb63c5ba3197c649ce8f4a1c3512b1440ace6a4c69db1c35fc1c6c3d972c", checked := Try.checked }
namespace Rows
def none {H : Type} : Left H := { results := [], args := [] }

/-- 'antiquarylaw31.RecallCountsAsSpecified': WHATEVER THE INPUT: true; the input reads as it did. -/
def recallCountsAsSpecifiedSpec : ChangeSpec := { name := "recallCountsAsSpecified", fn := fun _ => fun
  | [d1, d2, d3] => { results := [.lit (.bool true)], args := [d1, d2, d3] }
  | _ => none }
def recallCountsAsSpecifiedRow : OpenClaim := { program := "ytmimchmdikjilaa", sum := "65efdb63c5ba3197c649ce8f4a1c3512b1440ace6a4c69db1c35fc1c6c3d972c", func := "antiquary/antiquarylaw31.RecallCountsAsSpecified", spec := "recallCountsAsSpecified", unfollowed := true, recurses := true, apart := false }
def RecallCountsAsSpecifiedSaid : Prop := recallCountsAsSpecifiedRow.holds Try.pinned (OpenSpec.ofChange recallCountsAsSpecifiedSpec)

/-- ITS FALSE NEIGHBOUR: 'it returns false'. Refute it at one input. -/
def recallCountsAsSpecifiedWrong : ChangeSpec := { name := "recallCountsAsSpecified", fn := fun _ => fun
  | [d1, d2, d3] => { results := [.lit (.bool false)], args := [d1, d2, d3] }
  | _ => none }
def RecallCountsAsSpecifiedWrongFalsely : Prop := recallCountsAsSpecifiedRow.holds Try.pinned (OpenSpec.ofChange recallCountsAsSpecifiedWrong)

/-- 'antiquarylaw31.RecallJoinsAsSpecified': WHATEVER THE INPUT: true; the input reads as it did. -/
def recallJoinsAsSpecifiedSpec : ChangeSpec := { name := "recallJoinsAsSpecified", fn := fun _ => fun
  | [d1, d2, d3] => { results := [.lit (.bool true)], args := [d1, d2, d3] }
  | _ => none }
def recallJoinsAsSpecifiedRow : OpenClaim := { program := "ytmimchmdikjilaa", sum := "65efdb63c5ba3197c649ce8f4a1c3512b1440ace6a4c69db1c35fc1c6c3d972c", func := "antiquary/antiquarylaw31.RecallJoinsAsSpecified", spec := "recallJoinsAsSpecified", unfollowed := true, recurses := true, apart := false }
def RecallJoinsAsSpecifiedSaid : Prop := recallJoinsAsSpecifiedRow.holds Try.pinned (OpenSpec.ofChange recallJoinsAsSpecifiedSpec)

/-- ITS FALSE NEIGHBOUR: 'it returns false'. Refute it at one input. -/
def recallJoinsAsSpecifiedWrong : ChangeSpec := { name := "recallJoinsAsSpecified", fn := fun _ => fun
  | [d1, d2, d3] => { results := [.lit (.bool false)], args := [d1, d2, d3] }
  | _ => none }
def RecallJoinsAsSpecifiedWrongFalsely : Prop := recallJoinsAsSpecifiedRow.holds Try.pinned (OpenSpec.ofChange recallJoinsAsSpecifiedWrong)

/-- 'antiquarylaw31.RecallIsTight': WHATEVER THE INPUT: true; the input reads as it did. -/
def recallIsTightSpec : ChangeSpec := { name := "recallIsTight", fn := fun _ => fun
  | [d1, d2] => { results := [.lit (.bool true)], args := [d1, d2] }
  | _ => none }
def recallIsTightRow : OpenClaim := { program := "ytmimchmdikjilaa", sum := "65efdb63c5ba3197c649ce8f4a1c3512b1440ace6a4c69db1c35fc1c6c3d972c", func := "antiquary/antiquarylaw31.RecallIsTight", spec := "recallIsTight", unfollowed := true, recurses := true, apart := false }
def RecallIsTightSaid : Prop := recallIsTightRow.holds Try.pinned (OpenSpec.ofChange recallIsTightSpec)

/-- ITS FALSE NEIGHBOUR: 'it returns false'. Refute it at one input. -/
def recallIsTightWrong : ChangeSpec := { name := "recallIsTight", fn := fun _ => fun
  | [d1, d2] => { results := [.lit (.bool false)], args := [d1, d2] }
  | _ => none }
def RecallIsTightWrongFalsely : Prop := recallIsTightRow.holds Try.pinned (OpenSpec.ofChange recallIsTightWrong)

/-- 'antiquarylaw31.RecallGrows': WHATEVER THE INPUT: true; the input reads as it did. -/
def recallGrowsSpec : ChangeSpec := { name := "recallGrows", fn := fun _ => fun
  | [d1, d2, d3, d4] => { results := [.lit (.bool true)], args := [d1, d2, d3, d4] }
  | _ => none }
def recallGrowsRow : OpenClaim := { program := "ytmimchmdikjilaa", sum := "65efdb63c5ba3197c649ce8f4a1c3512b1440ace6a4c69db1c35fc1c6c3d972c", func := "antiquary/antiquarylaw31.RecallGrows", spec := "recallGrows", unfollowed := true, recurses := true, apart := false }
def RecallGrowsSaid : Prop := recallGrowsRow.holds Try.pinned (OpenSpec.ofChange recallGrowsSpec)

/-- ITS FALSE NEIGHBOUR: 'it returns false'. Refute it at one input. -/
def recallGrowsWrong : ChangeSpec := { name := "recallGrows", fn := fun _ => fun
  | [d1, d2, d3, d4] => { results := [.lit (.bool false)], args := [d1, d2, d3, d4] }
  | _ => none }
def RecallGrowsWrongFalsely : Prop := recallGrowsRow.holds Try.pinned (OpenSpec.ofChange recallGrowsWrong)

/-- 'antiquarylaw31.RecallNeedsNoMore': WHATEVER THE INPUT: true; the input reads as it did. -/
def recallNeedsNoMoreSpec : ChangeSpec := { name := "recallNeedsNoMore", fn := fun _ => fun
  | [d1, d2, d3] => { results := [.lit (.bool true)], args := [d1, d2, d3] }
  | _ => none }
def recallNeedsNoMoreRow : OpenClaim := { program := "ytmimchmdikjilaa", sum := "65efdb63c5ba3197c649ce8f4a1c3512b1440ace6a4c69db1c35fc1c6c3d972c", func := "antiquary/antiquarylaw31.RecallNeedsNoMore", spec := "recallNeedsNoMore", unfollowed := true, recurses := true, apart := false }
def RecallNeedsNoMoreSaid : Prop := recallNeedsNoMoreRow.holds Try.pinned (OpenSpec.ofChange recallNeedsNoMoreSpec)

/-- ITS FALSE NEIGHBOUR: 'it returns false'. Refute it at one input. -/
def recallNeedsNoMoreWrong : ChangeSpec := { name := "recallNeedsNoMore", fn := fun _ => fun
  | [d1, d2, d3] => { results := [.lit (.bool false)], args := [d1, d2, d3] }
  | _ => none }
def RecallNeedsNoMoreWrongFalsely : Prop := recallNeedsNoMoreRow.holds Try.pinned (OpenSpec.ofChange recallNeedsNoMoreWrong)

/-- 'antiquarylaw31.RecallIsTrue': WHATEVER THE INPUT: true; the input reads as it did. -/
def recallIsTrueSpec : ChangeSpec := { name := "recallIsTrue", fn := fun _ => fun
  | [d1, d2, d3, d4] => { results := [.lit (.bool true)], args := [d1, d2, d3, d4] }
  | _ => none }
def recallIsTrueRow : OpenClaim := { program := "ytmimchmdikjilaa", sum := "65efdb63c5ba3197c649ce8f4a1c3512b1440ace6a4c69db1c35fc1c6c3d972c", func := "antiquary/antiquarylaw31.RecallIsTrue", spec := "recallIsTrue", unfollowed := true, recurses := true, apart := false }
def RecallIsTrueSaid : Prop := recallIsTrueRow.holds Try.pinned (OpenSpec.ofChange recallIsTrueSpec)

/-- ITS FALSE NEIGHBOUR: 'it returns false'. Refute it at one input. -/
def recallIsTrueWrong : ChangeSpec := { name := "recallIsTrue", fn := fun _ => fun
  | [d1, d2, d3, d4] => { results := [.lit (.bool false)], args := [d1, d2, d3, d4] }
  | _ => none }
def RecallIsTrueWrongFalsely : Prop := recallIsTrueRow.holds Try.pinned (OpenSpec.ofChange recallIsTrueWrong)

/- THE SECOND FORM. 'bulk': how many values and letters a reading holds, each counted each time it is reached (what is shared counts as often as it is met; a slice's spare places count too). A statement '..UptoSaid' is the law's where the arguments, and the package variables that the reading takes, are together of bulk at most 1048576: NARROWER than '..Said'. Prove '..Said' where nothing that the law and all that it calls make is longer than what came in: it says more and counts as full. Else prove '..UptoSaid'. A law counts once. -/
mutual
def uptoBulk {H : Type} : DataW H → Nat
  | .lit (.string bytes) => bytes.length + 1
  | .lit _ => 1
  | .nil => 1
  | .ptr d => uptoBulk d + 1
  | .slice elems spare => uptoBulkAll elems + uptoBulkAll spare + 1
  | .agg parts => uptoBulkAll parts + 1
  | .iface _ d => uptoBulk d + 1
  | .map entries => uptoBulkEntries entries + 1
  | .held _ => 1
def uptoBulkAll {H : Type} : List (DataW H) → Nat
  | [] => 0
  | d :: r => uptoBulk d + uptoBulkAll r
def uptoBulkEntries {H : Type} : List (Lit × DataW H) → Nat
  | [] => 0
  | x :: r => uptoBulkEntry x + uptoBulkEntries r
def uptoBulkEntry {H : Type} : Lit × DataW H → Nat
  | (.string bytes, d) => bytes.length + uptoBulk d + 1
  | (_, d) => uptoBulk d + 1
 end
def uptoSmall : (H : Type) → List (DataW H) → Bool := fun _ ds => decide (uptoBulkAll ds ≤ 1048576)
def OpenSpec.upto (s : _root_.Go.ChangeSpec) : _root_.Go.OpenSpec := { _root_.Go.OpenSpec.ofChange s with cond := some uptoSmall }

/-- 'antiquarylaw31.RecallCountsAsSpecified', WHERE WHAT IT READS IS OF BULK AT MOST 1048576: true; the input reads as it did. -/
def recallCountsAsSpecifiedUptoRow : OpenClaim := { program := "ytmimchmdikjilaa", sum := "65efdb63c5ba3197c649ce8f4a1c3512b1440ace6a4c69db1c35fc1c6c3d972c", func := "antiquary/antiquarylaw31.RecallCountsAsSpecified", spec := "recallCountsAsSpecified", unfollowed := true, recurses := true, apart := false, narrowed := true }
def RecallCountsAsSpecifiedUptoSaid : Prop := recallCountsAsSpecifiedUptoRow.holds Try.pinned (OpenSpec.upto recallCountsAsSpecifiedSpec)

/-- 'antiquarylaw31.RecallJoinsAsSpecified', WHERE WHAT IT READS IS OF BULK AT MOST 1048576: true; the input reads as it did. -/
def recallJoinsAsSpecifiedUptoRow : OpenClaim := { program := "ytmimchmdikjilaa", sum := "65efdb63c5ba3197c649ce8f4a1c3512b1440ace6a4c69db1c35fc1c6c3d972c", func := "antiquary/antiquarylaw31.RecallJoinsAsSpecified", spec := "recallJoinsAsSpecified", unfollowed := true, recurses := true, apart := false, narrowed := true }
def RecallJoinsAsSpecifiedUptoSaid : Prop := recallJoinsAsSpecifiedUptoRow.holds Try.pinned (OpenSpec.upto recallJoinsAsSpecifiedSpec)

/-- 'antiquarylaw31.RecallIsTight', WHERE WHAT IT READS IS OF BULK AT MOST 1048576: true; the input reads as it did. -/
def recallIsTightUptoRow : OpenClaim := { program := "ytmimchmdikjilaa", sum := "65efdb63c5ba3197c649ce8f4a1c3512b1440ace6a4c69db1c35fc1c6c3d972c", func := "antiquary/antiquarylaw31.RecallIsTight", spec := "recallIsTight", unfollowed := true, recurses := true, apart := false, narrowed := true }
def RecallIsTightUptoSaid : Prop := recallIsTightUptoRow.holds Try.pinned (OpenSpec.upto recallIsTightSpec)

/-- 'antiquarylaw31.RecallGrows', WHERE WHAT IT READS IS OF BULK AT MOST 1048576: true; the input reads as it did. -/
def recallGrowsUptoRow : OpenClaim := { program := "ytmimchmdikjilaa", sum := "65efdb63c5ba3197c649ce8f4a1c3512b1440ace6a4c69db1c35fc1c6c3d972c", func := "antiquary/antiquarylaw31.RecallGrows", spec := "recallGrows", unfollowed := true, recurses := true, apart := false, narrowed := true }
def RecallGrowsUptoSaid : Prop := recallGrowsUptoRow.holds Try.pinned (OpenSpec.upto recallGrowsSpec)

/-- 'antiquarylaw31.RecallNeedsNoMore', WHERE WHAT IT READS IS OF BULK AT MOST 1048576: true; the input reads as it did. -/
def recallNeedsNoMoreUptoRow : OpenClaim := { program := "ytmimchmdikjilaa", sum := "65efdb63c5ba3197c649ce8f4a1c3512b1440ace6a4c69db1c35fc1c6c3d972c", func := "antiquary/antiquarylaw31.RecallNeedsNoMore", spec := "recallNeedsNoMore", unfollowed := true, recurses := true, apart := false, narrowed := true }
def RecallNeedsNoMoreUptoSaid : Prop := recallNeedsNoMoreUptoRow.holds Try.pinned (OpenSpec.upto recallNeedsNoMoreSpec)

/-- 'antiquarylaw31.RecallIsTrue', WHERE WHAT IT READS IS OF BULK AT MOST 1048576: true; the input reads as it did. -/
def recallIsTrueUptoRow : OpenClaim := { program := "ytmimchmdikjilaa", sum := "65efdb63c5ba3197c649ce8f4a1c3512b1440ace6a4c69db1c35fc1c6c3d972c", func := "antiquary/antiquarylaw31.RecallIsTrue", spec := "recallIsTrue", unfollowed := true, recurses := true, apart := false, narrowed := true }
def RecallIsTrueUptoSaid : Prop := recallIsTrueUptoRow.holds Try.pinned (OpenSpec.upto recallIsTrueSpec)

end Rows
end Go.Proofs.Ytmimchmdikjilaa
