/-
  No cell of these rows narrows 'for every input' (looked for: loops, veiled, ifaces, maps, wideKeys, modest, calm, conditions, laid).
  DERIVED. THE GIVEN ROWS OF THIS SEAT. 7 by the template 'for every input the law returns true; each argument reads behind the call as it read before'; 0 by the template 'total and deterministic' (their statements: YtighbmlnlmbbkaaTotals.lean).
  GIVEN WITH THE SEED: the statements are not yours to turn. If you find one false, say at which input.
  Laid BY PROGRAM, IN A SANDBOX (cutbox-rows.mjs): the forced cells as the released guide's own fill.sh prints them over the translation e2b772e24fdde622… (all of the seat's roots in one cut). By AI agents, Wed Nov 11 2026. No macro, syntax, notation, axiom, sorry.
-/
import Derived.Test.YtighbmlnlmbbkaaChecked
import GoSem.Claim
import GoSem.ClaimJoined
import GoSem.ClaimMapViews
import Derived.JoinedTies
import Derived.KernelRfl
namespace Go.Proofs.Ytighbmlnlmbbkaa
/- THE CELL 'sum', in the pinned program and in every row, IS THE sha256 OF THE DUMP (.gsa) THAT YtighbmlnlmbbkaaProg.lean LOADS. Nothing in Lean hashes anything: it is a label: what it is worth is what the hold of that sum in a sandbox is worth. -/
noncomputable def Try.pinned : Pinned := { name := "ytighbmlnlmbbkaa", sum := "e2b772e24fdde622a48f592b22a9b16e4327950ac47e976df68eb414f944c5e5", checked := Try.checked }
namespace Rows
def none {H : Type} : Left H := { results := [], args := [] }

/-- 'antiquarylaw10.BestFindsAsSpecified': WHATEVER THE INPUT: true; the input reads as it did. -/
def bestFindsAsSpecifiedSpec : ChangeSpec := { name := "bestFindsAsSpecified", fn := fun _ => fun
  | [d1, d2] => { results := [.lit (.bool true)], args := [d1, d2] }
  | _ => none }
def bestFindsAsSpecifiedRow : OpenClaim := { program := "ytighbmlnlmbbkaa", sum := "e2b772e24fdde622a48f592b22a9b16e4327950ac47e976df68eb414f944c5e5", func := "antiquary/antiquarylaw10.BestFindsAsSpecified", spec := "bestFindsAsSpecified", unfollowed := true, recurses := true, apart := false }
def BestFindsAsSpecifiedSaid : Prop := bestFindsAsSpecifiedRow.holds Try.pinned (OpenSpec.ofChange bestFindsAsSpecifiedSpec)

/-- ITS FALSE NEIGHBOUR: 'it returns false'. Refute it at one input. -/
def bestFindsAsSpecifiedWrong : ChangeSpec := { name := "bestFindsAsSpecified", fn := fun _ => fun
  | [d1, d2] => { results := [.lit (.bool false)], args := [d1, d2] }
  | _ => none }
def BestFindsAsSpecifiedWrongFalsely : Prop := bestFindsAsSpecifiedRow.holds Try.pinned (OpenSpec.ofChange bestFindsAsSpecifiedWrong)

/-- 'antiquarylaw10.BestJoinsAsSpecified': WHATEVER THE INPUT: true; the input reads as it did. -/
def bestJoinsAsSpecifiedSpec : ChangeSpec := { name := "bestJoinsAsSpecified", fn := fun _ => fun
  | [d1, d2, d3, d4] => { results := [.lit (.bool true)], args := [d1, d2, d3, d4] }
  | _ => none }
def bestJoinsAsSpecifiedRow : OpenClaim := { program := "ytighbmlnlmbbkaa", sum := "e2b772e24fdde622a48f592b22a9b16e4327950ac47e976df68eb414f944c5e5", func := "antiquary/antiquarylaw10.BestJoinsAsSpecified", spec := "bestJoinsAsSpecified", unfollowed := true, recurses := true, apart := false }
def BestJoinsAsSpecifiedSaid : Prop := bestJoinsAsSpecifiedRow.holds Try.pinned (OpenSpec.ofChange bestJoinsAsSpecifiedSpec)

/-- ITS FALSE NEIGHBOUR: 'it returns false'. Refute it at one input. -/
def bestJoinsAsSpecifiedWrong : ChangeSpec := { name := "bestJoinsAsSpecified", fn := fun _ => fun
  | [d1, d2, d3, d4] => { results := [.lit (.bool false)], args := [d1, d2, d3, d4] }
  | _ => none }
def BestJoinsAsSpecifiedWrongFalsely : Prop := bestJoinsAsSpecifiedRow.holds Try.pinned (OpenSpec.ofChange bestJoinsAsSpecifiedWrong)

/-- 'antiquarylaw10.BestMergesAnyParts': WHATEVER THE INPUT: true; the input reads as it did. -/
def bestMergesAnyPartsSpec : ChangeSpec := { name := "bestMergesAnyParts", fn := fun _ => fun
  | [d1, d2, d3] => { results := [.lit (.bool true)], args := [d1, d2, d3] }
  | _ => none }
def bestMergesAnyPartsRow : OpenClaim := { program := "ytighbmlnlmbbkaa", sum := "e2b772e24fdde622a48f592b22a9b16e4327950ac47e976df68eb414f944c5e5", func := "antiquary/antiquarylaw10.BestMergesAnyParts", spec := "bestMergesAnyParts", unfollowed := true, recurses := true, apart := false }
def BestMergesAnyPartsSaid : Prop := bestMergesAnyPartsRow.holds Try.pinned (OpenSpec.ofChange bestMergesAnyPartsSpec)

/-- ITS FALSE NEIGHBOUR: 'it returns false'. Refute it at one input. -/
def bestMergesAnyPartsWrong : ChangeSpec := { name := "bestMergesAnyParts", fn := fun _ => fun
  | [d1, d2, d3] => { results := [.lit (.bool false)], args := [d1, d2, d3] }
  | _ => none }
def BestMergesAnyPartsWrongFalsely : Prop := bestMergesAnyPartsRow.holds Try.pinned (OpenSpec.ofChange bestMergesAnyPartsWrong)

/-- 'antiquarylaw10.BestIsLeast': WHATEVER THE INPUT: true; the input reads as it did. -/
def bestIsLeastSpec : ChangeSpec := { name := "bestIsLeast", fn := fun _ => fun
  | [d1, d2] => { results := [.lit (.bool true)], args := [d1, d2] }
  | _ => none }
def bestIsLeastRow : OpenClaim := { program := "ytighbmlnlmbbkaa", sum := "e2b772e24fdde622a48f592b22a9b16e4327950ac47e976df68eb414f944c5e5", func := "antiquary/antiquarylaw10.BestIsLeast", spec := "bestIsLeast", unfollowed := true, recurses := true, apart := false }
def BestIsLeastSaid : Prop := bestIsLeastRow.holds Try.pinned (OpenSpec.ofChange bestIsLeastSpec)

/-- ITS FALSE NEIGHBOUR: 'it returns false'. Refute it at one input. -/
def bestIsLeastWrong : ChangeSpec := { name := "bestIsLeast", fn := fun _ => fun
  | [d1, d2] => { results := [.lit (.bool false)], args := [d1, d2] }
  | _ => none }
def BestIsLeastWrongFalsely : Prop := bestIsLeastRow.holds Try.pinned (OpenSpec.ofChange bestIsLeastWrong)

/-- 'antiquarylaw10.BestKnowsTheWorst': WHATEVER THE INPUT: true; the input reads as it did. -/
def bestKnowsTheWorstSpec : ChangeSpec := { name := "bestKnowsTheWorst", fn := fun _ => fun
  | [d1, d2, d3] => { results := [.lit (.bool true)], args := [d1, d2, d3] }
  | _ => none }
def bestKnowsTheWorstRow : OpenClaim := { program := "ytighbmlnlmbbkaa", sum := "e2b772e24fdde622a48f592b22a9b16e4327950ac47e976df68eb414f944c5e5", func := "antiquary/antiquarylaw10.BestKnowsTheWorst", spec := "bestKnowsTheWorst", unfollowed := true, recurses := true, apart := false }
def BestKnowsTheWorstSaid : Prop := bestKnowsTheWorstRow.holds Try.pinned (OpenSpec.ofChange bestKnowsTheWorstSpec)

/-- ITS FALSE NEIGHBOUR: 'it returns false'. Refute it at one input. -/
def bestKnowsTheWorstWrong : ChangeSpec := { name := "bestKnowsTheWorst", fn := fun _ => fun
  | [d1, d2, d3] => { results := [.lit (.bool false)], args := [d1, d2, d3] }
  | _ => none }
def BestKnowsTheWorstWrongFalsely : Prop := bestKnowsTheWorstRow.holds Try.pinned (OpenSpec.ofChange bestKnowsTheWorstWrong)

/-- 'antiquarylaw10.BestMergesEvenly': WHATEVER THE INPUT: true; the input reads as it did. -/
def bestMergesEvenlySpec : ChangeSpec := { name := "bestMergesEvenly", fn := fun _ => fun
  | [d1, d2, d3] => { results := [.lit (.bool true)], args := [d1, d2, d3] }
  | _ => none }
def bestMergesEvenlyRow : OpenClaim := { program := "ytighbmlnlmbbkaa", sum := "e2b772e24fdde622a48f592b22a9b16e4327950ac47e976df68eb414f944c5e5", func := "antiquary/antiquarylaw10.BestMergesEvenly", spec := "bestMergesEvenly", unfollowed := true, recurses := true, apart := false }
def BestMergesEvenlySaid : Prop := bestMergesEvenlyRow.holds Try.pinned (OpenSpec.ofChange bestMergesEvenlySpec)

/-- ITS FALSE NEIGHBOUR: 'it returns false'. Refute it at one input. -/
def bestMergesEvenlyWrong : ChangeSpec := { name := "bestMergesEvenly", fn := fun _ => fun
  | [d1, d2, d3] => { results := [.lit (.bool false)], args := [d1, d2, d3] }
  | _ => none }
def BestMergesEvenlyWrongFalsely : Prop := bestMergesEvenlyRow.holds Try.pinned (OpenSpec.ofChange bestMergesEvenlyWrong)

/-- 'antiquarylaw10.BestCodes': WHATEVER THE INPUT: true; the input reads as it did. -/
def bestCodesSpec : ChangeSpec := { name := "bestCodes", fn := fun _ => fun
  | [d1, d2, d3] => { results := [.lit (.bool true)], args := [d1, d2, d3] }
  | _ => none }
def bestCodesRow : OpenClaim := { program := "ytighbmlnlmbbkaa", sum := "e2b772e24fdde622a48f592b22a9b16e4327950ac47e976df68eb414f944c5e5", func := "antiquary/antiquarylaw10.BestCodes", spec := "bestCodes", unfollowed := true, recurses := true, apart := false }
def BestCodesSaid : Prop := bestCodesRow.holds Try.pinned (OpenSpec.ofChange bestCodesSpec)

/-- ITS FALSE NEIGHBOUR: 'it returns false'. Refute it at one input. -/
def bestCodesWrong : ChangeSpec := { name := "bestCodes", fn := fun _ => fun
  | [d1, d2, d3] => { results := [.lit (.bool false)], args := [d1, d2, d3] }
  | _ => none }
def BestCodesWrongFalsely : Prop := bestCodesRow.holds Try.pinned (OpenSpec.ofChange bestCodesWrong)

/- THE SECOND FORM. 'bulk': how many values and letters a reading holds, each counted each time it is reached (what is shared counts as often as it is met; a slice's spare places count too). A statement '..UptoSaid' is the law's where the arguments, and the package variables that the reading takes, are together of bulk at most 1048576: NARROWER than '..Said'. Prove '..Said' where nothing that the law and all that it calls make is longer than what came in: it says more and counts as full. Else prove '..UptoSaid'. A law counts once. -/
mutual
def uptoBulk {H : Type} : DataW H → Nat
  | .lit (.string bytes) => bytes.length + 1
  | .lit _ => 1
  | .nil => 1
  | .ptr d => uptoBulk d + 1
  | .slice elems spare => uptoBulkAll elems + uptoBulkAll spare + 1
  | .agg parts => uptoBulkAll parts + 1
  | .iface _ d => uptoBulk d + 1
  | .map entries => uptoBulkEntries entries + 1
  | .held _ => 1
def uptoBulkAll {H : Type} : List (DataW H) → Nat
  | [] => 0
  | d :: r => uptoBulk d + uptoBulkAll r
def uptoBulkEntries {H : Type} : List (Lit × DataW H) → Nat
  | [] => 0
  | x :: r => uptoBulkEntry x + uptoBulkEntries r
def uptoBulkEntry {H : Type} : Lit × DataW H → Nat
  | (.string bytes, d) => bytes.length + uptoBulk d + 1
  | (_, d) => uptoBulk d + 1
 end
def uptoSmall : (H : Type) → List (DataW H) → Bool := fun _ ds => decide (uptoBulkAll ds ≤ 1048576)
def OpenSpec.upto (s : _root_.Go.ChangeSpec) : _root_.Go.OpenSpec := { _root_.Go.OpenSpec.ofChange s with cond := some uptoSmall }

/-- 'antiquarylaw10.BestFindsAsSpecified', WHERE WHAT IT READS IS OF BULK AT MOST 1048576: true; the input reads as it did. -/
def bestFindsAsSpecifiedUptoRow : OpenClaim := { program := "ytighbmlnlmbbkaa", sum := "e2b772e24fdde622a48f592b22a9b16e4327950ac47e976df68eb414f944c5e5", func := "antiquary/antiquarylaw10.BestFindsAsSpecified", spec := "bestFindsAsSpecified", unfollowed := true, recurses := true, apart := false, narrowed := true }
def BestFindsAsSpecifiedUptoSaid : Prop := bestFindsAsSpecifiedUptoRow.holds Try.pinned (OpenSpec.upto bestFindsAsSpecifiedSpec)

/-- 'antiquarylaw10.BestJoinsAsSpecified', WHERE WHAT IT READS IS OF BULK AT MOST 1048576: true; the input reads as it did. -/
def bestJoinsAsSpecifiedUptoRow : OpenClaim := { program := "ytighbmlnlmbbkaa", sum := "e2b772e24fdde622a48f592b22a9b16e4327950ac47e976df68eb414f944c5e5", func := "antiquary/antiquarylaw10.BestJoinsAsSpecified", spec := "bestJoinsAsSpecified", unfollowed := true, recurses := true, apart := false, narrowed := true }
def BestJoinsAsSpecifiedUptoSaid : Prop := bestJoinsAsSpecifiedUptoRow.holds Try.pinned (OpenSpec.upto bestJoinsAsSpecifiedSpec)

/-- 'antiquarylaw10.BestMergesAnyParts', WHERE WHAT IT READS IS OF BULK AT MOST 1048576: true; the input reads as it did. -/
def bestMergesAnyPartsUptoRow : OpenClaim := { program := "ytighbmlnlmbbkaa", sum := "e2b772e24fdde622a48f592b22a9b16e4327950ac47e976df68eb414f944c5e5", func := "antiquary/antiquarylaw10.BestMergesAnyParts", spec := "bestMergesAnyParts", unfollowed := true, recurses := true, apart := false, narrowed := true }
def BestMergesAnyPartsUptoSaid : Prop := bestMergesAnyPartsUptoRow.holds Try.pinned (OpenSpec.upto bestMergesAnyPartsSpec)

/-- 'antiquarylaw10.BestIsLeast', WHERE WHAT IT READS IS OF BULK AT MOST 1048576: true; the input reads as it did. -/
def bestIsLeastUptoRow : OpenClaim := { program := "ytighbmlnlmbbkaa", sum := "e2b772e24fdde622a48f592b22a9b16e4327950ac47e976df68eb414f944c5e5", func := "antiquary/antiquarylaw10.BestIsLeast", spec := "bestIsLeast", unfollowed := true, recurses := true, apart := false, narrowed := true }
def BestIsLeastUptoSaid : Prop := bestIsLeastUptoRow.holds Try.pinned (OpenSpec.upto bestIsLeastSpec)

/-- 'antiquarylaw10.BestKnowsTheWorst', WHERE WHAT IT READS IS OF BULK AT MOST 1048576: true; the input reads as it did. -/
def bestKnowsTheWorstUptoRow : OpenClaim := { program := "ytighbmlnlmbbkaa", sum := "e2b772e24fdde622a48f592b22a9b16e4327950ac47e976df68eb414f944c5e5", func := "antiquary/antiquarylaw10.BestKnowsTheWorst", spec := "bestKnowsTheWorst", unfollowed := true, recurses := true, apart := false, narrowed := true }
def BestKnowsTheWorstUptoSaid : Prop := bestKnowsTheWorstUptoRow.holds Try.pinned (OpenSpec.upto bestKnowsTheWorstSpec)

/-- 'antiquarylaw10.BestMergesEvenly', WHERE WHAT IT READS IS OF BULK AT MOST 1048576: true; the input reads as it did. -/
def bestMergesEvenlyUptoRow : OpenClaim := { program := "ytighbmlnlmbbkaa", sum := "e2b772e24fdde622a48f592b22a9b16e4327950ac47e976df68eb414f944c5e5", func := "antiquary/antiquarylaw10.BestMergesEvenly", spec := "bestMergesEvenly", unfollowed := true, recurses := true, apart := false, narrowed := true }
def BestMergesEvenlyUptoSaid : Prop := bestMergesEvenlyUptoRow.holds Try.pinned (OpenSpec.upto bestMergesEvenlySpec)

/-- 'antiquarylaw10.BestCodes', WHERE WHAT IT READS IS OF BULK AT MOST 1048576: true; the input reads as it did. -/
def bestCodesUptoRow : OpenClaim := { program := "ytighbmlnlmbbkaa", sum := "e2b772e24fdde622a48f592b22a9b16e4327950ac47e976df68eb414f944c5e5", func := "antiquary/antiquarylaw10.BestCodes", spec := "bestCodes", unfollowed := true, recurses := true, apart := false, narrowed := true }
def BestCodesUptoSaid : Prop := bestCodesUptoRow.holds Try.pinned (OpenSpec.upto bestCodesSpec)

end Rows
end Go.Proofs.Ytighbmlnlmbbkaa
