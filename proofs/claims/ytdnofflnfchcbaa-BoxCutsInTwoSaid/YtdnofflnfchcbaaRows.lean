/-
  No cell of these rows narrows 'for every input' (looked for: loops, veiled, ifaces, maps, wideKeys, modest, calm, conditions, laid).
  DERIVED. THE GIVEN ROWS OF THIS SEAT. 6 by the template 'for every input the law returns true; each argument reads behind the call as it read before'; 0 by the template 'total and deterministic' (their statements: YtdnofflnfchcbaaTotals.lean).
  GIVEN WITH THE SEED: the statements are not yours to turn. If you find one false, say at which input.
  Laid BY PROGRAM, IN A SANDBOX (cutbox-rows.mjs): the forced cells as the released guide's own fill.sh prints them over the translation aed36f87e863932e… (all of the seat's roots in one cut). By AI agents, Wed Nov 11 2026. No macro, syntax, notation, axiom, sorry.
-/
import Derived.Test.YtdnofflnfchcbaaChecked
import GoSem.Claim
import GoSem.ClaimJoined
import GoSem.ClaimMapViews
import Derived.JoinedTies
import Derived.KernelRfl
namespace Go.Proofs.Ytdnofflnfchcbaa
/- THE CELL 'sum', in the pinned program and in every row, IS THE sha256 OF THE DUMP (.gsa) THAT YtdnofflnfchcbaaProg.lean LOADS. Nothing in Lean hashes anything: it is a label: what it is worth is what the hold of that sum in a sandbox is worth. -/
noncomputable def Try.pinned : Pinned := { name := "ytdnofflnfchcbaa", sum := "aed36f87e863932e6e135658c724d59a1371d7b9b1de6074e9c6d22814765f73", checked := Try.checked }
namespace Rows
def none {H : Type} : Left H := { results := [], args := [] }

/-- 'antiquarylaw06.BoxMeasuresAsSpecified': WHATEVER THE INPUT: true; the input reads as it did. -/
def boxMeasuresAsSpecifiedSpec : ChangeSpec := { name := "boxMeasuresAsSpecified", fn := fun _ => fun
  | [d1, d2, d3, d4, d5, d6] => { results := [.lit (.bool true)], args := [d1, d2, d3, d4, d5, d6] }
  | _ => none }
def boxMeasuresAsSpecifiedRow : OpenClaim := { program := "ytdnofflnfchcbaa", sum := "aed36f87e863932e6e135658c724d59a1371d7b9b1de6074e9c6d22814765f73", func := "antiquary/antiquarylaw06.BoxMeasuresAsSpecified", spec := "boxMeasuresAsSpecified", unfollowed := true, recurses := true, apart := false }
def BoxMeasuresAsSpecifiedSaid : Prop := boxMeasuresAsSpecifiedRow.holds Try.pinned (OpenSpec.ofChange boxMeasuresAsSpecifiedSpec)

/-- ITS FALSE NEIGHBOUR: 'it returns false'. Refute it at one input. -/
def boxMeasuresAsSpecifiedWrong : ChangeSpec := { name := "boxMeasuresAsSpecified", fn := fun _ => fun
  | [d1, d2, d3, d4, d5, d6] => { results := [.lit (.bool false)], args := [d1, d2, d3, d4, d5, d6] }
  | _ => none }
def BoxMeasuresAsSpecifiedWrongFalsely : Prop := boxMeasuresAsSpecifiedRow.holds Try.pinned (OpenSpec.ofChange boxMeasuresAsSpecifiedWrong)

/-- 'antiquarylaw06.BoxBoundsKeys': WHATEVER THE INPUT: true; the input reads as it did. -/
def boxBoundsKeysSpec : ChangeSpec := { name := "boxBoundsKeys", fn := fun _ => fun
  | [d1, d2, d3, d4, d5, d6] => { results := [.lit (.bool true)], args := [d1, d2, d3, d4, d5, d6] }
  | _ => none }
def boxBoundsKeysRow : OpenClaim := { program := "ytdnofflnfchcbaa", sum := "aed36f87e863932e6e135658c724d59a1371d7b9b1de6074e9c6d22814765f73", func := "antiquary/antiquarylaw06.BoxBoundsKeys", spec := "boxBoundsKeys", unfollowed := true, recurses := true, apart := false }
def BoxBoundsKeysSaid : Prop := boxBoundsKeysRow.holds Try.pinned (OpenSpec.ofChange boxBoundsKeysSpec)

/-- ITS FALSE NEIGHBOUR: 'it returns false'. Refute it at one input. -/
def boxBoundsKeysWrong : ChangeSpec := { name := "boxBoundsKeys", fn := fun _ => fun
  | [d1, d2, d3, d4, d5, d6] => { results := [.lit (.bool false)], args := [d1, d2, d3, d4, d5, d6] }
  | _ => none }
def BoxBoundsKeysWrongFalsely : Prop := boxBoundsKeysRow.holds Try.pinned (OpenSpec.ofChange boxBoundsKeysWrong)

/-- 'antiquarylaw06.BoxBoundsAreReached': WHATEVER THE INPUT: true; the input reads as it did. -/
def boxBoundsAreReachedSpec : ChangeSpec := { name := "boxBoundsAreReached", fn := fun _ => fun
  | [d1, d2, d3] => { results := [.lit (.bool true)], args := [d1, d2, d3] }
  | _ => none }
def boxBoundsAreReachedRow : OpenClaim := { program := "ytdnofflnfchcbaa", sum := "aed36f87e863932e6e135658c724d59a1371d7b9b1de6074e9c6d22814765f73", func := "antiquary/antiquarylaw06.BoxBoundsAreReached", spec := "boxBoundsAreReached", unfollowed := true, recurses := true, apart := false }
def BoxBoundsAreReachedSaid : Prop := boxBoundsAreReachedRow.holds Try.pinned (OpenSpec.ofChange boxBoundsAreReachedSpec)

/-- ITS FALSE NEIGHBOUR: 'it returns false'. Refute it at one input. -/
def boxBoundsAreReachedWrong : ChangeSpec := { name := "boxBoundsAreReached", fn := fun _ => fun
  | [d1, d2, d3] => { results := [.lit (.bool false)], args := [d1, d2, d3] }
  | _ => none }
def BoxBoundsAreReachedWrongFalsely : Prop := boxBoundsAreReachedRow.holds Try.pinned (OpenSpec.ofChange boxBoundsAreReachedWrong)

/-- 'antiquarylaw06.BoxCutsInTwo': WHATEVER THE INPUT: true; the input reads as it did. -/
def boxCutsInTwoSpec : ChangeSpec := { name := "boxCutsInTwo", fn := fun _ => fun
  | [d1, d2, d3, d4, d5, d6] => { results := [.lit (.bool true)], args := [d1, d2, d3, d4, d5, d6] }
  | _ => none }
def boxCutsInTwoRow : OpenClaim := { program := "ytdnofflnfchcbaa", sum := "aed36f87e863932e6e135658c724d59a1371d7b9b1de6074e9c6d22814765f73", func := "antiquary/antiquarylaw06.BoxCutsInTwo", spec := "boxCutsInTwo", unfollowed := true, recurses := true, apart := false }
def BoxCutsInTwoSaid : Prop := boxCutsInTwoRow.holds Try.pinned (OpenSpec.ofChange boxCutsInTwoSpec)

/-- ITS FALSE NEIGHBOUR: 'it returns false'. Refute it at one input. -/
def boxCutsInTwoWrong : ChangeSpec := { name := "boxCutsInTwo", fn := fun _ => fun
  | [d1, d2, d3, d4, d5, d6] => { results := [.lit (.bool false)], args := [d1, d2, d3, d4, d5, d6] }
  | _ => none }
def BoxCutsInTwoWrongFalsely : Prop := boxCutsInTwoRow.holds Try.pinned (OpenSpec.ofChange boxCutsInTwoWrong)

/-- 'antiquarylaw06.BoxMakesAsSpecified': WHATEVER THE INPUT: true; the input reads as it did. -/
def boxMakesAsSpecifiedSpec : ChangeSpec := { name := "boxMakesAsSpecified", fn := fun _ => fun
  | [d1, d2, d3] => { results := [.lit (.bool true)], args := [d1, d2, d3] }
  | _ => none }
def boxMakesAsSpecifiedRow : OpenClaim := { program := "ytdnofflnfchcbaa", sum := "aed36f87e863932e6e135658c724d59a1371d7b9b1de6074e9c6d22814765f73", func := "antiquary/antiquarylaw06.BoxMakesAsSpecified", spec := "boxMakesAsSpecified", unfollowed := true, recurses := true, apart := false }
def BoxMakesAsSpecifiedSaid : Prop := boxMakesAsSpecifiedRow.holds Try.pinned (OpenSpec.ofChange boxMakesAsSpecifiedSpec)

/-- ITS FALSE NEIGHBOUR: 'it returns false'. Refute it at one input. -/
def boxMakesAsSpecifiedWrong : ChangeSpec := { name := "boxMakesAsSpecified", fn := fun _ => fun
  | [d1, d2, d3] => { results := [.lit (.bool false)], args := [d1, d2, d3] }
  | _ => none }
def BoxMakesAsSpecifiedWrongFalsely : Prop := boxMakesAsSpecifiedRow.holds Try.pinned (OpenSpec.ofChange boxMakesAsSpecifiedWrong)

/-- 'antiquarylaw06.BoxHasWhatItShould': WHATEVER THE INPUT: true; the input reads as it did. -/
def boxHasWhatItShouldSpec : ChangeSpec := { name := "boxHasWhatItShould", fn := fun _ => fun
  | [d1, d2, d3, d4] => { results := [.lit (.bool true)], args := [d1, d2, d3, d4] }
  | _ => none }
def boxHasWhatItShouldRow : OpenClaim := { program := "ytdnofflnfchcbaa", sum := "aed36f87e863932e6e135658c724d59a1371d7b9b1de6074e9c6d22814765f73", func := "antiquary/antiquarylaw06.BoxHasWhatItShould", spec := "boxHasWhatItShould", unfollowed := true, recurses := true, apart := false }
def BoxHasWhatItShouldSaid : Prop := boxHasWhatItShouldRow.holds Try.pinned (OpenSpec.ofChange boxHasWhatItShouldSpec)

/-- ITS FALSE NEIGHBOUR: 'it returns false'. Refute it at one input. -/
def boxHasWhatItShouldWrong : ChangeSpec := { name := "boxHasWhatItShould", fn := fun _ => fun
  | [d1, d2, d3, d4] => { results := [.lit (.bool false)], args := [d1, d2, d3, d4] }
  | _ => none }
def BoxHasWhatItShouldWrongFalsely : Prop := boxHasWhatItShouldRow.holds Try.pinned (OpenSpec.ofChange boxHasWhatItShouldWrong)

/- THE SECOND FORM. 'bulk': how many values and letters a reading holds, each counted each time it is reached (what is shared counts as often as it is met; a slice's spare places count too). A statement '..UptoSaid' is the law's where the arguments, and the package variables that the reading takes, are together of bulk at most 1048576: NARROWER than '..Said'. Prove '..Said' where nothing that the law and all that it calls make is longer than what came in: it says more and counts as full. Else prove '..UptoSaid'. A law counts once. -/
mutual
def uptoBulk {H : Type} : DataW H → Nat
  | .lit (.string bytes) => bytes.length + 1
  | .lit _ => 1
  | .nil => 1
  | .ptr d => uptoBulk d + 1
  | .slice elems spare => uptoBulkAll elems + uptoBulkAll spare + 1
  | .agg parts => uptoBulkAll parts + 1
  | .iface _ d => uptoBulk d + 1
  | .map entries => uptoBulkEntries entries + 1
  | .held _ => 1
def uptoBulkAll {H : Type} : List (DataW H) → Nat
  | [] => 0
  | d :: r => uptoBulk d + uptoBulkAll r
def uptoBulkEntries {H : Type} : List (Lit × DataW H) → Nat
  | [] => 0
  | x :: r => uptoBulkEntry x + uptoBulkEntries r
def uptoBulkEntry {H : Type} : Lit × DataW H → Nat
  | (.string bytes, d) => bytes.length + uptoBulk d + 1
  | (_, d) => uptoBulk d + 1
 end
def uptoSmall : (H : Type) → List (DataW H) → Bool := fun _ ds => decide (uptoBulkAll ds ≤ 1048576)
def OpenSpec.upto (s : _root_.Go.ChangeSpec) : _root_.Go.OpenSpec := { _root_.Go.OpenSpec.ofChange s with cond := some uptoSmall }

/-- 'antiquarylaw06.BoxMeasuresAsSpecified', WHERE WHAT IT READS IS OF BULK AT MOST 1048576: true; the input reads as it did. -/
def boxMeasuresAsSpecifiedUptoRow : OpenClaim := { program := "ytdnofflnfchcbaa", sum := "aed36f87e863932e6e135658c724d59a1371d7b9b1de6074e9c6d22814765f73", func := "antiquary/antiquarylaw06.BoxMeasuresAsSpecified", spec := "boxMeasuresAsSpecified", unfollowed := true, recurses := true, apart := false, narrowed := true }
def BoxMeasuresAsSpecifiedUptoSaid : Prop := boxMeasuresAsSpecifiedUptoRow.holds Try.pinned (OpenSpec.upto boxMeasuresAsSpecifiedSpec)

/-- 'antiquarylaw06.BoxBoundsKeys', WHERE WHAT IT READS IS OF BULK AT MOST 1048576: true; the input reads as it did. -/
def boxBoundsKeysUptoRow : OpenClaim := { program := "ytdnofflnfchcbaa", sum := "aed36f87e863932e6e135658c724d59a1371d7b9b1de6074e9c6d22814765f73", func := "antiquary/antiquarylaw06.BoxBoundsKeys", spec := "boxBoundsKeys", unfollowed := true, recurses := true, apart := false, narrowed := true }
def BoxBoundsKeysUptoSaid : Prop := boxBoundsKeysUptoRow.holds Try.pinned (OpenSpec.upto boxBoundsKeysSpec)

/-- 'antiquarylaw06.BoxBoundsAreReached', WHERE WHAT IT READS IS OF BULK AT MOST 1048576: true; the input reads as it did. -/
def boxBoundsAreReachedUptoRow : OpenClaim := { program := "ytdnofflnfchcbaa", sum := "aed36f87e863932e6e135658c724d59a1371d7b9b1de6074e9c6d22814765f73", func := "antiquary/antiquarylaw06.BoxBoundsAreReached", spec := "boxBoundsAreReached", unfollowed := true, recurses := true, apart := false, narrowed := true }
def BoxBoundsAreReachedUptoSaid : Prop := boxBoundsAreReachedUptoRow.holds Try.pinned (OpenSpec.upto boxBoundsAreReachedSpec)

/-- 'antiquarylaw06.BoxCutsInTwo', WHERE WHAT IT READS IS OF BULK AT MOST 1048576: true; the input reads as it did. -/
def boxCutsInTwoUptoRow : OpenClaim := { program := "ytdnofflnfchcbaa", sum := "aed36f87e863932e6e135658c724d59a1371d7b9b1de6074e9c6d22814765f73", func := "antiquary/antiquarylaw06.BoxCutsInTwo", spec := "boxCutsInTwo", unfollowed := true, recurses := true, apart := false, narrowed := true }
def BoxCutsInTwoUptoSaid : Prop := boxCutsInTwoUptoRow.holds Try.pinned (OpenSpec.upto boxCutsInTwoSpec)

/-- 'antiquarylaw06.BoxMakesAsSpecified', WHERE WHAT IT READS IS OF BULK AT MOST 1048576: true; the input reads as it did. -/
def boxMakesAsSpecifiedUptoRow : OpenClaim := { program := "ytdnofflnfchcbaa", sum := "aed36f87e863932e6e135658c724d59a1371d7b9b1de6074e9c6d22814765f73", func := "antiquary/antiquarylaw06.BoxMakesAsSpecified", spec := "boxMakesAsSpecified", unfollowed := true, recurses := true, apart := false, narrowed := true }
def BoxMakesAsSpecifiedUptoSaid : Prop := boxMakesAsSpecifiedUptoRow.holds Try.pinned (OpenSpec.upto boxMakesAsSpecifiedSpec)

/-- 'antiquarylaw06.BoxHasWhatItShould', WHERE WHAT IT READS IS OF BULK AT MOST 1048576: true; the input reads as it did. -/
def boxHasWhatItShouldUptoRow : OpenClaim := { program := "ytdnofflnfchcbaa", sum := "aed36f87e863932e6e135658c724d59a1371d7b9b1de6074e9c6d22814765f73", func := "antiquary/antiquarylaw06.BoxHasWhatItShould", spec := "boxHasWhatItShould", unfollowed := true, recurses := true, apart := false, narrowed := true }
def BoxHasWhatItShouldUptoSaid : Prop := boxHasWhatItShouldUptoRow.holds Try.pinned (OpenSpec.upto boxHasWhatItShouldSpec)

end Rows
end Go.Proofs.Ytdnofflnfchcbaa
