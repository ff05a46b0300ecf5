/-
  No cell of these rows narrows 'for every input' (looked for: loops, veiled, ifaces, maps, wideKeys, modest, calm, conditions, laid).
  DERIVED. THE GIVEN ROWS OF THIS SEAT. 8 by the template 'for every input the law returns true; each argument reads behind the call as it read before'; 0 by the template 'total and deterministic' (their statements: YtpnfcgkocfjeiaaTotals.lean).
  GIVEN WITH THE SEED: the statements are not yours to turn. If you find one false, say at which input.
  Laid BY PROGRAM, IN A SANDBOX (cutbox-rows.mjs): the forced cells as the released guide's own fill.sh prints them over the translation b12019345ca41031… (all of the seat's roots in one cut). By AI agents, Wed Nov 11 2026. No macro, syntax, notation, axiom, sorry.
-/
import Derived.Test.YtpnfcgkocfjeiaaChecked
import GoSem.Claim
import GoSem.ClaimJoined
import GoSem.ClaimMapViews
import Derived.JoinedTies
import Derived.KernelRfl
namespace Go.Proofs.Ytpnfcgkocfjeiaa
/- THE CELL 'sum', in the pinned program and in every row, IS THE sha256 OF THE DUMP (.gsa) THAT YtpnfcgkocfjeiaaProg.lean LOADS. Nothing in Lean hashes anything: it is a label: what it is worth is what the hold of that sum in a sandbox is worth. -/
noncomputable def Try.pinned : Pinned := { name := "ytpnfcgkocfjeiaa", sum := "b12019345ca4103139cc7ccf59dc3092b8d045a3c95e7a7e2972e07706204600", checked := Try.checked }
namespace Rows
def none {H : Type} : Left H := { results := [], args := [] }

/-- 'antiquarylaw04.VectorKeysAsSpecified': WHATEVER THE INPUT: true; the input reads as it did. -/
def vectorKeysAsSpecifiedSpec : ChangeSpec := { name := "vectorKeysAsSpecified", fn := fun _ => fun
  | [d1, d2, d3] => { results := [.lit (.bool true)], args := [d1, d2, d3] }
  | _ => none }
def vectorKeysAsSpecifiedRow : OpenClaim := { program := "ytpnfcgkocfjeiaa", sum := "b12019345ca4103139cc7ccf59dc3092b8d045a3c95e7a7e2972e07706204600", func := "antiquary/antiquarylaw04.VectorKeysAsSpecified", spec := "vectorKeysAsSpecified", unfollowed := true, recurses := true, apart := false }
def VectorKeysAsSpecifiedSaid : Prop := vectorKeysAsSpecifiedRow.holds Try.pinned (OpenSpec.ofChange vectorKeysAsSpecifiedSpec)

/-- ITS FALSE NEIGHBOUR: 'it returns false'. Refute it at one input. -/
def vectorKeysAsSpecifiedWrong : ChangeSpec := { name := "vectorKeysAsSpecified", fn := fun _ => fun
  | [d1, d2, d3] => { results := [.lit (.bool false)], args := [d1, d2, d3] }
  | _ => none }
def VectorKeysAsSpecifiedWrongFalsely : Prop := vectorKeysAsSpecifiedRow.holds Try.pinned (OpenSpec.ofChange vectorKeysAsSpecifiedWrong)

/-- 'antiquarylaw04.VectorNormsAsSpecified': WHATEVER THE INPUT: true; the input reads as it did. -/
def vectorNormsAsSpecifiedSpec : ChangeSpec := { name := "vectorNormsAsSpecified", fn := fun _ => fun
  | [d1, d2, d3] => { results := [.lit (.bool true)], args := [d1, d2, d3] }
  | _ => none }
def vectorNormsAsSpecifiedRow : OpenClaim := { program := "ytpnfcgkocfjeiaa", sum := "b12019345ca4103139cc7ccf59dc3092b8d045a3c95e7a7e2972e07706204600", func := "antiquary/antiquarylaw04.VectorNormsAsSpecified", spec := "vectorNormsAsSpecified", unfollowed := true, recurses := true, apart := false }
def VectorNormsAsSpecifiedSaid : Prop := vectorNormsAsSpecifiedRow.holds Try.pinned (OpenSpec.ofChange vectorNormsAsSpecifiedSpec)

/-- ITS FALSE NEIGHBOUR: 'it returns false'. Refute it at one input. -/
def vectorNormsAsSpecifiedWrong : ChangeSpec := { name := "vectorNormsAsSpecified", fn := fun _ => fun
  | [d1, d2, d3] => { results := [.lit (.bool false)], args := [d1, d2, d3] }
  | _ => none }
def VectorNormsAsSpecifiedWrongFalsely : Prop := vectorNormsAsSpecifiedRow.holds Try.pinned (OpenSpec.ofChange vectorNormsAsSpecifiedWrong)

/-- 'antiquarylaw04.VectorKeysAreDistances': WHATEVER THE INPUT: true; the input reads as it did. -/
def vectorKeysAreDistancesSpec : ChangeSpec := { name := "vectorKeysAreDistances", fn := fun _ => fun
  | [d1, d2, d3, d4] => { results := [.lit (.bool true)], args := [d1, d2, d3, d4] }
  | _ => none }
def vectorKeysAreDistancesRow : OpenClaim := { program := "ytpnfcgkocfjeiaa", sum := "b12019345ca4103139cc7ccf59dc3092b8d045a3c95e7a7e2972e07706204600", func := "antiquary/antiquarylaw04.VectorKeysAreDistances", spec := "vectorKeysAreDistances", unfollowed := true, recurses := true, apart := false }
def VectorKeysAreDistancesSaid : Prop := vectorKeysAreDistancesRow.holds Try.pinned (OpenSpec.ofChange vectorKeysAreDistancesSpec)

/-- ITS FALSE NEIGHBOUR: 'it returns false'. Refute it at one input. -/
def vectorKeysAreDistancesWrong : ChangeSpec := { name := "vectorKeysAreDistances", fn := fun _ => fun
  | [d1, d2, d3, d4] => { results := [.lit (.bool false)], args := [d1, d2, d3, d4] }
  | _ => none }
def VectorKeysAreDistancesWrongFalsely : Prop := vectorKeysAreDistancesRow.holds Try.pinned (OpenSpec.ofChange vectorKeysAreDistancesWrong)

/-- 'antiquarylaw04.VectorNormsAgree': WHATEVER THE INPUT: true; the input reads as it did. -/
def vectorNormsAgreeSpec : ChangeSpec := { name := "vectorNormsAgree", fn := fun _ => fun
  | [d1, d2] => { results := [.lit (.bool true)], args := [d1, d2] }
  | _ => none }
def vectorNormsAgreeRow : OpenClaim := { program := "ytpnfcgkocfjeiaa", sum := "b12019345ca4103139cc7ccf59dc3092b8d045a3c95e7a7e2972e07706204600", func := "antiquary/antiquarylaw04.VectorNormsAgree", spec := "vectorNormsAgree", unfollowed := true, recurses := true, apart := false }
def VectorNormsAgreeSaid : Prop := vectorNormsAgreeRow.holds Try.pinned (OpenSpec.ofChange vectorNormsAgreeSpec)

/-- ITS FALSE NEIGHBOUR: 'it returns false'. Refute it at one input. -/
def vectorNormsAgreeWrong : ChangeSpec := { name := "vectorNormsAgree", fn := fun _ => fun
  | [d1, d2] => { results := [.lit (.bool false)], args := [d1, d2] }
  | _ => none }
def VectorNormsAgreeWrongFalsely : Prop := vectorNormsAgreeRow.holds Try.pinned (OpenSpec.ofChange vectorNormsAgreeWrong)

/-- 'antiquarylaw04.VectorMeanIsBetween': WHATEVER THE INPUT: true; the input reads as it did. -/
def vectorMeanIsBetweenSpec : ChangeSpec := { name := "vectorMeanIsBetween", fn := fun _ => fun
  | [d1, d2] => { results := [.lit (.bool true)], args := [d1, d2] }
  | _ => none }
def vectorMeanIsBetweenRow : OpenClaim := { program := "ytpnfcgkocfjeiaa", sum := "b12019345ca4103139cc7ccf59dc3092b8d045a3c95e7a7e2972e07706204600", func := "antiquary/antiquarylaw04.VectorMeanIsBetween", spec := "vectorMeanIsBetween", unfollowed := true, recurses := true, apart := false }
def VectorMeanIsBetweenSaid : Prop := vectorMeanIsBetweenRow.holds Try.pinned (OpenSpec.ofChange vectorMeanIsBetweenSpec)

/-- ITS FALSE NEIGHBOUR: 'it returns false'. Refute it at one input. -/
def vectorMeanIsBetweenWrong : ChangeSpec := { name := "vectorMeanIsBetween", fn := fun _ => fun
  | [d1, d2] => { results := [.lit (.bool false)], args := [d1, d2] }
  | _ => none }
def VectorMeanIsBetweenWrongFalsely : Prop := vectorMeanIsBetweenRow.holds Try.pinned (OpenSpec.ofChange vectorMeanIsBetweenWrong)

/-- 'antiquarylaw04.VectorCodesAsSpecified': WHATEVER THE INPUT: true; the input reads as it did. -/
def vectorCodesAsSpecifiedSpec : ChangeSpec := { name := "vectorCodesAsSpecified", fn := fun _ => fun
  | [d1, d2] => { results := [.lit (.bool true)], args := [d1, d2] }
  | _ => none }
def vectorCodesAsSpecifiedRow : OpenClaim := { program := "ytpnfcgkocfjeiaa", sum := "b12019345ca4103139cc7ccf59dc3092b8d045a3c95e7a7e2972e07706204600", func := "antiquary/antiquarylaw04.VectorCodesAsSpecified", spec := "vectorCodesAsSpecified", unfollowed := true, recurses := true, apart := false }
def VectorCodesAsSpecifiedSaid : Prop := vectorCodesAsSpecifiedRow.holds Try.pinned (OpenSpec.ofChange vectorCodesAsSpecifiedSpec)

/-- ITS FALSE NEIGHBOUR: 'it returns false'. Refute it at one input. -/
def vectorCodesAsSpecifiedWrong : ChangeSpec := { name := "vectorCodesAsSpecified", fn := fun _ => fun
  | [d1, d2] => { results := [.lit (.bool false)], args := [d1, d2] }
  | _ => none }
def VectorCodesAsSpecifiedWrongFalsely : Prop := vectorCodesAsSpecifiedRow.holds Try.pinned (OpenSpec.ofChange vectorCodesAsSpecifiedWrong)

/-- 'antiquarylaw04.VectorReadsBack': WHATEVER THE INPUT: true; the input reads as it did. -/
def vectorReadsBackSpec : ChangeSpec := { name := "vectorReadsBack", fn := fun _ => fun
  | [d1, d2] => { results := [.lit (.bool true)], args := [d1, d2] }
  | _ => none }
def vectorReadsBackRow : OpenClaim := { program := "ytpnfcgkocfjeiaa", sum := "b12019345ca4103139cc7ccf59dc3092b8d045a3c95e7a7e2972e07706204600", func := "antiquary/antiquarylaw04.VectorReadsBack", spec := "vectorReadsBack", unfollowed := true, recurses := true, apart := false }
def VectorReadsBackSaid : Prop := vectorReadsBackRow.holds Try.pinned (OpenSpec.ofChange vectorReadsBackSpec)

/-- ITS FALSE NEIGHBOUR: 'it returns false'. Refute it at one input. -/
def vectorReadsBackWrong : ChangeSpec := { name := "vectorReadsBack", fn := fun _ => fun
  | [d1, d2] => { results := [.lit (.bool false)], args := [d1, d2] }
  | _ => none }
def VectorReadsBackWrongFalsely : Prop := vectorReadsBackRow.holds Try.pinned (OpenSpec.ofChange vectorReadsBackWrong)

/-- 'antiquarylaw04.VectorsAreOrdered': WHATEVER THE INPUT: true; the input reads as it did. -/
def vectorsAreOrderedSpec : ChangeSpec := { name := "vectorsAreOrdered", fn := fun _ => fun
  | [d1, d2, d3] => { results := [.lit (.bool true)], args := [d1, d2, d3] }
  | _ => none }
def vectorsAreOrderedRow : OpenClaim := { program := "ytpnfcgkocfjeiaa", sum := "b12019345ca4103139cc7ccf59dc3092b8d045a3c95e7a7e2972e07706204600", func := "antiquary/antiquarylaw04.VectorsAreOrdered", spec := "vectorsAreOrdered", unfollowed := true, recurses := true, apart := false }
def VectorsAreOrderedSaid : Prop := vectorsAreOrderedRow.holds Try.pinned (OpenSpec.ofChange vectorsAreOrderedSpec)

/-- ITS FALSE NEIGHBOUR: 'it returns false'. Refute it at one input. -/
def vectorsAreOrderedWrong : ChangeSpec := { name := "vectorsAreOrdered", fn := fun _ => fun
  | [d1, d2, d3] => { results := [.lit (.bool false)], args := [d1, d2, d3] }
  | _ => none }
def VectorsAreOrderedWrongFalsely : Prop := vectorsAreOrderedRow.holds Try.pinned (OpenSpec.ofChange vectorsAreOrderedWrong)

/- THE SECOND FORM. 'bulk': how many values and letters a reading holds, each counted each time it is reached (what is shared counts as often as it is met; a slice's spare places count too). A statement '..UptoSaid' is the law's where the arguments, and the package variables that the reading takes, are together of bulk at most 1048576: NARROWER than '..Said'. Prove '..Said' where nothing that the law and all that it calls make is longer than what came in: it says more and counts as full. Else prove '..UptoSaid'. A law counts once. -/
mutual
def uptoBulk {H : Type} : DataW H → Nat
  | .lit (.string bytes) => bytes.length + 1
  | .lit _ => 1
  | .nil => 1
  | .ptr d => uptoBulk d + 1
  | .slice elems spare => uptoBulkAll elems + uptoBulkAll spare + 1
  | .agg parts => uptoBulkAll parts + 1
  | .iface _ d => uptoBulk d + 1
  | .map entries => uptoBulkEntries entries + 1
  | .held _ => 1
def uptoBulkAll {H : Type} : List (DataW H) → Nat
  | [] => 0
  | d :: r => uptoBulk d + uptoBulkAll r
def uptoBulkEntries {H : Type} : List (Lit × DataW H) → Nat
  | [] => 0
  | x :: r => uptoBulkEntry x + uptoBulkEntries r
def uptoBulkEntry {H : Type} : Lit × DataW H → Nat
  | (.string bytes, d) => bytes.length + uptoBulk d + 1
  | (_, d) => uptoBulk d + 1
 end
def uptoSmall : (H : Type) → List (DataW H) → Bool := fun _ ds => decide (uptoBulkAll ds ≤ 1048576)
def OpenSpec.upto (s : _root_.Go.ChangeSpec) : _root_.Go.OpenSpec := { _root_.Go.OpenSpec.ofChange s with cond := some uptoSmall }

/-- 'antiquarylaw04.VectorKeysAsSpecified', WHERE WHAT IT READS IS OF BULK AT MOST 1048576: true; the input reads as it did. -/
def vectorKeysAsSpecifiedUptoRow : OpenClaim := { program := "ytpnfcgkocfjeiaa", sum := "b12019345ca4103139cc7ccf59dc3092b8d045a3c95e7a7e2972e07706204600", func := "antiquary/antiquarylaw04.VectorKeysAsSpecified", spec := "vectorKeysAsSpecified", unfollowed := true, recurses := true, apart := false, narrowed := true }
def VectorKeysAsSpecifiedUptoSaid : Prop := vectorKeysAsSpecifiedUptoRow.holds Try.pinned (OpenSpec.upto vectorKeysAsSpecifiedSpec)

/-- 'antiquarylaw04.VectorNormsAsSpecified', WHERE WHAT IT READS IS OF BULK AT MOST 1048576: true; the input reads as it did. -/
def vectorNormsAsSpecifiedUptoRow : OpenClaim := { program := "ytpnfcgkocfjeiaa", sum := "b12019345ca4103139cc7ccf59dc3092b8d045a3c95e7a7e2972e07706204600", func := "antiquary/antiquarylaw04.VectorNormsAsSpecified", spec := "vectorNormsAsSpecified", unfollowed := true, recurses := true, apart := false, narrowed := true }
def VectorNormsAsSpecifiedUptoSaid : Prop := vectorNormsAsSpecifiedUptoRow.holds Try.pinned (OpenSpec.upto vectorNormsAsSpecifiedSpec)

/-- 'antiquarylaw04.VectorKeysAreDistances', WHERE WHAT IT READS IS OF BULK AT MOST 1048576: true; the input reads as it did. -/
def vectorKeysAreDistancesUptoRow : OpenClaim := { program := "ytpnfcgkocfjeiaa", sum := "b12019345ca4103139cc7ccf59dc3092b8d045a3c95e7a7e2972e07706204600", func := "antiquary/antiquarylaw04.VectorKeysAreDistances", spec := "vectorKeysAreDistances", unfollowed := true, recurses := true, apart := false, narrowed := true }
def VectorKeysAreDistancesUptoSaid : Prop := vectorKeysAreDistancesUptoRow.holds Try.pinned (OpenSpec.upto vectorKeysAreDistancesSpec)

/-- 'antiquarylaw04.VectorNormsAgree', WHERE WHAT IT READS IS OF BULK AT MOST 1048576: true; the input reads as it did. -/
def vectorNormsAgreeUptoRow : OpenClaim := { program := "ytpnfcgkocfjeiaa", sum := "b12019345ca4103139cc7ccf59dc3092b8d045a3c95e7a7e2972e07706204600", func := "antiquary/antiquarylaw04.VectorNormsAgree", spec := "vectorNormsAgree", unfollowed := true, recurses := true, apart := false, narrowed := true }
def VectorNormsAgreeUptoSaid : Prop := vectorNormsAgreeUptoRow.holds Try.pinned (OpenSpec.upto vectorNormsAgreeSpec)

/-- 'antiquarylaw04.VectorMeanIsBetween', WHERE WHAT IT READS IS OF BULK AT MOST 1048576: true; the input reads as it did. -/
def vectorMeanIsBetweenUptoRow : OpenClaim := { program := "ytpnfcgkocfjeiaa", sum := "b12019345ca4103139cc7ccf59dc3092b8d045a3c95e7a7e2972e07706204600", func := "antiquary/antiquarylaw04.VectorMeanIsBetween", spec := "vectorMeanIsBetween", unfollowed := true, recurses := true, apart := false, narrowed := true }
def VectorMeanIsBetweenUptoSaid : Prop := vectorMeanIsBetweenUptoRow.holds Try.pinned (OpenSpec.upto vectorMeanIsBetweenSpec)

/-- 'antiquarylaw04.VectorCodesAsSpecified', WHERE WHAT IT READS IS OF BULK AT MOST 1048576: true; the input reads as it did. -/
def vectorCodesAsSpecifiedUptoRow : OpenClaim := { program := "ytpnfcgkocfjeiaa", sum := "b12019345ca4103139cc7ccf59dc3092b8d045a3c95e7a7e2972e07706204600", func := "antiquary/antiquarylaw04.VectorCodesAsSpecified", spec := "vectorCodesAsSpecified", unfollowed := true, recurses := true, apart := false, narrowed := true }
def VectorCodesAsSpecifiedUptoSaid : Prop := vectorCodesAsSpecifiedUptoRow.holds Try.pinned (OpenSpec.upto vectorCodesAsSpecifiedSpec)

/-- 'antiquarylaw04.VectorReadsBack', WHERE WHAT IT READS IS OF BULK AT MOST 1048576: true; the input reads as it did. -/
def vectorReadsBackUptoRow : OpenClaim := { program := "ytpnfcgkocfjeiaa", sum := "b12019345ca4103139cc7ccf59dc3092b8d045a3c95e7a7e2972e07706204600", func := "antiquary/antiquarylaw04.VectorReadsBack", spec := "vectorReadsBack", unfollowed := true, recurses := true, apart := false, narrowed := true }
def VectorReadsBackUptoSaid : Prop := vectorReadsBackUptoRow.holds Try.pinned (OpenSpec.upto vectorReadsBackSpec)

/-- 'antiquarylaw04.VectorsAreOrdered', WHERE WHAT IT READS IS OF BULK AT MOST 1048576: true; the input reads as it did. -/
def vectorsAreOrderedUptoRow : OpenClaim := { program := "ytpnfcgkocfjeiaa", sum := "b12019345ca4103139cc7ccf59dc3092b8d045a3c95e7a7e2972e07706204600", func := "antiquary/antiquarylaw04.VectorsAreOrdered", spec := "vectorsAreOrdered", unfollowed := true, recurses := true, apart := false, narrowed := true }
def VectorsAreOrderedUptoSaid : Prop := vectorsAreOrderedUptoRow.holds Try.pinned (OpenSpec.upto vectorsAreOrderedSpec)

end Rows
end Go.Proofs.Ytpnfcgkocfjeiaa
