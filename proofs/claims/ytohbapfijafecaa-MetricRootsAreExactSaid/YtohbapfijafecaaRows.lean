/-
  No cell of these rows narrows 'for every input' (looked for: loops, veiled, ifaces, maps, wideKeys, modest, calm, conditions, laid).
  DERIVED. THE GIVEN ROWS OF THIS SEAT. 7 by the template 'for every input the law returns true; each argument reads behind the call as it read before'; 0 by the template 'total and deterministic' (their statements: YtohbapfijafecaaTotals.lean).
  GIVEN WITH THE SEED: the statements are not yours to turn. If you find one false, say at which input.
  Laid BY PROGRAM, IN A SANDBOX (cutbox-rows.mjs): the forced cells as the released guide's own fill.sh prints them over the translation c3f0fd87d190ff68… (all of the seat's roots in one cut). By AI agents, Wed Nov 11 2026. No macro, syntax, notation, axiom, sorry.
-/
import Derived.Test.YtohbapfijafecaaChecked
import GoSem.Claim
import GoSem.ClaimJoined
import GoSem.ClaimMapViews
import Derived.JoinedTies
import Derived.KernelRfl
namespace Go.Proofs.Ytohbapfijafecaa
/- THE CELL 'sum', in the pinned program and in every row, IS THE sha256 OF THE DUMP (.gsa) THAT YtohbapfijafecaaProg.lean LOADS. Nothing in Lean hashes anything: it is a label: what it is worth is what the hold of that sum in a sandbox is worth. -/
noncomputable def Try.pinned : Pinned := { name := "ytohbapfijafecaa", sum := "c3f0fd87d190ff6897e7a08cc3368d3e524e05f4d4618375f15bad1d1a34ede5", checked := Try.checked }
namespace Rows
def none {H : Type} : Left H := { results := [], args := [] }

/-- 'antiquarylaw05.MetricBoundsMatchSpec': WHATEVER THE INPUT: true; the input reads as it did. -/
def metricBoundsMatchSpecSpec : ChangeSpec := { name := "metricBoundsMatchSpec", fn := fun _ => fun
  | [d1, d2, d3, d4] => { results := [.lit (.bool true)], args := [d1, d2, d3, d4] }
  | _ => none }
def metricBoundsMatchSpecRow : OpenClaim := { program := "ytohbapfijafecaa", sum := "c3f0fd87d190ff6897e7a08cc3368d3e524e05f4d4618375f15bad1d1a34ede5", func := "antiquary/antiquarylaw05.MetricBoundsMatchSpec", spec := "metricBoundsMatchSpec", unfollowed := true, recurses := true, apart := false }
def MetricBoundsMatchSpecSaid : Prop := metricBoundsMatchSpecRow.holds Try.pinned (OpenSpec.ofChange metricBoundsMatchSpecSpec)

/-- ITS FALSE NEIGHBOUR: 'it returns false'. Refute it at one input. -/
def metricBoundsMatchSpecWrong : ChangeSpec := { name := "metricBoundsMatchSpec", fn := fun _ => fun
  | [d1, d2, d3, d4] => { results := [.lit (.bool false)], args := [d1, d2, d3, d4] }
  | _ => none }
def MetricBoundsMatchSpecWrongFalsely : Prop := metricBoundsMatchSpecRow.holds Try.pinned (OpenSpec.ofChange metricBoundsMatchSpecWrong)

/-- 'antiquarylaw05.MetricTrianglesHold': WHATEVER THE INPUT: true; the input reads as it did. -/
def metricTrianglesHoldSpec : ChangeSpec := { name := "metricTrianglesHold", fn := fun _ => fun
  | [d1, d2, d3, d4] => { results := [.lit (.bool true)], args := [d1, d2, d3, d4] }
  | _ => none }
def metricTrianglesHoldRow : OpenClaim := { program := "ytohbapfijafecaa", sum := "c3f0fd87d190ff6897e7a08cc3368d3e524e05f4d4618375f15bad1d1a34ede5", func := "antiquary/antiquarylaw05.MetricTrianglesHold", spec := "metricTrianglesHold", unfollowed := true, recurses := true, apart := false }
def MetricTrianglesHoldSaid : Prop := metricTrianglesHoldRow.holds Try.pinned (OpenSpec.ofChange metricTrianglesHoldSpec)

/-- ITS FALSE NEIGHBOUR: 'it returns false'. Refute it at one input. -/
def metricTrianglesHoldWrong : ChangeSpec := { name := "metricTrianglesHold", fn := fun _ => fun
  | [d1, d2, d3, d4] => { results := [.lit (.bool false)], args := [d1, d2, d3, d4] }
  | _ => none }
def MetricTrianglesHoldWrongFalsely : Prop := metricTrianglesHoldRow.holds Try.pinned (OpenSpec.ofChange metricTrianglesHoldWrong)

/-- 'antiquarylaw05.MetricBoundsAreTight': WHATEVER THE INPUT: true; the input reads as it did. -/
def metricBoundsAreTightSpec : ChangeSpec := { name := "metricBoundsAreTight", fn := fun _ => fun
  | [d1, d2, d3] => { results := [.lit (.bool true)], args := [d1, d2, d3] }
  | _ => none }
def metricBoundsAreTightRow : OpenClaim := { program := "ytohbapfijafecaa", sum := "c3f0fd87d190ff6897e7a08cc3368d3e524e05f4d4618375f15bad1d1a34ede5", func := "antiquary/antiquarylaw05.MetricBoundsAreTight", spec := "metricBoundsAreTight", unfollowed := true, recurses := true, apart := false }
def MetricBoundsAreTightSaid : Prop := metricBoundsAreTightRow.holds Try.pinned (OpenSpec.ofChange metricBoundsAreTightSpec)

/-- ITS FALSE NEIGHBOUR: 'it returns false'. Refute it at one input. -/
def metricBoundsAreTightWrong : ChangeSpec := { name := "metricBoundsAreTight", fn := fun _ => fun
  | [d1, d2, d3] => { results := [.lit (.bool false)], args := [d1, d2, d3] }
  | _ => none }
def MetricBoundsAreTightWrongFalsely : Prop := metricBoundsAreTightRow.holds Try.pinned (OpenSpec.ofChange metricBoundsAreTightWrong)

/-- 'antiquarylaw05.MetricRingsAreExact': WHATEVER THE INPUT: true; the input reads as it did. -/
def metricRingsAreExactSpec : ChangeSpec := { name := "metricRingsAreExact", fn := fun _ => fun
  | [d1, d2, d3, d4] => { results := [.lit (.bool true)], args := [d1, d2, d3, d4] }
  | _ => none }
def metricRingsAreExactRow : OpenClaim := { program := "ytohbapfijafecaa", sum := "c3f0fd87d190ff6897e7a08cc3368d3e524e05f4d4618375f15bad1d1a34ede5", func := "antiquary/antiquarylaw05.MetricRingsAreExact", spec := "metricRingsAreExact", unfollowed := true, recurses := true, apart := false }
def MetricRingsAreExactSaid : Prop := metricRingsAreExactRow.holds Try.pinned (OpenSpec.ofChange metricRingsAreExactSpec)

/-- ITS FALSE NEIGHBOUR: 'it returns false'. Refute it at one input. -/
def metricRingsAreExactWrong : ChangeSpec := { name := "metricRingsAreExact", fn := fun _ => fun
  | [d1, d2, d3, d4] => { results := [.lit (.bool false)], args := [d1, d2, d3, d4] }
  | _ => none }
def MetricRingsAreExactWrongFalsely : Prop := metricRingsAreExactRow.holds Try.pinned (OpenSpec.ofChange metricRingsAreExactWrong)

/-- 'antiquarylaw05.MetricIsMonotone': WHATEVER THE INPUT: true; the input reads as it did. -/
def metricIsMonotoneSpec : ChangeSpec := { name := "metricIsMonotone", fn := fun _ => fun
  | [d1, d2, d3, d4] => { results := [.lit (.bool true)], args := [d1, d2, d3, d4] }
  | _ => none }
def metricIsMonotoneRow : OpenClaim := { program := "ytohbapfijafecaa", sum := "c3f0fd87d190ff6897e7a08cc3368d3e524e05f4d4618375f15bad1d1a34ede5", func := "antiquary/antiquarylaw05.MetricIsMonotone", spec := "metricIsMonotone", unfollowed := true, recurses := true, apart := false }
def MetricIsMonotoneSaid : Prop := metricIsMonotoneRow.holds Try.pinned (OpenSpec.ofChange metricIsMonotoneSpec)

/-- ITS FALSE NEIGHBOUR: 'it returns false'. Refute it at one input. -/
def metricIsMonotoneWrong : ChangeSpec := { name := "metricIsMonotone", fn := fun _ => fun
  | [d1, d2, d3, d4] => { results := [.lit (.bool false)], args := [d1, d2, d3, d4] }
  | _ => none }
def MetricIsMonotoneWrongFalsely : Prop := metricIsMonotoneRow.holds Try.pinned (OpenSpec.ofChange metricIsMonotoneWrong)

/-- 'antiquarylaw05.MetricBallsMeet': WHATEVER THE INPUT: true; the input reads as it did. -/
def metricBallsMeetSpec : ChangeSpec := { name := "metricBallsMeet", fn := fun _ => fun
  | [d1, d2, d3, d4, d5, d6] => { results := [.lit (.bool true)], args := [d1, d2, d3, d4, d5, d6] }
  | _ => none }
def metricBallsMeetRow : OpenClaim := { program := "ytohbapfijafecaa", sum := "c3f0fd87d190ff6897e7a08cc3368d3e524e05f4d4618375f15bad1d1a34ede5", func := "antiquary/antiquarylaw05.MetricBallsMeet", spec := "metricBallsMeet", unfollowed := true, recurses := true, apart := false }
def MetricBallsMeetSaid : Prop := metricBallsMeetRow.holds Try.pinned (OpenSpec.ofChange metricBallsMeetSpec)

/-- ITS FALSE NEIGHBOUR: 'it returns false'. Refute it at one input. -/
def metricBallsMeetWrong : ChangeSpec := { name := "metricBallsMeet", fn := fun _ => fun
  | [d1, d2, d3, d4, d5, d6] => { results := [.lit (.bool false)], args := [d1, d2, d3, d4, d5, d6] }
  | _ => none }
def MetricBallsMeetWrongFalsely : Prop := metricBallsMeetRow.holds Try.pinned (OpenSpec.ofChange metricBallsMeetWrong)

/-- 'antiquarylaw05.MetricRootsAreExact': WHATEVER THE INPUT: true; the input reads as it did. -/
def metricRootsAreExactSpec : ChangeSpec := { name := "metricRootsAreExact", fn := fun _ => fun
  | [d1, d2] => { results := [.lit (.bool true)], args := [d1, d2] }
  | _ => none }
def metricRootsAreExactRow : OpenClaim := { program := "ytohbapfijafecaa", sum := "c3f0fd87d190ff6897e7a08cc3368d3e524e05f4d4618375f15bad1d1a34ede5", func := "antiquary/antiquarylaw05.MetricRootsAreExact", spec := "metricRootsAreExact", unfollowed := true, recurses := true, apart := false }
def MetricRootsAreExactSaid : Prop := metricRootsAreExactRow.holds Try.pinned (OpenSpec.ofChange metricRootsAreExactSpec)

/-- ITS FALSE NEIGHBOUR: 'it returns false'. Refute it at one input. -/
def metricRootsAreExactWrong : ChangeSpec := { name := "metricRootsAreExact", fn := fun _ => fun
  | [d1, d2] => { results := [.lit (.bool false)], args := [d1, d2] }
  | _ => none }
def MetricRootsAreExactWrongFalsely : Prop := metricRootsAreExactRow.holds Try.pinned (OpenSpec.ofChange metricRootsAreExactWrong)

/- THE SECOND FORM. 'bulk': how many values and letters a reading holds, each counted each time it is reached (what is shared counts as often as it is met; a slice's spare places count too). A statement '..UptoSaid' is the law's where the arguments, and the package variables that the reading takes, are together of bulk at most 1048576: NARROWER than '..Said'. Prove '..Said' where nothing that the law and all that it calls make is longer than what came in: it says more and counts as full. Else prove '..UptoSaid'. A law counts once. -/
mutual
def uptoBulk {H : Type} : DataW H → Nat
  | .lit (.string bytes) => bytes.length + 1
  | .lit _ => 1
  | .nil => 1
  | .ptr d => uptoBulk d + 1
  | .slice elems spare => uptoBulkAll elems + uptoBulkAll spare + 1
  | .agg parts => uptoBulkAll parts + 1
  | .iface _ d => uptoBulk d + 1
  | .map entries => uptoBulkEntries entries + 1
  | .held _ => 1
def uptoBulkAll {H : Type} : List (DataW H) → Nat
  | [] => 0
  | d :: r => uptoBulk d + uptoBulkAll r
def uptoBulkEntries {H : Type} : List (Lit × DataW H) → Nat
  | [] => 0
  | x :: r => uptoBulkEntry x + uptoBulkEntries r
def uptoBulkEntry {H : Type} : Lit × DataW H → Nat
  | (.string bytes, d) => bytes.length + uptoBulk d + 1
  | (_, d) => uptoBulk d + 1
 end
def uptoSmall : (H : Type) → List (DataW H) → Bool := fun _ ds => decide (uptoBulkAll ds ≤ 1048576)
def OpenSpec.upto (s : _root_.Go.ChangeSpec) : _root_.Go.OpenSpec := { _root_.Go.OpenSpec.ofChange s with cond := some uptoSmall }

/-- 'antiquarylaw05.MetricBoundsMatchSpec', WHERE WHAT IT READS IS OF BULK AT MOST 1048576: true; the input reads as it did. -/
def metricBoundsMatchSpecUptoRow : OpenClaim := { program := "ytohbapfijafecaa", sum := "c3f0fd87d190ff6897e7a08cc3368d3e524e05f4d4618375f15bad1d1a34ede5", func := "antiquary/antiquarylaw05.MetricBoundsMatchSpec", spec := "metricBoundsMatchSpec", unfollowed := true, recurses := true, apart := false, narrowed := true }
def MetricBoundsMatchSpecUptoSaid : Prop := metricBoundsMatchSpecUptoRow.holds Try.pinned (OpenSpec.upto metricBoundsMatchSpecSpec)

/-- 'antiquarylaw05.MetricTrianglesHold', WHERE WHAT IT READS IS OF BULK AT MOST 1048576: true; the input reads as it did. -/
def metricTrianglesHoldUptoRow : OpenClaim := { program := "ytohbapfijafecaa", sum := "c3f0fd87d190ff6897e7a08cc3368d3e524e05f4d4618375f15bad1d1a34ede5", func := "antiquary/antiquarylaw05.MetricTrianglesHold", spec := "metricTrianglesHold", unfollowed := true, recurses := true, apart := false, narrowed := true }
def MetricTrianglesHoldUptoSaid : Prop := metricTrianglesHoldUptoRow.holds Try.pinned (OpenSpec.upto metricTrianglesHoldSpec)

/-- 'antiquarylaw05.MetricBoundsAreTight', WHERE WHAT IT READS IS OF BULK AT MOST 1048576: true; the input reads as it did. -/
def metricBoundsAreTightUptoRow : OpenClaim := { program := "ytohbapfijafecaa", sum := "c3f0fd87d190ff6897e7a08cc3368d3e524e05f4d4618375f15bad1d1a34ede5", func := "antiquary/antiquarylaw05.MetricBoundsAreTight", spec := "metricBoundsAreTight", unfollowed := true, recurses := true, apart := false, narrowed := true }
def MetricBoundsAreTightUptoSaid : Prop := metricBoundsAreTightUptoRow.holds Try.pinned (OpenSpec.upto metricBoundsAreTightSpec)

/-- 'antiquarylaw05.MetricRingsAreExact', WHERE WHAT IT READS IS OF BULK AT MOST 1048576: true; the input reads as it did. -/
def metricRingsAreExactUptoRow : OpenClaim := { program := "ytohbapfijafecaa", sum := "c3f0fd87d190ff6897e7a08cc3368d3e524e05f4d4618375f15bad1d1a34ede5", func := "antiquary/antiquarylaw05.MetricRingsAreExact", spec := "metricRingsAreExact", unfollowed := true, recurses := true, apart := false, narrowed := true }
def MetricRingsAreExactUptoSaid : Prop := metricRingsAreExactUptoRow.holds Try.pinned (OpenSpec.upto metricRingsAreExactSpec)

/-- 'antiquarylaw05.MetricIsMonotone', WHERE WHAT IT READS IS OF BULK AT MOST 1048576: true; the input reads as it did. -/
def metricIsMonotoneUptoRow : OpenClaim := { program := "ytohbapfijafecaa", sum := "c3f0fd87d190ff6897e7a08cc3368d3e524e05f4d4618375f15bad1d1a34ede5", func := "antiquary/antiquarylaw05.MetricIsMonotone", spec := "metricIsMonotone", unfollowed := true, recurses := true, apart := false, narrowed := true }
def MetricIsMonotoneUptoSaid : Prop := metricIsMonotoneUptoRow.holds Try.pinned (OpenSpec.upto metricIsMonotoneSpec)

/-- 'antiquarylaw05.MetricBallsMeet', WHERE WHAT IT READS IS OF BULK AT MOST 1048576: true; the input reads as it did. -/
def metricBallsMeetUptoRow : OpenClaim := { program := "ytohbapfijafecaa", sum := "c3f0fd87d190ff6897e7a08cc3368d3e524e05f4d4618375f15bad1d1a34ede5", func := "antiquary/antiquarylaw05.MetricBallsMeet", spec := "metricBallsMeet", unfollowed := true, recurses := true, apart := false, narrowed := true }
def MetricBallsMeetUptoSaid : Prop := metricBallsMeetUptoRow.holds Try.pinned (OpenSpec.upto metricBallsMeetSpec)

/-- 'antiquarylaw05.MetricRootsAreExact', WHERE WHAT IT READS IS OF BULK AT MOST 1048576: true; the input reads as it did. -/
def metricRootsAreExactUptoRow : OpenClaim := { program := "ytohbapfijafecaa", sum := "c3f0fd87d190ff6897e7a08cc3368d3e524e05f4d4618375f15bad1d1a34ede5", func := "antiquary/antiquarylaw05.MetricRootsAreExact", spec := "metricRootsAreExact", unfollowed := true, recurses := true, apart := false, narrowed := true }
def MetricRootsAreExactUptoSaid : Prop := metricRootsAreExactUptoRow.holds Try.pinned (OpenSpec.upto metricRootsAreExactSpec)

end Rows
end Go.Proofs.Ytohbapfijafecaa
