/-
  NARROWER THAN 'FOR EVERY INPUT', by the rows' own cells (each row's printed sentence says how): RegionCovers: loops · RegionMovesAll: loops · RegionChangesLittle: loops · RegionRoutesAll: loops.
  DERIVED. THE GIVEN ROWS OF THIS SEAT. 4 by the template 'for every input the law returns true; each argument reads behind the call as it read before'; 0 by the template 'total and deterministic' (their statements: YtdeleoaeegmhlaaTotals.lean).
  GIVEN WITH THE SEED: the statements are not yours to turn. If you find one false, say at which input.
  Laid BY PROGRAM, IN A SANDBOX (cutbox-rows.mjs): the forced cells as the released guide's own fill.sh prints them over the translation aaef97a52f7fe75d… (all of the seat's roots in one cut). By AI agents, Wed Nov 11 2026. No macro, syntax, notation, axiom, sorry.
-/
import Derived.Test.YtdeleoaeegmhlaaChecked
import GoSem.Claim
import GoSem.ClaimJoined
import GoSem.ClaimMapViews
import Derived.JoinedTies
import Derived.KernelRfl
namespace Go.Proofs.Ytdeleoaeegmhlaa
/- THE CELL 'sum', in the pinned program and in every row, IS THE sha256 OF THE DUMP (.gsa) THAT YtdeleoaeegmhlaaProg.lean LOADS. Nothing in Lean hashes anything: it is a label: what it is worth is what the hold of that sum in a sandbox is worth. -/
noncomputable def Try.pinned : Pinned := { name := "ytdeleoaeegmhlaa", sum := "aaef97a52f7fe75dceb243562feca597f66b2f4cdb2871294ed28219b347f729", checked := Try.checked }
namespace Rows
def none {H : Type} : Left H := { results := [], args := [] }

/-- 'antiquarylaw43.RegionCovers': WHATEVER THE INPUT: true; the input reads as it did. -/
def regionCoversSpec : ChangeSpec := { name := "regionCovers", fn := fun _ => fun
  | [d1, d2] => { results := [.lit (.bool true)], args := [d1, d2] }
  | _ => none }
def regionCoversRow : OpenClaim := { program := "ytdeleoaeegmhlaa", sum := "aaef97a52f7fe75dceb243562feca597f66b2f4cdb2871294ed28219b347f729", func := "antiquary/antiquarylaw43.RegionCovers", spec := "regionCovers", unfollowed := true, recurses := true, loops := true, apart := false }
def RegionCoversSaid : Prop := regionCoversRow.holds Try.pinned (OpenSpec.ofChange regionCoversSpec)

/-- ITS FALSE NEIGHBOUR: 'it returns false'. Refute it at one input. -/
def regionCoversWrong : ChangeSpec := { name := "regionCovers", fn := fun _ => fun
  | [d1, d2] => { results := [.lit (.bool false)], args := [d1, d2] }
  | _ => none }
def RegionCoversWrongFalsely : Prop := regionCoversRow.holds Try.pinned (OpenSpec.ofChange regionCoversWrong)

/-- 'antiquarylaw43.RegionMovesAll': WHATEVER THE INPUT: true; the input reads as it did. -/
def regionMovesAllSpec : ChangeSpec := { name := "regionMovesAll", fn := fun _ => fun
  | [d1, d2, d3, d4] => { results := [.lit (.bool true)], args := [d1, d2, d3, d4] }
  | _ => none }
def regionMovesAllRow : OpenClaim := { program := "ytdeleoaeegmhlaa", sum := "aaef97a52f7fe75dceb243562feca597f66b2f4cdb2871294ed28219b347f729", func := "antiquary/antiquarylaw43.RegionMovesAll", spec := "regionMovesAll", unfollowed := true, recurses := true, loops := true, apart := false }
def RegionMovesAllSaid : Prop := regionMovesAllRow.holds Try.pinned (OpenSpec.ofChange regionMovesAllSpec)

/-- ITS FALSE NEIGHBOUR: 'it returns false'. Refute it at one input. -/
def regionMovesAllWrong : ChangeSpec := { name := "regionMovesAll", fn := fun _ => fun
  | [d1, d2, d3, d4] => { results := [.lit (.bool false)], args := [d1, d2, d3, d4] }
  | _ => none }
def RegionMovesAllWrongFalsely : Prop := regionMovesAllRow.holds Try.pinned (OpenSpec.ofChange regionMovesAllWrong)

/-- 'antiquarylaw43.RegionChangesLittle': WHATEVER THE INPUT: true; the input reads as it did. -/
def regionChangesLittleSpec : ChangeSpec := { name := "regionChangesLittle", fn := fun _ => fun
  | [d1, d2, d3, d4, d5, d6] => { results := [.lit (.bool true)], args := [d1, d2, d3, d4, d5, d6] }
  | _ => none }
def regionChangesLittleRow : OpenClaim := { program := "ytdeleoaeegmhlaa", sum := "aaef97a52f7fe75dceb243562feca597f66b2f4cdb2871294ed28219b347f729", func := "antiquary/antiquarylaw43.RegionChangesLittle", spec := "regionChangesLittle", unfollowed := true, recurses := true, loops := true, apart := false }
def RegionChangesLittleSaid : Prop := regionChangesLittleRow.holds Try.pinned (OpenSpec.ofChange regionChangesLittleSpec)

/-- ITS FALSE NEIGHBOUR: 'it returns false'. Refute it at one input. -/
def regionChangesLittleWrong : ChangeSpec := { name := "regionChangesLittle", fn := fun _ => fun
  | [d1, d2, d3, d4, d5, d6] => { results := [.lit (.bool false)], args := [d1, d2, d3, d4, d5, d6] }
  | _ => none }
def RegionChangesLittleWrongFalsely : Prop := regionChangesLittleRow.holds Try.pinned (OpenSpec.ofChange regionChangesLittleWrong)

/-- 'antiquarylaw43.RegionRoutesAll': WHATEVER THE INPUT: true; the input reads as it did. -/
def regionRoutesAllSpec : ChangeSpec := { name := "regionRoutesAll", fn := fun _ => fun
  | [d1, d2, d3, d4, d5] => { results := [.lit (.bool true)], args := [d1, d2, d3, d4, d5] }
  | _ => none }
def regionRoutesAllRow : OpenClaim := { program := "ytdeleoaeegmhlaa", sum := "aaef97a52f7fe75dceb243562feca597f66b2f4cdb2871294ed28219b347f729", func := "antiquary/antiquarylaw43.RegionRoutesAll", spec := "regionRoutesAll", unfollowed := true, recurses := true, loops := true, apart := false }
def RegionRoutesAllSaid : Prop := regionRoutesAllRow.holds Try.pinned (OpenSpec.ofChange regionRoutesAllSpec)

/-- ITS FALSE NEIGHBOUR: 'it returns false'. Refute it at one input. -/
def regionRoutesAllWrong : ChangeSpec := { name := "regionRoutesAll", fn := fun _ => fun
  | [d1, d2, d3, d4, d5] => { results := [.lit (.bool false)], args := [d1, d2, d3, d4, d5] }
  | _ => none }
def RegionRoutesAllWrongFalsely : Prop := regionRoutesAllRow.holds Try.pinned (OpenSpec.ofChange regionRoutesAllWrong)

/- THE SECOND FORM. 'bulk': how many values and letters a reading holds, each counted each time it is reached (what is shared counts as often as it is met; a slice's spare places count too). A statement '..UptoSaid' is the law's where the arguments, and the package variables that the reading takes, are together of bulk at most 1048576: NARROWER than '..Said'. Prove '..Said' where nothing that the law and all that it calls make is longer than what came in: it says more and counts as full. Else prove '..UptoSaid'. A law counts once. -/
mutual
def uptoBulk {H : Type} : DataW H → Nat
  | .lit (.string bytes) => bytes.length + 1
  | .lit _ => 1
  | .nil => 1
  | .ptr d => uptoBulk d + 1
  | .slice elems spare => uptoBulkAll elems + uptoBulkAll spare + 1
  | .agg parts => uptoBulkAll parts + 1
  | .iface _ d => uptoBulk d + 1
  | .map entries => uptoBulkEntries entries + 1
  | .held _ => 1
def uptoBulkAll {H : Type} : List (DataW H) → Nat
  | [] => 0
  | d :: r => uptoBulk d + uptoBulkAll r
def uptoBulkEntries {H : Type} : List (Lit × DataW H) → Nat
  | [] => 0
  | x :: r => uptoBulkEntry x + uptoBulkEntries r
def uptoBulkEntry {H : Type} : Lit × DataW H → Nat
  | (.string bytes, d) => bytes.length + uptoBulk d + 1
  | (_, d) => uptoBulk d + 1
 end
def uptoSmall : (H : Type) → List (DataW H) → Bool := fun _ ds => decide (uptoBulkAll ds ≤ 1048576)
def OpenSpec.upto (s : _root_.Go.ChangeSpec) : _root_.Go.OpenSpec := { _root_.Go.OpenSpec.ofChange s with cond := some uptoSmall }

/-- 'antiquarylaw43.RegionCovers', WHERE WHAT IT READS IS OF BULK AT MOST 1048576: true; the input reads as it did. -/
def regionCoversUptoRow : OpenClaim := { program := "ytdeleoaeegmhlaa", sum := "aaef97a52f7fe75dceb243562feca597f66b2f4cdb2871294ed28219b347f729", func := "antiquary/antiquarylaw43.RegionCovers", spec := "regionCovers", unfollowed := true, recurses := true, loops := true, apart := false, narrowed := true }
def RegionCoversUptoSaid : Prop := regionCoversUptoRow.holds Try.pinned (OpenSpec.upto regionCoversSpec)

/-- 'antiquarylaw43.RegionMovesAll', WHERE WHAT IT READS IS OF BULK AT MOST 1048576: true; the input reads as it did. -/
def regionMovesAllUptoRow : OpenClaim := { program := "ytdeleoaeegmhlaa", sum := "aaef97a52f7fe75dceb243562feca597f66b2f4cdb2871294ed28219b347f729", func := "antiquary/antiquarylaw43.RegionMovesAll", spec := "regionMovesAll", unfollowed := true, recurses := true, loops := true, apart := false, narrowed := true }
def RegionMovesAllUptoSaid : Prop := regionMovesAllUptoRow.holds Try.pinned (OpenSpec.upto regionMovesAllSpec)

/-- 'antiquarylaw43.RegionChangesLittle', WHERE WHAT IT READS IS OF BULK AT MOST 1048576: true; the input reads as it did. -/
def regionChangesLittleUptoRow : OpenClaim := { program := "ytdeleoaeegmhlaa", sum := "aaef97a52f7fe75dceb243562feca597f66b2f4cdb2871294ed28219b347f729", func := "antiquary/antiquarylaw43.RegionChangesLittle", spec := "regionChangesLittle", unfollowed := true, recurses := true, loops := true, apart := false, narrowed := true }
def RegionChangesLittleUptoSaid : Prop := regionChangesLittleUptoRow.holds Try.pinned (OpenSpec.upto regionChangesLittleSpec)

/-- 'antiquarylaw43.RegionRoutesAll', WHERE WHAT IT READS IS OF BULK AT MOST 1048576: true; the input reads as it did. -/
def regionRoutesAllUptoRow : OpenClaim := { program := "ytdeleoaeegmhlaa", sum := "aaef97a52f7fe75dceb243562feca597f66b2f4cdb2871294ed28219b347f729", func := "antiquary/antiquarylaw43.RegionRoutesAll", spec := "regionRoutesAll", unfollowed := true, recurses := true, loops := true, apart := false, narrowed := true }
def RegionRoutesAllUptoSaid : Prop := regionRoutesAllUptoRow.holds Try.pinned (OpenSpec.upto regionRoutesAllSpec)

end Rows
end Go.Proofs.Ytdeleoaeegmhlaa
