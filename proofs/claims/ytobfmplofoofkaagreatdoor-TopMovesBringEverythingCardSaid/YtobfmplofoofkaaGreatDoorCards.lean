/-
  DERIVED. GIVEN WITH THE SEED: THE CARDS: each row of YtobfmplofoofkaaGreatDoorRows.lean that lists a variable, with what it lists TIED to the program's text (the seventh form; the later family's looks); each row that meets fmt, with fmt's text TOLD by the authors' own Lean function (tested against real Go, not proved from fmt's source: count such statements apart). THE CARD IS WHAT COUNTS. Prove the row's statement (the work); the ties are given (YtobfmplofoofkaaGreatDoorTie.lean); close each card by the builder's one call (the guide's Derived/Test/ToyasCard.lean, 'card_holds'). Laid BY PROGRAM, IN A SANDBOX (cutbox-door.mjs). By AI agents, Wed Nov 11 2026. No macro, syntax, notation, axiom, sorry.
-/
import Derived.Test.YtobfmplofoofkaaGreatDoorRows
import GoSem.ClaimSeven
namespace Go.Proofs.YtobfmplofoofkaaGreatDoor
namespace Rows

/-- THE TIED CARD OF 'antiquarytop.TopMovesBringEverything'. -/
def topMovesBringEverythingCard : Claim7 := { stood := { row := topMovesBringEverythingRow, standIns := [], harness := (true, "b56deefb3ca825f0629164faa3c670db8d7ecd6acce81b54e9142b98b0140910"), looks := false }, kinds := [], alts := [], laidByText := true, laidKinds := [.data, .data], laidTests := true, laidLooks := .later }
def TopMovesBringEverythingCardSaid : Prop := Claim7.holds Tryz.pinned (.plain (OpenSpec.ofChange topMovesBringEverythingSpec)) topMovesBringEverythingCard

/-- THE SECOND FORM's CARD OF 'antiquarytop.TopMovesBringEverything'. -/
def topMovesBringEverythingUptoCard : Claim7 := { stood := { row := topMovesBringEverythingUptoRow, standIns := [], harness := (true, "b56deefb3ca825f0629164faa3c670db8d7ecd6acce81b54e9142b98b0140910"), looks := false }, kinds := [], alts := [], laidByText := true, laidKinds := [.data, .data], laidTests := true, laidLooks := .later }
def TopMovesBringEverythingUptoCardSaid : Prop := Claim7.holds Tryz.pinned (.plain (OpenSpec.upto topMovesBringEverythingSpec)) topMovesBringEverythingUptoCard
end Rows
end Go.Proofs.YtobfmplofoofkaaGreatDoor
