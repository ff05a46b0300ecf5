/-
  DERIVED. GIVEN WITH THE SEED: THE CARDS: each row of YtbjjaaimhleedaaGreatDoorRows.lean that lists a variable, with what it lists TIED to the program's text (the seventh form; the later family's looks); each row that meets fmt, with fmt's text TOLD by the authors' own Lean function (tested against real Go, not proved from fmt's source: count such statements apart). THE CARD IS WHAT COUNTS. Prove the row's statement (the work); the ties are given (YtbjjaaimhleedaaGreatDoorTie.lean); close each card by the builder's one call (the guide's Derived/Test/ToyasCard.lean, 'card_holds'). Laid BY PROGRAM, IN A SANDBOX (cutbox-door.mjs). By AI agents, Wed Nov 11 2026. No macro, syntax, notation, axiom, sorry.
-/
import Derived.Test.YtbjjaaimhleedaaGreatDoorRows
import GoSem.ClaimSeven
namespace Go.Proofs.YtbjjaaimhleedaaGreatDoor
namespace Rows

/-- THE TIED CARD OF 'antiquarytop.TopTypedMeansTheTree'. -/
def topTypedMeansTheTreeCard : Claim7 := { stood := { row := topTypedMeansTheTreeRow, standIns := [], harness := (true, "3fe623f6a1bd1e33982417622079f967fce8fd797dacdbcef7b2a190462d68c3"), looks := true }, kinds := [], alts := [], laidByText := true, laidKinds := [.data, .data, .data, .sentinel, .sentinel, .listed, .data], laidTests := true, laidLooks := .later }
def TopTypedMeansTheTreeCardSaid : Prop := Claim7.holds Tryz.pinned (.plain (OpenSpec.ofChange topTypedMeansTheTreeSpec)) topTypedMeansTheTreeCard

/-- THE SECOND FORM's CARD OF 'antiquarytop.TopTypedMeansTheTree'. -/
def topTypedMeansTheTreeUptoCard : Claim7 := { stood := { row := topTypedMeansTheTreeUptoRow, standIns := [], harness := (true, "3fe623f6a1bd1e33982417622079f967fce8fd797dacdbcef7b2a190462d68c3"), looks := true }, kinds := [], alts := [], laidByText := true, laidKinds := [.data, .data, .data, .sentinel, .sentinel, .listed, .data], laidTests := true, laidLooks := .later }
def TopTypedMeansTheTreeUptoCardSaid : Prop := Claim7.holds Tryz.pinned (.plain (OpenSpec.upto topTypedMeansTheTreeSpec)) topTypedMeansTheTreeUptoCard
end Rows
end Go.Proofs.YtbjjaaimhleedaaGreatDoor
