/-
  DERIVED. GIVEN WITH THE SEED: THE CARDS: each row of YtcnpblceamgfcaaGreatDoorRows.lean that lists a variable, with what it lists TIED to the program's text (the seventh form; the later family's looks); each row that meets fmt, with fmt's text TOLD by the authors' own Lean function (tested against real Go, not proved from fmt's source: count such statements apart). THE CARD IS WHAT COUNTS. Prove the row's statement (the work); the ties are given (YtcnpblceamgfcaaGreatDoorTie.lean); close each card by the builder's one call (the guide's Derived/Test/ToyasCard.lean, 'card_holds'). Laid BY PROGRAM, IN A SANDBOX (cutbox-door.mjs). By AI agents, Wed Nov 11 2026. No macro, syntax, notation, axiom, sorry.
-/
import Derived.Test.YtcnpblceamgfcaaGreatDoorRows
import GoSem.ClaimSeven
namespace Go.Proofs.YtcnpblceamgfcaaGreatDoor
namespace Rows

/-- THE TIED CARD OF 'antiquarytop.TopVaultIsBlind'. -/
def topVaultIsBlindCard : Claim7 := { stood := { row := topVaultIsBlindRow, standIns := [], harness := (true, "f471815b411e21c65ca5d1a6797ea14b9e8ba51cf74bbf473262972469994444"), looks := false }, kinds := [], alts := [], laidByText := true, laidKinds := [.data], laidTests := true, laidLooks := .later }
def TopVaultIsBlindCardSaid : Prop := Claim7.holds Tryz.pinned (.plain (OpenSpec.ofChange topVaultIsBlindSpec)) topVaultIsBlindCard

/-- THE TIED CARD OF 'antiquarytop.TopOldRootsOpen'. -/
def topOldRootsOpenCard : Claim7 := { stood := { row := topOldRootsOpenRow, standIns := [], harness := (true, "f471815b411e21c65ca5d1a6797ea14b9e8ba51cf74bbf473262972469994444"), looks := false }, kinds := [], alts := [], laidByText := true, laidKinds := [.data], laidTests := true, laidLooks := .later }
def TopOldRootsOpenCardSaid : Prop := Claim7.holds Tryz.pinned (.plain (OpenSpec.ofChange topOldRootsOpenSpec)) topOldRootsOpenCard

/-- THE TIED CARD OF 'antiquarytop.TopNoDesignIsLost'. -/
def topNoDesignIsLostCard : Claim7 := { stood := { row := topNoDesignIsLostRow, standIns := [], harness := (true, "f471815b411e21c65ca5d1a6797ea14b9e8ba51cf74bbf473262972469994444"), looks := false }, kinds := [], alts := [], laidByText := true, laidKinds := [.data], laidTests := true, laidLooks := .later }
def TopNoDesignIsLostCardSaid : Prop := Claim7.holds Tryz.pinned (.plain (OpenSpec.ofChange topNoDesignIsLostSpec)) topNoDesignIsLostCard

/-- THE SECOND FORM's CARD OF 'antiquarytop.TopVaultIsBlind'. -/
def topVaultIsBlindUptoCard : Claim7 := { stood := { row := topVaultIsBlindUptoRow, standIns := [], harness := (true, "f471815b411e21c65ca5d1a6797ea14b9e8ba51cf74bbf473262972469994444"), looks := false }, kinds := [], alts := [], laidByText := true, laidKinds := [.data], laidTests := true, laidLooks := .later }
def TopVaultIsBlindUptoCardSaid : Prop := Claim7.holds Tryz.pinned (.plain (OpenSpec.upto topVaultIsBlindSpec)) topVaultIsBlindUptoCard

/-- THE SECOND FORM's CARD OF 'antiquarytop.TopOldRootsOpen'. -/
def topOldRootsOpenUptoCard : Claim7 := { stood := { row := topOldRootsOpenUptoRow, standIns := [], harness := (true, "f471815b411e21c65ca5d1a6797ea14b9e8ba51cf74bbf473262972469994444"), looks := false }, kinds := [], alts := [], laidByText := true, laidKinds := [.data], laidTests := true, laidLooks := .later }
def TopOldRootsOpenUptoCardSaid : Prop := Claim7.holds Tryz.pinned (.plain (OpenSpec.upto topOldRootsOpenSpec)) topOldRootsOpenUptoCard

/-- THE SECOND FORM's CARD OF 'antiquarytop.TopNoDesignIsLost'. -/
def topNoDesignIsLostUptoCard : Claim7 := { stood := { row := topNoDesignIsLostUptoRow, standIns := [], harness := (true, "f471815b411e21c65ca5d1a6797ea14b9e8ba51cf74bbf473262972469994444"), looks := false }, kinds := [], alts := [], laidByText := true, laidKinds := [.data], laidTests := true, laidLooks := .later }
def TopNoDesignIsLostUptoCardSaid : Prop := Claim7.holds Tryz.pinned (.plain (OpenSpec.upto topNoDesignIsLostSpec)) topNoDesignIsLostUptoCard
end Rows
end Go.Proofs.YtcnpblceamgfcaaGreatDoor
