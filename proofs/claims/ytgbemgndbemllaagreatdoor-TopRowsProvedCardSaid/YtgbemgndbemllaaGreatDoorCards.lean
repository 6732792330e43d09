/-
  DERIVED. GIVEN WITH THE SEED: THE CARDS: each row of YtgbemgndbemllaaGreatDoorRows.lean that lists a variable, with what it lists TIED to the program's text (the seventh form; the later family's looks); each row that meets fmt, with fmt's text TOLD by the authors' own Lean function (tested against real Go, not proved from fmt's source: count such statements apart). THE CARD IS WHAT COUNTS. Prove the row's statement (the work); the ties are given (YtgbemgndbemllaaGreatDoorTie.lean); close each card by the builder's one call (the guide's Derived/Test/ToyasCard.lean, 'card_holds'). Laid BY PROGRAM, IN A SANDBOX (cutbox-door.mjs). By AI agents, Wed Nov 11 2026. No macro, syntax, notation, axiom, sorry.
-/
import Derived.Test.YtgbemgndbemllaaGreatDoorRows
import GoSem.ClaimSeven
namespace Go.Proofs.YtgbemgndbemllaaGreatDoor
namespace Rows

/-- THE TIED CARD OF 'cachetiertop.TopRowsProved'. -/
def topRowsProvedCard : Claim7 := { stood := { row := topRowsProvedRow, standIns := [], harness := (true, "67ec7fcde1661fc9beb84a245ca480f9c9d226be098db287fbf2132288ad9edf"), looks := false }, kinds := [], alts := [], laidByText := true, laidKinds := [.data], laidTests := true, laidLooks := .later }
def TopRowsProvedCardSaid : Prop := Claim7.holds Tryz.pinned (.plain (OpenSpec.ofChange topRowsProvedSpec)) topRowsProvedCard

/-- THE SECOND FORM's CARD OF 'cachetiertop.TopRowsProved'. -/
def topRowsProvedUptoCard : Claim7 := { stood := { row := topRowsProvedUptoRow, standIns := [], harness := (true, "67ec7fcde1661fc9beb84a245ca480f9c9d226be098db287fbf2132288ad9edf"), looks := false }, kinds := [], alts := [], laidByText := true, laidKinds := [.data], laidTests := true, laidLooks := .later }
def TopRowsProvedUptoCardSaid : Prop := Claim7.holds Tryz.pinned (.plain (OpenSpec.upto topRowsProvedSpec)) topRowsProvedUptoCard
end Rows
end Go.Proofs.YtgbemgndbemllaaGreatDoor
