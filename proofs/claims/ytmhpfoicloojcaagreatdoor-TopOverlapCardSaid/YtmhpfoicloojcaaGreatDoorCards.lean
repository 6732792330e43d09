/-
  DERIVED. GIVEN WITH THE SEED: THE CARDS: each row of YtmhpfoicloojcaaGreatDoorRows.lean that lists a variable, with what it lists TIED to the program's text (the seventh form; the later family's looks); each row that meets fmt, with fmt's text TOLD by the authors' own Lean function (tested against real Go, not proved from fmt's source: count such statements apart). THE CARD IS WHAT COUNTS. Prove the row's statement (the work); the ties are given (YtmhpfoicloojcaaGreatDoorTie.lean); close each card by the builder's one call (the guide's Derived/Test/ToyasCard.lean, 'card_holds'). Laid BY PROGRAM, IN A SANDBOX (cutbox-door.mjs). By AI agents, Wed Nov 11 2026. No macro, syntax, notation, axiom, sorry.
-/
import Derived.Test.YtmhpfoicloojcaaGreatDoorRows
import GoSem.ClaimSeven
namespace Go.Proofs.YtmhpfoicloojcaaGreatDoor
namespace Rows

/-- THE TIED CARD OF 'cachetiertop.TopOverlap'. -/
def topOverlapCard : Claim7 := { stood := { row := topOverlapRow, standIns := [], harness := (true, "e7b1946dcd4b591742588331b3ab0bb71260d30fe333fa5f6adb9bae92c917f4"), looks := true }, kinds := [], alts := [], laidByText := true, laidKinds := [.data, .data, .data, .data, .sentinel], laidTests := true, laidLooks := .later }
def TopOverlapCardSaid : Prop := Claim7.holds Tryz.pinned (.plain (OpenSpec.ofChange topOverlapSpec)) topOverlapCard

/-- THE SECOND FORM's CARD OF 'cachetiertop.TopOverlap'. -/
def topOverlapUptoCard : Claim7 := { stood := { row := topOverlapUptoRow, standIns := [], harness := (true, "e7b1946dcd4b591742588331b3ab0bb71260d30fe333fa5f6adb9bae92c917f4"), looks := true }, kinds := [], alts := [], laidByText := true, laidKinds := [.data, .data, .data, .data, .sentinel], laidTests := true, laidLooks := .later }
def TopOverlapUptoCardSaid : Prop := Claim7.holds Tryz.pinned (.plain (OpenSpec.upto topOverlapSpec)) topOverlapUptoCard
end Rows
end Go.Proofs.YtmhpfoicloojcaaGreatDoor
