/-
  DERIVED. GIVEN WITH THE SEED: THE CARDS: each row of YtheebajklnljdaaDoorRows.lean that lists a variable, with what it lists TIED to the program's text (the seventh form; the later family's looks); each row that meets fmt, with fmt's text TOLD by the authors' own Lean function (tested against real Go, not proved from fmt's source: count such statements apart). THE CARD IS WHAT COUNTS. Prove the row's statement (the work); the ties are given (YtheebajklnljdaaDoorTie.lean); close each card by the builder's one call (the guide's Derived/Test/ToyasCard.lean, 'card_holds'). Laid BY PROGRAM, IN A SANDBOX (cutbox-door.mjs). By AI agents, Wed Nov 11 2026. No macro, syntax, notation, axiom, sorry.
-/
import Derived.Test.YtheebajklnljdaaDoorRows
import GoSem.ClaimSeven
namespace Go.Proofs.YtheebajklnljdaaDoor
namespace Rows

/-- THE TIED CARD OF 'cachetierlaw09.LogtreeRoundTrip'. -/
def logtreeRoundTripCard : Claim7 := { stood := { row := logtreeRoundTripRow, standIns := [], harness := (true, "9a4f9fad55976b56c158bf12c32d95ce008e39718864a67a43497fb70fa77d2f"), looks := false }, kinds := [], alts := [], laidByText := true, laidKinds := [.data], laidTests := true, laidLooks := .later }
def LogtreeRoundTripCardSaid : Prop := Claim7.holds Tryd.pinned (.plain (OpenSpec.ofChange logtreeRoundTripSpec)) logtreeRoundTripCard

/-- THE TIED CARD OF 'cachetierlaw09.LogtreeOwns'. -/
def logtreeOwnsCard : Claim7 := { stood := { row := logtreeOwnsRow, standIns := [], harness := (true, "9a4f9fad55976b56c158bf12c32d95ce008e39718864a67a43497fb70fa77d2f"), looks := false }, kinds := [], alts := [], laidByText := true, laidKinds := [.data], laidTests := true, laidLooks := .later }
def LogtreeOwnsCardSaid : Prop := Claim7.holds Tryd.pinned (.plain (OpenSpec.ofChange logtreeOwnsSpec)) logtreeOwnsCard

/-- THE TIED CARD OF 'cachetierlaw09.LogtreeGrows'. -/
def logtreeGrowsCard : Claim7 := { stood := { row := logtreeGrowsRow, standIns := [], harness := (true, "9a4f9fad55976b56c158bf12c32d95ce008e39718864a67a43497fb70fa77d2f"), looks := false }, kinds := [], alts := [], laidByText := true, laidKinds := [.data], laidTests := true, laidLooks := .later }
def LogtreeGrowsCardSaid : Prop := Claim7.holds Tryd.pinned (.plain (OpenSpec.ofChange logtreeGrowsSpec)) logtreeGrowsCard

/-- THE SECOND FORM's CARD OF 'cachetierlaw09.LogtreeRoundTrip'. -/
def logtreeRoundTripUptoCard : Claim7 := { stood := { row := logtreeRoundTripUptoRow, standIns := [], harness := (true, "9a4f9fad55976b56c158bf12c32d95ce008e39718864a67a43497fb70fa77d2f"), looks := false }, kinds := [], alts := [], laidByText := true, laidKinds := [.data], laidTests := true, laidLooks := .later }
def LogtreeRoundTripUptoCardSaid : Prop := Claim7.holds Tryd.pinned (.plain (OpenSpec.upto logtreeRoundTripSpec)) logtreeRoundTripUptoCard

/-- THE SECOND FORM's CARD OF 'cachetierlaw09.LogtreeOwns'. -/
def logtreeOwnsUptoCard : Claim7 := { stood := { row := logtreeOwnsUptoRow, standIns := [], harness := (true, "9a4f9fad55976b56c158bf12c32d95ce008e39718864a67a43497fb70fa77d2f"), looks := false }, kinds := [], alts := [], laidByText := true, laidKinds := [.data], laidTests := true, laidLooks := .later }
def LogtreeOwnsUptoCardSaid : Prop := Claim7.holds Tryd.pinned (.plain (OpenSpec.upto logtreeOwnsSpec)) logtreeOwnsUptoCard

/-- THE SECOND FORM's CARD OF 'cachetierlaw09.LogtreeGrows'. -/
def logtreeGrowsUptoCard : Claim7 := { stood := { row := logtreeGrowsUptoRow, standIns := [], harness := (true, "9a4f9fad55976b56c158bf12c32d95ce008e39718864a67a43497fb70fa77d2f"), looks := false }, kinds := [], alts := [], laidByText := true, laidKinds := [.data], laidTests := true, laidLooks := .later }
def LogtreeGrowsUptoCardSaid : Prop := Claim7.holds Tryd.pinned (.plain (OpenSpec.upto logtreeGrowsSpec)) logtreeGrowsUptoCard
end Rows
end Go.Proofs.YtheebajklnljdaaDoor
