/-
  DERIVED. GIVEN WITH THE SEED: THE CARDS: each row of YtheebajklnljdaaGreatDoorRows.lean that lists a variable, with what it lists TIED to the program's text (the seventh form; the later family's looks); each row that meets fmt, with fmt's text TOLD by the authors' own Lean function (tested against real Go, not proved from fmt's source: count such statements apart). THE CARD IS WHAT COUNTS. Prove the row's statement (the work); the ties are given (YtheebajklnljdaaGreatDoorTie.lean); close each card by the builder's one call (the guide's Derived/Test/ToyasCard.lean, 'card_holds'). Laid BY PROGRAM, IN A SANDBOX (cutbox-door.mjs). By AI agents, Wed Nov 11 2026. No macro, syntax, notation, axiom, sorry.
-/
import Derived.Test.YtheebajklnljdaaGreatDoorRows
import GoSem.ClaimSeven
namespace Go.Proofs.YtheebajklnljdaaGreatDoor
namespace Rows

/-- THE TIED CARD OF 'cachetierlaw09.LogtreeMatchesReference'. -/
def logtreeMatchesReferenceCard : Claim7 := { stood := { row := logtreeMatchesReferenceRow, standIns := [], harness := (true, "033684ffe847bd0ea74f66e61443bf088c599f21618314dbe31dd617192c4894"), looks := false }, kinds := [], alts := [], laidByText := true, laidKinds := [.data], laidTests := true, laidLooks := .later }
def LogtreeMatchesReferenceCardSaid : Prop := Claim7.holds Tryz.pinned (.plain (OpenSpec.ofChange logtreeMatchesReferenceSpec)) logtreeMatchesReferenceCard

/-- THE TIED CARD OF 'cachetierlaw09.LogtreeHeadsMatchReference'. -/
def logtreeHeadsMatchReferenceCard : Claim7 := { stood := { row := logtreeHeadsMatchReferenceRow, standIns := [], harness := (true, "033684ffe847bd0ea74f66e61443bf088c599f21618314dbe31dd617192c4894"), looks := false }, kinds := [], alts := [], laidByText := true, laidKinds := [.data], laidTests := true, laidLooks := .later }
def LogtreeHeadsMatchReferenceCardSaid : Prop := Claim7.holds Tryz.pinned (.plain (OpenSpec.ofChange logtreeHeadsMatchReferenceSpec)) logtreeHeadsMatchReferenceCard

/-- THE TIED CARD OF 'cachetierlaw09.LogtreeBinding'. -/
def logtreeBindingCard : Claim7 := { stood := { row := logtreeBindingRow, standIns := [], harness := (true, "033684ffe847bd0ea74f66e61443bf088c599f21618314dbe31dd617192c4894"), looks := false }, kinds := [], alts := [], laidByText := true, laidKinds := [.data], laidTests := true, laidLooks := .later }
def LogtreeBindingCardSaid : Prop := Claim7.holds Tryz.pinned (.plain (OpenSpec.ofChange logtreeBindingSpec)) logtreeBindingCard

/-- THE TIED CARD OF 'cachetierlaw09.LogtreeHistory'. -/
def logtreeHistoryCard : Claim7 := { stood := { row := logtreeHistoryRow, standIns := [], harness := (true, "033684ffe847bd0ea74f66e61443bf088c599f21618314dbe31dd617192c4894"), looks := false }, kinds := [], alts := [], laidByText := true, laidKinds := [.data], laidTests := true, laidLooks := .later }
def LogtreeHistoryCardSaid : Prop := Claim7.holds Tryz.pinned (.plain (OpenSpec.ofChange logtreeHistorySpec)) logtreeHistoryCard

/-- THE SECOND FORM's CARD OF 'cachetierlaw09.LogtreeMatchesReference'. -/
def logtreeMatchesReferenceUptoCard : Claim7 := { stood := { row := logtreeMatchesReferenceUptoRow, standIns := [], harness := (true, "033684ffe847bd0ea74f66e61443bf088c599f21618314dbe31dd617192c4894"), looks := false }, kinds := [], alts := [], laidByText := true, laidKinds := [.data], laidTests := true, laidLooks := .later }
def LogtreeMatchesReferenceUptoCardSaid : Prop := Claim7.holds Tryz.pinned (.plain (OpenSpec.upto logtreeMatchesReferenceSpec)) logtreeMatchesReferenceUptoCard

/-- THE SECOND FORM's CARD OF 'cachetierlaw09.LogtreeHeadsMatchReference'. -/
def logtreeHeadsMatchReferenceUptoCard : Claim7 := { stood := { row := logtreeHeadsMatchReferenceUptoRow, standIns := [], harness := (true, "033684ffe847bd0ea74f66e61443bf088c599f21618314dbe31dd617192c4894"), looks := false }, kinds := [], alts := [], laidByText := true, laidKinds := [.data], laidTests := true, laidLooks := .later }
def LogtreeHeadsMatchReferenceUptoCardSaid : Prop := Claim7.holds Tryz.pinned (.plain (OpenSpec.upto logtreeHeadsMatchReferenceSpec)) logtreeHeadsMatchReferenceUptoCard

/-- THE SECOND FORM's CARD OF 'cachetierlaw09.LogtreeBinding'. -/
def logtreeBindingUptoCard : Claim7 := { stood := { row := logtreeBindingUptoRow, standIns := [], harness := (true, "033684ffe847bd0ea74f66e61443bf088c599f21618314dbe31dd617192c4894"), looks := false }, kinds := [], alts := [], laidByText := true, laidKinds := [.data], laidTests := true, laidLooks := .later }
def LogtreeBindingUptoCardSaid : Prop := Claim7.holds Tryz.pinned (.plain (OpenSpec.upto logtreeBindingSpec)) logtreeBindingUptoCard

/-- THE SECOND FORM's CARD OF 'cachetierlaw09.LogtreeHistory'. -/
def logtreeHistoryUptoCard : Claim7 := { stood := { row := logtreeHistoryUptoRow, standIns := [], harness := (true, "033684ffe847bd0ea74f66e61443bf088c599f21618314dbe31dd617192c4894"), looks := false }, kinds := [], alts := [], laidByText := true, laidKinds := [.data], laidTests := true, laidLooks := .later }
def LogtreeHistoryUptoCardSaid : Prop := Claim7.holds Tryz.pinned (.plain (OpenSpec.upto logtreeHistorySpec)) logtreeHistoryUptoCard
end Rows
end Go.Proofs.YtheebajklnljdaaGreatDoor
