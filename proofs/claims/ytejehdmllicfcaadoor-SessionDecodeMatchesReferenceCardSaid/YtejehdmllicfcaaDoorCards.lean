/-
  DERIVED. GIVEN WITH THE SEED: THE CARDS: each row of YtejehdmllicfcaaDoorRows.lean that lists a variable, with what it lists TIED to the program's text (the seventh form; the later family's looks); each row that meets fmt, with fmt's text TOLD by the authors' own Lean function (tested against real Go, not proved from fmt's source: count such statements apart). THE CARD IS WHAT COUNTS. Prove the row's statement (the work); the ties are given (YtejehdmllicfcaaDoorTie.lean); close each card by the builder's one call (the guide's Derived/Test/ToyasCard.lean, 'card_holds'). Laid BY PROGRAM, IN A SANDBOX (cutbox-door.mjs). By AI agents, Wed Nov 11 2026. No macro, syntax, notation, axiom, sorry.
-/
import Derived.Test.YtejehdmllicfcaaDoorRows
import GoSem.ClaimSeven
namespace Go.Proofs.YtejehdmllicfcaaDoor
namespace Rows

/-- THE TIED CARD OF 'cachetierlaw21.SessionMatchesReference'. -/
def sessionMatchesReferenceCard : Claim7 := { stood := { row := sessionMatchesReferenceRow, standIns := [], harness := (true, "2ddfaaa07dda8461d7ace9aa6d54064676b191eeac4fadc2133a2947196029b8"), looks := false }, kinds := [], alts := [], laidByText := true, laidKinds := [.data], laidTests := true, laidLooks := .later }
def SessionMatchesReferenceCardSaid : Prop := Claim7.holds Tryd.pinned (.plain (OpenSpec.ofChange sessionMatchesReferenceSpec)) sessionMatchesReferenceCard

/-- THE TIED CARD OF 'cachetierlaw21.SessionDecodeMatchesReference'. -/
def sessionDecodeMatchesReferenceCard : Claim7 := { stood := { row := sessionDecodeMatchesReferenceRow, standIns := [], harness := (true, "2ddfaaa07dda8461d7ace9aa6d54064676b191eeac4fadc2133a2947196029b8"), looks := false }, kinds := [], alts := [], laidByText := true, laidKinds := [.data], laidTests := true, laidLooks := .later }
def SessionDecodeMatchesReferenceCardSaid : Prop := Claim7.holds Tryd.pinned (.plain (OpenSpec.ofChange sessionDecodeMatchesReferenceSpec)) sessionDecodeMatchesReferenceCard

/-- THE TIED CARD OF 'cachetierlaw21.SessionMonotonic'. -/
def sessionMonotonicCard : Claim7 := { stood := { row := sessionMonotonicRow, standIns := [], harness := (true, "2ddfaaa07dda8461d7ace9aa6d54064676b191eeac4fadc2133a2947196029b8"), looks := false }, kinds := [], alts := [], laidByText := true, laidKinds := [.data], laidTests := true, laidLooks := .later }
def SessionMonotonicCardSaid : Prop := Claim7.holds Tryd.pinned (.plain (OpenSpec.ofChange sessionMonotonicSpec)) sessionMonotonicCard

/-- THE TIED CARD OF 'cachetierlaw21.SessionOwnWrites'. -/
def sessionOwnWritesCard : Claim7 := { stood := { row := sessionOwnWritesRow, standIns := [], harness := (true, "2ddfaaa07dda8461d7ace9aa6d54064676b191eeac4fadc2133a2947196029b8"), looks := false }, kinds := [], alts := [], laidByText := true, laidKinds := [.data], laidTests := true, laidLooks := .later }
def SessionOwnWritesCardSaid : Prop := Claim7.holds Tryd.pinned (.plain (OpenSpec.ofChange sessionOwnWritesSpec)) sessionOwnWritesCard

/-- THE TIED CARD OF 'cachetierlaw21.SessionLeast'. -/
def sessionLeastCard : Claim7 := { stood := { row := sessionLeastRow, standIns := [], harness := (true, "2ddfaaa07dda8461d7ace9aa6d54064676b191eeac4fadc2133a2947196029b8"), looks := false }, kinds := [], alts := [], laidByText := true, laidKinds := [.data], laidTests := true, laidLooks := .later }
def SessionLeastCardSaid : Prop := Claim7.holds Tryd.pinned (.plain (OpenSpec.ofChange sessionLeastSpec)) sessionLeastCard

/-- THE TIED CARD OF 'cachetierlaw21.SessionMerges'. -/
def sessionMergesCard : Claim7 := { stood := { row := sessionMergesRow, standIns := [], harness := (true, "2ddfaaa07dda8461d7ace9aa6d54064676b191eeac4fadc2133a2947196029b8"), looks := false }, kinds := [], alts := [], laidByText := true, laidKinds := [.data], laidTests := true, laidLooks := .later }
def SessionMergesCardSaid : Prop := Claim7.holds Tryd.pinned (.plain (OpenSpec.ofChange sessionMergesSpec)) sessionMergesCard

/-- THE TIED CARD OF 'cachetierlaw21.SessionRoundTrip'. -/
def sessionRoundTripCard : Claim7 := { stood := { row := sessionRoundTripRow, standIns := [], harness := (true, "2ddfaaa07dda8461d7ace9aa6d54064676b191eeac4fadc2133a2947196029b8"), looks := false }, kinds := [], alts := [], laidByText := true, laidKinds := [.data], laidTests := true, laidLooks := .later }
def SessionRoundTripCardSaid : Prop := Claim7.holds Tryd.pinned (.plain (OpenSpec.ofChange sessionRoundTripSpec)) sessionRoundTripCard

/-- THE SECOND FORM's CARD OF 'cachetierlaw21.SessionMatchesReference'. -/
def sessionMatchesReferenceUptoCard : Claim7 := { stood := { row := sessionMatchesReferenceUptoRow, standIns := [], harness := (true, "2ddfaaa07dda8461d7ace9aa6d54064676b191eeac4fadc2133a2947196029b8"), looks := false }, kinds := [], alts := [], laidByText := true, laidKinds := [.data], laidTests := true, laidLooks := .later }
def SessionMatchesReferenceUptoCardSaid : Prop := Claim7.holds Tryd.pinned (.plain (OpenSpec.upto sessionMatchesReferenceSpec)) sessionMatchesReferenceUptoCard

/-- THE SECOND FORM's CARD OF 'cachetierlaw21.SessionDecodeMatchesReference'. -/
def sessionDecodeMatchesReferenceUptoCard : Claim7 := { stood := { row := sessionDecodeMatchesReferenceUptoRow, standIns := [], harness := (true, "2ddfaaa07dda8461d7ace9aa6d54064676b191eeac4fadc2133a2947196029b8"), looks := false }, kinds := [], alts := [], laidByText := true, laidKinds := [.data], laidTests := true, laidLooks := .later }
def SessionDecodeMatchesReferenceUptoCardSaid : Prop := Claim7.holds Tryd.pinned (.plain (OpenSpec.upto sessionDecodeMatchesReferenceSpec)) sessionDecodeMatchesReferenceUptoCard

/-- THE SECOND FORM's CARD OF 'cachetierlaw21.SessionMonotonic'. -/
def sessionMonotonicUptoCard : Claim7 := { stood := { row := sessionMonotonicUptoRow, standIns := [], harness := (true, "2ddfaaa07dda8461d7ace9aa6d54064676b191eeac4fadc2133a2947196029b8"), looks := false }, kinds := [], alts := [], laidByText := true, laidKinds := [.data], laidTests := true, laidLooks := .later }
def SessionMonotonicUptoCardSaid : Prop := Claim7.holds Tryd.pinned (.plain (OpenSpec.upto sessionMonotonicSpec)) sessionMonotonicUptoCard

/-- THE SECOND FORM's CARD OF 'cachetierlaw21.SessionOwnWrites'. -/
def sessionOwnWritesUptoCard : Claim7 := { stood := { row := sessionOwnWritesUptoRow, standIns := [], harness := (true, "2ddfaaa07dda8461d7ace9aa6d54064676b191eeac4fadc2133a2947196029b8"), looks := false }, kinds := [], alts := [], laidByText := true, laidKinds := [.data], laidTests := true, laidLooks := .later }
def SessionOwnWritesUptoCardSaid : Prop := Claim7.holds Tryd.pinned (.plain (OpenSpec.upto sessionOwnWritesSpec)) sessionOwnWritesUptoCard

/-- THE SECOND FORM's CARD OF 'cachetierlaw21.SessionLeast'. -/
def sessionLeastUptoCard : Claim7 := { stood := { row := sessionLeastUptoRow, standIns := [], harness := (true, "2ddfaaa07dda8461d7ace9aa6d54064676b191eeac4fadc2133a2947196029b8"), looks := false }, kinds := [], alts := [], laidByText := true, laidKinds := [.data], laidTests := true, laidLooks := .later }
def SessionLeastUptoCardSaid : Prop := Claim7.holds Tryd.pinned (.plain (OpenSpec.upto sessionLeastSpec)) sessionLeastUptoCard

/-- THE SECOND FORM's CARD OF 'cachetierlaw21.SessionMerges'. -/
def sessionMergesUptoCard : Claim7 := { stood := { row := sessionMergesUptoRow, standIns := [], harness := (true, "2ddfaaa07dda8461d7ace9aa6d54064676b191eeac4fadc2133a2947196029b8"), looks := false }, kinds := [], alts := [], laidByText := true, laidKinds := [.data], laidTests := true, laidLooks := .later }
def SessionMergesUptoCardSaid : Prop := Claim7.holds Tryd.pinned (.plain (OpenSpec.upto sessionMergesSpec)) sessionMergesUptoCard

/-- THE SECOND FORM's CARD OF 'cachetierlaw21.SessionRoundTrip'. -/
def sessionRoundTripUptoCard : Claim7 := { stood := { row := sessionRoundTripUptoRow, standIns := [], harness := (true, "2ddfaaa07dda8461d7ace9aa6d54064676b191eeac4fadc2133a2947196029b8"), looks := false }, kinds := [], alts := [], laidByText := true, laidKinds := [.data], laidTests := true, laidLooks := .later }
def SessionRoundTripUptoCardSaid : Prop := Claim7.holds Tryd.pinned (.plain (OpenSpec.upto sessionRoundTripSpec)) sessionRoundTripUptoCard
end Rows
end Go.Proofs.YtejehdmllicfcaaDoor
