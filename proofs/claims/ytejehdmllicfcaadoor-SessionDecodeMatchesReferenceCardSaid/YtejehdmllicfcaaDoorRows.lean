/-
  NARROWER THAN 'FOR EVERY INPUT', by the rows' own cells (each row's printed sentence says how): SessionMatchesReference: laid · SessionDecodeMatchesReference: laid · SessionMonotonic: laid · SessionOwnWrites: laid · SessionLeast: laid · SessionMerges: laid · SessionRoundTrip: laid.
  DERIVED. THE GIVEN ROWS OF THIS SEAT. 7 by the template 'for every input the law returns true; each argument reads behind the call as it read before'; 0 by the template 'total and deterministic' (their statements: YtejehdmllicfcaaDoorTotals.lean).
  GIVEN WITH THE SEED: the statements are not yours to turn. If you find one false, say at which input.
  Laid BY PROGRAM, IN A SANDBOX (cutbox-rows.mjs): the forced cells as the released guide's own fill.sh prints them over the translation 73ecef5a0e8429a3… (all of the seat's roots in one cut). By AI agents, Wed Nov 11 2026. No macro, syntax, notation, axiom, sorry.
-/
import Derived.Test.YtejehdmllicfcaaDoorChecked
import GoSem.Claim
import GoSem.ClaimJoined
import GoSem.ClaimMapViews
import Derived.JoinedTies
import Derived.KernelRfl
namespace Go.Proofs.YtejehdmllicfcaaDoor
/- THE CELL 'sum', in the pinned program and in every row, IS THE sha256 OF THE DUMP (.gsa) THAT YtejehdmllicfcaaDoorProg.lean LOADS. Nothing in Lean hashes anything: it is a label: what it is worth is what the hold of that sum in a sandbox is worth. -/
noncomputable def Tryd.pinned : Pinned := { name := "ytejehdmllicfcaadoor", sum := "73ecef5a0e8429a351c6c13505c7950ecf5aec85898698d98393a29562116580", checked := Tryd.checked }
namespace Rows
def none {H : Type} : Left H := { results := [], args := [] }

/- WHAT THE LISTED PACKAGE-LEVEL VARIABLES READ AS WHEN THE CALL BEGINS. Each datum BY PROGRAM (the guide's laid-datum.mjs) off the statement by which the dump's own 'gosem.cut.vars' lays the variable. In a bare row this is a premise. The card (YtejehdmllicfcaaDoorCards.lean) ties it to the program's text. -/
def laid_cachetier_wire_nibbles {H : Type} : DataW H := .agg [.lit (.int .u32 0), .lit (.int .u32 274646895), .lit (.int .u32 549293790), .lit (.int .u32 820201905), .lit (.int .u32 1098587580), .lit (.int .u32 1361435347), .lit (.int .u32 1640403810), .lit (.int .u32 1905808397), .lit (.int .u32 2197175160), .lit (.int .u32 2460548119), .lit (.int .u32 2722870694), .lit (.int .u32 2987750089), .lit (.int .u32 3280807620), .lit (.int .u32 3553878443), .lit (.int .u32 3811616794), .lit (.int .u32 4084100981)]

/-- 'cachetierlaw21.SessionMatchesReference': WHATEVER THE INPUT: true; the input reads as it did. -/
def sessionMatchesReferenceSpec : ChangeSpec := { name := "sessionMatchesReference", fn := fun _ => fun
  | [d] => { results := [.lit (.bool true)], args := [d] }
  | _ => none }
def sessionMatchesReferenceRow : OpenClaim := { program := "ytejehdmllicfcaadoor", sum := "73ecef5a0e8429a351c6c13505c7950ecf5aec85898698d98393a29562116580", func := "cachetier/cachetierlaw21.SessionMatchesReference", spec := "sessionMatchesReference", unfollowed := true, recurses := true, named := ["cachetier/wire.nibbles"], apart := false, laid := [("cachetier/wire.nibbles", laid_cachetier_wire_nibbles)] }
def SessionMatchesReferenceSaid : Prop := sessionMatchesReferenceRow.holds Tryd.pinned (OpenSpec.ofChange sessionMatchesReferenceSpec)

/-- ITS FALSE NEIGHBOUR: 'it returns false'. Refute it at one input. -/
def sessionMatchesReferenceWrong : ChangeSpec := { name := "sessionMatchesReference", fn := fun _ => fun
  | [d] => { results := [.lit (.bool false)], args := [d] }
  | _ => none }
def SessionMatchesReferenceWrongFalsely : Prop := sessionMatchesReferenceRow.holds Tryd.pinned (OpenSpec.ofChange sessionMatchesReferenceWrong)

/-- 'cachetierlaw21.SessionDecodeMatchesReference': WHATEVER THE INPUT: true; the input reads as it did. -/
def sessionDecodeMatchesReferenceSpec : ChangeSpec := { name := "sessionDecodeMatchesReference", fn := fun _ => fun
  | [d1, d2] => { results := [.lit (.bool true)], args := [d1, d2] }
  | _ => none }
def sessionDecodeMatchesReferenceRow : OpenClaim := { program := "ytejehdmllicfcaadoor", sum := "73ecef5a0e8429a351c6c13505c7950ecf5aec85898698d98393a29562116580", func := "cachetier/cachetierlaw21.SessionDecodeMatchesReference", spec := "sessionDecodeMatchesReference", unfollowed := true, recurses := true, named := ["cachetier/wire.nibbles"], apart := false, laid := [("cachetier/wire.nibbles", laid_cachetier_wire_nibbles)] }
def SessionDecodeMatchesReferenceSaid : Prop := sessionDecodeMatchesReferenceRow.holds Tryd.pinned (OpenSpec.ofChange sessionDecodeMatchesReferenceSpec)

/-- ITS FALSE NEIGHBOUR: 'it returns false'. Refute it at one input. -/
def sessionDecodeMatchesReferenceWrong : ChangeSpec := { name := "sessionDecodeMatchesReference", fn := fun _ => fun
  | [d1, d2] => { results := [.lit (.bool false)], args := [d1, d2] }
  | _ => none }
def SessionDecodeMatchesReferenceWrongFalsely : Prop := sessionDecodeMatchesReferenceRow.holds Tryd.pinned (OpenSpec.ofChange sessionDecodeMatchesReferenceWrong)

/-- 'cachetierlaw21.SessionMonotonic': WHATEVER THE INPUT: true; the input reads as it did. -/
def sessionMonotonicSpec : ChangeSpec := { name := "sessionMonotonic", fn := fun _ => fun
  | [d] => { results := [.lit (.bool true)], args := [d] }
  | _ => none }
def sessionMonotonicRow : OpenClaim := { program := "ytejehdmllicfcaadoor", sum := "73ecef5a0e8429a351c6c13505c7950ecf5aec85898698d98393a29562116580", func := "cachetier/cachetierlaw21.SessionMonotonic", spec := "sessionMonotonic", unfollowed := true, recurses := true, named := ["cachetier/wire.nibbles"], apart := false, laid := [("cachetier/wire.nibbles", laid_cachetier_wire_nibbles)] }
def SessionMonotonicSaid : Prop := sessionMonotonicRow.holds Tryd.pinned (OpenSpec.ofChange sessionMonotonicSpec)

/-- ITS FALSE NEIGHBOUR: 'it returns false'. Refute it at one input. -/
def sessionMonotonicWrong : ChangeSpec := { name := "sessionMonotonic", fn := fun _ => fun
  | [d] => { results := [.lit (.bool false)], args := [d] }
  | _ => none }
def SessionMonotonicWrongFalsely : Prop := sessionMonotonicRow.holds Tryd.pinned (OpenSpec.ofChange sessionMonotonicWrong)

/-- 'cachetierlaw21.SessionOwnWrites': WHATEVER THE INPUT: true; the input reads as it did. -/
def sessionOwnWritesSpec : ChangeSpec := { name := "sessionOwnWrites", fn := fun _ => fun
  | [d1, d2, d3, d4] => { results := [.lit (.bool true)], args := [d1, d2, d3, d4] }
  | _ => none }
def sessionOwnWritesRow : OpenClaim := { program := "ytejehdmllicfcaadoor", sum := "73ecef5a0e8429a351c6c13505c7950ecf5aec85898698d98393a29562116580", func := "cachetier/cachetierlaw21.SessionOwnWrites", spec := "sessionOwnWrites", unfollowed := true, recurses := true, named := ["cachetier/wire.nibbles"], apart := false, laid := [("cachetier/wire.nibbles", laid_cachetier_wire_nibbles)] }
def SessionOwnWritesSaid : Prop := sessionOwnWritesRow.holds Tryd.pinned (OpenSpec.ofChange sessionOwnWritesSpec)

/-- ITS FALSE NEIGHBOUR: 'it returns false'. Refute it at one input. -/
def sessionOwnWritesWrong : ChangeSpec := { name := "sessionOwnWrites", fn := fun _ => fun
  | [d1, d2, d3, d4] => { results := [.lit (.bool false)], args := [d1, d2, d3, d4] }
  | _ => none }
def SessionOwnWritesWrongFalsely : Prop := sessionOwnWritesRow.holds Tryd.pinned (OpenSpec.ofChange sessionOwnWritesWrong)

/-- 'cachetierlaw21.SessionLeast': WHATEVER THE INPUT: true; the input reads as it did. -/
def sessionLeastSpec : ChangeSpec := { name := "sessionLeast", fn := fun _ => fun
  | [d1, d2, d3] => { results := [.lit (.bool true)], args := [d1, d2, d3] }
  | _ => none }
def sessionLeastRow : OpenClaim := { program := "ytejehdmllicfcaadoor", sum := "73ecef5a0e8429a351c6c13505c7950ecf5aec85898698d98393a29562116580", func := "cachetier/cachetierlaw21.SessionLeast", spec := "sessionLeast", unfollowed := true, recurses := true, named := ["cachetier/wire.nibbles"], apart := false, laid := [("cachetier/wire.nibbles", laid_cachetier_wire_nibbles)] }
def SessionLeastSaid : Prop := sessionLeastRow.holds Tryd.pinned (OpenSpec.ofChange sessionLeastSpec)

/-- ITS FALSE NEIGHBOUR: 'it returns false'. Refute it at one input. -/
def sessionLeastWrong : ChangeSpec := { name := "sessionLeast", fn := fun _ => fun
  | [d1, d2, d3] => { results := [.lit (.bool false)], args := [d1, d2, d3] }
  | _ => none }
def SessionLeastWrongFalsely : Prop := sessionLeastRow.holds Tryd.pinned (OpenSpec.ofChange sessionLeastWrong)

/-- 'cachetierlaw21.SessionMerges': WHATEVER THE INPUT: true; the input reads as it did. -/
def sessionMergesSpec : ChangeSpec := { name := "sessionMerges", fn := fun _ => fun
  | [d1, d2, d3, d4, d5] => { results := [.lit (.bool true)], args := [d1, d2, d3, d4, d5] }
  | _ => none }
def sessionMergesRow : OpenClaim := { program := "ytejehdmllicfcaadoor", sum := "73ecef5a0e8429a351c6c13505c7950ecf5aec85898698d98393a29562116580", func := "cachetier/cachetierlaw21.SessionMerges", spec := "sessionMerges", unfollowed := true, recurses := true, named := ["cachetier/wire.nibbles"], apart := false, laid := [("cachetier/wire.nibbles", laid_cachetier_wire_nibbles)] }
def SessionMergesSaid : Prop := sessionMergesRow.holds Tryd.pinned (OpenSpec.ofChange sessionMergesSpec)

/-- ITS FALSE NEIGHBOUR: 'it returns false'. Refute it at one input. -/
def sessionMergesWrong : ChangeSpec := { name := "sessionMerges", fn := fun _ => fun
  | [d1, d2, d3, d4, d5] => { results := [.lit (.bool false)], args := [d1, d2, d3, d4, d5] }
  | _ => none }
def SessionMergesWrongFalsely : Prop := sessionMergesRow.holds Tryd.pinned (OpenSpec.ofChange sessionMergesWrong)

/-- 'cachetierlaw21.SessionRoundTrip': WHATEVER THE INPUT: true; the input reads as it did. -/
def sessionRoundTripSpec : ChangeSpec := { name := "sessionRoundTrip", fn := fun _ => fun
  | [d1, d2, d3] => { results := [.lit (.bool true)], args := [d1, d2, d3] }
  | _ => none }
def sessionRoundTripRow : OpenClaim := { program := "ytejehdmllicfcaadoor", sum := "73ecef5a0e8429a351c6c13505c7950ecf5aec85898698d98393a29562116580", func := "cachetier/cachetierlaw21.SessionRoundTrip", spec := "sessionRoundTrip", unfollowed := true, recurses := true, named := ["cachetier/wire.nibbles"], apart := false, laid := [("cachetier/wire.nibbles", laid_cachetier_wire_nibbles)] }
def SessionRoundTripSaid : Prop := sessionRoundTripRow.holds Tryd.pinned (OpenSpec.ofChange sessionRoundTripSpec)

/-- ITS FALSE NEIGHBOUR: 'it returns false'. Refute it at one input. -/
def sessionRoundTripWrong : ChangeSpec := { name := "sessionRoundTrip", fn := fun _ => fun
  | [d1, d2, d3] => { results := [.lit (.bool false)], args := [d1, d2, d3] }
  | _ => none }
def SessionRoundTripWrongFalsely : Prop := sessionRoundTripRow.holds Tryd.pinned (OpenSpec.ofChange sessionRoundTripWrong)

/- THE SECOND FORM. 'bulk': how many values and letters a reading holds, each counted each time it is reached (what is shared counts as often as it is met; a slice's spare places count too). A statement '..UptoSaid' is the law's where the arguments, and the package variables that the reading takes, are together of bulk at most 1048576: NARROWER than '..Said'. Prove '..Said' where nothing that the law and all that it calls make is longer than what came in: it says more and counts as full. Else prove '..UptoSaid'. A law counts once. -/
mutual
def uptoBulk {H : Type} : DataW H → Nat
  | .lit (.string bytes) => bytes.length + 1
  | .lit _ => 1
  | .nil => 1
  | .ptr d => uptoBulk d + 1
  | .slice elems spare => uptoBulkAll elems + uptoBulkAll spare + 1
  | .agg parts => uptoBulkAll parts + 1
  | .iface _ d => uptoBulk d + 1
  | .map entries => uptoBulkEntries entries + 1
  | .held _ => 1
def uptoBulkAll {H : Type} : List (DataW H) → Nat
  | [] => 0
  | d :: r => uptoBulk d + uptoBulkAll r
def uptoBulkEntries {H : Type} : List (Lit × DataW H) → Nat
  | [] => 0
  | x :: r => uptoBulkEntry x + uptoBulkEntries r
def uptoBulkEntry {H : Type} : Lit × DataW H → Nat
  | (.string bytes, d) => bytes.length + uptoBulk d + 1
  | (_, d) => uptoBulk d + 1
 end
def uptoSmall : (H : Type) → List (DataW H) → Bool := fun _ ds => decide (uptoBulkAll ds ≤ 1048576)
def OpenSpec.upto (s : _root_.Go.ChangeSpec) : _root_.Go.OpenSpec := { _root_.Go.OpenSpec.ofChange s with cond := some uptoSmall }

/-- 'cachetierlaw21.SessionMatchesReference', WHERE WHAT IT READS IS OF BULK AT MOST 1048576: true; the input reads as it did. -/
def sessionMatchesReferenceUptoRow : OpenClaim := { program := "ytejehdmllicfcaadoor", sum := "73ecef5a0e8429a351c6c13505c7950ecf5aec85898698d98393a29562116580", func := "cachetier/cachetierlaw21.SessionMatchesReference", spec := "sessionMatchesReference", unfollowed := true, recurses := true, named := ["cachetier/wire.nibbles"], apart := false, laid := [("cachetier/wire.nibbles", laid_cachetier_wire_nibbles)], narrowed := true }
def SessionMatchesReferenceUptoSaid : Prop := sessionMatchesReferenceUptoRow.holds Tryd.pinned (OpenSpec.upto sessionMatchesReferenceSpec)

/-- 'cachetierlaw21.SessionDecodeMatchesReference', WHERE WHAT IT READS IS OF BULK AT MOST 1048576: true; the input reads as it did. -/
def sessionDecodeMatchesReferenceUptoRow : OpenClaim := { program := "ytejehdmllicfcaadoor", sum := "73ecef5a0e8429a351c6c13505c7950ecf5aec85898698d98393a29562116580", func := "cachetier/cachetierlaw21.SessionDecodeMatchesReference", spec := "sessionDecodeMatchesReference", unfollowed := true, recurses := true, named := ["cachetier/wire.nibbles"], apart := false, laid := [("cachetier/wire.nibbles", laid_cachetier_wire_nibbles)], narrowed := true }
def SessionDecodeMatchesReferenceUptoSaid : Prop := sessionDecodeMatchesReferenceUptoRow.holds Tryd.pinned (OpenSpec.upto sessionDecodeMatchesReferenceSpec)

/-- 'cachetierlaw21.SessionMonotonic', WHERE WHAT IT READS IS OF BULK AT MOST 1048576: true; the input reads as it did. -/
def sessionMonotonicUptoRow : OpenClaim := { program := "ytejehdmllicfcaadoor", sum := "73ecef5a0e8429a351c6c13505c7950ecf5aec85898698d98393a29562116580", func := "cachetier/cachetierlaw21.SessionMonotonic", spec := "sessionMonotonic", unfollowed := true, recurses := true, named := ["cachetier/wire.nibbles"], apart := false, laid := [("cachetier/wire.nibbles", laid_cachetier_wire_nibbles)], narrowed := true }
def SessionMonotonicUptoSaid : Prop := sessionMonotonicUptoRow.holds Tryd.pinned (OpenSpec.upto sessionMonotonicSpec)

/-- 'cachetierlaw21.SessionOwnWrites', WHERE WHAT IT READS IS OF BULK AT MOST 1048576: true; the input reads as it did. -/
def sessionOwnWritesUptoRow : OpenClaim := { program := "ytejehdmllicfcaadoor", sum := "73ecef5a0e8429a351c6c13505c7950ecf5aec85898698d98393a29562116580", func := "cachetier/cachetierlaw21.SessionOwnWrites", spec := "sessionOwnWrites", unfollowed := true, recurses := true, named := ["cachetier/wire.nibbles"], apart := false, laid := [("cachetier/wire.nibbles", laid_cachetier_wire_nibbles)], narrowed := true }
def SessionOwnWritesUptoSaid : Prop := sessionOwnWritesUptoRow.holds Tryd.pinned (OpenSpec.upto sessionOwnWritesSpec)

/-- 'cachetierlaw21.SessionLeast', WHERE WHAT IT READS IS OF BULK AT MOST 1048576: true; the input reads as it did. -/
def sessionLeastUptoRow : OpenClaim := { program := "ytejehdmllicfcaadoor", sum := "73ecef5a0e8429a351c6c13505c7950ecf5aec85898698d98393a29562116580", func := "cachetier/cachetierlaw21.SessionLeast", spec := "sessionLeast", unfollowed := true, recurses := true, named := ["cachetier/wire.nibbles"], apart := false, laid := [("cachetier/wire.nibbles", laid_cachetier_wire_nibbles)], narrowed := true }
def SessionLeastUptoSaid : Prop := sessionLeastUptoRow.holds Tryd.pinned (OpenSpec.upto sessionLeastSpec)

/-- 'cachetierlaw21.SessionMerges', WHERE WHAT IT READS IS OF BULK AT MOST 1048576: true; the input reads as it did. -/
def sessionMergesUptoRow : OpenClaim := { program := "ytejehdmllicfcaadoor", sum := "73ecef5a0e8429a351c6c13505c7950ecf5aec85898698d98393a29562116580", func := "cachetier/cachetierlaw21.SessionMerges", spec := "sessionMerges", unfollowed := true, recurses := true, named := ["cachetier/wire.nibbles"], apart := false, laid := [("cachetier/wire.nibbles", laid_cachetier_wire_nibbles)], narrowed := true }
def SessionMergesUptoSaid : Prop := sessionMergesUptoRow.holds Tryd.pinned (OpenSpec.upto sessionMergesSpec)

/-- 'cachetierlaw21.SessionRoundTrip', WHERE WHAT IT READS IS OF BULK AT MOST 1048576: true; the input reads as it did. -/
def sessionRoundTripUptoRow : OpenClaim := { program := "ytejehdmllicfcaadoor", sum := "73ecef5a0e8429a351c6c13505c7950ecf5aec85898698d98393a29562116580", func := "cachetier/cachetierlaw21.SessionRoundTrip", spec := "sessionRoundTrip", unfollowed := true, recurses := true, named := ["cachetier/wire.nibbles"], apart := false, laid := [("cachetier/wire.nibbles", laid_cachetier_wire_nibbles)], narrowed := true }
def SessionRoundTripUptoSaid : Prop := sessionRoundTripUptoRow.holds Tryd.pinned (OpenSpec.upto sessionRoundTripSpec)

end Rows
end Go.Proofs.YtejehdmllicfcaaDoor
