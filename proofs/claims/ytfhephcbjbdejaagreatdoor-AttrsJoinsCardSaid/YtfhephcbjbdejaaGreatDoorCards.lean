/-
  DERIVED. GIVEN WITH THE SEED: THE CARDS: each row of YtfhephcbjbdejaaGreatDoorRows.lean that lists a variable, with what it lists TIED to the program's text (the seventh form; the later family's looks); each row that meets fmt, with fmt's text TOLD by the authors' own Lean function (tested against real Go, not proved from fmt's source: count such statements apart). THE CARD IS WHAT COUNTS. Prove the row's statement (the work); the ties are given (YtfhephcbjbdejaaGreatDoorTie.lean); close each card by the builder's one call (the guide's Derived/Test/ToyasCard.lean, 'card_holds'). Laid BY PROGRAM, IN A SANDBOX (cutbox-door.mjs). By AI agents, Wed Nov 11 2026. No macro, syntax, notation, axiom, sorry.
-/
import Derived.Test.YtfhephcbjbdejaaGreatDoorRows
import GoSem.ClaimSeven
namespace Go.Proofs.YtfhephcbjbdejaaGreatDoor
namespace Rows

/-- THE TIED CARD OF 'layoutlaw10.AttrsMerges'. -/
def attrsMergesCard : Claim7 := { stood := { row := attrsMergesRow, standIns := [], harness := (true, "8fac6f5c8be0bc90db8e7664320af583c6761494b92cc87b2f710e93f18905d8"), looks := true }, kinds := [], alts := [], laidByText := true, laidKinds := [.data, .data, .data, .data, .sentinel, .sentinel, .pinned], laidTests := true, laidLooks := .later }
def AttrsMergesCardSaid : Prop := Claim7.holds Tryz.pinned (.plain (OpenSpec.ofChange attrsMergesSpec)) attrsMergesCard

/-- THE TIED CARD OF 'layoutlaw10.AttrsNumbers'. -/
def attrsNumbersCard : Claim7 := { stood := { row := attrsNumbersRow, standIns := [], harness := (true, "8fac6f5c8be0bc90db8e7664320af583c6761494b92cc87b2f710e93f18905d8"), looks := true }, kinds := [], alts := [], laidByText := true, laidKinds := [.data, .data, .data, .data, .sentinel, .sentinel, .pinned], laidTests := true, laidLooks := .later }
def AttrsNumbersCardSaid : Prop := Claim7.holds Tryz.pinned (.plain (OpenSpec.ofChange attrsNumbersSpec)) attrsNumbersCard

/-- THE TIED CARD OF 'layoutlaw10.AttrsPorts'. -/
def attrsPortsCard : Claim7 := { stood := { row := attrsPortsRow, standIns := [], harness := (true, "8fac6f5c8be0bc90db8e7664320af583c6761494b92cc87b2f710e93f18905d8"), looks := true }, kinds := [], alts := [], laidByText := true, laidKinds := [.data, .data, .data, .data, .sentinel, .sentinel, .pinned], laidTests := true, laidLooks := .later }
def AttrsPortsCardSaid : Prop := Claim7.holds Tryz.pinned (.plain (OpenSpec.ofChange attrsPortsSpec)) attrsPortsCard

/-- THE TIED CARD OF 'layoutlaw10.AttrsJoins'. -/
def attrsJoinsCard : Claim7 := { stood := { row := attrsJoinsRow, standIns := [], harness := (true, "8fac6f5c8be0bc90db8e7664320af583c6761494b92cc87b2f710e93f18905d8"), looks := true }, kinds := [], alts := [], laidByText := true, laidKinds := [.data, .data, .data, .data, .sentinel, .sentinel, .pinned], laidTests := true, laidLooks := .later }
def AttrsJoinsCardSaid : Prop := Claim7.holds Tryz.pinned (.plain (OpenSpec.ofChange attrsJoinsSpec)) attrsJoinsCard

/-- THE TIED CARD OF 'layoutlaw10.AttrsAccepted'. -/
def attrsAcceptedCard : Claim7 := { stood := { row := attrsAcceptedRow, standIns := [], harness := (true, "8fac6f5c8be0bc90db8e7664320af583c6761494b92cc87b2f710e93f18905d8"), looks := true }, kinds := [], alts := [], laidByText := true, laidKinds := [.data, .data, .data, .data, .sentinel, .sentinel, .pinned], laidTests := true, laidLooks := .later }
def AttrsAcceptedCardSaid : Prop := Claim7.holds Tryz.pinned (.plain (OpenSpec.ofChange attrsAcceptedSpec)) attrsAcceptedCard

/-- THE TIED CARD OF 'layoutlaw10.AttrsChecks'. -/
def attrsChecksCard : Claim7 := { stood := { row := attrsChecksRow, standIns := [], harness := (true, "8fac6f5c8be0bc90db8e7664320af583c6761494b92cc87b2f710e93f18905d8"), looks := true }, kinds := [], alts := [], laidByText := true, laidKinds := [.data, .data, .data, .data, .sentinel, .sentinel, .pinned], laidTests := true, laidLooks := .later }
def AttrsChecksCardSaid : Prop := Claim7.holds Tryz.pinned (.plain (OpenSpec.ofChange attrsChecksSpec)) attrsChecksCard

/-- THE SECOND FORM's CARD OF 'layoutlaw10.AttrsMerges'. -/
def attrsMergesUptoCard : Claim7 := { stood := { row := attrsMergesUptoRow, standIns := [], harness := (true, "8fac6f5c8be0bc90db8e7664320af583c6761494b92cc87b2f710e93f18905d8"), looks := true }, kinds := [], alts := [], laidByText := true, laidKinds := [.data, .data, .data, .data, .sentinel, .sentinel, .pinned], laidTests := true, laidLooks := .later }
def AttrsMergesUptoCardSaid : Prop := Claim7.holds Tryz.pinned (.plain (OpenSpec.upto attrsMergesSpec)) attrsMergesUptoCard

/-- THE SECOND FORM's CARD OF 'layoutlaw10.AttrsNumbers'. -/
def attrsNumbersUptoCard : Claim7 := { stood := { row := attrsNumbersUptoRow, standIns := [], harness := (true, "8fac6f5c8be0bc90db8e7664320af583c6761494b92cc87b2f710e93f18905d8"), looks := true }, kinds := [], alts := [], laidByText := true, laidKinds := [.data, .data, .data, .data, .sentinel, .sentinel, .pinned], laidTests := true, laidLooks := .later }
def AttrsNumbersUptoCardSaid : Prop := Claim7.holds Tryz.pinned (.plain (OpenSpec.upto attrsNumbersSpec)) attrsNumbersUptoCard

/-- THE SECOND FORM's CARD OF 'layoutlaw10.AttrsPorts'. -/
def attrsPortsUptoCard : Claim7 := { stood := { row := attrsPortsUptoRow, standIns := [], harness := (true, "8fac6f5c8be0bc90db8e7664320af583c6761494b92cc87b2f710e93f18905d8"), looks := true }, kinds := [], alts := [], laidByText := true, laidKinds := [.data, .data, .data, .data, .sentinel, .sentinel, .pinned], laidTests := true, laidLooks := .later }
def AttrsPortsUptoCardSaid : Prop := Claim7.holds Tryz.pinned (.plain (OpenSpec.upto attrsPortsSpec)) attrsPortsUptoCard

/-- THE SECOND FORM's CARD OF 'layoutlaw10.AttrsJoins'. -/
def attrsJoinsUptoCard : Claim7 := { stood := { row := attrsJoinsUptoRow, standIns := [], harness := (true, "8fac6f5c8be0bc90db8e7664320af583c6761494b92cc87b2f710e93f18905d8"), looks := true }, kinds := [], alts := [], laidByText := true, laidKinds := [.data, .data, .data, .data, .sentinel, .sentinel, .pinned], laidTests := true, laidLooks := .later }
def AttrsJoinsUptoCardSaid : Prop := Claim7.holds Tryz.pinned (.plain (OpenSpec.upto attrsJoinsSpec)) attrsJoinsUptoCard

/-- THE SECOND FORM's CARD OF 'layoutlaw10.AttrsAccepted'. -/
def attrsAcceptedUptoCard : Claim7 := { stood := { row := attrsAcceptedUptoRow, standIns := [], harness := (true, "8fac6f5c8be0bc90db8e7664320af583c6761494b92cc87b2f710e93f18905d8"), looks := true }, kinds := [], alts := [], laidByText := true, laidKinds := [.data, .data, .data, .data, .sentinel, .sentinel, .pinned], laidTests := true, laidLooks := .later }
def AttrsAcceptedUptoCardSaid : Prop := Claim7.holds Tryz.pinned (.plain (OpenSpec.upto attrsAcceptedSpec)) attrsAcceptedUptoCard

/-- THE SECOND FORM's CARD OF 'layoutlaw10.AttrsChecks'. -/
def attrsChecksUptoCard : Claim7 := { stood := { row := attrsChecksUptoRow, standIns := [], harness := (true, "8fac6f5c8be0bc90db8e7664320af583c6761494b92cc87b2f710e93f18905d8"), looks := true }, kinds := [], alts := [], laidByText := true, laidKinds := [.data, .data, .data, .data, .sentinel, .sentinel, .pinned], laidTests := true, laidLooks := .later }
def AttrsChecksUptoCardSaid : Prop := Claim7.holds Tryz.pinned (.plain (OpenSpec.upto attrsChecksSpec)) attrsChecksUptoCard
end Rows
end Go.Proofs.YtfhephcbjbdejaaGreatDoor
