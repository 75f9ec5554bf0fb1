/-
  DERIVED. GIVEN WITH THE SEED: THE CARDS: each row of YtmallladeidkpaaGreatDoorRows.lean that lists a variable, with what it lists TIED to the program's text (the seventh form; the later family's looks); each row that meets fmt, with fmt's text TOLD by the authors' own Lean function (tested against real Go, not proved from fmt's source: count such statements apart). THE CARD IS WHAT COUNTS. Prove the row's statement (the work); the ties are given (YtmallladeidkpaaGreatDoorTie.lean); close each card by the builder's one call (the guide's Derived/Test/ToyasCard.lean, 'card_holds'). Laid BY PROGRAM, IN A SANDBOX (cutbox-door.mjs). By AI agents, Wed Nov 11 2026. No macro, syntax, notation, axiom, sorry.
-/
import Derived.Test.YtmallladeidkpaaGreatDoorRows
import GoSem.ClaimSeven
namespace Go.Proofs.YtmallladeidkpaaGreatDoor
namespace Rows

/-- THE TIED CARD OF 'layoutlaw09.ParserRoundTrips'. -/
def parserRoundTripsCard : Claim7 := { stood := { row := parserRoundTripsRow, standIns := [], harness := (true, "f1d2b421aa195416cf634560a75799e20d2942cbed760a5a48945ef8e22c3daf"), looks := true }, kinds := [], alts := [], laidByText := true, laidKinds := [.data, .data, .data, .data, .sentinel, .sentinel, .pinned], laidTests := true, laidLooks := .later }
def ParserRoundTripsCardSaid : Prop := Claim7.holds Tryz.pinned (.plain (OpenSpec.ofChange parserRoundTripsSpec)) parserRoundTripsCard

/-- THE TIED CARD OF 'layoutlaw09.ParserValid'. -/
def parserValidCard : Claim7 := { stood := { row := parserValidRow, standIns := [], harness := (true, "f1d2b421aa195416cf634560a75799e20d2942cbed760a5a48945ef8e22c3daf"), looks := true }, kinds := [], alts := [], laidByText := true, laidKinds := [.data, .data, .data, .data, .sentinel, .sentinel, .pinned], laidTests := true, laidLooks := .later }
def ParserValidCardSaid : Prop := Claim7.holds Tryz.pinned (.plain (OpenSpec.ofChange parserValidSpec)) parserValidCard

/-- THE TIED CARD OF 'layoutlaw09.ParserLists'. -/
def parserListsCard : Claim7 := { stood := { row := parserListsRow, standIns := [], harness := (true, "f1d2b421aa195416cf634560a75799e20d2942cbed760a5a48945ef8e22c3daf"), looks := true }, kinds := [], alts := [], laidByText := true, laidKinds := [.data, .data, .data, .data, .sentinel, .sentinel, .pinned], laidTests := true, laidLooks := .later }
def ParserListsCardSaid : Prop := Claim7.holds Tryz.pinned (.plain (OpenSpec.ofChange parserListsSpec)) parserListsCard

/-- THE SECOND FORM's CARD OF 'layoutlaw09.ParserRoundTrips'. -/
def parserRoundTripsUptoCard : Claim7 := { stood := { row := parserRoundTripsUptoRow, standIns := [], harness := (true, "f1d2b421aa195416cf634560a75799e20d2942cbed760a5a48945ef8e22c3daf"), looks := true }, kinds := [], alts := [], laidByText := true, laidKinds := [.data, .data, .data, .data, .sentinel, .sentinel, .pinned], laidTests := true, laidLooks := .later }
def ParserRoundTripsUptoCardSaid : Prop := Claim7.holds Tryz.pinned (.plain (OpenSpec.upto parserRoundTripsSpec)) parserRoundTripsUptoCard

/-- THE SECOND FORM's CARD OF 'layoutlaw09.ParserValid'. -/
def parserValidUptoCard : Claim7 := { stood := { row := parserValidUptoRow, standIns := [], harness := (true, "f1d2b421aa195416cf634560a75799e20d2942cbed760a5a48945ef8e22c3daf"), looks := true }, kinds := [], alts := [], laidByText := true, laidKinds := [.data, .data, .data, .data, .sentinel, .sentinel, .pinned], laidTests := true, laidLooks := .later }
def ParserValidUptoCardSaid : Prop := Claim7.holds Tryz.pinned (.plain (OpenSpec.upto parserValidSpec)) parserValidUptoCard

/-- THE SECOND FORM's CARD OF 'layoutlaw09.ParserLists'. -/
def parserListsUptoCard : Claim7 := { stood := { row := parserListsUptoRow, standIns := [], harness := (true, "f1d2b421aa195416cf634560a75799e20d2942cbed760a5a48945ef8e22c3daf"), looks := true }, kinds := [], alts := [], laidByText := true, laidKinds := [.data, .data, .data, .data, .sentinel, .sentinel, .pinned], laidTests := true, laidLooks := .later }
def ParserListsUptoCardSaid : Prop := Claim7.holds Tryz.pinned (.plain (OpenSpec.upto parserListsSpec)) parserListsUptoCard
end Rows
end Go.Proofs.YtmallladeidkpaaGreatDoor
