/-
  DERIVED. GIVEN WITH THE SEED: THE CARDS: each row of YtfnbllchebohcaaGreatDoorRows.lean that lists a variable, with what it lists TIED to the program's text (the seventh form; the later family's looks); each row that meets fmt, with fmt's text TOLD by the authors' own Lean function (tested against real Go, not proved from fmt's source: count such statements apart). THE CARD IS WHAT COUNTS. Prove the row's statement (the work); the ties are given (YtfnbllchebohcaaGreatDoorTie.lean); close each card by the builder's one call (the guide's Derived/Test/ToyasCard.lean, 'card_holds'). Laid BY PROGRAM, IN A SANDBOX (cutbox-door.mjs). By AI agents, Wed Nov 11 2026. No macro, syntax, notation, axiom, sorry.
-/
import Derived.Test.YtfnbllchebohcaaGreatDoorRows
import GoSem.ClaimSeven
namespace Go.Proofs.YtfnbllchebohcaaGreatDoor
namespace Rows

/-- THE TIED CARD OF 'layoutlaw06.LexerQuotes'. -/
def lexerQuotesCard : Claim7 := { stood := { row := lexerQuotesRow, standIns := [], harness := (true, "3e5049314a75cf7bfb71deebd1bf2fc77455915a80b82458035af471a85f4d0c"), looks := true }, kinds := [], alts := [], laidByText := true, laidKinds := [.data, .data, .data, .sentinel, .sentinel], laidTests := true, laidLooks := .later }
def LexerQuotesCardSaid : Prop := Claim7.holds Tryz.pinned (.plain (OpenSpec.ofChange lexerQuotesSpec)) lexerQuotesCard

/-- THE TIED CARD OF 'layoutlaw06.LexerJoins'. -/
def lexerJoinsCard : Claim7 := { stood := { row := lexerJoinsRow, standIns := [], harness := (true, "3e5049314a75cf7bfb71deebd1bf2fc77455915a80b82458035af471a85f4d0c"), looks := true }, kinds := [], alts := [], laidByText := true, laidKinds := [.data, .data, .data, .data, .sentinel, .sentinel, .pinned], laidTests := true, laidLooks := .later }
def LexerJoinsCardSaid : Prop := Claim7.holds Tryz.pinned (.plain (OpenSpec.ofChange lexerJoinsSpec)) lexerJoinsCard

/-- THE TIED CARD OF 'layoutlaw06.LexerJoinRoundTrip'. -/
def lexerJoinRoundTripCard : Claim7 := { stood := { row := lexerJoinRoundTripRow, standIns := [], harness := (true, "3e5049314a75cf7bfb71deebd1bf2fc77455915a80b82458035af471a85f4d0c"), looks := true }, kinds := [], alts := [], laidByText := true, laidKinds := [.data, .data, .data, .data, .sentinel, .sentinel, .pinned], laidTests := true, laidLooks := .later }
def LexerJoinRoundTripCardSaid : Prop := Claim7.holds Tryz.pinned (.plain (OpenSpec.ofChange lexerJoinRoundTripSpec)) lexerJoinRoundTripCard

/-- THE SECOND FORM's CARD OF 'layoutlaw06.LexerQuotes'. -/
def lexerQuotesUptoCard : Claim7 := { stood := { row := lexerQuotesUptoRow, standIns := [], harness := (true, "3e5049314a75cf7bfb71deebd1bf2fc77455915a80b82458035af471a85f4d0c"), looks := true }, kinds := [], alts := [], laidByText := true, laidKinds := [.data, .data, .data, .sentinel, .sentinel], laidTests := true, laidLooks := .later }
def LexerQuotesUptoCardSaid : Prop := Claim7.holds Tryz.pinned (.plain (OpenSpec.upto lexerQuotesSpec)) lexerQuotesUptoCard

/-- THE SECOND FORM's CARD OF 'layoutlaw06.LexerJoins'. -/
def lexerJoinsUptoCard : Claim7 := { stood := { row := lexerJoinsUptoRow, standIns := [], harness := (true, "3e5049314a75cf7bfb71deebd1bf2fc77455915a80b82458035af471a85f4d0c"), looks := true }, kinds := [], alts := [], laidByText := true, laidKinds := [.data, .data, .data, .data, .sentinel, .sentinel, .pinned], laidTests := true, laidLooks := .later }
def LexerJoinsUptoCardSaid : Prop := Claim7.holds Tryz.pinned (.plain (OpenSpec.upto lexerJoinsSpec)) lexerJoinsUptoCard

/-- THE SECOND FORM's CARD OF 'layoutlaw06.LexerJoinRoundTrip'. -/
def lexerJoinRoundTripUptoCard : Claim7 := { stood := { row := lexerJoinRoundTripUptoRow, standIns := [], harness := (true, "3e5049314a75cf7bfb71deebd1bf2fc77455915a80b82458035af471a85f4d0c"), looks := true }, kinds := [], alts := [], laidByText := true, laidKinds := [.data, .data, .data, .data, .sentinel, .sentinel, .pinned], laidTests := true, laidLooks := .later }
def LexerJoinRoundTripUptoCardSaid : Prop := Claim7.holds Tryz.pinned (.plain (OpenSpec.upto lexerJoinRoundTripSpec)) lexerJoinRoundTripUptoCard
end Rows
end Go.Proofs.YtfnbllchebohcaaGreatDoor
