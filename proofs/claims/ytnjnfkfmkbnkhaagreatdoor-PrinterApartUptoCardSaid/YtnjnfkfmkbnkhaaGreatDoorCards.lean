/-
  DERIVED. GIVEN WITH THE SEED: THE CARDS: each row of YtnjnfkfmkbnkhaaGreatDoorRows.lean that lists a variable, with what it lists TIED to the program's text (the seventh form; the later family's looks); each row that meets fmt, with fmt's text TOLD by the authors' own Lean function (tested against real Go, not proved from fmt's source: count such statements apart). THE CARD IS WHAT COUNTS. Prove the row's statement (the work); the ties are given (YtnjnfkfmkbnkhaaGreatDoorTie.lean); close each card by the builder's one call (the guide's Derived/Test/ToyasCard.lean, 'card_holds'). Laid BY PROGRAM, IN A SANDBOX (cutbox-door.mjs). By AI agents, Wed Nov 11 2026. No macro, syntax, notation, axiom, sorry.
-/
import Derived.Test.YtnjnfkfmkbnkhaaGreatDoorRows
import GoSem.ClaimSeven
namespace Go.Proofs.YtnjnfkfmkbnkhaaGreatDoor
namespace Rows

/-- THE TIED CARD OF 'layoutlaw08.PrinterPrints'. -/
def printerPrintsCard : Claim7 := { stood := { row := printerPrintsRow, standIns := [], harness := (true, "d7624dba5ad9ba203820df41b568baa9f94b619a9eabe63f187370ca1d6bee7b"), looks := true }, kinds := [], alts := [], laidByText := true, laidKinds := [.data, .data, .data, .sentinel, .sentinel], laidTests := true, laidLooks := .later }
def PrinterPrintsCardSaid : Prop := Claim7.holds Tryz.pinned (.plain (OpenSpec.ofChange printerPrintsSpec)) printerPrintsCard

/-- THE TIED CARD OF 'layoutlaw08.PrinterAttrs'. -/
def printerAttrsCard : Claim7 := { stood := { row := printerAttrsRow, standIns := [], harness := (true, "d7624dba5ad9ba203820df41b568baa9f94b619a9eabe63f187370ca1d6bee7b"), looks := true }, kinds := [], alts := [], laidByText := true, laidKinds := [.data, .data, .data, .sentinel, .sentinel], laidTests := true, laidLooks := .later }
def PrinterAttrsCardSaid : Prop := Claim7.holds Tryz.pinned (.plain (OpenSpec.ofChange printerAttrsSpec)) printerAttrsCard

/-- THE TIED CARD OF 'layoutlaw08.PrinterApart'. -/
def printerApartCard : Claim7 := { stood := { row := printerApartRow, standIns := [], harness := (true, "d7624dba5ad9ba203820df41b568baa9f94b619a9eabe63f187370ca1d6bee7b"), looks := true }, kinds := [], alts := [], laidByText := true, laidKinds := [.data, .data, .data, .sentinel, .sentinel], laidTests := true, laidLooks := .later }
def PrinterApartCardSaid : Prop := Claim7.holds Tryz.pinned (.plain (OpenSpec.ofChange printerApartSpec)) printerApartCard

/-- THE TIED CARD OF 'layoutlaw08.PrinterTokens'. -/
def printerTokensCard : Claim7 := { stood := { row := printerTokensRow, standIns := [], harness := (true, "d7624dba5ad9ba203820df41b568baa9f94b619a9eabe63f187370ca1d6bee7b"), looks := true }, kinds := [], alts := [], laidByText := true, laidKinds := [.data, .data, .data, .sentinel, .sentinel], laidTests := true, laidLooks := .later }
def PrinterTokensCardSaid : Prop := Claim7.holds Tryz.pinned (.plain (OpenSpec.ofChange printerTokensSpec)) printerTokensCard

/-- THE SECOND FORM's CARD OF 'layoutlaw08.PrinterPrints'. -/
def printerPrintsUptoCard : Claim7 := { stood := { row := printerPrintsUptoRow, standIns := [], harness := (true, "d7624dba5ad9ba203820df41b568baa9f94b619a9eabe63f187370ca1d6bee7b"), looks := true }, kinds := [], alts := [], laidByText := true, laidKinds := [.data, .data, .data, .sentinel, .sentinel], laidTests := true, laidLooks := .later }
def PrinterPrintsUptoCardSaid : Prop := Claim7.holds Tryz.pinned (.plain (OpenSpec.upto printerPrintsSpec)) printerPrintsUptoCard

/-- THE SECOND FORM's CARD OF 'layoutlaw08.PrinterAttrs'. -/
def printerAttrsUptoCard : Claim7 := { stood := { row := printerAttrsUptoRow, standIns := [], harness := (true, "d7624dba5ad9ba203820df41b568baa9f94b619a9eabe63f187370ca1d6bee7b"), looks := true }, kinds := [], alts := [], laidByText := true, laidKinds := [.data, .data, .data, .sentinel, .sentinel], laidTests := true, laidLooks := .later }
def PrinterAttrsUptoCardSaid : Prop := Claim7.holds Tryz.pinned (.plain (OpenSpec.upto printerAttrsSpec)) printerAttrsUptoCard

/-- THE SECOND FORM's CARD OF 'layoutlaw08.PrinterApart'. -/
def printerApartUptoCard : Claim7 := { stood := { row := printerApartUptoRow, standIns := [], harness := (true, "d7624dba5ad9ba203820df41b568baa9f94b619a9eabe63f187370ca1d6bee7b"), looks := true }, kinds := [], alts := [], laidByText := true, laidKinds := [.data, .data, .data, .sentinel, .sentinel], laidTests := true, laidLooks := .later }
def PrinterApartUptoCardSaid : Prop := Claim7.holds Tryz.pinned (.plain (OpenSpec.upto printerApartSpec)) printerApartUptoCard

/-- THE SECOND FORM's CARD OF 'layoutlaw08.PrinterTokens'. -/
def printerTokensUptoCard : Claim7 := { stood := { row := printerTokensUptoRow, standIns := [], harness := (true, "d7624dba5ad9ba203820df41b568baa9f94b619a9eabe63f187370ca1d6bee7b"), looks := true }, kinds := [], alts := [], laidByText := true, laidKinds := [.data, .data, .data, .sentinel, .sentinel], laidTests := true, laidLooks := .later }
def PrinterTokensUptoCardSaid : Prop := Claim7.holds Tryz.pinned (.plain (OpenSpec.upto printerTokensSpec)) printerTokensUptoCard
end Rows
end Go.Proofs.YtnjnfkfmkbnkhaaGreatDoor
