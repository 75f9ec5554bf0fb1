/-
  DERIVED. GIVEN WITH THE SEED: THE CARDS: each row of YthhjemojblaoeaaDoorRows.lean that lists a variable, with what it lists TIED to the program's text (the seventh form; the later family's looks); each row that meets fmt, with fmt's text TOLD by the authors' own Lean function (tested against real Go, not proved from fmt's source: count such statements apart). THE CARD IS WHAT COUNTS. Prove the row's statement (the work); the ties are given (YthhjemojblaoeaaDoorTie.lean); close each card by the builder's one call (the guide's Derived/Test/ToyasCard.lean, 'card_holds'). Laid BY PROGRAM, IN A SANDBOX (cutbox-door.mjs). By AI agents, Wed Nov 11 2026. No macro, syntax, notation, axiom, sorry.
-/
import Derived.Test.YthhjemojblaoeaaDoorRows
import GoSem.ClaimSeven
namespace Go.Proofs.YthhjemojblaoeaaDoor
namespace Rows

/-- THE TIED CARD OF 'layoutlaw01.FixedFormats'. -/
def fixedFormatsCard : Claim7 := { stood := { row := fixedFormatsRow, standIns := [], harness := (true, "9c24ca9614cce7d553eb66328c6e25cf54a4a6adde267d5362eaab737cca5893"), looks := true }, kinds := [], alts := [], laidByText := true, laidKinds := [.data, .data, .data, .data, .sentinel, .sentinel, .pinned], laidTests := true, laidLooks := .later }
def FixedFormatsCardSaid : Prop := Claim7.holds Tryd.pinned (.plain (OpenSpec.ofChange fixedFormatsSpec)) fixedFormatsCard

/-- THE TIED CARD OF 'layoutlaw01.FixedParses'. -/
def fixedParsesCard : Claim7 := { stood := { row := fixedParsesRow, standIns := [], harness := (true, "9c24ca9614cce7d553eb66328c6e25cf54a4a6adde267d5362eaab737cca5893"), looks := true }, kinds := [], alts := [], laidByText := true, laidKinds := [.data, .data, .data, .data, .sentinel, .sentinel, .pinned], laidTests := true, laidLooks := .later }
def FixedParsesCardSaid : Prop := Claim7.holds Tryd.pinned (.plain (OpenSpec.ofChange fixedParsesSpec)) fixedParsesCard

/-- THE TIED CARD OF 'layoutlaw01.FixedExact'. -/
def fixedExactCard : Claim7 := { stood := { row := fixedExactRow, standIns := [], harness := (true, "9c24ca9614cce7d553eb66328c6e25cf54a4a6adde267d5362eaab737cca5893"), looks := true }, kinds := [], alts := [], laidByText := true, laidKinds := [.data, .data, .data, .data, .sentinel, .sentinel, .pinned], laidTests := true, laidLooks := .later }
def FixedExactCardSaid : Prop := Claim7.holds Tryd.pinned (.plain (OpenSpec.ofChange fixedExactSpec)) fixedExactCard

/-- THE TIED CARD OF 'layoutlaw01.FixedComputes'. -/
def fixedComputesCard : Claim7 := { stood := { row := fixedComputesRow, standIns := [], harness := (true, "9c24ca9614cce7d553eb66328c6e25cf54a4a6adde267d5362eaab737cca5893"), looks := true }, kinds := [], alts := [], laidByText := true, laidKinds := [.data, .data, .data, .data, .sentinel, .sentinel, .pinned], laidTests := true, laidLooks := .later }
def FixedComputesCardSaid : Prop := Claim7.holds Tryd.pinned (.plain (OpenSpec.ofChange fixedComputesSpec)) fixedComputesCard

/-- THE TIED CARD OF 'layoutlaw01.FixedProducts'. -/
def fixedProductsCard : Claim7 := { stood := { row := fixedProductsRow, standIns := [], harness := (true, "9c24ca9614cce7d553eb66328c6e25cf54a4a6adde267d5362eaab737cca5893"), looks := true }, kinds := [], alts := [], laidByText := true, laidKinds := [.data, .data, .data, .data, .sentinel, .sentinel, .pinned], laidTests := true, laidLooks := .later }
def FixedProductsCardSaid : Prop := Claim7.holds Tryd.pinned (.plain (OpenSpec.ofChange fixedProductsSpec)) fixedProductsCard

/-- THE TIED CARD OF 'layoutlaw01.FixedRoots'. -/
def fixedRootsCard : Claim7 := { stood := { row := fixedRootsRow, standIns := [], harness := (true, "9c24ca9614cce7d553eb66328c6e25cf54a4a6adde267d5362eaab737cca5893"), looks := true }, kinds := [], alts := [], laidByText := true, laidKinds := [.data, .data, .data, .data, .sentinel, .sentinel, .pinned], laidTests := true, laidLooks := .later }
def FixedRootsCardSaid : Prop := Claim7.holds Tryd.pinned (.plain (OpenSpec.ofChange fixedRootsSpec)) fixedRootsCard

/-- THE SECOND FORM's CARD OF 'layoutlaw01.FixedFormats'. -/
def fixedFormatsUptoCard : Claim7 := { stood := { row := fixedFormatsUptoRow, standIns := [], harness := (true, "9c24ca9614cce7d553eb66328c6e25cf54a4a6adde267d5362eaab737cca5893"), looks := true }, kinds := [], alts := [], laidByText := true, laidKinds := [.data, .data, .data, .data, .sentinel, .sentinel, .pinned], laidTests := true, laidLooks := .later }
def FixedFormatsUptoCardSaid : Prop := Claim7.holds Tryd.pinned (.plain (OpenSpec.upto fixedFormatsSpec)) fixedFormatsUptoCard

/-- THE SECOND FORM's CARD OF 'layoutlaw01.FixedParses'. -/
def fixedParsesUptoCard : Claim7 := { stood := { row := fixedParsesUptoRow, standIns := [], harness := (true, "9c24ca9614cce7d553eb66328c6e25cf54a4a6adde267d5362eaab737cca5893"), looks := true }, kinds := [], alts := [], laidByText := true, laidKinds := [.data, .data, .data, .data, .sentinel, .sentinel, .pinned], laidTests := true, laidLooks := .later }
def FixedParsesUptoCardSaid : Prop := Claim7.holds Tryd.pinned (.plain (OpenSpec.upto fixedParsesSpec)) fixedParsesUptoCard

/-- THE SECOND FORM's CARD OF 'layoutlaw01.FixedExact'. -/
def fixedExactUptoCard : Claim7 := { stood := { row := fixedExactUptoRow, standIns := [], harness := (true, "9c24ca9614cce7d553eb66328c6e25cf54a4a6adde267d5362eaab737cca5893"), looks := true }, kinds := [], alts := [], laidByText := true, laidKinds := [.data, .data, .data, .data, .sentinel, .sentinel, .pinned], laidTests := true, laidLooks := .later }
def FixedExactUptoCardSaid : Prop := Claim7.holds Tryd.pinned (.plain (OpenSpec.upto fixedExactSpec)) fixedExactUptoCard

/-- THE SECOND FORM's CARD OF 'layoutlaw01.FixedComputes'. -/
def fixedComputesUptoCard : Claim7 := { stood := { row := fixedComputesUptoRow, standIns := [], harness := (true, "9c24ca9614cce7d553eb66328c6e25cf54a4a6adde267d5362eaab737cca5893"), looks := true }, kinds := [], alts := [], laidByText := true, laidKinds := [.data, .data, .data, .data, .sentinel, .sentinel, .pinned], laidTests := true, laidLooks := .later }
def FixedComputesUptoCardSaid : Prop := Claim7.holds Tryd.pinned (.plain (OpenSpec.upto fixedComputesSpec)) fixedComputesUptoCard

/-- THE SECOND FORM's CARD OF 'layoutlaw01.FixedProducts'. -/
def fixedProductsUptoCard : Claim7 := { stood := { row := fixedProductsUptoRow, standIns := [], harness := (true, "9c24ca9614cce7d553eb66328c6e25cf54a4a6adde267d5362eaab737cca5893"), looks := true }, kinds := [], alts := [], laidByText := true, laidKinds := [.data, .data, .data, .data, .sentinel, .sentinel, .pinned], laidTests := true, laidLooks := .later }
def FixedProductsUptoCardSaid : Prop := Claim7.holds Tryd.pinned (.plain (OpenSpec.upto fixedProductsSpec)) fixedProductsUptoCard

/-- THE SECOND FORM's CARD OF 'layoutlaw01.FixedRoots'. -/
def fixedRootsUptoCard : Claim7 := { stood := { row := fixedRootsUptoRow, standIns := [], harness := (true, "9c24ca9614cce7d553eb66328c6e25cf54a4a6adde267d5362eaab737cca5893"), looks := true }, kinds := [], alts := [], laidByText := true, laidKinds := [.data, .data, .data, .data, .sentinel, .sentinel, .pinned], laidTests := true, laidLooks := .later }
def FixedRootsUptoCardSaid : Prop := Claim7.holds Tryd.pinned (.plain (OpenSpec.upto fixedRootsSpec)) fixedRootsUptoCard
end Rows
end Go.Proofs.YthhjemojblaoeaaDoor
