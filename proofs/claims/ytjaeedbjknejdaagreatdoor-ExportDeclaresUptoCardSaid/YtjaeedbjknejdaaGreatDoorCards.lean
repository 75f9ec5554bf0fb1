/-
  DERIVED. GIVEN WITH THE SEED: THE CARDS: each row of YtjaeedbjknejdaaGreatDoorRows.lean that lists a variable, with what it lists TIED to the program's text (the seventh form; the later family's looks); each row that meets fmt, with fmt's text TOLD by the authors' own Lean function (tested against real Go, not proved from fmt's source: count such statements apart). THE CARD IS WHAT COUNTS. Prove the row's statement (the work); the ties are given (YtjaeedbjknejdaaGreatDoorTie.lean); close each card by the builder's one call (the guide's Derived/Test/ToyasCard.lean, 'card_holds'). Laid BY PROGRAM, IN A SANDBOX (cutbox-door.mjs). By AI agents, Wed Nov 11 2026. No macro, syntax, notation, axiom, sorry.
-/
import Derived.Test.YtjaeedbjknejdaaGreatDoorRows
import GoSem.ClaimSeven
namespace Go.Proofs.YtjaeedbjknejdaaGreatDoor
namespace Rows

/-- THE TIED CARD OF 'layoutlaw13.ExportTrees'. -/
def exportTreesCard : Claim7 := { stood := { row := exportTreesRow, standIns := [], harness := (true, "432aee89b4c01909c3777f081ff1766330e7ea3a4f93f9cb42ffad26e9e317c9"), looks := true }, kinds := [], alts := [], laidByText := true, laidKinds := [.data, .data, .data, .data, .sentinel, .sentinel, .pinned], laidTests := true, laidLooks := .later }
def ExportTreesCardSaid : Prop := Claim7.holds Tryz.pinned (.plain (OpenSpec.ofChange exportTreesSpec)) exportTreesCard

/-- THE TIED CARD OF 'layoutlaw13.ExportTexts'. -/
def exportTextsCard : Claim7 := { stood := { row := exportTextsRow, standIns := [], harness := (true, "432aee89b4c01909c3777f081ff1766330e7ea3a4f93f9cb42ffad26e9e317c9"), looks := true }, kinds := [], alts := [], laidByText := true, laidKinds := [.data, .data, .data, .data, .sentinel, .sentinel, .pinned], laidTests := true, laidLooks := .later }
def ExportTextsCardSaid : Prop := Claim7.holds Tryz.pinned (.plain (OpenSpec.ofChange exportTextsSpec)) exportTextsCard

/-- THE TIED CARD OF 'layoutlaw13.ExportDeclares'. -/
def exportDeclaresCard : Claim7 := { stood := { row := exportDeclaresRow, standIns := [], harness := (true, "432aee89b4c01909c3777f081ff1766330e7ea3a4f93f9cb42ffad26e9e317c9"), looks := true }, kinds := [], alts := [], laidByText := true, laidKinds := [.data, .data, .data, .data, .sentinel, .sentinel, .pinned], laidTests := true, laidLooks := .later }
def ExportDeclaresCardSaid : Prop := Claim7.holds Tryz.pinned (.plain (OpenSpec.ofChange exportDeclaresSpec)) exportDeclaresCard

/-- THE TIED CARD OF 'layoutlaw13.ExportReads'. -/
def exportReadsCard : Claim7 := { stood := { row := exportReadsRow, standIns := [], harness := (true, "432aee89b4c01909c3777f081ff1766330e7ea3a4f93f9cb42ffad26e9e317c9"), looks := true }, kinds := [], alts := [], laidByText := true, laidKinds := [.data, .data, .data, .data, .sentinel, .sentinel, .pinned], laidTests := true, laidLooks := .later }
def ExportReadsCardSaid : Prop := Claim7.holds Tryz.pinned (.plain (OpenSpec.ofChange exportReadsSpec)) exportReadsCard

/-- THE TIED CARD OF 'layoutlaw13.ExportRestores'. -/
def exportRestoresCard : Claim7 := { stood := { row := exportRestoresRow, standIns := [], harness := (true, "432aee89b4c01909c3777f081ff1766330e7ea3a4f93f9cb42ffad26e9e317c9"), looks := true }, kinds := [], alts := [], laidByText := true, laidKinds := [.data, .data, .data, .data, .sentinel, .sentinel, .pinned], laidTests := true, laidLooks := .later }
def ExportRestoresCardSaid : Prop := Claim7.holds Tryz.pinned (.plain (OpenSpec.ofChange exportRestoresSpec)) exportRestoresCard

/-- THE SECOND FORM's CARD OF 'layoutlaw13.ExportTrees'. -/
def exportTreesUptoCard : Claim7 := { stood := { row := exportTreesUptoRow, standIns := [], harness := (true, "432aee89b4c01909c3777f081ff1766330e7ea3a4f93f9cb42ffad26e9e317c9"), looks := true }, kinds := [], alts := [], laidByText := true, laidKinds := [.data, .data, .data, .data, .sentinel, .sentinel, .pinned], laidTests := true, laidLooks := .later }
def ExportTreesUptoCardSaid : Prop := Claim7.holds Tryz.pinned (.plain (OpenSpec.upto exportTreesSpec)) exportTreesUptoCard

/-- THE SECOND FORM's CARD OF 'layoutlaw13.ExportTexts'. -/
def exportTextsUptoCard : Claim7 := { stood := { row := exportTextsUptoRow, standIns := [], harness := (true, "432aee89b4c01909c3777f081ff1766330e7ea3a4f93f9cb42ffad26e9e317c9"), looks := true }, kinds := [], alts := [], laidByText := true, laidKinds := [.data, .data, .data, .data, .sentinel, .sentinel, .pinned], laidTests := true, laidLooks := .later }
def ExportTextsUptoCardSaid : Prop := Claim7.holds Tryz.pinned (.plain (OpenSpec.upto exportTextsSpec)) exportTextsUptoCard

/-- THE SECOND FORM's CARD OF 'layoutlaw13.ExportDeclares'. -/
def exportDeclaresUptoCard : Claim7 := { stood := { row := exportDeclaresUptoRow, standIns := [], harness := (true, "432aee89b4c01909c3777f081ff1766330e7ea3a4f93f9cb42ffad26e9e317c9"), looks := true }, kinds := [], alts := [], laidByText := true, laidKinds := [.data, .data, .data, .data, .sentinel, .sentinel, .pinned], laidTests := true, laidLooks := .later }
def ExportDeclaresUptoCardSaid : Prop := Claim7.holds Tryz.pinned (.plain (OpenSpec.upto exportDeclaresSpec)) exportDeclaresUptoCard

/-- THE SECOND FORM's CARD OF 'layoutlaw13.ExportReads'. -/
def exportReadsUptoCard : Claim7 := { stood := { row := exportReadsUptoRow, standIns := [], harness := (true, "432aee89b4c01909c3777f081ff1766330e7ea3a4f93f9cb42ffad26e9e317c9"), looks := true }, kinds := [], alts := [], laidByText := true, laidKinds := [.data, .data, .data, .data, .sentinel, .sentinel, .pinned], laidTests := true, laidLooks := .later }
def ExportReadsUptoCardSaid : Prop := Claim7.holds Tryz.pinned (.plain (OpenSpec.upto exportReadsSpec)) exportReadsUptoCard

/-- THE SECOND FORM's CARD OF 'layoutlaw13.ExportRestores'. -/
def exportRestoresUptoCard : Claim7 := { stood := { row := exportRestoresUptoRow, standIns := [], harness := (true, "432aee89b4c01909c3777f081ff1766330e7ea3a4f93f9cb42ffad26e9e317c9"), looks := true }, kinds := [], alts := [], laidByText := true, laidKinds := [.data, .data, .data, .data, .sentinel, .sentinel, .pinned], laidTests := true, laidLooks := .later }
def ExportRestoresUptoCardSaid : Prop := Claim7.holds Tryz.pinned (.plain (OpenSpec.upto exportRestoresSpec)) exportRestoresUptoCard
end Rows
end Go.Proofs.YtjaeedbjknejdaaGreatDoor
