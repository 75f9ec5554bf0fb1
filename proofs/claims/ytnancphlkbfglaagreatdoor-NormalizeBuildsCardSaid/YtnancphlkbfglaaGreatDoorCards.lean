/-
  DERIVED. GIVEN WITH THE SEED: THE CARDS: each row of YtnancphlkbfglaaGreatDoorRows.lean that lists a variable, with what it lists TIED to the program's text (the seventh form; the later family's looks); each row that meets fmt, with fmt's text TOLD by the authors' own Lean function (tested against real Go, not proved from fmt's source: count such statements apart). THE CARD IS WHAT COUNTS. Prove the row's statement (the work); the ties are given (YtnancphlkbfglaaGreatDoorTie.lean); close each card by the builder's one call (the guide's Derived/Test/ToyasCard.lean, 'card_holds'). Laid BY PROGRAM, IN A SANDBOX (cutbox-door.mjs). By AI agents, Wed Nov 11 2026. No macro, syntax, notation, axiom, sorry.
-/
import Derived.Test.YtnancphlkbfglaaGreatDoorRows
import GoSem.ClaimSeven
namespace Go.Proofs.YtnancphlkbfglaaGreatDoor
namespace Rows

/-- THE TIED CARD OF 'layoutlaw12.NormalizeBuilds'. -/
def normalizeBuildsCard : Claim7 := { stood := { row := normalizeBuildsRow, standIns := [], harness := (true, "c1b09b514065432f7c5f464837a57a4f72925e5822d99de47534300a3548b628"), looks := true }, kinds := [], alts := [], laidByText := true, laidKinds := [.data, .data, .data, .data, .sentinel, .sentinel, .pinned], laidTests := true, laidLooks := .later }
def NormalizeBuildsCardSaid : Prop := Claim7.holds Tryz.pinned (.plain (OpenSpec.ofChange normalizeBuildsSpec)) normalizeBuildsCard

/-- THE TIED CARD OF 'layoutlaw12.NormalizeNames'. -/
def normalizeNamesCard : Claim7 := { stood := { row := normalizeNamesRow, standIns := [], harness := (true, "c1b09b514065432f7c5f464837a57a4f72925e5822d99de47534300a3548b628"), looks := true }, kinds := [], alts := [], laidByText := true, laidKinds := [.data, .data, .data, .data, .sentinel, .sentinel, .pinned], laidTests := true, laidLooks := .later }
def NormalizeNamesCardSaid : Prop := Claim7.holds Tryz.pinned (.plain (OpenSpec.ofChange normalizeNamesSpec)) normalizeNamesCard

/-- THE TIED CARD OF 'layoutlaw12.NormalizeIgnores'. -/
def normalizeIgnoresCard : Claim7 := { stood := { row := normalizeIgnoresRow, standIns := [], harness := (true, "c1b09b514065432f7c5f464837a57a4f72925e5822d99de47534300a3548b628"), looks := true }, kinds := [], alts := [], laidByText := true, laidKinds := [.data, .data, .data, .data, .sentinel, .sentinel, .pinned], laidTests := true, laidLooks := .later }
def NormalizeIgnoresCardSaid : Prop := Claim7.holds Tryz.pinned (.plain (OpenSpec.ofChange normalizeIgnoresSpec)) normalizeIgnoresCard

/-- THE TIED CARD OF 'layoutlaw12.NormalizeOptions'. -/
def normalizeOptionsCard : Claim7 := { stood := { row := normalizeOptionsRow, standIns := [], harness := (true, "c1b09b514065432f7c5f464837a57a4f72925e5822d99de47534300a3548b628"), looks := true }, kinds := [], alts := [], laidByText := true, laidKinds := [.data, .data, .data, .data, .sentinel, .sentinel, .pinned], laidTests := true, laidLooks := .later }
def NormalizeOptionsCardSaid : Prop := Claim7.holds Tryz.pinned (.plain (OpenSpec.ofChange normalizeOptionsSpec)) normalizeOptionsCard

/-- THE TIED CARD OF 'layoutlaw12.NormalizeValid'. -/
def normalizeValidCard : Claim7 := { stood := { row := normalizeValidRow, standIns := [], harness := (true, "c1b09b514065432f7c5f464837a57a4f72925e5822d99de47534300a3548b628"), looks := true }, kinds := [], alts := [], laidByText := true, laidKinds := [.data, .data, .data, .data, .sentinel, .sentinel, .pinned], laidTests := true, laidLooks := .later }
def NormalizeValidCardSaid : Prop := Claim7.holds Tryz.pinned (.plain (OpenSpec.ofChange normalizeValidSpec)) normalizeValidCard

/-- THE SECOND FORM's CARD OF 'layoutlaw12.NormalizeBuilds'. -/
def normalizeBuildsUptoCard : Claim7 := { stood := { row := normalizeBuildsUptoRow, standIns := [], harness := (true, "c1b09b514065432f7c5f464837a57a4f72925e5822d99de47534300a3548b628"), looks := true }, kinds := [], alts := [], laidByText := true, laidKinds := [.data, .data, .data, .data, .sentinel, .sentinel, .pinned], laidTests := true, laidLooks := .later }
def NormalizeBuildsUptoCardSaid : Prop := Claim7.holds Tryz.pinned (.plain (OpenSpec.upto normalizeBuildsSpec)) normalizeBuildsUptoCard

/-- THE SECOND FORM's CARD OF 'layoutlaw12.NormalizeNames'. -/
def normalizeNamesUptoCard : Claim7 := { stood := { row := normalizeNamesUptoRow, standIns := [], harness := (true, "c1b09b514065432f7c5f464837a57a4f72925e5822d99de47534300a3548b628"), looks := true }, kinds := [], alts := [], laidByText := true, laidKinds := [.data, .data, .data, .data, .sentinel, .sentinel, .pinned], laidTests := true, laidLooks := .later }
def NormalizeNamesUptoCardSaid : Prop := Claim7.holds Tryz.pinned (.plain (OpenSpec.upto normalizeNamesSpec)) normalizeNamesUptoCard

/-- THE SECOND FORM's CARD OF 'layoutlaw12.NormalizeIgnores'. -/
def normalizeIgnoresUptoCard : Claim7 := { stood := { row := normalizeIgnoresUptoRow, standIns := [], harness := (true, "c1b09b514065432f7c5f464837a57a4f72925e5822d99de47534300a3548b628"), looks := true }, kinds := [], alts := [], laidByText := true, laidKinds := [.data, .data, .data, .data, .sentinel, .sentinel, .pinned], laidTests := true, laidLooks := .later }
def NormalizeIgnoresUptoCardSaid : Prop := Claim7.holds Tryz.pinned (.plain (OpenSpec.upto normalizeIgnoresSpec)) normalizeIgnoresUptoCard

/-- THE SECOND FORM's CARD OF 'layoutlaw12.NormalizeOptions'. -/
def normalizeOptionsUptoCard : Claim7 := { stood := { row := normalizeOptionsUptoRow, standIns := [], harness := (true, "c1b09b514065432f7c5f464837a57a4f72925e5822d99de47534300a3548b628"), looks := true }, kinds := [], alts := [], laidByText := true, laidKinds := [.data, .data, .data, .data, .sentinel, .sentinel, .pinned], laidTests := true, laidLooks := .later }
def NormalizeOptionsUptoCardSaid : Prop := Claim7.holds Tryz.pinned (.plain (OpenSpec.upto normalizeOptionsSpec)) normalizeOptionsUptoCard

/-- THE SECOND FORM's CARD OF 'layoutlaw12.NormalizeValid'. -/
def normalizeValidUptoCard : Claim7 := { stood := { row := normalizeValidUptoRow, standIns := [], harness := (true, "c1b09b514065432f7c5f464837a57a4f72925e5822d99de47534300a3548b628"), looks := true }, kinds := [], alts := [], laidByText := true, laidKinds := [.data, .data, .data, .data, .sentinel, .sentinel, .pinned], laidTests := true, laidLooks := .later }
def NormalizeValidUptoCardSaid : Prop := Claim7.holds Tryz.pinned (.plain (OpenSpec.upto normalizeValidSpec)) normalizeValidUptoCard
end Rows
end Go.Proofs.YtnancphlkbfglaaGreatDoor
