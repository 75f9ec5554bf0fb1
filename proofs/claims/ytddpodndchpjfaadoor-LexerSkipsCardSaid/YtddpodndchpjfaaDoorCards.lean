/-
  DERIVED. GIVEN WITH THE SEED: THE CARDS: each row of YtddpodndchpjfaaDoorRows.lean that lists a variable, with what it lists TIED to the program's text (the seventh form; the later family's looks); each row that meets fmt, with fmt's text TOLD by the authors' own Lean function (tested against real Go, not proved from fmt's source: count such statements apart). THE CARD IS WHAT COUNTS. Prove the row's statement (the work); the ties are given (YtddpodndchpjfaaDoorTie.lean); close each card by the builder's one call (the guide's Derived/Test/ToyasCard.lean, 'card_holds'). Laid BY PROGRAM, IN A SANDBOX (cutbox-door.mjs). By AI agents, Wed Nov 11 2026. No macro, syntax, notation, axiom, sorry.
-/
import Derived.Test.YtddpodndchpjfaaDoorRows
import GoSem.ClaimSeven
namespace Go.Proofs.YtddpodndchpjfaaDoor
namespace Rows

/-- THE TIED CARD OF 'layoutlaw06.LexerNames'. -/
def lexerNamesCard : Claim7 := { stood := { row := lexerNamesRow, standIns := [], harness := (true, "d5afac505489332a91922dcd90e261840197fb5cd92997982f0aed7d4aefa81a"), looks := true }, kinds := [], alts := [], laidByText := true, laidKinds := [.data, .data, .data, .sentinel, .sentinel], laidTests := true, laidLooks := .later }
def LexerNamesCardSaid : Prop := Claim7.holds Tryd.pinned (.plain (OpenSpec.ofChange lexerNamesSpec)) lexerNamesCard

/-- THE TIED CARD OF 'layoutlaw06.LexerTokenizes'. -/
def lexerTokenizesCard : Claim7 := { stood := { row := lexerTokenizesRow, standIns := [], harness := (true, "d5afac505489332a91922dcd90e261840197fb5cd92997982f0aed7d4aefa81a"), looks := true }, kinds := [], alts := [], laidByText := true, laidKinds := [.data, .data, .data, .sentinel, .sentinel], laidTests := true, laidLooks := .later }
def LexerTokenizesCardSaid : Prop := Claim7.holds Tryd.pinned (.plain (OpenSpec.ofChange lexerTokenizesSpec)) lexerTokenizesCard

/-- THE TIED CARD OF 'layoutlaw06.LexerLong'. -/
def lexerLongCard : Claim7 := { stood := { row := lexerLongRow, standIns := [], harness := (true, "d5afac505489332a91922dcd90e261840197fb5cd92997982f0aed7d4aefa81a"), looks := true }, kinds := [], alts := [], laidByText := true, laidKinds := [.data, .data, .data, .sentinel, .sentinel], laidTests := true, laidLooks := .later }
def LexerLongCardSaid : Prop := Claim7.holds Tryd.pinned (.plain (OpenSpec.ofChange lexerLongSpec)) lexerLongCard

/-- THE TIED CARD OF 'layoutlaw06.LexerSkips'. -/
def lexerSkipsCard : Claim7 := { stood := { row := lexerSkipsRow, standIns := [], harness := (true, "d5afac505489332a91922dcd90e261840197fb5cd92997982f0aed7d4aefa81a"), looks := true }, kinds := [], alts := [], laidByText := true, laidKinds := [.data, .data, .data, .sentinel, .sentinel], laidTests := true, laidLooks := .later }
def LexerSkipsCardSaid : Prop := Claim7.holds Tryd.pinned (.plain (OpenSpec.ofChange lexerSkipsSpec)) lexerSkipsCard

/-- THE SECOND FORM's CARD OF 'layoutlaw06.LexerNames'. -/
def lexerNamesUptoCard : Claim7 := { stood := { row := lexerNamesUptoRow, standIns := [], harness := (true, "d5afac505489332a91922dcd90e261840197fb5cd92997982f0aed7d4aefa81a"), looks := true }, kinds := [], alts := [], laidByText := true, laidKinds := [.data, .data, .data, .sentinel, .sentinel], laidTests := true, laidLooks := .later }
def LexerNamesUptoCardSaid : Prop := Claim7.holds Tryd.pinned (.plain (OpenSpec.upto lexerNamesSpec)) lexerNamesUptoCard

/-- THE SECOND FORM's CARD OF 'layoutlaw06.LexerTokenizes'. -/
def lexerTokenizesUptoCard : Claim7 := { stood := { row := lexerTokenizesUptoRow, standIns := [], harness := (true, "d5afac505489332a91922dcd90e261840197fb5cd92997982f0aed7d4aefa81a"), looks := true }, kinds := [], alts := [], laidByText := true, laidKinds := [.data, .data, .data, .sentinel, .sentinel], laidTests := true, laidLooks := .later }
def LexerTokenizesUptoCardSaid : Prop := Claim7.holds Tryd.pinned (.plain (OpenSpec.upto lexerTokenizesSpec)) lexerTokenizesUptoCard

/-- THE SECOND FORM's CARD OF 'layoutlaw06.LexerLong'. -/
def lexerLongUptoCard : Claim7 := { stood := { row := lexerLongUptoRow, standIns := [], harness := (true, "d5afac505489332a91922dcd90e261840197fb5cd92997982f0aed7d4aefa81a"), looks := true }, kinds := [], alts := [], laidByText := true, laidKinds := [.data, .data, .data, .sentinel, .sentinel], laidTests := true, laidLooks := .later }
def LexerLongUptoCardSaid : Prop := Claim7.holds Tryd.pinned (.plain (OpenSpec.upto lexerLongSpec)) lexerLongUptoCard

/-- THE SECOND FORM's CARD OF 'layoutlaw06.LexerSkips'. -/
def lexerSkipsUptoCard : Claim7 := { stood := { row := lexerSkipsUptoRow, standIns := [], harness := (true, "d5afac505489332a91922dcd90e261840197fb5cd92997982f0aed7d4aefa81a"), looks := true }, kinds := [], alts := [], laidByText := true, laidKinds := [.data, .data, .data, .sentinel, .sentinel], laidTests := true, laidLooks := .later }
def LexerSkipsUptoCardSaid : Prop := Claim7.holds Tryd.pinned (.plain (OpenSpec.upto lexerSkipsSpec)) lexerSkipsUptoCard
end Rows
end Go.Proofs.YtddpodndchpjfaaDoor
