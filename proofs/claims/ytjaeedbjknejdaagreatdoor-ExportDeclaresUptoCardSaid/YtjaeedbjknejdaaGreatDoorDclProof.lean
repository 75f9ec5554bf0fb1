/- ExportDeclares: the law returns true for every input, and each argument reads afterwards as before: the card over the row, by the walk of Ex.declares_card. -/
import Derived.Test.YtjaeedbjknejdaaGreatDoorDclSaid
import Derived.Test.YtjaeedbjknejdaaGreatDoorDclPl
namespace Go.Proofs.YtjaeedbjknejdaaGreatDoor.exportDeclares
open Go.ChangeShapes Go.WideShapes Go.ChangeAt Go.RowKit
open Go.ChangeMaps (open_string shut_string)
set_option linter.unusedVariables false
set_option linter.unusedSimpArgs false
theorem card : Rows.ExportDeclaresUptoCardSaid :=
  Claim7.holds_tied_plain_at .later [] _ _ _ _ said (fun _ h => by cases h) (by kernel_rfl) (fun _ h => by cases h) exportDeclaresUpto_row_tie rfl ⟨rfl, rfl⟩ (by kernel_rfl) rfl plain (by kernel_rfl)
end Go.Proofs.YtjaeedbjknejdaaGreatDoor.exportDeclares
