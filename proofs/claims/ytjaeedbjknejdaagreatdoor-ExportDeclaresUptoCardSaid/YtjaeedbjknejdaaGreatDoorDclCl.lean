/- ExportDeclares: the law returns true for every input, and each argument reads afterwards as before: the card over the row, by the walk of Ex.declares_card. -/
import Derived.Test.YtjaeedbjknejdaaGreatDoorCards
import Derived.Test.YtjaeedbjknejdaaGreatDoorTie
import Derived.WalkKit
import Derived.ProofKit
import Derived.OpenShut
import Derived.Deep.DeepHandedRow
import Derived.Deep.DeepWitnessRowRef
import Derived.MakeChecks
namespace Go.Proofs.YtjaeedbjknejdaaGreatDoor.exportDeclares
open Go.ChangeShapes Go.WideShapes Go.ChangeAt Go.RowKit
open Go.ChangeMaps (open_string shut_string)
set_option linter.unusedVariables false
set_option linter.unusedSimpArgs false
set_option maxHeartbeats 4000000 in
theorem closed : joinedFacts Tryz.prog 5 Tryz.f5 (Rows.OpenSpec.upto Rows.exportDeclaresSpec).bare Rows.exportDeclaresUptoRow = true := by
  unfold joinedFacts
  simp only [Bool.and_eq_true]
  repeat' apply And.intro
  all_goals (as_aux_lemma => kernel_rfl)
end Go.Proofs.YtjaeedbjknejdaaGreatDoor.exportDeclares
