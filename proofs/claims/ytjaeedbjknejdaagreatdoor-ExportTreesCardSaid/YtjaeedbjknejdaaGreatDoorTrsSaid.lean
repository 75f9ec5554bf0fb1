/- ExportTrees: the law returns true for every input, and each argument reads afterwards as before: the card over the row, by the walk of Ex.trees_card. -/
import Derived.Test.YtjaeedbjknejdaaGreatDoorTrsPre
import Derived.Test.YtjaeedbjknejdaaGreatDoorCards
import Derived.Test.YtjaeedbjknejdaaGreatDoorTie
namespace Go.Proofs.YtjaeedbjknejdaaGreatDoor.exportTrees
open Go.ChangeShapes Go.WideShapes Go.ChangeAt Go.RowKit
open Go.ChangeMaps (open_string shut_string)
set_option linter.unusedVariables false
set_option linter.unusedSimpArgs false
set_option maxHeartbeats 4000000 in
theorem closed : joinedFacts Tryz.prog 3 Tryz.f3 (OpenSpec.ofChange Rows.exportTreesSpec).bare Rows.exportTreesRow = true := by
  unfold joinedFacts
  simp only [Bool.and_eq_true]
  repeat' apply And.intro
  all_goals (as_aux_lemma => kernel_rfl)
theorem said : Rows.ExportTreesSaid :=
  OpenClaim.holds_of_cond 3 Tryz.f3 rfl rfl rfl rfl rfl rfl rfl ⟨rfl, rfl, rfl, rfl, rfl⟩ rfl rfl rfl rfl rfl (by kernel_rfl) Tryz.func3 closed
    (of_decide_eq_true (by kernel_rfl)) (by unfold Func.isWrapper; first | (rw [if_pos (by decide +kernel)]; kernel_rfl) | (rw [if_neg (by decide +kernel)]; exact ⟨rfl, rfl⟩))
    (fun os started H enc _ F => by rw [OpenClaim.pre_eq_preRow]; exact lifted os started H enc F)
end Go.Proofs.YtjaeedbjknejdaaGreatDoor.exportTrees
