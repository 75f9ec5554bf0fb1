/- ExportDeclares: the law returns true for every input, and each argument reads afterwards as before: the card over the row, by the walk of Ex.declares_card. -/
import Derived.Test.YtjaeedbjknejdaaGreatDoorDclPre
import Derived.Test.YtjaeedbjknejdaaGreatDoorDclCl
namespace Go.Proofs.YtjaeedbjknejdaaGreatDoor.exportDeclares
open Go.ChangeShapes Go.WideShapes Go.ChangeAt Go.RowKit
open Go.ChangeMaps (open_string shut_string)
set_option linter.unusedVariables false
set_option linter.unusedSimpArgs false
theorem said : Rows.ExportDeclaresUptoSaid :=
  OpenClaim.holds_of_cond 5 Tryz.f5 rfl rfl rfl rfl rfl rfl rfl ⟨rfl, rfl, rfl, rfl, rfl⟩ rfl rfl rfl rfl rfl (by kernel_rfl) Tryz.func5 closed
    (of_decide_eq_true (by kernel_rfl)) (by unfold Func.isWrapper; first | (rw [if_pos (by decide +kernel)]; kernel_rfl) | (rw [if_neg (by decide +kernel)]; exact ⟨rfl, rfl⟩))
    (fun os started H enc _ F => by rw [OpenClaim.pre_eq_preRow]; exact lifted os started H enc F)
end Go.Proofs.YtjaeedbjknejdaaGreatDoor.exportDeclares
