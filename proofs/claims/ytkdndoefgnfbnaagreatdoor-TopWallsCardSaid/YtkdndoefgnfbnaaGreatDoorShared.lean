/- Lemmas of this claim: Shared. -/
import Derived.Test.YtkdndoefgnfbnaaGreatDoorRows
import Derived.WalkKit
import Derived.ProofKit
set_option linter.unusedVariables false
set_option linter.unusedSimpArgs false
namespace Go.Proofs.YtkdndoefgnfbnaaGreatDoor
theorem shMayEnter:Tryz.pinned.checked.prog.mayEnter=true:=by kernel_rfl
theorem shLifts:(Rows.topBestRow.lifted == Tryz.pinned.checked.prog.liftsFinal)=true:=by kernel_rfl
end Go.Proofs.YtkdndoefgnfbnaaGreatDoor
