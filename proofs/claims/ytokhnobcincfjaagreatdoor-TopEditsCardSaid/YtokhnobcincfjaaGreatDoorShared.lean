/- Lemmas of this claim: Shared. -/
import Derived.Test.YtokhnobcincfjaaGreatDoorRows
import Derived.WalkKit
import Derived.ProofKit
set_option linter.unusedVariables false
set_option linter.unusedSimpArgs false
namespace Go.Proofs.YtokhnobcincfjaaGreatDoor
theorem EI:Tryz.pinned.checked.prog.mayEnter=true:=by kernel_rfl
theorem Px:(Rows.topTurnRow.lifted==Tryz.pinned.checked.prog.liftsFinal)=true:=by kernel_rfl
