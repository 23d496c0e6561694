/- Lemmas of this claim: Shared. -/
import Derived.Test.YtjejkadaafmdcaaDoorRows
import Derived.WalkKit
import Derived.ProofKit
set_option linter.unusedVariables false
set_option linter.unusedSimpArgs false
/- Closed facts of the program alone, that every statement's row wants: proved once. -/
namespace Go.Proofs.YtjejkadaafmdcaaDoor
theorem shMayEnter : Tryd.pinned.checked.prog.mayEnter = true := by kernel_rfl
theorem shLifts : (Rows.namesRow.lifted == Tryd.pinned.checked.prog.liftsFinal) = true := by kernel_rfl
end Go.Proofs.YtjejkadaafmdcaaDoor
