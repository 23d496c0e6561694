/- Lemmas of this claim: Shared. -/
import Derived.Test.YtnifggkjieemeaaGreatDoorOm
import Derived.Test.YtnifggkjieemeaaGreatDoorRows
import Derived.WalkKit
import Derived.ProofKit
set_option linter.unusedVariables false
set_option linter.unusedSimpArgs false
namespace Go.Proofs.YtnifggkjieemeaaGreatDoor
theorem IM:Tryz.pinned.checked.prog.mayEnter=true:=kr
theorem TF:(Rows.navSaysRow.lifted==Tryz.pinned.checked.prog.liftsFinal)=true:=kr
