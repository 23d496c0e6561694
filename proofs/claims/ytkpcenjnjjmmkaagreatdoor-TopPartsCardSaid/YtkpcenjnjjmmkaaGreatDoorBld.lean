/- Lemmas of this claim: Bld. -/
import Derived.Test.YtkpcenjnjjmmkaaGreatDoorBase
import Derived.Test.YtkpcenjnjjmmkaaGreatDoorKTopBack2
import Derived.Lib.Builder
import Derived.Lib.AppendStr
import Derived.Shelf.Strings.BuilderX
import Derived.Deep.Draws
set_option linter.unusedVariables false
set_option linter.unusedSimpArgs false
/- A strings.Builder: what its writers do (the check for copies has no panic in this program's cut). -/
namespace Go.Proofs.YtkpcenjnjjmmkaaGreatDoor
open Go.RowKit Go.Sort
end Go.Proofs.YtkpcenjnjjmmkaaGreatDoor
