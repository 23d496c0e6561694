/- Lemmas of this claim: RRay4, RRay5. -/
import Derived.Test.YtkpcenjnjjmmkaaGreatDoorKTopBack19
import Derived.Test.YtkpcenjnjjmmkaaGreatDoorKTopBack16
set_option linter.unusedVariables false
set_option linter.unusedSimpArgs false
/- The document's Direct, by what cells cost from both. -/
namespace Go.Proofs.YtkpcenjnjjmmkaaGreatDoor
open Go.RowKit Go.Sort FR
end Go.Proofs.YtkpcenjnjjmmkaaGreatDoor
/- The document's Direct: of two cells. -/
namespace Go.Proofs.YtkpcenjnjjmmkaaGreatDoor
open Go.RowKit Go.Sort FR
theorem rangeAt_below {w w' : World} {b o : Nat} {cs : List Value} (h : w.rangeAt b o cs) (hb : Below w.heap.size w w') : w'.rangeAt b o cs := fun j v hv => bel_cell hb (h j v hv)
end Go.Proofs.YtkpcenjnjjmmkaaGreatDoor
