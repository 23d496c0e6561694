/- Lemmas of this claim: Base. -/
import Derived.Test.YtokhnobcincfjaaGreatDoorProg
import Derived.WalkSmall
import Derived.BigQuiet
import Derived.Lib.QuietBelow
import Derived.Lib.Hide
set_option linter.unusedVariables false
set_option linter.unusedSimpArgs false
namespace Go.Proofs.YtokhnobcincfjaaGreatDoor
open Go.RowKit Go.Sort
variable {w w':World}
theorem aj(h:Below w.heap.size w w'){n:Nat}:Below w.heap.size w (w'.drewN n):=below_drewN h n
theorem ah(h:Below w.heap.size w w'):Below w.heap.size w w'.drew:=h.drew
theorem af(h:Below w.heap.size w w'){o:Obj}:Below w.heap.size w (w'.alloc o):=h.alloc h.size o
theorem aa{w w1 w2:World}(h:Below w.heap.size w w1)(k:Below w1.heap.size w1 w2):Below w.heap.size w w2:=h.trans (k.mono h.size)
theorem au{P:Program}{c:Code}{Q:Exit->Act->World->Prop}{a:Act}{g:World}(h:∀W,W=g->c.wp P Q a W):c.wp P Q a g:=h g rfl
