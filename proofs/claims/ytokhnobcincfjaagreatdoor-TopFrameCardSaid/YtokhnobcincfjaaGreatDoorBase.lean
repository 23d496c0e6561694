/- Lemmas of this claim: Base. -/
import Derived.Test.YtokhnobcincfjaaGreatDoorProg
import Derived.WalkKit
import Derived.WalkSmall
import Derived.Deep.QuietTactic
import Derived.BigQuiet
import Derived.Lib.QuietBelow
import Derived.Lib.Hide
set_option linter.unusedVariables false
set_option linter.unusedSimpArgs false
namespace Go.Proofs.YtokhnobcincfjaaGreatDoor
open Go.RowKit Go.Sort
theorem bel_drewN {w w':World} (h:Below w.heap.size w w') {n:Nat}:Below w.heap.size w (w'.drewN n):=below_drewN h n
theorem bel_drew {w w':World} (h:Below w.heap.size w w'):Below w.heap.size w w'.drew:=h.drew
theorem bel_alloc {w w':World} (h:Below w.heap.size w w') {o:Obj}:Below w.heap.size w (w'.alloc o):=h.alloc h.size o
theorem bel_trans {w w1 w2:World} (h:Below w.heap.size w w1) (k:Below w1.heap.size w1 w2):Below w.heap.size w w2:=h.trans (k.mono h.size)
theorem wp_name {P:Program} {c:Code} {Q:Exit→Act→World→Prop} {a:Act} {w0:World} (h:∀W,W=w0→c.wp P Q a W):c.wp P Q a w0:=h w0 rfl
end Go.Proofs.YtokhnobcincfjaaGreatDoor
