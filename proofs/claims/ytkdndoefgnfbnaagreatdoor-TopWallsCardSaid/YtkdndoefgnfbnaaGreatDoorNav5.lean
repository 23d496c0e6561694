/- Lemmas of this claim: Nav5. -/
import Derived.Test.YtkdndoefgnfbnaaGreatDoorNav1
import Derived.Test.YtkdndoefgnfbnaaGreatDoorRTx2
import Derived.Test.YtkdndoefgnfbnaaGreatDoorKNavC49
import Derived.Test.YtkdndoefgnfbnaaGreatDoorBase
import Derived.Test.YtkdndoefgnfbnaaGreatDoorKNavC2
import Derived.Test.YtkdndoefgnfbnaaGreatDoorKNavC3
set_option linter.unusedVariables false
set_option linter.unusedSimpArgs false
namespace Go.Proofs.YtkdndoefgnfbnaaGreatDoor
open Go.RowKit Go.Sort FR Go.Lib
theorem rSet_ed (w : World) (q : Nat) (g : G) (v : Int) (c : Nat) (t : Bool) (h : RGridAt w q g v) (hc : c < g.n) (hv : 0 ≤ v ∧ v ≤ 1099511627776) :
    Calls Tryz.prog 27 #[.pointer (some ⟨q,0,none⟩),.int .i64 (c:Nat),.bool t] w fun e w'=>
     e=.returned (.tuple #[.bool (g.b c != t),.int .i64 0])∧RGridAt w' q (gset g c t) (v+(if g.b c=t then 0 else 1:Nat))∧Kept [q] w w':=by
 by_cases hs:g.b c=t
 ·subst hs
  refine (rSet_same w q g v c h hc).mono fun e w' ⟨h1,h2⟩=>⟨by simpa using h1,?_,.of_below h2⟩
  rw [gset_self rfl,if_pos rfl]
  simpa using h.below h2 h.lt
 ·have ht:g.b c=!t:=by cases h:g.b c <;> cases t <;> simp_all
  refine (rSet_new w q g v c t h hc ht hv).mono fun e w' ⟨h1,h2,h3⟩=>⟨by rw [ht];simpa using h1,?_,h3⟩
  rw [if_neg hs]
  simpa using h2
end Go.Proofs.YtkdndoefgnfbnaaGreatDoor
