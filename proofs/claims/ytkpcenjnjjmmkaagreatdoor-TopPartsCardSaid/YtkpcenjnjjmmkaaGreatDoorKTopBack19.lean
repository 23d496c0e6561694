/- Lemmas of this claim: FloodSays, RRay, RRay2, RRay3. -/
import Derived.Test.YtkpcenjnjjmmkaaGreatDoorKTopBack9
import Derived.Test.YtkpcenjnjjmmkaaGreatDoorKTopBack3
import Derived.Test.YtkpcenjnjjmmkaaGreatDoorKTopBack4
import Derived.Test.YtkpcenjnjjmmkaaGreatDoorKTopBack14
import Derived.Laws.CopyOwn
import Derived.Laws.Tables
import Derived.Test.YtkpcenjnjjmmkaaGreatDoorKTopBack1
import Derived.Test.YtkpcenjnjjmmkaaGreatDoorKTopBack8
import Derived.Test.YtkpcenjnjjmmkaaGreatDoorKTopBack10
import Derived.Deep.RegionHeld3
import Derived.Deep.MidRow
set_option linter.unusedVariables false
set_option linter.unusedSimpArgs false
/- The law FloodSays: for any plot, any cell and any way, it returns true. -/
namespace Go.Proofs.YtkpcenjnjjmmkaaGreatDoor
open Go.RowKit Go.Sort FR
end Go.Proofs.YtkpcenjnjjmmkaaGreatDoor
/- The document's octile cost between cells; whether they are near. -/
namespace Go.Proofs.YtkpcenjnjjmmkaaGreatDoor
open Go.RowKit Go.Sort FR
end Go.Proofs.YtkpcenjnjjmmkaaGreatDoor
/- What all cells cost from one, kept in one struct. -/
namespace Go.Proofs.YtkpcenjnjjmmkaaGreatDoor
open Go.RowKit Go.Sort FR
def rayCell (a : Nat) (c : Nat → C) (is : Nat → Bool) (k : Nat) : Value := if k = 0 then .int .i64 (a : Nat) else if k < 513 then ccell c (k - 1) else icell is (k - 513)
def rayRow (a : Nat) (c : Nat → C) (is : Nat → Bool) : Array Value := rowOf (rayCell a c is) 769
end Go.Proofs.YtkpcenjnjjmmkaaGreatDoor
/- The document's Near and Direct. -/
namespace Go.Proofs.YtkpcenjnjjmmkaaGreatDoor
open Go.RowKit Go.Sort FR
end Go.Proofs.YtkpcenjnjjmmkaaGreatDoor
