/- Lemmas of this claim: TxPrint. -/
import Derived.Test.YtkpcenjnjjmmkaaGreatDoorTxLine
import Derived.Test.YtkpcenjnjjmmkaaGreatDoorBld
import Derived.Test.YtkpcenjnjjmmkaaGreatDoorBase
import Derived.Test.YtkpcenjnjjmmkaaGreatDoorKTopBack2
set_option linter.unusedVariables false
set_option linter.unusedSimpArgs false
/- text.Print: what it hands back. -/
namespace Go.Proofs.YtkpcenjnjjmmkaaGreatDoor
open Go.RowKit Go.Sort FR
def hdr (g : G) : List UInt8 := octW ++ [10] ++ hgtW ++ Lib.decDigits g.h ++ [10] ++ wdtW ++ Lib.decDigits g.w ++ [10] ++ mapW ++ [10]
theorem hdr_eq (g : G) : bs [116, 121, 112, 101, 32, 111, 99, 116, 105, 108, 101, 10, 104, 101, 105, 103, 104, 116, 32] ++ bs (Lib.decDigits g.h) ++ bs [10, 119, 105, 100, 116, 104, 32] ++ bs (Lib.decDigits g.w) ++ bs [10, 109, 97, 112, 10] = bs (hdr g) := by
  simp only [bs_add]
  exact congrArg bs (by simp [hdr, octW, hgtW, wdtW, mapW])
theorem hdr_len (g : G) (h : g.ok) : 0 < (hdr g).length ∧ (hdr g).length ≤ 100 := by
  obtain ⟨o1, o2, o3, o4⟩ := h
  have l1 := dec_len g.h (by omega)
  have l2 := dec_len g.w (by omega)
  simp [hdr, octW, hgtW, wdtW, mapW]
  omega
end Go.Proofs.YtkpcenjnjjmmkaaGreatDoor
