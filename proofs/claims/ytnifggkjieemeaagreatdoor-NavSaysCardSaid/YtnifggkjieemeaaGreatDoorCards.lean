/-
  DERIVED. GIVEN WITH THE SEED: THE CARDS: each row of YtnifggkjieemeaaGreatDoorRows.lean that lists a variable, with what it lists TIED to the program's text (the seventh form; the later family's looks); each row that meets fmt, with fmt's text TOLD by the authors' own Lean function (tested against real Go, not proved from fmt's source: count such statements apart). THE CARD IS WHAT COUNTS. Prove the row's statement (the work); the ties are given (YtnifggkjieemeaaGreatDoorTie.lean); close each card by the builder's one call (the guide's Derived/Test/ToyasCard.lean, 'card_holds'). Laid BY PROGRAM, IN A SANDBOX (cutbox-door.mjs). By AI agents, Wed Nov 11 2026. No macro, syntax, notation, axiom, sorry.
-/
import Derived.Test.YtnifggkjieemeaaGreatDoorRows
import GoSem.ClaimSeven
namespace Go.Proofs.YtnifggkjieemeaaGreatDoor
namespace Rows

/-- THE TIED CARD OF 'fellrunnerlaw.NavSays'. -/
def navSaysCard : Claim7 := { stood := { row := navSaysRow, standIns := [], harness := (true, "5d2b0071b4a0a0ef27c0903f400eac8952cd049712cfdc0269eb6bd73efc6028"), looks := true }, kinds := [], alts := [], laidByText := true, laidKinds := [.data, .data, .data, .sentinel, .sentinel], laidTests := true, laidLooks := .later }
def NavSaysCardSaid : Prop := Claim7.holds Tryz.pinned (.plain (OpenSpec.ofChange navSaysSpec)) navSaysCard

/-- THE TIED CARD OF 'fellrunnerlaw.ConsoleSays'. -/
def consoleSaysCard : Claim7 := { stood := { row := consoleSaysRow, standIns := [], harness := (true, "5d2b0071b4a0a0ef27c0903f400eac8952cd049712cfdc0269eb6bd73efc6028"), looks := true }, kinds := [], alts := [], laidByText := true, laidKinds := [.data, .data, .data, .data, .sentinel, .sentinel, .pinned], laidTests := true, laidLooks := .later }
def ConsoleSaysCardSaid : Prop := Claim7.holds Tryz.pinned (.plain (OpenSpec.ofChange consoleSaysSpec)) consoleSaysCard

/-- THE SECOND FORM's CARD OF 'fellrunnerlaw.NavSays'. -/
def navSaysUptoCard : Claim7 := { stood := { row := navSaysUptoRow, standIns := [], harness := (true, "5d2b0071b4a0a0ef27c0903f400eac8952cd049712cfdc0269eb6bd73efc6028"), looks := true }, kinds := [], alts := [], laidByText := true, laidKinds := [.data, .data, .data, .sentinel, .sentinel], laidTests := true, laidLooks := .later }
def NavSaysUptoCardSaid : Prop := Claim7.holds Tryz.pinned (.plain (OpenSpec.upto navSaysSpec)) navSaysUptoCard

/-- THE SECOND FORM's CARD OF 'fellrunnerlaw.ConsoleSays'. -/
def consoleSaysUptoCard : Claim7 := { stood := { row := consoleSaysUptoRow, standIns := [], harness := (true, "5d2b0071b4a0a0ef27c0903f400eac8952cd049712cfdc0269eb6bd73efc6028"), looks := true }, kinds := [], alts := [], laidByText := true, laidKinds := [.data, .data, .data, .data, .sentinel, .sentinel, .pinned], laidTests := true, laidLooks := .later }
def ConsoleSaysUptoCardSaid : Prop := Claim7.holds Tryz.pinned (.plain (OpenSpec.upto consoleSaysSpec)) consoleSaysUptoCard
end Rows
end Go.Proofs.YtnifggkjieemeaaGreatDoor
