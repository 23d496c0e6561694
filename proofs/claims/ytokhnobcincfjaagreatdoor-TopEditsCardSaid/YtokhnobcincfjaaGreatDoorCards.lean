/-
  DERIVED. GIVEN WITH THE SEED: THE CARDS: each row of YtokhnobcincfjaaGreatDoorRows.lean that lists a variable, with what it lists TIED to the program's text (the seventh form; the later family's looks); each row that meets fmt, with fmt's text TOLD by the authors' own Lean function (tested against real Go, not proved from fmt's source: count such statements apart). THE CARD IS WHAT COUNTS. Prove the row's statement (the work); the ties are given (YtokhnobcincfjaaGreatDoorTie.lean); close each card by the builder's one call (the guide's Derived/Test/ToyasCard.lean, 'card_holds'). Laid BY PROGRAM, IN A SANDBOX (cutbox-door.mjs). By AI agents, Wed Nov 11 2026. No macro, syntax, notation, axiom, sorry.
-/
import Derived.Test.YtokhnobcincfjaaGreatDoorRows
import GoSem.ClaimSeven
namespace Go.Proofs.YtokhnobcincfjaaGreatDoor
namespace Rows

/-- THE TIED CARD OF 'fellrunnertop.TopTurn'. -/
def topTurnCard : Claim7 := { stood := { row := topTurnRow, standIns := [], harness := (true, "da42663b157c0e2c9201d53d2b612aaa9a71c00bf70e57ad7a2c23afc0e13b6e"), looks := true }, kinds := [], alts := [], laidByText := true, laidKinds := [.data, .data, .data, .sentinel, .sentinel], laidTests := true, laidLooks := .later }
def TopTurnCardSaid : Prop := Claim7.holds Tryz.pinned (.plain (OpenSpec.ofChange topTurnSpec)) topTurnCard

/-- THE TIED CARD OF 'fellrunnertop.TopFrame'. -/
def topFrameCard : Claim7 := { stood := { row := topFrameRow, standIns := [], harness := (true, "da42663b157c0e2c9201d53d2b612aaa9a71c00bf70e57ad7a2c23afc0e13b6e"), looks := true }, kinds := [], alts := [], laidByText := true, laidKinds := [.data, .data, .data, .sentinel, .sentinel], laidTests := true, laidLooks := .later }
def TopFrameCardSaid : Prop := Claim7.holds Tryz.pinned (.plain (OpenSpec.ofChange topFrameSpec)) topFrameCard

/-- THE TIED CARD OF 'fellrunnertop.TopStill'. -/
def topStillCard : Claim7 := { stood := { row := topStillRow, standIns := [], harness := (true, "da42663b157c0e2c9201d53d2b612aaa9a71c00bf70e57ad7a2c23afc0e13b6e"), looks := true }, kinds := [], alts := [], laidByText := true, laidKinds := [.data, .data, .data, .sentinel, .sentinel], laidTests := true, laidLooks := .later }
def TopStillCardSaid : Prop := Claim7.holds Tryz.pinned (.plain (OpenSpec.ofChange topStillSpec)) topStillCard

/-- THE TIED CARD OF 'fellrunnertop.TopSave'. -/
def topSaveCard : Claim7 := { stood := { row := topSaveRow, standIns := [], harness := (true, "da42663b157c0e2c9201d53d2b612aaa9a71c00bf70e57ad7a2c23afc0e13b6e"), looks := true }, kinds := [], alts := [], laidByText := true, laidKinds := [.data, .data, .data, .sentinel, .sentinel], laidTests := true, laidLooks := .later }
def TopSaveCardSaid : Prop := Claim7.holds Tryz.pinned (.plain (OpenSpec.ofChange topSaveSpec)) topSaveCard

/-- THE TIED CARD OF 'fellrunnertop.TopUndo'. -/
def topUndoCard : Claim7 := { stood := { row := topUndoRow, standIns := [], harness := (true, "da42663b157c0e2c9201d53d2b612aaa9a71c00bf70e57ad7a2c23afc0e13b6e"), looks := true }, kinds := [], alts := [], laidByText := true, laidKinds := [.data, .data, .data, .sentinel, .sentinel], laidTests := true, laidLooks := .later }
def TopUndoCardSaid : Prop := Claim7.holds Tryz.pinned (.plain (OpenSpec.ofChange topUndoSpec)) topUndoCard

/-- THE TIED CARD OF 'fellrunnertop.TopEdits'. -/
def topEditsCard : Claim7 := { stood := { row := topEditsRow, standIns := [], harness := (true, "da42663b157c0e2c9201d53d2b612aaa9a71c00bf70e57ad7a2c23afc0e13b6e"), looks := true }, kinds := [], alts := [], laidByText := true, laidKinds := [.data, .data, .data, .sentinel, .sentinel], laidTests := true, laidLooks := .later }
def TopEditsCardSaid : Prop := Claim7.holds Tryz.pinned (.plain (OpenSpec.ofChange topEditsSpec)) topEditsCard

/-- THE TIED CARD OF 'fellrunnerlaw.NavSays'. -/
def navSaysCard : Claim7 := { stood := { row := navSaysRow, standIns := [], harness := (true, "da42663b157c0e2c9201d53d2b612aaa9a71c00bf70e57ad7a2c23afc0e13b6e"), looks := true }, kinds := [], alts := [], laidByText := true, laidKinds := [.data, .data, .data, .sentinel, .sentinel], laidTests := true, laidLooks := .later }
def NavSaysCardSaid : Prop := Claim7.holds Tryz.pinned (.plain (OpenSpec.ofChange navSaysSpec)) navSaysCard

/-- THE TIED CARD OF 'fellrunnerlaw.ConsoleSays'. -/
def consoleSaysCard : Claim7 := { stood := { row := consoleSaysRow, standIns := [], harness := (true, "da42663b157c0e2c9201d53d2b612aaa9a71c00bf70e57ad7a2c23afc0e13b6e"), looks := true }, kinds := [], alts := [], laidByText := true, laidKinds := [.data, .data, .data, .data, .sentinel, .sentinel, .pinned], laidTests := true, laidLooks := .later }
def ConsoleSaysCardSaid : Prop := Claim7.holds Tryz.pinned (.plain (OpenSpec.ofChange consoleSaysSpec)) consoleSaysCard

/-- THE SECOND FORM's CARD OF 'fellrunnertop.TopTurn'. -/
def topTurnUptoCard : Claim7 := { stood := { row := topTurnUptoRow, standIns := [], harness := (true, "da42663b157c0e2c9201d53d2b612aaa9a71c00bf70e57ad7a2c23afc0e13b6e"), looks := true }, kinds := [], alts := [], laidByText := true, laidKinds := [.data, .data, .data, .sentinel, .sentinel], laidTests := true, laidLooks := .later }
def TopTurnUptoCardSaid : Prop := Claim7.holds Tryz.pinned (.plain (OpenSpec.upto topTurnSpec)) topTurnUptoCard

/-- THE SECOND FORM's CARD OF 'fellrunnertop.TopFrame'. -/
def topFrameUptoCard : Claim7 := { stood := { row := topFrameUptoRow, standIns := [], harness := (true, "da42663b157c0e2c9201d53d2b612aaa9a71c00bf70e57ad7a2c23afc0e13b6e"), looks := true }, kinds := [], alts := [], laidByText := true, laidKinds := [.data, .data, .data, .sentinel, .sentinel], laidTests := true, laidLooks := .later }
def TopFrameUptoCardSaid : Prop := Claim7.holds Tryz.pinned (.plain (OpenSpec.upto topFrameSpec)) topFrameUptoCard

/-- THE SECOND FORM's CARD OF 'fellrunnertop.TopStill'. -/
def topStillUptoCard : Claim7 := { stood := { row := topStillUptoRow, standIns := [], harness := (true, "da42663b157c0e2c9201d53d2b612aaa9a71c00bf70e57ad7a2c23afc0e13b6e"), looks := true }, kinds := [], alts := [], laidByText := true, laidKinds := [.data, .data, .data, .sentinel, .sentinel], laidTests := true, laidLooks := .later }
def TopStillUptoCardSaid : Prop := Claim7.holds Tryz.pinned (.plain (OpenSpec.upto topStillSpec)) topStillUptoCard

/-- THE SECOND FORM's CARD OF 'fellrunnertop.TopSave'. -/
def topSaveUptoCard : Claim7 := { stood := { row := topSaveUptoRow, standIns := [], harness := (true, "da42663b157c0e2c9201d53d2b612aaa9a71c00bf70e57ad7a2c23afc0e13b6e"), looks := true }, kinds := [], alts := [], laidByText := true, laidKinds := [.data, .data, .data, .sentinel, .sentinel], laidTests := true, laidLooks := .later }
def TopSaveUptoCardSaid : Prop := Claim7.holds Tryz.pinned (.plain (OpenSpec.upto topSaveSpec)) topSaveUptoCard

/-- THE SECOND FORM's CARD OF 'fellrunnertop.TopUndo'. -/
def topUndoUptoCard : Claim7 := { stood := { row := topUndoUptoRow, standIns := [], harness := (true, "da42663b157c0e2c9201d53d2b612aaa9a71c00bf70e57ad7a2c23afc0e13b6e"), looks := true }, kinds := [], alts := [], laidByText := true, laidKinds := [.data, .data, .data, .sentinel, .sentinel], laidTests := true, laidLooks := .later }
def TopUndoUptoCardSaid : Prop := Claim7.holds Tryz.pinned (.plain (OpenSpec.upto topUndoSpec)) topUndoUptoCard

/-- THE SECOND FORM's CARD OF 'fellrunnertop.TopEdits'. -/
def topEditsUptoCard : Claim7 := { stood := { row := topEditsUptoRow, standIns := [], harness := (true, "da42663b157c0e2c9201d53d2b612aaa9a71c00bf70e57ad7a2c23afc0e13b6e"), looks := true }, kinds := [], alts := [], laidByText := true, laidKinds := [.data, .data, .data, .sentinel, .sentinel], laidTests := true, laidLooks := .later }
def TopEditsUptoCardSaid : Prop := Claim7.holds Tryz.pinned (.plain (OpenSpec.upto topEditsSpec)) topEditsUptoCard

/-- THE SECOND FORM's CARD OF 'fellrunnerlaw.NavSays'. -/
def navSaysUptoCard : Claim7 := { stood := { row := navSaysUptoRow, standIns := [], harness := (true, "da42663b157c0e2c9201d53d2b612aaa9a71c00bf70e57ad7a2c23afc0e13b6e"), looks := true }, kinds := [], alts := [], laidByText := true, laidKinds := [.data, .data, .data, .sentinel, .sentinel], laidTests := true, laidLooks := .later }
def NavSaysUptoCardSaid : Prop := Claim7.holds Tryz.pinned (.plain (OpenSpec.upto navSaysSpec)) navSaysUptoCard

/-- THE SECOND FORM's CARD OF 'fellrunnerlaw.ConsoleSays'. -/
def consoleSaysUptoCard : Claim7 := { stood := { row := consoleSaysUptoRow, standIns := [], harness := (true, "da42663b157c0e2c9201d53d2b612aaa9a71c00bf70e57ad7a2c23afc0e13b6e"), looks := true }, kinds := [], alts := [], laidByText := true, laidKinds := [.data, .data, .data, .data, .sentinel, .sentinel, .pinned], laidTests := true, laidLooks := .later }
def ConsoleSaysUptoCardSaid : Prop := Claim7.holds Tryz.pinned (.plain (OpenSpec.upto consoleSaysSpec)) consoleSaysUptoCard
end Rows
end Go.Proofs.YtokhnobcincfjaaGreatDoor
