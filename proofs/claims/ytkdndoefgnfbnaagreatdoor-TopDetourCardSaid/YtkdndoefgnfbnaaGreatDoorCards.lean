/-
  DERIVED. GIVEN WITH THE SEED: THE CARDS: each row of YtkdndoefgnfbnaaGreatDoorRows.lean that lists a variable, with what it lists TIED to the program's text (the seventh form; the later family's looks); each row that meets fmt, with fmt's text TOLD by the authors' own Lean function (tested against real Go, not proved from fmt's source: count such statements apart). THE CARD IS WHAT COUNTS. Prove the row's statement (the work); the ties are given (YtkdndoefgnfbnaaGreatDoorTie.lean); close each card by the builder's one call (the guide's Derived/Test/ToyasCard.lean, 'card_holds'). Laid BY PROGRAM, IN A SANDBOX (cutbox-door.mjs). By AI agents, Wed Nov 11 2026. No macro, syntax, notation, axiom, sorry.
-/
import Derived.Test.YtkdndoefgnfbnaaGreatDoorRows
import GoSem.ClaimSeven
namespace Go.Proofs.YtkdndoefgnfbnaaGreatDoor
namespace Rows

/-- THE TIED CARD OF 'fellrunnertop.TopBest'. -/
def topBestCard : Claim7 := { stood := { row := topBestRow, standIns := [], harness := (true, "42c7db43a59009f2d158f739a0e2ea0346f66e830b3cb9473025fd71ed351d4a"), looks := true }, kinds := [], alts := [], laidByText := true, laidKinds := [.data, .data, .data, .sentinel, .sentinel], laidTests := true, laidLooks := .later }
def TopBestCardSaid : Prop := Claim7.holds Tryz.pinned (.plain (OpenSpec.ofChange topBestSpec)) topBestCard

/-- THE TIED CARD OF 'fellrunnertop.TopParts'. -/
def topPartsCard : Claim7 := { stood := { row := topPartsRow, standIns := [], harness := (true, "42c7db43a59009f2d158f739a0e2ea0346f66e830b3cb9473025fd71ed351d4a"), looks := true }, kinds := [], alts := [], laidByText := true, laidKinds := [.data, .data, .data, .sentinel, .sentinel], laidTests := true, laidLooks := .later }
def TopPartsCardSaid : Prop := Claim7.holds Tryz.pinned (.plain (OpenSpec.ofChange topPartsSpec)) topPartsCard

/-- THE TIED CARD OF 'fellrunnertop.TopLook'. -/
def topLookCard : Claim7 := { stood := { row := topLookRow, standIns := [], harness := (true, "42c7db43a59009f2d158f739a0e2ea0346f66e830b3cb9473025fd71ed351d4a"), looks := true }, kinds := [], alts := [], laidByText := true, laidKinds := [.data, .data, .data, .sentinel, .sentinel], laidTests := true, laidLooks := .later }
def TopLookCardSaid : Prop := Claim7.holds Tryz.pinned (.plain (OpenSpec.ofChange topLookSpec)) topLookCard

/-- THE TIED CARD OF 'fellrunnertop.TopTurn'. -/
def topTurnCard : Claim7 := { stood := { row := topTurnRow, standIns := [], harness := (true, "42c7db43a59009f2d158f739a0e2ea0346f66e830b3cb9473025fd71ed351d4a"), looks := true }, kinds := [], alts := [], laidByText := true, laidKinds := [.data, .data, .data, .sentinel, .sentinel], laidTests := true, laidLooks := .later }
def TopTurnCardSaid : Prop := Claim7.holds Tryz.pinned (.plain (OpenSpec.ofChange topTurnSpec)) topTurnCard

/-- THE TIED CARD OF 'fellrunnertop.TopMost'. -/
def topMostCard : Claim7 := { stood := { row := topMostRow, standIns := [], harness := (true, "42c7db43a59009f2d158f739a0e2ea0346f66e830b3cb9473025fd71ed351d4a"), looks := true }, kinds := [], alts := [], laidByText := true, laidKinds := [.data, .data, .data, .sentinel, .sentinel], laidTests := true, laidLooks := .later }
def TopMostCardSaid : Prop := Claim7.holds Tryz.pinned (.plain (OpenSpec.ofChange topMostSpec)) topMostCard

/-- THE TIED CARD OF 'fellrunnertop.TopFrame'. -/
def topFrameCard : Claim7 := { stood := { row := topFrameRow, standIns := [], harness := (true, "42c7db43a59009f2d158f739a0e2ea0346f66e830b3cb9473025fd71ed351d4a"), looks := true }, kinds := [], alts := [], laidByText := true, laidKinds := [.data, .data, .data, .sentinel, .sentinel], laidTests := true, laidLooks := .later }
def TopFrameCardSaid : Prop := Claim7.holds Tryz.pinned (.plain (OpenSpec.ofChange topFrameSpec)) topFrameCard

/-- THE TIED CARD OF 'fellrunnertop.TopIsland'. -/
def topIslandCard : Claim7 := { stood := { row := topIslandRow, standIns := [], harness := (true, "42c7db43a59009f2d158f739a0e2ea0346f66e830b3cb9473025fd71ed351d4a"), looks := true }, kinds := [], alts := [], laidByText := true, laidKinds := [.data, .data, .data, .sentinel, .sentinel], laidTests := true, laidLooks := .later }
def TopIslandCardSaid : Prop := Claim7.holds Tryz.pinned (.plain (OpenSpec.ofChange topIslandSpec)) topIslandCard

/-- THE TIED CARD OF 'fellrunnertop.TopStill'. -/
def topStillCard : Claim7 := { stood := { row := topStillRow, standIns := [], harness := (true, "42c7db43a59009f2d158f739a0e2ea0346f66e830b3cb9473025fd71ed351d4a"), looks := true }, kinds := [], alts := [], laidByText := true, laidKinds := [.data, .data, .data, .sentinel, .sentinel], laidTests := true, laidLooks := .later }
def TopStillCardSaid : Prop := Claim7.holds Tryz.pinned (.plain (OpenSpec.ofChange topStillSpec)) topStillCard

/-- THE TIED CARD OF 'fellrunnertop.TopSave'. -/
def topSaveCard : Claim7 := { stood := { row := topSaveRow, standIns := [], harness := (true, "42c7db43a59009f2d158f739a0e2ea0346f66e830b3cb9473025fd71ed351d4a"), looks := true }, kinds := [], alts := [], laidByText := true, laidKinds := [.data, .data, .data, .sentinel, .sentinel], laidTests := true, laidLooks := .later }
def TopSaveCardSaid : Prop := Claim7.holds Tryz.pinned (.plain (OpenSpec.ofChange topSaveSpec)) topSaveCard

/-- THE TIED CARD OF 'fellrunnertop.TopWalls'. -/
def topWallsCard : Claim7 := { stood := { row := topWallsRow, standIns := [], harness := (true, "42c7db43a59009f2d158f739a0e2ea0346f66e830b3cb9473025fd71ed351d4a"), looks := true }, kinds := [], alts := [], laidByText := true, laidKinds := [.data, .data, .data, .sentinel, .sentinel], laidTests := true, laidLooks := .later }
def TopWallsCardSaid : Prop := Claim7.holds Tryz.pinned (.plain (OpenSpec.ofChange topWallsSpec)) topWallsCard

/-- THE TIED CARD OF 'fellrunnertop.TopDetour'. -/
def topDetourCard : Claim7 := { stood := { row := topDetourRow, standIns := [], harness := (true, "42c7db43a59009f2d158f739a0e2ea0346f66e830b3cb9473025fd71ed351d4a"), looks := true }, kinds := [], alts := [], laidByText := true, laidKinds := [.data, .data, .data, .sentinel, .sentinel], laidTests := true, laidLooks := .later }
def TopDetourCardSaid : Prop := Claim7.holds Tryz.pinned (.plain (OpenSpec.ofChange topDetourSpec)) topDetourCard

/-- THE TIED CARD OF 'fellrunnertop.TopUndo'. -/
def topUndoCard : Claim7 := { stood := { row := topUndoRow, standIns := [], harness := (true, "42c7db43a59009f2d158f739a0e2ea0346f66e830b3cb9473025fd71ed351d4a"), looks := true }, kinds := [], alts := [], laidByText := true, laidKinds := [.data, .data, .data, .sentinel, .sentinel], laidTests := true, laidLooks := .later }
def TopUndoCardSaid : Prop := Claim7.holds Tryz.pinned (.plain (OpenSpec.ofChange topUndoSpec)) topUndoCard

/-- THE TIED CARD OF 'fellrunnertop.TopEdits'. -/
def topEditsCard : Claim7 := { stood := { row := topEditsRow, standIns := [], harness := (true, "42c7db43a59009f2d158f739a0e2ea0346f66e830b3cb9473025fd71ed351d4a"), looks := true }, kinds := [], alts := [], laidByText := true, laidKinds := [.data, .data, .data, .sentinel, .sentinel], laidTests := true, laidLooks := .later }
def TopEditsCardSaid : Prop := Claim7.holds Tryz.pinned (.plain (OpenSpec.ofChange topEditsSpec)) topEditsCard

/-- THE SECOND FORM's CARD OF 'fellrunnertop.TopBest'. -/
def topBestUptoCard : Claim7 := { stood := { row := topBestUptoRow, standIns := [], harness := (true, "42c7db43a59009f2d158f739a0e2ea0346f66e830b3cb9473025fd71ed351d4a"), looks := true }, kinds := [], alts := [], laidByText := true, laidKinds := [.data, .data, .data, .sentinel, .sentinel], laidTests := true, laidLooks := .later }
def TopBestUptoCardSaid : Prop := Claim7.holds Tryz.pinned (.plain (OpenSpec.upto topBestSpec)) topBestUptoCard

/-- THE SECOND FORM's CARD OF 'fellrunnertop.TopParts'. -/
def topPartsUptoCard : Claim7 := { stood := { row := topPartsUptoRow, standIns := [], harness := (true, "42c7db43a59009f2d158f739a0e2ea0346f66e830b3cb9473025fd71ed351d4a"), looks := true }, kinds := [], alts := [], laidByText := true, laidKinds := [.data, .data, .data, .sentinel, .sentinel], laidTests := true, laidLooks := .later }
def TopPartsUptoCardSaid : Prop := Claim7.holds Tryz.pinned (.plain (OpenSpec.upto topPartsSpec)) topPartsUptoCard

/-- THE SECOND FORM's CARD OF 'fellrunnertop.TopLook'. -/
def topLookUptoCard : Claim7 := { stood := { row := topLookUptoRow, standIns := [], harness := (true, "42c7db43a59009f2d158f739a0e2ea0346f66e830b3cb9473025fd71ed351d4a"), looks := true }, kinds := [], alts := [], laidByText := true, laidKinds := [.data, .data, .data, .sentinel, .sentinel], laidTests := true, laidLooks := .later }
def TopLookUptoCardSaid : Prop := Claim7.holds Tryz.pinned (.plain (OpenSpec.upto topLookSpec)) topLookUptoCard

/-- THE SECOND FORM's CARD OF 'fellrunnertop.TopTurn'. -/
def topTurnUptoCard : Claim7 := { stood := { row := topTurnUptoRow, standIns := [], harness := (true, "42c7db43a59009f2d158f739a0e2ea0346f66e830b3cb9473025fd71ed351d4a"), looks := true }, kinds := [], alts := [], laidByText := true, laidKinds := [.data, .data, .data, .sentinel, .sentinel], laidTests := true, laidLooks := .later }
def TopTurnUptoCardSaid : Prop := Claim7.holds Tryz.pinned (.plain (OpenSpec.upto topTurnSpec)) topTurnUptoCard

/-- THE SECOND FORM's CARD OF 'fellrunnertop.TopMost'. -/
def topMostUptoCard : Claim7 := { stood := { row := topMostUptoRow, standIns := [], harness := (true, "42c7db43a59009f2d158f739a0e2ea0346f66e830b3cb9473025fd71ed351d4a"), looks := true }, kinds := [], alts := [], laidByText := true, laidKinds := [.data, .data, .data, .sentinel, .sentinel], laidTests := true, laidLooks := .later }
def TopMostUptoCardSaid : Prop := Claim7.holds Tryz.pinned (.plain (OpenSpec.upto topMostSpec)) topMostUptoCard

/-- THE SECOND FORM's CARD OF 'fellrunnertop.TopFrame'. -/
def topFrameUptoCard : Claim7 := { stood := { row := topFrameUptoRow, standIns := [], harness := (true, "42c7db43a59009f2d158f739a0e2ea0346f66e830b3cb9473025fd71ed351d4a"), looks := true }, kinds := [], alts := [], laidByText := true, laidKinds := [.data, .data, .data, .sentinel, .sentinel], laidTests := true, laidLooks := .later }
def TopFrameUptoCardSaid : Prop := Claim7.holds Tryz.pinned (.plain (OpenSpec.upto topFrameSpec)) topFrameUptoCard

/-- THE SECOND FORM's CARD OF 'fellrunnertop.TopIsland'. -/
def topIslandUptoCard : Claim7 := { stood := { row := topIslandUptoRow, standIns := [], harness := (true, "42c7db43a59009f2d158f739a0e2ea0346f66e830b3cb9473025fd71ed351d4a"), looks := true }, kinds := [], alts := [], laidByText := true, laidKinds := [.data, .data, .data, .sentinel, .sentinel], laidTests := true, laidLooks := .later }
def TopIslandUptoCardSaid : Prop := Claim7.holds Tryz.pinned (.plain (OpenSpec.upto topIslandSpec)) topIslandUptoCard

/-- THE SECOND FORM's CARD OF 'fellrunnertop.TopStill'. -/
def topStillUptoCard : Claim7 := { stood := { row := topStillUptoRow, standIns := [], harness := (true, "42c7db43a59009f2d158f739a0e2ea0346f66e830b3cb9473025fd71ed351d4a"), looks := true }, kinds := [], alts := [], laidByText := true, laidKinds := [.data, .data, .data, .sentinel, .sentinel], laidTests := true, laidLooks := .later }
def TopStillUptoCardSaid : Prop := Claim7.holds Tryz.pinned (.plain (OpenSpec.upto topStillSpec)) topStillUptoCard

/-- THE SECOND FORM's CARD OF 'fellrunnertop.TopSave'. -/
def topSaveUptoCard : Claim7 := { stood := { row := topSaveUptoRow, standIns := [], harness := (true, "42c7db43a59009f2d158f739a0e2ea0346f66e830b3cb9473025fd71ed351d4a"), looks := true }, kinds := [], alts := [], laidByText := true, laidKinds := [.data, .data, .data, .sentinel, .sentinel], laidTests := true, laidLooks := .later }
def TopSaveUptoCardSaid : Prop := Claim7.holds Tryz.pinned (.plain (OpenSpec.upto topSaveSpec)) topSaveUptoCard

/-- THE SECOND FORM's CARD OF 'fellrunnertop.TopWalls'. -/
def topWallsUptoCard : Claim7 := { stood := { row := topWallsUptoRow, standIns := [], harness := (true, "42c7db43a59009f2d158f739a0e2ea0346f66e830b3cb9473025fd71ed351d4a"), looks := true }, kinds := [], alts := [], laidByText := true, laidKinds := [.data, .data, .data, .sentinel, .sentinel], laidTests := true, laidLooks := .later }
def TopWallsUptoCardSaid : Prop := Claim7.holds Tryz.pinned (.plain (OpenSpec.upto topWallsSpec)) topWallsUptoCard

/-- THE SECOND FORM's CARD OF 'fellrunnertop.TopDetour'. -/
def topDetourUptoCard : Claim7 := { stood := { row := topDetourUptoRow, standIns := [], harness := (true, "42c7db43a59009f2d158f739a0e2ea0346f66e830b3cb9473025fd71ed351d4a"), looks := true }, kinds := [], alts := [], laidByText := true, laidKinds := [.data, .data, .data, .sentinel, .sentinel], laidTests := true, laidLooks := .later }
def TopDetourUptoCardSaid : Prop := Claim7.holds Tryz.pinned (.plain (OpenSpec.upto topDetourSpec)) topDetourUptoCard

/-- THE SECOND FORM's CARD OF 'fellrunnertop.TopUndo'. -/
def topUndoUptoCard : Claim7 := { stood := { row := topUndoUptoRow, standIns := [], harness := (true, "42c7db43a59009f2d158f739a0e2ea0346f66e830b3cb9473025fd71ed351d4a"), looks := true }, kinds := [], alts := [], laidByText := true, laidKinds := [.data, .data, .data, .sentinel, .sentinel], laidTests := true, laidLooks := .later }
def TopUndoUptoCardSaid : Prop := Claim7.holds Tryz.pinned (.plain (OpenSpec.upto topUndoSpec)) topUndoUptoCard

/-- THE SECOND FORM's CARD OF 'fellrunnertop.TopEdits'. -/
def topEditsUptoCard : Claim7 := { stood := { row := topEditsUptoRow, standIns := [], harness := (true, "42c7db43a59009f2d158f739a0e2ea0346f66e830b3cb9473025fd71ed351d4a"), looks := true }, kinds := [], alts := [], laidByText := true, laidKinds := [.data, .data, .data, .sentinel, .sentinel], laidTests := true, laidLooks := .later }
def TopEditsUptoCardSaid : Prop := Claim7.holds Tryz.pinned (.plain (OpenSpec.upto topEditsSpec)) topEditsUptoCard
end Rows
end Go.Proofs.YtkdndoefgnfbnaaGreatDoor
