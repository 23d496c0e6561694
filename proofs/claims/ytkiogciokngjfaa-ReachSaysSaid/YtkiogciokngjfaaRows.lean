/-
  No cell of these rows narrows 'for every input' (looked for: loops, veiled, ifaces, maps, wideKeys, modest, calm, conditions, laid).
  DERIVED. THE GIVEN ROWS OF THIS SEAT. 18 by the template 'for every input the law returns true; each argument reads behind the call as it read before'; 0 by the template 'total and deterministic' (their statements: YtkiogciokngjfaaTotals.lean).
  GIVEN WITH THE SEED: the statements are not yours to turn. If you find one false, say at which input.
  Laid BY PROGRAM, IN A SANDBOX (cutbox-rows.mjs): the forced cells as the released guide's own fill.sh prints them over the translation cabdec40e6785331… (all of the seat's roots in one cut). By AI agents, Wed Nov 11 2026. No macro, syntax, notation, axiom, sorry.
-/
import Derived.Test.YtkiogciokngjfaaChecked
import GoSem.Claim
import GoSem.ClaimJoined
import GoSem.ClaimMapViews
import Derived.JoinedTies
import Derived.KernelRfl
namespace Go.Proofs.Ytkiogciokngjfaa
/- THE CELL 'sum', in the pinned program and in every row, IS THE sha256 OF THE DUMP (.gsa) THAT YtkiogciokngjfaaProg.lean LOADS. Nothing in Lean hashes anything: it is a label: what it is worth is what the hold of that sum in a sandbox is worth. -/
noncomputable def Try.pinned : Pinned := { name := "ytkiogciokngjfaa", sum := "cabdec40e6785331b25c5d03bf079d4a9e68f27f7eecc346d882807ebb6bc695", checked := Try.checked }
namespace Rows
def none {H : Type} : Left H := { results := [], args := [] }

/-- 'fellrunnerlaw.CostSays': WHATEVER THE INPUT: true; the input reads as it did. -/
def costSaysSpec : ChangeSpec := { name := "costSays", fn := fun _ => fun
  | [d1, d2, d3, d4, d5, d6] => { results := [.lit (.bool true)], args := [d1, d2, d3, d4, d5, d6] }
  | _ => none }
def costSaysRow : OpenClaim := { program := "ytkiogciokngjfaa", sum := "cabdec40e6785331b25c5d03bf079d4a9e68f27f7eecc346d882807ebb6bc695", func := "fellrunner/fellrunnerlaw.CostSays", spec := "costSays", plainKeys := false, apart := false }
def CostSaysSaid : Prop := costSaysRow.holds Try.pinned (OpenSpec.ofChange costSaysSpec)

/-- ITS FALSE NEIGHBOUR: 'it returns false'. Refute it at one input. -/
def costSaysWrong : ChangeSpec := { name := "costSays", fn := fun _ => fun
  | [d1, d2, d3, d4, d5, d6] => { results := [.lit (.bool false)], args := [d1, d2, d3, d4, d5, d6] }
  | _ => none }
def CostSaysWrongFalsely : Prop := costSaysRow.holds Try.pinned (OpenSpec.ofChange costSaysWrong)

/-- 'fellrunnerlaw.CornerSays': WHATEVER THE INPUT: true; the input reads as it did. -/
def cornerSaysSpec : ChangeSpec := { name := "cornerSays", fn := fun _ => fun
  | [d1, d2] => { results := [.lit (.bool true)], args := [d1, d2] }
  | _ => none }
def cornerSaysRow : OpenClaim := { program := "ytkiogciokngjfaa", sum := "cabdec40e6785331b25c5d03bf079d4a9e68f27f7eecc346d882807ebb6bc695", func := "fellrunner/fellrunnerlaw.CornerSays", spec := "cornerSays", plainKeys := false, apart := false }
def CornerSaysSaid : Prop := cornerSaysRow.holds Try.pinned (OpenSpec.ofChange cornerSaysSpec)

/-- ITS FALSE NEIGHBOUR: 'it returns false'. Refute it at one input. -/
def cornerSaysWrong : ChangeSpec := { name := "cornerSays", fn := fun _ => fun
  | [d1, d2] => { results := [.lit (.bool false)], args := [d1, d2] }
  | _ => none }
def CornerSaysWrongFalsely : Prop := cornerSaysRow.holds Try.pinned (OpenSpec.ofChange cornerSaysWrong)

/-- 'fellrunnerlaw.GridSays': WHATEVER THE INPUT: true; the input reads as it did. -/
def gridSaysSpec : ChangeSpec := { name := "gridSays", fn := fun _ => fun
  | [d1, d2, d3, d4] => { results := [.lit (.bool true)], args := [d1, d2, d3, d4] }
  | _ => none }
def gridSaysRow : OpenClaim := { program := "ytkiogciokngjfaa", sum := "cabdec40e6785331b25c5d03bf079d4a9e68f27f7eecc346d882807ebb6bc695", func := "fellrunner/fellrunnerlaw.GridSays", spec := "gridSays", plainKeys := false, apart := false }
def GridSaysSaid : Prop := gridSaysRow.holds Try.pinned (OpenSpec.ofChange gridSaysSpec)

/-- ITS FALSE NEIGHBOUR: 'it returns false'. Refute it at one input. -/
def gridSaysWrong : ChangeSpec := { name := "gridSays", fn := fun _ => fun
  | [d1, d2, d3, d4] => { results := [.lit (.bool false)], args := [d1, d2, d3, d4] }
  | _ => none }
def GridSaysWrongFalsely : Prop := gridSaysRow.holds Try.pinned (OpenSpec.ofChange gridSaysWrong)

/-- 'fellrunnerlaw.ClearSays': WHATEVER THE INPUT: true; the input reads as it did. -/
def clearSaysSpec : ChangeSpec := { name := "clearSays", fn := fun _ => fun
  | [d1, d2, d3] => { results := [.lit (.bool true)], args := [d1, d2, d3] }
  | _ => none }
def clearSaysRow : OpenClaim := { program := "ytkiogciokngjfaa", sum := "cabdec40e6785331b25c5d03bf079d4a9e68f27f7eecc346d882807ebb6bc695", func := "fellrunner/fellrunnerlaw.ClearSays", spec := "clearSays", plainKeys := false, apart := false }
def ClearSaysSaid : Prop := clearSaysRow.holds Try.pinned (OpenSpec.ofChange clearSaysSpec)

/-- ITS FALSE NEIGHBOUR: 'it returns false'. Refute it at one input. -/
def clearSaysWrong : ChangeSpec := { name := "clearSays", fn := fun _ => fun
  | [d1, d2, d3] => { results := [.lit (.bool false)], args := [d1, d2, d3] }
  | _ => none }
def ClearSaysWrongFalsely : Prop := clearSaysRow.holds Try.pinned (OpenSpec.ofChange clearSaysWrong)

/-- 'fellrunnerlaw.HeapSays': WHATEVER THE INPUT: true; the input reads as it did. -/
def heapSaysSpec : ChangeSpec := { name := "heapSays", fn := fun _ => fun
  | [d] => { results := [.lit (.bool true)], args := [d] }
  | _ => none }
def heapSaysRow : OpenClaim := { program := "ytkiogciokngjfaa", sum := "cabdec40e6785331b25c5d03bf079d4a9e68f27f7eecc346d882807ebb6bc695", func := "fellrunner/fellrunnerlaw.HeapSays", spec := "heapSays", plainKeys := false, apart := false }
def HeapSaysSaid : Prop := heapSaysRow.holds Try.pinned (OpenSpec.ofChange heapSaysSpec)

/-- ITS FALSE NEIGHBOUR: 'it returns false'. Refute it at one input. -/
def heapSaysWrong : ChangeSpec := { name := "heapSays", fn := fun _ => fun
  | [d] => { results := [.lit (.bool false)], args := [d] }
  | _ => none }
def HeapSaysWrongFalsely : Prop := heapSaysRow.holds Try.pinned (OpenSpec.ofChange heapSaysWrong)

/-- 'fellrunnerlaw.ReachSays': WHATEVER THE INPUT: true; the input reads as it did. -/
def reachSaysSpec : ChangeSpec := { name := "reachSays", fn := fun _ => fun
  | [d1, d2, d3] => { results := [.lit (.bool true)], args := [d1, d2, d3] }
  | _ => none }
def reachSaysRow : OpenClaim := { program := "ytkiogciokngjfaa", sum := "cabdec40e6785331b25c5d03bf079d4a9e68f27f7eecc346d882807ebb6bc695", func := "fellrunner/fellrunnerlaw.ReachSays", spec := "reachSays", plainKeys := false, apart := false }
def ReachSaysSaid : Prop := reachSaysRow.holds Try.pinned (OpenSpec.ofChange reachSaysSpec)

/-- ITS FALSE NEIGHBOUR: 'it returns false'. Refute it at one input. -/
def reachSaysWrong : ChangeSpec := { name := "reachSays", fn := fun _ => fun
  | [d1, d2, d3] => { results := [.lit (.bool false)], args := [d1, d2, d3] }
  | _ => none }
def ReachSaysWrongFalsely : Prop := reachSaysRow.holds Try.pinned (OpenSpec.ofChange reachSaysWrong)

/-- 'fellrunnerlaw.FloodSays': WHATEVER THE INPUT: true; the input reads as it did. -/
def floodSaysSpec : ChangeSpec := { name := "floodSays", fn := fun _ => fun
  | [d1, d2, d3] => { results := [.lit (.bool true)], args := [d1, d2, d3] }
  | _ => none }
def floodSaysRow : OpenClaim := { program := "ytkiogciokngjfaa", sum := "cabdec40e6785331b25c5d03bf079d4a9e68f27f7eecc346d882807ebb6bc695", func := "fellrunner/fellrunnerlaw.FloodSays", spec := "floodSays", unfollowed := true, recurses := true, plainKeys := false, apart := false }
def FloodSaysSaid : Prop := floodSaysRow.holds Try.pinned (OpenSpec.ofChange floodSaysSpec)

/-- ITS FALSE NEIGHBOUR: 'it returns false'. Refute it at one input. -/
def floodSaysWrong : ChangeSpec := { name := "floodSays", fn := fun _ => fun
  | [d1, d2, d3] => { results := [.lit (.bool false)], args := [d1, d2, d3] }
  | _ => none }
def FloodSaysWrongFalsely : Prop := floodSaysRow.holds Try.pinned (OpenSpec.ofChange floodSaysWrong)

/-- 'fellrunnertop.TopCost': WHATEVER THE INPUT: true; the input reads as it did. -/
def topCostSpec : ChangeSpec := { name := "topCost", fn := fun _ => fun
  | [d1, d2, d3] => { results := [.lit (.bool true)], args := [d1, d2, d3] }
  | _ => none }
def topCostRow : OpenClaim := { program := "ytkiogciokngjfaa", sum := "cabdec40e6785331b25c5d03bf079d4a9e68f27f7eecc346d882807ebb6bc695", func := "fellrunner/fellrunnertop.TopCost", spec := "topCost", plainKeys := false, apart := false }
def TopCostSaid : Prop := topCostRow.holds Try.pinned (OpenSpec.ofChange topCostSpec)

/-- ITS FALSE NEIGHBOUR: 'it returns false'. Refute it at one input. -/
def topCostWrong : ChangeSpec := { name := "topCost", fn := fun _ => fun
  | [d1, d2, d3] => { results := [.lit (.bool false)], args := [d1, d2, d3] }
  | _ => none }
def TopCostWrongFalsely : Prop := topCostRow.holds Try.pinned (OpenSpec.ofChange topCostWrong)

/-- 'fellrunnertop.TopOctile': WHATEVER THE INPUT: true; the input reads as it did. -/
def topOctileSpec : ChangeSpec := { name := "topOctile", fn := fun _ => fun
  | [d1, d2, d3, d4, d5, d6] => { results := [.lit (.bool true)], args := [d1, d2, d3, d4, d5, d6] }
  | _ => none }
def topOctileRow : OpenClaim := { program := "ytkiogciokngjfaa", sum := "cabdec40e6785331b25c5d03bf079d4a9e68f27f7eecc346d882807ebb6bc695", func := "fellrunner/fellrunnertop.TopOctile", spec := "topOctile", plainKeys := false, apart := false }
def TopOctileSaid : Prop := topOctileRow.holds Try.pinned (OpenSpec.ofChange topOctileSpec)

/-- ITS FALSE NEIGHBOUR: 'it returns false'. Refute it at one input. -/
def topOctileWrong : ChangeSpec := { name := "topOctile", fn := fun _ => fun
  | [d1, d2, d3, d4, d5, d6] => { results := [.lit (.bool false)], args := [d1, d2, d3, d4, d5, d6] }
  | _ => none }
def TopOctileWrongFalsely : Prop := topOctileRow.holds Try.pinned (OpenSpec.ofChange topOctileWrong)

/-- 'fellrunnertop.TopMoves': WHATEVER THE INPUT: true; the input reads as it did. -/
def topMovesSpec : ChangeSpec := { name := "topMoves", fn := fun _ => fun
  | [d] => { results := [.lit (.bool true)], args := [d] }
  | _ => none }
def topMovesRow : OpenClaim := { program := "ytkiogciokngjfaa", sum := "cabdec40e6785331b25c5d03bf079d4a9e68f27f7eecc346d882807ebb6bc695", func := "fellrunner/fellrunnertop.TopMoves", spec := "topMoves", plainKeys := false, apart := false }
def TopMovesSaid : Prop := topMovesRow.holds Try.pinned (OpenSpec.ofChange topMovesSpec)

/-- ITS FALSE NEIGHBOUR: 'it returns false'. Refute it at one input. -/
def topMovesWrong : ChangeSpec := { name := "topMoves", fn := fun _ => fun
  | [d] => { results := [.lit (.bool false)], args := [d] }
  | _ => none }
def TopMovesWrongFalsely : Prop := topMovesRow.holds Try.pinned (OpenSpec.ofChange topMovesWrong)

/-- 'fellrunnertop.TopHeap': WHATEVER THE INPUT: true; the input reads as it did. -/
def topHeapSpec : ChangeSpec := { name := "topHeap", fn := fun _ => fun
  | [d1, d2] => { results := [.lit (.bool true)], args := [d1, d2] }
  | _ => none }
def topHeapRow : OpenClaim := { program := "ytkiogciokngjfaa", sum := "cabdec40e6785331b25c5d03bf079d4a9e68f27f7eecc346d882807ebb6bc695", func := "fellrunner/fellrunnertop.TopHeap", spec := "topHeap", plainKeys := false, apart := false }
def TopHeapSaid : Prop := topHeapRow.holds Try.pinned (OpenSpec.ofChange topHeapSpec)

/-- ITS FALSE NEIGHBOUR: 'it returns false'. Refute it at one input. -/
def topHeapWrong : ChangeSpec := { name := "topHeap", fn := fun _ => fun
  | [d1, d2] => { results := [.lit (.bool false)], args := [d1, d2] }
  | _ => none }
def TopHeapWrongFalsely : Prop := topHeapRow.holds Try.pinned (OpenSpec.ofChange topHeapWrong)

/-- 'fellrunnertop.TopClear': WHATEVER THE INPUT: true; the input reads as it did. -/
def topClearSpec : ChangeSpec := { name := "topClear", fn := fun _ => fun
  | [d1, d2] => { results := [.lit (.bool true)], args := [d1, d2] }
  | _ => none }
def topClearRow : OpenClaim := { program := "ytkiogciokngjfaa", sum := "cabdec40e6785331b25c5d03bf079d4a9e68f27f7eecc346d882807ebb6bc695", func := "fellrunner/fellrunnertop.TopClear", spec := "topClear", plainKeys := false, apart := false }
def TopClearSaid : Prop := topClearRow.holds Try.pinned (OpenSpec.ofChange topClearSpec)

/-- ITS FALSE NEIGHBOUR: 'it returns false'. Refute it at one input. -/
def topClearWrong : ChangeSpec := { name := "topClear", fn := fun _ => fun
  | [d1, d2] => { results := [.lit (.bool false)], args := [d1, d2] }
  | _ => none }
def TopClearWrongFalsely : Prop := topClearRow.holds Try.pinned (OpenSpec.ofChange topClearWrong)

/-- 'fellrunnertop.TopCorner': WHATEVER THE INPUT: true; the input reads as it did. -/
def topCornerSpec : ChangeSpec := { name := "topCorner", fn := fun _ => fun
  | [d1, d2, d3] => { results := [.lit (.bool true)], args := [d1, d2, d3] }
  | _ => none }
def topCornerRow : OpenClaim := { program := "ytkiogciokngjfaa", sum := "cabdec40e6785331b25c5d03bf079d4a9e68f27f7eecc346d882807ebb6bc695", func := "fellrunner/fellrunnertop.TopCorner", spec := "topCorner", plainKeys := false, apart := false }
def TopCornerSaid : Prop := topCornerRow.holds Try.pinned (OpenSpec.ofChange topCornerSpec)

/-- ITS FALSE NEIGHBOUR: 'it returns false'. Refute it at one input. -/
def topCornerWrong : ChangeSpec := { name := "topCorner", fn := fun _ => fun
  | [d1, d2, d3] => { results := [.lit (.bool false)], args := [d1, d2, d3] }
  | _ => none }
def TopCornerWrongFalsely : Prop := topCornerRow.holds Try.pinned (OpenSpec.ofChange topCornerWrong)

/-- 'fellrunnertop.TopFlood': WHATEVER THE INPUT: true; the input reads as it did. -/
def topFloodSpec : ChangeSpec := { name := "topFlood", fn := fun _ => fun
  | [d1, d2] => { results := [.lit (.bool true)], args := [d1, d2] }
  | _ => none }
def topFloodRow : OpenClaim := { program := "ytkiogciokngjfaa", sum := "cabdec40e6785331b25c5d03bf079d4a9e68f27f7eecc346d882807ebb6bc695", func := "fellrunner/fellrunnertop.TopFlood", spec := "topFlood", plainKeys := false, apart := false }
def TopFloodSaid : Prop := topFloodRow.holds Try.pinned (OpenSpec.ofChange topFloodSpec)

/-- ITS FALSE NEIGHBOUR: 'it returns false'. Refute it at one input. -/
def topFloodWrong : ChangeSpec := { name := "topFlood", fn := fun _ => fun
  | [d1, d2] => { results := [.lit (.bool false)], args := [d1, d2] }
  | _ => none }
def TopFloodWrongFalsely : Prop := topFloodRow.holds Try.pinned (OpenSpec.ofChange topFloodWrong)

/-- 'fellrunnertop.TopNear': WHATEVER THE INPUT: true; the input reads as it did. -/
def topNearSpec : ChangeSpec := { name := "topNear", fn := fun _ => fun
  | [d1, d2, d3] => { results := [.lit (.bool true)], args := [d1, d2, d3] }
  | _ => none }
def topNearRow : OpenClaim := { program := "ytkiogciokngjfaa", sum := "cabdec40e6785331b25c5d03bf079d4a9e68f27f7eecc346d882807ebb6bc695", func := "fellrunner/fellrunnertop.TopNear", spec := "topNear", plainKeys := false, apart := false }
def TopNearSaid : Prop := topNearRow.holds Try.pinned (OpenSpec.ofChange topNearSpec)

/-- ITS FALSE NEIGHBOUR: 'it returns false'. Refute it at one input. -/
def topNearWrong : ChangeSpec := { name := "topNear", fn := fun _ => fun
  | [d1, d2, d3] => { results := [.lit (.bool false)], args := [d1, d2, d3] }
  | _ => none }
def TopNearWrongFalsely : Prop := topNearRow.holds Try.pinned (OpenSpec.ofChange topNearWrong)

/-- 'fellrunnertop.TopGraph': WHATEVER THE INPUT: true; the input reads as it did. -/
def topGraphSpec : ChangeSpec := { name := "topGraph", fn := fun _ => fun
  | [d] => { results := [.lit (.bool true)], args := [d] }
  | _ => none }
def topGraphRow : OpenClaim := { program := "ytkiogciokngjfaa", sum := "cabdec40e6785331b25c5d03bf079d4a9e68f27f7eecc346d882807ebb6bc695", func := "fellrunner/fellrunnertop.TopGraph", spec := "topGraph", inPlace := ["slices.overlaps[fellrunner/api.Edge]"], unfollowed := true, recurses := true, plainKeys := false, apart := false }
def TopGraphSaid : Prop := topGraphRow.holds Try.pinned (OpenSpec.ofChange topGraphSpec)

/-- ITS FALSE NEIGHBOUR: 'it returns false'. Refute it at one input. -/
def topGraphWrong : ChangeSpec := { name := "topGraph", fn := fun _ => fun
  | [d] => { results := [.lit (.bool false)], args := [d] }
  | _ => none }
def TopGraphWrongFalsely : Prop := topGraphRow.holds Try.pinned (OpenSpec.ofChange topGraphWrong)

/-- 'fellrunnertop.TopRepair': WHATEVER THE INPUT: true; the input reads as it did. -/
def topRepairSpec : ChangeSpec := { name := "topRepair", fn := fun _ => fun
  | [d1, d2] => { results := [.lit (.bool true)], args := [d1, d2] }
  | _ => none }
def topRepairRow : OpenClaim := { program := "ytkiogciokngjfaa", sum := "cabdec40e6785331b25c5d03bf079d4a9e68f27f7eecc346d882807ebb6bc695", func := "fellrunner/fellrunnertop.TopRepair", spec := "topRepair", inPlace := ["slices.overlaps[fellrunner/api.Edge]"], unfollowed := true, recurses := true, plainKeys := false, apart := false }
def TopRepairSaid : Prop := topRepairRow.holds Try.pinned (OpenSpec.ofChange topRepairSpec)

/-- ITS FALSE NEIGHBOUR: 'it returns false'. Refute it at one input. -/
def topRepairWrong : ChangeSpec := { name := "topRepair", fn := fun _ => fun
  | [d1, d2] => { results := [.lit (.bool false)], args := [d1, d2] }
  | _ => none }
def TopRepairWrongFalsely : Prop := topRepairRow.holds Try.pinned (OpenSpec.ofChange topRepairWrong)

/-- 'fellrunnertop.TopLevels': WHATEVER THE INPUT: true; the input reads as it did. -/
def topLevelsSpec : ChangeSpec := { name := "topLevels", fn := fun _ => fun
  | [d1, d2] => { results := [.lit (.bool true)], args := [d1, d2] }
  | _ => none }
def topLevelsRow : OpenClaim := { program := "ytkiogciokngjfaa", sum := "cabdec40e6785331b25c5d03bf079d4a9e68f27f7eecc346d882807ebb6bc695", func := "fellrunner/fellrunnertop.TopLevels", spec := "topLevels", inPlace := ["slices.overlaps[fellrunner/api.Edge]"], unfollowed := true, recurses := true, plainKeys := false, apart := false }
def TopLevelsSaid : Prop := topLevelsRow.holds Try.pinned (OpenSpec.ofChange topLevelsSpec)

/-- ITS FALSE NEIGHBOUR: 'it returns false'. Refute it at one input. -/
def topLevelsWrong : ChangeSpec := { name := "topLevels", fn := fun _ => fun
  | [d1, d2] => { results := [.lit (.bool false)], args := [d1, d2] }
  | _ => none }
def TopLevelsWrongFalsely : Prop := topLevelsRow.holds Try.pinned (OpenSpec.ofChange topLevelsWrong)

/- THE SECOND FORM. 'bulk': how many values and letters a reading holds, each counted each time it is reached (what is shared counts as often as it is met; a slice's spare places count too). A statement '..UptoSaid' is the law's where the arguments, and the package variables that the reading takes, are together of bulk at most 1048576: NARROWER than '..Said'. Prove '..Said' where nothing that the law and all that it calls make is longer than what came in: it says more and counts as full. Else prove '..UptoSaid'. A law counts once. -/
mutual
def uptoBulk {H : Type} : DataW H → Nat
  | .lit (.string bytes) => bytes.length + 1
  | .lit _ => 1
  | .nil => 1
  | .ptr d => uptoBulk d + 1
  | .slice elems spare => uptoBulkAll elems + uptoBulkAll spare + 1
  | .agg parts => uptoBulkAll parts + 1
  | .iface _ d => uptoBulk d + 1
  | .map entries => uptoBulkEntries entries + 1
  | .held _ => 1
def uptoBulkAll {H : Type} : List (DataW H) → Nat
  | [] => 0
  | d :: r => uptoBulk d + uptoBulkAll r
def uptoBulkEntries {H : Type} : List (Lit × DataW H) → Nat
  | [] => 0
  | x :: r => uptoBulkEntry x + uptoBulkEntries r
def uptoBulkEntry {H : Type} : Lit × DataW H → Nat
  | (.string bytes, d) => bytes.length + uptoBulk d + 1
  | (_, d) => uptoBulk d + 1
 end
def uptoSmall : (H : Type) → List (DataW H) → Bool := fun _ ds => decide (uptoBulkAll ds ≤ 1048576)
def OpenSpec.upto (s : _root_.Go.ChangeSpec) : _root_.Go.OpenSpec := { _root_.Go.OpenSpec.ofChange s with cond := some uptoSmall }

/-- 'fellrunnerlaw.CostSays', WHERE WHAT IT READS IS OF BULK AT MOST 1048576: true; the input reads as it did. -/
def costSaysUptoRow : OpenClaim := { program := "ytkiogciokngjfaa", sum := "cabdec40e6785331b25c5d03bf079d4a9e68f27f7eecc346d882807ebb6bc695", func := "fellrunner/fellrunnerlaw.CostSays", spec := "costSays", plainKeys := false, apart := false, narrowed := true }
def CostSaysUptoSaid : Prop := costSaysUptoRow.holds Try.pinned (OpenSpec.upto costSaysSpec)

/-- 'fellrunnerlaw.CornerSays', WHERE WHAT IT READS IS OF BULK AT MOST 1048576: true; the input reads as it did. -/
def cornerSaysUptoRow : OpenClaim := { program := "ytkiogciokngjfaa", sum := "cabdec40e6785331b25c5d03bf079d4a9e68f27f7eecc346d882807ebb6bc695", func := "fellrunner/fellrunnerlaw.CornerSays", spec := "cornerSays", plainKeys := false, apart := false, narrowed := true }
def CornerSaysUptoSaid : Prop := cornerSaysUptoRow.holds Try.pinned (OpenSpec.upto cornerSaysSpec)

/-- 'fellrunnerlaw.GridSays', WHERE WHAT IT READS IS OF BULK AT MOST 1048576: true; the input reads as it did. -/
def gridSaysUptoRow : OpenClaim := { program := "ytkiogciokngjfaa", sum := "cabdec40e6785331b25c5d03bf079d4a9e68f27f7eecc346d882807ebb6bc695", func := "fellrunner/fellrunnerlaw.GridSays", spec := "gridSays", plainKeys := false, apart := false, narrowed := true }
def GridSaysUptoSaid : Prop := gridSaysUptoRow.holds Try.pinned (OpenSpec.upto gridSaysSpec)

/-- 'fellrunnerlaw.ClearSays', WHERE WHAT IT READS IS OF BULK AT MOST 1048576: true; the input reads as it did. -/
def clearSaysUptoRow : OpenClaim := { program := "ytkiogciokngjfaa", sum := "cabdec40e6785331b25c5d03bf079d4a9e68f27f7eecc346d882807ebb6bc695", func := "fellrunner/fellrunnerlaw.ClearSays", spec := "clearSays", plainKeys := false, apart := false, narrowed := true }
def ClearSaysUptoSaid : Prop := clearSaysUptoRow.holds Try.pinned (OpenSpec.upto clearSaysSpec)

/-- 'fellrunnerlaw.HeapSays', WHERE WHAT IT READS IS OF BULK AT MOST 1048576: true; the input reads as it did. -/
def heapSaysUptoRow : OpenClaim := { program := "ytkiogciokngjfaa", sum := "cabdec40e6785331b25c5d03bf079d4a9e68f27f7eecc346d882807ebb6bc695", func := "fellrunner/fellrunnerlaw.HeapSays", spec := "heapSays", plainKeys := false, apart := false, narrowed := true }
def HeapSaysUptoSaid : Prop := heapSaysUptoRow.holds Try.pinned (OpenSpec.upto heapSaysSpec)

/-- 'fellrunnerlaw.ReachSays', WHERE WHAT IT READS IS OF BULK AT MOST 1048576: true; the input reads as it did. -/
def reachSaysUptoRow : OpenClaim := { program := "ytkiogciokngjfaa", sum := "cabdec40e6785331b25c5d03bf079d4a9e68f27f7eecc346d882807ebb6bc695", func := "fellrunner/fellrunnerlaw.ReachSays", spec := "reachSays", plainKeys := false, apart := false, narrowed := true }
def ReachSaysUptoSaid : Prop := reachSaysUptoRow.holds Try.pinned (OpenSpec.upto reachSaysSpec)

/-- 'fellrunnerlaw.FloodSays', WHERE WHAT IT READS IS OF BULK AT MOST 1048576: true; the input reads as it did. -/
def floodSaysUptoRow : OpenClaim := { program := "ytkiogciokngjfaa", sum := "cabdec40e6785331b25c5d03bf079d4a9e68f27f7eecc346d882807ebb6bc695", func := "fellrunner/fellrunnerlaw.FloodSays", spec := "floodSays", unfollowed := true, recurses := true, plainKeys := false, apart := false, narrowed := true }
def FloodSaysUptoSaid : Prop := floodSaysUptoRow.holds Try.pinned (OpenSpec.upto floodSaysSpec)

/-- 'fellrunnertop.TopCost', WHERE WHAT IT READS IS OF BULK AT MOST 1048576: true; the input reads as it did. -/
def topCostUptoRow : OpenClaim := { program := "ytkiogciokngjfaa", sum := "cabdec40e6785331b25c5d03bf079d4a9e68f27f7eecc346d882807ebb6bc695", func := "fellrunner/fellrunnertop.TopCost", spec := "topCost", plainKeys := false, apart := false, narrowed := true }
def TopCostUptoSaid : Prop := topCostUptoRow.holds Try.pinned (OpenSpec.upto topCostSpec)

/-- 'fellrunnertop.TopOctile', WHERE WHAT IT READS IS OF BULK AT MOST 1048576: true; the input reads as it did. -/
def topOctileUptoRow : OpenClaim := { program := "ytkiogciokngjfaa", sum := "cabdec40e6785331b25c5d03bf079d4a9e68f27f7eecc346d882807ebb6bc695", func := "fellrunner/fellrunnertop.TopOctile", spec := "topOctile", plainKeys := false, apart := false, narrowed := true }
def TopOctileUptoSaid : Prop := topOctileUptoRow.holds Try.pinned (OpenSpec.upto topOctileSpec)

/-- 'fellrunnertop.TopMoves', WHERE WHAT IT READS IS OF BULK AT MOST 1048576: true; the input reads as it did. -/
def topMovesUptoRow : OpenClaim := { program := "ytkiogciokngjfaa", sum := "cabdec40e6785331b25c5d03bf079d4a9e68f27f7eecc346d882807ebb6bc695", func := "fellrunner/fellrunnertop.TopMoves", spec := "topMoves", plainKeys := false, apart := false, narrowed := true }
def TopMovesUptoSaid : Prop := topMovesUptoRow.holds Try.pinned (OpenSpec.upto topMovesSpec)

/-- 'fellrunnertop.TopHeap', WHERE WHAT IT READS IS OF BULK AT MOST 1048576: true; the input reads as it did. -/
def topHeapUptoRow : OpenClaim := { program := "ytkiogciokngjfaa", sum := "cabdec40e6785331b25c5d03bf079d4a9e68f27f7eecc346d882807ebb6bc695", func := "fellrunner/fellrunnertop.TopHeap", spec := "topHeap", plainKeys := false, apart := false, narrowed := true }
def TopHeapUptoSaid : Prop := topHeapUptoRow.holds Try.pinned (OpenSpec.upto topHeapSpec)

/-- 'fellrunnertop.TopClear', WHERE WHAT IT READS IS OF BULK AT MOST 1048576: true; the input reads as it did. -/
def topClearUptoRow : OpenClaim := { program := "ytkiogciokngjfaa", sum := "cabdec40e6785331b25c5d03bf079d4a9e68f27f7eecc346d882807ebb6bc695", func := "fellrunner/fellrunnertop.TopClear", spec := "topClear", plainKeys := false, apart := false, narrowed := true }
def TopClearUptoSaid : Prop := topClearUptoRow.holds Try.pinned (OpenSpec.upto topClearSpec)

/-- 'fellrunnertop.TopCorner', WHERE WHAT IT READS IS OF BULK AT MOST 1048576: true; the input reads as it did. -/
def topCornerUptoRow : OpenClaim := { program := "ytkiogciokngjfaa", sum := "cabdec40e6785331b25c5d03bf079d4a9e68f27f7eecc346d882807ebb6bc695", func := "fellrunner/fellrunnertop.TopCorner", spec := "topCorner", plainKeys := false, apart := false, narrowed := true }
def TopCornerUptoSaid : Prop := topCornerUptoRow.holds Try.pinned (OpenSpec.upto topCornerSpec)

/-- 'fellrunnertop.TopFlood', WHERE WHAT IT READS IS OF BULK AT MOST 1048576: true; the input reads as it did. -/
def topFloodUptoRow : OpenClaim := { program := "ytkiogciokngjfaa", sum := "cabdec40e6785331b25c5d03bf079d4a9e68f27f7eecc346d882807ebb6bc695", func := "fellrunner/fellrunnertop.TopFlood", spec := "topFlood", plainKeys := false, apart := false, narrowed := true }
def TopFloodUptoSaid : Prop := topFloodUptoRow.holds Try.pinned (OpenSpec.upto topFloodSpec)

/-- 'fellrunnertop.TopNear', WHERE WHAT IT READS IS OF BULK AT MOST 1048576: true; the input reads as it did. -/
def topNearUptoRow : OpenClaim := { program := "ytkiogciokngjfaa", sum := "cabdec40e6785331b25c5d03bf079d4a9e68f27f7eecc346d882807ebb6bc695", func := "fellrunner/fellrunnertop.TopNear", spec := "topNear", plainKeys := false, apart := false, narrowed := true }
def TopNearUptoSaid : Prop := topNearUptoRow.holds Try.pinned (OpenSpec.upto topNearSpec)

/-- 'fellrunnertop.TopGraph', WHERE WHAT IT READS IS OF BULK AT MOST 1048576: true; the input reads as it did. -/
def topGraphUptoRow : OpenClaim := { program := "ytkiogciokngjfaa", sum := "cabdec40e6785331b25c5d03bf079d4a9e68f27f7eecc346d882807ebb6bc695", func := "fellrunner/fellrunnertop.TopGraph", spec := "topGraph", inPlace := ["slices.overlaps[fellrunner/api.Edge]"], unfollowed := true, recurses := true, plainKeys := false, apart := false, narrowed := true }
def TopGraphUptoSaid : Prop := topGraphUptoRow.holds Try.pinned (OpenSpec.upto topGraphSpec)

/-- 'fellrunnertop.TopRepair', WHERE WHAT IT READS IS OF BULK AT MOST 1048576: true; the input reads as it did. -/
def topRepairUptoRow : OpenClaim := { program := "ytkiogciokngjfaa", sum := "cabdec40e6785331b25c5d03bf079d4a9e68f27f7eecc346d882807ebb6bc695", func := "fellrunner/fellrunnertop.TopRepair", spec := "topRepair", inPlace := ["slices.overlaps[fellrunner/api.Edge]"], unfollowed := true, recurses := true, plainKeys := false, apart := false, narrowed := true }
def TopRepairUptoSaid : Prop := topRepairUptoRow.holds Try.pinned (OpenSpec.upto topRepairSpec)

/-- 'fellrunnertop.TopLevels', WHERE WHAT IT READS IS OF BULK AT MOST 1048576: true; the input reads as it did. -/
def topLevelsUptoRow : OpenClaim := { program := "ytkiogciokngjfaa", sum := "cabdec40e6785331b25c5d03bf079d4a9e68f27f7eecc346d882807ebb6bc695", func := "fellrunner/fellrunnertop.TopLevels", spec := "topLevels", inPlace := ["slices.overlaps[fellrunner/api.Edge]"], unfollowed := true, recurses := true, plainKeys := false, apart := false, narrowed := true }
def TopLevelsUptoSaid : Prop := topLevelsUptoRow.holds Try.pinned (OpenSpec.upto topLevelsSpec)

end Rows
end Go.Proofs.Ytkiogciokngjfaa
