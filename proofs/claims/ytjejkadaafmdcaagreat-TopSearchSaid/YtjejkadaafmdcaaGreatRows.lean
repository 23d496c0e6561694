/-
  No cell of these rows narrows 'for every input' (looked for: loops, veiled, ifaces, maps, wideKeys, modest, calm, conditions, laid).
  DERIVED. THE GIVEN ROWS OF THIS SEAT. 4 by the template 'for every input the law returns true; each argument reads behind the call as it read before'; 0 by the template 'total and deterministic' (their statements: YtjejkadaafmdcaaGreatTotals.lean).
  GIVEN WITH THE SEED: the statements are not yours to turn. If you find one false, say at which input.
  Laid BY PROGRAM, IN A SANDBOX (cutbox-rows.mjs): the forced cells as the released guide's own fill.sh prints them over the translation b657a454d5002616… (all of the seat's roots in one cut). By AI agents, Wed Nov 11 2026. No macro, syntax, notation, axiom, sorry.
-/
import Derived.Test.YtjejkadaafmdcaaGreatChecked
import GoSem.Claim
import GoSem.ClaimJoined
import GoSem.ClaimMapViews
import Derived.JoinedTies
import Derived.KernelRfl
namespace Go.Proofs.YtjejkadaafmdcaaGreat
/- THE CELL 'sum', in the pinned program and in every row, IS THE sha256 OF THE DUMP (.gsa) THAT YtjejkadaafmdcaaGreatProg.lean LOADS. Nothing in Lean hashes anything: it is a label: what it is worth is what the hold of that sum in a sandbox is worth. -/
noncomputable def Tryz.pinned : Pinned := { name := "ytjejkadaafmdcaagreat", sum := "b657a454d50026164b58ae38dc256e4928957d82a297c860f7add567ca9f27e7", checked := Tryz.checked }
namespace Rows
def none {H : Type} : Left H := { results := [], args := [] }

/-- 'fellrunnerlaw.GraphSays': WHATEVER THE INPUT: true; the input reads as it did. -/
def graphSaysSpec : ChangeSpec := { name := "graphSays", fn := fun _ => fun
  | [d1, d2, d3, d4] => { results := [.lit (.bool true)], args := [d1, d2, d3, d4] }
  | _ => none }
def graphSaysRow : OpenClaim := { program := "ytjejkadaafmdcaagreat", sum := "b657a454d50026164b58ae38dc256e4928957d82a297c860f7add567ca9f27e7", func := "fellrunner/fellrunnerlaw.GraphSays", spec := "graphSays", inPlace := ["slices.overlaps[fellrunner/api.Edge]"], unfollowed := true, recurses := true, plainKeys := false, apart := false }
def GraphSaysSaid : Prop := graphSaysRow.holds Tryz.pinned (OpenSpec.ofChange graphSaysSpec)

/-- ITS FALSE NEIGHBOUR: 'it returns false'. Refute it at one input. -/
def graphSaysWrong : ChangeSpec := { name := "graphSays", fn := fun _ => fun
  | [d1, d2, d3, d4] => { results := [.lit (.bool false)], args := [d1, d2, d3, d4] }
  | _ => none }
def GraphSaysWrongFalsely : Prop := graphSaysRow.holds Tryz.pinned (OpenSpec.ofChange graphSaysWrong)

/-- 'fellrunnerlaw.LevelsSays': WHATEVER THE INPUT: true; the input reads as it did. -/
def levelsSaysSpec : ChangeSpec := { name := "levelsSays", fn := fun _ => fun
  | [d1, d2] => { results := [.lit (.bool true)], args := [d1, d2] }
  | _ => none }
def levelsSaysRow : OpenClaim := { program := "ytjejkadaafmdcaagreat", sum := "b657a454d50026164b58ae38dc256e4928957d82a297c860f7add567ca9f27e7", func := "fellrunner/fellrunnerlaw.LevelsSays", spec := "levelsSays", inPlace := ["slices.overlaps[fellrunner/api.Edge]"], unfollowed := true, recurses := true, plainKeys := false, apart := false }
def LevelsSaysSaid : Prop := levelsSaysRow.holds Tryz.pinned (OpenSpec.ofChange levelsSaysSpec)

/-- ITS FALSE NEIGHBOUR: 'it returns false'. Refute it at one input. -/
def levelsSaysWrong : ChangeSpec := { name := "levelsSays", fn := fun _ => fun
  | [d1, d2] => { results := [.lit (.bool false)], args := [d1, d2] }
  | _ => none }
def LevelsSaysWrongFalsely : Prop := levelsSaysRow.holds Tryz.pinned (OpenSpec.ofChange levelsSaysWrong)

/-- 'fellrunnerlaw.SearchSays': WHATEVER THE INPUT: true; the input reads as it did. -/
def searchSaysSpec : ChangeSpec := { name := "searchSays", fn := fun _ => fun
  | [d1, d2, d3, d4, d5] => { results := [.lit (.bool true)], args := [d1, d2, d3, d4, d5] }
  | _ => none }
def searchSaysRow : OpenClaim := { program := "ytjejkadaafmdcaagreat", sum := "b657a454d50026164b58ae38dc256e4928957d82a297c860f7add567ca9f27e7", func := "fellrunner/fellrunnerlaw.SearchSays", spec := "searchSays", inPlace := ["slices.overlaps[fellrunner/api.Edge]"], unfollowed := true, recurses := true, plainKeys := false, apart := false }
def SearchSaysSaid : Prop := searchSaysRow.holds Tryz.pinned (OpenSpec.ofChange searchSaysSpec)

/-- ITS FALSE NEIGHBOUR: 'it returns false'. Refute it at one input. -/
def searchSaysWrong : ChangeSpec := { name := "searchSays", fn := fun _ => fun
  | [d1, d2, d3, d4, d5] => { results := [.lit (.bool false)], args := [d1, d2, d3, d4, d5] }
  | _ => none }
def SearchSaysWrongFalsely : Prop := searchSaysRow.holds Tryz.pinned (OpenSpec.ofChange searchSaysWrong)

/-- 'fellrunnertop.TopSearch': WHATEVER THE INPUT: true; the input reads as it did. -/
def topSearchSpec : ChangeSpec := { name := "topSearch", fn := fun _ => fun
  | [d1, d2, d3, d4] => { results := [.lit (.bool true)], args := [d1, d2, d3, d4] }
  | _ => none }
def topSearchRow : OpenClaim := { program := "ytjejkadaafmdcaagreat", sum := "b657a454d50026164b58ae38dc256e4928957d82a297c860f7add567ca9f27e7", func := "fellrunner/fellrunnertop.TopSearch", spec := "topSearch", inPlace := ["slices.overlaps[fellrunner/api.Edge]"], unfollowed := true, recurses := true, plainKeys := false, apart := false }
def TopSearchSaid : Prop := topSearchRow.holds Tryz.pinned (OpenSpec.ofChange topSearchSpec)

/-- ITS FALSE NEIGHBOUR: 'it returns false'. Refute it at one input. -/
def topSearchWrong : ChangeSpec := { name := "topSearch", fn := fun _ => fun
  | [d1, d2, d3, d4] => { results := [.lit (.bool false)], args := [d1, d2, d3, d4] }
  | _ => none }
def TopSearchWrongFalsely : Prop := topSearchRow.holds Tryz.pinned (OpenSpec.ofChange topSearchWrong)

/- THE SECOND FORM. 'bulk': how many values and letters a reading holds, each counted each time it is reached (what is shared counts as often as it is met; a slice's spare places count too). A statement '..UptoSaid' is the law's where the arguments, and the package variables that the reading takes, are together of bulk at most 1048576: NARROWER than '..Said'. Prove '..Said' where nothing that the law and all that it calls make is longer than what came in: it says more and counts as full. Else prove '..UptoSaid'. A law counts once. -/
mutual
def uptoBulk {H : Type} : DataW H → Nat
  | .lit (.string bytes) => bytes.length + 1
  | .lit _ => 1
  | .nil => 1
  | .ptr d => uptoBulk d + 1
  | .slice elems spare => uptoBulkAll elems + uptoBulkAll spare + 1
  | .agg parts => uptoBulkAll parts + 1
  | .iface _ d => uptoBulk d + 1
  | .map entries => uptoBulkEntries entries + 1
  | .held _ => 1
def uptoBulkAll {H : Type} : List (DataW H) → Nat
  | [] => 0
  | d :: r => uptoBulk d + uptoBulkAll r
def uptoBulkEntries {H : Type} : List (Lit × DataW H) → Nat
  | [] => 0
  | x :: r => uptoBulkEntry x + uptoBulkEntries r
def uptoBulkEntry {H : Type} : Lit × DataW H → Nat
  | (.string bytes, d) => bytes.length + uptoBulk d + 1
  | (_, d) => uptoBulk d + 1
 end
def uptoSmall : (H : Type) → List (DataW H) → Bool := fun _ ds => decide (uptoBulkAll ds ≤ 1048576)
def OpenSpec.upto (s : _root_.Go.ChangeSpec) : _root_.Go.OpenSpec := { _root_.Go.OpenSpec.ofChange s with cond := some uptoSmall }

/-- 'fellrunnerlaw.GraphSays', WHERE WHAT IT READS IS OF BULK AT MOST 1048576: true; the input reads as it did. -/
def graphSaysUptoRow : OpenClaim := { program := "ytjejkadaafmdcaagreat", sum := "b657a454d50026164b58ae38dc256e4928957d82a297c860f7add567ca9f27e7", func := "fellrunner/fellrunnerlaw.GraphSays", spec := "graphSays", inPlace := ["slices.overlaps[fellrunner/api.Edge]"], unfollowed := true, recurses := true, plainKeys := false, apart := false, narrowed := true }
def GraphSaysUptoSaid : Prop := graphSaysUptoRow.holds Tryz.pinned (OpenSpec.upto graphSaysSpec)

/-- 'fellrunnerlaw.LevelsSays', WHERE WHAT IT READS IS OF BULK AT MOST 1048576: true; the input reads as it did. -/
def levelsSaysUptoRow : OpenClaim := { program := "ytjejkadaafmdcaagreat", sum := "b657a454d50026164b58ae38dc256e4928957d82a297c860f7add567ca9f27e7", func := "fellrunner/fellrunnerlaw.LevelsSays", spec := "levelsSays", inPlace := ["slices.overlaps[fellrunner/api.Edge]"], unfollowed := true, recurses := true, plainKeys := false, apart := false, narrowed := true }
def LevelsSaysUptoSaid : Prop := levelsSaysUptoRow.holds Tryz.pinned (OpenSpec.upto levelsSaysSpec)

/-- 'fellrunnerlaw.SearchSays', WHERE WHAT IT READS IS OF BULK AT MOST 1048576: true; the input reads as it did. -/
def searchSaysUptoRow : OpenClaim := { program := "ytjejkadaafmdcaagreat", sum := "b657a454d50026164b58ae38dc256e4928957d82a297c860f7add567ca9f27e7", func := "fellrunner/fellrunnerlaw.SearchSays", spec := "searchSays", inPlace := ["slices.overlaps[fellrunner/api.Edge]"], unfollowed := true, recurses := true, plainKeys := false, apart := false, narrowed := true }
def SearchSaysUptoSaid : Prop := searchSaysUptoRow.holds Tryz.pinned (OpenSpec.upto searchSaysSpec)

/-- 'fellrunnertop.TopSearch', WHERE WHAT IT READS IS OF BULK AT MOST 1048576: true; the input reads as it did. -/
def topSearchUptoRow : OpenClaim := { program := "ytjejkadaafmdcaagreat", sum := "b657a454d50026164b58ae38dc256e4928957d82a297c860f7add567ca9f27e7", func := "fellrunner/fellrunnertop.TopSearch", spec := "topSearch", inPlace := ["slices.overlaps[fellrunner/api.Edge]"], unfollowed := true, recurses := true, plainKeys := false, apart := false, narrowed := true }
def TopSearchUptoSaid : Prop := topSearchUptoRow.holds Tryz.pinned (OpenSpec.upto topSearchSpec)

end Rows
end Go.Proofs.YtjejkadaafmdcaaGreat
