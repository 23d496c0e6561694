/-
  No cell of these rows narrows 'for every input' (looked for: loops, veiled, ifaces, maps, wideKeys, modest, calm, conditions, laid).
  DERIVED. THE GIVEN ROWS OF THIS SEAT. 3 by the template 'for every input the law returns true; each argument reads behind the call as it read before'; 0 by the template 'total and deterministic' (their statements: YtjejkadaafmdcaaTotals.lean).
  GIVEN WITH THE SEED: the statements are not yours to turn. If you find one false, say at which input.
  Laid BY PROGRAM, IN A SANDBOX (cutbox-rows.mjs): the forced cells as the released guide's own fill.sh prints them over the translation 65c70dfe81798b9c… (all of the seat's roots in one cut). By AI agents, Wed Nov 11 2026. No macro, syntax, notation, axiom, sorry.
-/
import Derived.Test.YtjejkadaafmdcaaChecked
import GoSem.Claim
import GoSem.ClaimJoined
import GoSem.ClaimMapViews
import Derived.JoinedTies
import Derived.KernelRfl
namespace Go.Proofs.Ytjejkadaafmdcaa
/- THE CELL 'sum', in the pinned program and in every row, IS THE sha256 OF THE DUMP (.gsa) THAT YtjejkadaafmdcaaProg.lean LOADS. Nothing in Lean hashes anything: it is a label: what it is worth is what the hold of that sum in a sandbox is worth. -/
noncomputable def Try.pinned : Pinned := { name := "ytjejkadaafmdcaa", sum := "65c70dfe81798b9c2c9836bd248ef9fd2a9b70f5269e57848f2aa3fb21d7a273", checked := Try.checked }
namespace Rows
def none {H : Type} : Left H := { results := [], args := [] }

/-- 'fellrunnertop.TopGraph': WHATEVER THE INPUT: true; the input reads as it did. -/
def topGraphSpec : ChangeSpec := { name := "topGraph", fn := fun _ => fun
  | [d] => { results := [.lit (.bool true)], args := [d] }
  | _ => none }
def topGraphRow : OpenClaim := { program := "ytjejkadaafmdcaa", sum := "65c70dfe81798b9c2c9836bd248ef9fd2a9b70f5269e57848f2aa3fb21d7a273", func := "fellrunner/fellrunnertop.TopGraph", spec := "topGraph", inPlace := ["slices.overlaps[fellrunner/api.Edge]"], unfollowed := true, recurses := true, plainKeys := false, apart := false }
def TopGraphSaid : Prop := topGraphRow.holds Try.pinned (OpenSpec.ofChange topGraphSpec)

/-- ITS FALSE NEIGHBOUR: 'it returns false'. Refute it at one input. -/
def topGraphWrong : ChangeSpec := { name := "topGraph", fn := fun _ => fun
  | [d] => { results := [.lit (.bool false)], args := [d] }
  | _ => none }
def TopGraphWrongFalsely : Prop := topGraphRow.holds Try.pinned (OpenSpec.ofChange topGraphWrong)

/-- 'fellrunnertop.TopRepair': WHATEVER THE INPUT: true; the input reads as it did. -/
def topRepairSpec : ChangeSpec := { name := "topRepair", fn := fun _ => fun
  | [d1, d2] => { results := [.lit (.bool true)], args := [d1, d2] }
  | _ => none }
def topRepairRow : OpenClaim := { program := "ytjejkadaafmdcaa", sum := "65c70dfe81798b9c2c9836bd248ef9fd2a9b70f5269e57848f2aa3fb21d7a273", func := "fellrunner/fellrunnertop.TopRepair", spec := "topRepair", inPlace := ["slices.overlaps[fellrunner/api.Edge]"], unfollowed := true, recurses := true, plainKeys := false, apart := false }
def TopRepairSaid : Prop := topRepairRow.holds Try.pinned (OpenSpec.ofChange topRepairSpec)

/-- ITS FALSE NEIGHBOUR: 'it returns false'. Refute it at one input. -/
def topRepairWrong : ChangeSpec := { name := "topRepair", fn := fun _ => fun
  | [d1, d2] => { results := [.lit (.bool false)], args := [d1, d2] }
  | _ => none }
def TopRepairWrongFalsely : Prop := topRepairRow.holds Try.pinned (OpenSpec.ofChange topRepairWrong)

/-- 'fellrunnertop.TopLevels': WHATEVER THE INPUT: true; the input reads as it did. -/
def topLevelsSpec : ChangeSpec := { name := "topLevels", fn := fun _ => fun
  | [d1, d2] => { results := [.lit (.bool true)], args := [d1, d2] }
  | _ => none }
def topLevelsRow : OpenClaim := { program := "ytjejkadaafmdcaa", sum := "65c70dfe81798b9c2c9836bd248ef9fd2a9b70f5269e57848f2aa3fb21d7a273", func := "fellrunner/fellrunnertop.TopLevels", spec := "topLevels", inPlace := ["slices.overlaps[fellrunner/api.Edge]"], unfollowed := true, recurses := true, plainKeys := false, apart := false }
def TopLevelsSaid : Prop := topLevelsRow.holds Try.pinned (OpenSpec.ofChange topLevelsSpec)

/-- ITS FALSE NEIGHBOUR: 'it returns false'. Refute it at one input. -/
def topLevelsWrong : ChangeSpec := { name := "topLevels", fn := fun _ => fun
  | [d1, d2] => { results := [.lit (.bool false)], args := [d1, d2] }
  | _ => none }
def TopLevelsWrongFalsely : Prop := topLevelsRow.holds Try.pinned (OpenSpec.ofChange topLevelsWrong)

/- THE SECOND FORM. 'bulk': how many values and letters a reading holds, each counted each time it is reached (what is shared counts as often as it is met; a slice's spare places count too). A statement '..UptoSaid' is the law's where the arguments, and the package variables that the reading takes, are together of bulk at most 1048576: NARROWER than '..Said'. Prove '..Said' where nothing that the law and all that it calls make is longer than what came in: it says more and counts as full. Else prove '..UptoSaid'. A law counts once. -/
mutual
def uptoBulk {H : Type} : DataW H → Nat
  | .lit (.string bytes) => bytes.length + 1
  | .lit _ => 1
  | .nil => 1
  | .ptr d => uptoBulk d + 1
  | .slice elems spare => uptoBulkAll elems + uptoBulkAll spare + 1
  | .agg parts => uptoBulkAll parts + 1
  | .iface _ d => uptoBulk d + 1
  | .map entries => uptoBulkEntries entries + 1
  | .held _ => 1
def uptoBulkAll {H : Type} : List (DataW H) → Nat
  | [] => 0
  | d :: r => uptoBulk d + uptoBulkAll r
def uptoBulkEntries {H : Type} : List (Lit × DataW H) → Nat
  | [] => 0
  | x :: r => uptoBulkEntry x + uptoBulkEntries r
def uptoBulkEntry {H : Type} : Lit × DataW H → Nat
  | (.string bytes, d) => bytes.length + uptoBulk d + 1
  | (_, d) => uptoBulk d + 1
 end
def uptoSmall : (H : Type) → List (DataW H) → Bool := fun _ ds => decide (uptoBulkAll ds ≤ 1048576)
def OpenSpec.upto (s : _root_.Go.ChangeSpec) : _root_.Go.OpenSpec := { _root_.Go.OpenSpec.ofChange s with cond := some uptoSmall }

/-- 'fellrunnertop.TopGraph', WHERE WHAT IT READS IS OF BULK AT MOST 1048576: true; the input reads as it did. -/
def topGraphUptoRow : OpenClaim := { program := "ytjejkadaafmdcaa", sum := "65c70dfe81798b9c2c9836bd248ef9fd2a9b70f5269e57848f2aa3fb21d7a273", func := "fellrunner/fellrunnertop.TopGraph", spec := "topGraph", inPlace := ["slices.overlaps[fellrunner/api.Edge]"], unfollowed := true, recurses := true, plainKeys := false, apart := false, narrowed := true }
def TopGraphUptoSaid : Prop := topGraphUptoRow.holds Try.pinned (OpenSpec.upto topGraphSpec)

/-- 'fellrunnertop.TopRepair', WHERE WHAT IT READS IS OF BULK AT MOST 1048576: true; the input reads as it did. -/
def topRepairUptoRow : OpenClaim := { program := "ytjejkadaafmdcaa", sum := "65c70dfe81798b9c2c9836bd248ef9fd2a9b70f5269e57848f2aa3fb21d7a273", func := "fellrunner/fellrunnertop.TopRepair", spec := "topRepair", inPlace := ["slices.overlaps[fellrunner/api.Edge]"], unfollowed := true, recurses := true, plainKeys := false, apart := false, narrowed := true }
def TopRepairUptoSaid : Prop := topRepairUptoRow.holds Try.pinned (OpenSpec.upto topRepairSpec)

/-- 'fellrunnertop.TopLevels', WHERE WHAT IT READS IS OF BULK AT MOST 1048576: true; the input reads as it did. -/
def topLevelsUptoRow : OpenClaim := { program := "ytjejkadaafmdcaa", sum := "65c70dfe81798b9c2c9836bd248ef9fd2a9b70f5269e57848f2aa3fb21d7a273", func := "fellrunner/fellrunnertop.TopLevels", spec := "topLevels", inPlace := ["slices.overlaps[fellrunner/api.Edge]"], unfollowed := true, recurses := true, plainKeys := false, apart := false, narrowed := true }
def TopLevelsUptoSaid : Prop := topLevelsUptoRow.holds Try.pinned (OpenSpec.upto topLevelsSpec)

end Rows
end Go.Proofs.Ytjejkadaafmdcaa
