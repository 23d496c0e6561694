/- reach.Way: the way between two cells that are near, diagonal steps first. -/
import Derived.Test.YtjejkadaafmdcaaGreatReach6
set_option linter.unusedVariables false
set_option linter.unusedSimpArgs false
namespace Go.Proofs.YtjejkadaafmdcaaGreat
open Go.RowKit Go.Sort FR
/-- the cells of the first places of a way -/
def wayL (g : G) (ca cb : Nat) (P : Nat → Nat × Nat) (n : Nat) : List Int := (List.range n).map fun k => ((g.fcell ca cb (P k).1 (P k).2 : Nat) : Int)
theorem wayL_succ (g : G) (ca cb : Nat) (P : Nat → Nat × Nat) (n : Nat) : wayL g ca cb P (n + 1) = wayL g ca cb P n ++ [((g.fcell ca cb (P n).1 (P n).2 : Nat) : Int)] := by
  simp [wayL, List.range_succ]
theorem wayL_length (g : G) (ca cb : Nat) (P : Nat → Nat × Nat) (n : Nat) : (wayL g ca cb P n).length = n := by simp [wayL]
theorem OwnI.mono {w : World} {B B' : Nat} {v : Value} {zs : List Int} (h : OwnI w B v zs) (hB : B' ≤ B) : OwnI w B' v zs := by
  refine ⟨h.1, ?_⟩
  rcases h.2 with hn | ⟨g, cap, cur, rfl, hb, rest⟩
  · exact .inl hn
  · exact .inr ⟨g, cap, cur, rfl, Nat.le_trans hB hb, rest⟩
def WayRD (w : World) (g : G) (ca cb : Nat) (e : Ending) (w' : World) : Prop := ∃ P, g.WayP ca cb P ∧ RetInts2N w (wayL g ca cb P (g.fI ca cb + g.fJ ca cb + 1)) e w'
/-- what holds at a round's head -/
def WayI (w2 : World) (g : G) (ca cb : Nat) (P : Nat → Nat × Nat) (n k : Nat) (sl iv jv : Value) (wr : World) : Prop :=
  k ≤ n ∧ iv = .int .i64 ((P k).1 : Nat) ∧ jv = .int .i64 ((P k).2 : Nat) ∧ OwnI wr w2.heap.size sl (wayL g ca cb P (k + 1)) ∧ Below w2.heap.size w2 wr
end Go.Proofs.YtjejkadaafmdcaaGreat
