/- Lemmas of this claim: Open. -/
import Derived.Test.YtjejkadaafmdcaaDoorKTopText7
import Derived.Deep.Grids
import Derived.ProofKit
import Derived.OpenShut
import Derived.Lib.SmallJoins
set_option linter.unusedVariables false
set_option linter.unusedSimpArgs false
/- How arguments of the laws read: plots, slices of numbers and of bools. -/
namespace Go.Proofs.YtjejkadaafmdcaaDoor
open Go.RowKit Go.Sort FR
open Go.ChangeShapes Go.WideShapes Go.ChangeAt Go.Joins
structure SlI (W : World) (A : Option Addr) (n : Nat) (f : Nat → Int) : Prop where
  ints : Ints W A n f
  len : n ≤ 9223372036854775807
  wf : ∀ k, -9223372036854775808 ≤ f k ∧ f k ≤ 9223372036854775807
/-- a slice of n bools, f k at place k -/
def Bools (w : World) (a : Option Addr) (n : Nat) (f : Nat → Bool) : Prop := 0 < n → ∃ ad, a = some ad ∧ ad.block < w.heap.size ∧ ∀ k, k < n → w.cell? (ad.add k) = some (.bool (f k))
structure SlB (W : World) (A : Option Addr) (n : Nat) (f : Nat → Bool) : Prop where
  bools : Bools W A n f
  len : n ≤ 9223372036854775807
theorem wf_bd {x : Int} (h : (Lit.int .i64 x).wf = true) : -9223372036854775808 ≤ x ∧ x ≤ 9223372036854775807 := by
  have h1 : IntKind.i64.min = -9223372036854775808 := by decide
  have h2 : IntKind.i64.max = 9223372036854775807 := by decide
  simp [Lit.wf, h1, h2] at h
  omega
section
variable {H : Type} {enc : TypeId × Value → H} {w : World} {base : Nat} {held : Bool}
theorem sli_of {fuel : Nat} {cs : List Value} {x : DataW H × List MemPlace} (h : DataW.trod enc Tryd.prog w base (fun _ => true) held fuel 22 cs = some x) :
    ∃ A n m f, cs = [.slice A n m] ∧ SlI w A n f := by
  rcases open_ints Tryd.underlying22 Tryd.underlying3 (by kernel_rfl) h with ⟨rfl, _⟩ | ⟨a, len, cap, zs, rfl, _, hl, hm, hz, _, hc, hwf⟩
  · exact ⟨none, 0, 0, fun _ => 0, rfl, fun h => absurd h (by omega), by omega, fun _ => by omega⟩
  · refine ⟨some a, len, cap, fun k => zs.getD k 0, rfl, fun hp => ⟨a, rfl, ?_, fun k hk => ?_⟩, ?_, fun k => ?_⟩
    · have := hc 0 (by simp at hz; omega)
      have := block_lt_of_cell this
      rwa [add_block] at this
    · exact hc k (by simp at hz; omega)
    · unfold maxLen at hm; omega
    · by_cases hk : k < zs.length
      · have e : zs.getD k 0 = zs[k] := by simp [List.getD, hk]
        simp only [e]
        exact wf_bd (hwf _ (List.getElem_mem hk))
      · have e : zs.getD k 0 = 0 := by simp [List.getD, List.getElem?_eq_none (by omega : zs.length ≤ k)]
        simp only [e]
        omega
variable {r : Reach} {b0 : Nat} {v : Value} {d : DataW H} {p : List MemPlace}
theorem cellsPlot : Tryd.prog.cellsOf 32 = 3 := by kernel_rfl
set_option maxRecDepth 100000 in
theorem open_plot (hv : Value.okWide Tryd.prog w r b0 32 v) (h : DataW.Trod enc Tryd.prog w base (fun _ => true) held 32 v d p) : ∃ a b A n m f, v = .agg #[.int .i64 a, .int .i64 b, .slice A n m] ∧ SlI w A n f := by
  obtain ⟨v0, v1, v2, y0, y1, y2, k, rfl, _, _, h0, h1, h2⟩ := open_agg3 Tryd.underlying32 (by kernel_rfl) cellsPlot hv h
  obtain ⟨a, e0, _, _⟩ := DataW.trod_int Tryd.underlying3 h0
  obtain ⟨b, e1, _, _⟩ := DataW.trod_int Tryd.underlying3 h1
  obtain ⟨A, n, m, f, e2, hs⟩ := sli_of h2
  simp at e0 e1 e2
  subst e0 e1 e2
  exact ⟨a, b, A, n, m, f, rfl, hs⟩
end
end Go.Proofs.YtjejkadaafmdcaaDoor
