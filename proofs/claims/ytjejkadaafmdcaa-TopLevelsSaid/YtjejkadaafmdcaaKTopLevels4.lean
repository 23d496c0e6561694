/- Lemmas of this claim: CostSays, Open, TopMoves, Fresh, CornerSays, AsGrid, GridSays. -/
import Derived.Test.YtjejkadaafmdcaaKTopLevels2
import Derived.Test.YtjejkadaafmdcaaRows
import Derived.Deep.Grids
import Derived.ProofKit
import Derived.OpenShut
import Derived.Lib.SmallJoins
import Derived.Deep.Cut
import Derived.Maps.AppendAt
import Derived.Deep.DeepCutAuto
import Derived.Deep.RegionWith
import Derived.BigRegion
set_option linter.unusedVariables false
set_option linter.unusedSimpArgs false
/- The law CostSays: for any two costs and any two places it returns true. -/
namespace Go.Proofs.Ytjejkadaafmdcaa
open Go.RowKit Go.Sort FR
end Go.Proofs.Ytjejkadaafmdcaa
/- How arguments of the laws read: plots, slices of numbers and of bools. -/
namespace Go.Proofs.Ytjejkadaafmdcaa
open Go.RowKit Go.Sort FR
open Go.ChangeShapes Go.WideShapes Go.ChangeAt Go.Joins
structure SlI (W : World) (A : Option Addr) (n : Nat) (f : Nat → Int) : Prop where
  ints : Ints W A n f
  len : n ≤ 9223372036854775807
  wf : ∀ k, -9223372036854775808 ≤ f k ∧ f k ≤ 9223372036854775807
/-- a slice of n bools, f k at place k -/
def Bools (w : World) (a : Option Addr) (n : Nat) (f : Nat → Bool) : Prop := 0 < n → ∃ ad, a = some ad ∧ ad.block < w.heap.size ∧ ∀ k, k < n → w.cell? (ad.add k) = some (.bool (f k))
structure SlB (W : World) (A : Option Addr) (n : Nat) (f : Nat → Bool) : Prop where
  bools : Bools W A n f
  len : n ≤ 9223372036854775807
theorem wf_bd {x : Int} (h : (Lit.int .i64 x).wf = true) : -9223372036854775808 ≤ x ∧ x ≤ 9223372036854775807 := by
  have h1 : IntKind.i64.min = -9223372036854775808 := by decide
  have h2 : IntKind.i64.max = 9223372036854775807 := by decide
  simp [Lit.wf, h1, h2] at h
  omega
section
variable {H : Type} {enc : TypeId × Value → H} {w : World} {base : Nat} {held : Bool}
theorem sli_of {fuel : Nat} {cs : List Value} {x : DataW H × List MemPlace} (h : DataW.trod enc Try.prog w base (fun _ => true) held fuel 22 cs = some x) :
    ∃ A n m f, cs = [.slice A n m] ∧ SlI w A n f := by
  rcases open_ints Try.underlying22 Try.underlying3 (by kernel_rfl) h with ⟨rfl, _⟩ | ⟨a, len, cap, zs, rfl, _, hl, hm, hz, _, hc, hwf⟩
  · exact ⟨none, 0, 0, fun _ => 0, rfl, fun h => absurd h (by omega), by omega, fun _ => by omega⟩
  · refine ⟨some a, len, cap, fun k => zs.getD k 0, rfl, fun hp => ⟨a, rfl, ?_, fun k hk => ?_⟩, ?_, fun k => ?_⟩
    · have := hc 0 (by simp at hz; omega)
      have := block_lt_of_cell this
      rwa [add_block] at this
    · exact hc k (by simp at hz; omega)
    · unfold maxLen at hm; omega
    · by_cases hk : k < zs.length
      · have e : zs.getD k 0 = zs[k] := by simp [List.getD, hk]
        simp only [e]
        exact wf_bd (hwf _ (List.getElem_mem hk))
      · have e : zs.getD k 0 = 0 := by simp [List.getD, List.getElem?_eq_none (by omega : zs.length ≤ k)]
        simp only [e]
        omega
variable {r : Reach} {b0 : Nat} {v : Value} {d : DataW H} {p : List MemPlace}
theorem cellsPlot : Try.prog.cellsOf 24 = 3 := by kernel_rfl
set_option maxRecDepth 100000 in
theorem open_plot (hv : Value.okWide Try.prog w r b0 24 v) (h : DataW.Trod enc Try.prog w base (fun _ => true) held 24 v d p) : ∃ a b A n m f, v = .agg #[.int .i64 a, .int .i64 b, .slice A n m] ∧ SlI w A n f := by
  obtain ⟨v0, v1, v2, y0, y1, y2, k, rfl, _, _, h0, h1, h2⟩ := open_agg3 Try.underlying24 (by kernel_rfl) cellsPlot hv h
  obtain ⟨a, e0, _, _⟩ := DataW.trod_int Try.underlying3 h0
  obtain ⟨b, e1, _, _⟩ := DataW.trod_int Try.underlying3 h1
  obtain ⟨A, n, m, f, e2, hs⟩ := sli_of h2
  simp at e0 e1 e2
  subst e0 e1 e2
  exact ⟨a, b, A, n, m, f, rfl, hs⟩
end
end Go.Proofs.Ytjejkadaafmdcaa
/- The law TopMoves: for any plot it returns true: who may go may come back. -/
namespace Go.Proofs.Ytjejkadaafmdcaa
open Go.RowKit Go.Sort FR
theorem upTo_get {p : Nat → Bool} {n k : Nat} (h : k < (upTo p n).length) : ∃ d : Nat, (upTo p n).getD k 0 = (d : Int) ∧ d < n ∧ p d = true := by
  have e : (upTo p n).getD k 0 = (upTo p n)[k] := by simp [List.getD, h]
  rw [e]
  have hm : (upTo p n)[k] ∈ upTo p n := List.getElem_mem h
  generalize (upTo p n)[k] = z at hm ⊢
  unfold upTo at hm
  rw [List.mem_map] at hm
  obtain ⟨d, hd, rfl⟩ := hm
  rw [List.mem_filter, List.mem_range] at hd
  exact ⟨d, rfl, hd.1, hd.2⟩
theorem upTo_has {p : Nat → Bool} {n d : Nat} (hd : d < n) (hp : p d = true) : ∃ k, k < (upTo p n).length ∧ (upTo p n).getD k 0 = (d : Int) := by
  have hm : (d : Int) ∈ upTo p n := by
    unfold upTo; rw [List.mem_map]; exact ⟨d, by rw [List.mem_filter, List.mem_range]; exact ⟨hd, hp⟩, rfl⟩
  obtain ⟨k, hk, e⟩ := List.getElem_of_mem hm
  exact ⟨k, hk, by simp [List.getD, hk, e]⟩
theorem May_eq (w : World) (p : Nat) (g : G) (v x y : Int) (d : Nat) (t : Bool) (h : GridAt w p g v) (hd : d < 8) (hx : inP x) (hy : inP y) (e : g.may x y d = t) :
    Calls Try.prog 112 #[.pointer (some ⟨p, 0, none⟩), .int .i64 x, .int .i64 y, .int .i64 (d : Nat)] w fun e w' => e = .returned (.bool t) ∧ Below w.heap.size w w' := by
  rw [← e]; exact gridMay w p g v x y d h hd hx hy
/-- an element of a slice of numbers, in every later world -/
theorem Ints.cell {w w' : World} {ad : Addr} {n : Nat} {f : Nat → Int} (h : Ints w (some ad) n f) (hb : Below w.heap.size w w') {k : Nat} (hk : k < n) : w'.cell? (ad.add k) = some (.int .i64 (f k)) := by
  obtain ⟨ad', e, h2, h3⟩ := h (by omega)
  cases e
  exact (hb.cell (p := ad.add k) (by rw [add_block]; exact h2)).trans (h3 k hk)
theorem Ints.addr {w : World} {A : Option Addr} {n : Nat} {f : Nat → Int} (h : Ints w A n f) (hn : 0 < n) : ∃ ad, A = some ad := by
  obtain ⟨ad, e, _⟩ := h hn
  exact ⟨ad, e⟩
theorem idx_run {A : Option Addr} {ad : Addr} {n m k : Nat} (h : A = some ad) (hk : k < n) (wx : World) : (Instr.indexAt 22 (.slice A n m) (.int .i64 (k : Nat))).run Try.prog wx = .ok (.pointer (some (ad.add k))) wx := by
  subst h
  have q : (k : Int) < (n : Int) := by omega
  go_simp
end Go.Proofs.Ytjejkadaafmdcaa
/- Moves again: the list that is handed back lies in a new block. -/
namespace Go.Proofs.Ytjejkadaafmdcaa
open Go.RowKit Go.Sort FR
/-- numbers that lie apart from what is written -/
theorem Ints.kept {S : List Nat} {w w' : World} {A : Option Addr} {n : Nat} {f : Nat → Int} (h : Ints w A n f) (hk : Kept S w w') (hS : ∀ ad, A = some ad → ad.block ∉ S) : Ints w' A n f := by
  intro hn
  obtain ⟨ad, h1, h2, h3⟩ := h hn
  exact ⟨ad, h1, Nat.lt_of_lt_of_le h2 hk.size, fun k hk' => by
    have e : w'.cell? (ad.add k) = w.cell? (ad.add k) := World.cell?_of_block (by rw [add_block]; exact hk.block _ h2 (hS ad h1))
    rw [e]; exact h3 k hk'⟩
end Go.Proofs.Ytjejkadaafmdcaa
/- The law CornerSays: for any plot and any cell it returns true. -/
namespace Go.Proofs.Ytjejkadaafmdcaa
open Go.RowKit Go.Sort FR
def g33 : G := gset ⟨(3 : Int).toNat, (3 : Int).toNat, fun _ => false⟩ 4 true
theorem corners33 : cornersI g33 = [0, 2, 6, 8] := by decide +kernel
end Go.Proofs.Ytjejkadaafmdcaa
/- asGrid hands back true, of a grid and a reference's grid that have the same cells. -/
namespace Go.Proofs.Ytjejkadaafmdcaa
open Go.RowKit Go.Sort FR
end Go.Proofs.Ytjejkadaafmdcaa
/- The law GridSays: for any size, and whatever cells are set, it returns true. -/
namespace Go.Proofs.Ytjejkadaafmdcaa
open Go.RowKit Go.Sort FR
theorem Bools.cell {w w' : World} {ad : Addr} {n : Nat} {f : Nat → Bool} (h : Bools w (some ad) n f) (hb : Below w.heap.size w w') {k : Nat} (hk : k < n) : w'.cell? (ad.add k) = some (.bool (f k)) := by
  obtain ⟨ad', e, h2, h3⟩ := h (by omega)
  cases e
  exact (hb.cell (p := ad.add k) (by rw [add_block]; exact h2)).trans (h3 k hk)
theorem Bools.addr {w : World} {A : Option Addr} {n : Nat} {f : Nat → Bool} (h : Bools w A n f) (hn : 0 < n) : ∃ ad, A = some ad := by
  obtain ⟨ad, e, _⟩ := h hn
  exact ⟨ad, e⟩
end Go.Proofs.Ytjejkadaafmdcaa
