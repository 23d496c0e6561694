/- Lemmas of this claim: Cost, Cost2, Grid, Grid2, RGrid, May, Grid3, RGrid2, Laid, App, Corner, RCorner. -/
import Derived.Test.YtjejkadaafmdcaaDoorBase
import Derived.Test.YtjejkadaafmdcaaDoorMath1
import Derived.Outline
import Derived.Laws.BitsAllLaws
import Derived.RegionTactic
import Derived.BigRegion
import Derived.Deep.Cut
import Derived.Laws.OwnMore
import Derived.OwnWalk
import Derived.WalkSpells
set_option linter.unusedVariables false
set_option linter.unusedSimpArgs false
/- What the functions of package cost, and those of the reference on costs, hand back. -/
namespace Go.Proofs.YtjejkadaafmdcaaDoor
open Go.RowKit Go.Sort FR

/-- a part of a cost within the reach of the document, doubled -/
def inC (a : Int) : Prop := -134217728 ≤ a ∧ a ≤ 134217728
instance (a : Int) : Decidable (inC a) := by unfold inC; infer_instance
end Go.Proofs.YtjejkadaafmdcaaDoor
/- What the functions of package cost, and those of the reference on costs, hand back: checks, distances. -/
namespace Go.Proofs.YtjejkadaafmdcaaDoor
open Go.RowKit Go.Sort FR

/-- may a cost be? (A1) -/
def costOk (a b : Int) : Prop := 0 ≤ a ∧ a ≤ 1048576 ∧ 0 ≤ b ∧ b ≤ 1048576
theorem costOk.inC {a b : Int} (h : costOk a b) : inC a ∧ inC b := by unfold costOk at h; unfold Go.Proofs.YtjejkadaafmdcaaDoor.inC; omega
theorem as_errno (k : Int) (w : World) : Sem.run Tryd.prog (Instr.typeAssert (.iface 23 (.int .i64 k)) 27 23 true) w = .ok (.tuple #[.int .i64 k, .bool true]) w := by kernel_rfl
theorem same_err (k f : Int) (w : World) (h : 0 < f) :
    Calls Tryd.prog 6 #[.iface 23 (.int .i64 k), .int .i64 f] w fun e w' => e = .returned (.bool (k == f)) ∧ w = w' := by
  have hta := as_errno k
  go_enter Tryd.func6, Tryd.ntmps6
  go_wp2
  go_ret
  exact ⟨rfl, rfl⟩
end Go.Proofs.YtjejkadaafmdcaaDoor
/- What the functions of package grid hand back, of a grid that lies in memory. -/
namespace Go.Proofs.YtjejkadaafmdcaaDoor
open Go.RowKit Go.Sort FR
/-- the cells of a grid: its size, four words of bits, how many times it changed -/
def gridCells (g : G) (ws : Nat → Nat) (v : Int) : Array Value := #[.int .i64 g.w, .int .i64 g.h, .int .u64 (ws 0), .int .u64 (ws 1), .int .u64 (ws 2), .int .u64 (ws 3), .int .i64 v]
/-- block p is a grid -/
def GridAt (w : World) (p : Nat) (g : G) (v : Int) : Prop := g.ok ∧ ∃ ws : Nat → Nat, (∀ i, ws i < 18446744073709551616) ∧ w.heap[p]? = some (.cells (gridCells g ws v) 90 (0, 0)) ∧ ∀ c, c < 256 → g.b c = (ws (c / 64)).testBit (c % 64)
theorem GridAt.lt {w : World} {p : Nat} {g : G} {v : Int} (h : GridAt w p g v) : p < w.heap.size := by
  obtain ⟨_, ws, _, hb, _⟩ := h
  exact (Array.getElem?_eq_some_iff.1 hb).1
theorem GridAt.below {w w' : World} {p B : Nat} {g : G} {v : Int} (h : GridAt w p g v) (hb : Below B w w') (hp : p < B) : GridAt w' p g v := by
  obtain ⟨h0, ws, h1, h2, h3⟩ := h
  exact ⟨h0, ws, h1, (hb.block p hp).trans h2, h3⟩
theorem GridAt.size {w : World} {p : Nat} {g : G} {v : Int} (h : GridAt w p g v) : w.cell? ⟨p, 0, none⟩ = some (.int .i64 g.w) ∧ w.cell? ⟨p, 1, none⟩ = some (.int .i64 g.h) := by
  obtain ⟨_, ws, _, hb, _⟩ := h
  simp [World.cell?, hb, gridCells]
end Go.Proofs.YtjejkadaafmdcaaDoor
/- What the functions of package grid hand back: steps, moves. -/
namespace Go.Proofs.YtjejkadaafmdcaaDoor
open Go.RowKit Go.Sort FR
end Go.Proofs.YtjejkadaafmdcaaDoor
/- What the reference's functions on grids hand back, of a grid of the reference that lies in memory. -/
namespace Go.Proofs.YtjejkadaafmdcaaDoor
open Go.RowKit Go.Sort FR
/-- n cells, cell k is f k -/
def rowOf (f : Nat → Value) (n : Nat) : Array Value := ((List.range n).map f).toArray
theorem rowOf_get (f : Nat → Value) (n k : Nat) (h : k < n) : (rowOf f n)[k]? = some (f k) := by simp [rowOf, h]
/-- the cell of number k of a reference's grid -/
def rcell (g : G) (v : Int) (k : Nat) : Value := if k = 0 then .int .i64 g.w else if k = 1 then .int .i64 g.h else if k = 258 then .int .i64 v else .bool (g.b (k - 2))
/-- block p is a reference's grid -/
def RGridAt (w : World) (p : Nat) (g : G) (v : Int) : Prop := g.ok ∧ w.heap[p]? = some (.cells (rowOf (rcell g v) 259) 53 (0, 0))
theorem RGridAt.lt {w : World} {p : Nat} {g : G} {v : Int} (h : RGridAt w p g v) : p < w.heap.size := (Array.getElem?_eq_some_iff.1 h.2).1
theorem RGridAt.below {w w' : World} {p B : Nat} {g : G} {v : Int} (h : RGridAt w p g v) (hb : Below B w w') (hp : p < B) : RGridAt w' p g v := ⟨h.1, (hb.block p hp).trans h.2⟩
theorem RGridAt.cell {w : World} {p : Nat} {g : G} {v : Int} (h : RGridAt w p g v) (k : Nat) (hk : k < 259) : w.cell? ⟨p, k, none⟩ = some (rcell g v k) := by
  simp [World.cell?, h.2, rowOf_get _ _ _ hk]
theorem RGridAt.size {w : World} {p : Nat} {g : G} {v : Int} (h : RGridAt w p g v) : w.cell? ⟨p, 0, none⟩ = some (.int .i64 g.w) ∧ w.cell? ⟨p, 1, none⟩ = some (.int .i64 g.h) :=
  ⟨h.cell 0 (by decide), h.cell 1 (by decide)⟩
end Go.Proofs.YtjejkadaafmdcaaDoor
/- What the two functions May hand back. -/
namespace Go.Proofs.YtjejkadaafmdcaaDoor
open Go.RowKit Go.Sort FR
end Go.Proofs.YtjejkadaafmdcaaDoor
/- What a grid's Set, New and Copy do. -/
namespace Go.Proofs.YtjejkadaafmdcaaDoor
open Go.RowKit Go.Sort FR
/-- all old blocks but those listed are as they were -/
structure Kept (S : List Nat) (w w' : World) : Prop where
  os : w'.os = w.os
  tape : w'.tape = w.tape
  output : w'.output = w.output
  size : w.heap.size ≤ w'.heap.size
  block : ∀ k, k < w.heap.size → k ∉ S → w'.heap[k]? = w.heap[k]?
theorem Kept.refl (S : List Nat) (w : World) : Kept S w w := ⟨rfl, rfl, rfl, Nat.le_refl _, fun _ _ _ => rfl⟩
theorem Kept.trans {S : List Nat} {a b c : World} (h : Kept S a b) (k : Kept S b c) : Kept S a c :=
  ⟨k.os.trans h.os, k.tape.trans h.tape, k.output.trans h.output, Nat.le_trans h.size k.size, fun i hi hs => (k.block i (Nat.lt_of_lt_of_le hi h.size) hs).trans (h.block i hi hs)⟩
theorem Kept.below {S : List Nat} {B : Nat} {a b c : World} (h : Below B a b) (k : Kept S b c) (hB : B ≤ b.heap.size) (hs : ∀ i, i ∈ S → B ≤ i) : Below B a c :=
  h.trans ⟨k.os, k.tape, k.output, k.size, fun i hi => k.block i (Nat.lt_of_lt_of_le hi hB) fun e => by have := hs i e; omega⟩
theorem Kept.drew {S : List Nat} {a b : World} (h : Kept S a b) : Kept S a b.drew := ⟨h.os, h.tape, h.output, h.size, h.block⟩
theorem Kept.drewN {S : List Nat} {a b : World} (h : Kept S a b) {n : Nat} : Kept S a (b.drewN n) := ⟨h.os, h.tape, h.output, h.size, h.block⟩
theorem Kept.alloc {S : List Nat} {a b : World} (h : Kept S a b) {o : Obj} : Kept S a (b.alloc o) :=
  h.trans ⟨rfl, rfl, rfl, by simp, fun k hk _ => Below.heap_alloc _ _ _ hk⟩
theorem GridAt.kept {S : List Nat} {w w' : World} {p : Nat} {g : G} {v : Int} (h : GridAt w p g v) (hk : Kept S w w') (hp : p ∉ S) : GridAt w' p g v := by
  have hl := h.lt
  obtain ⟨h0, ws, h1, h2, h3⟩ := h
  exact ⟨h0, ws, h1, (hk.block p hl hp).trans h2, h3⟩
end Go.Proofs.YtjejkadaafmdcaaDoor
/- What the reference's Set, NewGrid, May, To do; and To of package grid. -/
namespace Go.Proofs.YtjejkadaafmdcaaDoor
open Go.RowKit Go.Sort FR
theorem RGridAt.kept {S : List Nat} {w w' : World} {p : Nat} {g : G} {v : Int} (h : RGridAt w p g v) (hk : Kept S w w') (hp : p ∉ S) : RGridAt w' p g v :=
  ⟨h.1, (hk.block p h.lt hp).trans h.2⟩
end Go.Proofs.YtjejkadaafmdcaaDoor
/- What Laid hands back: nothing, or a grid and the reference's grid that have the same cells. -/
namespace Go.Proofs.YtjejkadaafmdcaaDoor
open Go.RowKit Go.Sort FR
/-- a slice of n numbers, f k at place k -/
def Ints (w : World) (a : Option Addr) (n : Nat) (f : Nat → Int) : Prop := 0 < n → ∃ ad, a = some ad ∧ ad.block < w.heap.size ∧ ∀ k, k < n → w.cell? (ad.add k) = some (.int .i64 (f k))
theorem add_block (a : Addr) (n : Nat) : (a.add n).block = a.block := by unfold Addr.add; split <;> rfl
theorem Ints.below {w w' : World} {a : Option Addr} {n : Nat} {f : Nat → Int} (h : Ints w a n f) (hb : Below w.heap.size w w') : Ints w' a n f := by
  intro hn
  obtain ⟨ad, h1, h2, h3⟩ := h hn
  exact ⟨ad, h1, Nat.lt_of_lt_of_le h2 hb.size, fun k hk => (hb.cell (p := ad.add k) (by rw [add_block]; exact h2)).trans (h3 k hk)⟩
def Laid (w : World) (e : Ending) (w' : World) : Prop :=
  (e = .returned (.tuple #[.pointer none, .pointer none, .bool false]) ∧ Below w.heap.size w w') ∨
  ∃ p q g v, e = .returned (.tuple #[.pointer (some ⟨p, 0, none⟩), .pointer (some ⟨q, 0, none⟩), .bool true]) ∧ w.heap.size ≤ p ∧ p < q ∧ GridAt w' p g v ∧ RGridAt w' q g v ∧ 0 ≤ v ∧ v ≤ 300 ∧ Below w.heap.size w w'
theorem Laid.none {w w' : World} (h : Below w.heap.size w w') : Laid w (.returned (.tuple #[.pointer none, .pointer none, .bool false])) w' := .inl ⟨rfl, h⟩
end Go.Proofs.YtjejkadaafmdcaaDoor
/- Slices of numbers that a call makes by append. -/
namespace Go.Proofs.YtjejkadaafmdcaaDoor
open Go.RowKit Go.Sort FR
/-- slice v owns its cells (from block B on), and they are the numbers zs -/
def OwnI (w : World) (B : Nat) (v : Value) (zs : List Int) : Prop := w.ownsRow B 3 1 v zs.length (zs.map (Value.int .i64))
theorem OwnI.nil (w : World) (B : Nat) : OwnI w B (.slice none 0 0) [] := ⟨rfl, .inl ⟨rfl, rfl⟩⟩
theorem OwnI.below {w w' : World} {B B' : Nat} {v : Value} {zs : List Int} (h : OwnI w B v zs) (hb : Below w.heap.size w w') : OwnI w' B v zs :=
  World.ownsRow.kept (row := none) h ⟨hb.os, hb.tape, hb.output, hb.size, fun k hk _ => hb.block k hk⟩ (by cases hv : v.ownBlock <;> simp)
theorem OwnI.ints {w : World} {B : Nat} {v : Value} {zs : List Int} (h : OwnI w B v zs) : ∃ A m, v = .slice A zs.length m ∧ Ints w A zs.length (fun k => zs.getD k 0) := by
  rcases h.2 with ⟨rfl, hn⟩ | ⟨g, cap, cur, rfl, hg, hh, hc, hm, hs, ht⟩
  · rw [hn]; exact ⟨none, 0, rfl, fun h => absurd h (by omega)⟩
  · refine ⟨_, cap, rfl, fun _ => ⟨⟨g, 0, none⟩, rfl, (Array.getElem?_eq_some_iff.1 hh).1, fun k hk => ?_⟩⟩
    refine World.ownsRow.cells h (g := g) rfl k _ ?_
    simp [List.getD, hk]
theorem OwnI.alloc {w : World} {B : Nat} {v : Value} {zs : List Int} (h : OwnI w B v zs) (o : Obj) : OwnI (w.alloc o) B v zs := World.ownsRow.alloc h o
end Go.Proofs.YtjejkadaafmdcaaDoor
/- What corner.Is and the reference's Corner hand back: the same bool. -/
namespace Go.Proofs.YtjejkadaafmdcaaDoor
open Go.RowKit Go.Sort FR
end Go.Proofs.YtjejkadaafmdcaaDoor
/- What the reference's Corner, Corners, SameNumbers hand back. -/
namespace Go.Proofs.YtjejkadaafmdcaaDoor
open Go.RowKit Go.Sort FR
end Go.Proofs.YtjejkadaafmdcaaDoor
