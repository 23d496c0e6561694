/- Lemmas of this claim: Flood, ShRev, Clear. -/
import Derived.Test.YtjejkadaafmdcaaGreatKTopSearch6
import Derived.Test.YtjejkadaafmdcaaGreatKTopSearch8
import Derived.Test.YtjejkadaafmdcaaGreatKTopSearch9
import Derived.Shelf.Slices.Reverse
import Derived.Test.YtjejkadaafmdcaaGreatProg
import Derived.Test.YtjejkadaafmdcaaGreatKTopSearch1
import Derived.Deep.DeepCutAuto
set_option linter.unusedVariables false
set_option linter.unusedSimpArgs false
/- What a flood holds in memory, and what its readers hand back. -/
namespace Go.Proofs.YtjejkadaafmdcaaGreat
open Go.RowKit Go.Sort FR
/-- a function of numbers not below 0, as one of whole numbers -/
def mapI (f : Nat → Option Value) (z : Int) : Option Value := if 0 ≤ z then f z.toNat else none
theorem mapI_nat (f : Nat → Option Value) (n : Nat) : mapI f (n : Nat) = f n := by unfold mapI; rw [if_pos (by omega)]; rfl
theorem mapI_upd (f : Nat → Option Value) (n : Nat) (v : Option Value) : updK (mapI f) (n : Nat) v = mapI (upd f n v) := by
  funext z
  unfold updK mapI upd
  by_cases h : 0 ≤ z
  · rw [if_pos h, if_pos h]
    by_cases e : z = (n : Nat)
    · rw [if_pos e, if_pos (by omega)]
    · rw [if_neg e, if_neg (by omega)]
  · rw [if_neg h, if_neg h, if_neg (by omega)]
def costV (c : C) : Value := .agg #[.int .i64 c.s, .int .i64 c.d]
def doneV (d : Nat → Option C) (j : Nat) : Option Value := (d j).map costV
theorem doneV_upd (d : Nat → Option C) (k : Nat) (c : C) : upd (doneV d) k (some (costV c)) = doneV (upd d k (some c)) := by
  funext j; unfold upd doneV; split <;> simp_all
theorem GridAt.keptS {S : List Nat} {w w' : World} {p : Nat} {g : G} {v : Int} (h : GridAt w p g v) (hk : Kept S w w') (hp : p ∉ S) : GridAt w' p g v := by
  have hl := h.lt
  obtain ⟨h0, ws, h1, h2, h3⟩ := h
  exact ⟨h0, ws, h1, (hk.block p hl hp).trans h2, h3⟩
theorem cost_zero (w : World) : (zeroValue 68).run Tryz.prog w = .ok (.agg #[.int .i64 0, .int .i64 0]) w := by kernel_rfl
theorem costLook_in {w : World} {b N : Nat} {m : Int → Option Value} (h : MapAt (fun z : Int => Value.int .i64 z) w b m N) {z : Int} {v : Value} (hz : m z = some v) :
    (Instr.lookup 122 (.map (some b)) (.int .i64 z) true).run Tryz.prog w = .ok (.tuple #[v, .bool true]) w := by
  have := (h.look (int_fit Tryz.underlying3) Tryz.underlying122 (cost_zero w) z).1
  rw [hz] at this; exact this
theorem costLook_out {w : World} {b N : Nat} {m : Int → Option Value} (h : MapAt (fun z : Int => Value.int .i64 z) w b m N) {z : Int} (hz : m z = none) :
    (Instr.lookup 122 (.map (some b)) (.int .i64 z) true).run Tryz.prog w = .ok (.tuple #[.agg #[.int .i64 0, .int .i64 0], .bool false]) w := by
  have := (h.look (int_fit Tryz.underlying3) Tryz.underlying122 (cost_zero w) z).1
  rw [hz] at this; exact this
theorem set_two {w : World} {b : Nat} {x y u v : Value} (h1 : w.cell? ⟨b, 0, none⟩ = some u) (h2 : w.cell? ⟨b, 1, none⟩ = some v) :
    ((w.setCell ⟨b, 0, none⟩ x).setCell ⟨b, 1, none⟩ y).cell? ⟨b, 0, none⟩ = some x ∧ ((w.setCell ⟨b, 0, none⟩ x).setCell ⟨b, 1, none⟩ y).cell? ⟨b, 1, none⟩ = some y := two_set h1 h2
end Go.Proofs.YtjejkadaafmdcaaGreat
/- Contracts of Go's library, laid at this program by the kit's tools. -/
namespace Go.Proofs
open Go.Shelf
def Tryz.lays112_ren : Go.Shelf.Ren := ⟨fun | 112 => 119 | n => n, fun | 28 => 22 | 3 => 3 | 4 => 4 | 0 => 0 | n => n, fun | n => n⟩
theorem Tryz.lays112 : Go.Proofs.Lays.n112 Tryz.prog Tryz.lays112_ren := {
  mixed := by kernel_rfl
  f112 := Tryz.func119.trans (congrArg some (by kernel_rfl))
  t0 := Tryz.underlying0
  a0 := Tryz.isAgg0
  z0 := Tryz.sizeOf0
  v0 := Tryz.zeroValue0
  t3 := Tryz.underlying3
  a3 := Tryz.isAgg3
  z3 := Tryz.sizeOf3
  v3 := Tryz.zeroValue3
  t4 := Tryz.underlying4
  a4 := Tryz.isAgg4
  z4 := Tryz.sizeOf4
  v4 := Tryz.zeroValue4
  t28 := Tryz.underlying22
  a28 := Tryz.isAgg22
  z28 := Tryz.sizeOf22
  v28 := Tryz.zeroValue22 }
open Go.RowKit Go.Lib Go.Sort in
theorem Tryz.slices_Reverse_int (blk off cap : Nat) (zs : List Int) (w : World) (hH : Holds (Value.int .i64) w blk off zs.toArray) (hsz : zs.length ≤ 9223372036854775807) :
    Calls Tryz.prog 119 #[.slice (some ⟨blk, off, none⟩) zs.length cap] w fun e w' => e = .returned (.tuple #[]) ∧ ∃ n, w' = putRow (Value.int .i64) (Sort.ahead w n) blk off zs.reverse.toArray := Any.slices_Reverse_int Tryz.lays112 blk off cap zs w hH hsz
open Go.RowKit Go.Lib Go.Sort in
theorem Tryz.slices_Reverse_int_empty (a : Option Addr) (cap : Nat) (w : World) :
    Calls Tryz.prog 119 #[.slice a 0 cap] w fun e w' => e = .returned (.tuple #[]) ∧ w' = w := Any.slices_Reverse_int_empty Tryz.lays112 a cap w
end Go.Proofs
/- What the functions of package clear do to a table. -/
namespace Go.Proofs.YtjejkadaafmdcaaGreat
open Go.RowKit Go.Sort FR
def fset (f : Nat → Nat → Int) (c d : Nat) (z : Int) : Nat → Nat → Int := fun c' d' => if c' = c ∧ d' = d then z else f c' d'
theorem set_heap1 (w : World) (p k : Nat) (cs : Array Value) (T : TypeId) (x : Value) (h : w.heap[p]? = some (.cells cs T (0, 0))) : (w.setCell ⟨p, k, none⟩ x).heap[p]? = some (.cells (cs.setIfInBounds k x) T (0, 0)) := by
  simp [World.setCell, Array.getElem?_modify, h]
theorem row_set (f f' : Nat → Value) (n k : Nat) (x : Value) (hk : f' k = x) (ho : ∀ i, i ≠ k → f' i = f i) : (rowOf f n).setIfInBounds k x = rowOf f' n := by
  apply Array.ext_getElem?
  intro i
  rw [Array.getElem?_setIfInBounds]
  by_cases h1 : i < n
  · rw [rowOf_get _ _ _ h1, rowOf_get _ _ _ h1]
    by_cases h2 : k = i
    · subst h2; rw [if_pos rfl, if_pos (by rw [rowOf_size]; exact h1), hk]
    · rw [if_neg h2, ho i (fun e => h2 e.symm)]
  · rw [Array.getElem?_eq_none (by rw [rowOf_size]; omega), Array.getElem?_eq_none (by rw [rowOf_size]; omega)]
    split
    · rw [if_neg (by rw [rowOf_size]; omega)]
    · rfl
/-- how far one may go from a cell -/
def clrC (g : G) (c d : Nat) : Int := (G.clr g d (g.X c : Nat) (g.Y c : Nat) : Nat)
end Go.Proofs.YtjejkadaafmdcaaGreat
