/- Lemmas of this claim: Cost, Cost2, Grid, RGrid, RowSet, Grid2, May, Grid3, RGrid2, Laid. -/
import Derived.Test.YtjejkadaafmdcaaDoorBase
import Derived.Test.YtjejkadaafmdcaaDoorMath1
import Derived.Outline
import Derived.Laws.BitsAllLaws
import Derived.RegionTactic
import Derived.BigRegion
import Derived.Deep.Cut
set_option linter.unusedVariables false
set_option linter.unusedSimpArgs false
/- What the functions of package cost, and those of the reference on costs, hand back. -/
namespace Go.Proofs.YtjejkadaafmdcaaDoor
open Go.RowKit Go.Sort FR

theorem ret_b {a b : Bool} (h : a = b) : Ending.returned (.bool a) = .returned (.bool b) := by rw [h]
/-- a part of a cost within the reach of the document, doubled -/
def inC (a : Int) : Prop := -134217728 ≤ a ∧ a ≤ 134217728
instance (a : Int) : Decidable (inC a) := by unfold inC; infer_instance
end Go.Proofs.YtjejkadaafmdcaaDoor
/- What the functions of package cost, and those of the reference on costs, hand back: checks, distances. -/
namespace Go.Proofs.YtjejkadaafmdcaaDoor
open Go.RowKit Go.Sort FR

/-- may a cost be? (A1) -/
def costOk (a b : Int) : Prop := 0 ≤ a ∧ a ≤ 1048576 ∧ 0 ≤ b ∧ b ≤ 1048576
theorem costOk.inC {a b : Int} (h : costOk a b) : inC a ∧ inC b := by unfold costOk at h; unfold Go.Proofs.YtjejkadaafmdcaaDoor.inC; omega
end Go.Proofs.YtjejkadaafmdcaaDoor
/- What the functions of package grid hand back, of a grid that lies in memory. -/
namespace Go.Proofs.YtjejkadaafmdcaaDoor
open Go.RowKit Go.Sort FR
/-- the cells of a grid: its size, four words of bits, how many times it changed -/
def gridCells (g : G) (ws : Nat → Nat) (v : Int) : Array Value := #[.int .i64 g.w, .int .i64 g.h, .int .u64 (ws 0), .int .u64 (ws 1), .int .u64 (ws 2), .int .u64 (ws 3), .int .i64 v]
/-- block p is a grid -/
def GridAt (w : World) (p : Nat) (g : G) (v : Int) : Prop := g.ok ∧ ∃ ws : Nat → Nat, (∀ i, ws i < 18446744073709551616) ∧ w.heap[p]? = some (.cells (gridCells g ws v) 90 (0, 0)) ∧ ∀ c, c < 256 → g.b c = (ws (c / 64)).testBit (c % 64)
theorem GridAt.lt {w : World} {p : Nat} {g : G} {v : Int} (h : GridAt w p g v) : p < w.heap.size := by
  obtain ⟨_, ws, _, hb, _⟩ := h
  exact (Array.getElem?_eq_some_iff.1 hb).1
theorem GridAt.below {w w' : World} {p B : Nat} {g : G} {v : Int} (h : GridAt w p g v) (hb : Below B w w') (hp : p < B) : GridAt w' p g v := by
  obtain ⟨h0, ws, h1, h2, h3⟩ := h
  exact ⟨h0, ws, h1, (hb.block p hp).trans h2, h3⟩
theorem GridAt.size {w : World} {p : Nat} {g : G} {v : Int} (h : GridAt w p g v) : w.cell? ⟨p, 0, none⟩ = some (.int .i64 g.w) ∧ w.cell? ⟨p, 1, none⟩ = some (.int .i64 g.h) := by
  obtain ⟨_, ws, _, hb, _⟩ := h
  simp [World.cell?, hb, gridCells]
theorem GridAt.word {w : World} {p : Nat} {g : G} {v : Int} (h : GridAt w p g v) (c : Nat) (hc : c < 256) : ∃ x : Nat, x < 18446744073709551616 ∧ w.cell? ⟨p, 2 + c / 64, none⟩ = some (.int .u64 x) ∧ g.b c = x.testBit (c % 64) := by
  obtain ⟨_, ws, h1, hb, h3⟩ := h
  refine ⟨ws (c / 64), h1 _, ?_, h3 c hc⟩
  rcases (show c / 64 = 0 ∨ c / 64 = 1 ∨ c / 64 = 2 ∨ c / 64 = 3 by omega) with e | e | e | e <;> rw [e] <;> simp [World.cell?, hb, gridCells]
theorem bit_eq (z k : Nat) (hz : z < 18446744073709551616) : (bits BinOp.and IntKind.u64 ((z : Int) / 2 ^ k) 1 == 0) = !z.testBit k := by
  have e1 : (z : Int) / 2 ^ k = ((z / 2 ^ k : Nat) : Int) := by simp
  have hlt : z / 2 ^ k < 18446744073709551616 := Nat.lt_of_le_of_lt (Nat.div_le_self _ _) hz
  have e2 : bits BinOp.and IntKind.u64 ((z / 2 ^ k : Nat) : Int) 1 = ((z / 2 ^ k &&& 1 : Nat) : Int) := u64_and_nat _ 1 hlt (by decide)
  rw [e1, e2, Nat.and_one_is_mod, Nat.testBit_eq_decide_div_mod_eq]
  rcases Nat.mod_two_eq_zero_or_one (z / 2 ^ k) with e | e <;> rw [e] <;> rfl
theorem gridCell_in (w : World) (p : Nat) (g : G) (v x y : Int) (h : GridAt w p g v) (hx : 0 ≤ x) (hx' : x < g.w) (hy : 0 ≤ y) (hy' : y < g.h) :
    Calls Tryd.prog 42 #[.pointer (some ⟨p, 0, none⟩), .int .i64 x, .int .i64 y] w fun e w' => e = .returned (.tuple #[.int .i64 (y * g.w + x), .nilIface]) ∧ w = w' := by
  obtain ⟨k1, k2⟩ := h.size
  obtain ⟨o1, o2, o3, o4⟩ := h.1
  have hm : 0 ≤ y * g.w ∧ y * g.w ≤ 256 := ⟨Int.mul_nonneg hy (by omega), Int.le_trans (Int.mul_le_mul (show y ≤ 16 by omega) (show (g.w : Int) ≤ 16 by omega) (by omega) (by omega)) (by omega)⟩
  obtain ⟨m1, m2⟩ := hm
  clear h
  go_enter Tryd.func42, Tryd.ntmps42
  go_wp2
  go_ret2
  exact ⟨rfl, rfl⟩
theorem gridCell_out (w : World) (p : Nat) (g : G) (v x y : Int) (h : GridAt w p g v) (ho : ¬ (0 ≤ x ∧ x < g.w ∧ 0 ≤ y ∧ y < g.h)) :
    Calls Tryd.prog 42 #[.pointer (some ⟨p, 0, none⟩), .int .i64 x, .int .i64 y] w fun e w' => e = .returned (.tuple #[.int .i64 0, .iface 23 (.int .i64 1)]) ∧ w = w' := by
  obtain ⟨k1, k2⟩ := h.size
  clear h
  go_enter Tryd.func42, Tryd.ntmps42
  go_wp2
  all_goals
    go_ret2
    exact ⟨rfl, rfl⟩
theorem gridOpen (w : World) (p : Nat) (g : G) (v x y : Int) (h : GridAt w p g v) :
    Calls Tryd.prog 18 #[.pointer (some ⟨p, 0, none⟩), .int .i64 x, .int .i64 y] w fun e w' => e = .returned (.bool (g.op x y)) ∧ w = w' := by
  by_cases ho : 0 ≤ x ∧ x < g.w ∧ 0 ≤ y ∧ y < g.h
  · obtain ⟨a1, a2, a3, a4⟩ := ho
    have hc := gridCell_in w p g v x y h a1 a2 a3 a4
    obtain ⟨i, rfl⟩ := Int.eq_ofNat_of_zero_le a1
    obtain ⟨j, rfl⟩ := Int.eq_ofNat_of_zero_le a3
    have e : ((j : Int) * g.w + i) = ((j * g.w + i : Nat) : Int) := by simp
    have e2 : g.op i j = !g.b (j * g.w + i) := by unfold G.op; simp; omega
    have hb : j * g.w + i < 256 := by
      obtain ⟨o1, o2, o3, o4⟩ := h.1
      have : j * g.w ≤ 15 * 16 := Nat.mul_le_mul (by omega) o2
      omega
    rw [e2]
    rw [e] at hc
    obtain ⟨z, hz1, hz2, hz3⟩ := h.word (j * g.w + i) hb
    generalize j * g.w + i = c at *
    rw [hz3]
    clear h hz3 e e2
    go_enter Tryd.func18, Tryd.ntmps18
    go_wp2_with fail
    refine hc.mono ?_
    rintro e w' ⟨rfl, rfl⟩
    go_wp2
    all_goals
      go_ret
      exact ⟨ret_b (bit_eq _ _ hz1), rfl⟩
  · have hc := gridCell_out w p g v x y h ho
    have e2 : g.op x y = false := by unfold G.op; simp; omega
    rw [e2]
    clear h
    go_enter Tryd.func18, Tryd.ntmps18
    go_wp2_with fail
    refine hc.mono ?_
    rintro e w' ⟨rfl, rfl⟩
    go_wp2
    go_ret
    exact ⟨rfl, rfl⟩
theorem gridCellsN (w : World) (p : Nat) (g : G) (v : Int) (h : GridAt w p g v) :
    Calls Tryd.prog 34 #[.pointer (some ⟨p, 0, none⟩)] w fun e w' => e = .returned (.int .i64 (g.n : Nat)) ∧ Below w.heap.size w w' := by
  obtain ⟨k1, k2⟩ := h.size
  obtain ⟨o1, o2, o3, o4⟩ := h.1
  have e : ((g.n : Nat) : Int) = (g.w : Int) * g.h := by unfold G.n; simp
  have hm : 0 ≤ (g.w : Int) * g.h ∧ (g.w : Int) * g.h ≤ 256 := by have := G.n_le h.1; rw [← e]; omega
  obtain ⟨m1, m2⟩ := hm
  clear h
  rw [e]
  clear e
  go_enter Tryd.func34, Tryd.ntmps34
  go_wp2_with fail
  go_quiet (fail)
  go_wp2
  go_ret
  exact ⟨rfl, by (repeat' (first | exact Below.refl _ _ | assumption | apply bel_drewN | apply bel_drew | apply bel_alloc | (refine bel_trans ?_ (by assumption))))⟩
theorem gridPlace_in (w : World) (p : Nat) (g : G) (v : Int) (c : Nat) (h : GridAt w p g v) (hc : c < g.n) :
    Calls Tryd.prog 36 #[.pointer (some ⟨p, 0, none⟩), .int .i64 (c : Nat)] w fun e w' => e = .returned (.tuple #[.int .i64 (g.X c : Nat), .int .i64 (g.Y c : Nat), .nilIface]) ∧ Below w.heap.size w w' := by
  have k1 := h.size.1
  obtain ⟨o1, o2, o3, o4⟩ := h.1
  have ex : ((g.X c : Nat) : Int) = (c : Int) % g.w := by unfold G.X; simp
  have ey : ((g.Y c : Nat) : Int) = (c : Int) / g.w := by unfold G.Y; simp
  rw [ex, ey]
  have q1 : 0 ≤ (c : Int) / g.w := by omega
  have q2 : (c : Int) / g.w ≤ 256 := by have := G.Y_lt hc; omega
  clear ex ey
  have hn := G.n_le h.1
  go_enter Tryd.func36, Tryd.ntmps36
  go_wp2_with fail
  refine (gridCellsN w p g v h).mono ?_
  rintro e w1 ⟨rfl, hb⟩
  have k1' := (hb.cell (p := ⟨p, 0, none⟩) h.lt).trans k1
  clear h
  go_wp2_with fail
  go_quiet (fail)
  go_wp2
  go_ret3
  exact ⟨rfl, by (repeat' (first | exact Below.refl _ _ | assumption | apply bel_drewN | apply bel_drew | apply bel_alloc | (refine bel_trans ?_ (by assumption))))⟩
theorem gridPlace_out (w : World) (p : Nat) (g : G) (v c : Int) (h : GridAt w p g v) (hc : c < 0 ∨ g.n ≤ c) :
    Calls Tryd.prog 36 #[.pointer (some ⟨p, 0, none⟩), .int .i64 c] w fun e w' => e = .returned (.tuple #[.int .i64 0, .int .i64 0, .iface 23 (.int .i64 1)]) ∧ Below w.heap.size w w' := by
  have hn := G.n_le h.1
  rcases hc with hc | hc
  · go_enter Tryd.func36, Tryd.ntmps36
    go_wp2
    go_ret3
    exact ⟨rfl, by (repeat' (first | exact Below.refl _ _ | assumption | apply bel_drewN | apply bel_drew | apply bel_alloc | (refine bel_trans ?_ (by assumption))))⟩
  · go_enter Tryd.func36, Tryd.ntmps36
    go_wp2_with fail
    refine (gridCellsN w p g v h).mono ?_
    rintro e w1 ⟨rfl, hb⟩
    clear h
    go_wp2
    go_ret3
    exact ⟨rfl, by (repeat' (first | exact Below.refl _ _ | assumption | apply bel_drewN | apply bel_drew | apply bel_alloc | (refine bel_trans ?_ (by assumption))))⟩
theorem gridFree_in (w : World) (p : Nat) (g : G) (v : Int) (c : Nat) (h : GridAt w p g v) (hc : c < g.n) :
    Calls Tryd.prog 37 #[.pointer (some ⟨p, 0, none⟩), .int .i64 (c : Nat)] w fun e w' => e = .returned (.tuple #[.bool (!g.b c), .nilIface]) ∧ Below w.heap.size w w' := by
  rw [← G.op_cell h.1 hc]
  go_enter Tryd.func37, Tryd.ntmps37
  go_wp2_with fail
  refine (gridPlace_in w p g v c h hc).mono ?_
  rintro e w1 ⟨rfl, hb⟩
  go_wp2_with fail
  refine (gridOpen w1 p g v _ _ (h.below hb h.lt)).mono ?_
  rintro e w' ⟨rfl, rfl⟩
  go_wp2
  go_ret2
  exact ⟨rfl, by (repeat' (first | exact Below.refl _ _ | assumption | apply bel_drewN | apply bel_drew | apply bel_alloc | (refine bel_trans ?_ (by assumption))))⟩
theorem gridFree_out (w : World) (p : Nat) (g : G) (v c : Int) (h : GridAt w p g v) (hc : c < 0 ∨ g.n ≤ c) :
    Calls Tryd.prog 37 #[.pointer (some ⟨p, 0, none⟩), .int .i64 c] w fun e w' => e = .returned (.tuple #[.bool false, .iface 23 (.int .i64 1)]) ∧ Below w.heap.size w w' := by
  go_enter Tryd.func37, Tryd.ntmps37
  go_wp2_with fail
  refine (gridPlace_out w p g v c h hc).mono ?_
  rintro e w1 ⟨rfl, hb⟩
  go_wp2
  go_ret2
  exact ⟨rfl, by (repeat' (first | exact Below.refl _ _ | assumption | apply bel_drewN | apply bel_drew | apply bel_alloc | (refine bel_trans ?_ (by assumption))))⟩
theorem gridSize (w : World) (p : Nat) (g : G) (v : Int) (h : GridAt w p g v) :
    Calls Tryd.prog 24 #[.pointer (some ⟨p, 0, none⟩)] w fun e w' => e = .returned (.tuple #[.int .i64 g.w, .int .i64 g.h]) ∧ Below w.heap.size w w' := by
  obtain ⟨k1, k2⟩ := h.size
  clear h
  go_enter Tryd.func24, Tryd.ntmps24
  go_wp2_with fail
  go_quiet (fail)
  go_wp2
  go_ret2
  exact ⟨rfl, by (repeat' (first | exact Below.refl _ _ | assumption | apply bel_drewN | apply bel_drew | apply bel_alloc | (refine bel_trans ?_ (by assumption))))⟩
theorem GridAt.ver {w : World} {p : Nat} {g : G} {v : Int} (h : GridAt w p g v) : w.cell? ⟨p, 6, none⟩ = some (.int .i64 v) := by
  obtain ⟨_, ws, _, hb, _⟩ := h
  simp [World.cell?, hb, gridCells]
end Go.Proofs.YtjejkadaafmdcaaDoor
/- What the reference's functions on grids hand back, of a grid of the reference that lies in memory. -/
namespace Go.Proofs.YtjejkadaafmdcaaDoor
open Go.RowKit Go.Sort FR
/-- n cells, cell k is f k -/
def rowOf (f : Nat → Value) (n : Nat) : Array Value := ((List.range n).map f).toArray
theorem rowOf_get (f : Nat → Value) (n k : Nat) (h : k < n) : (rowOf f n)[k]? = some (f k) := by simp [rowOf, h]
theorem rowOf_size (f : Nat → Value) (n : Nat) : (rowOf f n).size = n := by simp [rowOf]
/-- the cell of number k of a reference's grid -/
def rcell (g : G) (v : Int) (k : Nat) : Value := if k = 0 then .int .i64 g.w else if k = 1 then .int .i64 g.h else if k = 258 then .int .i64 v else .bool (g.b (k - 2))
/-- block p is a reference's grid -/
def RGridAt (w : World) (p : Nat) (g : G) (v : Int) : Prop := g.ok ∧ w.heap[p]? = some (.cells (rowOf (rcell g v) 259) 53 (0, 0))
theorem RGridAt.lt {w : World} {p : Nat} {g : G} {v : Int} (h : RGridAt w p g v) : p < w.heap.size := (Array.getElem?_eq_some_iff.1 h.2).1
theorem RGridAt.below {w w' : World} {p B : Nat} {g : G} {v : Int} (h : RGridAt w p g v) (hb : Below B w w') (hp : p < B) : RGridAt w' p g v := ⟨h.1, (hb.block p hp).trans h.2⟩
theorem RGridAt.cell {w : World} {p : Nat} {g : G} {v : Int} (h : RGridAt w p g v) (k : Nat) (hk : k < 259) : w.cell? ⟨p, k, none⟩ = some (rcell g v k) := by
  simp [World.cell?, h.2, rowOf_get _ _ _ hk]
theorem RGridAt.size {w : World} {p : Nat} {g : G} {v : Int} (h : RGridAt w p g v) : w.cell? ⟨p, 0, none⟩ = some (.int .i64 g.w) ∧ w.cell? ⟨p, 1, none⟩ = some (.int .i64 g.h) :=
  ⟨h.cell 0 (by decide), h.cell 1 (by decide)⟩
theorem RGridAt.bit {w : World} {p : Nat} {g : G} {v : Int} (h : RGridAt w p g v) (c : Nat) (hc : c < 256) : w.cell? ⟨p, 2 + c, none⟩ = some (.bool (g.b c)) := by
  rw [h.cell (2 + c) (by omega)]
  unfold rcell
  rw [if_neg (by omega), if_neg (by omega), if_neg (by omega), show 2 + c - 2 = c by omega]
theorem RGridAt.ver {w : World} {p : Nat} {g : G} {v : Int} (h : RGridAt w p g v) : w.cell? ⟨p, 258, none⟩ = some (.int .i64 v) := h.cell 258 (by decide)
theorem rIs_in (w : World) (p : Nat) (g : G) (v : Int) (c : Nat) (h : RGridAt w p g v) (hc : c < g.n) :
    Calls Tryd.prog 21 #[.pointer (some ⟨p, 0, none⟩), .int .i64 (c : Nat)] w fun e w' => e = .returned (.int .i64 0) ∧ Below w.heap.size w w' := by
  obtain ⟨k1, k2⟩ := h.size
  obtain ⟨o1, o2, o3, o4⟩ := h.1
  have hn := G.n_le h.1
  have e : ((g.n : Nat) : Int) = (g.w : Int) * g.h := by unfold G.n; simp
  have m1 : 0 ≤ (g.w : Int) * g.h := by omega
  have m2 : (g.w : Int) * g.h ≤ 256 := by omega
  have hd : decide ((g.w : Int) * g.h ≤ (c : Int)) = false := by simp; omega
  have hd0 : decide ((c : Int) < 0) = false := by simp
  have hw : IntKind.i64.wrap ((g.w : Int) * g.h) = (g.w : Int) * g.h := IntWalk.i64_in _ (by omega)
  clear h e
  go_enter Tryd.func21, Tryd.ntmps21
  go_wp2_with fail
  go_quiet (fail)
  go_wp2
  go_ret
  exact ⟨rfl, by (repeat' (first | exact Below.refl _ _ | assumption | apply bel_drewN | apply bel_drew | apply bel_alloc | (refine bel_trans ?_ (by assumption))))⟩
theorem rIs_out (w : World) (p : Nat) (g : G) (v c : Int) (h : RGridAt w p g v) (hc : c < 0 ∨ g.n ≤ c) :
    Calls Tryd.prog 21 #[.pointer (some ⟨p, 0, none⟩), .int .i64 c] w fun e w' => e = .returned (.int .i64 1) ∧ Below w.heap.size w w' := by
  obtain ⟨k1, k2⟩ := h.size
  obtain ⟨o1, o2, o3, o4⟩ := h.1
  have hn := G.n_le h.1
  have e : ((g.n : Nat) : Int) = (g.w : Int) * g.h := by unfold G.n; simp
  have m1 : 0 ≤ (g.w : Int) * g.h := by omega
  have m2 : (g.w : Int) * g.h ≤ 256 := by omega
  have hw : IntKind.i64.wrap ((g.w : Int) * g.h) = (g.w : Int) * g.h := IntWalk.i64_in _ (by omega)
  rcases (show c < 0 ∨ (0 ≤ c ∧ (g.n : Int) ≤ c) by omega) with hc | ⟨hc0, hc⟩
  · have hd : decide (c < 0) = true := by simp; omega
    clear h e hw
    go_enter Tryd.func21, Tryd.ntmps21
    go_wp2_with fail
    go_quiet (fail)
    go_wp2
    go_ret
    exact ⟨rfl, by (repeat' (first | exact Below.refl _ _ | assumption | apply bel_drewN | apply bel_drew | apply bel_alloc | (refine bel_trans ?_ (by assumption))))⟩
  · have hd : decide ((g.w : Int) * g.h ≤ c) = true := by simp; omega
    have hd0 : decide (c < 0) = false := by simp; omega
    clear h e
    go_enter Tryd.func21, Tryd.ntmps21
    go_wp2_with fail
    go_quiet (fail)
    go_wp2
    go_ret
    exact ⟨rfl, by (repeat' (first | exact Below.refl _ _ | assumption | apply bel_drewN | apply bel_drew | apply bel_alloc | (refine bel_trans ?_ (by assumption))))⟩
end Go.Proofs.YtjejkadaafmdcaaDoor
/- A cell of a row is set. -/
namespace Go.Proofs.YtjejkadaafmdcaaDoor
open Go.RowKit Go.Sort
theorem set_heap1 (w : World) (p k : Nat) (cs : Array Value) (T : TypeId) (x : Value) (h : w.heap[p]? = some (.cells cs T (0, 0))) : (w.setCell ⟨p, k, none⟩ x).heap[p]? = some (.cells (cs.setIfInBounds k x) T (0, 0)) := by
  simp [World.setCell, Array.getElem?_modify, h]
theorem row_set (f f' : Nat → Value) (n k : Nat) (x : Value) (hk : f' k = x) (ho : ∀ i, i ≠ k → f' i = f i) : (rowOf f n).setIfInBounds k x = rowOf f' n := by
  apply Array.ext_getElem?
  intro i
  rw [Array.getElem?_setIfInBounds]
  by_cases h1 : i < n
  · rw [rowOf_get _ _ _ h1, rowOf_get _ _ _ h1]
    by_cases h2 : k = i
    · subst h2; rw [if_pos rfl, if_pos (by rw [rowOf_size]; exact h1), hk]
    · rw [if_neg h2, ho i (fun e => h2 e.symm)]
  · rw [Array.getElem?_eq_none (by rw [rowOf_size]; omega), Array.getElem?_eq_none (by rw [rowOf_size]; omega)]
    split
    · rw [if_neg (by rw [rowOf_size]; omega)]
    · rfl
end Go.Proofs.YtjejkadaafmdcaaDoor
/- What the functions of package grid hand back: steps, moves. -/
namespace Go.Proofs.YtjejkadaafmdcaaDoor
open Go.RowKit Go.Sort FR
end Go.Proofs.YtjejkadaafmdcaaDoor
/- What the two functions May hand back. -/
namespace Go.Proofs.YtjejkadaafmdcaaDoor
open Go.RowKit Go.Sort FR
end Go.Proofs.YtjejkadaafmdcaaDoor
/- What a grid's Set, New and Copy do. -/
namespace Go.Proofs.YtjejkadaafmdcaaDoor
open Go.RowKit Go.Sort FR
/-- all old blocks but those listed are as they were -/
structure Kept (S : List Nat) (w w' : World) : Prop where
  os : w'.os = w.os
  tape : w'.tape = w.tape
  output : w'.output = w.output
  size : w.heap.size ≤ w'.heap.size
  block : ∀ k, k < w.heap.size → k ∉ S → w'.heap[k]? = w.heap[k]?
theorem Kept.refl (S : List Nat) (w : World) : Kept S w w := ⟨rfl, rfl, rfl, Nat.le_refl _, fun _ _ _ => rfl⟩
theorem Kept.trans {S : List Nat} {a b c : World} (h : Kept S a b) (k : Kept S b c) : Kept S a c :=
  ⟨k.os.trans h.os, k.tape.trans h.tape, k.output.trans h.output, Nat.le_trans h.size k.size, fun i hi hs => (k.block i (Nat.lt_of_lt_of_le hi h.size) hs).trans (h.block i hi hs)⟩
theorem Kept.of_below {S : List Nat} {a b : World} (h : Below a.heap.size a b) : Kept S a b := ⟨h.os, h.tape, h.output, h.size, fun k hk _ => h.block k hk⟩
theorem Kept.below {S : List Nat} {B : Nat} {a b c : World} (h : Below B a b) (k : Kept S b c) (hB : B ≤ b.heap.size) (hs : ∀ i, i ∈ S → B ≤ i) : Below B a c :=
  h.trans ⟨k.os, k.tape, k.output, k.size, fun i hi => k.block i (Nat.lt_of_lt_of_le hi hB) fun e => by have := hs i e; omega⟩
theorem Kept.drew {S : List Nat} {a b : World} (h : Kept S a b) : Kept S a b.drew := ⟨h.os, h.tape, h.output, h.size, h.block⟩
theorem Kept.drewN {S : List Nat} {a b : World} (h : Kept S a b) {n : Nat} : Kept S a (b.drewN n) := ⟨h.os, h.tape, h.output, h.size, h.block⟩
theorem Kept.alloc {S : List Nat} {a b : World} (h : Kept S a b) {o : Obj} : Kept S a (b.alloc o) :=
  h.trans ⟨rfl, rfl, rfl, by simp, fun k hk _ => Below.heap_alloc _ _ _ hk⟩
theorem Kept.setCell {S : List Nat} {a b : World} (h : Kept S a b) {p : Addr} {u : Value} (hp : p.block ∈ S ∨ a.heap.size ≤ p.block) : Kept S a (b.setCell p u) :=
  ⟨h.os, h.tape, h.output, by have := h.size; simpa [World.setCell] using this, fun k hk hn => by
    have hne : k ≠ p.block := by
      rintro rfl
      rcases hp with hp | hp
      · exact hn hp
      · omega
    rw [Below.heap_setCell _ _ _ _ hne]; exact h.block k hk hn⟩
theorem GridAt.kept {S : List Nat} {w w' : World} {p : Nat} {g : G} {v : Int} (h : GridAt w p g v) (hk : Kept S w w') (hp : p ∉ S) : GridAt w' p g v := by
  have hl := h.lt
  obtain ⟨h0, ws, h1, h2, h3⟩ := h
  exact ⟨h0, ws, h1, (hk.block p hl hp).trans h2, h3⟩
/-- a grid with a cell set -/
def gset (g : G) (c : Nat) (t : Bool) : G := { g with b := upd g.b c t }
theorem gridNew_ok (a b : Int) (w : World) (h : 1 ≤ a ∧ a ≤ 16 ∧ 1 ≤ b ∧ b ≤ 16) :
    Calls Tryd.prog 19 #[.int .i64 a, .int .i64 b] w fun e w' => e = .returned (.tuple #[.pointer (some ⟨w.heap.size, 0, none⟩), .nilIface]) ∧ GridAt w' w.heap.size ⟨a.toNat, b.toNat, fun _ => false⟩ 0 ∧ Below w.heap.size w w' ∧ w'.heap.size = w.heap.size + 1 := by
  obtain ⟨h1, h2, h3, h4⟩ := h
  go_enter Tryd.func19, Tryd.ntmps19
  go_wp2
  go_ret2
  refine ⟨rfl, ?_, by (repeat' (first | exact Below.refl _ _ | assumption | apply bel_drewN | apply bel_drew | apply bel_alloc | (refine bel_trans ?_ (by assumption)))), by simp⟩
  refine ⟨⟨by simp only; omega, by simp only; omega, by simp only; omega, by simp only; omega⟩, fun _ => 0, fun _ => (by decide : 0 < 18446744073709551616), ?_, fun c _ => by simp⟩
  rw [heap_alloc_new]
  simp [gridCells]
  omega
theorem gridNew_bad (a b : Int) (w : World) (h : ¬ (1 ≤ a ∧ a ≤ 16 ∧ 1 ≤ b ∧ b ≤ 16)) :
    Calls Tryd.prog 19 #[.int .i64 a, .int .i64 b] w fun e w' => e = .returned (.tuple #[.pointer none, .iface 23 (.int .i64 1)]) ∧ w = w' := by
  go_enter Tryd.func19, Tryd.ntmps19
  go_wp2
  all_goals
    go_ret2
    exact ⟨rfl, rfl⟩
theorem gridSet_out (w : World) (p : Nat) (g : G) (v c : Int) (t : Bool) (h : GridAt w p g v) (hc : c < 0 ∨ g.n ≤ c) :
    Calls Tryd.prog 22 #[.pointer (some ⟨p, 0, none⟩), .int .i64 c, .bool t] w fun e w' => e = .returned (.tuple #[.bool false, .iface 23 (.int .i64 1)]) ∧ Below w.heap.size w w' := by
  go_enter Tryd.func22, Tryd.ntmps22
  go_wp2_with fail
  refine (gridFree_out w p g v c h hc).mono ?_
  rintro e w1 ⟨rfl, hb⟩
  go_wp2
  go_ret2
  exact ⟨rfl, by (repeat' (first | exact Below.refl _ _ | assumption | apply bel_drewN | apply bel_drew | apply bel_alloc | (refine bel_trans ?_ (by assumption))))⟩
theorem bits_xor_pow (z k : Nat) (hz : z < 18446744073709551616) (hk : k < 64) : bits BinOp.xor IntKind.u64 (z : Int) ((2 ^ k : Nat) : Int) = ((z ^^^ 2 ^ k : Nat) : Int) :=
  bits_xor_u64_nat z (2 ^ k) hz (Nat.lt_of_lt_of_le (Nat.pow_lt_pow_right (by decide) hk) (by decide))
theorem gset_heap (w : World) (p k : Nat) (cs : Array Value) (T : TypeId) (x y : Value) (h : w.heap[p]? = some (.cells cs T (0, 0))) :
    (((w.setCell ⟨p, k, none⟩ x).setCell ⟨p, 6, none⟩ y).drew).heap[p]? = some (.cells ((cs.setIfInBounds k x).setIfInBounds 6 y) T (0, 0)) := by
  simp [World.drew, World.setCell, Array.getElem?_modify, h]
theorem gset_at {w : World} {p : Nat} {g : G} {ws : Nat → Nat} {v : Int} {c : Nat} {t : Bool} (h0 : g.ok) (hB : w.heap[p]? = some (.cells (gridCells g ws v) 90 (0, 0))) (h1 : ∀ i, ws i < 18446744073709551616)
    (h3 : ∀ c, c < 256 → g.b c = (ws (c / 64)).testBit (c % 64)) (hc : c < 256) (ht : g.b c = !t) :
    GridAt ((w.setCell ⟨p, 2 + c / 64, none⟩ (.int .u64 (bits BinOp.xor IntKind.u64 (ws (c / 64) : Int) (IntKind.u64.wrap (2 ^ (c % 64)))))).setCell ⟨p, 6, none⟩ (.int .i64 (v + 1))).drew p (gset g c t) (v + 1) := by
  have e1 : IntKind.u64.wrap (2 ^ (c % 64)) = ((2 ^ (c % 64) : Nat) : Int) := by
    have : (2 : Nat) ^ (c % 64) < 2 ^ 64 := Nat.pow_lt_pow_right (by decide) (Nat.mod_lt _ (by decide))
    rw [IntKind.wrap_u64]
    have e : ((2 : Int) ^ (c % 64)) = ((2 ^ (c % 64) : Nat) : Int) := by simp
    rw [e]
    clear e
    generalize 2 ^ (c % 64) = n at *
    omega
  have hx : ws (c / 64) ^^^ 2 ^ (c % 64) < 18446744073709551616 := Nat.xor_lt_two_pow (n := 64) (h1 _) (Nat.pow_lt_pow_right (by decide) (Nat.mod_lt _ (by decide)))
  rw [e1, bits_xor_pow _ _ (h1 _) (Nat.mod_lt _ (by decide))]
  refine ⟨h0, upd ws (c / 64) (ws (c / 64) ^^^ 2 ^ (c % 64)), ?_, ?_, ?_⟩
  · intro i
    unfold upd; split
    · exact hx
    · exact h1 i
  · rw [gset_heap _ _ _ _ _ _ _ hB]
    rcases (show c / 64 = 0 ∨ c / 64 = 1 ∨ c / 64 = 2 ∨ c / 64 = 3 by omega) with e | e | e | e <;> rw [e] <;> simp [gridCells, upd, gset]
  · intro c' hc'
    show upd g.b c t c' = _
    by_cases e : c' = c
    · subst e
      rw [upd_same, upd_same, Nat.testBit_xor, ← h3 c' hc', ht, Nat.testBit_two_pow_self]
      cases t <;> rfl
    · rw [upd_ne _ _ e, h3 c' hc']
      by_cases q : c' / 64 = c / 64
      · rw [q, upd_same, Nat.testBit_xor, Nat.testBit_two_pow_of_ne (by omega), Bool.xor_false]
      · rw [upd_ne _ _ q]
set_option maxHeartbeats 800000 in
theorem gridSet_new (w : World) (p : Nat) (g : G) (v : Int) (c : Nat) (t : Bool) (h : GridAt w p g v) (hc : c < g.n) (ht : g.b c = !t) (hv : 0 ≤ v ∧ v ≤ 1099511627776) :
    Calls Tryd.prog 22 #[.pointer (some ⟨p, 0, none⟩), .int .i64 (c : Nat), .bool t] w fun e w' => e = .returned (.tuple #[.bool true, .nilIface]) ∧ GridAt w' p (gset g c t) (v + 1) ∧ Kept [p] w w' := by
  have hf := gridFree_in w p g v c h hc
  rw [ht] at hf
  have hn := G.n_le h.1
  obtain ⟨v0, v1⟩ := hv
  have hlt := h.lt
  obtain ⟨h0, ws, h1, hb, h3⟩ := h
  have Hb := Lib.hid hb
  have Ht := Lib.hid ht
  have H1 := Lib.hid h1
  have H3 := Lib.hid h3
  clear hb ht h1 h3
  go_enter Tryd.func22, Tryd.ntmps22
  go_wp2_with fail
  refine hf.mono ?_
  rintro e w1 ⟨rfl, hb1⟩
  have hB1 := Lib.hid ((hb1.block p hlt).trans Hb.out)
  have hk : Kept [p] w w1 := .of_below hb1
  clear hb1 hf
  have kz : w1.cell? ⟨p, 2 + c / 64, none⟩ = some (.int .u64 (ws (c / 64))) := by
    have := hB1.out
    rcases (show c / 64 = 0 ∨ c / 64 = 1 ∨ c / 64 = 2 ∨ c / 64 = 3 by omega) with e | e | e | e <;> rw [e] <;> simp [World.cell?, this, gridCells]
  have kv : w1.cell? ⟨p, 6, none⟩ = some (.int .i64 v) := by have := hB1.out; simp [World.cell?, this, gridCells]
  have kf : ∀ k, w1.frozen? ⟨p, k, none⟩ = false := by intro k; have := hB1.out; simp [World.frozen?, this]
  cases t
  all_goals
    go_wp2_with fail
    go_region
    go_wp2
    go_ret2
    refine ⟨rfl, gset_at h0 hB1.out H1.out H3.out (by omega) Ht.out, ?_⟩
    exact ((hk.setCell (.inl (by simp))).setCell (.inl (by simp))).drew
end Go.Proofs.YtjejkadaafmdcaaDoor
/- What the reference's Set, NewGrid, May, To do; and To of package grid. -/
namespace Go.Proofs.YtjejkadaafmdcaaDoor
open Go.RowKit Go.Sort FR
theorem RGridAt.kept {S : List Nat} {w w' : World} {p : Nat} {g : G} {v : Int} (h : RGridAt w p g v) (hk : Kept S w w') (hp : p ∉ S) : RGridAt w' p g v :=
  ⟨h.1, (hk.block p h.lt hp).trans h.2⟩
def rNewRow (a b : Value) : Array Value := rowOf (fun k => if k = 0 then a else if k = 1 then b else if k = 258 then .int .i64 0 else .bool false) 259
theorem rNew_cells (a b : Value) : (Tryd.zeroCells53.setIfInBounds 0 a).setIfInBounds 1 b = rNewRow a b := by kernel_rfl
theorem rNew_ok (a b : Int) (w : World) (h : 1 ≤ a ∧ a ≤ 16 ∧ 1 ≤ b ∧ b ≤ 16) :
    Calls Tryd.prog 20 #[.int .i64 a, .int .i64 b] w fun e w' => e = .returned (.tuple #[.pointer (some ⟨w.heap.size, 0, none⟩), .int .i64 0]) ∧ RGridAt w' w.heap.size ⟨a.toNat, b.toNat, fun _ => false⟩ 0 ∧ Below w.heap.size w w' ∧ w'.heap.size = w.heap.size + 1 := by
  obtain ⟨h1, h2, h3, h4⟩ := h
  go_enter Tryd.func20, Tryd.ntmps20
  go_wp2
  go_ret2
  refine ⟨rfl, ?_, by (repeat' (first | exact Below.refl _ _ | assumption | apply bel_drewN | apply bel_drew | apply bel_alloc | (refine bel_trans ?_ (by assumption)))), by simp⟩
  refine ⟨⟨by simp only; omega, by simp only; omega, by simp only; omega, by simp only; omega⟩, ?_⟩
  rw [heap_alloc_new, rNew_cells]
  unfold rNewRow rcell
  simp only [Int.toNat_of_nonneg (show 0 ≤ a by omega), Int.toNat_of_nonneg (show 0 ≤ b by omega)]
theorem rNew_bad (a b : Int) (w : World) (h : ¬ (1 ≤ a ∧ a ≤ 16 ∧ 1 ≤ b ∧ b ≤ 16)) :
    Calls Tryd.prog 20 #[.int .i64 a, .int .i64 b] w fun e w' => e = .returned (.tuple #[.pointer none, .int .i64 1]) ∧ w = w' := by
  go_enter Tryd.func20, Tryd.ntmps20
  go_wp2
  all_goals
    go_ret2
    exact ⟨rfl, rfl⟩
theorem rSet_out (w : World) (p : Nat) (g : G) (v c : Int) (t : Bool) (h : RGridAt w p g v) (hc : c < 0 ∨ g.n ≤ c) :
    Calls Tryd.prog 23 #[.pointer (some ⟨p, 0, none⟩), .int .i64 c, .bool t] w fun e w' => e = .returned (.tuple #[.bool false, .int .i64 1]) ∧ Below w.heap.size w w' := by
  go_enter Tryd.func23, Tryd.ntmps23
  go_wp2_with fail
  refine (rIs_out w p g v c h hc).mono ?_
  rintro e w1 ⟨rfl, hb⟩
  go_wp2
  go_ret2
  exact ⟨rfl, by (repeat' (first | exact Below.refl _ _ | assumption | apply bel_drewN | apply bel_drew | apply bel_alloc | (refine bel_trans ?_ (by assumption))))⟩
theorem rset_heap (w : World) (p k : Nat) (cs : Array Value) (T : TypeId) (x y : Value) (h : w.heap[p]? = some (.cells cs T (0, 0))) :
    ((w.setCell ⟨p, k, none⟩ x).setCell ⟨p, 258, none⟩ y).heap[p]? = some (.cells ((cs.setIfInBounds k x).setIfInBounds 258 y) T (0, 0)) := by
  simp [World.setCell, Array.getElem?_modify, h]
theorem rset_at {w : World} {p : Nat} {g : G} {v : Int} {c : Nat} {t : Bool} (h : RGridAt w p g v) (hc : c < 256) :
    RGridAt ((w.setCell ⟨p, 2 + c, none⟩ (.bool t)).setCell ⟨p, 258, none⟩ (.int .i64 (v + 1))) p (gset g c t) (v + 1) := by
  refine ⟨h.1, ?_⟩
  rw [rset_heap _ _ _ _ _ _ _ h.2]
  congr 2
  apply Array.ext_getElem?
  intro i
  rw [Array.getElem?_setIfInBounds, Array.getElem?_setIfInBounds]
  have hsz : (rowOf (rcell g v) 259).size = 259 := rowOf_size _ _
  by_cases h1 : i < 259
  · rw [rowOf_get _ _ _ h1]
    by_cases h2 : 258 = i
    · subst h2; rw [if_pos rfl, if_pos (by simp [hsz])]; rfl
    · rw [if_neg h2]
      by_cases h3 : 2 + c = i
      · subst h3; rw [if_pos rfl, if_pos (by rw [hsz]; exact h1), rowOf_get _ _ _ h1]; simp [rcell, gset, upd, show 2 + c ≠ 0 by omega, show 2 + c ≠ 1 by omega, show 2 + c ≠ 258 by omega]
      · rw [if_neg h3, rowOf_get _ _ _ h1]
        unfold rcell gset
        by_cases a : i = 0
        · rw [if_pos a, if_pos a]
        · rw [if_neg a, if_neg a]
          by_cases b : i = 1
          · rw [if_pos b, if_pos b]
          · rw [if_neg b, if_neg b, if_neg (by omega), if_neg (by omega)]
            simp only
            rw [upd_ne _ _ (by omega)]
  · rw [if_neg (by omega), if_neg (by omega), Array.getElem?_eq_none (by rw [hsz]; omega), Array.getElem?_eq_none (by rw [rowOf_size]; omega)]
set_option maxHeartbeats 800000 in
theorem rSet_new (w : World) (p : Nat) (g : G) (v : Int) (c : Nat) (t : Bool) (h : RGridAt w p g v) (hc : c < g.n) (ht : g.b c = !t) (hv : 0 ≤ v ∧ v ≤ 1099511627776) :
    Calls Tryd.prog 23 #[.pointer (some ⟨p, 0, none⟩), .int .i64 (c : Nat), .bool t] w fun e w' => e = .returned (.tuple #[.bool true, .int .i64 0]) ∧ RGridAt w' p (gset g c t) (v + 1) ∧ Kept [p] w w' := by
  have hi := Lib.hid (rIs_in w p g v c h hc)
  have hn := G.n_le h.1
  obtain ⟨v0, v1⟩ := hv
  have hlt := h.lt
  have Ht := Lib.hid ht
  have kb0 := h.bit c (by omega)
  rw [ht] at kb0
  clear ht
  cases t
  all_goals
    go_enter Tryd.func23, Tryd.ntmps23
    go_wp2_with fail
    refine hi.out.mono ?_
    rintro e w1 ⟨rfl, hb1⟩
    have h' := h.below hb1 hlt
    have hk : Kept [p] w w1 := .of_below hb1
    have kb := (hb1.cell (p := ⟨p, 2 + c, none⟩) hlt).trans kb0
    have kv := h'.ver
    have kf : ∀ k, w1.frozen? ⟨p, k, none⟩ = false := by intro k; have := h'.2; simp [World.frozen?, this]
    clear kb0 hb1
    go_wp2
    go_ret2
    exact ⟨rfl, rset_at h' (by omega), (hk.setCell (.inl (by simp))).setCell (.inl (by simp))⟩
end Go.Proofs.YtjejkadaafmdcaaDoor
/- What Laid hands back: nothing, or a grid and the reference's grid that have the same cells. -/
namespace Go.Proofs.YtjejkadaafmdcaaDoor
open Go.RowKit Go.Sort FR
/-- a slice of n numbers, f k at place k -/
def Ints (w : World) (a : Option Addr) (n : Nat) (f : Nat → Int) : Prop := 0 < n → ∃ ad, a = some ad ∧ ad.block < w.heap.size ∧ ∀ k, k < n → w.cell? (ad.add k) = some (.int .i64 (f k))
theorem add_block (a : Addr) (n : Nat) : (a.add n).block = a.block := by unfold Addr.add; split <;> rfl
theorem Ints.below {w w' : World} {a : Option Addr} {n : Nat} {f : Nat → Int} (h : Ints w a n f) (hb : Below w.heap.size w w') : Ints w' a n f := by
  intro hn
  obtain ⟨ad, h1, h2, h3⟩ := h hn
  exact ⟨ad, h1, Nat.lt_of_lt_of_le h2 hb.size, fun k hk => (hb.cell (p := ad.add k) (by rw [add_block]; exact h2)).trans (h3 k hk)⟩
def Laid (w : World) (e : Ending) (w' : World) : Prop :=
  (e = .returned (.tuple #[.pointer none, .pointer none, .bool false]) ∧ Below w.heap.size w w') ∨
  ∃ p q g v, e = .returned (.tuple #[.pointer (some ⟨p, 0, none⟩), .pointer (some ⟨q, 0, none⟩), .bool true]) ∧ w.heap.size ≤ p ∧ p < q ∧ GridAt w' p g v ∧ RGridAt w' q g v ∧ 0 ≤ v ∧ v ≤ 300 ∧ Below w.heap.size w w'
theorem Laid.none {w w' : World} (h : Below w.heap.size w w') : Laid w (.returned (.tuple #[.pointer none, .pointer none, .bool false])) w' := .inl ⟨rfl, h⟩
theorem gridNew_ex (a b : Int) (w : World) (h : 1 ≤ a ∧ a ≤ 16 ∧ 1 ≤ b ∧ b ≤ 16) :
    Calls Tryd.prog 19 #[.int .i64 a, .int .i64 b] w fun e w' => ∃ p, e = .returned (.tuple #[.pointer (some ⟨p, 0, none⟩), .nilIface]) ∧ w.heap.size ≤ p ∧ GridAt w' p ⟨a.toNat, b.toNat, fun _ => false⟩ 0 ∧ Below w.heap.size w w' :=
  (gridNew_ok a b w h).mono fun _ _ ⟨h1, h2, h3, h4⟩ => ⟨_, h1, Nat.le_refl _, h2, h3⟩
theorem rNew_ex (a b : Int) (w : World) (h : 1 ≤ a ∧ a ≤ 16 ∧ 1 ≤ b ∧ b ≤ 16) :
    Calls Tryd.prog 20 #[.int .i64 a, .int .i64 b] w fun e w' => ∃ p, e = .returned (.tuple #[.pointer (some ⟨p, 0, none⟩), .int .i64 0]) ∧ w.heap.size ≤ p ∧ RGridAt w' p ⟨a.toNat, b.toNat, fun _ => false⟩ 0 ∧ Below w.heap.size w w' :=
  (rNew_ok a b w h).mono fun _ _ ⟨h1, h2, h3, h4⟩ => ⟨_, h1, Nat.le_refl _, h2, h3⟩
/-- what holds at each round's head, behind k rounds -/
def LaidR (W : World) (p q : Nat) (k : Nat) (wr : World) : Prop := ∃ g v, GridAt wr p g v ∧ RGridAt wr q g v ∧ 0 ≤ v ∧ v ≤ k ∧ Below W.heap.size W wr
theorem laid_any (a b : Int) (A : Option Addr) (n m : Nat) (f : Nat → Int) (w : World) (h : Ints w A n f) (hn : n ≤ 9223372036854775807) :
    Calls Tryd.prog 10 #[.agg #[.int .i64 a, .int .i64 b, .slice A n m]] w (Laid w) := by
  have h := Lib.hid h
  by_cases h3 : 300 < n
  · go_enter Tryd.func10, Tryd.ntmps10
    go_wp2
    go_ret3
    exact Laid.none (by (repeat' (first | exact Below.refl _ _ | assumption | apply bel_drewN | apply bel_drew | apply bel_alloc | (refine bel_trans ?_ (by assumption)))))
  by_cases hs : 1 ≤ a ∧ a ≤ 16 ∧ 1 ≤ b ∧ b ≤ 16
  · rcases Nat.eq_zero_or_pos n with hn0 | hnp
    · subst hn0
      go_enter Tryd.func10, Tryd.ntmps10
      go_upto_region 1 with (fail)
      refine wp_name ?_
      intro W hW
      have HW : Below w.heap.size w W := by rw [hW]; (repeat' (first | exact Below.refl _ _ | assumption | apply bel_drewN | apply bel_drew | apply bel_alloc | (refine bel_trans ?_ (by assumption))))
      have k0 : ∀ w', Below W.heap.size W w' → w'.cell? ⟨w.heap.size, 0, none⟩ = some (.int .i64 a : Value) := fun w' hbw => (hbw.cell (p := ⟨w.heap.size, 0, none⟩) (by rw [hW]; simp <;> omega)).trans (by rw [hW]; go_simp)
      have k1 : ∀ w', Below W.heap.size W w' → w'.cell? ⟨w.heap.size, 1, none⟩ = some (.int .i64 b : Value) := fun w' hbw => (hbw.cell (p := ⟨w.heap.size, 1, none⟩) (by rw [hW]; simp <;> omega)).trans (by rw [hW]; go_simp)
      have k2 : ∀ w', Below W.heap.size W w' → w'.cell? ⟨w.heap.size, 2, none⟩ = some (.slice A 0 m : Value) := fun w' hbw => (hbw.cell (p := ⟨w.heap.size, 2, none⟩) (by rw [hW]; simp <;> omega)).trans (by rw [hW]; go_simp)
      clear h
      have hws0 : W.heap.size = w.heap.size + 1 := by rw [hW]; simp
      have hws := Lib.hid hws0
      clear hws0
      clear hW
      have HB := Below.refl W.heap.size W
      go_wp2_with fail
      refine (gridNew_ex a b _ hs).mono ?_
      rintro e w1 ⟨p, rfl, hp, hG, hb1⟩
      have HB := bel_trans HB hb1
      go_wp2_with fail
      refine (rNew_ex a b _ hs).mono ?_
      rintro e w2 ⟨q, rfl, hq, hR, hb2⟩
      have hpq : p < q := Nat.lt_of_lt_of_le hG.lt hq
      have hwp : w.heap.size ≤ p := Nat.le_trans HW.size hp
      have hG := hG.below hb2 hG.lt
      have HB := bel_trans HB hb2
      go_wp2_with fail
      have hstart : LaidR W p q 0 w2 := ⟨_, 0, hG, hR, by omega, by omega, HB⟩
      have hBW := HB.size
      clear hG hR HB hb1 hb2
      go_loopw [9] (fun i wr => ∃ k : Nat, k ≤ 0 ∧ i = .int .i64 k ∧ LaidR W p q k wr) (fun i _ => 0 - (intOf i).toNat)
      case atStart => exact ⟨0, Nat.zero_le _, rfl, hstart⟩
      case round =>
        obtain ⟨k, hk, rfl, g, v, hG, hR, hv0, hv, HB⟩ := hrel
        clear hstart
        go_wp2_with fail
        go_ret3
        exact .inr ⟨p, q, g, v, rfl, by omega, by omega, hG, hR, hv0, by omega, bel_trans HW HB⟩
    · obtain ⟨ad, rfl, hadb, hE0⟩ := h.out hnp
      have hE0 := Lib.hid hE0
      go_enter Tryd.func10, Tryd.ntmps10
      go_upto_region 1 with (fail)
      refine wp_name ?_
      intro W hW
      have HW : Below w.heap.size w W := by rw [hW]; (repeat' (first | exact Below.refl _ _ | assumption | apply bel_drewN | apply bel_drew | apply bel_alloc | (refine bel_trans ?_ (by assumption))))
      have k0 : ∀ w', Below W.heap.size W w' → w'.cell? ⟨w.heap.size, 0, none⟩ = some (.int .i64 a : Value) := fun w' hbw => (hbw.cell (p := ⟨w.heap.size, 0, none⟩) (by rw [hW]; simp <;> omega)).trans (by rw [hW]; go_simp)
      have k1 : ∀ w', Below W.heap.size W w' → w'.cell? ⟨w.heap.size, 1, none⟩ = some (.int .i64 b : Value) := fun w' hbw => (hbw.cell (p := ⟨w.heap.size, 1, none⟩) (by rw [hW]; simp <;> omega)).trans (by rw [hW]; go_simp)
      have k2 : ∀ w', Below W.heap.size W w' → w'.cell? ⟨w.heap.size, 2, none⟩ = some (.slice (some ad) n m : Value) := fun w' hbw => (hbw.cell (p := ⟨w.heap.size, 2, none⟩) (by rw [hW]; simp <;> omega)).trans (by rw [hW]; go_simp)
      have HWe1 := Lib.hid (fun k (hk : k < n) w' (hb : Below W.heap.size W w') => (((HW.trans (hb.mono HW.size)).cell (p := ad.add k) (by rw [add_block]; exact hadb)).trans (hE0.out k hk)))
      have hws0 : W.heap.size = w.heap.size + 1 := by rw [hW]; simp
      have hws := Lib.hid hws0
      clear hws0
      clear hW
      have HB := Below.refl W.heap.size W
      go_wp2_with fail
      refine (gridNew_ex a b _ hs).mono ?_
      rintro e w1 ⟨p, rfl, hp, hG, hb1⟩
      have HB := bel_trans HB hb1
      go_wp2_with fail
      refine (rNew_ex a b _ hs).mono ?_
      rintro e w2 ⟨q, rfl, hq, hR, hb2⟩
      have hpq : p < q := Nat.lt_of_lt_of_le hG.lt hq
      have hwp : w.heap.size ≤ p := Nat.le_trans HW.size hp
      have hG := hG.below hb2 hG.lt
      have HB := bel_trans HB hb2
      go_wp2_with fail
      have hstart : LaidR W p q 0 w2 := ⟨_, 0, hG, hR, by omega, by omega, HB⟩
      have hBW := HB.size
      clear hG hR HB hb1 hb2
      go_loopw [9] (fun i wr => ∃ k : Nat, k ≤ n ∧ i = .int .i64 k ∧ LaidR W p q k wr) (fun i _ => n - (intOf i).toNat)
      case atStart => exact ⟨0, Nat.zero_le _, rfl, hstart⟩
      case round =>
        obtain ⟨k, hk, rfl, g, v, hG, hR, hv0, hv, HB⟩ := hrel
        clear hstart
        by_cases hlt : k < n
        · have hE := HWe1.out k hlt wr HB
          by_cases hin : 0 ≤ f k ∧ f k < g.n
          · obtain ⟨hin0, hin1⟩ := hin
            obtain ⟨c, hc⟩ := Int.eq_ofNat_of_zero_le hin0
            rw [hc] at hE
            have hcn : c < g.n := by omega
            have hn2 := G.n_le hG.1
            clear hc hin0 hin1
            go_wp2_with fail
            refine (rIs_in _ q g v c hR hcn).mono ?_
            rintro e w3 ⟨rfl, hb3⟩
            have hG := hG.below hb3 hG.lt
            have hR := hR.below hb3 hR.lt
            have HB := bel_trans HB hb3
            have hqb := hR.bit c (by omega)
            obtain ⟨t, ht⟩ : ∃ t, g.b c = !t := ⟨!g.b c, by simp⟩
            rw [ht] at hqb
            have Ht := Lib.hid ht
            clear ht hb3
            have hpp : p < w3.heap.size := hG.lt
            have hqq : q < w3.heap.size := hR.lt
            cases t
            all_goals
              go_wp2_with fail
              refine (gridSet_new _ p g v c _ hG hcn Ht.out (by omega)).mono ?_
              rintro e w4 ⟨rfl, hG4, hk4⟩
              have hR4 := hR.kept hk4 (by simp; omega)
              have HB4 := Kept.below HB hk4 HB.size (by simp; omega)
              go_wp2_with fail
              refine (rSet_new _ q g v c _ hR4 hcn Ht.out (by omega)).mono ?_
              rintro e w5 ⟨rfl, hR5, hk5⟩
              have hG5 := hG4.kept hk5 (by simp; omega)
              have HB5 := Kept.below HB4 hk5 HB4.size (by simp; omega)
              go_wp2
              go_roundw
              case rel => exact ⟨k + 1, by omega, by go_num, _, _, hG5, hR5, by omega, by omega, HB5⟩
              case measure => simp [intOf]; omega
          · have hout : f k < 0 ∨ g.n ≤ f k := by omega
            go_wp2_with fail
            refine (rIs_out _ q g v _ hR hout).mono ?_
            rintro e w3 ⟨rfl, hb3⟩
            have hG := hG.below hb3 hG.lt
            have hR := hR.below hb3 hR.lt
            have HB := bel_trans HB hb3
            clear hb3
            go_wp2_with fail
            refine (gridSet_out _ p g v _ _ hG hout).mono ?_
            rintro e w4 ⟨rfl, hb4⟩
            have hG := hG.below hb4 hG.lt
            have hR := hR.below hb4 hR.lt
            have HB := bel_trans HB hb4
            clear hb4
            go_wp2_with fail
            refine (rSet_out _ q g v _ _ hR hout).mono ?_
            rintro e w5 ⟨rfl, hb5⟩
            have hG := hG.below hb5 hG.lt
            have hR := hR.below hb5 hR.lt
            have HB := bel_trans HB hb5
            clear hb5
            go_wp2
            go_roundw
            case rel => exact ⟨k + 1, by omega, by go_num, _, _, hG, hR, by omega, by omega, HB⟩
            case measure => simp [intOf]; omega
        · go_wp2_with fail
          go_ret3
          exact .inr ⟨p, q, g, v, rfl, by omega, by omega, hG, hR, hv0, by omega, bel_trans HW HB⟩
  · go_enter Tryd.func10, Tryd.ntmps10
    go_wp2_with fail
    refine (gridNew_bad a b _ hs).mono ?_
    rintro e w1 ⟨rfl, rfl⟩
    go_wp2_with fail
    refine (rNew_bad a b _ hs).mono ?_
    rintro e w1 ⟨rfl, rfl⟩
    go_wp2
    go_ret3
    exact Laid.none (by (repeat' (first | exact Below.refl _ _ | assumption | apply bel_drewN | apply bel_drew | apply bel_alloc | (refine bel_trans ?_ (by assumption)))))
end Go.Proofs.YtjejkadaafmdcaaDoor
