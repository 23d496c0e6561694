/- What the functions of package grid hand back, of a grid that lies in memory. -/
import Derived.Test.YtkiogciokngjfaaCost2
import Derived.Outline
import Derived.Laws.BitsAllLaws
set_option linter.unusedVariables false
set_option linter.unusedSimpArgs false
namespace Go.Proofs.Ytkiogciokngjfaa
open Go.RowKit Go.Sort FR
/-- the cells of a grid: its size, four words of bits, how many times it changed -/
def gridCells (g : G) (ws : Nat → Nat) (v : Int) : Array Value := #[.int .i64 g.w, .int .i64 g.h, .int .u64 (ws 0), .int .u64 (ws 1), .int .u64 (ws 2), .int .u64 (ws 3), .int .i64 v]
/-- block p is a grid -/
def GridAt (w : World) (p : Nat) (g : G) (v : Int) : Prop := g.ok ∧ ∃ ws : Nat → Nat, (∀ i, ws i < 18446744073709551616) ∧ w.heap[p]? = some (.cells (gridCells g ws v) 146 (0, 0)) ∧ ∀ c, c < 256 → g.b c = (ws (c / 64)).testBit (c % 64)
theorem GridAt.lt {w : World} {p : Nat} {g : G} {v : Int} (h : GridAt w p g v) : p < w.heap.size := by
  obtain ⟨_, ws, _, hb, _⟩ := h
  exact (Array.getElem?_eq_some_iff.1 hb).1
theorem GridAt.below {w w' : World} {p B : Nat} {g : G} {v : Int} (h : GridAt w p g v) (hb : Below B w w') (hp : p < B) : GridAt w' p g v := by
  obtain ⟨h0, ws, h1, h2, h3⟩ := h
  exact ⟨h0, ws, h1, (hb.block p hp).trans h2, h3⟩
theorem GridAt.size {w : World} {p : Nat} {g : G} {v : Int} (h : GridAt w p g v) : w.cell? ⟨p, 0, none⟩ = some (.int .i64 g.w) ∧ w.cell? ⟨p, 1, none⟩ = some (.int .i64 g.h) := by
  obtain ⟨_, ws, _, hb, _⟩ := h
  simp [World.cell?, hb, gridCells]
theorem GridAt.word {w : World} {p : Nat} {g : G} {v : Int} (h : GridAt w p g v) (c : Nat) (hc : c < 256) : ∃ x : Nat, x < 18446744073709551616 ∧ w.cell? ⟨p, 2 + c / 64, none⟩ = some (.int .u64 x) ∧ g.b c = x.testBit (c % 64) := by
  obtain ⟨_, ws, h1, hb, h3⟩ := h
  refine ⟨ws (c / 64), h1 _, ?_, h3 c hc⟩
  rcases (show c / 64 = 0 ∨ c / 64 = 1 ∨ c / 64 = 2 ∨ c / 64 = 3 by omega) with e | e | e | e <;> rw [e] <;> simp [World.cell?, hb, gridCells]
theorem bit_eq (z k : Nat) (hz : z < 18446744073709551616) : (bits BinOp.and IntKind.u64 ((z : Int) / 2 ^ k) 1 == 0) = !z.testBit k := by
  have e1 : (z : Int) / 2 ^ k = ((z / 2 ^ k : Nat) : Int) := by simp
  have hlt : z / 2 ^ k < 18446744073709551616 := Nat.lt_of_le_of_lt (Nat.div_le_self _ _) hz
  have e2 : bits BinOp.and IntKind.u64 ((z / 2 ^ k : Nat) : Int) 1 = ((z / 2 ^ k &&& 1 : Nat) : Int) := u64_and_nat _ 1 hlt (by decide)
  rw [e1, e2, Nat.and_one_is_mod, Nat.testBit_eq_decide_div_mod_eq]
  rcases Nat.mod_two_eq_zero_or_one (z / 2 ^ k) with e | e <;> rw [e] <;> rfl
def inP (x : Int) : Prop := -1048576 ≤ x ∧ x ≤ 1048576
theorem gridCell_in (w : World) (p : Nat) (g : G) (v x y : Int) (h : GridAt w p g v) (hx : 0 ≤ x) (hx' : x < g.w) (hy : 0 ≤ y) (hy' : y < g.h) :
    Calls Try.prog 107 #[.pointer (some ⟨p, 0, none⟩), .int .i64 x, .int .i64 y] w fun e w' => e = .returned (.tuple #[.int .i64 (y * g.w + x), .nilIface]) ∧ w = w' := by
  obtain ⟨k1, k2⟩ := h.size
  obtain ⟨o1, o2, o3, o4⟩ := h.1
  have hm : 0 ≤ y * g.w ∧ y * g.w ≤ 256 := ⟨Int.mul_nonneg hy (by omega), Int.le_trans (Int.mul_le_mul (show y ≤ 16 by omega) (show (g.w : Int) ≤ 16 by omega) (by omega) (by omega)) (by omega)⟩
  obtain ⟨m1, m2⟩ := hm
  clear h
  go_enter Try.func107, Try.ntmps107
  go_wp2
  go_ret2
  exact ⟨rfl, rfl⟩
theorem gridCell_out (w : World) (p : Nat) (g : G) (v x y : Int) (h : GridAt w p g v) (ho : ¬ (0 ≤ x ∧ x < g.w ∧ 0 ≤ y ∧ y < g.h)) :
    Calls Try.prog 107 #[.pointer (some ⟨p, 0, none⟩), .int .i64 x, .int .i64 y] w fun e w' => e = .returned (.tuple #[.int .i64 0, .iface 137 (.int .i64 1)]) ∧ w = w' := by
  obtain ⟨k1, k2⟩ := h.size
  clear h
  go_enter Try.func107, Try.ntmps107
  go_wp2
  all_goals
    go_ret2
    exact ⟨rfl, rfl⟩
theorem gridOpen (w : World) (p : Nat) (g : G) (v x y : Int) (h : GridAt w p g v) :
    Calls Try.prog 103 #[.pointer (some ⟨p, 0, none⟩), .int .i64 x, .int .i64 y] w fun e w' => e = .returned (.bool (g.op x y)) ∧ w = w' := by
  by_cases ho : 0 ≤ x ∧ x < g.w ∧ 0 ≤ y ∧ y < g.h
  · obtain ⟨a1, a2, a3, a4⟩ := ho
    have hc := gridCell_in w p g v x y h a1 a2 a3 a4
    obtain ⟨i, rfl⟩ := Int.eq_ofNat_of_zero_le a1
    obtain ⟨j, rfl⟩ := Int.eq_ofNat_of_zero_le a3
    have e : ((j : Int) * g.w + i) = ((j * g.w + i : Nat) : Int) := by simp
    have e2 : g.op i j = !g.b (j * g.w + i) := by unfold G.op; simp; omega
    have hb : j * g.w + i < 256 := by
      obtain ⟨o1, o2, o3, o4⟩ := h.1
      have : j * g.w ≤ 15 * 16 := Nat.mul_le_mul (by omega) o2
      omega
    rw [e2]
    rw [e] at hc
    obtain ⟨z, hz1, hz2, hz3⟩ := h.word (j * g.w + i) hb
    generalize j * g.w + i = c at *
    rw [hz3]
    clear h hz3 e e2
    go_enter Try.func103, Try.ntmps103
    go_wp2_with fail
    refine hc.mono ?_
    rintro e w' ⟨rfl, rfl⟩
    go_wp2
    all_goals
      go_ret
      exact ⟨ret_b (bit_eq _ _ hz1), rfl⟩
  · have hc := gridCell_out w p g v x y h ho
    have e2 : g.op x y = false := by unfold G.op; simp; omega
    rw [e2]
    clear h
    go_enter Try.func103, Try.ntmps103
    go_wp2_with fail
    refine hc.mono ?_
    rintro e w' ⟨rfl, rfl⟩
    go_wp2
    go_ret
    exact ⟨rfl, rfl⟩
theorem gridCellsN (w : World) (p : Nat) (g : G) (v : Int) (h : GridAt w p g v) :
    Calls Try.prog 80 #[.pointer (some ⟨p, 0, none⟩)] w fun e w' => e = .returned (.int .i64 (g.n : Nat)) ∧ Below w.heap.size w w' := by
  obtain ⟨k1, k2⟩ := h.size
  obtain ⟨o1, o2, o3, o4⟩ := h.1
  have e : ((g.n : Nat) : Int) = (g.w : Int) * g.h := by unfold G.n; simp
  have hm : 0 ≤ (g.w : Int) * g.h ∧ (g.w : Int) * g.h ≤ 256 := by have := G.n_le h.1; rw [← e]; omega
  obtain ⟨m1, m2⟩ := hm
  clear h
  rw [e]
  clear e
  go_enter Try.func80, Try.ntmps80
  go_wp2_with fail
  go_quiet (fail)
  go_wp2
  go_ret
  exact ⟨rfl, by (repeat' (first | exact Below.refl _ _ | assumption | apply bel_drewN | apply bel_drew | apply bel_alloc | (refine bel_trans ?_ (by assumption))))⟩
theorem gridPlace_in (w : World) (p : Nat) (g : G) (v : Int) (c : Nat) (h : GridAt w p g v) (hc : c < g.n) :
    Calls Try.prog 102 #[.pointer (some ⟨p, 0, none⟩), .int .i64 (c : Nat)] w fun e w' => e = .returned (.tuple #[.int .i64 (g.X c : Nat), .int .i64 (g.Y c : Nat), .nilIface]) ∧ Below w.heap.size w w' := by
  have k1 := h.size.1
  obtain ⟨o1, o2, o3, o4⟩ := h.1
  have ex : ((g.X c : Nat) : Int) = (c : Int) % g.w := by unfold G.X; simp
  have ey : ((g.Y c : Nat) : Int) = (c : Int) / g.w := by unfold G.Y; simp
  rw [ex, ey]
  have q1 : 0 ≤ (c : Int) / g.w := by omega
  have q2 : (c : Int) / g.w ≤ 256 := by have := G.Y_lt hc; omega
  clear ex ey
  have hn := G.n_le h.1
  go_enter Try.func102, Try.ntmps102
  go_wp2_with fail
  refine (gridCellsN w p g v h).mono ?_
  rintro e w1 ⟨rfl, hb⟩
  have k1' := (hb.cell (p := ⟨p, 0, none⟩) h.lt).trans k1
  clear h
  go_wp2_with fail
  go_quiet (fail)
  go_wp2
  go_ret3
  exact ⟨rfl, by (repeat' (first | exact Below.refl _ _ | assumption | apply bel_drewN | apply bel_drew | apply bel_alloc | (refine bel_trans ?_ (by assumption))))⟩
theorem gridPlace_out (w : World) (p : Nat) (g : G) (v c : Int) (h : GridAt w p g v) (hc : c < 0 ∨ g.n ≤ c) :
    Calls Try.prog 102 #[.pointer (some ⟨p, 0, none⟩), .int .i64 c] w fun e w' => e = .returned (.tuple #[.int .i64 0, .int .i64 0, .iface 137 (.int .i64 1)]) ∧ Below w.heap.size w w' := by
  have hn := G.n_le h.1
  rcases hc with hc | hc
  · go_enter Try.func102, Try.ntmps102
    go_wp2
    go_ret3
    exact ⟨rfl, by (repeat' (first | exact Below.refl _ _ | assumption | apply bel_drewN | apply bel_drew | apply bel_alloc | (refine bel_trans ?_ (by assumption))))⟩
  · go_enter Try.func102, Try.ntmps102
    go_wp2_with fail
    refine (gridCellsN w p g v h).mono ?_
    rintro e w1 ⟨rfl, hb⟩
    clear h
    go_wp2
    go_ret3
    exact ⟨rfl, by (repeat' (first | exact Below.refl _ _ | assumption | apply bel_drewN | apply bel_drew | apply bel_alloc | (refine bel_trans ?_ (by assumption))))⟩
theorem gridFree_in (w : World) (p : Nat) (g : G) (v : Int) (c : Nat) (h : GridAt w p g v) (hc : c < g.n) :
    Calls Try.prog 49 #[.pointer (some ⟨p, 0, none⟩), .int .i64 (c : Nat)] w fun e w' => e = .returned (.tuple #[.bool (!g.b c), .nilIface]) ∧ Below w.heap.size w w' := by
  rw [← G.op_cell h.1 hc]
  go_enter Try.func49, Try.ntmps49
  go_wp2_with fail
  refine (gridPlace_in w p g v c h hc).mono ?_
  rintro e w1 ⟨rfl, hb⟩
  go_wp2_with fail
  refine (gridOpen w1 p g v _ _ (h.below hb h.lt)).mono ?_
  rintro e w' ⟨rfl, rfl⟩
  go_wp2
  go_ret2
  exact ⟨rfl, by (repeat' (first | exact Below.refl _ _ | assumption | apply bel_drewN | apply bel_drew | apply bel_alloc | (refine bel_trans ?_ (by assumption))))⟩
theorem gridFree_out (w : World) (p : Nat) (g : G) (v c : Int) (h : GridAt w p g v) (hc : c < 0 ∨ g.n ≤ c) :
    Calls Try.prog 49 #[.pointer (some ⟨p, 0, none⟩), .int .i64 c] w fun e w' => e = .returned (.tuple #[.bool false, .iface 137 (.int .i64 1)]) ∧ Below w.heap.size w w' := by
  go_enter Try.func49, Try.ntmps49
  go_wp2_with fail
  refine (gridPlace_out w p g v c h hc).mono ?_
  rintro e w1 ⟨rfl, hb⟩
  go_wp2
  go_ret2
  exact ⟨rfl, by (repeat' (first | exact Below.refl _ _ | assumption | apply bel_drewN | apply bel_drew | apply bel_alloc | (refine bel_trans ?_ (by assumption))))⟩
theorem gridSize (w : World) (p : Nat) (g : G) (v : Int) (h : GridAt w p g v) :
    Calls Try.prog 106 #[.pointer (some ⟨p, 0, none⟩)] w fun e w' => e = .returned (.tuple #[.int .i64 g.w, .int .i64 g.h]) ∧ Below w.heap.size w w' := by
  obtain ⟨k1, k2⟩ := h.size
  clear h
  go_enter Try.func106, Try.ntmps106
  go_wp2_with fail
  go_quiet (fail)
  go_wp2
  go_ret2
  exact ⟨rfl, by (repeat' (first | exact Below.refl _ _ | assumption | apply bel_drewN | apply bel_drew | apply bel_alloc | (refine bel_trans ?_ (by assumption))))⟩
theorem GridAt.ver {w : World} {p : Nat} {g : G} {v : Int} (h : GridAt w p g v) : w.cell? ⟨p, 6, none⟩ = some (.int .i64 v) := by
  obtain ⟨_, ws, _, hb, _⟩ := h
  simp [World.cell?, hb, gridCells]
theorem gridVersion (w : World) (p : Nat) (g : G) (v : Int) (h : GridAt w p g v) :
    Calls Try.prog 105 #[.pointer (some ⟨p, 0, none⟩)] w fun e w' => e = .returned (.int .i64 v) ∧ w = w' := by
  have k1 := h.ver
  clear h
  go_enter Try.func105, Try.ntmps105
  go_wp2
  go_ret
  exact ⟨rfl, rfl⟩
end Go.Proofs.Ytkiogciokngjfaa
