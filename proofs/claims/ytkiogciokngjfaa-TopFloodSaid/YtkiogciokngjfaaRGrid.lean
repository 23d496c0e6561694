/- What the reference's functions on grids hand back, of a grid of the reference that lies in memory. -/
import Derived.Test.YtkiogciokngjfaaGrid
set_option linter.unusedVariables false
set_option linter.unusedSimpArgs false
namespace Go.Proofs.Ytkiogciokngjfaa
open Go.RowKit Go.Sort FR
/-- n cells, cell k is f k -/
def rowOf (f : Nat → Value) (n : Nat) : Array Value := ((List.range n).map f).toArray
theorem rowOf_get (f : Nat → Value) (n k : Nat) (h : k < n) : (rowOf f n)[k]? = some (f k) := by simp [rowOf, h]
theorem rowOf_size (f : Nat → Value) (n : Nat) : (rowOf f n).size = n := by simp [rowOf]
/-- the cell of number k of a reference's grid -/
def rcell (g : G) (v : Int) (k : Nat) : Value := if k = 0 then .int .i64 g.w else if k = 1 then .int .i64 g.h else if k = 258 then .int .i64 v else .bool (g.b (k - 2))
/-- block p is a reference's grid -/
def RGridAt (w : World) (p : Nat) (g : G) (v : Int) : Prop := g.ok ∧ w.heap[p]? = some (.cells (rowOf (rcell g v) 259) 68 (0, 0))
theorem RGridAt.lt {w : World} {p : Nat} {g : G} {v : Int} (h : RGridAt w p g v) : p < w.heap.size := (Array.getElem?_eq_some_iff.1 h.2).1
theorem RGridAt.below {w w' : World} {p B : Nat} {g : G} {v : Int} (h : RGridAt w p g v) (hb : Below B w w') (hp : p < B) : RGridAt w' p g v := ⟨h.1, (hb.block p hp).trans h.2⟩
theorem RGridAt.cell {w : World} {p : Nat} {g : G} {v : Int} (h : RGridAt w p g v) (k : Nat) (hk : k < 259) : w.cell? ⟨p, k, none⟩ = some (rcell g v k) := by
  simp [World.cell?, h.2, rowOf_get _ _ _ hk]
theorem RGridAt.size {w : World} {p : Nat} {g : G} {v : Int} (h : RGridAt w p g v) : w.cell? ⟨p, 0, none⟩ = some (.int .i64 g.w) ∧ w.cell? ⟨p, 1, none⟩ = some (.int .i64 g.h) :=
  ⟨h.cell 0 (by decide), h.cell 1 (by decide)⟩
theorem RGridAt.bit {w : World} {p : Nat} {g : G} {v : Int} (h : RGridAt w p g v) (c : Nat) (hc : c < 256) : w.cell? ⟨p, 2 + c, none⟩ = some (.bool (g.b c)) := by
  rw [h.cell (2 + c) (by omega)]
  unfold rcell
  rw [if_neg (by omega), if_neg (by omega), if_neg (by omega), show 2 + c - 2 = c by omega]
theorem RGridAt.ver {w : World} {p : Nat} {g : G} {v : Int} (h : RGridAt w p g v) : w.cell? ⟨p, 258, none⟩ = some (.int .i64 v) := h.cell 258 (by decide)
theorem rIs_in (w : World) (p : Nat) (g : G) (v : Int) (c : Nat) (h : RGridAt w p g v) (hc : c < g.n) :
    Calls Try.prog 35 #[.pointer (some ⟨p, 0, none⟩), .int .i64 (c : Nat)] w fun e w' => e = .returned (.int .i64 0) ∧ Below w.heap.size w w' := by
  obtain ⟨k1, k2⟩ := h.size
  obtain ⟨o1, o2, o3, o4⟩ := h.1
  have hn := G.n_le h.1
  have e : ((g.n : Nat) : Int) = (g.w : Int) * g.h := by unfold G.n; simp
  have m1 : 0 ≤ (g.w : Int) * g.h := by omega
  have m2 : (g.w : Int) * g.h ≤ 256 := by omega
  have hd : decide ((g.w : Int) * g.h ≤ (c : Int)) = false := by simp; omega
  have hd0 : decide ((c : Int) < 0) = false := by simp
  have hw : IntKind.i64.wrap ((g.w : Int) * g.h) = (g.w : Int) * g.h := IntWalk.i64_in _ (by omega)
  clear h e
  go_enter Try.func35, Try.ntmps35
  go_wp2_with fail
  go_quiet (fail)
  go_wp2
  go_ret
  exact ⟨rfl, by (repeat' (first | exact Below.refl _ _ | assumption | apply bel_drewN | apply bel_drew | apply bel_alloc | (refine bel_trans ?_ (by assumption))))⟩
theorem rIs_out (w : World) (p : Nat) (g : G) (v c : Int) (h : RGridAt w p g v) (hc : c < 0 ∨ g.n ≤ c) :
    Calls Try.prog 35 #[.pointer (some ⟨p, 0, none⟩), .int .i64 c] w fun e w' => e = .returned (.int .i64 1) ∧ Below w.heap.size w w' := by
  obtain ⟨k1, k2⟩ := h.size
  obtain ⟨o1, o2, o3, o4⟩ := h.1
  have hn := G.n_le h.1
  have e : ((g.n : Nat) : Int) = (g.w : Int) * g.h := by unfold G.n; simp
  have m1 : 0 ≤ (g.w : Int) * g.h := by omega
  have m2 : (g.w : Int) * g.h ≤ 256 := by omega
  have hw : IntKind.i64.wrap ((g.w : Int) * g.h) = (g.w : Int) * g.h := IntWalk.i64_in _ (by omega)
  rcases (show c < 0 ∨ (0 ≤ c ∧ (g.n : Int) ≤ c) by omega) with hc | ⟨hc0, hc⟩
  · have hd : decide (c < 0) = true := by simp; omega
    clear h e hw
    go_enter Try.func35, Try.ntmps35
    go_wp2_with fail
    go_quiet (fail)
    go_wp2
    go_ret
    exact ⟨rfl, by (repeat' (first | exact Below.refl _ _ | assumption | apply bel_drewN | apply bel_drew | apply bel_alloc | (refine bel_trans ?_ (by assumption))))⟩
  · have hd : decide ((g.w : Int) * g.h ≤ c) = true := by simp; omega
    have hd0 : decide (c < 0) = false := by simp; omega
    clear h e
    go_enter Try.func35, Try.ntmps35
    go_wp2_with fail
    go_quiet (fail)
    go_wp2
    go_ret
    exact ⟨rfl, by (repeat' (first | exact Below.refl _ _ | assumption | apply bel_drewN | apply bel_drew | apply bel_alloc | (refine bel_trans ?_ (by assumption))))⟩
theorem rOpen (w : World) (p : Nat) (g : G) (v x y : Int) (h : RGridAt w p g v) :
    Calls Try.prog 104 #[.pointer (some ⟨p, 0, none⟩), .int .i64 x, .int .i64 y] w fun e w' => e = .returned (.bool (g.op x y)) ∧ Below w.heap.size w w' := by
  obtain ⟨k1, k2⟩ := h.size
  obtain ⟨o1, o2, o3, o4⟩ := h.1
  by_cases ho : 0 ≤ x ∧ x < g.w ∧ 0 ≤ y ∧ y < g.h
  · obtain ⟨a1, a2, a3, a4⟩ := ho
    obtain ⟨i, rfl⟩ := Int.eq_ofNat_of_zero_le a1
    obtain ⟨j, rfl⟩ := Int.eq_ofNat_of_zero_le a3
    have e2 : g.op i j = !g.b (j * g.w + i) := by unfold G.op; simp; omega
    have hb : j * g.w + i < 256 := by
      have : j * g.w ≤ 15 * 16 := Nat.mul_le_mul (by omega) o2
      omega
    have hm : j * g.w ≤ 240 := Nat.mul_le_mul (show j ≤ 15 by omega) o2
    have em : ((j : Int) * g.w) = ((j * g.w : Nat) : Int) := by simp
    have ht : ((j : Int) * g.w + i).toNat = j * g.w + i := by omega
    have hw1 : IntKind.i64.wrap ((j : Int) * g.w) = (j : Int) * g.w := IntWalk.i64_in _ (by omega)
    have hw2 : IntKind.i64.wrap ((j : Int) * g.w + i) = (j : Int) * g.w + i := IntWalk.i64_in _ (by omega)
    have q1 : 0 ≤ (j : Int) * g.w + i := by omega
    have q2 : (j : Int) * g.w + i < 256 := by omega
    have kb := h.bit (j * g.w + i) hb
    have d1 : decide ((0 : Int) ≤ (i : Int)) = true := by simp
    have d2 : decide ((0 : Int) ≤ (j : Int)) = true := by simp
    have d3 : decide ((i : Int) < g.w) = true := by simp; omega
    have d4 : decide ((j : Int) < g.h) = true := by simp; omega
    rw [e2]
    clear h e2 hb hm em
    go_enter Try.func104, Try.ntmps104
    go_wp2_with fail
    go_quiet (fail)
    go_wp2
    go_ret
    exact ⟨rfl, by (repeat' (first | exact Below.refl _ _ | assumption | apply bel_drewN | apply bel_drew | apply bel_alloc | (refine bel_trans ?_ (by assumption))))⟩
  · have e2 : g.op x y = false := by unfold G.op; simp; omega
    rw [e2]
    clear h e2
    rcases (show x < 0 ∨ (0 ≤ x ∧ g.w ≤ x) ∨ (0 ≤ x ∧ x < g.w ∧ y < 0) ∨ (0 ≤ x ∧ x < g.w ∧ 0 ≤ y ∧ g.h ≤ y) by omega) with c1 | ⟨c1, c2⟩ | ⟨c1, c2, c3⟩ | ⟨c1, c2, c3, c4⟩
    · have d1 : decide ((0 : Int) ≤ x) = false := by simp; omega
      go_enter Try.func104, Try.ntmps104
      go_wp2_with fail
      go_quiet (fail)
      go_wp2
      go_ret
      exact ⟨rfl, by (repeat' (first | exact Below.refl _ _ | assumption | apply bel_drewN | apply bel_drew | apply bel_alloc | (refine bel_trans ?_ (by assumption))))⟩
    · have d1 : decide ((0 : Int) ≤ x) = true := by simp; omega
      have d2 : decide (x < (g.w : Int)) = false := by simp; omega
      go_enter Try.func104, Try.ntmps104
      go_wp2_with fail
      go_quiet (fail)
      go_wp2
      go_ret
      exact ⟨rfl, by (repeat' (first | exact Below.refl _ _ | assumption | apply bel_drewN | apply bel_drew | apply bel_alloc | (refine bel_trans ?_ (by assumption))))⟩
    · have d1 : decide ((0 : Int) ≤ x) = true := by simp; omega
      have d2 : decide (x < (g.w : Int)) = true := by simp; omega
      have d3 : decide ((0 : Int) ≤ y) = false := by simp; omega
      go_enter Try.func104, Try.ntmps104
      go_wp2_with fail
      go_quiet (fail)
      go_wp2
      go_ret
      exact ⟨rfl, by (repeat' (first | exact Below.refl _ _ | assumption | apply bel_drewN | apply bel_drew | apply bel_alloc | (refine bel_trans ?_ (by assumption))))⟩
    · have d1 : decide ((0 : Int) ≤ x) = true := by simp; omega
      have d2 : decide (x < (g.w : Int)) = true := by simp; omega
      have d3 : decide ((0 : Int) ≤ y) = true := by simp; omega
      have d4 : decide (y < (g.h : Int)) = false := by simp; omega
      go_enter Try.func104, Try.ntmps104
      go_wp2_with fail
      go_quiet (fail)
      go_wp2
      go_ret
      exact ⟨rfl, by (repeat' (first | exact Below.refl _ _ | assumption | apply bel_drewN | apply bel_drew | apply bel_alloc | (refine bel_trans ?_ (by assumption))))⟩
end Go.Proofs.Ytkiogciokngjfaa
