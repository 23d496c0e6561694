/- Plain mathematics: how far one may go straight on. -/
import Derived.Test.YtkiogciokngjfaaMath1
set_option linter.unusedVariables false
set_option linter.unusedSimpArgs false
namespace FR
namespace G
/-- steps that may be gone, at most so many -/
def clrN (g : G) (d : Nat) : Nat → Int → Int → Nat
  | 0, _, _ => 0
  | f+1, x, y => if g.may x y d then clrN g d f (x + dxN d) (y + dyN d) + 1 else 0
def clr (g : G) (d : Nat) (x y : Int) : Nat := clrN g d 17 x y
/-- the first k steps may be gone -/
def run (g : G) (d : Nat) (x y : Int) (k : Nat) : Prop := ∀ j : Nat, j < k → g.may (x + j * dxN d) (y + j * dyN d) d = true
theorem run_zero (g : G) (d : Nat) (x y : Int) : run g d x y 0 := fun j hj => by omega
theorem run_succ {g : G} {d : Nat} {x y : Int} {k : Nat} (h : run g d x y k) (h' : g.may (x + k * dxN d) (y + k * dyN d) d = true) : run g d x y (k+1) := by
  intro j hj
  by_cases e : j = k
  · subst e; exact h'
  · exact h j (by omega)
theorem run_tail {g : G} {d : Nat} {x y : Int} {k : Nat} (h : run g d x y (k+1)) : run g d (x + dxN d) (y + dyN d) k := by
  intro j hj
  have := h (j+1) (by omega)
  rwa [show x + ((j+1 : Nat) : Int) * dxN d = x + dxN d + j * dxN d by rw [Int.natCast_add, Int.add_mul]; omega, show y + ((j+1 : Nat) : Int) * dyN d = y + dyN d + j * dyN d by rw [Int.natCast_add, Int.add_mul]; omega] at this
theorem clrN_run {g : G} {d : Nat} : ∀ {f : Nat} {x y : Int} {k : Nat}, k < f → run g d x y k → g.may (x + k * dxN d) (y + k * dyN d) d = false → clrN g d f x y = k
  | 0, _, _, _, h, _, _ => by omega
  | f+1, x, y, 0, _, _, h => by unfold clrN; rw [if_neg]; simpa using h
  | f+1, x, y, k+1, hk, hr, h => by
    unfold clrN
    have h0 := hr 0 (by omega)
    rw [if_pos (by simpa using h0), clrN_run (k := k) (by omega) (run_tail hr)]
    rwa [show x + ((k+1 : Nat) : Int) * dxN d = x + dxN d + k * dxN d by rw [Int.natCast_add, Int.add_mul]; omega, show y + ((k+1 : Nat) : Int) * dyN d = y + dyN d + k * dyN d by rw [Int.natCast_add, Int.add_mul]; omega] at h
theorem dN_ne (d : Nat) : dxN d = 1 ∨ dxN d = -1 ∨ (dxN d = 0 ∧ (dyN d = 1 ∨ dyN d = -1)) := by
  rcases Nat.lt_or_ge d 8 with h | h
  · rcases (show d = 0 ∨ d = 1 ∨ d = 2 ∨ d = 3 ∨ d = 4 ∨ d = 5 ∨ d = 6 ∨ d = 7 by omega) with rfl | rfl | rfl | rfl | rfl | rfl | rfl | rfl <;> decide
  · obtain ⟨k, rfl⟩ := Nat.exists_eq_add_of_le h
    right; left
    unfold dxN; split <;> first | omega | rfl
theorem dxN_abs' (d : Nat) : -1 ≤ dxN d ∧ dxN d ≤ 1 ∧ -1 ≤ dyN d ∧ dyN d ≤ 1 := by
  refine ⟨?_, ?_, ?_, ?_⟩ <;> (first | unfold dxN | unfold dyN) <;> split <;> decide
/-- two places of the grid on one line lie at most 15 apart -/
theorem line_bd {g : G} (hg : g.ok) {d : Nat} {x y : Int} {k : Nat} (h1 : 0 ≤ x ∧ x < g.w ∧ 0 ≤ y ∧ y < g.h) (h2 : 0 ≤ x + k * dxN d ∧ x + k * dxN d < g.w ∧ 0 ≤ y + k * dyN d ∧ y + k * dyN d < g.h) : k ≤ 15 := by
  obtain ⟨_, o2, _, o4⟩ := hg
  rcases dN_ne d with e | e | ⟨e, e' | e'⟩
  · rw [e] at h2; omega
  · rw [e] at h2; omega
  · rw [e, e'] at h2; omega
  · rw [e, e'] at h2; omega
theorem may_in {g : G} {x y : Int} {d : Nat} (h : g.may x y d = true) : (0 ≤ x ∧ x < g.w ∧ 0 ≤ y ∧ y < g.h) ∧ (0 ≤ x + dxN d ∧ x + dxN d < g.w ∧ 0 ≤ y + dyN d ∧ y + dyN d < g.h) :=
  ⟨(op_iff.1 (may_iff.1 h).1).1, (op_iff.1 (may_iff.1 h).2.1).1⟩
theorem run_bd {g : G} (hg : g.ok) {d : Nat} {x y : Int} {k : Nat} (h : run g d x y k) : k ≤ 15 := by
  rcases Nat.eq_zero_or_pos k with rfl | hk
  · omega
  · obtain ⟨j, rfl⟩ : ∃ j, k = j + 1 := ⟨k - 1, by omega⟩
    have h0 := (may_in (h 0 (by omega))).1
    have hj := (may_in (h j (by omega))).2
    simp only [Int.ofNat_eq_natCast, Int.natCast_zero, Int.zero_mul, Int.add_zero] at h0
    rw [show x + (j : Int) * dxN d + dxN d = x + ((j+1 : Nat) : Int) * dxN d by rw [Int.natCast_add, Int.add_mul]; omega, show y + (j : Int) * dyN d + dyN d = y + ((j+1 : Nat) : Int) * dyN d by rw [Int.natCast_add, Int.add_mul]; omega] at hj
    exact line_bd hg h0 hj
theorem clr_eq {g : G} (hg : g.ok) {d : Nat} {x y : Int} {k : Nat} (h : run g d x y k) (h' : g.may (x + k * dxN d) (y + k * dyN d) d = false) : clr g d x y = k :=
  clrN_run (by have := run_bd hg h; omega) h h'
theorem clr_spec {g : G} (hg : g.ok) (d : Nat) (x y : Int) : run g d x y (clr g d x y) ∧ g.may (x + (clr g d x y : Nat) * dxN d) (y + (clr g d x y : Nat) * dyN d) d = false := by
  have key : ∀ f k : Nat, 16 ≤ f + k → run g d x y k → ∃ m, run g d x y m ∧ g.may (x + (m : Nat) * dxN d) (y + (m : Nat) * dyN d) d = false := by
    intro f
    induction f with
    | zero => intro k hk hr; exact absurd (run_bd hg hr) (by omega)
    | succ f ih =>
      intro k hk hr
      cases hm : g.may (x + k * dxN d) (y + k * dyN d) d with
      | false => exact ⟨k, hr, hm⟩
      | true => exact ih (k+1) (by omega) (run_succ hr hm)
  obtain ⟨m, h1, h2⟩ := key 16 0 (by omega) (run_zero _ _ _ _)
  rw [clr_eq hg h1 h2]
  exact ⟨h1, h2⟩
/-- two grids of one size that differ at one cell: how far one may go differs only on lines to places round it -/
theorem clr_differ {g g' : G} (hg : g.ok) (hw : g'.w = g.w) (hh : g'.h = g.h) {d : Nat} {x y zx zy : Int} (hz : ∀ u v : Int, ¬ (u = zx ∧ v = zy) → g'.op u v = g.op u v) (hne : clr g' d x y ≠ clr g d x y) :
    ∃ k : Nat, k ≤ 15 ∧ (0 ≤ x + k * dxN d ∧ x + k * dxN d < g.w ∧ 0 ≤ y + k * dyN d ∧ y + k * dyN d < g.h) ∧ zx - 1 ≤ x + k * dxN d ∧ x + k * dxN d ≤ zx + 1 ∧ zy - 1 ≤ y + k * dyN d ∧ y + k * dyN d ≤ zy + 1 := by
  have hg' : g'.ok := by unfold G.ok at *; rw [hw, hh]; exact hg
  -- the first place at which the two differ
  have key : ∃ k : Nat, k ≤ 15 ∧ g'.may (x + k * dxN d) (y + k * dyN d) d ≠ g.may (x + k * dxN d) (y + k * dyN d) d := by
    obtain ⟨r1, m1⟩ := clr_spec hg d x y
    obtain ⟨r2, m2⟩ := clr_spec hg' d x y
    rcases Nat.lt_or_ge (clr g' d x y) (clr g d x y) with h | h
    · exact ⟨clr g' d x y, by have := run_bd hg' r2; omega, by rw [m2, r1 _ h]; simp⟩
    · exact ⟨clr g d x y, by have := run_bd hg r1; omega, by rw [m1, r2 _ (by omega)]; simp⟩
  obtain ⟨k, hk, hm⟩ := key
  refine ⟨k, hk, ?_⟩
  generalize x + (k : Int) * dxN d = u at *
  generalize y + (k : Int) * dyN d = v at *
  have hin : 0 ≤ u ∧ u < g.w ∧ 0 ≤ v ∧ v < g.h := by
    cases h1 : g.may u v d with
    | true => exact (may_in h1).1
    | false =>
      cases h2 : g'.may u v d with
      | true => have := (may_in h2).1; rw [hw, hh] at this; exact this
      | false => rw [h1, h2] at hm; exact absurd rfl hm
  refine ⟨hin, ?_⟩
  have hx := dxN_abs' d
  by_cases c1 : u = zx ∧ v = zy
  · omega
  by_cases c2 : u + dxN d = zx ∧ v + dyN d = zy
  · omega
  by_cases c3 : u + dxN d = zx ∧ v = zy
  · omega
  by_cases c4 : u = zx ∧ v + dyN d = zy
  · omega
  exfalso; apply hm
  unfold may
  rw [hz _ _ c1, hz _ _ c2, hz _ _ c3, hz _ _ c4]
end G
end FR
