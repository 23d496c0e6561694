/- What the functions of package grid hand back: steps, moves. -/
import Derived.Test.YtkiogciokngjfaaGrid
set_option linter.unusedVariables false
set_option linter.unusedSimpArgs false
namespace Go.Proofs.Ytkiogciokngjfaa
open Go.RowKit Go.Sort FR
theorem dN_abs (d : Nat) : -1 ≤ dxN d ∧ dxN d ≤ 1 ∧ -1 ≤ dyN d ∧ dyN d ≤ 1 := by
  rcases Nat.lt_or_ge d 8 with h | h
  · rcases (show d = 0 ∨ d = 1 ∨ d = 2 ∨ d = 3 ∨ d = 4 ∨ d = 5 ∨ d = 6 ∨ d = 7 by omega) with rfl | rfl | rfl | rfl | rfl | rfl | rfl | rfl <;> decide
  · obtain ⟨k, rfl⟩ := Nat.exists_eq_add_of_le h
    have e : dxN (8 + k) = -1 ∧ dyN (8 + k) = -1 := by
      unfold dxN dyN
      constructor
      · split <;> first | omega | rfl
      · split <;> first | omega | rfl
    rw [e.1, e.2]; decide
set_option maxHeartbeats 4000000 in
theorem step_one (d : Nat) (h : d < 8) (w : World) :
    Calls Try.prog 41 #[.int .i64 (d : Nat)] w fun e w' => e = .returned (.tuple #[.int .i64 (dxN d), .int .i64 (dyN d)]) ∧ Below w.heap.size w w' := by
  rcases (show d = 0 ∨ d = 1 ∨ d = 2 ∨ d = 3 ∨ d = 4 ∨ d = 5 ∨ d = 6 ∨ d = 7 by omega) with rfl | rfl | rfl | rfl | rfl | rfl | rfl | rfl
  all_goals
    have b0 : bits BinOp.and IntKind.i64 0 7 = 0 := by decide
    have b1 : bits BinOp.and IntKind.i64 1 7 = 1 := by decide
    have b2 : bits BinOp.and IntKind.i64 2 7 = 2 := by decide
    have b3 : bits BinOp.and IntKind.i64 3 7 = 3 := by decide
    have b4 : bits BinOp.and IntKind.i64 4 7 = 4 := by decide
    have b5 : bits BinOp.and IntKind.i64 5 7 = 5 := by decide
    have b6 : bits BinOp.and IntKind.i64 6 7 = 6 := by decide
    have b7 : bits BinOp.and IntKind.i64 7 7 = 7 := by decide
    go_enter Try.func41, Try.ntmps41
    go_wp2_with fail
    go_quiet (fail)
    go_wp2
    go_ret2
    exact ⟨rfl, by (repeat' (first | exact Below.refl _ _ | assumption | apply bel_drewN | apply bel_drew | apply bel_alloc | (refine bel_trans ?_ (by assumption))))⟩
set_option maxHeartbeats 4000000 in
theorem rstep_one (d : Nat) (h : d < 8) (w : World) :
    Calls Try.prog 42 #[.int .i64 (d : Nat)] w fun e w' => e = .returned (.tuple #[.int .i64 (dxN d), .int .i64 (dyN d)]) ∧ Below w.heap.size w w' := by
  rcases (show d = 0 ∨ d = 1 ∨ d = 2 ∨ d = 3 ∨ d = 4 ∨ d = 5 ∨ d = 6 ∨ d = 7 by omega) with rfl | rfl | rfl | rfl | rfl | rfl | rfl | rfl
  all_goals
    go_enter Try.func42, Try.ntmps42
    go_wp2
    go_ret2
    exact ⟨rfl, by (repeat' (first | exact Below.refl _ _ | assumption | apply bel_drewN | apply bel_drew | apply bel_alloc | (refine bel_trans ?_ (by assumption))))⟩
end Go.Proofs.Ytkiogciokngjfaa
