/- Lemmas of this claim: Open, CostSays, CornerSays. -/
import Derived.Test.YtjejkadaafmdcaaDoorKNames2
import Derived.Deep.Grids
import Derived.ProofKit
import Derived.OpenShut
import Derived.Lib.SmallJoins
import Derived.Test.YtjejkadaafmdcaaDoorRows
import Derived.Deep.Cut
set_option linter.unusedVariables false
set_option linter.unusedSimpArgs false
/- How arguments of the laws read: plots, slices of numbers and of bools. -/
namespace Go.Proofs.YtjejkadaafmdcaaDoor
open Go.RowKit Go.Sort FR
open Go.ChangeShapes Go.WideShapes Go.ChangeAt Go.Joins
structure SlI (W : World) (A : Option Addr) (n : Nat) (f : Nat → Int) : Prop where
  ints : Ints W A n f
  len : n ≤ 9223372036854775807
  wf : ∀ k, -9223372036854775808 ≤ f k ∧ f k ≤ 9223372036854775807
/-- a slice of n bools, f k at place k -/
def Bools (w : World) (a : Option Addr) (n : Nat) (f : Nat → Bool) : Prop := 0 < n → ∃ ad, a = some ad ∧ ad.block < w.heap.size ∧ ∀ k, k < n → w.cell? (ad.add k) = some (.bool (f k))
structure SlB (W : World) (A : Option Addr) (n : Nat) (f : Nat → Bool) : Prop where
  bools : Bools W A n f
  len : n ≤ 9223372036854775807
section
variable {H : Type} {enc : TypeId × Value → H} {w : World} {base : Nat} {held : Bool}
variable {r : Reach} {b0 : Nat} {v : Value} {d : DataW H} {p : List MemPlace}
end
end Go.Proofs.YtjejkadaafmdcaaDoor
/- The law CostSays: for any two costs and any two places it returns true. -/
namespace Go.Proofs.YtjejkadaafmdcaaDoor
open Go.RowKit Go.Sort FR
theorem same_bad (k : Int) (w : World) (h : 0 < k) : Calls Tryd.prog 6 #[.iface 23 (.int .i64 k), .int .i64 k] w fun e w' => e = .returned (.bool true) ∧ w = w' := by
  have := same_err k k w h; simpa using this
end Go.Proofs.YtjejkadaafmdcaaDoor
/- The law CornerSays: for any plot and any cell it returns true. -/
namespace Go.Proofs.YtjejkadaafmdcaaDoor
open Go.RowKit Go.Sort FR
theorem sameNumbers (w : World) (A A' : Option Addr) (n m m' : Nat) (f : Nat → Int) (h : Ints w A n f) (h' : Ints w A' n f) (hn : n < 1099511627776) :
    Calls Tryd.prog 7 #[.slice A n m, .slice A' n m'] w fun e w' => e = .returned (.bool true) ∧ Below w.heap.size w w' := by
  rcases Nat.eq_zero_or_pos n with hn0 | hnp
  · subst hn0
    go_enter Tryd.func7, Tryd.ntmps7
    go_wp2_with fail
    go_loopw [5] (fun i wr => i = .int .i64 0 ∧ Below w.heap.size w wr) (fun i _ => 0 - (intOf i).toNat)
    case atStart => exact ⟨rfl, by (repeat' (first | exact Below.refl _ _ | assumption | apply bel_drewN | apply bel_drew | apply bel_alloc | (refine bel_trans ?_ (by assumption))))⟩
    case round =>
      obtain ⟨rfl, HB⟩ := hrel
      go_wp2
      go_ret
      exact ⟨rfl, HB⟩
  · obtain ⟨ad, rfl, a1, a2⟩ := h hnp
    obtain ⟨ad', rfl, b1, b2⟩ := h' hnp
    have a2 := Lib.hid a2
    have b2 := Lib.hid b2
    clear h h'
    go_enter Tryd.func7, Tryd.ntmps7
    go_wp2_with fail
    go_loopw [5] (fun i wr => ∃ k : Nat, k ≤ n ∧ i = .int .i64 k ∧ Below w.heap.size w wr) (fun i _ => n - (intOf i).toNat)
    case atStart => exact ⟨0, by omega, rfl, by (repeat' (first | exact Below.refl _ _ | assumption | apply bel_drewN | apply bel_drew | apply bel_alloc | (refine bel_trans ?_ (by assumption))))⟩
    case round =>
      obtain ⟨k, hk, rfl, HB⟩ := hrel
      by_cases hlt : k < n
      · have e1 := (HB.cell (p := ad.add k) (by rw [add_block]; exact a1)).trans (a2.out k hlt)
        have e2 := (HB.cell (p := ad'.add k) (by rw [add_block]; exact b1)).trans (b2.out k hlt)
        have q1 : (k : Int) < (n : Int) := by omega
        go_wp2_with fail
        go_quiet (fail)
        go_wp2
        go_roundw
        case rel => exact ⟨k + 1, by omega, by go_num, bel_drewN HB⟩
        case measure => simp [intOf]; omega
      · obtain rfl : k = n := by omega
        go_wp2
        go_ret
        exact ⟨rfl, HB⟩
end Go.Proofs.YtjejkadaafmdcaaDoor
