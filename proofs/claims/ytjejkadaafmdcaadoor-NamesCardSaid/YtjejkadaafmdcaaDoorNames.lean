/- Lemmas of this claim: Names. -/
import Derived.Test.YtjejkadaafmdcaaDoorKNames3
import Derived.Test.YtjejkadaafmdcaaDoorShStr
import Derived.Test.YtjejkadaafmdcaaDoorLibV
set_option linter.unusedVariables false
set_option linter.unusedSimpArgs false
/- The law Names: it returns true. -/
namespace Go.Proofs.YtjejkadaafmdcaaDoor
open Go.RowKit Go.Sort
set_option maxRecDepth 100000 in
theorem err8 (w : World) : Calls Tryd.prog 8 #[.int .i64 8] w fun e w' => e = .returned (.string ⟨#[102, 101, 108, 108, 114, 117, 110, 110, 101, 114, 58, 32, 101, 114, 114, 111, 114, 32, 56]⟩) ∧ w' = w := by
  go_enter Tryd.func8, Tryd.ntmps8
  go_wp2_with fail
  refine (Tryd.strconv_Itoa_small 8 (by decide) _).mono ?_
  rw [show Lib.decDigits 8 = [56] from by rw [Lib.decDigits_one (by decide)]; rfl]
  rintro e w' ⟨rfl, rfl⟩
  go_wp2_with fail
  go_ret
  exact ⟨rfl, rfl⟩
theorem sz_alloc (w : World) (o : Obj) : (w.alloc o).heap.size = w.heap.size + 1 := by simp
def numsL : List Int := [16, 256, 1000, 6, 40, 60, 80, 1100, 1048576, 8]
theorem lit10 (w : World) : Ints (w.alloc (.cells #[.int .i64 16, .int .i64 256, .int .i64 1000, .int .i64 6, .int .i64 40, .int .i64 60, .int .i64 80, .int .i64 1100, .int .i64 1048576, .int .i64 8] 3)) (some ⟨w.heap.size, 0, none⟩) 10 (fun k => numsL.getD k 0) := by
  intro _
  refine ⟨_, rfl, by simp, fun k hk => ?_⟩
  rcases (show k = 0 ∨ k = 1 ∨ k = 2 ∨ k = 3 ∨ k = 4 ∨ k = 5 ∨ k = 6 ∨ k = 7 ∨ k = 8 ∨ k = 9 by omega) with rfl | rfl | rfl | rfl | rfl | rfl | rfl | rfl | rfl | rfl <;> go_simp <;> rfl
theorem errs8 (w : World) : ∀ k, k < 8 → (w.alloc (.cells #[.iface 23 (.int .i64 1), .iface 23 (.int .i64 2), .iface 23 (.int .i64 3), .iface 23 (.int .i64 4), .iface 23 (.int .i64 5), .iface 23 (.int .i64 6), .iface 23 (.int .i64 7), .iface 23 (.int .i64 8)] 27)).cell? ⟨w.heap.size, k, none⟩ = some (.iface 23 (.int .i64 ((k : Nat) + 1))) := by
  intro k hk
  rcases (show k = 0 ∨ k = 1 ∨ k = 2 ∨ k = 3 ∨ k = 4 ∨ k = 5 ∨ k = 6 ∨ k = 7 by omega) with rfl | rfl | rfl | rfl | rfl | rfl | rfl | rfl <;> go_simp
set_option maxRecDepth 100000 in
theorem names_true (w : World) (_hV : LibT w) : Calls Tryd.prog 3 #[] w fun e w' => e = .returned (.bool true) ∧ Below w.heap.size w w' := by
  go_enter Tryd.func3, Tryd.ntmps3
  go_wp2_with fail
  refine wp_name ?_
  intro W hW
  have HW : Below w.heap.size w W := by rw [hW]; (repeat' (first | exact Below.refl _ _ | assumption | apply bel_drewN | apply bel_drew | apply bel_alloc | (refine bel_trans ?_ (by assumption))))
  have hI1 : Ints W (some ⟨w.heap.size, 0, none⟩) 10 (fun k => numsL.getD k 0) := by
    rw [hW]
    exact (lit10 w).below (bel_alloc (bel_alloc (Below.refl _ _)))
  have hI2 : Ints W (some ⟨w.heap.size + 1, 0, none⟩) 10 (fun k => numsL.getD k 0) := by
    rw [hW]
    have := lit10 (w.alloc (.cells #[.int .i64 16, .int .i64 256, .int .i64 1000, .int .i64 6, .int .i64 40, .int .i64 60, .int .i64 80, .int .i64 1100, .int .i64 1048576, .int .i64 8] 3))
    rw [sz_alloc] at this
    exact this.below (bel_alloc (Below.refl _ _))
  have hE : ∀ k, k < 8 → W.cell? ⟨w.heap.size + 1 + 1, k, none⟩ = some (.iface 23 (.int .i64 ((k : Nat) + 1))) := by
    rw [hW]
    intro k hk
    have := errs8 ((w.alloc (.cells #[.int .i64 16, .int .i64 256, .int .i64 1000, .int .i64 6, .int .i64 40, .int .i64 60, .int .i64 80, .int .i64 1100, .int .i64 1048576, .int .i64 8] 3)).alloc (.cells #[.int .i64 16, .int .i64 256, .int .i64 1000, .int .i64 6, .int .i64 40, .int .i64 60, .int .i64 80, .int .i64 1100, .int .i64 1048576, .int .i64 8] 3)) k hk
    simpa using this
  clear hW
  go_loopw [4] (fun i wr => ∃ k : Nat, k ≤ 8 ∧ i = .int .i64 (k : Nat) ∧ wr = W) (fun i _ => 8 - (intOf i).toNat)
  case atStart => exact ⟨0, by omega, rfl, rfl⟩
  case round =>
    obtain ⟨k, hk, rfl, rfl⟩ := hrel
    by_cases hlt : k < 8
    · have hc := hE k hlt
      have q : (k : Int) < 8 := by omega
      go_wp2_with fail
      refine (same_bad _ _ (by omega)).mono ?_
      rintro e w1 ⟨rfl, rfl⟩
      go_wp2_with fail
      go_roundw
      case rel => exact ⟨k + 1, by omega, by go_num, trivial⟩
      case measure => simp [intOf]; omega
    · obtain rfl : k = 8 := by omega
      go_wp2_with fail
      refine (sameNumbers _ _ _ 10 10 10 _ hI1 hI2 (by decide)).mono ?_
      rintro e w5 ⟨rfl, hb5⟩
      go_wp2_with fail
      refine (err8 _).mono ?_
      rintro e w6 ⟨rfl, rfl⟩
      go_wp2_with fail
      go_ret
      exact ⟨rfl, bel_trans HW hb5⟩
end Go.Proofs.YtjejkadaafmdcaaDoor
