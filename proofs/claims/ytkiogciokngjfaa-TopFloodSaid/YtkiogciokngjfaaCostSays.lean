/- The law CostSays: for any two costs and any two places it returns true. -/
import Derived.Test.YtkiogciokngjfaaCost2
import Derived.Test.YtkiogciokngjfaaRows
set_option linter.unusedVariables false
set_option linter.unusedSimpArgs false
namespace Go.Proofs.Ytkiogciokngjfaa
open Go.RowKit Go.Sort FR
theorem same_ok (w : World) : Calls Try.prog 22 #[.nilIface, .int .i64 0] w fun e w' => e = .returned (.bool true) ∧ w = w' := same_nil 0 w
theorem same_bad (k : Int) (w : World) (h : 0 < k) : Calls Try.prog 22 #[.iface 137 (.int .i64 k), .int .i64 k] w fun e w' => e = .returned (.bool true) ∧ w = w' := by
  have := same_err k k w h; simpa using this
theorem costLess_yes (a b c d : Int) (w : World) (h1 : inC a) (h2 : inC b) (h3 : inC c) (h4 : inC d) (h : C.lt ⟨a, b⟩ ⟨c, d⟩) :
    Calls Try.prog 27 #[.agg #[.int .i64 a, .int .i64 b], .agg #[.int .i64 c, .int .i64 d]] w fun e w' => e = .returned (.bool true) ∧ Below w.heap.size w w' := by
  have := costLess a b c d w h1 h2 h3 h4
  rwa [decide_eq_true (C.cmp_neg.2 h)] at this
theorem costs_true (w : World) : Calls Try.prog 21 #[] w fun e w' => e = .returned (.bool true) ∧ Below w.heap.size w w' := by
  go_enter Try.func21, Try.ntmps21
  go_wp2_with fail
  refine (costLess_yes _ _ _ _ _ (by decide) (by decide) (by decide) (by decide) (by decide)).mono ?_
  rintro e w1 ⟨rfl, hb1⟩
  go_wp2_with fail
  refine (costLess_yes _ _ _ _ _ (by decide) (by decide) (by decide) (by decide) (by decide)).mono ?_
  rintro e w2 ⟨rfl, hb2⟩
  go_wp2_with fail
  refine (costOctile _ _ _ _ _ (by decide) (by decide) (by decide) (by decide)).mono ?_
  rintro e w3 ⟨rfl, hb3⟩
  have e1 : octI ((0 : Int) - 3) (0 - -5) = ⟨2, 3⟩ := by decide
  rw [e1]
  go_wp2
  go_ret
  exact ⟨rfl, by (repeat' (first | exact Below.refl _ _ | assumption | apply bel_drewN | apply bel_drew | apply bel_alloc | (refine bel_trans ?_ (by assumption))))⟩
/-- which of four numbers is the k-th -/
def nth4 (x y u v : Int) (k : Nat) : Int := if k = 0 then x else if k = 1 then y else if k = 2 then u else v
theorem cell4 (w : World) (T : TypeId) (x y u v : Int) (k : Nat) (h : k < 4) : (w.alloc (.cells #[.int .i64 x, .int .i64 y, .int .i64 u, .int .i64 v] T)).cell? ⟨w.heap.size, k, none⟩ = some (.int .i64 (nth4 x y u v k)) := by
  rcases (show k = 0 ∨ k = 1 ∨ k = 2 ∨ k = 3 from by omega) with rfl | rfl | rfl | rfl <;> go_simp <;> rfl
def inR (n : Int) : Prop := -1048576 ≤ n ∧ n ≤ 1048576
/-- the first k of four are within the reach -/
def fst4 (x y u v : Int) (k : Nat) : Prop := ∀ j, j < k → inR (nth4 x y u v j)
theorem fst4_succ {x y u v : Int} {k : Nat} (h : fst4 x y u v k) (h1 : -1048576 ≤ nth4 x y u v k) (h2 : nth4 x y u v k ≤ 1048576) : fst4 x y u v (k+1) := by
  intro j hj
  by_cases e : j = k
  · subst e; exact ⟨h1, h2⟩
  · exact h j (by omega)
/-- the check of a cost, by both, with the same answer -/
theorem fault_cases (a b : Int) : ∃ (ea : Value) (na : Int), (∀ w, Calls Try.prog 23 #[.agg #[.int .i64 a, .int .i64 b]] w fun e w' => e = .returned ea ∧ Below w.heap.size w w') ∧
    (∀ w, Calls Try.prog 24 #[.agg #[.int .i64 a, .int .i64 b]] w fun e w' => e = .returned (.int .i64 na) ∧ Below w.heap.size w w') ∧
    (∀ w, Calls Try.prog 22 #[ea, .int .i64 na] w fun e w' => e = .returned (.bool true) ∧ Below w.heap.size w w') ∧ 0 ≤ na ∧ na ≤ 1 ∧ (na = 0 → costOk a b) := by
  by_cases h : costOk a b
  · exact ⟨_, 0, fun w => costCheck_ok a b w h, fun w => refCostFault_ok a b w h, fun w => (same_ok w).mono (fun _ _ h => ⟨h.1, h.2 ▸ Below.refl _ _⟩), by decide, by decide, fun _ => h⟩
  · exact ⟨_, 1, fun w => costCheck_bad a b w h, fun w => refCostFault_bad a b w h, fun w => (same_bad 1 w (by decide)).mono (fun _ _ h => ⟨h.1, h.2 ▸ Below.refl _ _⟩), by decide, by decide, fun e => by cases e⟩
set_option maxRecDepth 100000 in
set_option maxHeartbeats 1600000 in
theorem costSays (a1 a2 b1 b2 x y u v : Int) (w : World) :
    Calls Try.prog 3 #[.agg #[.int .i64 a1, .int .i64 a2], .agg #[.int .i64 b1, .int .i64 b2], .int .i64 x, .int .i64 y, .int .i64 u, .int .i64 v] w
      fun e w' => e = .returned (.bool true) ∧ Below w.heap.size w w' := by
  obtain ⟨ea, na, cA, fA, sA, ha0, ha1, hA⟩ := fault_cases a1 a2
  obtain ⟨eb, nb, cB, fB, sB, hb0, hb1', hB⟩ := fault_cases b1 b2
  have hA := Lib.hid hA; have hB := Lib.hid hB
  go_enter Try.func3, Try.ntmps3
  go_wp2_with (go_at_call 21; refine (costs_true _).mono ?_; rintro e w1 ⟨rfl, hb1⟩)
  have k1 := ((hb1).cell (p := ⟨w.heap.size, 0, none⟩) (by simp <;> omega)).trans (show _ = some (.int .i64 a1) by go_simp)
  have k1q := cell_regrown k1
  have k2 := ((hb1).cell (p := ⟨w.heap.size, 1, none⟩) (by simp <;> omega)).trans (show _ = some (.int .i64 a2) by go_simp)
  have k2q := cell_regrown k2
  have k3 := ((hb1).cell (p := ⟨w.heap.size + 1, 0, none⟩) (by simp <;> omega)).trans (show _ = some (.int .i64 b1) by go_simp)
  have k3q := cell_regrown k3
  have k4 := ((hb1).cell (p := ⟨w.heap.size + 1, 1, none⟩) (by simp <;> omega)).trans (show _ = some (.int .i64 b2) by go_simp)
  have k4q := cell_regrown k4
  refine wp_region_quiet_below (by kernel_rfl) (by kernel_rfl) ?_
  repeat (quiet_step (first | with_reducible exact Calls.regrown_of (cA _) | with_reducible exact Calls.regrown_of (cB _) | with_reducible exact Calls.regrown_of (fA _) | with_reducible exact Calls.regrown_of (fB _) | with_reducible exact Calls.regrown_of (sA _) | with_reducible exact Calls.regrown_of (sB _)))
  refine wpQuiet_nil ?_
  intro _ hw'
  obtain ⟨⟨dq, osq⟩, hw''⟩ := hw'
  have hb2 := bel_trans hb1 (below_regrown w1 dq osq)
  subst hw''
  generalize grow (redrawn w1 dq) osq = w2 at hb2 ⊢
  clear hb1
  clear k1 k2 k3 k4 k1q k2q k3q k4q
  have k1 := ((hb2).cell (p := ⟨w.heap.size, 0, none⟩) (by simp <;> omega)).trans (show _ = some (.int .i64 a1) by go_simp)
  have k1q := cell_regrown k1
  have k2 := ((hb2).cell (p := ⟨w.heap.size, 1, none⟩) (by simp <;> omega)).trans (show _ = some (.int .i64 a2) by go_simp)
  have k2q := cell_regrown k2
  have k3 := ((hb2).cell (p := ⟨w.heap.size + 1, 0, none⟩) (by simp <;> omega)).trans (show _ = some (.int .i64 b1) by go_simp)
  have k3q := cell_regrown k3
  have k4 := ((hb2).cell (p := ⟨w.heap.size + 1, 1, none⟩) (by simp <;> omega)).trans (show _ = some (.int .i64 b2) by go_simp)
  have k4q := cell_regrown k4
  go_wp2_with fail
  have hwr : IntKind.i64.wrap (na + nb) = na + nb := IntWalk.i64_in _ (by omega)
  refine wp_region_quiet_below (by kernel_rfl) (by kernel_rfl) ?_
  repeat (quiet_step (first | with_reducible exact Calls.regrown_of (fA _) | with_reducible exact Calls.regrown_of (fB _)))
  refine wpQuiet_nil ?_
  intro _ hw'
  obtain ⟨⟨dq, osq⟩, hw''⟩ := hw'
  have hb3 := bel_trans hb2 (below_regrown w2 dq osq)
  subst hw''
  generalize grow (redrawn w2 dq) osq = w3 at hb3 ⊢
  clear hb2
  clear hwr k1 k2 k3 k4 k1q k2q k3q k4q cA cB sA sB fA fB
  have k1 := ((hb3).cell (p := ⟨w.heap.size, 0, none⟩) (by simp <;> omega)).trans (show _ = some (.int .i64 a1) by go_simp)
  have k1q := cell_regrown k1
  have k2 := ((hb3).cell (p := ⟨w.heap.size, 1, none⟩) (by simp <;> omega)).trans (show _ = some (.int .i64 a2) by go_simp)
  have k2q := cell_regrown k2
  have k3 := ((hb3).cell (p := ⟨w.heap.size + 1, 0, none⟩) (by simp <;> omega)).trans (show _ = some (.int .i64 b1) by go_simp)
  have k3q := cell_regrown k3
  have k4 := ((hb3).cell (p := ⟨w.heap.size + 1, 1, none⟩) (by simp <;> omega)).trans (show _ = some (.int .i64 b2) by go_simp)
  have k4q := cell_regrown k4
  go_wp2_with fail
  · have hs : (na + nb == 0) = true := by assumption
    simp at hs
    have oa := hA.out (by omega)
    have ob := hB.out (by omega)
    obtain ⟨i1, i2⟩ := oa.inC
    obtain ⟨i3, i4⟩ := ob.inC
    clear hs hA hB
    refine (refCompare _ _ _ _ _ i1 i2 i3 i4).mono ?_
    rintro e w4 ⟨rfl, hb4'⟩
    have hb4 := bel_trans hb3 hb4'
    clear hb3 hb4' k1 k2 k3 k4 k1q k2q k3q k4q
    have k1 := ((hb4).cell (p := ⟨w.heap.size, 0, none⟩) (by simp <;> omega)).trans (show _ = some (.int .i64 a1) by go_simp)
    have k1q := cell_regrown k1
    have k2 := ((hb4).cell (p := ⟨w.heap.size, 1, none⟩) (by simp <;> omega)).trans (show _ = some (.int .i64 a2) by go_simp)
    have k2q := cell_regrown k2
    have k3 := ((hb4).cell (p := ⟨w.heap.size + 1, 0, none⟩) (by simp <;> omega)).trans (show _ = some (.int .i64 b1) by go_simp)
    have k3q := cell_regrown k3
    have k4 := ((hb4).cell (p := ⟨w.heap.size + 1, 1, none⟩) (by simp <;> omega)).trans (show _ = some (.int .i64 b2) by go_simp)
    have k4q := cell_regrown k4
    go_wp2_with fail
    refine wp_region_quiet_below (by kernel_rfl) (by kernel_rfl) ?_
    repeat (quiet_step (first | with_reducible exact Calls.regrown_of (costCompare _ _ _ _ _ i1 i2 i3 i4) | with_reducible exact Calls.regrown_of (costLess _ _ _ _ _ i1 i2 i3 i4) | with_reducible exact Calls.regrown_of (costAdd _ _ _ _ _ i1 i2 i3 i4) | with_reducible exact Calls.regrown_of (refPlus _ _ _ _ _ i1 i2 i3 i4)))
    refine wpQuiet_nil ?_
    intro _ hw'
    obtain ⟨⟨dq, osq⟩, hw''⟩ := hw'
    have hb5 := bel_trans hb4 (below_regrown w4 dq osq)
    subst hw''
    generalize grow (redrawn w4 dq) osq = w5 at hb5 ⊢
    clear hb4
    clear k1 k2 k3 k4 k1q k2q k3q k4q oa ob i1 i2 i3 i4
    go_wp2_with fail
    have hw4 := bel_alloc (bel_trans (bel_alloc (bel_alloc (Below.refl _ w)) (o := Obj.cells #[Value.int IntKind.i64 b1, Value.int IntKind.i64 b2] 23)) hb5) (o := .cells #[.int .i64 x, .int .i64 y, .int .i64 u, .int .i64 v] 3)
    have hc4 := cell4 w5 3 x y u v
    generalize w5.alloc (.cells #[.int .i64 x, .int .i64 y, .int .i64 u, .int .i64 v] 3) = w54 at hw4 hc4 ⊢
    go_loop [73] (fun i => ∃ k : Nat, k ≤ 4 ∧ i = .int .i64 k ∧ fst4 x y u v k) (fun i => 4 - (intOf i).toNat)
    case atStart => exact ⟨0, by omega, rfl, fun j hj => by omega⟩
    case round =>
      obtain ⟨k, hk, rfl, r1⟩ := hrel
      by_cases hlt : k < 4
      · have hc := hc4 k hlt
        clear hc4
        go_wp2
        all_goals first
          | (go_round; (case rel => exact ⟨k + 1, by omega, by go_num, fst4_succ r1 (by omega) (by omega)⟩); (case measure => simp [intOf]; omega))
          | (refine ⟨⟨_, _, _, ⟨k + 1, by omega, by go_num, fst4_succ r1 (by omega) (by omega)⟩, rfl, rfl, rfl⟩, ?_⟩; simp [intOf]; omega)
          | (go_ret; exact ⟨rfl, hw4⟩)
      · have q1 : inR x := r1 0 (by omega)
        have q2 : inR y := r1 1 (by omega)
        have q3 : inR u := r1 2 (by omega)
        have q4 : inR v := r1 3 (by omega)
        go_wp2_with fail
        refine (costOctile _ _ _ _ _ q1 q2 q3 q4).mono ?_
        rintro e w5 ⟨rfl, hb5⟩
        go_wp2_with fail
        refine (refOctile _ _ _ _ _ q1 q2 q3 q4).mono ?_
        rintro e w6 ⟨rfl, hb6⟩
        go_wp2
        go_ret
        exact ⟨rfl, bel_trans (bel_trans hw4 hb5) hb6⟩
  · clear k1 k2 k3 k4 k1q k2q k3q k4q
    have hw4 := bel_alloc (bel_trans (bel_alloc (bel_alloc (Below.refl _ w)) (o := Obj.cells #[Value.int IntKind.i64 b1, Value.int IntKind.i64 b2] 23)) hb3) (o := .cells #[.int .i64 x, .int .i64 y, .int .i64 u, .int .i64 v] 3)
    have hc4 := cell4 w3 3 x y u v
    generalize w3.alloc (.cells #[.int .i64 x, .int .i64 y, .int .i64 u, .int .i64 v] 3) = w34 at hw4 hc4 ⊢
    go_loop [73] (fun i => ∃ k : Nat, k ≤ 4 ∧ i = .int .i64 k ∧ fst4 x y u v k) (fun i => 4 - (intOf i).toNat)
    case atStart => exact ⟨0, by omega, rfl, fun j hj => by omega⟩
    case round =>
      obtain ⟨k, hk, rfl, r1⟩ := hrel
      by_cases hlt : k < 4
      · have hc := hc4 k hlt
        clear hc4
        go_wp2
        all_goals first
          | (go_round; (case rel => exact ⟨k + 1, by omega, by go_num, fst4_succ r1 (by omega) (by omega)⟩); (case measure => simp [intOf]; omega))
          | (refine ⟨⟨_, _, _, ⟨k + 1, by omega, by go_num, fst4_succ r1 (by omega) (by omega)⟩, rfl, rfl, rfl⟩, ?_⟩; simp [intOf]; omega)
          | (go_ret; exact ⟨rfl, hw4⟩)
      · have q1 : inR x := r1 0 (by omega)
        have q2 : inR y := r1 1 (by omega)
        have q3 : inR u := r1 2 (by omega)
        have q4 : inR v := r1 3 (by omega)
        go_wp2_with fail
        refine (costOctile _ _ _ _ _ q1 q2 q3 q4).mono ?_
        rintro e w5 ⟨rfl, hb5⟩
        go_wp2_with fail
        refine (refOctile _ _ _ _ _ q1 q2 q3 q4).mono ?_
        rintro e w6 ⟨rfl, hb6⟩
        go_wp2
        go_ret
        exact ⟨rfl, bel_trans (bel_trans hw4 hb5) hb6⟩
end Go.Proofs.Ytkiogciokngjfaa
