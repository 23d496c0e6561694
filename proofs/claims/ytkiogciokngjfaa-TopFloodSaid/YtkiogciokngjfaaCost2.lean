/- What the functions of package cost, and those of the reference on costs, hand back: checks, distances. -/
import Derived.Test.YtkiogciokngjfaaCost
set_option linter.unusedVariables false
set_option linter.unusedSimpArgs false
namespace Go.Proofs.Ytkiogciokngjfaa
open Go.RowKit Go.Sort FR

/-- may a cost be? (A1) -/
def costOk (a b : Int) : Prop := 0 ≤ a ∧ a ≤ 1048576 ∧ 0 ≤ b ∧ b ≤ 1048576
theorem costOk.inC {a b : Int} (h : costOk a b) : inC a ∧ inC b := by unfold costOk at h; unfold Go.Proofs.Ytkiogciokngjfaa.inC; omega
theorem costCheck_ok (a b : Int) (w : World) (h : costOk a b) :
    Calls Try.prog 23 #[.agg #[.int .i64 a, .int .i64 b]] w fun e w' => e = .returned .nilIface ∧ Below w.heap.size w w' := by
  unfold costOk at h
  obtain ⟨h1, h2, h3, h4⟩ := h
  go_enter Try.func23, Try.ntmps23
  go_wp2
  go_ret
  exact ⟨rfl, by (repeat' (first | exact Below.refl _ _ | assumption | apply bel_drewN | apply bel_drew | apply bel_alloc | (refine bel_trans ?_ (by assumption))))⟩
theorem costCheck_bad (a b : Int) (w : World) (h : ¬ costOk a b) :
    Calls Try.prog 23 #[.agg #[.int .i64 a, .int .i64 b]] w fun e w' => e = .returned (.iface 137 (.int .i64 1)) ∧ Below w.heap.size w w' := by
  unfold costOk at h
  go_enter Try.func23, Try.ntmps23
  go_wp2
  all_goals
    go_ret
    exact ⟨rfl, by (repeat' (first | exact Below.refl _ _ | assumption | apply bel_drewN | apply bel_drew | apply bel_alloc | (refine bel_trans ?_ (by assumption))))⟩
theorem abs1 (n : Int) (w : World) (h : -1099511627776 ≤ n ∧ n ≤ 1099511627776) :
    Calls Try.prog 100 #[.int .i64 n] w fun e w' => e = .returned (.int .i64 (n.natAbs : Int)) ∧ w = w' := by
  go_enter Try.func100, Try.ntmps100
  go_wp2
  all_goals
    go_ret
    exact ⟨ret_i (by omega), rfl⟩
theorem abs2 (n : Int) (w : World) (h : -1099511627776 ≤ n ∧ n ≤ 1099511627776) :
    Calls Try.prog 101 #[.int .i64 n] w fun e w' => e = .returned (.int .i64 (n.natAbs : Int)) ∧ w = w' := by
  go_enter Try.func101, Try.ntmps101
  go_wp2
  all_goals
    go_ret
    exact ⟨ret_i (by omega), rfl⟩
theorem refCostFault_ok (a b : Int) (w : World) (h : costOk a b) :
    Calls Try.prog 24 #[.agg #[.int .i64 a, .int .i64 b]] w fun e w' => e = .returned (.int .i64 0) ∧ Below w.heap.size w w' := by
  unfold costOk at h
  obtain ⟨h1, h2, h3, h4⟩ := h
  go_enter Try.func24, Try.ntmps24
  go_wp2
  go_ret
  exact ⟨rfl, by (repeat' (first | exact Below.refl _ _ | assumption | apply bel_drewN | apply bel_drew | apply bel_alloc | (refine bel_trans ?_ (by assumption))))⟩
theorem refCostFault_bad (a b : Int) (w : World) (h : ¬ costOk a b) :
    Calls Try.prog 24 #[.agg #[.int .i64 a, .int .i64 b]] w fun e w' => e = .returned (.int .i64 1) ∧ Below w.heap.size w w' := by
  unfold costOk at h
  go_enter Try.func24, Try.ntmps24
  go_wp2
  all_goals
    go_ret
    exact ⟨rfl, by (repeat' (first | exact Below.refl _ _ | assumption | apply bel_drewN | apply bel_drew | apply bel_alloc | (refine bel_trans ?_ (by assumption))))⟩
theorem same_nil (f : Int) (w : World) :
    Calls Try.prog 22 #[.nilIface, .int .i64 f] w fun e w' => e = .returned (.bool (f == 0)) ∧ w = w' := by
  go_enter Try.func22, Try.ntmps22
  go_wp2
  go_ret
  exact ⟨rfl, rfl⟩
theorem as_errno (k : Int) (w : World) : Sem.run Try.prog (Instr.typeAssert (.iface 137 (.int .i64 k)) 27 137 true) w = .ok (.tuple #[.int .i64 k, .bool true]) w := by kernel_rfl
theorem same_err (k f : Int) (w : World) (h : 0 < f) :
    Calls Try.prog 22 #[.iface 137 (.int .i64 k), .int .i64 f] w fun e w' => e = .returned (.bool (k == f)) ∧ w = w' := by
  have hta := as_errno k
  go_enter Try.func22, Try.ntmps22
  go_wp2
  go_ret
  exact ⟨rfl, rfl⟩
theorem octI_lt {x y : Int} (h : x.natAbs < y.natAbs) : octI x y = ⟨(y.natAbs : Int) - x.natAbs, x.natAbs⟩ := if_pos h
theorem octI_ge {x y : Int} (h : ¬ x.natAbs < y.natAbs) : octI x y = ⟨(x.natAbs : Int) - y.natAbs, y.natAbs⟩ := if_neg h
set_option maxHeartbeats 400000 in
theorem costOctile (x y u v : Int) (w : World) (h1 : -1048576 ≤ x ∧ x ≤ 1048576) (h2 : -1048576 ≤ y ∧ y ≤ 1048576) (h3 : -1048576 ≤ u ∧ u ≤ 1048576) (h4 : -1048576 ≤ v ∧ v ≤ 1048576) :
    Calls Try.prog 30 #[.int .i64 x, .int .i64 y, .int .i64 u, .int .i64 v] w fun e w' => e = .returned (.agg #[.int .i64 (octI (x - u) (y - v)).s, .int .i64 (octI (x - u) (y - v)).d]) ∧ Below w.heap.size w w' := by
  by_cases hc : (x - u).natAbs < (y - v).natAbs
  · rw [octI_lt hc]
    have hc' : ((x - u).natAbs : Int) < (y - v).natAbs := by omega
    go_enter Try.func30, Try.ntmps30
    go_wp2_with (go_at_call 100; refine (abs1 _ _ (by omega)).mono ?_; rintro e w' ⟨rfl, rfl⟩)
    refine bodyPost_ret (v := .agg #[.int .i64 (((y - v).natAbs : Int) - (x - u).natAbs), .int .i64 (x - u).natAbs]) (by simp [results, Try.results30, go_sem]) rfl ?_
    exact ⟨rfl, by (repeat' (first | exact Below.refl _ _ | assumption | apply bel_drewN | apply bel_drew | apply bel_alloc | (refine bel_trans ?_ (by assumption))))⟩
  · rw [octI_ge hc]
    have hc' : ((y - v).natAbs : Int) ≤ (x - u).natAbs := by omega
    by_cases he : ((y - v).natAbs : Int) = (x - u).natAbs
    · go_enter Try.func30, Try.ntmps30
      go_wp2_with (go_at_call 100; refine (abs1 _ _ (by omega)).mono ?_; rintro e w' ⟨rfl, rfl⟩)
      refine bodyPost_ret (v := .agg #[.int .i64 0, .int .i64 (x - u).natAbs]) (by simp [results, Try.results30, go_sem]) rfl ?_
      exact ⟨by rw [he, Int.sub_self], by (repeat' (first | exact Below.refl _ _ | assumption | apply bel_drewN | apply bel_drew | apply bel_alloc | (refine bel_trans ?_ (by assumption))))⟩
    · have he' : ((y - v).natAbs : Int) < (x - u).natAbs := by omega
      clear he hc'
      go_enter Try.func30, Try.ntmps30
      go_wp2_with (go_at_call 100; refine (abs1 _ _ (by omega)).mono ?_; rintro e w' ⟨rfl, rfl⟩)
      refine bodyPost_ret (v := .agg #[.int .i64 (((x - u).natAbs : Int) - (y - v).natAbs), .int .i64 (y - v).natAbs]) (by simp [results, Try.results30, go_sem]) rfl ?_
      exact ⟨rfl, by (repeat' (first | exact Below.refl _ _ | assumption | apply bel_drewN | apply bel_drew | apply bel_alloc | (refine bel_trans ?_ (by assumption))))⟩
set_option maxHeartbeats 400000 in
theorem refOctile (x y u v : Int) (w : World) (h1 : -1048576 ≤ x ∧ x ≤ 1048576) (h2 : -1048576 ≤ y ∧ y ≤ 1048576) (h3 : -1048576 ≤ u ∧ u ≤ 1048576) (h4 : -1048576 ≤ v ∧ v ≤ 1048576) :
    Calls Try.prog 31 #[.int .i64 x, .int .i64 y, .int .i64 u, .int .i64 v] w fun e w' => e = .returned (.agg #[.int .i64 (octI (x - u) (y - v)).s, .int .i64 (octI (x - u) (y - v)).d]) ∧ Below w.heap.size w w' := by
  go_enter Try.func31, Try.ntmps31
  go_wp2_with (go_at_call 101; refine (abs2 _ _ (by omega)).mono ?_; rintro e w' ⟨rfl, rfl⟩)
  · have hc : (x - u).natAbs < (y - v).natAbs := by assumption
    refine bodyPost_ret (v := .agg #[.int .i64 (((y - v).natAbs : Int) - (x - u).natAbs), .int .i64 (x - u).natAbs]) (by simp [results, Try.results31, go_sem]) rfl ?_
    rw [octI_lt hc]
    exact ⟨rfl, by (repeat' (first | exact Below.refl _ _ | assumption | apply bel_drewN | apply bel_drew | apply bel_alloc | (refine bel_trans ?_ (by assumption))))⟩
  · have hc : ¬ (x - u).natAbs < (y - v).natAbs := by assumption
    refine bodyPost_ret (v := .agg #[.int .i64 (((x - u).natAbs : Int) - (y - v).natAbs), .int .i64 (y - v).natAbs]) (by simp [results, Try.results31, go_sem]) rfl ?_
    rw [octI_ge hc]
    exact ⟨rfl, by (repeat' (first | exact Below.refl _ _ | assumption | apply bel_drewN | apply bel_drew | apply bel_alloc | (refine bel_trans ?_ (by assumption))))⟩
end Go.Proofs.Ytkiogciokngjfaa
