/- What the functions of package cost, and those of the reference on costs, hand back. -/
import Derived.Test.YtkiogciokngjfaaBase
import Derived.Test.YtkiogciokngjfaaMath1
set_option linter.unusedVariables false
set_option linter.unusedSimpArgs false
namespace Go.Proofs.Ytkiogciokngjfaa
open Go.RowKit Go.Sort FR

def cmpI (x y : Int) : Int := if x < y then -1 else if y < x then 1 else 0
theorem isNaN_int (x : Int) (w : World) : Calls Try.prog 138 #[.int .i64 x] w fun e w' => e = .returned (.bool false) ∧ w = w' := by
  go_enter Try.func138, Try.ntmps138
  go_wp2
  go_ret
  exact ⟨rfl, rfl⟩
theorem ret_i {a b : Int} (h : a = b) : Ending.returned (.int .i64 a) = .returned (.int .i64 b) := by rw [h]
theorem ret_b {a b : Bool} (h : a = b) : Ending.returned (.bool a) = .returned (.bool b) := by rw [h]
theorem cmpCompare (x y : Int) (w : World) : Calls Try.prog 99 #[.int .i64 x, .int .i64 y] w fun e w' => e = .returned (.int .i64 (cmpI x y)) ∧ w = w' := by
  go_enter Try.func99, Try.ntmps99
  go_wp2_with (go_at_call 138; refine (isNaN_int _ _).mono ?_; rintro e w' ⟨rfl, rfl⟩)
  all_goals
    go_ret
    exact ⟨ret_i (by unfold cmpI; omega), rfl⟩
/-- what the text of Compare reckons, is the sign of the difference -/
theorem cmp_same {a b c d : Int} (h : (0 ≤ a - c ∧ 0 ≤ b - d) ∨ (a - c ≤ 0 ∧ b - d ≤ 0)) : cmpI (a - c + (b - d)) 0 = C.cmp ⟨a, b⟩ ⟨c, d⟩ := by
  unfold cmpI C.cmp C.lt Pos; simp only
  omega
theorem sq_neg (x y : Int) : (x - y) * (x - y) = (y - x) * (y - x) := by grind
theorem cmp_one {a b c d : Int} (h : 0 < a - c) (k : b - d < 0) : cmpI ((a - c) * (a - c)) (2 * (b - d) * (b - d)) = C.cmp ⟨a, b⟩ ⟨c, d⟩ := by
  unfold cmpI C.cmp C.lt Pos; simp only
  have q1 := sq_neg c a
  have q2 := sq_neg d b
  have q3 : 2 * (b - d) * (b - d) = 2 * ((b - d) * (b - d)) := by grind
  have := irr (a - c).natAbs (a - c) (b - d) (Nat.le_refl _)
  omega
theorem cmp_two {a b c d : Int} (h : a - c < 0) (k : 0 < b - d) : cmpI (2 * (b - d) * (b - d)) ((a - c) * (a - c)) = C.cmp ⟨a, b⟩ ⟨c, d⟩ := by
  unfold cmpI C.cmp C.lt Pos; simp only
  have q1 := sq_neg c a
  have q2 := sq_neg d b
  have q3 : 2 * (b - d) * (b - d) = 2 * ((b - d) * (b - d)) := by grind
  have := irr (a - c).natAbs (a - c) (b - d) (Nat.le_refl _)
  omega
theorem sq_bd {x : Int} (h : -4194304 ≤ x) (k : x ≤ 4194304) : 0 ≤ x * x ∧ x * x ≤ 17592186044416 := by
  refine ⟨?_, ?_⟩
  · rcases Int.le_total 0 x with h' | h'
    · exact Int.mul_nonneg h' h'
    · have := Int.mul_nonneg (a := -x) (b := -x) (by omega) (by omega); rwa [Int.neg_mul_neg] at this
  · rcases Int.le_total 0 x with h' | h'
    · have := sqle h' k; omega
    · have := sqle (a := -x) (b := 4194304) (by omega) (by omega); rw [Int.neg_mul_neg] at this; omega
theorem w64_sq {x : Int} (h : -4194304 ≤ x) (k : x ≤ 4194304) : wrap64 (x * x) = x * x := IntWalk.wrap64_in _ (by have := sq_bd h k; omega)
theorem w64_sq2 {x : Int} (h : -4194304 ≤ x) (k : x ≤ 4194304) : wrap64 (2 * x * x) = 2 * x * x := IntWalk.wrap64_in _ (by have := sq_bd h k; rw [Int.mul_assoc]; omega)
/-- a part of a cost within the reach of the document, doubled -/
def inC (a : Int) : Prop := -2097152 ≤ a ∧ a ≤ 2097152
instance (a : Int) : Decidable (inC a) := by unfold inC; infer_instance
set_option maxHeartbeats 400000 in
theorem costCompare (a b c d : Int) (w : World) (h1 : inC a) (h2 : inC b) (h3 : inC c) (h4 : inC d) :
    Calls Try.prog 26 #[.agg #[.int .i64 a, .int .i64 b], .agg #[.int .i64 c, .int .i64 d]] w fun e w' => e = .returned (.int .i64 (C.cmp ⟨a, b⟩ ⟨c, d⟩)) ∧ Below w.heap.size w w' := by
  unfold inC at h1 h2 h3 h4
  go_enter Try.func26, Try.ntmps26
  go_wp2_with fail
  go_quiet (fail)
  go_wp2_with (go_at_call 99; refine (cmpCompare _ _ _).mono ?_; rintro e w' ⟨rfl, rfl⟩)
  all_goals
    go_ret
    refine ⟨ret_i ?_, ?_⟩
    · first
      | (rw [w64_sq (by omega) (by omega), w64_sq2 (by omega) (by omega)]; first | exact cmp_one (by omega) (by omega) | exact cmp_two (by omega) (by omega))
      | exact cmp_same (by omega)
    · (repeat' (first | exact Below.refl _ _ | assumption | apply bel_drewN | apply bel_drew | apply bel_alloc | (refine bel_trans ?_ (by assumption))))
theorem costLess (a b c d : Int) (w : World) (h1 : inC a) (h2 : inC b) (h3 : inC c) (h4 : inC d) :
    Calls Try.prog 27 #[.agg #[.int .i64 a, .int .i64 b], .agg #[.int .i64 c, .int .i64 d]] w fun e w' => e = .returned (.bool (decide (C.cmp ⟨a, b⟩ ⟨c, d⟩ < 0))) ∧ Below w.heap.size w w' := by
  go_enter Try.func27, Try.ntmps27
  go_wp2_with (go_at_call 26; refine (costCompare _ _ _ _ _ h1 h2 h3 h4).mono ?_; rintro e w' ⟨rfl, hb⟩)
  go_ret
  exact ⟨rfl, by (repeat' (first | exact Below.refl _ _ | assumption | apply bel_drewN | apply bel_drew | apply bel_alloc | (refine bel_trans ?_ (by assumption))))⟩
theorem costAdd (a b c d : Int) (w : World) (h1 : inC a) (h2 : inC b) (h3 : inC c) (h4 : inC d) :
    Calls Try.prog 28 #[.agg #[.int .i64 a, .int .i64 b], .agg #[.int .i64 c, .int .i64 d]] w fun e w' => e = .returned (.agg #[.int .i64 (a + c), .int .i64 (b + d)]) ∧ Below w.heap.size w w' := by
  unfold inC at h1 h2 h3 h4
  go_enter Try.func28, Try.ntmps28
  go_wp2
  refine bodyPost_ret (v := .agg #[.int .i64 (a + c), .int .i64 (b + d)]) (by simp [results, Try.results28, go_sem]) rfl ?_
  exact ⟨rfl, by (repeat' (first | exact Below.refl _ _ | assumption | apply bel_drewN | apply bel_drew | apply bel_alloc | (refine bel_trans ?_ (by assumption))))⟩
theorem refPlus (a b c d : Int) (w : World) (h1 : inC a) (h2 : inC b) (h3 : inC c) (h4 : inC d) :
    Calls Try.prog 29 #[.agg #[.int .i64 a, .int .i64 b], .agg #[.int .i64 c, .int .i64 d]] w fun e w' => e = .returned (.agg #[.int .i64 (a + c), .int .i64 (b + d)]) ∧ Below w.heap.size w w' := by
  unfold inC at h1 h2 h3 h4
  go_enter Try.func29, Try.ntmps29
  go_wp2
  refine bodyPost_ret (v := .agg #[.int .i64 (a + c), .int .i64 (b + d)]) (by simp [results, Try.results29, go_sem]) rfl ?_
  exact ⟨rfl, by (repeat' (first | exact Below.refl _ _ | assumption | apply bel_drewN | apply bel_drew | apply bel_alloc | (refine bel_trans ?_ (by assumption))))⟩
theorem ref_eq {a b c d : Int} (h : a - c = 0) (k : (b - d == 0) = true) : 0 = C.cmp ⟨a, b⟩ ⟨c, d⟩ := by
  have k' : b - d = 0 := by simpa using k
  exact (C.cmp_zero.2 (C.ext' (by simp only; omega) (by simp only; omega))).symm
theorem ref_pos {a b c d : Int} (h : c ≤ a) (k : d ≤ b) (n : ¬ (a - c = 0 ∧ b - d = 0)) : 1 = C.cmp ⟨a, b⟩ ⟨c, d⟩ := by
  have := C.cmp_pos.2 (C.lt_of_parts (a := ⟨c, d⟩) (b := ⟨a, b⟩) h k (fun e => n (by injection e; omega)))
  have := C.cmp_cases ⟨a, b⟩ ⟨c, d⟩; omega
theorem ref_neg {a b c d : Int} (h : a ≤ c) (k : b ≤ d) (n : ¬ (a - c = 0 ∧ b - d = 0)) : -1 = C.cmp ⟨a, b⟩ ⟨c, d⟩ := by
  have := C.cmp_neg.2 (C.lt_of_parts (a := ⟨a, b⟩) (b := ⟨c, d⟩) h k (fun e => n (by injection e; omega)))
  have := C.cmp_cases ⟨a, b⟩ ⟨c, d⟩; omega
theorem ref_mix {a b c d : Int} {t : Bool} (h1 : inC a) (h2 : inC b) (h3 : inC c) (h4 : inC d) (m : (0 < a - c ∧ b < d) ∨ (a < c ∧ 0 < b - d))
    (h : (decide (wrap64 (2 * (b - d) * (b - d)) < wrap64 ((a - c) * (a - c))) == decide (c < a)) = t) : (if t then 1 else -1 : Int) = C.cmp ⟨a, b⟩ ⟨c, d⟩ := by
  unfold inC at h1 h2 h3 h4
  rw [w64_sq (by omega) (by omega), w64_sq2 (by omega) (by omega)] at h
  have q := irr (a - c).natAbs (a - c) (b - d) (Nat.le_refl _)
  have q3 : 2 * (b - d) * (b - d) = 2 * ((b - d) * (b - d)) := by grind
  rw [q3] at h
  rcases m with ⟨m1, m2⟩ | ⟨m1, m2⟩
  · have e := cmp_one (a := a) (b := b) (c := c) (d := d) m1 (by omega)
    rw [q3] at e
    rw [← e, ← h, decide_eq_true (by omega : c < a)]
    unfold cmpI
    by_cases x : 2 * ((b - d) * (b - d)) < (a - c) * (a - c)
    · simp [x]; omega
    · simp [x]; omega
  · have e := cmp_two (a := a) (b := b) (c := c) (d := d) (by omega) (by omega)
    rw [q3] at e
    rw [← e, ← h, decide_eq_false (by omega : ¬ c < a)]
    unfold cmpI
    by_cases x : 2 * ((b - d) * (b - d)) < (a - c) * (a - c)
    · simp [x]
    · simp [x]; omega
set_option maxHeartbeats 400000 in
theorem refCompare (a b c d : Int) (w : World) (h1 : inC a) (h2 : inC b) (h3 : inC c) (h4 : inC d) :
    Calls Try.prog 25 #[.agg #[.int .i64 a, .int .i64 b], .agg #[.int .i64 c, .int .i64 d]] w fun e w' => e = .returned (.int .i64 (C.cmp ⟨a, b⟩ ⟨c, d⟩)) ∧ Below w.heap.size w w' := by
  have g1 := h1; have g2 := h2; have g3 := h3; have g4 := h4
  unfold inC at h1 h2 h3 h4
  go_enter Try.func25, Try.ntmps25
  go_wp2
  all_goals
    go_ret
    refine ⟨ret_i ?_, ?_⟩
    · first
      | exact ref_eq ‹_› ‹_›
      | exact ref_mix (t := true) g1 g2 g3 g4 (by omega) ‹_›
      | exact ref_mix (t := false) g1 g2 g3 g4 (by omega) ‹_›
      | exact ref_pos (by omega) (by omega) (by have h : (b - d == 0) = false := ‹_›; simp at h; omega)
      | exact ref_neg (by omega) (by omega) (by have h : (b - d == 0) = false := ‹_›; simp at h; omega)
      | exact ref_pos (by omega) (by omega) (by omega)
      | exact ref_neg (by omega) (by omega) (by omega)
    · (repeat' (first | exact Below.refl _ _ | assumption | apply bel_drewN | apply bel_drew | apply bel_alloc | (refine bel_trans ?_ (by assumption))))
end Go.Proofs.Ytkiogciokngjfaa
