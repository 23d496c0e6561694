/- The law TopOctile: for any six numbers it returns true: by a third place it is never nearer, and back it is as far. -/
import Derived.Test.YtkiogciokngjfaaCostSays
import Derived.Deep.Cut
set_option linter.unusedVariables false
set_option linter.unusedSimpArgs false
namespace Go.Proofs.Ytkiogciokngjfaa
open Go.RowKit Go.Sort FR
theorem oct_at (x y u v a b : Int) (e : octI (x - u) (y - v) = ⟨a, b⟩) (h1 : -1048576 ≤ x ∧ x ≤ 1048576) (h2 : -1048576 ≤ y ∧ y ≤ 1048576) (h3 : -1048576 ≤ u ∧ u ≤ 1048576) (h4 : -1048576 ≤ v ∧ v ≤ 1048576) (w : World) :
    Calls Try.prog 30 #[.int .i64 x, .int .i64 y, .int .i64 u, .int .i64 v] w fun e w' => e = .returned (.agg #[.int .i64 a, .int .i64 b]) ∧ Below w.heap.size w w' := by
  have := costOctile x y u v w h1 h2 h3 h4
  rw [e] at this; exact this
theorem cmp_eq (a b c d : Int) (n : Int) (h : C.cmp ⟨a, b⟩ ⟨c, d⟩ = n) (h1 : inC a) (h2 : inC b) (h3 : inC c) (h4 : inC d) (w : World) :
    Calls Try.prog 26 #[.agg #[.int .i64 a, .int .i64 b], .agg #[.int .i64 c, .int .i64 d]] w fun e w' => e = .returned (.int .i64 n) ∧ Below w.heap.size w w' := by
  rw [← h]; exact costCompare a b c d w h1 h2 h3 h4
theorem octI_bd {x y : Int} {a b : Int} (h : octI x y = ⟨a, b⟩) (hx : -400000 ≤ x ∧ x ≤ 400000) (hy : -400000 ≤ y ∧ y ≤ 400000) : 0 ≤ a ∧ a ≤ 400000 ∧ 0 ≤ b ∧ b ≤ 400000 := by
  unfold octI at h; split at h <;> injection h with h1 h2 <;> omega
def nth6 (x y u v s t : Int) (k : Nat) : Int := if k = 0 then x else if k = 1 then y else if k = 2 then u else if k = 3 then v else if k = 4 then s else t
theorem cell6 (w : World) (T : TypeId) (x y u v s t : Int) (k : Nat) (h : k < 6) : (w.alloc (.cells #[.int .i64 x, .int .i64 y, .int .i64 u, .int .i64 v, .int .i64 s, .int .i64 t] T)).cell? ⟨w.heap.size, k, none⟩ = some (.int .i64 (nth6 x y u v s t k)) := by
  rcases (show k = 0 ∨ k = 1 ∨ k = 2 ∨ k = 3 ∨ k = 4 ∨ k = 5 from by omega) with rfl | rfl | rfl | rfl | rfl | rfl <;> go_simp <;> rfl
def in6 (n : Int) : Prop := -100000 ≤ n ∧ n ≤ 100000
def fst6 (x y u v s t : Int) (k : Nat) : Prop := ∀ j, j < k → in6 (nth6 x y u v s t j)
theorem fst6_succ {x y u v s t : Int} {k : Nat} (h : fst6 x y u v s t k) (h1 : -100000 ≤ nth6 x y u v s t k) (h2 : nth6 x y u v s t k ≤ 100000) : fst6 x y u v s t (k+1) := by
  intro j hj
  by_cases e : j = k
  · subst e; exact ⟨h1, h2⟩
  · exact h j (by omega)
set_option maxRecDepth 100000 in
set_option maxHeartbeats 1600000 in
theorem topOctile (w : World) (x : Int) (wx : -9223372036854775808 ≤ x ∧ x ≤ 9223372036854775807) (y : Int) (wy : -9223372036854775808 ≤ y ∧ y ≤ 9223372036854775807) (u : Int) (wu : -9223372036854775808 ≤ u ∧ u ≤ 9223372036854775807)
    (v : Int) (wv : -9223372036854775808 ≤ v ∧ v ≤ 9223372036854775807) (s : Int) (ws : -9223372036854775808 ≤ s ∧ s ≤ 9223372036854775807) (t : Int) (wt : -9223372036854775808 ≤ t ∧ t ≤ 9223372036854775807) :
    Calls Try.prog 11 #[.int .i64 x, .int .i64 y, .int .i64 u, .int .i64 v, .int .i64 s, .int .i64 t] w
      fun e w' => e = .returned (.bool true) ∧ Below w.heap.size w w' := by
  clear wx wy wu wv ws wt
  go_enter Try.func11, Try.ntmps11
  go_wp2_with fail
  (with_reducible refine (oct_at 0 0 1 1 0 1 (by decide) (by decide) (by decide) (by decide) (by decide) _).mono ?_)
  rintro e w1 ⟨rfl, hb1⟩
  go_wp2_with fail
  have hB := bel_alloc hb1 (o := .cells #[.int .i64 x, .int .i64 y, .int .i64 u, .int .i64 v, .int .i64 s, .int .i64 t] 3)
  have hc6 := cell6 w1 3 x y u v s t
  generalize w1.alloc (.cells #[.int .i64 x, .int .i64 y, .int .i64 u, .int .i64 v, .int .i64 s, .int .i64 t] 3) = w2 at hB hc6 ⊢
  go_loop [28] (fun i => ∃ k : Nat, k ≤ 6 ∧ i = .int .i64 k ∧ fst6 x y u v s t k) (fun i => 6 - (intOf i).toNat)
  case atStart => exact ⟨0, by omega, rfl, fun j hj => by omega⟩
  case round =>
    obtain ⟨k, hk, rfl, r1⟩ := hrel
    by_cases hlt : k < 6
    · have hc := hc6 k hlt
      clear hc6
      go_wp2
      all_goals first
        | (go_round; (case rel => exact ⟨k + 1, by omega, by go_num, fst6_succ r1 (by omega) (by omega)⟩); (case measure => simp [intOf]; omega))
        | (go_ret; exact ⟨rfl, hB⟩)
    · have q1 : in6 x := r1 0 (by omega)
      have q2 : in6 y := r1 1 (by omega)
      have q3 : in6 u := r1 2 (by omega)
      have q4 : in6 v := r1 3 (by omega)
      have q5 : in6 s := r1 4 (by omega)
      have q6 : in6 t := r1 5 (by omega)
      unfold in6 at q1 q2 q3 q4 q5 q6
      clear hc6 r1
      obtain ⟨⟨a1, a2⟩, ha⟩ : ∃ a, octI (x - u) (y - v) = a := ⟨_, rfl⟩
      obtain ⟨⟨b1, b2⟩, hb⟩ : ∃ a, octI (x - s) (y - t) = a := ⟨_, rfl⟩
      obtain ⟨⟨c1, c2⟩, hc⟩ : ∃ a, octI (s - u) (t - v) = a := ⟨_, rfl⟩
      have hd : octI (u - x) (v - y) = ⟨a1, a2⟩ := by rw [← ha, ← octI_neg]; congr 1 <;> omega
      obtain ⟨n, hn⟩ : ∃ n, C.cmp ⟨a1, a2⟩ ⟨b1 + c1, b2 + c2⟩ = n := ⟨_, rfl⟩
      have hn0 : n ≤ 0 := by
        rw [← hn, C.cmp_le_zero, ← ha]
        have := octI_tri (x - s) (y - t) (s - u) (t - v)
        rw [hb, hc, show x - s + (s - u) = x - u by omega, show y - t + (t - v) = y - v by omega] at this
        exact this
      obtain ⟨A1, A2, A3, A4⟩ := octI_bd ha (by omega) (by omega)
      obtain ⟨B1, B2, B3, B4⟩ := octI_bd hb (by omega) (by omega)
      obtain ⟨C1, C2, C3, C4⟩ := octI_bd hc (by omega) (by omega)
      have hdn : decide (n ≤ 0) = true := decide_eq_true hn0
      have ca := Lib.hid (oct_at x y u v a1 a2 ha (by omega) (by omega) (by omega) (by omega))
      have cb := Lib.hid (oct_at x y s t b1 b2 hb (by omega) (by omega) (by omega) (by omega))
      have cc := Lib.hid (oct_at s t u v c1 c2 hc (by omega) (by omega) (by omega) (by omega))
      have cd := Lib.hid (oct_at u v x y a1 a2 hd (by omega) (by omega) (by omega) (by omega))
      have ce := Lib.hid (fun w => costAdd b1 b2 c1 c2 w (by unfold inC; omega) (by unfold inC; omega) (by unfold inC; omega) (by unfold inC; omega))
      have cf := Lib.hid (cmp_eq a1 a2 (b1 + c1) (b2 + c2) n hn (by unfold inC; omega) (by unfold inC; omega) (by unfold inC; omega) (by unfold inC; omega))
      have cg := Lib.hid (fun w => costCheck_ok a1 a2 w (by unfold costOk; omega))
      clear ha hb hc hd hn hn0
      go_wp2_with fail
      (with_reducible refine (ca.out _).mono ?_)
      rintro e w3 ⟨rfl, hb3⟩
      go_wp2_with fail
      (with_reducible refine (cb.out _).mono ?_)
      rintro e w4 ⟨rfl, hb4⟩
      go_wp2_with fail
      (with_reducible refine (cc.out _).mono ?_)
      rintro e w5 ⟨rfl, hb5⟩
      go_wp2_with fail
      (with_reducible refine (ce.out _).mono ?_)
      rintro e w6 ⟨rfl, hb6⟩
      go_upto_region 1 with (fail)
      have HB3 := bel_trans hB hb3
      have HB4 : Below w.heap.size w w4 := bel_trans (bel_alloc HB3) hb4
      have HB5 := bel_trans HB4 hb5
      have HB6 := bel_trans HB5 hb6
      have z4 := hb4.size
      have z5 := hb5.size
      have z6 := hb6.size
      simp at z4
      have k1 : (w6.alloc (.cells #[.int .i64 (b1 + c1), .int .i64 (b2 + c2)] 23)).cell? ⟨w3.heap.size, 0, none⟩ = some (.int .i64 a1) := by
        rw [World.cell?_alloc_lt _ _ _ (by simp; omega), hb6.cell (p := ⟨w3.heap.size, 0, none⟩) (by simp; omega), hb5.cell (p := ⟨w3.heap.size, 0, none⟩) (by simp; omega), hb4.cell (p := ⟨w3.heap.size, 0, none⟩) (by simp)]; go_simp
      have k2 : (w6.alloc (.cells #[.int .i64 (b1 + c1), .int .i64 (b2 + c2)] 23)).cell? ⟨w3.heap.size, 1, none⟩ = some (.int .i64 a2) := by
        rw [World.cell?_alloc_lt _ _ _ (by simp; omega), hb6.cell (p := ⟨w3.heap.size, 1, none⟩) (by simp; omega), hb5.cell (p := ⟨w3.heap.size, 1, none⟩) (by simp; omega), hb4.cell (p := ⟨w3.heap.size, 1, none⟩) (by simp)]; go_simp
      have k3 : (w6.alloc (.cells #[.int .i64 (b1 + c1), .int .i64 (b2 + c2)] 23)).cell? ⟨w6.heap.size, 0, none⟩ = some (.int .i64 (b1 + c1)) := by go_simp
      have k4 : (w6.alloc (.cells #[.int .i64 (b1 + c1), .int .i64 (b2 + c2)] 23)).cell? ⟨w6.heap.size, 1, none⟩ = some (.int .i64 (b2 + c2)) := by go_simp
      have HB7 : Below w.heap.size w (w6.alloc (.cells #[.int .i64 (b1 + c1), .int .i64 (b2 + c2)] 23)) := bel_alloc HB6
      generalize w6.alloc (.cells #[.int .i64 (b1 + c1), .int .i64 (b2 + c2)] 23) = w7 at k1 k2 k3 k4 HB7 ⊢
      have k1q := cell_regrown k1
      have k2q := cell_regrown k2
      have k3q := cell_regrown k3
      have k4q := cell_regrown k4
      refine wp_region_quiet_below (by kernel_rfl) (by kernel_rfl) ?_
      repeat (first | go_big_quiet_step (first | with_reducible exact Calls.regrown_of (cd.out _) | with_reducible exact Calls.regrown_of (cf.out _) | with_reducible exact Calls.regrown_of (cg.out _)) | quiet_step (first | with_reducible exact Calls.regrown_of (cd.out _) | with_reducible exact Calls.regrown_of (cf.out _) | with_reducible exact Calls.regrown_of (cg.out _)))
      refine wpQuiet_nil ?_
      intro _ hw'
      obtain ⟨⟨dq, osq⟩, hw''⟩ := hw'
      have HB8 := bel_trans HB7 (below_regrown w7 dq osq)
      have hb2 := below_regrown w7 dq osq
      subst hw''
      generalize grow (redrawn w7 dq) osq = w8 at HB8 hb2 ⊢
      go_wp2
      go_ret
      exact ⟨rfl, HB8⟩
end Go.Proofs.Ytkiogciokngjfaa
