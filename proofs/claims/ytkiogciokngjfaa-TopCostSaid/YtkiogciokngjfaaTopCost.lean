/- The law TopCost: for any three costs it returns true: costs stand in one order. -/
import Derived.Test.YtkiogciokngjfaaCostSays
import Derived.Deep.Cut
namespace Go.Proofs.Ytkiogciokngjfaa
open Go.RowKit Go.Sort FR
theorem cmp_at (a b c d : Int) (n : Int) (h : C.cmp ⟨a, b⟩ ⟨c, d⟩ = n) (h1 : inC a) (h2 : inC b) (h3 : inC c) (h4 : inC d) (w : World) :
    Calls Try.prog 26 #[.agg #[.int .i64 a, .int .i64 b], .agg #[.int .i64 c, .int .i64 d]] w fun e w' => e = .returned (.int .i64 n) ∧ Below w.heap.size w w' := by
  rw [← h]; exact costCompare a b c d w h1 h2 h3 h4
theorem less_at (a b c d : Int) (t : Bool) (h : decide (C.cmp ⟨a, b⟩ ⟨c, d⟩ < 0) = t) (h1 : inC a) (h2 : inC b) (h3 : inC c) (h4 : inC d) (w : World) :
    Calls Try.prog 27 #[.agg #[.int .i64 a, .int .i64 b], .agg #[.int .i64 c, .int .i64 d]] w fun e w' => e = .returned (.bool t) ∧ Below w.heap.size w w' := by
  rw [← h]; exact costLess a b c d w h1 h2 h3 h4
theorem cmp_lt {a b : C} (h : C.lt a b) : C.cmp a b = -1 := by have := C.cmp_neg.2 h; have := C.cmp_cases a b; omega
theorem cmp_gt {a b : C} (h : C.lt a b) : C.cmp b a = 1 := by have := C.cmp_pos.2 h; have := C.cmp_cases b a; omega
theorem less_yes {a b : C} (h : C.cmp a b = -1) : decide (C.cmp a b < 0) = true := by rw [h]; rfl
theorem less_no {a b : C} (h : C.cmp a b = 1) : decide (C.cmp a b < 0) = false := by rw [h]; rfl
theorem less_zero {a b : C} (h : C.cmp a b = 0) : decide (C.cmp a b < 0) = false := by rw [h]; rfl
theorem less_not {a b : C} (h : ¬ C.lt a b) : decide (C.cmp a b < 0) = false := decide_eq_false (fun k => h (C.cmp_neg.1 k))
theorem ne_of_lt {a b c d : Int} (h : C.lt ⟨a, b⟩ ⟨c, d⟩) : (a == c) = false ∨ (a == c) = true ∧ (b == d) = false := by
  cases h1 : (a == c) with
  | false => exact .inl rfl
  | true =>
    cases h2 : (b == d) with
    | false => exact .inr ⟨rfl, rfl⟩
    | true => simp at h1 h2; subst h1; subst h2; exact absurd h (C.lt_irrefl _)
theorem ne_of_lt' {a b c d : Int} (h : C.lt ⟨c, d⟩ ⟨a, b⟩) : (a == c) = false ∨ (a == c) = true ∧ (b == d) = false := by
  cases h1 : (a == c) with
  | false => exact .inl rfl
  | true =>
    cases h2 : (b == d) with
    | false => exact .inr ⟨rfl, rfl⟩
    | true => simp at h1 h2; subst h1; subst h2; exact absurd h (C.lt_irrefl _)
set_option maxRecDepth 100000 in
set_option maxHeartbeats 1600000 in
theorem topCost (a1 a2 b1 b2 c1 c2 : Int) (w : World) :
    Calls Try.prog 10 #[.agg #[.int .i64 a1, .int .i64 a2], .agg #[.int .i64 b1, .int .i64 b2], .agg #[.int .i64 c1, .int .i64 c2]] w
      fun e w' => e = .returned (.bool true) ∧ Below w.heap.size w w' := by
  go_enter Try.func10, Try.ntmps10
  go_upto_region 1 with (fail)
  refine wp_name ?_
  intro W hW
  have HW : Below w.heap.size w W := by rw [hW]; (repeat' (first | exact Below.refl _ _ | assumption | apply bel_drewN | apply bel_drew | apply bel_alloc | (refine bel_trans ?_ (by assumption))))
  have k1 : ∀ w', Below W.heap.size W w' → w'.cell? ⟨w.heap.size, 0, none⟩ = some (.int .i64 a1 : Value) := fun w' hbw => (hbw.cell (p := ⟨w.heap.size, 0, none⟩) (by rw [hW]; simp <;> omega)).trans (by rw [hW]; go_simp)
  have k2 : ∀ w', Below W.heap.size W w' → w'.cell? ⟨w.heap.size, 1, none⟩ = some (.int .i64 a2 : Value) := fun w' hbw => (hbw.cell (p := ⟨w.heap.size, 1, none⟩) (by rw [hW]; simp <;> omega)).trans (by rw [hW]; go_simp)
  have k3 : ∀ w', Below W.heap.size W w' → w'.cell? ⟨w.heap.size + 1, 0, none⟩ = some (.int .i64 b1 : Value) := fun w' hbw => (hbw.cell (p := ⟨w.heap.size + 1, 0, none⟩) (by rw [hW]; simp <;> omega)).trans (by rw [hW]; go_simp)
  have k4 : ∀ w', Below W.heap.size W w' → w'.cell? ⟨w.heap.size + 1, 1, none⟩ = some (.int .i64 b2 : Value) := fun w' hbw => (hbw.cell (p := ⟨w.heap.size + 1, 1, none⟩) (by rw [hW]; simp <;> omega)).trans (by rw [hW]; go_simp)
  have k5 : ∀ w', Below W.heap.size W w' → w'.cell? ⟨w.heap.size + 1 + 1, 0, none⟩ = some (.int .i64 c1 : Value) := fun w' hbw => (hbw.cell (p := ⟨w.heap.size + 1 + 1, 0, none⟩) (by rw [hW]; simp <;> omega)).trans (by rw [hW]; go_simp)
  have k6 : ∀ w', Below W.heap.size W w' → w'.cell? ⟨w.heap.size + 1 + 1, 1, none⟩ = some (.int .i64 c2 : Value) := fun w' hbw => (hbw.cell (p := ⟨w.heap.size + 1 + 1, 1, none⟩) (by rw [hW]; simp <;> omega)).trans (by rw [hW]; go_simp)
  clear hW
  have HB := Below.refl W.heap.size W
  have hbq := fun d os => bel_trans HB (below_regrown W d os)
  refine wp_region_seq_below ?_
  repeat (quiet_step (with_reducible exact Calls.regrown_of (costLess_yes _ _ _ _ _ (by decide) (by decide) (by decide) (by decide) (by decide))))
  refine wpQuiet_nil ?_
  intro _ hw'
  obtain ⟨⟨dq, osq⟩, hw''⟩ := hw'
  replace HB := hbq dq osq
  clear hbq
  subst hw''
  generalize grow (redrawn W dq) osq = w1 at HB ⊢
  clear dq osq
  go_upto_region 3 with (fail)
  by_cases ha : costOk a1 a2
  · by_cases hb : costOk b1 b2
    · by_cases hc : costOk c1 c2
      · have hbq := fun d os => bel_trans HB (below_regrown w1 d os)
        refine wp_region_seq_below ?_
        repeat (quiet_step (first | with_reducible exact Calls.regrown_of (costCheck_ok _ _ _ ha) | with_reducible exact Calls.regrown_of (costCheck_ok _ _ _ hb) | with_reducible exact Calls.regrown_of (costCheck_ok _ _ _ hc)))
        refine wpQuiet_nil ?_
        intro _ hw'
        obtain ⟨⟨dq, osq⟩, hw''⟩ := hw'
        replace HB := hbq dq osq
        clear hbq
        subst hw''
        generalize grow (redrawn w1 dq) osq = w2 at HB ⊢
        clear dq osq
        obtain ⟨i1, i2⟩ := ha.inC
        obtain ⟨i3, i4⟩ := hb.inC
        obtain ⟨i5, i6⟩ := hc.inC
        go_upto_region 5 with (fail)
        have s1 : inC (a1 + c1) := by unfold costOk at ha hc; unfold inC; omega
        have s2 : inC (a2 + c2) := by unfold costOk at ha hc; unfold inC; omega
        have s3 : inC (b1 + c1) := by unfold costOk at hb hc; unfold inC; omega
        have s4 : inC (b2 + c2) := by unfold costOk at hb hc; unfold inC; omega
        clear ha hb hc
        rcases C.lt_tri ⟨a1, a2⟩ ⟨b1, b2⟩ with hlt | heq | hgt
        · have e1 := Lib.hid (cmp_lt hlt)
          have e2 := Lib.hid (cmp_gt hlt)
          have e3 := Lib.hid (show C.cmp ⟨a1 + c1, a2 + c2⟩ ⟨b1 + c1, b2 + c2⟩ = -1 from cmp_lt ((C.add_lt_right ⟨c1, c2⟩).2 hlt))
          have hlt' := Lib.hid hlt
          rcases ne_of_lt hlt with hx | ⟨hx, hy⟩
          all_goals
            clear hlt
            have hbq := fun d os => bel_trans HB (below_regrown w2 d os)
            refine wp_region_quiet_below (by kernel_rfl) (by kernel_rfl) ?_
            repeat (quiet_step (first | with_reducible exact Calls.regrown_of (cmp_at _ _ _ _ _ e1.out i1 i2 i3 i4 _) | with_reducible exact Calls.regrown_of (cmp_at _ _ _ _ _ e2.out i3 i4 i1 i2 _) | with_reducible exact Calls.regrown_of (less_at _ _ _ _ true (less_yes e1.out) i1 i2 i3 i4 _) | with_reducible exact Calls.regrown_of (less_at _ _ _ _ false (less_no e2.out) i3 i4 i1 i2 _)))
            refine wpQuiet_nil ?_
            intro _ hw'
            obtain ⟨⟨dq, osq⟩, hw''⟩ := hw'
            replace HB := hbq dq osq
            clear hbq
            subst hw''
            generalize grow (redrawn w2 dq) osq = w3 at HB ⊢
            clear dq osq
            go_upto_region 7 with (fail)
            by_cases hbc : C.lt ⟨b1, b2⟩ ⟨c1, c2⟩
            · have hac := C.lt_trans hlt'.out hbc
              have f1 := Lib.hid (less_yes (cmp_lt hbc))
              have f2 := Lib.hid (less_yes (cmp_lt hac))
              clear hbc hac
              have hbq := fun d os => bel_trans HB (below_regrown w3 d os)
              refine wp_region_seq_below ?_
              repeat (quiet_step (first | with_reducible exact Calls.regrown_of (less_at _ _ _ _ true (less_yes e1.out) i1 i2 i3 i4 _) | with_reducible exact Calls.regrown_of (less_at _ _ _ _ true f1.out i3 i4 i5 i6 _) | with_reducible exact Calls.regrown_of (less_at _ _ _ _ true f2.out i1 i2 i5 i6 _)))
              refine wpQuiet_nil ?_
              intro _ hw'
              obtain ⟨⟨dq, osq⟩, hw''⟩ := hw'
              replace HB := hbq dq osq
              clear hbq
              subst hw''
              generalize grow (redrawn w3 dq) osq = w4 at HB ⊢
              clear dq osq
              go_upto_region 9 with (fail)
              have hbq := fun d os => bel_trans HB (below_regrown w4 d os)
              refine wp_region_quiet_below (by kernel_rfl) (by kernel_rfl) ?_
              repeat (quiet_step (first | with_reducible exact Calls.regrown_of (costAdd _ _ _ _ _ i1 i2 i5 i6) | with_reducible exact Calls.regrown_of (costAdd _ _ _ _ _ i3 i4 i5 i6) | with_reducible exact Calls.regrown_of (cmp_at _ _ _ _ _ e3.out s1 s2 s3 s4 _) | with_reducible exact Calls.regrown_of (cmp_at _ _ _ _ _ e1.out i1 i2 i3 i4 _)))
              refine wpQuiet_nil ?_
              intro _ hw'
              obtain ⟨⟨dq, osq⟩, hw''⟩ := hw'
              replace HB := hbq dq osq
              clear hbq
              subst hw''
              generalize grow (redrawn w4 dq) osq = w5 at HB ⊢
              clear dq osq
              go_wp2
              go_ret
              exact ⟨rfl, bel_trans HW HB⟩
            · have f1 := Lib.hid (less_not hbc)
              clear hbc
              have hbq := fun d os => bel_trans HB (below_regrown w3 d os)
              refine wp_region_seq_below ?_
              repeat (quiet_step (first | with_reducible exact Calls.regrown_of (less_at _ _ _ _ true (less_yes e1.out) i1 i2 i3 i4 _) | with_reducible exact Calls.regrown_of (less_at _ _ _ _ false f1.out i3 i4 i5 i6 _)))
              refine wpQuiet_nil ?_
              intro _ hw'
              obtain ⟨⟨dq, osq⟩, hw''⟩ := hw'
              replace HB := hbq dq osq
              clear hbq
              subst hw''
              generalize grow (redrawn w3 dq) osq = w4 at HB ⊢
              clear dq osq
              go_upto_region 9 with (fail)
              have hbq := fun d os => bel_trans HB (below_regrown w4 d os)
              refine wp_region_quiet_below (by kernel_rfl) (by kernel_rfl) ?_
              repeat (quiet_step (first | with_reducible exact Calls.regrown_of (costAdd _ _ _ _ _ i1 i2 i5 i6) | with_reducible exact Calls.regrown_of (costAdd _ _ _ _ _ i3 i4 i5 i6) | with_reducible exact Calls.regrown_of (cmp_at _ _ _ _ _ e3.out s1 s2 s3 s4 _) | with_reducible exact Calls.regrown_of (cmp_at _ _ _ _ _ e1.out i1 i2 i3 i4 _)))
              refine wpQuiet_nil ?_
              intro _ hw'
              obtain ⟨⟨dq, osq⟩, hw''⟩ := hw'
              replace HB := hbq dq osq
              clear hbq
              subst hw''
              generalize grow (redrawn w4 dq) osq = w5 at HB ⊢
              clear dq osq
              go_wp2
              go_ret
              exact ⟨rfl, bel_trans HW HB⟩
        · injection heq with q1 q2
          subst q1; subst q2
          have e1 := Lib.hid (C.cmp_zero.2 (rfl : (⟨a1, a2⟩ : C) = ⟨a1, a2⟩))
          have e2 := e1
          have e3 := Lib.hid (C.cmp_zero.2 (rfl : (⟨a1 + c1, a2 + c2⟩ : C) = ⟨a1 + c1, a2 + c2⟩))
          have hbq := fun d os => bel_trans HB (below_regrown w2 d os)
          refine wp_region_quiet_below (by kernel_rfl) (by kernel_rfl) ?_
          repeat (quiet_step (first | with_reducible exact Calls.regrown_of (cmp_at _ _ _ _ _ e1.out i1 i2 i3 i4 _) | with_reducible exact Calls.regrown_of (less_at _ _ _ _ false (less_zero e1.out) i1 i2 i3 i4 _)))
          refine wpQuiet_nil ?_
          intro _ hw'
          obtain ⟨⟨dq, osq⟩, hw''⟩ := hw'
          replace HB := hbq dq osq
          clear hbq
          subst hw''
          generalize grow (redrawn w2 dq) osq = w3 at HB ⊢
          clear dq osq
          go_upto_region 7 with (fail)
          have hbq := fun d os => bel_trans HB (below_regrown w3 d os)
          refine wp_region_seq_below ?_
          repeat (quiet_step (with_reducible exact Calls.regrown_of (less_at _ _ _ _ false (less_zero e1.out) i1 i2 i3 i4 _)))
          refine wpQuiet_nil ?_
          intro _ hw'
          obtain ⟨⟨dq, osq⟩, hw''⟩ := hw'
          replace HB := hbq dq osq
          clear hbq
          subst hw''
          generalize grow (redrawn w3 dq) osq = w4 at HB ⊢
          clear dq osq
          go_upto_region 9 with (fail)
          have hbq := fun d os => bel_trans HB (below_regrown w4 d os)
          refine wp_region_quiet_below (by kernel_rfl) (by kernel_rfl) ?_
          repeat (quiet_step (first | with_reducible exact Calls.regrown_of (costAdd _ _ _ _ _ i1 i2 i5 i6) | with_reducible exact Calls.regrown_of (costAdd _ _ _ _ _ i3 i4 i5 i6) | with_reducible exact Calls.regrown_of (cmp_at _ _ _ _ _ e3.out s1 s2 s3 s4 _) | with_reducible exact Calls.regrown_of (cmp_at _ _ _ _ _ e1.out i1 i2 i3 i4 _)))
          refine wpQuiet_nil ?_
          intro _ hw'
          obtain ⟨⟨dq, osq⟩, hw''⟩ := hw'
          replace HB := hbq dq osq
          clear hbq
          subst hw''
          generalize grow (redrawn w4 dq) osq = w5 at HB ⊢
          clear dq osq
          go_wp2
          go_ret
          exact ⟨rfl, bel_trans HW HB⟩
        · have e1 := Lib.hid (cmp_gt hgt)
          have e2 := Lib.hid (cmp_lt hgt)
          have e3 := Lib.hid (show C.cmp ⟨a1 + c1, a2 + c2⟩ ⟨b1 + c1, b2 + c2⟩ = 1 from cmp_gt ((C.add_lt_right ⟨c1, c2⟩).2 hgt))
          rcases ne_of_lt' hgt with hx | ⟨hx, hy⟩
          all_goals
            clear hgt
            have hbq := fun d os => bel_trans HB (below_regrown w2 d os)
            refine wp_region_quiet_below (by kernel_rfl) (by kernel_rfl) ?_
            repeat (quiet_step (first | with_reducible exact Calls.regrown_of (cmp_at _ _ _ _ _ e1.out i1 i2 i3 i4 _) | with_reducible exact Calls.regrown_of (cmp_at _ _ _ _ _ e2.out i3 i4 i1 i2 _) | with_reducible exact Calls.regrown_of (less_at _ _ _ _ false (less_no e1.out) i1 i2 i3 i4 _)))
            refine wpQuiet_nil ?_
            intro _ hw'
            obtain ⟨⟨dq, osq⟩, hw''⟩ := hw'
            replace HB := hbq dq osq
            clear hbq
            subst hw''
            generalize grow (redrawn w2 dq) osq = w3 at HB ⊢
            clear dq osq
            go_upto_region 7 with (fail)
            have hbq := fun d os => bel_trans HB (below_regrown w3 d os)
            refine wp_region_seq_below ?_
            repeat (quiet_step (with_reducible exact Calls.regrown_of (less_at _ _ _ _ false (less_no e1.out) i1 i2 i3 i4 _)))
            refine wpQuiet_nil ?_
            intro _ hw'
            obtain ⟨⟨dq, osq⟩, hw''⟩ := hw'
            replace HB := hbq dq osq
            clear hbq
            subst hw''
            generalize grow (redrawn w3 dq) osq = w4 at HB ⊢
            clear dq osq
            go_upto_region 9 with (fail)
            have hbq := fun d os => bel_trans HB (below_regrown w4 d os)
            refine wp_region_quiet_below (by kernel_rfl) (by kernel_rfl) ?_
            repeat (quiet_step (first | with_reducible exact Calls.regrown_of (costAdd _ _ _ _ _ i1 i2 i5 i6) | with_reducible exact Calls.regrown_of (costAdd _ _ _ _ _ i3 i4 i5 i6) | with_reducible exact Calls.regrown_of (cmp_at _ _ _ _ _ e3.out s1 s2 s3 s4 _) | with_reducible exact Calls.regrown_of (cmp_at _ _ _ _ _ e1.out i1 i2 i3 i4 _)))
            refine wpQuiet_nil ?_
            intro _ hw'
            obtain ⟨⟨dq, osq⟩, hw''⟩ := hw'
            replace HB := hbq dq osq
            clear hbq
            subst hw''
            generalize grow (redrawn w4 dq) osq = w5 at HB ⊢
            clear dq osq
            go_wp2
            go_ret
            exact ⟨rfl, bel_trans HW HB⟩
      · have hbq := fun d os => bel_trans HB (below_regrown w1 d os)
        refine wp_region_seq_below ?_
        repeat (quiet_step (first | with_reducible exact Calls.regrown_of (costCheck_ok _ _ _ ha) | with_reducible exact Calls.regrown_of (costCheck_ok _ _ _ hb) | with_reducible exact Calls.regrown_of (costCheck_bad _ _ _ hc)))
        refine wpQuiet_nil ?_
        intro _ hw'
        obtain ⟨⟨dq, osq⟩, hw''⟩ := hw'
        replace HB := hbq dq osq
        clear hbq
        subst hw''
        generalize grow (redrawn w1 dq) osq = w2 at HB ⊢
        clear dq osq
        go_wp2
        go_ret
        exact ⟨rfl, bel_trans HW HB⟩
    · have hbq := fun d os => bel_trans HB (below_regrown w1 d os)
      refine wp_region_seq_below ?_
      repeat (quiet_step (first | with_reducible exact Calls.regrown_of (costCheck_ok _ _ _ ha) | with_reducible exact Calls.regrown_of (costCheck_bad _ _ _ hb)))
      refine wpQuiet_nil ?_
      intro _ hw'
      obtain ⟨⟨dq, osq⟩, hw''⟩ := hw'
      replace HB := hbq dq osq
      clear hbq
      subst hw''
      generalize grow (redrawn w1 dq) osq = w2 at HB ⊢
      clear dq osq
      go_wp2
      go_ret
      exact ⟨rfl, bel_trans HW HB⟩
  · have hbq := fun d os => bel_trans HB (below_regrown w1 d os)
    refine wp_region_seq_below ?_
    repeat (quiet_step (first | with_reducible exact Calls.regrown_of (costCheck_bad _ _ _ ha)))
    refine wpQuiet_nil ?_
    intro _ hw'
    obtain ⟨⟨dq, osq⟩, hw''⟩ := hw'
    replace HB := hbq dq osq
    clear hbq
    subst hw''
    generalize grow (redrawn w1 dq) osq = w2 at HB ⊢
    clear dq osq
    go_wp2
    go_ret
    exact ⟨rfl, bel_trans HW HB⟩
end Go.Proofs.Ytkiogciokngjfaa
