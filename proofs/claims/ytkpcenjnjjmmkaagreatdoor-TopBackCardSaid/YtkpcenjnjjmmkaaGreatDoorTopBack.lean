/- Lemmas of this claim: TopBack. -/
import Derived.Test.YtkpcenjnjjmmkaaGreatDoorNavTop
set_option linter.unusedVariables false
set_option linter.unusedSimpArgs false
/- The law TopBack: for any plot, so many levels at most, and any three cells, it returns true. -/
namespace Go.Proofs.YtkpcenjnjjmmkaaGreatDoor
open Go.RowKit Go.Sort FR Go.Lib
theorem le_cmp {c d : C} (h : C.le c d) : C.cmp c d ≤ 0 := C.cmp_le_zero.2 h
set_option maxRecDepth 100000 in
set_option maxHeartbeats 6400000 in
theorem topBack (W0 : World) (hV : LibS W0) (a b : Int) (A0 : Option Addr) (n0 m0 : Nat) (f0 : Nat → Int) (h0 : SlI W0 A0 n0 f0) (mx : Int) (hmx : -9223372036854775808 ≤ mx ∧ mx ≤ 9223372036854775807)
    (x : Int) (hx : -9223372036854775808 ≤ x ∧ x ≤ 9223372036854775807) (y : Int) (hy : -9223372036854775808 ≤ y ∧ y ≤ 9223372036854775807) (z : Int) (hz : -9223372036854775808 ≤ z ∧ z ≤ 9223372036854775807) :
    Calls Tryz.prog 4 #[.agg #[.int .i64 a, .int .i64 b, .slice A0 n0 m0], .int .i64 mx, .int .i64 x, .int .i64 y, .int .i64 z] W0 fun e w' => e = .returned (.bool true) ∧ Below W0.heap.size W0 w' := by
  obtain ⟨hI0, hl0, _⟩ := h0
  replace hl0 := Lib.hid hl0
  replace hV := Lib.hid hV
  clear hmx hx hy hz
  go_enter Tryz.func4, Tryz.ntmps4
  go_upto_region 1 with (fail)
  refine wp_name ?_
  intro W hW
  have HW : Below W0.heap.size W0 W := by rw [hW]; (repeat' (first | exact Below.refl _ _ | assumption | apply bel_drewN | apply bel_drew | apply bel_alloc | (refine bel_trans ?_ (by assumption))))
  have c0 : W.cell? ⟨W0.heap.size, 0, none⟩ = some (.int .i64 a) := by rw [hW]; go_simp
  have c1 : W.cell? ⟨W0.heap.size, 1, none⟩ = some (.int .i64 b) := by rw [hW]; go_simp
  have c2 : W.cell? ⟨W0.heap.size, 2, none⟩ = some (.slice A0 n0 m0) := by rw [hW]; go_simp
  clear hW
  go_wp2_with fail
  refine (works_true _).mono ?_
  rintro e w1 ⟨rfl, hb1⟩
  have HB1 := bel_trans HW hb1
  replace c0 := bel_cell hb1 c0
  replace c1 := bel_cell hb1 c1
  replace c2 := bel_cell hb1 c2
  have cS := Lib.hid (serve_any w1 (hV.out.below HB1) a b A0 n0 m0 f0 (hI0.below HB1) hl0.out mx)
  clear HW hb1
  go_wp2_with fail
  refine cS.out.mono ?_
  rintro e w2 ⟨hb2, (⟨u1, u2, rfl⟩ | ⟨s, q, g, g2, v, v2, m, rfl, _, _, _, _, hS, rfl⟩)⟩
  · have HB2 := bel_trans HB1 hb2
    go_wp2_with fail
    go_ret
    exact ⟨rfl, HB2⟩
  have HB2 := Lib.hid (bel_trans HB1 hb2)
  have hok : g2.ok := by obtain ⟨_, _, _, _, _, _, _, _, _, _, _, _, _, _, _, h, _⟩ := hS; exact h.1
  replace hok := Lib.hid hok
  have HS := Lib.hid hS
  clear c0 c1 c2 cS hb2 HB1 hS
  have cA := Lib.hid (navAsk w2 s g2 v2 m HS.out x y)
  go_wp2_with fail
  refine cA.out.mono ?_
  rintro e w3 ⟨Wy1, ⟨cs1, cd1⟩, er1, Aw1, mw1, hA1, rfl, hI1, hf1, hbA⟩
  go_upto_region 8 with (fail)
  refine wp_name ?_
  intro W3 hWB
  obtain ⟨b1, hb1⟩ : ∃ z, w3.heap.size = z := ⟨_, rfl⟩
  have hbB : Below w3.heap.size w3 W3 := by rw [hWB]; (repeat' (first | exact Below.refl _ _ | assumption | apply bel_drewN | apply bel_drew | apply bel_alloc | (refine bel_trans ?_ (by assumption))))
  have k10 : W3.cell? ⟨b1, 0, none⟩ = some (.slice Aw1 Wy1.length mw1) := by rw [hWB, ← hb1]; go_simp
  have k11 : W3.cell? ⟨b1, 1, none⟩ = some (.int .i64 cs1) := by rw [hWB, ← hb1]; go_simp
  have k12 : W3.cell? ⟨b1, 2, none⟩ = some (.int .i64 cd1) := by rw [hWB, ← hb1]; go_simp
  have k13 : W3.cell? ⟨b1, 3, none⟩ = some (.int .i64 (er1 : Nat)) := by rw [hWB, ← hb1]; go_simp
  rw [hb1]
  have hAB := bel_trans hbA hbB
  have HB3 := Lib.hid (bel_trans HB2.out hAB)
  replace HS := Lib.hid (HS.out.below hAB)
  replace hA1 := Lib.hid hA1
  replace hI1 := Lib.hid (hI1.below hbB)
  replace hf1 := Lib.hid hf1
  clear hWB hb1 hbA hbB cA
  clear hAB
  have cA := Lib.hid (navAsk W3 s g2 v2 m HS.out y x)
  go_wp2_with fail
  refine cA.out.mono ?_
  rintro e w4 ⟨Wy2, ⟨cs2, cd2⟩, er2, Aw2, mw2, hA2, rfl, hI2, hf2, hbA⟩
  go_upto_region 9 with (fail)
  refine wp_name ?_
  intro W4 hWB
  obtain ⟨b2, hb2⟩ : ∃ z, w4.heap.size = z := ⟨_, rfl⟩
  have hbB : Below w4.heap.size w4 W4 := by rw [hWB]; (repeat' (first | exact Below.refl _ _ | assumption | apply bel_drewN | apply bel_drew | apply bel_alloc | (refine bel_trans ?_ (by assumption))))
  have k20 : W4.cell? ⟨b2, 0, none⟩ = some (.slice Aw2 Wy2.length mw2) := by rw [hWB, ← hb2]; go_simp
  have k21 : W4.cell? ⟨b2, 1, none⟩ = some (.int .i64 cs2) := by rw [hWB, ← hb2]; go_simp
  have k22 : W4.cell? ⟨b2, 2, none⟩ = some (.int .i64 cd2) := by rw [hWB, ← hb2]; go_simp
  have k23 : W4.cell? ⟨b2, 3, none⟩ = some (.int .i64 (er2 : Nat)) := by rw [hWB, ← hb2]; go_simp
  rw [hb2]
  have hAB := bel_trans hbA hbB
  have HB4 := Lib.hid (bel_trans HB3.out hAB)
  replace HS := Lib.hid (HS.out.below hAB)
  replace hA2 := Lib.hid hA2
  replace hI2 := Lib.hid (hI2.below hbB)
  replace hf2 := Lib.hid hf2
  clear hWB hb2 hbA hbB cA
  replace k11 := bel_cell hAB k11
  replace k12 := bel_cell hAB k12
  replace k13 := bel_cell hAB k13
  obtain ⟨heq, hiff⟩ := ask_back hA1.out hA2.out
  cases heq
  clear hAB HB3 HB2
  have hiff := Lib.hid hiff
  obtain ⟨fx, hfx⟩ : ∃ z : Int, ((er1 : Nat) : Int) = z := ⟨_, rfl⟩
  obtain ⟨fy, hfy⟩ : ∃ z : Int, ((er2 : Nat) : Int) = z := ⟨_, rfl⟩
  rw [hfx] at k13
  rw [hfy] at k23
  replace hfx := Lib.hid hfx
  replace hfy := Lib.hid hfy
  obtain ⟨tx, hdx⟩ : ∃ t, (fx == 0) = t := ⟨_, rfl⟩
  have hdy : (fy == 0) = tx := by
    rw [← hdx]
    have h1 := hfx.out
    have h2 := hfy.out
    have h3 := hiff.out
    by_cases k : fx = 0
    · have : fy = 0 := by omega
      rw [k, this]
    · have k2 : ¬ fy = 0 := by omega
      rw [beq_eq_false_iff_ne.2 k, beq_eq_false_iff_ne.2 k2]
  have cA := Lib.hid (navAsk W4 s g2 v2 m HS.out x z)
  go_wp2_with fail
  refine cA.out.mono ?_
  rintro e w5 ⟨Wy3, ⟨cs3, cd3⟩, er3, Aw3, mw3, hA3, rfl, hI3, hf3, hbA⟩
  go_upto_region 12 with (fail)
  refine wp_name ?_
  intro W5 hWB
  obtain ⟨b3, hb3⟩ : ∃ z, w5.heap.size = z := ⟨_, rfl⟩
  have hbB : Below w5.heap.size w5 W5 := by rw [hWB]; (repeat' (first | exact Below.refl _ _ | assumption | apply bel_drewN | apply bel_drew | apply bel_alloc | (refine bel_trans ?_ (by assumption))))
  have k30 : W5.cell? ⟨b3, 0, none⟩ = some (.slice Aw3 Wy3.length mw3) := by rw [hWB, ← hb3]; go_simp
  have k31 : W5.cell? ⟨b3, 1, none⟩ = some (.int .i64 cs3) := by rw [hWB, ← hb3]; go_simp
  have k32 : W5.cell? ⟨b3, 2, none⟩ = some (.int .i64 cd3) := by rw [hWB, ← hb3]; go_simp
  have k33 : W5.cell? ⟨b3, 3, none⟩ = some (.int .i64 (er3 : Nat)) := by rw [hWB, ← hb3]; go_simp
  rw [hb3]
  have hAB := bel_trans hbA hbB
  have HB5 := Lib.hid (bel_trans HB4.out hAB)
  replace HS := Lib.hid (HS.out.below hAB)
  replace hA3 := Lib.hid hA3
  replace hI3 := Lib.hid (hI3.below hbB)
  replace hf3 := Lib.hid hf3
  clear hWB hb3 hbA hbB cA
  replace k11 := bel_cell hAB k11
  replace k12 := bel_cell hAB k12
  replace k13 := bel_cell hAB k13
  clear hAB
  have cA := Lib.hid (navAsk W5 s g2 v2 m HS.out z y)
  go_wp2_with fail
  refine cA.out.mono ?_
  rintro e w6 ⟨Wy4, ⟨cs4, cd4⟩, er4, Aw4, mw4, hA4, rfl, hI4, hf4, hbA⟩
  go_upto_region 13 with (fail)
  refine wp_name ?_
  intro W6 hWB
  obtain ⟨b4, hb4⟩ : ∃ z, w6.heap.size = z := ⟨_, rfl⟩
  have hbB : Below w6.heap.size w6 W6 := by rw [hWB]; (repeat' (first | exact Below.refl _ _ | assumption | apply bel_drewN | apply bel_drew | apply bel_alloc | (refine bel_trans ?_ (by assumption))))
  have k40 : W6.cell? ⟨b4, 0, none⟩ = some (.slice Aw4 Wy4.length mw4) := by rw [hWB, ← hb4]; go_simp
  have k41 : W6.cell? ⟨b4, 1, none⟩ = some (.int .i64 cs4) := by rw [hWB, ← hb4]; go_simp
  have k42 : W6.cell? ⟨b4, 2, none⟩ = some (.int .i64 cd4) := by rw [hWB, ← hb4]; go_simp
  have k43 : W6.cell? ⟨b4, 3, none⟩ = some (.int .i64 (er4 : Nat)) := by rw [hWB, ← hb4]; go_simp
  rw [hb4]
  have hAB := bel_trans hbA hbB
  have HB6 := Lib.hid (bel_trans HB5.out hAB)
  replace HS := Lib.hid (HS.out.below hAB)
  replace hA4 := Lib.hid hA4
  replace hI4 := Lib.hid (hI4.below hbB)
  replace hf4 := Lib.hid hf4
  clear hWB hb4 hbA hbB cA
  replace k11 := bel_cell hAB k11
  replace k12 := bel_cell hAB k12
  replace k13 := bel_cell hAB k13
  replace k31 := bel_cell hAB k31
  replace k32 := bel_cell hAB k32
  replace k33 := bel_cell hAB k33
  clear hAB hdx hdy
  by_cases h3 : er3 = 0
  case neg =>
    obtain ⟨fu, hfu⟩ : ∃ z : Int, ((er3 : Nat) : Int) = z := ⟨_, rfl⟩
    rw [hfu] at k33
    have hu : (fu == 0) = false := by simp; omega
    have hu2 : (fu != 0) = true := by simp; omega
    have hu3 : ¬ fu = 0 := by omega
    clear hfu h3
    go_wp2_with fail
    go_ret
    exact ⟨rfl, HB6.out⟩
  by_cases h4 : er4 = 0
  case neg =>
    subst h3
    obtain ⟨fu, hfu⟩ : ∃ z : Int, ((er4 : Nat) : Int) = z := ⟨_, rfl⟩
    rw [hfu] at k43
    have hu : (fu == 0) = false := by simp; omega
    have hu2 : (fu != 0) = true := by simp; omega
    have hu3 : ¬ fu = 0 := by omega
    clear hfu h4
    go_wp2_with fail
    go_ret
    exact ⟨rfl, HB6.out⟩
  subst h3
  subst h4
  obtain ⟨h1, hle⟩ := ask_via hA1.out hA3.out hA4.out
  obtain ⟨_, _, p1, p2, p3, p4⟩ := hA1.out.len hok.out h1
  obtain ⟨_, _, q1, q2, q3, q4⟩ := hA3.out.len hok.out rfl
  obtain ⟨_, _, r1, r2, r3, r4⟩ := hA4.out.len hok.out rfl
  simp only at p1 p2 p3 p4 q1 q2 q3 q4 r1 r2 r3 r4
  obtain rfl : fx = 0 := by have := hfx.out; omega
  have cAd := Lib.hid (fun w => costAdd cs3 cd3 cs4 cd4 w (by unfold inC; omega) (by unfold inC; omega) (by unfold inC; omega) (by unfold inC; omega))
  have cCm := fun w => costCompare cs1 cd1 (cs3 + cs4) (cd3 + cd4) w (by unfold inC; omega) (by unfold inC; omega) (by unfold inC; omega) (by unfold inC; omega)
  obtain ⟨cm, hcm⟩ : ∃ z, C.cmp ⟨cs1, cd1⟩ ⟨cs3 + cs4, cd3 + cd4⟩ = z := ⟨_, rfl⟩
  rw [hcm] at cCm
  replace cCm := Lib.hid cCm
  have hcm0 : cm ≤ 0 := by rw [← hcm]; exact le_cmp hle
  have hcmd : decide (cm ≤ 0) = true := by simp; exact hcm0
  clear hcm hle p1 p2 p3 p4 q1 q2 q3 q4 r1 r2 r3 r4
  go_upto_region 15 with (fail)
  have g11 := cell_regrown k11
  have g12 := cell_regrown k12
  have g13 := cell_regrown k13
  have g31 := cell_regrown k31
  have g32 := cell_regrown k32
  have g41 := cell_regrown k41
  have g42 := cell_regrown k42
  have HR := Below.refl W6.heap.size W6
  refine wp_region_quiet_below (by kernel_rfl) (by kernel_rfl) ?_
  repeat (first | go_big_quiet_step ((first | with_reducible exact Calls.regrown_of (cAd.out _) | with_reducible exact Calls.regrown_of (cCm.out _))) | quiet_step ((first | with_reducible exact Calls.regrown_of (cAd.out _) | with_reducible exact Calls.regrown_of (cCm.out _))))
  refine wpQuiet_nil ?_
  intro _ hw'
  obtain ⟨⟨dq, osq⟩, hw''⟩ := hw'
  have HR7 := bel_trans HR (below_regrown W6 dq osq)
  have hb2 := below_regrown W6 dq osq
  subst hw''
  generalize grow (redrawn W6 dq) osq = W7 at HR7 hb2 ⊢
  go_wp2_with fail
  go_ret
  exact ⟨rfl, bel_trans HB6.out HR7⟩
end Go.Proofs.YtkpcenjnjjmmkaaGreatDoor
