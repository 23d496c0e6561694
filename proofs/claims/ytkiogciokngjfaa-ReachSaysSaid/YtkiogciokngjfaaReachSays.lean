/- The law ReachSays: for any plot and any two cells it returns true. -/
import Derived.Test.YtkiogciokngjfaaRRay7
import Derived.Test.YtkiogciokngjfaaTopNear
set_option linter.unusedVariables false
set_option linter.unusedSimpArgs false
namespace Go.Proofs.Ytkiogciokngjfaa
open Go.RowKit Go.Sort FR
def r32 : G := ⟨(3 : Int).toNat, (2 : Int).toNat, fun _ => false⟩
theorem r32_45 : Walk r32.E 4 5 ⟨1, 0⟩ := Walk.single ⟨by decide +kernel, 2, by decide, by decide +kernel, by decide +kernel, rfl⟩
theorem r32_04 : Walk r32.E 0 4 ⟨0, 1⟩ := Walk.single ⟨by decide +kernel, 3, by decide, by decide +kernel, by decide +kernel, rfl⟩
theorem r32_near : r32.Near 0 5 := by
  unfold G.Near
  rw [show r32.oct 0 5 = C.add ⟨0, 1⟩ ⟨1, 0⟩ from C.ext' (by decide +kernel) (by decide +kernel)]
  exact Walk.trans r32_04 r32_45
theorem r32_way {P : Nat → Nat × Nat} (h : r32.WayP 0 5 P) : wayL r32 0 5 P (r32.fI 0 5 + r32.fJ 0 5 + 1) = [0, 4, 5] := by
  have h0 := h.1
  have h1 := h.2 0
  rw [h0] at h1
  have d : r32.dOk 0 5 0 0 := ⟨by decide +kernel, by decide +kernel⟩
  have bk : r32.BkA 0 5 1 0 := by
    refine ⟨by decide +kernel, by decide +kernel, ?_⟩
    unfold G.Back
    rw [show r32.fcell 0 5 1 0 = 4 by decide +kernel]
    have e : (⟨(r32.fJ 0 5 : Int) - (0 : Nat), (r32.fI 0 5 : Int) - (1 : Nat)⟩ : C) = ⟨1, 0⟩ := C.ext' (by decide +kernel) (by decide +kernel)
    rw [e]
    exact r32_45
  rcases h1 with ⟨_, _, e1⟩ | ⟨hn, _⟩
  · have h2 := h.2 1
    have e1 : P 1 = (1, 0) := e1
    rw [e1] at h2
    rcases h2 with ⟨d2, _, _⟩ | ⟨_, e2⟩
    · exact absurd d2.1 (by decide +kernel)
    · have e2 : P 2 = (1, 1) := e2
      rw [show r32.fI 0 5 + r32.fJ 0 5 + 1 = 3 by decide +kernel]
      simp only [wayL, show List.range 3 = [0, 1, 2] from rfl, List.map, h0, e1, e2]
      decide +kernel
  · exact absurd ⟨d, bk⟩ hn
theorem lit3 (w : World) (a b c : Int) : Ints (w.alloc (.cells #[.int .i64 a, .int .i64 b, .int .i64 c] 3)) (some ⟨w.heap.size, 0, none⟩) 3 (fun k => [a, b, c].getD k 0) := by
  intro _
  refine ⟨_, rfl, by simp, fun k hk => ?_⟩
  rcases (show k = 0 ∨ k = 1 ∨ k = 2 by omega) with rfl | rfl | rfl <;> go_simp <;> rfl
theorem nears_true (w : World) : Calls Try.prog 63 #[] w fun e w' => e = .returned (.bool true) ∧ Below w.heap.size w w' := by
  go_enter Try.func63, Try.ntmps63
  go_wp2_with fail
  (with_reducible refine (gridNew_ex 3 2 _ (by decide)).mono ?_)
  rintro e w1 ⟨p, rfl, hp, hG, hb1⟩
  have hG : GridAt w1 p r32 0 := hG
  go_wp2_with fail
  (refine (reachNear_ok _ p r32 0 0 5 true hG (by decide +kernel) (by decide +kernel) rfl rfl (by simp [r32_near])).mono ?_)
  rintro e w2 ⟨rfl, hb2⟩
  have hG2 := hG.below hb2 hG.lt
  have HB2 := bel_trans hb1 hb2
  go_wp2_with fail
  (refine (reachWay_ok _ p r32 0 0 5 hG2 (by decide +kernel) (by decide +kernel) rfl rfl r32_near).mono ?_)
  rintro e w3 ⟨P, hP, A, m, rfl, hI, _, hb3⟩
  rw [r32_way hP] at hI ⊢
  have hI : Ints w3 A 3 (fun k => [(0 : Int), 4, 5].getD k 0) := hI
  have HB3 := bel_trans HB2 hb3
  simp only [List.length_cons, List.length_nil, Nat.zero_add, Nat.reduceAdd]
  go_wp2_with fail
  (with_reducible refine (same_ok _).mono ?_)
  rintro e w' ⟨rfl, rfl⟩
  go_wp2_with fail
  (with_reducible refine (same_ok _).mono ?_)
  rintro e w' ⟨rfl, rfl⟩
  go_wp2_with fail
  refine (sameNumbers _ A _ 3 m 3 _ (hI.below (Below.alloc (Below.refl _ _) (Nat.le_refl _) _)) (lit3 w3 0 4 5) (by decide)).mono ?_
  rintro e w5 ⟨rfl, hb5⟩
  have HB5 := bel_trans (bel_alloc HB3) hb5
  go_wp2
  go_ret
  exact ⟨rfl, HB5⟩
set_option maxRecDepth 100000 in
set_option maxHeartbeats 3200000 in
theorem reachSays (W0 : World) (a b : Int) (A : Option Addr) (n m : Nat) (f : Nat → Int) (h : SlI W0 A n f) (x : Int) (hx : -9223372036854775808 ≤ x ∧ x ≤ 9223372036854775807) (y : Int) (hy : -9223372036854775808 ≤ y ∧ y ≤ 9223372036854775807) :
    Calls Try.prog 8 #[.agg #[.int .i64 a, .int .i64 b, .slice A n m], .int .i64 x, .int .i64 y] W0 fun e w' => e = .returned (.bool true) ∧ Below W0.heap.size W0 w' := by
  obtain ⟨hI, hl, _⟩ := h
  have hl := Lib.hid hl
  clear hx hy
  go_enter Try.func8, Try.ntmps8
  go_upto_region 1 with (fail)
  refine wp_name ?_
  intro W hW
  have HW : Below W0.heap.size W0 W := by rw [hW]; (repeat' (first | exact Below.refl _ _ | assumption | apply bel_drewN | apply bel_drew | apply bel_alloc | (refine bel_trans ?_ (by assumption))))
  have k0 : ∀ w', Below W.heap.size W w' → w'.cell? ⟨W0.heap.size, 0, none⟩ = some (.int .i64 a : Value) := fun w' hbw => (hbw.cell (p := ⟨W0.heap.size, 0, none⟩) (by rw [hW]; simp <;> omega)).trans (by rw [hW]; go_simp)
  have k1 : ∀ w', Below W.heap.size W w' → w'.cell? ⟨W0.heap.size, 1, none⟩ = some (.int .i64 b : Value) := fun w' hbw => (hbw.cell (p := ⟨W0.heap.size, 1, none⟩) (by rw [hW]; simp <;> omega)).trans (by rw [hW]; go_simp)
  have k2 : ∀ w', Below W.heap.size W w' → w'.cell? ⟨W0.heap.size, 2, none⟩ = some (.slice A n m : Value) := fun w' hbw => (hbw.cell (p := ⟨W0.heap.size, 2, none⟩) (by rw [hW]; simp <;> omega)).trans (by rw [hW]; go_simp)
  clear hW
  go_wp2_with fail
  refine (nears_true _).mono ?_
  rintro e w1 ⟨rfl, HB⟩
  go_wp2_with fail
  refine (laid_any a b A n m f _ ((hI.below HW).below HB) hl.out).mono ?_
  rintro e w2 (⟨rfl, hb2⟩ | ⟨p, q, g, v, rfl, hp, hpq, hG, hR, hv0, hv1, hb2⟩)
  · have HB2 := bel_trans (bel_trans HW HB) hb2
    go_wp2
    go_ret
    exact ⟨rfl, HB2⟩
  · have HB2 := bel_trans (bel_trans HW HB) hb2
    clear k0 k1 k2 hb2 HB HW
    obtain ⟨fx, hfx⟩ : ∃ z, g.fault x = z := ⟨_, rfl⟩
    obtain ⟨fy, hfy⟩ : ∃ z, g.fault y = z := ⟨_, rfl⟩
    by_cases hf : flt2 g x y = 0
    · obtain ⟨e1, e2⟩ := flt2_zero hf
      obtain ⟨ca, rfl, hca, ha⟩ := G.fault_zero e1
      obtain ⟨cb, rfl, hcb, hb⟩ := G.fault_zero e2
      obtain ⟨u, hu⟩ := boolP (g.Direct ca cb)
      obtain ⟨t, ht⟩ := boolP (g.Near ca cb)
      have hG0 := hG
      have huu : (u != u) = false := by simp
      have cF1 := Lib.hid (fun w' (h' : RGridAt w' q g v) => rFault w' q g v (ca : Nat) h')
      have cF2 := Lib.hid (fun w' (h' : RGridAt w' q g v) => rFault w' q g v (cb : Nat) h')
      rw [e1] at cF1
      rw [e2] at cF2
      have Hu := Lib.hid hu
      have Ht := Lib.hid ht
      clear hf hfx hfy hu ht e1 e2
      go_wp2_with fail
      (with_reducible refine (reachNear_ok _ p g v ca cb t hG hca hcb ha hb Ht.out).mono ?_)
      rintro e w3 ⟨rfl, hb3⟩
      have hG3 := hG.below hb3 hG.lt
      have hR3 := hR.below hb3 hR.lt
      have HB3 := bel_trans HB2 hb3
      go_wp2_with fail
      (with_reducible refine (reachDirect_ok _ p g v ca cb u hG3 hca hcb ha hb Hu.out).mono ?_)
      rintro e w4 ⟨rfl, hb4⟩
      have hG4 := hG3.below hb4 hG3.lt
      have hR4 := hR3.below hb4 hR3.lt
      have HB4 := bel_trans HB3 hb4
      clear hG hR hG3 hR3 HB2 HB3 hb3 hb4 hG0
      cases t with
      | false =>
        have hn : ¬ g.Near ca cb := fun h => by have := Ht.out.2 h; cases this
        go_wp2_with fail
        (with_reducible refine (reachWay_none _ p g v ca cb hG4 hca hcb ha hb hn).mono ?_)
        rintro e w5 ⟨rfl, hb5⟩
        have hR5 := hR4.below hb5 hR4.lt
        have HB5 := bel_trans HB4 hb5
        go_wp2_with fail
        (with_reducible refine (cF1.out _ hR5).mono ?_)
        rintro e w6 ⟨rfl, hb6⟩
        have hR6 := hR5.below hb6 hR5.lt
        have HB6 := bel_trans HB5 hb6
        go_wp2_with fail
        (with_reducible refine (cF2.out _ hR6).mono ?_)
        rintro e w7 ⟨rfl, hb7⟩
        have hR7 := hR6.below hb7 hR6.lt
        have HB7 := bel_trans HB6 hb7
        clear hG4 hR4 hb5 hb6 hb7 hR5 hR6 HB4 HB5 HB6 hn
        go_wp2_with fail
        (with_reducible refine (rNear _ q g v ca cb false hR7 hca hcb Ht.out).mono ?_)
        rintro e w8 ⟨rfl, hb8⟩
        have hR8 := hR7.below hb8 hR7.lt
        have HB8 := bel_trans HB7 hb8
        go_wp2_with fail
        (with_reducible refine (rDirect _ q g v ca cb u hR8 hca hcb Hu.out).mono ?_)
        rintro e w9 ⟨rfl, hb9⟩
        have HB9 := bel_trans HB8 hb9
        go_wp2_with fail
        (with_reducible refine (same_bad 5 _ (by decide)).mono ?_)
        rintro e w' ⟨rfl, rfl⟩
        go_wp2
        go_ret
        exact ⟨rfl, HB9⟩
      | true =>
        have hn : g.Near ca cb := Ht.out.1 rfl
        go_wp2_with fail
        (with_reducible refine (reachWay_ok _ p g v ca cb hG4 hca hcb ha hb hn).mono ?_)
        rintro e w5 ⟨P, hP, A1, m1, rfl, hI1, _, hb5⟩
        have hR5 := hR4.below hb5 hR4.lt
        have HB5 := bel_trans HB4 hb5
        obtain ⟨q1, q2⟩ := G.fI_le hG4.1 hcb hca
        have hlen := wayL_length g ca cb P (g.fI ca cb + g.fJ ca cb + 1)
        rw [hlen] at hI1 ⊢
        obtain ⟨nn, hnn⟩ : ∃ nn, g.fI ca cb + g.fJ ca cb + 1 = nn := ⟨_, rfl⟩
        rw [hnn] at hI1 hlen ⊢
        have hnn2 : nn < 1099511627776 := by omega
        have Hnn := Lib.hid hnn
        have Hlen := Lib.hid hlen
        have HP := Lib.hid hP
        clear hnn hlen hP
        go_wp2_with fail
        (with_reducible refine (cF1.out _ hR5).mono ?_)
        rintro e w6 ⟨rfl, hb6⟩
        have hR6 := hR5.below hb6 hR5.lt
        have HB6 := bel_trans HB5 hb6
        have hI6 := hI1.below hb6
        go_wp2_with fail
        (with_reducible refine (cF2.out _ hR6).mono ?_)
        rintro e w7 ⟨rfl, hb7⟩
        have hR7 := hR6.below hb7 hR6.lt
        have HB7 := bel_trans HB6 hb7
        have hI7 := hI6.below hb7
        clear hG4 hR4 hb5 hb6 hb7 hR5 hR6 HB4 HB5 HB6 hI1 hI6
        go_wp2_with fail
        (with_reducible refine (rNear _ q g v ca cb true hR7 hca hcb ⟨fun _ => hn, fun _ => rfl⟩).mono ?_)
        rintro e w8 ⟨rfl, hb8⟩
        have hR8 := hR7.below hb8 hR7.lt
        have HB8 := bel_trans HB7 hb8
        have hI8 := hI7.below hb8
        go_wp2_with fail
        (with_reducible refine (rDirect _ q g v ca cb u hR8 hca hcb Hu.out).mono ?_)
        rintro e w9 ⟨rfl, hb9⟩
        have HB9 := bel_trans HB8 hb9
        have hI9 := hI8.below hb9
        have hR9 := hR8.below hb9 hR8.lt
        clear hR7 hI7 hR8 hI8 HB7 HB8 hb8 hb9
        go_wp2_with fail
        (with_reducible refine (rWay _ q g v ca cb P hR9 hca hcb hn HP.out).mono ?_)
        rintro e w10 ⟨A2, m2, rfl, hI2, hb10⟩
        rw [Hnn.out, Hlen.out] at hI2 ⊢
        have HB10 := bel_trans HB9 hb10
        go_wp2_with fail
        (with_reducible refine (sameNumbers _ A1 A2 nn m1 m2 _ (hI9.below hb10) hI2 hnn2).mono ?_)
        rintro e w11 ⟨rfl, hb11⟩
        go_wp2
        go_ret
        exact ⟨rfl, bel_trans HB10 hb11⟩
    · obtain ⟨f2, hf2⟩ : ∃ z, flt2 g x y = z := ⟨_, rfl⟩
      rw [hf2] at hf
      have cF1 := Lib.hid (fun w' (h' : RGridAt w' q g v) => rFault w' q g v x h')
      have cF2 := Lib.hid (fun w' (h' : RGridAt w' q g v) => rFault w' q g v y h')
      rw [hfx] at cF1
      rw [hfy] at cF2
      have hcs : (fx ≠ 0 ∧ f2 = fx) ∨ (fx = 0 ∧ f2 = fy) := by
        rw [← hf2, ← hfx, ← hfy]
        unfold flt2
        by_cases e : g.fault x = 0
        · exact .inr ⟨e, if_neg (fun h => h e)⟩
        · exact .inl ⟨e, if_pos e⟩
      have hpos : 0 < (f2 : Int) := by omega
      have hpos2 : decide ((0 : Int) < (f2 : Int)) = true := by simp; omega
      clear hfx hfy
      go_wp2_with fail
      (with_reducible refine (reachNear_bad _ p g v x y f2 hG hf2 hf).mono ?_)
      rintro e w3 ⟨rfl, hb3⟩
      have hG3 := hG.below hb3 hG.lt
      have hR3 := hR.below hb3 hR.lt
      have HB3 := bel_trans HB2 hb3
      go_wp2_with fail
      (with_reducible refine (reachDirect_bad _ p g v x y f2 hG3 hf2 hf).mono ?_)
      rintro e w4 ⟨rfl, hb4⟩
      have hG4 := hG3.below hb4 hG3.lt
      have hR4 := hR3.below hb4 hR3.lt
      have HB4 := bel_trans HB3 hb4
      go_wp2_with fail
      (with_reducible refine (reachWay_bad _ p g v x y f2 hG4 hf2 hf).mono ?_)
      rintro e w5 ⟨rfl, hb5⟩
      have hR5 := hR4.below hb5 hR4.lt
      have HB5 := bel_trans HB4 hb5
      clear hG hG3 hG4 hR hR3 hR4 hb3 hb4 hb5 HB2 HB3 HB4 hf2
      go_wp2_with fail
      (with_reducible refine (cF1.out _ hR5).mono ?_)
      rintro e w6 ⟨rfl, hb6⟩
      have hR6 := hR5.below hb6 hR5.lt
      have HB6 := bel_trans HB5 hb6
      rcases hcs with ⟨h1, rfl⟩ | ⟨rfl, rfl⟩
      · have hz : ((f2 : Int) == 0) = false := by rw [beq_eq_false_iff_ne]; omega
        go_wp2_with fail
        (with_reducible refine (same_bad (f2 : Nat) _ hpos).mono ?_)
        rintro e w' ⟨rfl, rfl⟩
        go_wp2_with fail
        (with_reducible refine (same_bad (f2 : Nat) _ hpos).mono ?_)
        rintro e w' ⟨rfl, rfl⟩
        go_wp2_with fail
        (with_reducible refine (same_bad (f2 : Nat) _ hpos).mono ?_)
        rintro e w' ⟨rfl, rfl⟩
        go_wp2
        go_ret
        exact ⟨rfl, HB6⟩
      · go_wp2_with fail
        (with_reducible refine (cF2.out _ hR6).mono ?_)
        rintro e w7 ⟨rfl, hb7⟩
        have HB7 := bel_trans HB6 hb7
        go_wp2_with fail
        (with_reducible refine (same_bad (f2 : Nat) _ hpos).mono ?_)
        rintro e w' ⟨rfl, rfl⟩
        go_wp2_with fail
        (with_reducible refine (same_bad (f2 : Nat) _ hpos).mono ?_)
        rintro e w' ⟨rfl, rfl⟩
        go_wp2_with fail
        (with_reducible refine (same_bad (f2 : Nat) _ hpos).mono ?_)
        rintro e w' ⟨rfl, rfl⟩
        go_wp2
        go_ret
        exact ⟨rfl, HB7⟩
end Go.Proofs.Ytkiogciokngjfaa
