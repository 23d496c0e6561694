/- The law TopNear: for any plot and any two cells, it returns true. -/
import Derived.Test.YtkiogciokngjfaaFloodSays
import Derived.Test.YtkiogciokngjfaaReach7
import Derived.Test.YtkiogciokngjfaaGE
import Derived.Deep.DeepCutAuto
set_option linter.unusedVariables false
set_option linter.unusedSimpArgs false
namespace Go.Proofs.Ytkiogciokngjfaa
open Go.RowKit Go.Sort FR
theorem wayL_get (g : G) (ca cb : Nat) (P : Nat → Nat × Nat) (n k : Nat) (h : k < n) : (wayL g ca cb P n).getD k 0 = ((g.fcell ca cb (P k).1 (P k).2 : Nat) : Int) := by
  simp [wayL, List.getD_eq_getElem?_getD, h]
/-- the way costs what octile says -/
theorem way_wout {g : G} (hg : g.ok) {a b : Nat} (hb : b < g.n) (ha : a < g.n) (hn : g.Near a b) (hfa : g.b a = false) {P : Nat → Nat × Nat} (hP : g.WayP a b P) :
    g.wout (fun k => (wayL g a b P (g.fI a b + g.fJ a b + 1)).getD k 0) (g.fI a b + g.fJ a b + 1) = (g.oct a b, 0) := by
  have hw := G.wayP_ok hg hb ha hn hP
  have key := G.wres_way (g := g) (f := fun k => (wayL g a b P (g.fI a b + g.fJ a b + 1)).getD k 0) (x := fun k => g.fcell a b (P k).1 (P k).2) (c := fun k => (⟨((P k).2 : Nat), ((P k).1 : Nat)⟩ : C)) (n := g.fI a b + g.fJ a b + 1)
    (by simp only [hP.1]; rfl) (fun i hi => wayL_get g a b P _ i hi) (by simp only [hP.1]; rw [G.fcell_zero]; exact ⟨ha, hfa⟩) hg
    (fun i hi => by
      obtain ⟨h1, h2, h3, h4, h5⟩ := hw i (by omega)
      have hx := hP.2 i
      generalize P (i + 1) = p' at *
      generalize P i = p at *
      obtain ⟨i0, j0⟩ := p
      simp only at h1 h2 h3 h4 h5
      rcases G.nxt_ok hg hb ha hx h1 h2 h4 h5 (by omega) with ⟨e, x1, _⟩ | ⟨e, x1, _⟩
      · rw [e]
        exact ⟨⟨0, 1⟩, G.edge_i hg hb ha x1.1 h2 x1.2, by simp [C.add]⟩
      · rw [e]
        exact ⟨⟨1, 0⟩, G.edge_j hg hb ha h1 x1.1 x1.2, by simp [C.add]⟩)
    (g.fI a b + g.fJ a b) (by omega)
  obtain ⟨h1, h2, h3, _⟩ := hw (g.fI a b + g.fJ a b) (Nat.le_refl _)
  have e1 : (P (g.fI a b + g.fJ a b)).1 = g.fI a b := by omega
  have e2 : (P (g.fI a b + g.fJ a b)).2 = g.fJ a b := by omega
  simp only [e1, e2] at key
  rw [← G.oct_fIJ] at key
  exact G.wout_ok key (by omega)
/-- whatever lies on the way is near both -/
theorem near_mid {g : G} (hg : g.ok) {a b : Nat} (hb : b < g.n) (ha : a < g.n) {i j : Nat} (ho : g.On a b i j) (hk : g.Back a b i j) : g.Near a (g.fcell a b i j) ∧ g.Near (g.fcell a b i j) b := by
  have t := G.oct_tri g a (g.fcell a b i j) b
  have l1 := G.oct_le ho
  have l2 := G.oct_le hk
  have e : C.add ⟨(j : Int), (i : Int)⟩ ⟨(g.fJ a b : Int) - j, (g.fI a b : Int) - i⟩ = g.oct a b := by
    rw [G.oct_fIJ]; simp [C.add]; omega
  have t2 := C.add_le_add l1 l2
  rw [e] at t2
  have h3 := C.le_antisymm t t2
  have e1 : g.oct a (g.fcell a b i j) = ⟨(j : Int), (i : Int)⟩ := by
    refine C.le_antisymm l1 ?_
    have : C.le (C.add ⟨(j : Int), (i : Int)⟩ (g.oct (g.fcell a b i j) b)) (C.add (g.oct a (g.fcell a b i j)) (g.oct (g.fcell a b i j) b)) := by
      rw [← h3, ← e]; exact (C.add_le_left _).2 l2
    exact (C.add_le_right _).1 this
  have e2 : g.oct (g.fcell a b i j) b = ⟨(g.fJ a b : Int) - j, (g.fI a b : Int) - i⟩ := by
    refine C.le_antisymm l2 ?_
    have : C.le (C.add (g.oct a (g.fcell a b i j)) ⟨(g.fJ a b : Int) - j, (g.fI a b : Int) - i⟩) (C.add (g.oct a (g.fcell a b i j)) (g.oct (g.fcell a b i j) b)) := by
      rw [← h3, ← e, e1]; exact C.le_refl _
    exact (C.add_le_left _).1 this
  constructor
  · unfold G.Near; rw [e1]; exact ho
  · unfold G.Near; rw [e2]; exact hk
theorem bool_iff (P : Prop) : ∃ t : Bool, t = true ↔ P := by
  by_cases h : P
  · exact ⟨true, by simp [h]⟩
  · exact ⟨false, by simp [h]⟩
theorem near21 : G.Near ⟨2, 1, fun _ => false⟩ 0 1 := by
  have e01 : G.E ⟨2, 1, fun _ => false⟩ 0 1 ⟨1, 0⟩ := ⟨by decide, 2, by decide, by decide +kernel, by decide +kernel, by decide⟩
  have e : G.oct ⟨2, 1, fun _ => false⟩ 0 1 = ⟨1, 0⟩ := by decide +kernel
  unfold G.Near
  rw [e]
  exact Walk.single e01
set_option maxRecDepth 100000 in
set_option maxHeartbeats 6400000 in
theorem topNear (W0 : World) (a b : Int) (A0 : Option Addr) (n0 m0 : Nat) (f0 : Nat → Int) (h0 : SlI W0 A0 n0 f0) (x : Int) (hx : -9223372036854775808 ≤ x ∧ x ≤ 9223372036854775807) (y : Int) (hy : -9223372036854775808 ≤ y ∧ y ≤ 9223372036854775807) :
    Calls Try.prog 17 #[.agg #[.int .i64 a, .int .i64 b, .slice A0 n0 m0], .int .i64 x, .int .i64 y] W0 fun e w' => e = .returned (.bool true) ∧ Below W0.heap.size W0 w' := by
  obtain ⟨hI0, hl0, _⟩ := h0
  have hl0 := Lib.hid hl0
  go_enter Try.func17, Try.ntmps17
  go_upto_region 1 with (fail)
  refine wp_name ?_
  intro W hW
  have HW : Below W0.heap.size W0 W := by rw [hW]; (repeat' (first | exact Below.refl _ _ | assumption | apply bel_drewN | apply bel_drew | apply bel_alloc | (refine bel_trans ?_ (by assumption))))
  have k0 : ∀ w', Below W.heap.size W w' → w'.cell? ⟨W0.heap.size, 0, none⟩ = some (.int .i64 a : Value) := fun w' hbw => (hbw.cell (p := ⟨W0.heap.size, 0, none⟩) (by rw [hW]; simp <;> omega)).trans (by rw [hW]; go_simp)
  have k1 : ∀ w', Below W.heap.size W w' → w'.cell? ⟨W0.heap.size, 1, none⟩ = some (.int .i64 b : Value) := fun w' hbw => (hbw.cell (p := ⟨W0.heap.size, 1, none⟩) (by rw [hW]; simp <;> omega)).trans (by rw [hW]; go_simp)
  have k2 : ∀ w', Below W.heap.size W w' → w'.cell? ⟨W0.heap.size, 2, none⟩ = some (.slice A0 n0 m0 : Value) := fun w' hbw => (hbw.cell (p := ⟨W0.heap.size, 2, none⟩) (by rw [hW]; simp <;> omega)).trans (by rw [hW]; go_simp)
  clear hW
  go_wp2_with fail
  (with_reducible refine (gridNew_ex 2 1 _ (by decide)).mono ?_)
  rintro e w1 ⟨p0, rfl, hp0, hG, hb1⟩
  have hG : GridAt w1 p0 ⟨2, 1, fun _ => false⟩ 0 := hG
  go_wp2_with fail
  refine (reachNear_ok _ p0 _ _ 0 1 true hG (by decide) (by decide) rfl rfl (by simp [near21])).mono ?_
  rintro e w3 ⟨rfl, hb3⟩
  have HB3 := bel_trans hb1 hb3
  clear hG hb1 hb3
  go_wp2_with fail
  (with_reducible refine (laid_any a b A0 n0 m0 f0 _ ((hI0.below HW).below HB3) hl0.out).mono ?_)
  rintro e w4 (⟨rfl, hb4⟩ | ⟨p, q, g, v, rfl, hp1, hpq, hG, hR, hv0, hv1, hb4⟩)
  · have HB4 := bel_trans (bel_trans HW HB3) hb4
    go_wp2
    go_ret
    exact ⟨rfl, HB4⟩
  have HB4 := bel_trans (bel_trans HW HB3) hb4
  clear k0 k1 k2 hb4 HB3 HW
  have cFx := Lib.hid (fun w' h' => rFault w' q g v x h')
  have cFy := Lib.hid (fun w' h' => rFault w' q g v y h')
  by_cases hfx : g.fault x = 0
  case neg =>
    have hpos : (0 : Int) < (g.fault x : Nat) := by omega
    clear hfx
    go_wp2_with fail
    (with_reducible refine (cFx.out _ hR).mono ?_)
    rintro e w5 ⟨rfl, hb5⟩
    go_wp2
    go_ret
    exact ⟨rfl, bel_trans HB4 hb5⟩
  rw [hfx] at cFx
  obtain ⟨ca, rfl, hca, hba⟩ := G.fault_zero hfx
  clear hfx
  go_wp2_with fail
  (with_reducible refine (cFx.out _ hR).mono ?_)
  rintro e w5 ⟨rfl, hb5⟩
  have HB5 := bel_trans HB4 hb5
  by_cases hfy : g.fault y = 0
  case neg =>
    have hpos : (0 : Int) < (g.fault y : Nat) := by omega
    clear hfy
    go_wp2_with fail
    (with_reducible refine (cFy.out _ (hR.below hb5 hR.lt)).mono ?_)
    rintro e w6 ⟨rfl, hb6⟩
    go_wp2
    go_ret
    exact ⟨rfl, bel_trans HB5 hb6⟩
  rw [hfy] at cFy
  obtain ⟨cb, rfl, hcb, hbb⟩ := G.fault_zero hfy
  clear hfy
  go_wp2_with fail
  (with_reducible refine (cFy.out _ (hR.below hb5 hR.lt)).mono ?_)
  rintro e w6 ⟨rfl, hb6⟩
  have HB6 := bel_trans HB5 hb6
  have hR6 := hR.below (bel_trans hb5 hb6) hR.lt
  have hG6 := hG.below (bel_trans hb5 hb6) hG.lt
  have hok := hG.1
  have hNn := G.n_le hok
  clear hG hR hb5 hb6 HB4 HB5 cFx cFy
  obtain ⟨t, ht⟩ := bool_iff (g.Near ca cb)
  obtain ⟨d, hd⟩ := bool_iff (g.Direct ca cb)
  have cN1 := Lib.hid (fun w' h' => reachNear_ok w' p g v ca cb t h' hca hcb hba hbb ht)
  have cN2 := Lib.hid (fun w' h' => reachNear_ok w' p g v cb ca t h' hcb hca hbb hba (ht.trans G.near_symm))
  have cD1 := Lib.hid (fun w' h' => reachDirect_ok w' p g v ca cb d h' hca hcb hba hbb hd)
  have cD2 := Lib.hid (fun w' h' => reachDirect_ok w' p g v cb ca d h' hcb hca hbb hba (hd.trans G.direct_symm))
  have Ht := Lib.hid ht
  have Hdt : d = true → t = true := fun h => ht.2 (hd.1 h).1
  have Hdt := Lib.hid Hdt
  clear ht hd
  go_wp2_with fail
  (with_reducible refine (cN1.out _ hG6).mono ?_)
  rintro e w7 ⟨rfl, hb7⟩
  have hG7 := hG6.below hb7 hG6.lt
  go_wp2_with fail
  (with_reducible refine (cN2.out _ hG7).mono ?_)
  rintro e w8 ⟨rfl, hb8⟩
  have hG8 := hG7.below hb8 hG7.lt
  have hb8 := bel_trans hb7 hb8
  go_wp2_with fail
  (with_reducible refine (cD1.out _ hG8).mono ?_)
  rintro e w9 ⟨rfl, hb9⟩
  have hG9 := hG8.below hb9 hG8.lt
  have hb9 := bel_trans hb8 hb9
  go_wp2_with fail
  (with_reducible refine (cD2.out _ hG9).mono ?_)
  rintro e w10 ⟨rfl, hb10⟩
  have hb10 := bel_trans hb9 hb10
  have hG10 := hG6.below hb10 hG6.lt
  have hR10 := hR6.below hb10 hR6.lt
  have HB10 := bel_trans HB6 hb10
  clear hG7 hG8 hG9 hb7 hb8 hb9 hb10 hG6 hR6 HB6 cN1 cN2 cD1 cD2
  go_upto_region 14 with (fail)
  go_cut [130] (fun s wx => s = .bool false ∧ wx = w10)
  case first =>
    cases t with
    | true =>
      cases d with
      | true =>
        go_wp2
        go_meet
        case rel => exact ⟨rfl, rfl⟩
      | false =>
        go_wp2
        go_meet
        case rel => exact ⟨rfl, rfl⟩
    | false =>
      have hd : d = false := by
        cases d with
        | false => rfl
        | true => have := Hdt.out rfl; cases this
      subst hd
      go_wp2
      go_meet
      case rel => exact ⟨rfl, rfl⟩
  case rest =>
  obtain ⟨rfl, hwc⟩ := hcut
  have hwc : wc = w10 := hwc
  rw [hwc]
  clear hwc Hdt
  go_wp2_with fail
  (with_reducible refine (floodFrom_ok _ p g v ca hG10 hca hba).mono ?_)
  rintro e w11 ⟨bf, done, back, rfl, hF, hbf, hb11, _⟩
  have hG11 := Lib.hid (hG10.below hb11 hG10.lt)
  have hR11 := Lib.hid (hR10.below hb11 hR10.lt)
  have HB11 := bel_trans HB10 hb11
  have hOk := hF
  obtain ⟨_, _, _, _, _, _, hOk, _⟩ := hOk
  have hOk := Lib.hid hOk
  have Hok := Lib.hid hok
  clear hb11 hG10 hR10 HB10 hbf hok
  cases hdn : done cb with
  | none =>
    have htf : t = false := by
      cases t with
      | false => rfl
      | true => exact absurd (Ht.out.1 rfl) (hOk.out.out cb hdn _)
    subst htf
    go_wp2_with fail
    (with_reducible refine (floodCost_none _ bf g ca done back cb hF hcb hdn).mono ?_)
    rintro e w12 ⟨rfl, hb12⟩
    go_upto_region 20 with (fail)
    refine wp_name ?_
    intro W12 hW12
    have HW12 : Below w12.heap.size w12 W12 := by rw [hW12]; (repeat' (first | exact Below.refl _ _ | assumption | apply bel_drewN | apply bel_drew | apply bel_alloc | (refine bel_trans ?_ (by assumption))))
    have HB12 := bel_trans HB11 (bel_trans hb12 HW12)
    have HX := Below.refl W12.heap.size W12
    clear hW12 HW12 hb12 HB11 Ht hF
    refine wp_region_quiet_below (by kernel_rfl) (by kernel_rfl) ?_
    repeat (first | go_big_quiet_step (fail) | quiet_step (fail))
    refine wpQuiet_nil ?_
    intro _ hw'
    obtain ⟨⟨dq, osq⟩, hw''⟩ := hw'
    have HY := bel_trans HX (below_regrown W12 dq osq)
    have hb2 := below_regrown W12 dq osq
    subst hw''
    generalize grow (redrawn W12 dq) osq = w13 at HY hb2 ⊢
    have HB13 := bel_trans HB12 HY
    go_wp2
    go_ret
    exact ⟨rfl, HB13⟩
  | some c0 =>
    obtain ⟨ds, dd⟩ := c0
    have hD := hOk.out.in_ cb ⟨ds, dd⟩ hdn
    have hsm := hOk.out.small cb ⟨ds, dd⟩ hdn
    simp only at hsm
    obtain ⟨sm1, sm2, sm3, sm4⟩ := hsm
    have heq : t = true ↔ g.oct ca cb = ⟨ds, dd⟩ := by
      rw [Ht.out, G.near_dist]
      exact ⟨fun h => h.unique hD, fun h => by rw [h]; exact hD⟩
    have Heq := Lib.hid heq
    obtain ⟨⟨os, od⟩, hox⟩ : ∃ z, g.oct ca cb = z := ⟨_, rfl⟩
    have cO := Lib.hid (fun w => topOct w g ca cb ⟨os, od⟩ Hok.out hca hcb hox)
    have Hox := Lib.hid hox
    clear heq hD hox
    go_wp2_with fail
    (with_reducible refine (floodCost_some _ bf g ca done back cb ds dd hF hdn).mono ?_)
    rintro e w12 ⟨rfl, hb12⟩
    go_upto_region 20 with (fail)
    refine wp_name ?_
    intro W12 hW12
    have HW12 : Below w12.heap.size w12 W12 := by rw [hW12]; (repeat' (first | exact Below.refl _ _ | assumption | apply bel_drewN | apply bel_drew | apply bel_alloc | (refine bel_trans ?_ (by assumption))))
    have c0 : W12.cell? ⟨w12.heap.size, 0, none⟩ = some (.int .i64 ds) := by rw [hW12]; go_simp
    have c1 : W12.cell? ⟨w12.heap.size, 1, none⟩ = some (.int .i64 dd) := by rw [hW12]; go_simp
    have hb12 := bel_trans hb12 HW12
    have HB12 := bel_trans HB11 hb12
    have hG12 := Lib.hid (hG11.out.below hb12 hG11.out.lt)
    have hR12 := Lib.hid (hR11.out.below hb12 hR11.out.lt)
    have kw := hR12.out.size.1
    obtain ⟨cbk, hcbk⟩ : ∃ z, w12.heap.size = z := ⟨_, rfl⟩
    rw [hcbk] at c0 c1 ⊢
    clear hW12 HW12 hb12 HB11 hF hcbk hG11 hR11 hdn
    have c0q := cell_regrown c0
    have c1q := cell_regrown c1
    have kwq := cell_regrown kw
    have HX := Below.refl W12.heap.size W12
    go_cut [159] (fun s wx => s = .bool false ∧ Below W12.heap.size W12 wx)
    case first =>
      cases t with
      | true =>
        have he := Hox.out.symm.trans (Heq.out.1 rfl)
        injection he with he1 he2
        subst he1
        subst he2
        refine wp_region_quiet_below (by kernel_rfl) (by kernel_rfl) ?_
        repeat (first | go_big_quiet_step ((with_reducible exact Calls.regrown_of (cO.out _))) | quiet_step ((with_reducible exact Calls.regrown_of (cO.out _))))
        refine wpQuiet_nil ?_
        intro _ hw'
        obtain ⟨⟨dq, osq⟩, hw''⟩ := hw'
        have HY := bel_trans HX (below_regrown W12 dq osq)
        have hb2 := below_regrown W12 dq osq
        subst hw''
        generalize grow (redrawn W12 dq) osq = w13 at HY hb2 ⊢
        go_wp2
        go_meet
        case rel => exact ⟨rfl, HY⟩
      | false =>
        have hne : ¬ (ds = os ∧ dd = od) := fun h => by
          have := Heq.out.2 (by rw [Hox.out, h.1, h.2])
          cases this
        by_cases e1 : ds = os
        · have e2 : ¬ dd = od := fun h => hne ⟨e1, h⟩
          have e2' : (dd == od) = false := by rw [beq_eq_false_iff_ne]; exact e2
          subst e1
          clear hne e2
          refine wp_region_quiet_below (by kernel_rfl) (by kernel_rfl) ?_
          repeat (first | go_big_quiet_step ((with_reducible exact Calls.regrown_of (cO.out _))) | quiet_step ((with_reducible exact Calls.regrown_of (cO.out _))))
          refine wpQuiet_nil ?_
          intro _ hw'
          obtain ⟨⟨dq, osq⟩, hw''⟩ := hw'
          have HY := bel_trans HX (below_regrown W12 dq osq)
          have hb2 := below_regrown W12 dq osq
          subst hw''
          generalize grow (redrawn W12 dq) osq = w13 at HY hb2 ⊢
          go_wp2
          go_meet
          case rel => exact ⟨rfl, HY⟩
        · have e1' : (ds == os) = false := by rw [beq_eq_false_iff_ne]; exact e1
          clear hne e1
          refine wp_region_quiet_below (by kernel_rfl) (by kernel_rfl) ?_
          repeat (first | go_big_quiet_step ((with_reducible exact Calls.regrown_of (cO.out _))) | quiet_step ((with_reducible exact Calls.regrown_of (cO.out _))))
          refine wpQuiet_nil ?_
          intro _ hw'
          obtain ⟨⟨dq, osq⟩, hw''⟩ := hw'
          have HY := bel_trans HX (below_regrown W12 dq osq)
          have hb2 := below_regrown W12 dq osq
          subst hw''
          generalize grow (redrawn W12 dq) osq = w13 at HY hb2 ⊢
          go_wp2
          go_meet
          case rel => exact ⟨rfl, HY⟩
    case rest =>
    obtain ⟨rfl, hbc⟩ := hcut
    obtain ⟨w13, hw13⟩ : ∃ z : World, wc = z := ⟨_, rfl⟩
    rw [hw13] at hbc ⊢
    have c0 := bel_cell hbc c0
    have c1 := bel_cell hbc c1
    have hG13 := Lib.hid (hG12.out.below hbc hG12.out.lt)
    have hR13 := Lib.hid (hR12.out.below hbc hR12.out.lt)
    have HB13 := bel_trans HB12 hbc
    clear hw13 hbc hG12 hR12 HB12 kw kwq c0q c1q cO HX
    cases t with
    | false =>
      go_wp2
      go_ret
      exact ⟨rfl, HB13⟩
    | true =>
      have hnear : g.Near ca cb := Ht.out.1 (by trivial)
      have hc2 := Heq.out.1 rfl
      have Hc2 := Lib.hid hc2
      have Hnear := Lib.hid hnear
      have cWy := Lib.hid (reachWay_ok w13 p g v ca cb hG13.out hca hcb hba hbb hnear)
      clear hc2 hnear Ht Heq
      go_wp2_with fail
      (with_reducible refine cWy.out.mono ?_)
      rintro e w14 ⟨P, hP, A, m, rfl, hI, hN, hb14⟩
      have hwo := way_wout Hok.out hcb hca Hnear.out hba hP
      have HP := Lib.hid hP
      have HwP := Lib.hid (G.wayP_ok Hok.out hcb hca Hnear.out hP)
      obtain ⟨n, hn⟩ : ∃ n, g.fI ca cb + g.fJ ca cb = n := ⟨_, rfl⟩
      obtain ⟨q1, q2⟩ := G.fI_le Hok.out hcb hca
      have hn30 : n ≤ 30 := by omega
      rw [hn] at hwo
      rw [wayL_length, hn] at hI ⊢
      have hget := fun k (hk : k < n + 1) => wayL_get g ca cb P (n + 1) k hk
      obtain ⟨f, hf⟩ : ∃ f : Nat → Int, (fun k => (wayL g ca cb P (n + 1)).getD k 0) = f := ⟨_, rfl⟩
      have hget2 : ∀ k, k < n + 1 → f k = ((g.fcell ca cb (P k).1 (P k).2 : Nat) : Int) := fun k hk => by rw [← hf]; exact hget k hk
      rw [hf] at hI hwo
      have HI := Lib.hid hI
      have Hget := Lib.hid hget2
      have Hn := Lib.hid hn
      have c0 := bel_cell hb14 c0
      have c1 := bel_cell hb14 c1
      have hG14 := Lib.hid (hG13.out.below hb14 hG13.out.lt)
      have hR14 := Lib.hid (hR13.out.below hb14 hR13.out.lt)
      have HB14 := bel_trans HB13 hb14
      have cW2 := rWalk w14 q g v A (n + 1) m f hR14.out HI.out (by omega)
      rw [hwo, Hc2.out] at cW2
      have cW2 := Lib.hid cW2
      clear hI hN hb14 hP hwo hget hf hget2 hn hG13 hR13 HB13 cWy q1 q2
      go_wp2_with fail
      (with_reducible refine cW2.out.mono ?_)
      rintro e w15 ⟨rfl, hb15⟩
      unfold costWI
      simp only
      go_upto_region 26 with (fail)
      refine wp_name ?_
      intro W15 hW15
      have HW15 : Below w15.heap.size w15 W15 := by rw [hW15]; (repeat' (first | exact Below.refl _ _ | assumption | apply bel_drewN | apply bel_drew | apply bel_alloc | (refine bel_trans ?_ (by assumption))))
      have d0 : W15.cell? ⟨w15.heap.size, 0, none⟩ = some (.int .i64 ds) := by rw [hW15]; go_simp
      have d1 : W15.cell? ⟨w15.heap.size, 1, none⟩ = some (.int .i64 dd) := by rw [hW15]; go_simp
      have hb15 := bel_trans hb15 HW15
      have c0 := bel_cell hb15 c0
      have c1 := bel_cell hb15 c1
      have HB15 := bel_trans HB14 hb15
      have hG15 := Lib.hid (hG14.out.below hb15 hG14.out.lt)
      have HI := Lib.hid (HI.out.below hb15)
      obtain ⟨dbk, hdbk⟩ : ∃ z, w15.heap.size = z := ⟨_, rfl⟩
      rw [hdbk] at d0 d1 ⊢
      clear hW15 HW15 hb15 hdbk hG14 hR14 HB14 cW2
      go_upto_region 29 with (fail)
      clear c0 c1 d0 d1
      go_loopw [26] (fun kv wr => ∃ i : Nat, i ≤ n + 1 ∧ kv = .int .i64 i ∧ Below W15.heap.size W15 wr) (fun kv _ => n + 1 - (intOf kv).toNat)
      case atStart => exact ⟨0, by omega, rfl, Below.refl _ _⟩
      case round =>
        obtain ⟨i, hi, rfl, HBr⟩ := hrel
        have HBw := bel_trans HB15 HBr
        by_cases hlt : i < n + 1
        · have hIr := HI.out.below HBr
          obtain ⟨ad, hA⟩ := hIr.addr (by omega)
          rw [hA] at hIr
          have hix := fun wx => idx_run (m := m) hA hlt wx
          have hE := hIr.cell (Below.refl _ _) hlt
          rw [Hget.out i hlt] at hE
          obtain ⟨h1, h2, h3, h4, h5⟩ := HwP.out i (by rw [Hn.out]; omega)
          obtain ⟨m1, m2⟩ := near_mid Hok.out hcb hca h4 h5
          have hcn := fcell_lt Hok.out hcb hca h1 h2
          have hcf : g.b (g.fcell ca cb (P i).1 (P i).2) = false := by
            rcases h4.inv with ⟨e, _⟩ | ⟨m', d', e', _, he, _⟩
            · rw [e]; exact hba
            · exact (G.E_open Hok.out he).2
          obtain ⟨c, hc⟩ : ∃ c, g.fcell ca cb (P i).1 (P i).2 = c := ⟨_, rfl⟩
          rw [hc] at hE m1 m2 hcn hcf
          have i0 : (0 : Int) ≤ (i : Int) := by omega
          have i1 : (i : Int) < ((n + 1 : Nat) : Int) := by omega
          have cA := Lib.hid (fun w' h' => reachNear_ok w' p g v ca c true h' hca hcn hba hcf (by simp [m1]))
          have cB := Lib.hid (fun w' h' => reachNear_ok w' p g v c cb true h' hcn hcb hcf hbb (by simp [m2]))
          clear hIr hA h1 h2 h3 h4 h5 m1 m2 hcf hc
          go_wp2_with fail
          (with_reducible refine (cA.out _ (hG15.out.below HBr hG15.out.lt)).mono ?_)
          rintro e w16 ⟨rfl, hb16⟩
          have hE := bel_cell hb16 hE
          have HBr := bel_trans HBr hb16
          clear hb16 cA
          go_wp2_with fail
          (with_reducible refine (cB.out _ (hG15.out.below HBr hG15.out.lt)).mono ?_)
          rintro e w17 ⟨rfl, hb17⟩
          have HBr := bel_trans HBr hb17
          clear hb17 cB hE hix HBw
          go_wp2
          go_roundw
          case rel => first | exact ⟨i + 1, by omega, by go_num, HBr⟩ | ((repeat apply Exists.intro); exact ⟨⟨i + 1, by omega, by go_num, HBr⟩, rfl⟩)
          case measure => simp [intOf]; omega
        · obtain rfl : i = n + 1 := by omega
          go_wp2
          go_ret
          exact ⟨rfl, HBw⟩
end Go.Proofs.Ytkiogciokngjfaa
