/- Lemmas of this claim: TopSearch. -/
import Derived.Test.YtjejkadaafmdcaaGreatKTopSearch34
import Derived.Test.YtjejkadaafmdcaaGreatKTopSearch27
import Derived.Test.YtjejkadaafmdcaaGreatKTopSearch25
import Derived.Test.YtjejkadaafmdcaaGreatKTopSearch35
import Derived.Test.YtjejkadaafmdcaaGreatKTopSearch15
set_option linter.unusedVariables false
set_option linter.unusedSimpArgs false
/- The law TopSearch: for any plot, so many levels at most, and any two cells, it returns true. -/
namespace Go.Proofs.YtjejkadaafmdcaaGreat
open Go.RowKit Go.Sort FR Go.Lib
theorem ts_E {g : G} {E : Int → Option (List Ed)} (h : GSpec g (fun _ _ => True) E) : ∀ z : Int, E z ≠ none ↔ ∃ c : Nat, z = c ∧ g.Corner c := h.1
set_option maxRecDepth 100000 in
set_option maxHeartbeats 6400000 in
theorem topSearch (W0 : World) (a b : Int) (A0 : Option Addr) (n0 m0 : Nat) (f0 : Nat → Int) (h0 : SlI W0 A0 n0 f0) (mx : Int) (hmx : -9223372036854775808 ≤ mx ∧ mx ≤ 9223372036854775807)
    (x : Int) (hx : -9223372036854775808 ≤ x ∧ x ≤ 9223372036854775807) (y : Int) (hy : -9223372036854775808 ≤ y ∧ y ≤ 9223372036854775807) :
    Calls Tryz.prog 6 #[.agg #[.int .i64 a, .int .i64 b, .slice A0 n0 m0], .int .i64 mx, .int .i64 x, .int .i64 y] W0 fun e w' => e = .returned (.bool true) ∧ Below W0.heap.size W0 w' := by
  obtain ⟨hI0, hl0, _⟩ := h0
  have hl0 := Lib.hid hl0
  clear hmx hx hy
  go_enter Tryz.func6, Tryz.ntmps6
  go_upto_region 1 with (fail)
  refine wp_name ?_
  intro W hW
  have HW : Below W0.heap.size W0 W := by rw [hW]; (repeat' (first | exact Below.refl _ _ | assumption | apply bel_drewN | apply bel_drew | apply bel_alloc | (refine bel_trans ?_ (by assumption))))
  have k0 : ∀ w', Below W.heap.size W w' → w'.cell? ⟨W0.heap.size, 0, none⟩ = some (.int .i64 a : Value) := fun w' hbw => (hbw.cell (p := ⟨W0.heap.size, 0, none⟩) (by rw [hW]; simp <;> omega)).trans (by rw [hW]; go_simp)
  have k1 : ∀ w', Below W.heap.size W w' → w'.cell? ⟨W0.heap.size, 1, none⟩ = some (.int .i64 b : Value) := fun w' hbw => (hbw.cell (p := ⟨W0.heap.size, 1, none⟩) (by rw [hW]; simp <;> omega)).trans (by rw [hW]; go_simp)
  have k2 : ∀ w', Below W.heap.size W w' → w'.cell? ⟨W0.heap.size, 2, none⟩ = some (.slice A0 n0 m0 : Value) := fun w' hbw => (hbw.cell (p := ⟨W0.heap.size, 2, none⟩) (by rw [hW]; simp <;> omega)).trans (by rw [hW]; go_simp)
  have ky : W.cell? ⟨W0.heap.size + 1, 0, none⟩ = some (.int .i64 y) := by rw [hW]; go_simp
  clear hW
  obtain ⟨b0, hb0⟩ : ∃ z, W0.heap.size = z := ⟨_, rfl⟩
  obtain ⟨b1, hb1⟩ : ∃ z, b0 + 1 = z := ⟨_, rfl⟩
  rw [hb0] at k0 k1 k2 ky ⊢
  rw [hb1] at ky ⊢
  have Hb := Lib.hid (And.intro hb0 hb1)
  have Hk := Lib.hid (And.intro k0 (And.intro k1 (And.intro k2 ky)))
  clear k0 k1 k2 ky hb0 hb1
  go_wp2_with fail
  (with_reducible refine (gridNew_ex 3 3 _ (by decide)).mono ?_)
  rintro e w1 ⟨p0, rfl, hp0, hG, hb1⟩
  go_wp2_with fail
  refine (gridSet_new _ p0 _ _ 4 true hG (by decide) (by decide) (by decide)).mono ?_
  rintro e w2 ⟨rfl, hG2, hk2⟩
  have HB2 := Kept.below hb1 hk2 hb1.size (by simp; omega)
  have hG2 : GridAt w2 p0 g33 (0 + 1) := hG2
  have cN := Lib.hid (graphNew w2 p0 g33 _ hG2)
  have Hok := Lib.hid hG2.1
  clear hG hG2 hk2 hb1
  go_wp2_with fail
  (with_reducible refine cN.out.mono ?_)
  rintro e w3 ⟨b3, p3, mb3, S3, E3, rfl, hGr, hGs, _, hb3⟩
  have HB3 := bel_trans HB2 hb3
  have cL := Lib.hid (lvNew_ok w3 b3 p3 mb3 S3 g33 _ E3 2 hGr hGs (by decide) (by decide))
  clear hGr hGs hb3 HB2 cN
  go_wp2_with fail
  (refine cL.out.mono ?_)
  rintro e w4 ⟨b4, ml4, me4, Sb4, nl4, rfl, hLv, _, hb4⟩
  have HB4 := bel_trans HB3 hb4
  obtain ⟨HF, htp1, htp2⟩ := LS.all_fin Hok.out (cornersN g33) (fun n => mem_cornersN) (most := 2) (by decide) (by decide)
  obtain ⟨S, hS⟩ : ∃ S, (LS.all g33 (cornersN g33) 2).1 = S := ⟨_, rfl⟩
  obtain ⟨tp, htp⟩ : ∃ tp, (LS.all g33 (cornersN g33) 2).2 = tp := ⟨_, rfl⟩
  rw [hS, htp] at HF hLv
  rw [htp] at htp2
  have cB := fun (w' : World) (hb : Below w4.heap.size w4 w') A1 A2 (h1 : EdsO w' A1 eO) (h2 : EdsO w' A2 eI) => srBest w' b4 ml4 me4 nl4 Sb4 tp g33 S Hok.out HF (by omega) (hLv.below hb) A1 1 1 eO h1 rfl (by omega) edsOk_eO A2 1 1 eI h2 rfl (by omega) edsOk_eI 36 #[] (fun _ => C.zero) (guessZ_top w' g33) (fun _ _ => by decide) rfl (fun mkB f hf => hh_zero HF edsOk_eI mkB f hf)
  have cB := Lib.hid cB
  clear hLv HF htp1 htp2 hS htp cL HB3 hb4
  have hx1 := (eds_new w4 0).o
  have hx2 := (eds_new (w4.alloc (.cells #[.int .i64 0, .int .i64 0, .int .i64 0, .int .i64 0] 70)) 8).o
  have hbb := bel_alloc (bel_alloc (Below.refl w4.heap.size w4) (o := .cells #[.int .i64 0, .int .i64 0, .int .i64 0, .int .i64 0] 70)) (o := .cells #[.int .i64 8, .int .i64 0, .int .i64 0, .int .i64 0] 70)
  have hx1 := hx1.below (bel_alloc (Below.refl _ _) (o := .cells #[.int .i64 8, .int .i64 0, .int .i64 0, .int .i64 0] 70))
  rw [show (w4.alloc (.cells #[.int .i64 0, .int .i64 0, .int .i64 0, .int .i64 0] 70)).heap.size = w4.heap.size + 1 by simp] at hx2
  have cB2 := Lib.hid (cB.out _ hbb (some ⟨w4.heap.size, 0, none⟩) (some ⟨w4.heap.size + 1, 0, none⟩) hx1 hx2)
  have Hbb := Lib.hid hbb
  clear hx1 hx2 hbb cB
  go_wp2_with fail
  (with_reducible refine cB2.out.mono ?_)
  rintro e w5 ⟨v, c, fd, rfl, hbest, _, hb5, _⟩
  obtain ⟨rfl, rfl⟩ := bestIs_one hbest best33
  have HB5 := Lib.hid (bel_trans HW (bel_trans (bel_trans HB4 Hbb.out) hb5))
  have Hk5 := Lib.hid (bel_trans (bel_trans HB4 Hbb.out) hb5)
  rw [show costV ⟨4, 0⟩ = .agg #[.int .i64 4, .int .i64 0] from rfl]
  clear hbest cB2 Hbb hb5 Hok HW HB4
  go_upto_region 12 with (fail)
  refine wp_name ?_
  intro W6 hW6
  have HW6 : Below w5.heap.size w5 W6 := by rw [hW6]; (repeat' (first | exact Below.refl _ _ | assumption | apply bel_drewN | apply bel_drew | apply bel_alloc | (refine bel_trans ?_ (by assumption))))
  clear hW6
  have HB6 := Lib.hid (bel_trans HB5.out HW6)
  have Hk6 := bel_trans Hk5.out HW6
  have kk0 := Hk.out.1 W6 Hk6
  have kk1 := Hk.out.2.1 W6 Hk6
  have kk2 := Hk.out.2.2.1 W6 Hk6
  have ky := bel_cell Hk6 Hk.out.2.2.2
  have hI6 := hI0.below HB6.out
  clear Hk Hk5 HB5
  go_wp2_with fail
  (with_reducible refine (laid_any a b A0 n0 m0 f0 _ hI6 hl0.out).mono ?_)
  rintro e w7 (⟨rfl, hb7⟩ | ⟨p, q, g, v, rfl, hp1, hpq, hG, hR, hv0, hv1, hb7⟩)
  · have HB7 := bel_trans HB6.out hb7
    clear hb7 HB6 kk0 kk1 kk2
    go_upto_region 13 with (fail)
    go_quiet (fail)
    go_wp2
    go_ret
    exact ⟨rfl, by (repeat' (first | exact Below.refl _ _ | assumption | apply bel_drewN | apply bel_drew | apply bel_alloc | (refine bel_trans ?_ (by assumption))))⟩
  have HB7 := bel_trans HB6.out hb7
  have hwq : W0.heap.size ≤ q := by have := HB6.out.size; omega
  have hgn := G.n_le hG.1
  have en : ((g.n : Nat) : Int) = (g.w : Int) * g.h := by unfold G.n; simp
  have e1 : (g.w : Int) * g.h ≤ (g.n : Nat) := by omega
  have m1' : 0 ≤ (g.w : Int) * g.h := by omega
  have hql := hR.lt
  have ky := bel_cell hb7 ky
  go_upto_region 13 with (fail)
  refine wp_name ?_
  intro W8 hW8
  have HW8 : Below w7.heap.size w7 W8 := by rw [hW8]; (repeat' (first | exact Below.refl _ _ | assumption | apply bel_drewN | apply bel_drew | apply bel_alloc | (refine bel_trans ?_ (by assumption))))
  have kq : W8.cell? ⟨w7.heap.size, 0, none⟩ = some (.pointer (some ⟨q, 0, none⟩)) := by rw [hW8]; go_simp
  obtain ⟨b17, hb17⟩ : ∃ z, w7.heap.size = z := ⟨_, rfl⟩
  rw [hb17] at kq ⊢
  have ky := bel_cell HW8 ky
  have HB8 := bel_trans HB7 HW8
  obtain ⟨s1, s2⟩ := (hR.below HW8 hql).size
  have hw : IntKind.i64.wrap ((g.w : Int) * g.h) = (g.w : Int) * g.h := IntWalk.i64_in _ (by omega)
  have HG := Lib.hid (hG.below HW8 hG.lt)
  have HR := Lib.hid (hR.below HW8 hql)
  have Hok := Lib.hid hG.1
  have En := Lib.hid (And.intro en hgn)
  clear en kk0 kk1 kk2 hb7 hG hR hW8 hb17 hI6 HB7 hI0 HB6 hgn hv0 hv1
  by_cases hbig : 100 < (g.w : Int) * g.h
  · have hd : decide (100 < (g.w : Int) * g.h) = true := by simp; omega
    clear hbig e1 m1'
    go_quiet (fail)
    go_wp2
    go_ret
    exact ⟨rfl, by (repeat' (first | exact Below.refl _ _ | assumption | apply bel_drewN | apply bel_drew | apply bel_alloc | (refine bel_trans ?_ (by assumption))))⟩
  have hd : decide (100 < (g.w : Int) * g.h) = false := by simp; omega
  clear hbig e1 m1'
  by_cases hx1 : mx < 1
  · have hdx : decide (mx < 1) = true := by simp; omega
    go_quiet (fail)
    go_wp2
    go_ret
    exact ⟨rfl, by (repeat' (first | exact Below.refl _ _ | assumption | apply bel_drewN | apply bel_drew | apply bel_alloc | (refine bel_trans ?_ (by assumption))))⟩
  have hdx : decide (mx < 1) = false := by simp; omega
  by_cases hx6 : 6 < mx
  · have hdy : decide (6 < mx) = true := by simp; omega
    go_quiet (fail)
    go_wp2
    go_ret
    exact ⟨rfl, by (repeat' (first | exact Below.refl _ _ | assumption | apply bel_drewN | apply bel_drew | apply bel_alloc | (refine bel_trans ?_ (by assumption))))⟩
  have hdy : decide (6 < mx) = false := by simp; omega
  have HR0 := Below.refl W8.heap.size W8
  have kyq := cell_regrown ky
  have kqq := cell_regrown kq
  have s1q := cell_regrown s1
  have s2q := cell_regrown s2
  have cFx := Lib.hid (fun d os => rFault (grow (redrawn W8 d) os) q g v x (HR.out.below (below_regrown W8 d os) HR.out.lt))
  have cFy := Lib.hid (fun d os => rFault (grow (redrawn W8 d) os) q g v y (HR.out.below (below_regrown W8 d os) HR.out.lt))
  by_cases hfx : g.fault x = 0
  case neg =>
    obtain ⟨fz, hfz⟩ : ∃ q : Int, ((g.fault x : Nat) : Int) = q := ⟨_, rfl⟩
    have hpos : (0 : Int) < fz := by omega
    have hdz : decide ((0 : Int) < fz) = true := by simp; omega
    have cFx := cFx.out
    simp only [hfz] at cFx
    have cFx := Lib.hid cFx
    clear hfx hfz
    refine wp_region_quiet_below (by kernel_rfl) (by kernel_rfl) ?_
    repeat (first | go_big_quiet_step (with_reducible exact Calls.regrown_of (cFx.out _ _)) | quiet_step (with_reducible exact Calls.regrown_of (cFx.out _ _)))
    refine wpQuiet_nil ?_
    intro _ hw'
    obtain ⟨⟨dq, osq⟩, hw''⟩ := hw'
    have HR9 := bel_trans HR0 (below_regrown W8 dq osq)
    have hb2 := below_regrown W8 dq osq
    subst hw''
    generalize grow (redrawn W8 dq) osq = W9 at HR9 hb2 ⊢
    go_wp2
    go_ret
    exact ⟨rfl, bel_trans HB8 HR9⟩
  rw [hfx] at cFx
  obtain ⟨ca, rfl, hca, hba⟩ := G.fault_zero hfx
  clear hfx
  by_cases hfy : g.fault y = 0
  case neg =>
    obtain ⟨fz, hfz⟩ : ∃ q : Int, ((g.fault y : Nat) : Int) = q := ⟨_, rfl⟩
    have hpos : (0 : Int) < fz := by omega
    have hdz : decide ((0 : Int) < fz) = true := by simp; omega
    have cFy := cFy.out
    simp only [hfz] at cFy
    have cFy := Lib.hid cFy
    clear hfy hfz
    refine wp_region_quiet_below (by kernel_rfl) (by kernel_rfl) ?_
    repeat (first | go_big_quiet_step ((first | with_reducible exact Calls.regrown_of (cFx.out _ _) | with_reducible exact Calls.regrown_of (cFy.out _ _))) | quiet_step ((first | with_reducible exact Calls.regrown_of (cFx.out _ _) | with_reducible exact Calls.regrown_of (cFy.out _ _))))
    refine wpQuiet_nil ?_
    intro _ hw'
    obtain ⟨⟨dq, osq⟩, hw''⟩ := hw'
    have HR9 := bel_trans HR0 (below_regrown W8 dq osq)
    have hb2 := below_regrown W8 dq osq
    subst hw''
    generalize grow (redrawn W8 dq) osq = W9 at HR9 hb2 ⊢
    go_wp2
    go_ret
    exact ⟨rfl, bel_trans HB8 HR9⟩
  rw [hfy] at cFy
  obtain ⟨cb, rfl, hcb, hbb⟩ := G.fault_zero hfy
  clear hfy
  refine wp_region_quiet_below (by kernel_rfl) (by kernel_rfl) ?_
  repeat (first | go_big_quiet_step ((first | with_reducible exact Calls.regrown_of (cFx.out _ _) | with_reducible exact Calls.regrown_of (cFy.out _ _))) | quiet_step ((first | with_reducible exact Calls.regrown_of (cFx.out _ _) | with_reducible exact Calls.regrown_of (cFy.out _ _))))
  refine wpQuiet_nil ?_
  intro _ hw'
  obtain ⟨⟨dq, osq⟩, hw''⟩ := hw'
  have HR9 := bel_trans HR0 (below_regrown W8 dq osq)
  have hb2 := below_regrown W8 dq osq
  subst hw''
  generalize grow (redrawn W8 dq) osq = W9 at HR9 hb2 ⊢
  have HB9 := bel_trans HB8 HR9
  have kq := bel_cell HR9 kq
  have ky := bel_cell HR9 ky
  have HG9 := HG.out.below HR9 HG.out.lt
  have HQ := Lib.hid (HR.out.below HR9 HR.out.lt)
  obtain ⟨most, rfl⟩ := Int.eq_ofNat_of_zero_le (show 0 ≤ mx by omega)
  have hm1 : 1 ≤ most := by omega
  have hm6 : most ≤ 6 := by omega
  have hc256 : cb < 256 := by have := En.out.2; omega
  obtain ⟨eo, heo⟩ : ∃ L, L = eAt g ca := ⟨_, rfl⟩
  obtain ⟨ei, hei⟩ : ∃ L, L = eAt g cb := ⟨_, rfl⟩
  have hok := Hok.out
  have hlo : eo.length ≤ 256 := by rw [heo]; exact Nat.le_trans (eUp_len _ _ _ _) (corners_le hok)
  have hli : ei.length ≤ 256 := by rw [hei]; exact Nat.le_trans (eUp_len _ _ _ _) (corners_le hok)
  have hoo : EdsOk eo := by rw [heo]; exact eAt_ok hok hca
  have hoi : EdsOk ei := by rw [hei]; exact eAt_ok hok hcb
  have hoc : ∀ e ∈ ei, ∀ t : Nat, e.to_ = t → C.le (g.oct t cb) e.c := by rw [hei]; exact eAt_oct
  have He := Lib.hid (And.intro heo hei)
  have HO := Lib.hid (And.intro hoo (And.intro hoi hoc))
  have Hab := Lib.hid (And.intro hba hbb)
  clear s1 s2 s1q s2q kyq kqq hw hd hdx hdy HG HR HB8 HR0 hx1 hx6 HW8 HR9 cFx cFy hb2 heo hei hoo hoi hoc hok hba hbb hql
  have cN := Lib.hid (graphNew W9 p g v HG9)
  have HG9 := Lib.hid HG9
  go_wp2_with fail
  (with_reducible refine cN.out.mono ?_)
  rintro e w10 ⟨b7, p7, mb7, S7, E7, rfl, hGr, hGs, _, hb10⟩
  have HB10 := bel_trans HB9 hb10
  have kq := bel_cell hb10 kq
  have ky := bel_cell hb10 ky
  have HQ := Lib.hid (HQ.out.below hb10 HQ.out.lt)
  have HG10 := Lib.hid (HG9.out.below hb10 HG9.out.lt)
  have cL := Lib.hid (lvNew_ok w10 b7 p7 mb7 S7 g v E7 1 hGr hGs (by omega) (by omega))
  obtain ⟨HFa, _, htpa⟩ := LS.all_fin Hok.out (cornersN g) (fun n => mem_cornersN) (most := 1) (by omega) (by omega)
  obtain ⟨Sa, hSa⟩ : ∃ S, (LS.all g (cornersN g) 1).1 = S := ⟨_, rfl⟩
  obtain ⟨tpa, htpa'⟩ : ∃ tp, (LS.all g (cornersN g) 1).2 = tp := ⟨_, rfl⟩
  rw [hSa, htpa'] at HFa
  rw [htpa'] at htpa
  have htpa6 : tpa ≤ 6 := by omega
  have HFa := Lib.hid (And.intro HFa (And.intro hSa htpa'))
  have HGr := Lib.hid hGr
  have HGs := Lib.hid hGs
  clear hGr hGs hSa htpa' cN HB9 htpa HG9 hb10
  go_wp2_with fail
  (refine cL.out.mono ?_)
  rintro e w11 ⟨bA, mlA, meA, SbA, nlA, rfl, hLvA, _, hb11⟩
  rw [HFa.out.2.1, HFa.out.2.2] at hLvA
  have HB11 := bel_trans HB10 hb11
  have kq := bel_cell hb11 kq
  have ky := bel_cell hb11 ky
  have HQ := Lib.hid (HQ.out.below hb11 HQ.out.lt)
  have HG11 := Lib.hid (HG10.out.below hb11 HG10.out.lt)
  have HGr := Lib.hid (HGr.out.below hb11)
  have HLa := Lib.hid hLvA
  have cL := Lib.hid (lvNew_ok w11 b7 p7 mb7 S7 g v E7 most HGr.out HGs.out hm1 hm6)
  obtain ⟨HFb, _, htpb⟩ := LS.all_fin Hok.out (cornersN g) (fun n => mem_cornersN) (most := most) hm1 hm6
  obtain ⟨Sb, hSb⟩ : ∃ S, (LS.all g (cornersN g) most).1 = S := ⟨_, rfl⟩
  obtain ⟨tpb, htpb'⟩ : ∃ tp, (LS.all g (cornersN g) most).2 = tp := ⟨_, rfl⟩
  rw [hSb, htpb'] at HFb
  rw [htpb'] at htpb
  have htpb6 : tpb ≤ 6 := by omega
  have HFb := Lib.hid (And.intro HFb (And.intro hSb htpb'))
  clear hLvA hSb htpb' HB10 htpb HG10 hb11
  go_wp2_with fail
  (with_reducible refine cL.out.mono ?_)
  rintro e w12 ⟨bB, mlB, meB, SbB, nlB, rfl, hLvB, _, hb12⟩
  rw [HFb.out.2.1, HFb.out.2.2] at hLvB
  have HB12 := bel_trans HB11 hb12
  have kq := bel_cell hb12 kq
  have ky := bel_cell hb12 ky
  have HQ := Lib.hid (HQ.out.below hb12 HQ.out.lt)
  have HG12 := Lib.hid (HG11.out.below hb12 HG11.out.lt)
  have HGr := Lib.hid (HGr.out.below hb12)
  have HLa := Lib.hid (HLa.out.below hb12)
  have HLb := Lib.hid hLvB
  have cC : Calls Tryz.prog 38 #[.pointer (some ⟨b7, 0, none⟩), .int .i64 (ca : Nat)] w12 (RetE2 w12 eo) := by
    rw [He.out.1]; exact graphConnect w12 b7 p7 mb7 S7 g v ca E7 HGr.out (ts_E HGs.out) hca Hab.out.1
  have cC := Lib.hid cC
  clear hLvB HB11 HG11 hb12 cL
  go_wp2_with fail
  (with_reducible refine cC.out.mono ?_)
  rintro e w13 ⟨vO, rfl, hO, hb13⟩
  obtain ⟨AO, mO, rfl, hEO⟩ := hO.eds
  have HB13 := bel_trans HB12 hb13
  have kq := bel_cell hb13 kq
  have ky := bel_cell hb13 ky
  have HQ := Lib.hid (HQ.out.below hb13 HQ.out.lt)
  have HG13 := Lib.hid (HG12.out.below hb13 HG12.out.lt)
  have HGr := Lib.hid (HGr.out.below hb13)
  have HLa := Lib.hid (HLa.out.below hb13)
  have HLb := Lib.hid (HLb.out.below hb13)
  have HEO := Lib.hid hEO.o
  have cC : Calls Tryz.prog 38 #[.pointer (some ⟨b7, 0, none⟩), .int .i64 (cb : Nat)] w13 (RetE2 w13 ei) := by
    rw [He.out.2]; exact graphConnect w13 b7 p7 mb7 S7 g v cb E7 HGr.out (ts_E HGs.out) hcb Hab.out.2
  have cC := Lib.hid cC
  clear hO hEO HB12 HG12 hb13
  go_wp2_with fail
  (with_reducible refine cC.out.mono ?_)
  rintro e w14 ⟨vI, rfl, hI, hb14⟩
  obtain ⟨AI, mI, rfl, hEI⟩ := hI.eds
  have HB14 := bel_trans HB13 hb14
  have kq := bel_cell hb14 kq
  have ky := bel_cell hb14 ky
  have HQ := Lib.hid (HQ.out.below hb14 HQ.out.lt)
  have HG14 := Lib.hid (HG13.out.below hb14 HG13.out.lt)
  have HLa := Lib.hid (HLa.out.below hb14)
  have HLb := Lib.hid (HLb.out.below hb14)
  have HEO := Lib.hid (HEO.out.below hb14)
  have HEI := Lib.hid hEI.o
  clear hI hEI HB13 HG13 hb14 cC HGr HGs
  obtain ⟨no, hno⟩ : ∃ z, eo.length = z := ⟨_, rfl⟩
  obtain ⟨ni, hni⟩ : ∃ z, ei.length = z := ⟨_, rfl⟩
  rw [hno] at hlo ⊢
  rw [hni] at hli ⊢
  have Hn := Lib.hid (And.intro hno hni)
  clear hno hni
  have cS := Lib.hid (srBest w14 bA mlA meA nlA SbA tpa g Sa Hok.out HFa.out.1 htpa6 HLa.out AO no mO eo HEO.out Hn.out.1 (by omega) HO.out.1 AI ni mI ei HEI.out Hn.out.2 (by omega) HO.out.2.1
    36 #[] (fun _ => C.zero) (guessZ_top w14 g) (fun _ _ => by decide) rfl (fun mkB f hf => hh_zero HFa.out.1 HO.out.2.1 mkB f hf))
  go_wp2_with fail
  (with_reducible refine cS.out.mono ?_)
  rintro e w15 ⟨v1, ⟨cs, cd⟩, fd, rfl, hbest, _, hb15, _⟩
  rw [show costV ⟨cs, cd⟩ = .agg #[.int .i64 cs, .int .i64 cd] from rfl]
  have Hbest := Lib.hid hbest
  have Hb15 := Lib.hid (bel_trans HB14 hb15)
  have hh15 := Lib.hid hb15
  have kq := bel_cell hb15 kq
  have ky := bel_cell hb15 ky
  clear hbest cS HB14 hb15
  go_upto_region 23 with (fail)
  refine wp_name ?_
  intro W16 hW16
  have hb16 : Below w15.heap.size w15 W16 := by rw [hW16]; (repeat' (first | exact Below.refl _ _ | assumption | apply bel_drewN | apply bel_drew | apply bel_alloc | (refine bel_trans ?_ (by assumption))))
  have c0 : W16.cell? ⟨w15.heap.size, 0, none⟩ = some (.int .i64 cs) := by rw [hW16]; go_simp
  have c1 : W16.cell? ⟨w15.heap.size, 1, none⟩ = some (.int .i64 cd) := by rw [hW16]; go_simp
  obtain ⟨b28, hb28⟩ : ∃ z, w15.heap.size = z := ⟨_, rfl⟩
  rw [hb28] at c0 c1 ⊢
  have HB16 := bel_trans Hb15.out hb16
  have hr16 := bel_trans hh15.out hb16
  have kq := bel_cell hb16 kq
  have ky := bel_cell hb16 ky
  have HQ := Lib.hid (HQ.out.below hr16 HQ.out.lt)
  have HG16 := Lib.hid (HG14.out.below hr16 HG14.out.lt)
  have HLb := Lib.hid (HLb.out.below hr16)
  have HEO := Lib.hid (HEO.out.below hr16)
  have HEI := Lib.hid (HEI.out.below hr16)
  have cS := Lib.hid (srBest W16 bB mlB meB nlB SbB tpb g Sb Hok.out HFb.out.1 htpb6 HLb.out AO no mO eo HEO.out Hn.out.1 (by omega) HO.out.1 AI ni mI ei HEI.out Hn.out.2 (by omega) HO.out.2.1
    36 #[] (fun _ => C.zero) (guessZ_top W16 g) (fun _ _ => by decide) rfl (fun mkB f hf => hh_zero HFb.out.1 HO.out.2.1 mkB f hf))
  clear hW16 hb28 Hb15 hh15 hb16 hr16 HG14 HLa HFa
  go_wp2_with fail
  (with_reducible refine cS.out.mono ?_)
  rintro e w17 ⟨v2, c2, fd2, rfl, hbest, _, hb17, _⟩
  obtain ⟨rfl, rfl⟩ := bestIs_one hbest Hbest.out
  rw [show costV ⟨cs, cd⟩ = .agg #[.int .i64 cs, .int .i64 cd] from rfl]
  have HB17 := Lib.hid (bel_trans HB16 hb17)
  have hh17 := Lib.hid hb17
  have kq := bel_cell hb17 kq
  have ky := bel_cell hb17 ky
  have c0 := bel_cell hb17 c0
  have c1 := bel_cell hb17 c1
  clear hbest cS HB16 hb17
  go_upto_region 24 with (fail)
  refine wp_name ?_
  intro W18 hW18
  have hb18 : Below w17.heap.size w17 W18 := by rw [hW18]; (repeat' (first | exact Below.refl _ _ | assumption | apply bel_drewN | apply bel_drew | apply bel_alloc | (refine bel_trans ?_ (by assumption))))
  have d0 : W18.cell? ⟨w17.heap.size, 0, none⟩ = some (.int .i64 cs) := by rw [hW18]; go_simp
  have d1 : W18.cell? ⟨w17.heap.size, 1, none⟩ = some (.int .i64 cd) := by rw [hW18]; go_simp
  obtain ⟨b31, hb31⟩ : ∃ z, w17.heap.size = z := ⟨_, rfl⟩
  rw [hb31] at d0 d1 ⊢
  have HB18 := bel_trans HB17.out hb18
  have hr18 := bel_trans hh17.out hb18
  have kq := bel_cell hb18 kq
  have ky := bel_cell hb18 ky
  have c0 := bel_cell hb18 c0
  have c1 := bel_cell hb18 c1
  have HQ := Lib.hid (HQ.out.below hr18 HQ.out.lt)
  have HG18 := Lib.hid (HG16.out.below hr18 HG16.out.lt)
  have HLb := Lib.hid (HLb.out.below hr18)
  have HEO := Lib.hid (HEO.out.below hr18)
  have HEI := Lib.hid (HEI.out.below hr18)
  have cS := Lib.hid (srBest W18 bB mlB meB nlB SbB tpb g Sb Hok.out HFb.out.1 htpb6 HLb.out AO no mO eo HEO.out Hn.out.1 (by omega) HO.out.1 AI ni mI ei HEI.out Hn.out.2 (by omega) HO.out.2.1
    39 #[.pointer (some ⟨b17, 0, none⟩), .pointer (some ⟨b1, 0, none⟩)] (octH g cb) (guessTop W18 b17 b1 q g v cb ⟨hcb, kq, ky, HQ.out.lt, HQ.out⟩) (octH_small Hok.out hcb) (octH_256 g cb) (fun mkB f hf => hh_oct Hok.out HFb.out.1 HO.out.2.2 mkB f hf))
  clear hW18 hb31 HB17 hh17 hb18 hr18 HG16
  go_wp2_with fail
  (with_reducible refine cS.out.mono ?_)
  rintro e w19 ⟨v3, c3, fd3, rfl, hbest, _, hb19, _⟩
  obtain ⟨rfl, rfl⟩ := bestIs_one hbest Hbest.out
  rw [show costV ⟨cs, cd⟩ = .agg #[.int .i64 cs, .int .i64 cd] from rfl]
  have HB19 := Lib.hid (bel_trans HB18 hb19)
  have hh19 := Lib.hid hb19
  have kq := bel_cell hb19 kq
  have ky := bel_cell hb19 ky
  have c0 := bel_cell hb19 c0
  have c1 := bel_cell hb19 c1
  have d0 := bel_cell hb19 d0
  have d1 := bel_cell hb19 d1
  clear hbest cS HB18 hb19
  go_upto_region 25 with (fail)
  refine wp_name ?_
  intro W20 hW20
  have hb20 : Below w19.heap.size w19 W20 := by rw [hW20]; (repeat' (first | exact Below.refl _ _ | assumption | apply bel_drewN | apply bel_drew | apply bel_alloc | (refine bel_trans ?_ (by assumption))))
  have e0 : W20.cell? ⟨w19.heap.size, 0, none⟩ = some (.int .i64 cs) := by rw [hW20]; go_simp
  have e1 : W20.cell? ⟨w19.heap.size, 1, none⟩ = some (.int .i64 cd) := by rw [hW20]; go_simp
  obtain ⟨b34, hb34⟩ : ∃ z, w19.heap.size = z := ⟨_, rfl⟩
  rw [hb34] at e0 e1 ⊢
  have HB20 := bel_trans HB19.out hb20
  have hr20 := bel_trans hh19.out hb20
  have kq := bel_cell hb20 kq
  have ky := bel_cell hb20 ky
  have c0 := bel_cell hb20 c0
  have c1 := bel_cell hb20 c1
  have d0 := bel_cell hb20 d0
  have d1 := bel_cell hb20 d1
  have hRq := HQ.out.below hr20 HQ.out.lt
  have HG20 := Lib.hid (HG18.out.below hr20 HG18.out.lt)
  clear hW20 hb34 HB19 hh19 hb20 hr20 HG18 HLb HEO HEI HFb HQ
  go_wp2_with fail
  (with_reducible refine (rFlood _ q g v ca hRq hca).mono ?_)
  rintro e w21 ⟨fa, ia, rfl, hFa, hb21⟩
  obtain ⟨Z1, hZ1⟩ : ∃ Z, Z = rowOf (ccell fa) 512 := ⟨_, rfl⟩
  obtain ⟨Z2, hZ2⟩ : ∃ Z, Z = rowOf (icell ia) 256 := ⟨_, rfl⟩
  have z1 : Z1.size = 512 := by rw [hZ1, rowOf_size]
  have z2 : Z2.size = 256 := by rw [hZ2, rowOf_size]
  have o1 : Z1.all (·.oneCell') = true := by rw [hZ1]; exact Array.all_eq_true_iff_forall_mem.2 (fun v hv => row_one (f := ccell fa) (fun k => by unfold ccell; split <;> rfl) 512 v (by simpa using hv))
  have o2 : Z2.all (·.oneCell') = true := by rw [hZ2]; exact Array.all_eq_true_iff_forall_mem.2 (fun v hv => row_one (f := icell ia) (fun k => rfl) 256 v (by simpa using hv))
  rw [← hZ1, ← hZ2]
  have HZ1 := Lib.hid hZ1
  have HZ2 := Lib.hid hZ2
  clear hZ1 hZ2
  obtain ⟨W22, W23, r1, r2, hA1, hA2, hbW⟩ := two_arrays w21 Z1 Z2 z1 z2 o1 o2
  rw [HZ1.out] at hA1
  rw [HZ2.out] at hA2
  have hA1 := Lib.hid hA1
  have hA2 := Lib.hid hA2
  clear HZ1 HZ2 o1 o2
  have HW23 := bel_trans hb21 hbW
  have HB23 := bel_trans HB20 HW23
  have kq := bel_cell HW23 kq
  have ky := bel_cell HW23 ky
  have c0 := bel_cell HW23 c0
  have c1 := bel_cell HW23 c1
  have d0 := bel_cell HW23 d0
  have d1 := bel_cell HW23 d1
  have e0 := bel_cell HW23 e0
  have e1 := bel_cell HW23 e1
  have HG23 := HG20.out.below HW23 HG20.out.lt
  have hFa := Lib.hid hFa
  go_upto_region 26 with (fail)
  obtain ⟨b36, hb36⟩ : ∃ b, w21.heap.size = b := ⟨_, rfl⟩
  rw [hb36] at hA1 hA2 ⊢
  obtain ⟨b37, hb37⟩ : ∃ b, b36 + 1 = b := ⟨_, rfl⟩
  rw [hb37] at hA2 ⊢
  clear r1 r2 hb36 hb37 hbW HW23 hb21 hRq HB20 z1 z2 HG20 kq
  obtain ⟨t, ht⟩ : ∃ t : Bool, t = true ↔ g.Near ca cb := by
    by_cases h : g.Near ca cb
    · exact ⟨true, by simp [h]⟩
    · exact ⟨false, by simp [h]⟩
  have cN := Lib.hid (reachNear_ok W23 p g v ca cb t HG23 hca hcb Hab.out.1 Hab.out.2 ht)
  have Ht := Lib.hid ht
  clear ht HG23
  go_wp2_with fail
  (with_reducible refine cN.out.mono ?_)
  rintro e w24 ⟨rfl, hb24⟩
  have HB24 := bel_trans HB23 hb24
  have ky := bel_cell hb24 ky
  have c0 := bel_cell hb24 c0
  have c1 := bel_cell hb24 c1
  clear d0 d1 e0 e1 HB23 cN
  have hcb0 : (0 : Int) ≤ (cb : Int) := by omega
  have hcb1 : (cb : Int) < 256 := by omega
  have ci := arr_b' hA2.out hb24 hc256
  have cc := arr_c' hA1.out hb24 hc256
  go_upto_region 31 with (fail)
  cases t with
  | true =>
    clear ci cc
    go_quiet (fail)
    go_wp2
    go_ret
    exact ⟨rfl, by (repeat' (first | exact Below.refl _ _ | assumption | apply bel_drewN | apply bel_drew | apply bel_alloc | (refine bel_trans ?_ (by assumption))))⟩
  | false =>
    have hnear : ¬ g.Near ca cb := fun h => by have := Ht.out.2 h; simp at this
    have hbf := Hbest.out
    rw [He.out.1, He.out.2] at hbf
    obtain ⟨hfd, hcc⟩ := best_flood hbf hFa.out hnear
    rw [← hfd] at ci
    clear hnear hbf hfd Ht
    cases fd3 with
    | false =>
      clear cc c0 c1 hcc
      go_quiet (fail)
      go_wp2
      go_ret
      exact ⟨rfl, by (repeat' (first | exact Below.refl _ _ | assumption | apply bel_drewN | apply bel_drew | apply bel_alloc | (refine bel_trans ?_ (by assumption))))⟩
    | true =>
      rw [← hcc rfl] at cc
      obtain ⟨cc0, cc1⟩ := cc
      simp only at cc0 cc1
      clear hcc
      go_quiet (fail)
      go_wp2
      go_ret
      exact ⟨rfl, by (repeat' (first | exact Below.refl _ _ | assumption | apply bel_drewN | apply bel_drew | apply bel_alloc | (refine bel_trans ?_ (by assumption))))⟩
end Go.Proofs.YtjejkadaafmdcaaGreat
