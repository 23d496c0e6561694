/- Lemmas of this claim: TopLevels. -/
import Derived.Test.YtjejkadaafmdcaaPriced
import Derived.Test.YtjejkadaafmdcaaKTopLevels24
import Derived.Test.YtjejkadaafmdcaaKTopLevels19
set_option linter.unusedVariables false
set_option linter.unusedSimpArgs false
/- The law TopLevels: for any plot, so many levels at most, it returns true. -/
namespace Go.Proofs.Ytjejkadaafmdcaa
open Go.RowKit Go.Sort FR Go.Lib
/-- two levels at most: the top is 2 -/
theorem top2_fact : (LS.all g33 (cornersN g33) 2).2 = 2 := by
  obtain ⟨_, h2⟩ := first_pass
  unfold LS.all
  show (LS.rounds g33.n (cornersN g33) 1 1 (LS.first g33)).2 = 2
  show (if (RS.run g33.n 1 (cornersN g33) (LS.first g33)).some_ = true then LS.rounds g33.n (cornersN g33) 0 (1 + 1) (RS.run g33.n 1 (cornersN g33) (LS.first g33)).S else ((RS.run g33.n 1 (cornersN g33) (LS.first g33)).S, 1)).2 = 2
  rw [if_pos h2]
  rfl
theorem unp_ends {S : LS} {a b : Nat} {L : List Nat} (h : LS.Unp S a b L) : L[0]? = some a ∧ L[L.length - 1]? = some b ∧ 2 ≤ L.length := by
  obtain ⟨M, rfl⟩ := h.ends
  refine ⟨rfl, ?_, by simp⟩
  have e : (a :: (M ++ [b])).length - 1 = M.length + 1 := by simp
  rw [e]
  simp
theorem getD_map {L : List Nat} : ∀ k x, L[k]? = some x → (L.map fun n : Nat => (n : Int)).getD k 0 = (x : Nat) := fun k x h => by
  rw [List.getD_eq_getElem?_getD, List.getElem?_map, h]; rfl
set_option maxRecDepth 100000 in
set_option maxHeartbeats 6400000 in
theorem topLevels (W0 : World) (a b : Int) (A0 : Option Addr) (n0 m0 : Nat) (f0 : Nat → Int) (h0 : SlI W0 A0 n0 f0) (x : Int) (hx : -9223372036854775808 ≤ x ∧ x ≤ 9223372036854775807) :
    Calls Try.prog 5 #[.agg #[.int .i64 a, .int .i64 b, .slice A0 n0 m0], .int .i64 x] W0 fun e w' => e = .returned (.bool true) ∧ Below W0.heap.size W0 w' := by
  obtain ⟨hI0, hl0, _⟩ := h0
  have hl0 := Lib.hid hl0
  clear hx
  go_enter Try.func5, Try.ntmps5
  go_upto_region 1 with (fail)
  refine wp_name ?_
  intro W hW
  have HW : Below W0.heap.size W0 W := by rw [hW]; (repeat' (first | exact Below.refl _ _ | assumption | apply bel_drewN | apply bel_drew | apply bel_alloc | (refine bel_trans ?_ (by assumption))))
  have k0 : ∀ w', Below W.heap.size W w' → w'.cell? ⟨W0.heap.size, 0, none⟩ = some (.int .i64 a : Value) := fun w' hbw => (hbw.cell (p := ⟨W0.heap.size, 0, none⟩) (by rw [hW]; simp <;> omega)).trans (by rw [hW]; go_simp)
  have k1 : ∀ w', Below W.heap.size W w' → w'.cell? ⟨W0.heap.size, 1, none⟩ = some (.int .i64 b : Value) := fun w' hbw => (hbw.cell (p := ⟨W0.heap.size, 1, none⟩) (by rw [hW]; simp <;> omega)).trans (by rw [hW]; go_simp)
  have k2 : ∀ w', Below W.heap.size W w' → w'.cell? ⟨W0.heap.size, 2, none⟩ = some (.slice A0 n0 m0 : Value) := fun w' hbw => (hbw.cell (p := ⟨W0.heap.size, 2, none⟩) (by rw [hW]; simp <;> omega)).trans (by rw [hW]; go_simp)
  clear hW
  go_wp2_with fail
  (with_reducible refine (gridNew_ex 3 3 _ (by decide)).mono ?_)
  rintro e w1 ⟨p0, rfl, hp0, hG, hb1⟩
  go_wp2_with fail
  refine (gridSet_new _ p0 _ _ 4 true hG (by decide) (by decide) (by decide)).mono ?_
  rintro e w2 ⟨rfl, hG2, hk2⟩
  have HB2 := Kept.below hb1 hk2 hb1.size (by simp; omega)
  have hG2 : GridAt w2 p0 g33 (0 + 1) := hG2
  have cN := Lib.hid (graphNew w2 p0 g33 _ hG2)
  clear hG hG2 hk2 hb1
  go_wp2_with fail
  (with_reducible refine cN.out.mono ?_)
  rintro e w3 ⟨b3, p3, mb3, S3, E3, rfl, hGr, hGs, _, hb3⟩
  have HB3 := bel_trans HB2 hb3
  have cL := Lib.hid (lvNew_ok w3 b3 p3 mb3 S3 g33 _ E3 2 hGr hGs (by decide) (by decide))
  clear hGr hGs hb3 HB2 cN
  go_wp2_with fail
  (refine cL.out.mono ?_)
  rintro e w4 ⟨b4, ml4, me4, Sb4, nl4, rfl, hLv, _, hb4⟩
  have HB4 := bel_trans HB3 hb4
  rw [top2_fact] at hLv
  have cT := Lib.hid (lvTop w4 b4 ml4 me4 nl4 Sb4 _ _ _ hLv)
  clear hLv cL HB3 hb4
  go_wp2_with fail
  (with_reducible refine cT.out.mono ?_)
  rintro e w' ⟨rfl, rfl⟩
  have HB4 := bel_trans HW HB4
  clear cT
  go_wp2_with fail
  (with_reducible refine (laid_any a b A0 n0 m0 f0 _ (hI0.below HB4) hl0.out).mono ?_)
  rintro e w5 (⟨rfl, hb5⟩ | ⟨p, q, g, v, rfl, hp1, hpq, hG, hR, hv0, hv1, hb5⟩)
  · have HB5 := bel_trans HB4 hb5
    clear hb5 HB4 k0 k1 k2
    go_upto_region 9 with (fail)
    go_quiet (fail)
    go_wp2
    go_ret
    exact ⟨rfl, bel_drewN HB5⟩
  have HB5 := bel_trans HB4 hb5
  have hgn := G.n_le hG.1
  have en : ((g.n : Nat) : Int) = (g.w : Int) * g.h := by unfold G.n; simp
  have e1 : (g.w : Int) * g.h ≤ (g.n : Nat) := by omega
  have m1 : 0 ≤ (g.w : Int) * g.h := by omega
  obtain ⟨s1, s2⟩ := hR.size
  have hw : IntKind.i64.wrap ((g.w : Int) * g.h) = (g.w : Int) * g.h := IntWalk.i64_in _ (by omega)
  have HG := Lib.hid hG
  have Hok := Lib.hid hG.1
  clear en k0 k1 k2 hb5 HB4 hG hR hv0 hv1
  by_cases hbig : 100 < (g.w : Int) * g.h
  · have hd : decide (100 < (g.w : Int) * g.h) = true := by simp; omega
    clear hbig e1 m1
    go_upto_region 9 with (fail)
    go_quiet (fail)
    go_wp2
    go_ret
    exact ⟨rfl, bel_drewN HB5⟩
  have hd : decide (100 < (g.w : Int) * g.h) = false := by simp; omega
  by_cases hx1 : x < 1
  · have hd2 : decide (x < 1) = true := by simp; omega
    clear hbig e1 m1 hx1
    go_upto_region 9 with (fail)
    go_quiet (fail)
    go_wp2
    go_ret
    exact ⟨rfl, bel_drewN HB5⟩
  have hd2 : decide (x < 1) = false := by simp; omega
  by_cases hx6 : 6 < x
  · have hd3 : decide (6 < x) = true := by simp; omega
    clear hbig e1 m1 hx1 hx6
    go_upto_region 9 with (fail)
    go_quiet (fail)
    go_wp2
    go_ret
    exact ⟨rfl, bel_drewN HB5⟩
  have hd3 : decide (6 < x) = false := by simp; omega
  obtain ⟨most, rfl⟩ := Int.eq_ofNat_of_zero_le (show 0 ≤ x by omega)
  have hm1 : 1 ≤ most := by omega
  have hm6 : most ≤ 6 := by omega
  clear hbig e1 m1 hx1 hx6
  go_upto_region 9 with (fail)
  go_quiet (fail)
  have hG1 : GridAt (w5.drewN nq) p g v := HG.out
  have HB6 : Below W0.heap.size W0 (w5.drewN nq) := bel_drewN HB5
  clear s1 s2 hw hd hd2 hd3 HG HB5
  generalize w5.drewN nq = w6 at hG1 HB6 ⊢
  have cN := Lib.hid (graphNew w6 p g v hG1)
  clear hG1
  go_wp2_with fail
  (with_reducible refine cN.out.mono ?_)
  rintro e w7 ⟨b7, p7, mb7, S7, E7, rfl, hGr, hGs, _, hb7⟩
  have HB7 := bel_trans HB6 hb7
  obtain ⟨HF, htp1, htp2⟩ := LS.all_fin Hok.out (cornersN g) (fun n => mem_cornersN) hm1 hm6
  have cL := Lib.hid (lvNew_ok w7 b7 p7 mb7 S7 g v E7 most hGr hGs hm1 hm6)
  obtain ⟨S, hS⟩ : ∃ S, (LS.all g (cornersN g) most).1 = S := ⟨_, rfl⟩
  obtain ⟨tp, htp⟩ : ∃ tp, (LS.all g (cornersN g) most).2 = tp := ⟨_, rfl⟩
  rw [hS, htp] at HF
  rw [htp] at htp1 htp2
  have htp6 : tp ≤ 6 := by omega
  have HF := Lib.hid HF
  have HS := Lib.hid (And.intro hS htp)
  have HGr := Lib.hid (And.intro hGr hGs)
  clear hGr hGs cN hb7 HB6 hS htp
  go_wp2_with fail
  (with_reducible refine cL.out.mono ?_)
  rintro e w8 ⟨b8, ml8, me8, Sb8, nl8, rfl, hLv, _, hb8⟩
  rw [HS.out.1, HS.out.2] at hLv
  have HB8 := bel_trans HB7 hb8
  have HLv := Lib.hid hLv
  have cT := Lib.hid (fun w' (hb : Below w8.heap.size w8 w') => lvTop w' b8 ml8 me8 nl8 Sb8 (tp : Nat) _ _ (HLv.out.below hb))
  have cT8 := Lib.hid (cT.out w8 (Below.refl _ _))
  have HG8 := Lib.hid (HGr.out.1.below hb8)
  have HGs := Lib.hid HGr.out.2
  have htm : ¬ ((most : Nat) : Int) < (tp : Nat) := by omega
  have cN := Lib.hid (graphNodesC w8 b7 p7 mb7 S7 g v E7 HG8.out HGs.out.1)
  clear hLv cL HB7 hb8 HGr HS
  go_wp2_with fail
  (with_reducible refine cT8.out.mono ?_)
  rintro e w' ⟨rfl, rfl⟩
  go_wp2_with fail
  (with_reducible refine cN.out.mono ?_)
  rintro e w9 ⟨A9, m9, rfl, _, hI9, _, hb9⟩
  have HB9 := bel_trans HB8 hb9
  obtain ⟨n, hn⟩ : ∃ n, (cornersI g).length = n := ⟨_, rfl⟩
  rw [hn] at hI9 ⊢
  have Hn := Lib.hid hn
  have HI9 := Lib.hid hI9
  have HL9 := Lib.hid (HLv.out.below hb9)
  have HG9 := Lib.hid (HG8.out.below hb9)
  have cT := Lib.hid (fun w' (hb : Below w9.heap.size w9 w') => cT.out w' (bel_trans hb9 hb))
  have hn256 : n ≤ 256 := by rw [← hn]; exact corners_le Hok.out
  clear hn hI9 hb9 HB8 HLv HG8 cN cT8 htm
  go_wp2_with fail
  go_loopw [13] (fun kv wr => ∃ i : Nat, kv = .int .i64 i ∧ i ≤ n ∧ Below w9.heap.size w9 wr) (fun kv _ => n - (intOf kv).toNat)
  case atStart => exact ⟨0, rfl, by omega, Below.refl _ _⟩
  case round =>
    obtain ⟨i, rfl, hi, hB⟩ := hrel
    by_cases hlt : i < n
    · have hIr := HI9.out.below hB
      obtain ⟨ad, hA⟩ := hIr.addr (by omega)
      rw [hA] at hIr
      have hix := fun wx => idx_run (m := m9) hA hlt wx
      have hE := hIr.cell (Below.refl _ _) hlt
      obtain ⟨e1, hc⟩ := cf_at (g := g) (i := i) (by rw [Hn.out]; exact hlt)
      rw [e1] at hE
      obtain ⟨c, hcc⟩ : ∃ c, cf g i = c := ⟨_, rfl⟩
      rw [hcc] at hE hc
      obtain ⟨L, hL⟩ : ∃ L, EgL S g.n c = L := ⟨_, rfl⟩
      obtain ⟨lc, hlc⟩ : ∃ z, S.lev c = z := ⟨_, rfl⟩
      obtain ⟨hl1, hl2⟩ := HF.out.levs c hc
      rw [hlc] at hl1 hl2
      have hEc : egE g S (c : Nat) = some L := by rw [egE_at hc, hL]
      have hVc : levV g S (c : Nat) = some (.int .i64 (lc : Nat)) := by rw [levV_at hc, hlc]
      have hl256 : L.length ≤ 256 := by rw [← hL]; exact Nat.le_trans (len_EgL _ _ _) hgn
      have cV := Lib.hid (lvLevel_in wr b8 ml8 me8 nl8 Sb8 (tp : Nat) _ _ (HL9.out.below hB) (c : Nat) (lc : Nat) hVc)
      have cE := Lib.hid (lvEdgesP_in wr b8 ml8 me8 nl8 Sb8 (tp : Nat) _ _ (HL9.out.below hB) (c : Nat) (lc : Nat) hVc L hEc (by omega))
      have HC := Lib.hid (And.intro hc (And.intro hL hlc))
      have h11 : ¬ ((lc : Nat) : Int) < 1 := by omega
      have h12 : ¬ ((tp : Nat) : Int) < (lc : Nat) := by omega
      clear hIr hA e1 hcc hc hL hlc hEc hVc
      go_wp2_with fail
      (with_reducible refine cV.out.mono ?_)
      rintro e w' ⟨rfl, rfl⟩
      go_wp2_with fail
      (with_reducible refine cE.out.mono ?_)
      rintro e wE ⟨vE, rfl, hOE, hbE⟩
      obtain ⟨AE, mE, rfl, hEd⟩ := hOE.eds
      obtain ⟨nE, hnE⟩ : ∃ z, L.length = z := ⟨_, rfl⟩
      rw [hnE]
      have HBE := bel_trans hB hbE
      have hE := bel_cell hbE hE
      have cTE := Lib.hid (cT.out wE HBE)
      have HnE := Lib.hid hnE
      have HEd := Lib.hid hEd
      have hnE2 : nE ≤ 256 := by omega
      clear cV cE hOE hbE hEd hnE hB
      go_wp2_with fail
      (with_reducible refine cTE.out.mono ?_)
      rintro e w' ⟨rfl, rfl⟩
      clear cTE
      go_wp2_with fail
      obtain ⟨wX, rfl⟩ : ∃ z : World, z = wE := ⟨_, rfl⟩
      generalize decide (((lc : Nat) : Int) < 1) = dq1
      generalize decide (tp < lc) = dq2
      go_loopw [18] (fun kv wr => ∃ j : Nat, kv = .int .i64 j ∧ j ≤ nE ∧ Below wX.heap.size wX wr) (fun kv _ => nE - (intOf kv).toNat)
      case atStart => exact ⟨0, rfl, by omega, Below.refl _ _⟩
      case round =>
        obtain ⟨j, rfl, hj, hBj⟩ := hrel
        by_cases hlj : j < nE
        · obtain ⟨ek, hek⟩ : ∃ z, L[j]? = some z := ⟨L[j]'(by rw [HnE.out]; exact hlj), List.getElem?_eq_getElem _⟩
          obtain ⟨gb, hAg, a1, a2, a3, a4⟩ := (HEd.out.below hBj).get hek
          have hxe := fun wx => idxE (m := mE) hAg hlj wx
          have hmem := List.mem_of_getElem? hek
          rw [← HC.out.2.1] at hmem
          obtain ⟨t, htn, hto, heg⟩ := mem_EgL.1 hmem
          obtain ⟨xt, ⟨xs, xd⟩, xm⟩ := ek
          simp only at a1 a2 a3 a4 hto heg
          subst hto
          obtain ⟨_, htc, _⟩ := HF.out.corner c t (by rw [heg]; simp)
          obtain ⟨lt, hlt2⟩ : ∃ z, S.lev t = z := ⟨_, rfl⟩
          have hVt : levV g S (t : Nat) = some (.int .i64 (lt : Nat)) := by rw [levV_at htc, hlt2]
          have hap : lt = lc → lc = tp := fun q => by
            have := HF.out.apart c t (by rw [heg]; simp) (by rw [hlt2, HC.out.2.2, q])
            rw [HC.out.2.2] at this; exact this
          have Hx := Lib.hid (And.intro heg hlt2)
          have hE := bel_cell hBj hE
          clear hek hmem hAg htc hlt2 heg
          go_upto_region 27 with (fail)
          refine wp_name ?_
          intro W7 hW7
          have hbW : Below wr.heap.size wr W7 := by rw [hW7]; exact bel_alloc (Below.refl _ _)
          obtain ⟨b19, hb19⟩ : ∃ z, wr.heap.size = z := ⟨_, rfl⟩
          have o0 : W7.cell? ⟨b19, 0, none⟩ = some (.int .i64 (t : Nat)) := by rw [hW7, ← hb19]; go_simp
          have o1 : W7.cell? ⟨b19, 1, none⟩ = some (.int .i64 xs) := by rw [hW7, ← hb19]; go_simp
          have o2 : W7.cell? ⟨b19, 2, none⟩ = some (.int .i64 xd) := by rw [hW7, ← hb19]; go_simp
          have o3 : W7.cell? ⟨b19, 3, none⟩ = some (.int .i64 xm) := by rw [hW7, ← hb19]; go_simp
          have hE := bel_cell hbW hE
          have HBX := bel_trans hBj hbW
          have HB7 := bel_trans HBE HBX
          rw [hb19]
          have cV := Lib.hid (lvLevel_in W7 b8 ml8 me8 nl8 Sb8 (tp : Nat) _ _ (HL9.out.below HB7) (t : Nat) (lt : Nat) hVt)
          have cT7 := Lib.hid (cT.out W7 HB7)
          clear hW7 hb19 hbW a1 a2 a3 a4 hxe hVt hBj
          have hlev : S.lev c + S.lev t ≤ 20 := by rw [HC.out.2.2, Hx.out.2]; have := (HF.out.levs t (HF.out.corner c t (by rw [Hx.out.1]; simp)).2.1).2; rw [Hx.out.2] at this; omega
          obtain ⟨Lu, u1, u2, u3, u4⟩ := lvUnpack b8 ml8 me8 nl8 Sb8 g S tp (tp : Nat) Hok.out HF.out 20 c t ⟨xs, xd⟩ xm (by omega) hlev Hx.out.1
          have cU := Lib.hid (fun w' (hb : Below W7.heap.size W7 w') => u4 w' (HL9.out.below (bel_trans HB7 hb)))
          have u3 : Lu.length ≤ 2000000 := by have : 2 ^ 20 = 1048576 := by decide
                                              omega
          have HU := Lib.hid (And.intro u1 (And.intro u2 u3))
          have hmd : 0 ≤ xm → ∃ k lk : Nat, xm = k ∧ lk < lc ∧ lk < lt ∧ levV g S (k : Nat) = some (.int .i64 (lk : Nat)) := fun h0 => by
            obtain ⟨k, hk, z1, z2, c1, m1, c2, m2, z3, _, _⟩ := HF.out.sum c t ⟨xs, xd⟩ xm Hx.out.1 h0
            rw [HC.out.2.2] at z1
            rw [Hx.out.2] at z2
            exact ⟨k, S.lev k, hk, z1, z2, levV_at (HF.out.corner c k (by rw [z3]; simp)).2.1⟩
          have Hmd := Lib.hid hmd
          clear hlev u1 u2 u3 u4 hmd
          go_wp2_with fail
          (with_reducible refine cV.out.mono ?_)
          rintro e w' ⟨rfl, rfl⟩
          clear cV
          by_cases hul : lt = lc
          all_goals
            first
              | (have hq := hap hul
                 subst hul
                 subst hq
                 clear hap
                 go_wp2_with fail
                 (with_reducible refine cT7.out.mono ?_)
                 rintro e w' ⟨rfl, rfl⟩
                 go_upto_region 30 with (fail))
              | (have hq1 : (((lt : Nat) : Int) == ((lc : Nat) : Int)) = false := by simp; omega
                 clear hap
                 go_upto_region 30 with (fail))
          all_goals
            by_cases hm : 0 ≤ xm
            all_goals
              first
                | (obtain ⟨k, lk, hk, hk1, hk2, hk3⟩ := Hmd.out hm
                   subst hk
                   have cM := Lib.hid (lvLevel_in W7 b8 ml8 me8 nl8 Sb8 _ _ _ (HL9.out.below HB7) (k : Nat) (lk : Nat) hk3)
                   clear hk3
                   go_wp2_with fail
                   (with_reducible refine cM.out.mono ?_)
                   rintro e w' ⟨rfl, rfl⟩
                   clear cM
                   go_upto_region 34 with (fail))
                | go_upto_region 34 with (fail)
            all_goals
              have hS0 : W7.cell? (ad.add i) = some (.int .i64 (c : Nat)) ∧ W7.cell? ⟨b19, 0, none⟩ = some (.int .i64 (t : Nat)) := ⟨hE, o0⟩
              have hBQ : Below W7.heap.size W7 W7.drew := bel_drew (Below.refl _ _)
              have kS : W7.drew.cell? (ad.add i) = some (.int .i64 (c : Nat)) ∧ W7.drew.cell? ⟨b19, 0, none⟩ = some (.int .i64 (t : Nat)) := ⟨bel_cell hBQ hE, bel_cell hBQ o0⟩
              have HO := Lib.hid (And.intro o1 o2)
              clear o1 o2 o3
              go_region_held3 (fun w' => w'.cell? (ad.add i) = some (.int .i64 (c : Nat)) ∧ w'.cell? ⟨b19, 0, none⟩ = some (.int .i64 (t : Nat)))
                (first
                  | exact kS
                  | exact hS0)
                (first
                  | (go_at_call 22
                     refine (cU.out _ hBQ).mono ?_
                     rintro e wU ⟨vU, rfl, hOU, hbU⟩
                     have hBU := bel_trans hBQ hbU
                     have kS : wU.cell? (ad.add i) = some (.int .i64 (c : Nat)) ∧ wU.cell? ⟨b19, 0, none⟩ = some (.int .i64 (t : Nat)) := ⟨bel_cell hbU kS.1, bel_cell hbU kS.2⟩))
              obtain ⟨AU, mU, rfl, hIU⟩ := hOU.ints
              have o1 := bel_cell hBU HO.out.1
              have o2 := bel_cell hBU HO.out.2
              obtain ⟨h5, h6⟩ := kS
              have HBU := bel_trans HB7 hBU
              have HBV := Lib.hid (bel_trans HBX hBU)
              obtain ⟨nU, hnU⟩ : ∃ z, (Lu.map fun n : Nat => (n : Int)).length = z := ⟨_, rfl⟩
              rw [hnU] at hIU ⊢
              rw [List.length_map] at hnU
              obtain ⟨z0, z1, z2⟩ := unp_ends HU.out.1
              rw [hnU] at z1 z2
              have cP := Lib.hid (fun w' (hb : Below wU.heap.size wU w') => pricedT w' b7 p7 mb7 S7 g v E7 AU nU mU _ Lu c t ⟨xs, xd⟩ (HG9.out.below (bel_trans HBU hb)) HGs.out (hIU.below hb) hnU getD_map HU.out.2.1 z0 z1 z2 (by rw [← hnU]; exact HU.out.2.2))
              have hS1 : wU.cell? (ad.add i) = some (.int .i64 (c : Nat)) ∧ wU.cell? ⟨b19, 0, none⟩ = some (.int .i64 (t : Nat)) ∧ wU.cell? ⟨b19, 1, none⟩ = some (.int .i64 xs) ∧ wU.cell? ⟨b19, 2, none⟩ = some (.int .i64 xd) := ⟨h5, h6, o1, o2⟩
              have hBR : Below wU.heap.size wU wU.drew := bel_drew (Below.refl _ _)
              have kR : wU.drew.cell? (ad.add i) = some (.int .i64 (c : Nat)) ∧ wU.drew.cell? ⟨b19, 0, none⟩ = some (.int .i64 (t : Nat)) ∧ wU.drew.cell? ⟨b19, 1, none⟩ = some (.int .i64 xs) ∧ wU.drew.cell? ⟨b19, 2, none⟩ = some (.int .i64 xd) := ⟨bel_cell hBR h5, bel_cell hBR h6, bel_cell hBR o1, bel_cell hBR o2⟩
              clear hS0 hOU hIU hbU hBU hBQ hnU z0 z1 cU
              go_upto_region 35 with (fail)
              go_region_held3 (fun w' => w'.cell? (ad.add i) = some (.int .i64 (c : Nat)) ∧ w'.cell? ⟨b19, 0, none⟩ = some (.int .i64 (t : Nat)) ∧ w'.cell? ⟨b19, 1, none⟩ = some (.int .i64 xs) ∧ w'.cell? ⟨b19, 2, none⟩ = some (.int .i64 xd))
                (first
                  | exact kR
                  | exact hS1)
                (first
                  | (go_at_call 23
                     refine (cP.out _ hBR).mono ?_
                     rintro e wP ⟨rfl, hbP⟩
                     have hBP := bel_trans hBR hbP
                     have kR : wP.cell? (ad.add i) = some (.int .i64 (c : Nat)) ∧ wP.cell? ⟨b19, 0, none⟩ = some (.int .i64 (t : Nat)) ∧ wP.cell? ⟨b19, 1, none⟩ = some (.int .i64 xs) ∧ wP.cell? ⟨b19, 2, none⟩ = some (.int .i64 xd) := ⟨bel_cell hbP kR.1, bel_cell hbP kR.2.1, bel_cell hbP kR.2.2.1, bel_cell hbP kR.2.2.2⟩))
              have HF2 := Lib.hid (bel_trans HBV.out hBP)
              clear kR hS1 hBR hbP hBP cP h5 h6 o1 o2
              go_wp2
              go_roundw
              case rel => first | exact ⟨j + 1, by go_num, by omega, HF2.out⟩ | ((repeat apply Exists.intro); exact ⟨⟨j + 1, by go_num, by omega, HF2.out⟩, rfl⟩)
              case measure => simp [intOf]; omega
        · obtain rfl : j = nE := by omega
          have HF2 := Lib.hid (bel_trans HBE hBj)
          clear hBj hE
          go_wp2
          go_roundw
          case rel => first | exact ⟨i + 1, by go_num, by omega, HF2.out⟩ | ((repeat apply Exists.intro); exact ⟨⟨i + 1, by go_num, by omega, HF2.out⟩, rfl⟩)
          case measure => simp [intOf]; omega
    · obtain rfl : i = n := by omega
      have hf := bel_trans HB9 hB
      clear hB
      go_wp2
      go_ret
      exact ⟨rfl, hf⟩
end Go.Proofs.Ytjejkadaafmdcaa
