/- Lemmas of this claim: LevelsSays. -/
import Derived.Test.YtjejkadaafmdcaaGreatKLevelsSays29
import Derived.Test.YtjejkadaafmdcaaGreatKLevelsSays33
import Derived.Test.YtjejkadaafmdcaaGreatRLv9
set_option linter.unusedVariables false
set_option linter.unusedSimpArgs false
/- The law LevelsSays: for any plot, so many levels at most, it returns true. -/
namespace Go.Proofs.YtjejkadaafmdcaaGreat
open Go.RowKit Go.Sort FR Go.Lib
theorem egE_len {g : G} {S : LS} (hn : g.n ≤ 256) : ∀ z L, egE g S z = some L → L.length ≤ 256 := fun z L h => by
  unfold egE at h
  split at h
  · injection h with h; subst h; exact Nat.le_trans (len_EgL _ _ _) hn
  · cases h
theorem egE_key {g : G} {S : LS} : ∀ z, egE g S z ≠ none → ∃ n : Nat, z = n ∧ n < g.n := fun z h => by
  unfold egE at h
  split at h
  · rename_i q
    exact ⟨z.toNat, by omega, q.2.1⟩
  · exact absurd rfl h
set_option maxRecDepth 100000 in
set_option maxHeartbeats 6400000 in
theorem levelsSays (W0 : World) (a b : Int) (A0 : Option Addr) (n0 m0 : Nat) (f0 : Nat → Int) (h0 : SlI W0 A0 n0 f0) (x : Int) (hx : -9223372036854775808 ≤ x ∧ x ≤ 9223372036854775807) :
    Calls Tryz.prog 4 #[.agg #[.int .i64 a, .int .i64 b, .slice A0 n0 m0], .int .i64 x] W0 fun e w' => e = .returned (.bool true) ∧ Below W0.heap.size W0 w' := by
  obtain ⟨hI0, hl0, _⟩ := h0
  have hl0 := Lib.hid hl0
  clear hx
  go_enter Tryz.func4, Tryz.ntmps4
  go_upto_region 1 with (fail)
  refine wp_name ?_
  intro W hW
  have HW : Below W0.heap.size W0 W := by rw [hW]; (repeat' (first | exact Below.refl _ _ | assumption | apply bel_drewN | apply bel_drew | apply bel_alloc | (refine bel_trans ?_ (by assumption))))
  have k0 : ∀ w', Below W.heap.size W w' → w'.cell? ⟨W0.heap.size, 0, none⟩ = some (.int .i64 a : Value) := fun w' hbw => (hbw.cell (p := ⟨W0.heap.size, 0, none⟩) (by rw [hW]; simp <;> omega)).trans (by rw [hW]; go_simp)
  have k1 : ∀ w', Below W.heap.size W w' → w'.cell? ⟨W0.heap.size, 1, none⟩ = some (.int .i64 b : Value) := fun w' hbw => (hbw.cell (p := ⟨W0.heap.size, 1, none⟩) (by rw [hW]; simp <;> omega)).trans (by rw [hW]; go_simp)
  have k2 : ∀ w', Below W.heap.size W w' → w'.cell? ⟨W0.heap.size, 2, none⟩ = some (.slice A0 n0 m0 : Value) := fun w' hbw => (hbw.cell (p := ⟨W0.heap.size, 2, none⟩) (by rw [hW]; simp <;> omega)).trans (by rw [hW]; go_simp)
  clear hW
  go_wp2_with fail
  (with_reducible refine (stairs_true _).mono ?_)
  rintro e w1 ⟨rfl, HB⟩
  go_wp2_with fail
  (with_reducible refine (laid_any a b A0 n0 m0 f0 _ ((hI0.below HW).below HB) hl0.out).mono ?_)
  rintro e w5 (⟨rfl, hb5⟩ | ⟨p, q, g, v, rfl, hp1, hpq, hG, hR, hv0, hv1, hb5⟩)
  · have HB5 := bel_trans (bel_trans HW HB) hb5
    clear hb5 HB k0 k1 k2
    go_upto_region 5 with (fail)
    go_quiet (fail)
    go_wp2
    go_ret
    exact ⟨rfl, bel_drewN HB5⟩
  have HB5 := bel_trans (bel_trans HW HB) hb5
  have hwq : W0.heap.size ≤ q := by have := (bel_trans HW HB).size; omega
  have hgn := G.n_le hG.1
  have en : ((g.n : Nat) : Int) = (g.w : Int) * g.h := by unfold G.n; simp
  have e1 : (g.w : Int) * g.h ≤ (g.n : Nat) := by omega
  have m1 : 0 ≤ (g.w : Int) * g.h := by omega
  obtain ⟨s1, s2⟩ := hR.size
  have hw : IntKind.i64.wrap ((g.w : Int) * g.h) = (g.w : Int) * g.h := IntWalk.i64_in _ (by omega)
  have HG := Lib.hid hG
  have HR := Lib.hid hR
  have Hok := Lib.hid hG.1
  have En := Lib.hid en
  clear en k0 k1 k2 hb5 HB hG hR
  by_cases hbig : 80 < (g.w : Int) * g.h
  · have hd : decide (80 < (g.w : Int) * g.h) = true := by simp; omega
    clear hbig e1 m1
    go_upto_region 5 with (fail)
    go_quiet (fail)
    go_wp2
    go_ret
    exact ⟨rfl, bel_drewN HB5⟩
  have hd : decide (80 < (g.w : Int) * g.h) = false := by simp; omega
  clear hbig e1 m1
  go_upto_region 5 with (fail)
  go_quiet (fail)
  have hG1 : GridAt (w5.drewN nq) p g v := HG.out
  have HR1 : Hid (RGridAt (w5.drewN nq) q g v) := HR
  have HB6 : Below W0.heap.size W0 (w5.drewN nq) := bel_drewN HB5
  clear s1 s2 hw hd HG HR HB5
  generalize w5.drewN nq = w6 at hG1 HR1 HB6 ⊢
  have cN := Lib.hid (graphNew w6 p g v hG1)
  have hq6 := HR1.out.lt
  clear hG1
  go_wp2_with fail
  (with_reducible refine cN.out.mono ?_)
  rintro e w7 ⟨b7, p7, mb7, S7, E7, rfl, hGr, hGs, hS7, hb7⟩
  have HB7 := bel_trans HB6 hb7
  have HR7 := Lib.hid (HR1.out.below hb7 hq6)
  have hq7 : q < w7.heap.size := Nat.lt_of_lt_of_le hq6 hb7.size
  by_cases hm : x < 1 ∨ 6 < x
  · have cL := Lib.hid (lvNew_bad w7 b7 x hm)
    clear hGr hGs hS7 cN HR1 hb7 HR7 HB6 hq7 hq6
    go_wp2_with fail
    (with_reducible refine cL.out.mono ?_)
    rintro e w8 ⟨rfl, hb8⟩
    have HB8 := bel_trans HB7 hb8
    clear cL hb8 HB7
    have hsm : ¬ (1 ≤ x ∧ x ≤ 6) := by omega
    rcases hm with h | h
    · go_wp2_with fail
      (with_reducible refine (same_bad 1 _ (by decide)).mono ?_)
      rintro e w' ⟨rfl, rfl⟩
      go_wp2
      go_ret
      exact ⟨rfl, HB8⟩
    · have h1 : ¬ x < 1 := by omega
      go_wp2_with fail
      (with_reducible refine (same_bad 1 _ (by decide)).mono ?_)
      rintro e w' ⟨rfl, rfl⟩
      go_wp2
      go_ret
      exact ⟨rfl, HB8⟩
  obtain ⟨most, rfl⟩ := Int.eq_ofNat_of_zero_le (show 0 ≤ x by omega)
  have hm1 : 1 ≤ most := by omega
  have hm6 : most ≤ 6 := by omega
  obtain ⟨HF, htp1, htp2⟩ := LS.all_fin Hok.out (cornersN g) (fun n => mem_cornersN) hm1 hm6
  have cL := Lib.hid (lvNew_ok w7 b7 p7 mb7 S7 g v E7 most hGr hGs hm1 hm6)
  obtain ⟨S, hS⟩ : ∃ S, (LS.all g (cornersN g) most).1 = S := ⟨_, rfl⟩
  obtain ⟨tp, htp⟩ : ∃ tp, (LS.all g (cornersN g) most).2 = tp := ⟨_, rfl⟩
  rw [hS, htp] at HF
  rw [htp] at htp1 htp2
  have htp2' : tp ≤ 6 := by omega
  have HF := Lib.hid HF
  have HS := Lib.hid (And.intro hS htp)
  clear hGr hGs hS7 cN HR1 hb7 HB6 hS htp hm
  go_wp2_with fail
  (with_reducible refine cL.out.mono ?_)
  rintro e w8 ⟨b8, ml8, me8, Sb8, nl8, rfl, hLv, _, hb8⟩
  rw [HS.out.1, HS.out.2] at hLv
  have HB8 := bel_trans HB7 hb8
  have HLv := Lib.hid hLv
  have cG := Lib.hid (rGraph w8 q g v (HR7.out.below hb8 hq7))
  have HR8 := Lib.hid (HR7.out.below hb8 hq7)
  have hq8 : q < w8.heap.size := HR8.out.lt
  clear hLv cL HB7 hb8 HR7 hq7
  go_wp2_with fail
  (with_reducible refine cG.out.mono ?_)
  rintro e w9 ⟨b9, mb9, S9, A9, n9, m9, rfl, hGR, _, hne9, hb9⟩
  have HB9 := bel_trans HB8 hb9
  have cR := Lib.hid (rLevels w9 b9 mb9 S9 A9 n9 m9 g Hok.out hGR hne9 most hm1 hm6)
  have HLv := Lib.hid (HLv.out.below hb9)
  have HR9 := Lib.hid (HR8.out.below hb9 hq8)
  have hq9 : q < w9.heap.size := HR9.out.lt
  clear hGR cG HB8 hb9 hne9 hq8
  go_wp2_with fail
  (with_reducible refine cR.out.mono ?_)
  rintro e wA ⟨bA, mlA, meA, SbA, nlA, rfl, hRv, hbA⟩
  rw [HS.out.1, HS.out.2] at hRv
  have HBA := bel_trans HB9 hbA
  have HLv := Lib.hid (HLv.out.below hbA)
  have HRv := Lib.hid hRv
  have HRA := Lib.hid (HR9.out.below hbA hq9)
  have hD := added_same HF.out
  obtain ⟨D, hDD⟩ : ∃ D, sumN (addRE (egE g S)) g.n = D := ⟨_, rfl⟩
  rw [hDD] at hD
  have kA2 : wA.cell? ⟨bA, 2, none⟩ = some (.int .i64 (tp : Nat)) := by simp [World.cell?, hRv.1]
  have cT := Lib.hid (fun w' (hb : Below wA.heap.size wA w') => lvTop w' b8 ml8 me8 nl8 Sb8 (tp : Nat) _ _ (HLv.out.below hb))
  have cA := Lib.hid (fun w' (hb : Below wA.heap.size wA w') => lvAdded w' b8 ml8 me8 nl8 Sb8 (tp : Nat) _ _ g.n D (HLv.out.below hb) (egE_len hgn) egE_key hgn hD)
  have cB := Lib.hid (fun w' (hb : Below wA.heap.size wA w') => by
    have := rAdded w' bA mlA meA nlA SbA (tp : Nat) _ _ g.n (HRv.out.below hb) (egE_len hgn) egE_key hgn
    rw [hDD] at this; exact this)
  have hBQ : Below wA.heap.size wA wA.drew := bel_drew (Below.refl _ _)
  have kS : wA.drew.cell? ⟨bA, 2, none⟩ = some (.int .i64 (tp : Nat)) := bel_cell hBQ kA2
  clear hRv cR HB9 hbA HR9 hq9 hD hDD HR8
  go_upto_region 16 with (fail)
  go_region_held3 (fun w' => w'.cell? ⟨bA, 2, none⟩ = some (.int .i64 (tp : Nat)))
    (first
      | exact kS
      | exact kA2)
    (first
      | (go_at_call 18
         refine (cT.out _ hBQ).mono ?_
         rintro e wT ⟨rfl, rfl⟩)
      | (go_at_call 19
         refine (cA.out _ hBQ).mono ?_
         rintro e wN ⟨rfl, hbN⟩
         have hBQ := bel_trans hBQ hbN
         have kS := bel_cell hbN kS)
      | (go_at_call 20
         refine (cB.out _ hBQ).mono ?_
         rintro e wM ⟨rfl, hbM⟩
         have hBQ := bel_trans hBQ hbM
         have kS := bel_cell hbM kS))
  obtain ⟨WL, rfl⟩ : ∃ W : World, W = wM := ⟨_, rfl⟩
  have HBL := Lib.hid (bel_trans HBA hBQ)
  have HL2 := Lib.hid (HLv.out.below hBQ)
  have HR2 := Lib.hid (HRv.out.below hBQ)
  have HG2 := Lib.hid (HRA.out.below hBQ HRA.out.lt)
  have hmul : IntKind.i64.wrap ((g.w : Int) * g.h) = (g.n : Nat) := by rw [← En.out]; exact IntWalk.i64_in _ (by omega)
  clear hbN hbM hBQ kS kA2 cT cA cB HLv HRv HRA HBA
  go_wp2_with fail
  go_loopw [13] (fun kv wr => ∃ (kk : Nat) (xx : Int), xx = kk - 1 ∧ kk ≤ g.n + 2 ∧ kv = .int .i64 xx ∧ Below WL.heap.size WL wr) (fun kv _ => ((g.n : Int) + 1 - intOf kv).toNat)
  case atStart => exact ⟨0, -1, rfl, by omega, rfl, Below.refl _ _⟩
  case round =>
    obtain ⟨kk, xx, hxx, hkk, rfl, HBr⟩ := hrel
    have hxb1 : -1 ≤ xx := by omega
    have hxb2 : xx ≤ g.n + 1 := by omega
    have Hxx := Lib.hid (And.intro hxx hkk)
    obtain ⟨k1, k2⟩ := (HG2.out.below HBr HG2.out.lt).size
    clear hxx hkk
    go_upto_region 19 with (fail)
    go_quiet (fail)
    have HB5 : Below WL.heap.size WL (wr.drewN nq) := bel_drewN HBr
    clear k1 k2 HBr
    generalize wr.drewN nq = w5 at HB5 ⊢
    by_cases hle : xx ≤ g.n
    · have hxn : kk + 1 ≤ g.n + 2 := by have := Hxx.out; omega
      have hxe : xx + 1 = ((kk + 1 : Nat) : Int) - 1 := by have := Hxx.out; omega
      have HL5 := Lib.hid (HL2.out.below HB5)
      have HR5 := Lib.hid (HR2.out.below HB5)
      have HX := Lib.hid (And.intro hxn hxe)
      clear hxn hxe Hxx
      by_cases hcor : ∃ c : Nat, xx = c ∧ g.Corner c
      · obtain ⟨c, rfl, hc⟩ := hcor
        obtain ⟨L, hL⟩ : ∃ L, EgL S g.n c = L := ⟨_, rfl⟩
        obtain ⟨lc, hlc⟩ : ∃ z, S.lev c = z := ⟨_, rfl⟩
        have hl256 : L.length ≤ 256 := by rw [← hL]; exact Nat.le_trans (len_EgL _ _ _) hgn
        have hEc : egE g S (c : Nat) = some L := by rw [egE_at hc, hL]
        have hVc : levV g S (c : Nat) = some (.int .i64 (lc : Nat)) := by rw [levV_at hc, hlc]
        have cV := Lib.hid (lvLevel_in w5 b8 ml8 me8 nl8 Sb8 (tp : Nat) _ _ HL5.out (c : Nat) (lc : Nat) hVc)
        have cE := Lib.hid (lvEdgesP_in w5 b8 ml8 me8 nl8 Sb8 (tp : Nat) _ _ HL5.out (c : Nat) (lc : Nat) hVc L hEc (by omega))
        have HEc := Lib.hid (And.intro hEc hVc)
        have cU := Lib.hid (fun w' (hb : Below w5.heap.size w5 w') => unpacked w' b8 ml8 me8 nl8 bA mlA meA nlA Sb8 SbA (tp : Nat) g S tp c Hok.out HF.out htp2' (HL5.out.below hb) (HR5.out.below hb) hc)
        clear hEc hVc hL hlc hc
        go_wp2_with fail
        (with_reducible refine cV.out.mono ?_)
        rintro e w' ⟨rfl, rfl⟩
        go_wp2_with fail
        (with_reducible refine cE.out.mono ?_)
        rintro e w6 ⟨vE, rfl, hO6, hb6⟩
        obtain ⟨AE, mE, rfl, hEd⟩ := hO6.eds
        have HB6 := bel_trans HB5 hb6
        have HR6 := HR5.out.below hb6
        have kb0 : w6.cell? ⟨bA, 0, none⟩ = some (.map (some mlA)) := by simp [World.cell?, HR6.1]
        have kb1 : w6.cell? ⟨bA, 1, none⟩ = some (.map (some meA)) := by simp [World.cell?, HR6.1]
        have hlv : (Instr.lookup 53 (.map (some mlA)) (.int .i64 ((c : Nat) : Int)) false).run Tryz.prog w6 = .ok (.int .i64 (lc : Nat)) w6 := by
          have := (HR6.2.1.look (int_fit Tryz.underlying3) Tryz.underlying53 (z := .int .i64 0) (by simp [Tryz.zeroValue3]) ((c : Nat) : Int)).2
          rw [HEc.out.2] at this; exact this
        obtain ⟨_, _, ⟨V, N, q1, q2, q3, _, _, _, _⟩, _⟩ := HR6
        obtain ⟨u, hu⟩ : ∃ u, V (c : Nat) = some u := by
          cases hV : V (c : Nat) with
          | none => have := (q2 (c : Nat)).2 hV; rw [HEc.out.1] at this; cases this
          | some u => exact ⟨u, rfl⟩
        obtain ⟨AV, mV, rfl, hEv⟩ := (q3 (c : Nat) u L hu HEc.out.1).eds
        have hlk : (Instr.lookup 54 (.map (some meA)) (.int .i64 ((c : Nat) : Int)) true).run Tryz.prog w6 = .ok (.tuple #[.slice AV L.length mV, .bool true]) w6 := by
          have := (q1.look (int_fit Tryz.underlying3) Tryz.underlying54 (z := .slice none 0 0) (by simp [Tryz.zeroValue59]) ((c : Nat) : Int)).1
          rw [hu] at this
          exact this
        obtain ⟨nL, hnL⟩ : ∃ nL, L.length = nL := ⟨_, rfl⟩
        have cQ := Lib.hid (sameEdges w6 AE AV nL mE mV L hEd hEv hnL (by omega))
        rw [hnL] at hlk ⊢
        have HB6 := Lib.hid (And.intro HB6 hb6)
        clear q1 q2 q3 hu hEv hEd cE cV hnL hb6 hO6 HEc HR5 HL5
        go_wp2_with fail
        (with_reducible refine cQ.out.mono ?_)
        rintro e w7 ⟨rfl, hb7⟩
        have cU := Lib.hid (cU.out _ (bel_trans HB6.out.2 hb7))
        have HB7 := bel_trans HB6.out.1 hb7
        clear cQ hlk hlv kb0 kb1 hb7
        go_wp2_with fail
        (with_reducible refine cU.out.mono ?_)
        rintro e w8' ⟨rfl, hb8⟩
        have HB8 := bel_trans HB7 hb8
        clear hb8 cU
        go_wp2
        first
          | exact ⟨⟨kk + 1, _, HX.out.2, HX.out.1, by go_num, HB8⟩, by simp [intOf]; omega⟩
          | (go_roundw; (case rel => exact ⟨kk + 1, _, HX.out.2, HX.out.1, by go_num, HB8⟩); (case measure => simp [intOf]; omega))
      · have hno : ¬ (0 ≤ xx ∧ g.Corner xx.toNat) := fun ⟨h1, h2⟩ => hcor ⟨xx.toNat, by omega, h2⟩
        have cV := Lib.hid (lvLevel_out w5 b8 ml8 me8 nl8 Sb8 (tp : Nat) _ _ HL5.out xx (levV_none hno))
        have cE := Lib.hid (lvEdgesP_out w5 b8 ml8 me8 nl8 Sb8 (tp : Nat) _ _ HL5.out xx (levV_none hno))
        have HE0 := Lib.hid (egE_none (S := S) hno)
        clear hcor hno
        go_wp2_with fail
        (with_reducible refine cV.out.mono ?_)
        rintro e w' ⟨rfl, rfl⟩
        go_wp2_with fail
        (with_reducible refine cE.out.mono ?_)
        rintro e w' ⟨rfl, rfl⟩
        have HR6 := HR5.out
        have kb1 : w5.cell? ⟨bA, 1, none⟩ = some (.map (some meA)) := by simp [World.cell?, HR6.1]
        obtain ⟨_, _, ⟨V, N, q1, q2, q3, _, _, _, _⟩, _⟩ := HR6
        have hu : V xx = none := (q2 xx).1 HE0.out
        have hlk : (Instr.lookup 54 (.map (some meA)) (.int .i64 xx) true).run Tryz.prog w5 = .ok (.tuple #[.slice none 0 0, .bool false]) w5 := by
          have := (q1.look (int_fit Tryz.underlying3) Tryz.underlying54 (z := .slice none 0 0) (by simp [Tryz.zeroValue59]) xx).1
          rw [hu] at this
          exact this
        have HB5 := Lib.hid HB5
        clear q1 q2 q3 hu cE cV HE0 HR5 HL5
        go_wp2_with fail
        (with_reducible refine (same_bad 5 _ (by decide)).mono ?_)
        rintro e w' ⟨rfl, rfl⟩
        clear hlk kb1
        go_wp2_with fail
        (with_reducible refine (same_bad 5 _ (by decide)).mono ?_)
        rintro e w' ⟨rfl, rfl⟩
        go_wp2
        first
          | exact ⟨⟨kk + 1, _, HX.out.2, HX.out.1, by go_num, HB5.out⟩, by simp [intOf]; omega⟩
          | (go_roundw; (case rel => exact ⟨kk + 1, _, HX.out.2, HX.out.1, by go_num, HB5.out⟩); (case measure => simp [intOf]; omega))
    · have hf := bel_trans HBL.out HB5
      clear hxb1 hxb2 Hxx HB5
      go_wp2
      go_ret
      exact ⟨rfl, hf⟩
end Go.Proofs.YtjejkadaafmdcaaGreat
