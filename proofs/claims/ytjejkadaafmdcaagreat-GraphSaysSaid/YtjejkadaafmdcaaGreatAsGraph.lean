/- asGraph: the product's graph is the document's. -/
import Derived.Test.YtjejkadaafmdcaaGreatConn
import Derived.Test.YtjejkadaafmdcaaGreatSameE
import Derived.Test.YtjejkadaafmdcaaGreatGSet4
import Derived.Test.YtjejkadaafmdcaaGreatFloodSays
set_option linter.unusedVariables false
set_option linter.unusedSimpArgs false
namespace Go.Proofs.YtjejkadaafmdcaaGreat
open Go.RowKit Go.Sort FR Go.Lib
set_option maxRecDepth 100000 in
set_option maxHeartbeats 6400000 in
theorem asGraph (w : World) (b p2 mb : Nat) (S : List Nat) (g : G) (v : Int) (E : Int → Option (List Ed)) (p : Nat) (A : Option Addr) (n m : Nat) (f : Nat → Int) (h : GraphOf w b p2 mb S g v E) (hS : GSpec g (fun _ _ => True) E) (hR : RGridAt w p g v) (hf : Ints w A n f) (hn : n ≤ 100) :
    Calls Tryz.prog 10 #[.pointer (some ⟨b, 0, none⟩), .pointer (some ⟨p, 0, none⟩), .slice A n m] w fun e w' => e = .returned (.bool true) ∧ Below w.heap.size w w' := by
  have hok := h.2.1.1
  have hNn := G.n_le hok
  have Hok := Lib.hid hok
  have H := Lib.hid h
  have HS := Lib.hid hS
  have HR := Lib.hid hR
  have Hf := Lib.hid hf
  have hpl := hR.lt
  have cG := Lib.hid (rGraph w p g v hR)
  clear h hS hR hf hok
  go_enter Tryz.func10, Tryz.ntmps10
  go_wp2_with fail
  (with_reducible refine cG.out.mono ?_)
  rintro e w1 ⟨bR, mR, SR, AR, nR, mmR, rfl, ⟨hbR, hIR, hnR, hbSR, hER⟩, _, _, hb1⟩
  have hn256 : nR ≤ 256 := by rw [← hnR]; exact corners_le Hok.out
  have H1 := Lib.hid (H.out.below hb1)
  have HR1 := Lib.hid (HR.out.below hb1 hpl)
  have hp1 : p < w1.heap.size := Nat.lt_of_lt_of_le hpl hb1.size
  have cN := Lib.hid (fun w' (hb : Below w1.heap.size w1 w') => (graphNodesC w' b p2 mb S g v E (H1.out.below hb) HS.out.1).mono (R' := fun e w'' => ∃ AN mN, e = .returned (.slice AN nR mN) ∧ Ints w'' AN nR (fun k => (cornersI g).getD k 0) ∧ Below w'.heap.size w' w'') (fun e w'' ⟨AN, mN, h1, _, h3, _, h5⟩ => ⟨AN, mN, by rw [← hnR]; exact h1, by rw [← hnR]; exact h3, h5⟩))
  have cS := Lib.hid (fun w' AN mN (hb : Below w1.heap.size w1 w') hI => sameNumbers w' AN AR nR mN mmR _ hI (hIR.below hb) (by omega))
  have cGr := Lib.hid (fun w' (hb : Below w1.heap.size w1 w') => graphGrid w' b p2 mb S g v E (H1.out.below hb))
  have cA := Lib.hid (fun w' q (hb : Below w1.heap.size w1 w') hq => asGrid w' q p g v hq (HR1.out.below hb hp1))
  have kR0 : w1.cell? ⟨bR, 0, none⟩ = some (.slice AR nR mmR) := by simp [World.cell?, hbR]
  have kR1 : w1.cell? ⟨bR, 1, none⟩ = some (.map (some mR)) := by simp [World.cell?, hbR]
  have HkR1 := Lib.hid kR1
  have HER := Lib.hid hER
  have HnR := Lib.hid hnR
  have hBQ : Below w1.heap.size w1 w1.drew := bel_drew (Below.refl _ _)
  have kS : w1.drew.cell? ⟨bR, 0, none⟩ = some (.slice AR nR mmR) := bel_cell hBQ kR0
  clear hbR hIR hER hnR kR1 cG
  go_upto_region 2 with (fail)
  go_region_held3 (fun w' => w'.cell? ⟨bR, 0, none⟩ = some (.slice AR nR mmR))
    (first
      | exact kS
      | exact kR0)
    (first
      | (go_at_call 44
         refine (cN.out _ hBQ).mono ?_
         rintro e wN ⟨AN, mN, rfl, hIN, hbN⟩
         have hBQ := bel_trans hBQ hbN
         have kS := bel_cell hbN kS)
      | (go_at_call 49
         refine (cS.out _ AN mN hBQ hIN).mono ?_
         rintro e wS ⟨rfl, hbS⟩
         have hBQ := bel_trans hBQ hbS
         have kS := bel_cell hbS kS)
      | (go_at_call 51
         refine (cGr.out _ hBQ).mono ?_
         rintro e wG ⟨q, rfl, hGq, _, hbG⟩
         have hBQ := bel_trans hBQ hbG
         have kS := bel_cell hbG kS)
      | (go_at_call 50
         refine (cA.out _ q hBQ hGq).mono ?_
         rintro e wA ⟨rfl, hbA⟩
         have hBQ := bel_trans hBQ hbA
         have kS := bel_cell hbA kS))
  have HBA := bel_trans hb1 hBQ
  have HA := Lib.hid (H1.out.below hBQ)
  have HRA := Lib.hid (HR1.out.below hBQ hp1)
  have HEA := Lib.hid (HER.out.below hBQ)
  have HIA := Lib.hid (Hf.out.below HBA)
  have kR1 := bel_cell hBQ HkR1.out
  have Hk0 := Lib.hid kS
  have Hk1 := Lib.hid kR1
  have hmul : IntKind.i64.wrap ((g.w : Int) * g.h) = (g.n : Nat) := by
    have e : ((g.n : Nat) : Int) = (g.w : Int) * g.h := by unfold G.n; simp
    rw [← e]; exact IntWalk.i64_in _ (by omega)
  have HES := Lib.hid (EGr_spec g)
  clear hIN hbN hbS hGq hbG hbA kS kR1 kR0 cN cS cGr cA hb1 hBQ H1 HR1 HER H HR
  go_wp2_with fail
  obtain ⟨W, rfl⟩ : ∃ W : World, W = wA := ⟨_, rfl⟩
  go_loopw [8] (fun kv wr => ∃ (kk : Nat) (xx : Int), xx = kk - 1 ∧ kk ≤ g.n + 2 ∧ kv = .int .i64 xx ∧ Below W.heap.size W wr) (fun kv _ => ((g.n : Int) + 1 - intOf kv).toNat)
  case atStart => exact ⟨0, -1, rfl, by omega, rfl, Below.refl _ _⟩
  case round =>
    obtain ⟨kk, xx, hxx, hkk, rfl, HBr⟩ := hrel
    have hxb1 : -1 ≤ xx := by omega
    have hxb2 : xx ≤ g.n + 1 := by omega
    have Hxx := Lib.hid hxx
    have hRr := HRA.out.below HBr HRA.out.lt
    obtain ⟨k1, k2⟩ := hRr.size
    clear hxx
    go_upto_region 5 with (fail)
    go_quiet (fail)
    have HB5 : Below W.heap.size W (wr.drewN nq) := bel_drewN HBr
    clear k1 k2 hRr HBr
    generalize wr.drewN nq = w5 at HB5 ⊢
    by_cases hle : xx ≤ g.n
    · have hxn : kk + 1 ≤ g.n + 2 := by have := Hxx.out; omega
      have hxe : xx + 1 = ((kk + 1 : Nat) : Int) - 1 := by have := Hxx.out; omega
      have HG5 := Lib.hid (HA.out.below HB5)
      by_cases hcor : ∃ c : Nat, xx = c ∧ g.Corner c
      · obtain ⟨c, hxc, hc⟩ := hcor
        obtain ⟨L, hL, _, _, hL1000, _⟩ := (GSpec.sp HS.out).facts hNn (fun c hc => hc.1) hc
        have hne : EGr g nR xx ≠ none := by rw [← HnR.out]; exact (HES.out.1 xx).2 ⟨c, hxc, hc⟩
        obtain ⟨L', hL'⟩ : ∃ L', EGr g nR xx = some L' := by
          cases h : EGr g nR xx with
          | none => exact absurd h hne
          | some L' => exact ⟨L', rfl⟩
        rw [← hxc] at hL
        have hLL : L = L' := by
          have h1 := HES.out
          rw [HnR.out] at h1
          rw [hxc] at hL hL'
          exact GSpec.one HS.out h1 hL hL'
        subst hLL
        have cE := Lib.hid (graphEdges w5 b p2 mb S g v E HG5.out xx L hL (by omega))
        have HL' := Lib.hid hL'
        clear hL hne hL' hc hxc
        go_wp2_with fail
        (with_reducible refine cE.out.mono ?_)
        rintro e w6 ⟨AE, mE, rfl, hEd, _, hb6⟩
        have HB6 := bel_trans HB5 hb6
        obtain ⟨V, N, q1, q2, q3, _, _, _, _⟩ := HEA.out.below HB6
        obtain ⟨u, hu⟩ : ∃ u, V xx = some u := by
          cases hV : V xx with
          | none => have := (q2 xx).2 hV; rw [HL'.out] at this; cases this
          | some u => exact ⟨u, rfl⟩
        obtain ⟨AV, mV, rfl, hEv⟩ := (q3 xx u L hu HL'.out).eds
        have hlk : (Instr.lookup 54 (.map (some mR)) (.int .i64 xx) true).run Tryz.prog w6 = .ok (.tuple #[.slice AV L.length mV, .bool true]) w6 := by
          have := (q1.look (int_fit Tryz.underlying3) Tryz.underlying54 (z := .slice none 0 0) (by simp [Tryz.zeroValue59]) xx).1
          rw [hu] at this
          exact this
        obtain ⟨nL, hnL⟩ : ∃ nL, L.length = nL := ⟨_, rfl⟩
        have k1 := bel_cell HB6 Hk1.out
        have cQ := Lib.hid (sameEdges w6 AE AV nL mE mV L hEd hEv hnL (by omega))
        rw [hnL] at hlk ⊢
        clear q1 q2 q3 hu hEv hEd cE hnL HL' hb6
        go_wp2_with fail
        (with_reducible refine cQ.out.mono ?_)
        rintro e w7 ⟨rfl, hb7⟩
        have HB7 := bel_trans HB6 hb7
        clear cQ hlk
        go_wp2
        first
          | exact ⟨⟨kk + 1, _, hxe, hxn, by go_num, HB7⟩, by simp [intOf]; omega⟩
          | (go_roundw; (case rel => exact ⟨kk + 1, _, hxe, hxn, by go_num, HB7⟩); (case measure => simp [intOf]; omega))
      · have hE0 : E xx = none := by
          cases h : E xx with
          | none => rfl
          | some L => exact absurd ((HS.out.1 xx).1 (by rw [h]; simp)) hcor
        have hE1 : EGr g nR xx = none := by
          rw [← HnR.out]
          cases h : EGr g (cornersI g).length xx with
          | none => rfl
          | some L => exact absurd ((HES.out.1 xx).1 (by rw [h]; simp)) hcor
        have HE1 := Lib.hid hE1
        have cE := Lib.hid (graphEdges_none w5 b p2 mb S g v E HG5.out xx hE0)
        clear hE0 hE1 hcor
        go_wp2_with fail
        (with_reducible refine cE.out.mono ?_)
        rintro e w6 ⟨rfl, hb6⟩
        have HB6 := bel_trans HB5 hb6
        obtain ⟨V, N, q1, q2, q3, _, _, _, _⟩ := HEA.out.below HB6
        have hu : V xx = none := (q2 xx).1 HE1.out
        have hlk : (Instr.lookup 54 (.map (some mR)) (.int .i64 xx) true).run Tryz.prog w6 = .ok (.tuple #[.slice none 0 0, .bool false]) w6 := by
          have := (q1.look (int_fit Tryz.underlying3) Tryz.underlying54 (z := .slice none 0 0) (by simp [Tryz.zeroValue59]) xx).1
          rw [hu] at this
          exact this
        have k1 := bel_cell HB6 Hk1.out
        clear q1 q2 q3 hu cE HE1 hb6
        go_wp2_with fail
        (with_reducible refine (same_bad 5 _ (by decide)).mono ?_)
        rintro e w' ⟨rfl, rfl⟩
        clear hlk
        go_wp2
        first
          | exact ⟨⟨kk + 1, _, hxe, hxn, by go_num, HB6⟩, by simp [intOf]; omega⟩
          | (go_roundw; (case rel => exact ⟨kk + 1, _, hxe, hxn, by go_num, HB6⟩); (case measure => simp [intOf]; omega))
    · clear hxb1 hxb2 Hxx hkk
      go_wp2_with fail
      obtain ⟨W5, rfl⟩ : ∃ W5 : World, W5 = w5 := ⟨_, rfl⟩
      go_loopw [13] (fun kv wr => ∃ i : Nat, kv = .int .i64 i ∧ i ≤ n ∧ Below W5.heap.size W5 wr) (fun kv _ => n - (intOf kv).toNat)
      case atStart => exact ⟨0, rfl, by omega, Below.refl _ _⟩
      case round =>
        obtain ⟨i, rfl, hi, HB6⟩ := hrel
        have HBr := bel_trans HB5 HB6
        by_cases hlt : i < n
        · have hIr := HIA.out.below HBr
          obtain ⟨ad, hA⟩ := hIr.addr (by omega)
          rw [hA] at hIr
          have hix := fun wx => idx_run (m := m) hA hlt wx
          have hE := hIr.cell (Below.refl _ _) hlt
          obtain ⟨x, hx⟩ : ∃ x, f i = x := ⟨_, rfl⟩
          rw [hx] at hE
          have HGr := Lib.hid (HA.out.below HBr)
          have hpW : p < W.heap.size := HRA.out.lt
          have HRr := Lib.hid (HRA.out.below HBr hpW)
          have hpr := HRr.out.lt
          obtain ⟨fl, hfl⟩ : ∃ z, g.fault x = z := ⟨_, rfl⟩
          have cF := Lib.hid (fun w' (hb : Below wr.heap.size wr w') => rFault w' p g v x (HRr.out.below hb hpr))
          rw [hfl] at cF
          have Hfl := Lib.hid hfl
          clear hIr hA hx hfl
          by_cases h0 : fl = 0
          · subst h0
            have hxin : 0 ≤ x ∧ x < g.n := by
              have := Hfl.out
              by_cases h : x < 0 ∨ (g.n : Int) ≤ x
              · rw [G.fault_out h] at this; cases this
              · omega
            obtain ⟨c, rfl⟩ := Int.eq_ofNat_of_zero_le hxin.1
            have hc : c < g.n := by omega
            have hfc : g.b c = false := by
              have := Hfl.out
              rw [G.fault_in hc] at this
              cases h : g.b c with
              | false => rfl
              | true => rw [h] at this; cases this
            have cC := Lib.hid (graphConnect wr b p2 mb S g v c E HGr.out HS.out.1 hc hfc)
            have cR := Lib.hid (fun w' (hb : Below wr.heap.size wr w') => rConn w' p g v c (HRr.out.below hb hpr) hc)
            obtain ⟨L, hLe⟩ : ∃ L, eUp g c true (cornersI g).length = L := ⟨_, rfl⟩
            have hll := eUp_len g c true (cornersI g).length
            have hlc := corners_le Hok.out
            rw [hLe] at cC cR hll
            obtain ⟨nL, hnL⟩ : ∃ nL, L.length = nL := ⟨_, rfl⟩
            have HnL := Lib.hid hnL
            have hnL2 : nL ≤ 256 := by omega
            clear hfc hLe hnL hxin hll hlc
            go_wp2_with fail
            (with_reducible refine cC.out.mono ?_)
            rintro e w7 ⟨vE, rfl, hO7, hb7⟩
            obtain ⟨AE, mE, rfl, hE7⟩ := hO7.eds
            rw [HnL.out]
            have HE7 := Lib.hid hE7
            have hE := bel_cell hb7 hE
            clear hO7 hE7 cC
            go_wp2_with fail
            (with_reducible refine (cF.out _ hb7).mono ?_)
            rintro e w8 ⟨rfl, hb8⟩
            have HB8 := bel_trans hb7 hb8
            have hE := bel_cell hb8 hE
            have HE8 := Lib.hid (HE7.out.kept (T := []) (.of_below hb8) (fun _ _ => by simp))
            clear hb7 HE7
            go_wp2_with fail
            (with_reducible refine (same_ok _).mono ?_)
            rintro e w' ⟨rfl, rfl⟩
            go_wp2_with fail
            (with_reducible refine (cR.out _ HB8).mono ?_)
            rintro e w9 ⟨vR, rfl, hO9, hb9⟩
            obtain ⟨AV, mV, rfl, hE9⟩ := hO9.eds
            rw [HnL.out]
            have HB9 := bel_trans HB8 hb9
            have cQ := Lib.hid (sameEdges w9 AE AV nL mE mV L (HE8.out.kept (T := []) (.of_below hb9) (fun _ _ => by simp)) hE9 HnL.out (by omega))
            clear hO9 hE9 cR hb8
            go_wp2_with fail
            (with_reducible refine cQ.out.mono ?_)
            rintro e w10 ⟨rfl, hb10⟩
            have HB10 := bel_trans HB6 (bel_trans HB9 hb10)
            clear cQ
            go_wp2
            first
              | exact ⟨⟨i + 1, by go_num, by omega, HB10⟩, by simp [intOf]; omega⟩
              | (go_roundw; (case rel => exact ⟨i + 1, by go_num, by omega, HB10⟩); (case measure => simp [intOf]; omega))
          · have cC := Lib.hid (graphConnect_bad wr b p2 mb S g v x fl E HGr.out Hfl.out h0)
            have hf0 : (0 : Int) < (fl : Nat) := by omega
            go_wp2_with fail
            (with_reducible refine cC.out.mono ?_)
            rintro e w7 ⟨rfl, hb7⟩
            have hE := bel_cell hb7 hE
            clear cC
            go_wp2_with fail
            (with_reducible refine (cF.out _ hb7).mono ?_)
            rintro e w8 ⟨rfl, hb8⟩
            have HB8 := bel_trans HB6 (bel_trans hb7 hb8)
            go_wp2_with fail
            (with_reducible refine (same_bad (fl : Nat) _ hf0).mono ?_)
            rintro e w' ⟨rfl, rfl⟩
            have hg0 : decide ((0 : Int) < (fl : Nat)) = true := by simpa using hf0
            have hg1 : ((fl : Int) == 0) = false := by simp; omega
            go_wp2
            first
              | exact ⟨⟨i + 1, by go_num, by omega, HB8⟩, by simp [intOf]; omega⟩
              | (go_roundw; (case rel => exact ⟨i + 1, by go_num, by omega, HB8⟩); (case measure => simp [intOf]; omega))
        · obtain rfl : i = n := by omega
          have HBF := bel_trans HBA HBr
          go_wp2
          go_ret
          exact ⟨rfl, HBF⟩
end Go.Proofs.YtjejkadaafmdcaaGreat
