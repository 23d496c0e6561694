/- The law TopRepair: for any plot, and any cells, it returns true. -/
import Derived.Test.YtjejkadaafmdcaaGSet4
import Derived.Test.YtjejkadaafmdcaaSameE
import Derived.Test.YtjejkadaafmdcaaFloodSays
set_option linter.unusedVariables false
set_option linter.unusedSimpArgs false
namespace Go.Proofs.Ytjejkadaafmdcaa
open Go.RowKit Go.Sort FR
/-- what holds while cells are set -/
def RepI (W0 : World) (p q b p2 mb k : Nat) (wr : World) : Prop :=
  ∃ g v S E, GridAt wr p g v ∧ RGridAt wr q g v ∧ GraphOf wr b p2 mb S g v E ∧ GSpec g (fun _ _ => True) E ∧ p ∉ b :: p2 :: mb :: S ∧ q ∉ b :: p2 :: mb :: S ∧ p ≠ q ∧ (∀ s ∈ b :: p2 :: mb :: S, W0.heap.size ≤ s) ∧ W0.heap.size ≤ p ∧ W0.heap.size ≤ q ∧ 0 ≤ v ∧ v ≤ 1000 + k ∧ g.w * g.h ≤ 100 ∧ Below W0.heap.size W0 wr
theorem notmem_more {x b p2 mb : Nat} {S S' : List Nat} {w : World} (h : x ∉ b :: p2 :: mb :: S) (hl : x < w.heap.size) (hS : ∀ k ∈ S', k ∈ S ∨ w.heap.size ≤ k) : x ∉ b :: p2 :: mb :: S' := fun hm => by
  rcases List.mem_cons.1 hm with r | hm
  · exact h (by simp [r])
  rcases List.mem_cons.1 hm with r | hm
  · exact h (by simp [r])
  rcases List.mem_cons.1 hm with r | hm
  · exact h (by simp [r])
  rcases hS x hm with r | r
  · exact h (by simp [r])
  · omega
theorem mem_ge {b p2 mb B : Nat} {S S' : List Nat} {w : World} (h : ∀ s ∈ b :: p2 :: mb :: S, B ≤ s) (hl : B ≤ w.heap.size) (hS : ∀ k ∈ S', k ∈ S ∨ w.heap.size ≤ k) : ∀ s ∈ b :: p2 :: mb :: S', B ≤ s := fun s hm => by
  rcases List.mem_cons.1 hm with r | hm
  · exact h s (by simp [r])
  rcases List.mem_cons.1 hm with r | hm
  · exact h s (by simp [r])
  rcases List.mem_cons.1 hm with r | hm
  · exact h s (by simp [r])
  rcases hS s hm with r | r
  · exact h s (by simp [r])
  · omega
theorem fresh33 : (gset ⟨(3 : Int).toNat, (3 : Int).toNat, fun _ => false⟩ 4 true) = g33 := rfl
set_option maxRecDepth 100000 in
set_option maxHeartbeats 6400000 in
theorem topRepair (W0 : World) (a b : Int) (A0 : Option Addr) (n0 m0 : Nat) (f0 : Nat → Int) (h0 : SlI W0 A0 n0 f0) (A : Option Addr) (n m : Nat) (f : Nat → Int) (hf : SlI W0 A n f) :
    Calls Try.prog 4 #[.agg #[.int .i64 a, .int .i64 b, .slice A0 n0 m0], .slice A n m] W0 fun e w' => e = .returned (.bool true) ∧ Below W0.heap.size W0 w' := by
  obtain ⟨hI0, hl0, _⟩ := h0
  obtain ⟨hI, hl, _⟩ := hf
  have hl0 := Lib.hid hl0
  have hl := Lib.hid hl
  have HI := Lib.hid hI
  clear hI
  go_enter Try.func4, Try.ntmps4
  go_upto_region 1 with (fail)
  refine wp_name ?_
  intro W hW
  have HW : Below W0.heap.size W0 W := by rw [hW]; (repeat' (first | exact Below.refl _ _ | assumption | apply bel_drewN | apply bel_drew | apply bel_alloc | (refine bel_trans ?_ (by assumption))))
  have k0 : ∀ w', Below W.heap.size W w' → w'.cell? ⟨W0.heap.size, 0, none⟩ = some (.int .i64 a : Value) := fun w' hbw => (hbw.cell (p := ⟨W0.heap.size, 0, none⟩) (by rw [hW]; simp <;> omega)).trans (by rw [hW]; go_simp)
  have k1 : ∀ w', Below W.heap.size W w' → w'.cell? ⟨W0.heap.size, 1, none⟩ = some (.int .i64 b : Value) := fun w' hbw => (hbw.cell (p := ⟨W0.heap.size, 1, none⟩) (by rw [hW]; simp <;> omega)).trans (by rw [hW]; go_simp)
  have k2 : ∀ w', Below W.heap.size W w' → w'.cell? ⟨W0.heap.size, 2, none⟩ = some (.slice A0 n0 m0 : Value) := fun w' hbw => (hbw.cell (p := ⟨W0.heap.size, 2, none⟩) (by rw [hW]; simp <;> omega)).trans (by rw [hW]; go_simp)
  clear hW
  go_wp2_with fail
  (with_reducible refine (gridNew_ex 3 3 _ (by decide)).mono ?_)
  rintro e w1 ⟨p0, rfl, hp0, hG, hb1⟩
  have cN := Lib.hid (graphNew w1 p0 _ _ hG)
  clear hG
  go_wp2_with fail
  (with_reducible refine cN.out.mono ?_)
  rintro e w2 ⟨b3, p3, mb3, S3, E3, rfl, hGr, hGs, hS3, hb2⟩
  have HB2 := bel_trans hb1 hb2
  have hg1 := hb1.size
  have cS := Lib.hid (graphSet_new w2 b3 p3 mb3 S3 _ _ E3 4 true hGr hGs (by decide) (by decide) (by decide))
  rw [fresh33] at cS
  clear hGr hGs hb1 hb2 cN
  go_wp2_with fail
  (refine cS.out.mono ?_)
  rintro e w3 ⟨rfl, S4, E4, hGr, hGs, hS4, hK3⟩
  have HB3 : Below W.heap.size W w3 := Kept.below HB2 hK3 HB2.size (fun s hs => by
    refine Nat.le_trans hg1 (hS3 s ?_)
    rcases List.mem_cons.1 hs with r | hs
    · simp [r]
    rcases List.mem_cons.1 hs with r | hs
    · simp [r]
    simp [hs])
  have cD := graphNodes w3 b3 p3 mb3 S4 g33 (0 + 1) E4 hGr hGs.1
  rw [corners33] at cD
  have cD := Lib.hid cD
  clear hGr hGs hK3 HB2 cS hS3 hS4 hg1
  go_wp2_with fail
  (with_reducible refine cD.out.mono ?_)
  rintro e w4 ⟨A4, m4, rfl, hI4, hb4⟩
  have HB4 := bel_trans HB3 hb4
  clear hI4 hb4 HB3 cD
  go_wp2_with fail
  (with_reducible refine (laid_any a b A0 n0 m0 f0 _ ((hI0.below HW).below HB4) hl0.out).mono ?_)
  rintro e w5 (⟨rfl, hb5⟩ | ⟨p, q, g, v, rfl, hp1, hpq, hG, hR, hv0, hv1, hb5⟩)
  · have HB5 := bel_trans (bel_trans HW HB4) hb5
    clear hb5 HB4 k0 k1 k2
    go_upto_region 11 with (fail)
    go_quiet (fail)
    go_wp2
    go_ret
    exact ⟨rfl, bel_drewN HB5⟩
  have hWp : W0.heap.size ≤ p := by have := (bel_trans HW HB4).size; omega
  have HB5 := bel_trans (bel_trans HW HB4) hb5
  have hok := hG.1
  have hgn := G.n_le hok
  obtain ⟨o1, o2, o3, o4⟩ := hok
  have en : ((g.n : Nat) : Int) = (g.w : Int) * g.h := by unfold G.n; simp
  have e1 : (g.w : Int) * g.h ≤ (g.n : Nat) := by omega
  have m1 : 0 ≤ (g.w : Int) * g.h := by omega
  obtain ⟨s1, s2⟩ := hR.size
  have hw : IntKind.i64.wrap ((g.w : Int) * g.h) = (g.w : Int) * g.h := IntWalk.i64_in _ (by omega)
  have HG := Lib.hid hG
  have HR := Lib.hid hR
  clear k0 k1 k2 hb5 HB4 hG hR
  by_cases hn30 : 30 < n
  · have hd1 : decide (30 < n) = true := by simpa using hn30
    have hd2 : decide ((30 : Int) < (n : Int)) = true := by simp; omega
    clear en e1 m1
    go_upto_region 11 with (fail)
    go_quiet (fail)
    go_wp2
    go_ret
    exact ⟨rfl, bel_drewN HB5⟩
  have hd1 : decide (30 < n) = false := by simpa using hn30
  have hd2 : decide ((30 : Int) < (n : Int)) = false := by simp; omega
  by_cases hbig : 100 < (g.w : Int) * g.h
  · have hd : decide (100 < (g.w : Int) * g.h) = true := by simp; omega
    clear hbig e1 m1 en
    go_upto_region 11 with (fail)
    go_quiet (fail)
    go_wp2
    go_ret
    exact ⟨rfl, bel_drewN HB5⟩
  · have hd : decide (100 < (g.w : Int) * g.h) = false := by simp; omega
    have hwh : g.w * g.h ≤ 100 := by
      have : ((g.w * g.h : Nat) : Int) = (g.w : Int) * g.h := by simp
      omega
    clear hbig e1 m1 en
    go_upto_region 11 with (fail)
    go_quiet (fail)
    have hG1 : GridAt (w5.drewN nq) p g v := HG.out
    have HR1 : Hid (RGridAt (w5.drewN nq) q g v) := HR
    have HB6 : Below W0.heap.size W0 (w5.drewN nq) := bel_drewN HB5
    clear s1 s2 hw hd hd1 hd2 HG HR HB5
    generalize w5.drewN nq = w6 at hG1 HR1 HB6 ⊢
    have cN := Lib.hid (graphNew w6 p g v hG1)
    have HG1 := Lib.hid hG1
    clear hG1
    go_wp2_with fail
    (with_reducible refine cN.out.mono ?_)
    rintro e w7 ⟨b7, p7, mb7, S7, E7, rfl, hGr, hGs, hnew, hb7⟩
    have hstart : RepI W0 p q b7 p7 mb7 0 w7 := by
      have l1 := HG1.out.lt
      have l2 := HR1.out.lt
      have l3 := HB6.size
      refine ⟨g, v, S7, E7, HG1.out.below hb7 l1, HR1.out.below hb7 l2, hGr, hGs, fun hm => ?_, fun hm => ?_, by omega, fun s hs => Nat.le_trans l3 (hnew s hs), hWp, by omega, by omega, by omega, hwh, bel_trans HB6 hb7⟩
      · have := hnew _ hm; omega
      · have := hnew _ hm; omega
    clear hGr hGs hnew hb7 HG1 HR1 HB6 cN
    go_wp2_with fail
    go_loopw [12] (fun i wr => ∃ k : Nat, k ≤ n ∧ i = .int .i64 k ∧ RepI W0 p q b7 p7 mb7 k wr) (fun i _ => n - (intOf i).toNat)
    case atStart => exact ⟨0, by omega, rfl, hstart⟩
    case round =>
      obtain ⟨k, hk, rfl, hrep⟩ := hrel
      clear hstart
      obtain ⟨g, v, S, E, hG, hR, hGr, hGs, hpS, hqS, hpq2, hge, hp0', hq0', hv0', hv1', hwh', HB⟩ := hrep
      by_cases hlt : k < n
      · obtain ⟨ad, hA⟩ := HI.out.addr (by omega)
        have hI' := HI.out
        rw [hA] at hI'
        have hix := fun wx => idx_run (m := m) hA hlt wx
        have HI' := Lib.hid hI'
        have hE := hI'.cell HB hlt
        clear hA hI'
        by_cases hin : 0 ≤ f k ∧ f k < g.n
        · obtain ⟨i0, i1⟩ := hin
          obtain ⟨c, hc⟩ := Int.eq_ofNat_of_zero_le i0
          have hcn : c < g.n := by omega
          have hn256 := G.n_le hR.1
          rw [hc] at hE
          have Hc := Lib.hid hc
          have hpl := hG.lt
          have cI := Lib.hid (rIs_in wr q g v c hR hcn)
          have HH := Lib.hid (And.intro hG (And.intro hR (And.intro hGr (And.intro hGs (And.intro hpS (And.intro hqS hge))))))
          clear hG hR hGr hGs hpS hqS hge i0 i1 hc
          go_wp2_with fail
          (with_reducible refine cI.out.mono ?_)
          rintro e w8 ⟨rfl, hb8⟩
          have HB8 := bel_trans HB hb8
          have hG8 := HH.out.1.below hb8 HH.out.1.lt
          have hR8 := HH.out.2.1.below hb8 HH.out.2.1.lt
          have hGr8 := HH.out.2.2.1.below hb8
          clear hE
          have hE := HI'.out.cell HB8 hlt
          rw [Hc.out] at hE
          have hbit := hR8.bit c (by omega)
          have q3 : (c : Int) < 256 := by omega
          have HG8 := Lib.hid hG8
          have HR8 := Lib.hid hR8
          have HGr8 := Lib.hid hGr8
          clear hb8 HB hG8 hR8 hGr8 cI
          go_wp2_with fail
          go_quiet (fail)
          have hG9 : GridAt (w8.drewN nq) p g v := HG8.out
          have hR9 : RGridAt (w8.drewN nq) q g v := HR8.out
          have hGr9 : GraphOf (w8.drewN nq) b7 p7 mb7 S g v E := HGr8.out
          have HB9 : Below W0.heap.size W0 (w8.drewN nq) := bel_drewN HB8
          clear hE hbit HG8 HR8 HGr8 HB8
          generalize w8.drewN nq = w9 at hG9 hR9 hGr9 HB9 ⊢
          have hE := HI'.out.cell HB9 hlt
          rw [Hc.out] at hE
          have cG := Lib.hid (gridSet_new w9 p g v c (!g.b c) hG9 hcn (by simp) ⟨by omega, by omega⟩)
          have cS := Lib.hid (fun w' h' => graphSet_new w' b7 p7 mb7 S g v E c (!g.b c) h' HH.out.2.2.2.1 hcn (by simp) ⟨by omega, by omega⟩)
          have cR := Lib.hid (fun w' h' => rSet_new w' q g v c (!g.b c) h' hcn (by simp) ⟨by omega, by omega⟩)
          obtain ⟨nb, hnb⟩ : ∃ nb, (!g.b c) = nb := ⟨_, rfl⟩
          rw [hnb] at cG cS cR ⊢
          have HR9 := Lib.hid hR9
          have HGr9 := Lib.hid hGr9
          clear hnb hG9 hR9 hGr9
          go_wp2_with fail
          (with_reducible refine cG.out.mono ?_)
          rintro e wa ⟨rfl, hGa, hka⟩
          have hRa := HR9.out.kept hka (by simpa using Ne.symm hpq2)
          have hGra := HGr9.out.kept hka (fun s hs => by simp; rintro rfl; exact HH.out.2.2.2.2.1 hs)
          have HBa := Kept.below HB9 hka HB9.size (by simp; omega)
          have hE := HI'.out.cell HBa hlt
          rw [Hc.out] at hE
          have HGa := Lib.hid hGa
          have HRa := Lib.hid hRa
          have cS := Lib.hid (cS.out wa hGra)
          clear hGa hRa hGra hka HB9 HR9 HGr9 cG
          go_wp2_with fail
          (refine cS.out.mono ?_)
          rintro e wb ⟨rfl, S', E', hGrb, hGsb, hSb, hkb⟩
          have hsub : ∀ x, x ∉ b7 :: p7 :: mb7 :: S → x ∉ p7 :: mb7 :: S := fun x hx hm => hx (List.mem_cons_of_mem _ hm)
          have hGb := HGa.out.kept hkb (hsub _ HH.out.2.2.2.2.1)
          have hRb := HRa.out.kept hkb (hsub _ HH.out.2.2.2.2.2.1)
          have HBb := Kept.below HBa hkb HBa.size (fun s hs => HH.out.2.2.2.2.2.2 s (List.mem_cons_of_mem _ hs))
          have hpS' := notmem_more HH.out.2.2.2.2.1 HGa.out.lt hSb
          have hqS' := notmem_more HH.out.2.2.2.2.2.1 HRa.out.lt hSb
          have hge' := mem_ge HH.out.2.2.2.2.2.2 HBa.size hSb
          have hE := HI'.out.cell HBb hlt
          rw [Hc.out] at hE
          have cR := Lib.hid (cR.out wb hRb)
          have HGb := Lib.hid hGb
          have HGrb := Lib.hid hGrb
          have HGsb := Lib.hid hGsb
          have Hdis := Lib.hid (And.intro hpS' (And.intro hqS' hge'))
          clear hGb hRb hGrb hGsb hkb HBa HGa HRa cS hpS' hqS' hge' hSb hsub
          go_wp2_with fail
          (with_reducible refine cR.out.mono ?_)
          rintro e wc ⟨rfl, hRc, hkc⟩
          have hfin : RepI W0 p q b7 p7 mb7 (k + 1) wc := by
            refine ⟨gset g c nb, v + 1, S', E', HGb.out.kept hkc (by simpa using hpq2), hRc, HGrb.out.kept hkc (fun s hs => by simp; rintro rfl; exact Hdis.out.2.1 hs), HGsb.out, Hdis.out.1, Hdis.out.2.1, hpq2, Hdis.out.2.2, hp0', hq0', by omega, by omega, hwh', Kept.below HBb hkc HBb.size (by simp; omega)⟩
          have hfin := Lib.hid hfin
          clear hRc hkc HBb cR hE
          go_wp2
          go_roundw
          case rel => exact ⟨k + 1, by omega, by go_num, hfin.out⟩
          case measure => simp [intOf]; omega
        · have hout : f k < 0 ∨ g.n ≤ f k := by omega
          have cI := Lib.hid (rIs_out wr q g v (f k) hR hout)
          have hrest : ∀ w', Below wr.heap.size wr w' → RepI W0 p q b7 p7 mb7 (k + 1) w' := fun w' hb => ⟨g, v, S, E, hG.below hb hG.lt, hR.below hb hR.lt, hGr.below hb, hGs, hpS, hqS, hpq2, hge, hp0', hq0', hv0', by omega, hwh', bel_trans HB hb⟩
          have Hrest := Lib.hid hrest
          clear hin hout hG hR hGr hGs hpS hqS hge HB hrest
          go_wp2_with fail
          (with_reducible refine cI.out.mono ?_)
          rintro e w8 ⟨rfl, hb8⟩
          have hfin := Lib.hid (Hrest.out w8 hb8)
          clear hb8 hE cI
          go_wp2
          go_roundw
          case rel => exact ⟨k + 1, by omega, by go_num, hfin.out⟩
          case measure => simp [intOf]; omega
      · obtain rfl : k = n := by omega
        have hok := hG.1
        have hn256 := corners_le hok
        have cN := Lib.hid (graphNew wr p g v hG)
        have HGr := Lib.hid hGr
        have HGs := Lib.hid hGs
        have Hok := Lib.hid hok
        clear hG hR hGr hGs hpS hqS hge hok
        go_wp2_with fail
        (with_reducible refine cN.out.mono ?_)
        rintro e w8 ⟨b8, p8, mb8, S8, E8, rfl, hGr8, hGs8, hnew8, hb8⟩
        have hGrA := HGr.out.below hb8
        have HB8 := bel_trans HB hb8
        have cA := Lib.hid (graphNodes w8 b7 p7 mb7 S g v E hGrA HGs.out.1)
        have HGrA := Lib.hid hGrA
        have HGr8 := Lib.hid hGr8
        have HGs8 := Lib.hid hGs8
        clear hGr8 hGs8 hnew8 hb8 hGrA cN HB HGr
        go_wp2_with fail
        (with_reducible refine cA.out.mono ?_)
        rintro e w9 ⟨A9, m9, rfl, hI9, hb9⟩
        have cB := Lib.hid (graphNodes w9 b8 p8 mb8 S8 g v E8 (HGr8.out.below hb9) HGs8.out.1)
        have HGrA9 := Lib.hid (HGrA.out.below hb9)
        have HGr89 := Lib.hid (HGr8.out.below hb9)
        have HB9 := bel_trans HB8 hb9
        obtain ⟨nn, hnn⟩ : ∃ z, (cornersI g).length = z := ⟨_, rfl⟩
        rw [hnn] at hI9 hn256 ⊢
        have Hnn := Lib.hid hnn
        have HI9 := Lib.hid hI9
        clear hI9 hb9 HB8 cA HGrA HGr8 hnn
        go_wp2_with fail
        (with_reducible refine cB.out.mono ?_)
        rintro e wa ⟨Aa, ma, rfl, hIa, hba⟩
        rw [Hnn.out] at hIa ⊢
        have cS := Lib.hid (sameNumbers wa A9 Aa nn m9 ma _ (HI9.out.below hba) hIa (by omega))
        clear hIa cB
        go_wp2_with fail
        (with_reducible refine cS.out.mono ?_)
        rintro e wb ⟨rfl, hbb⟩
        have hb9b := bel_trans hba hbb
        have HIb := Lib.hid (HI9.out.below hb9b)
        have HGrAb := Lib.hid (HGrA9.out.below hb9b)
        have HGr8b := Lib.hid (HGr89.out.below hb9b)
        have HBb := bel_trans HB9 hb9b
        clear hba hbb hb9b cS HI9 HGrA9 HGr89 HB9
        go_wp2_with fail
        obtain ⟨wo, rfl⟩ : ∃ wo : World, wo = wb := ⟨_, rfl⟩
        go_loopw [16] (fun kv wr => ∃ i : Nat, kv = .int .i64 i ∧ i ≤ nn ∧ Below wo.heap.size wo wr) (fun kv _ => nn - (intOf kv).toNat)
        case atStart => exact ⟨0, rfl, by omega, Below.refl _ _⟩
        case round =>
          obtain ⟨i, rfl, hi, hB⟩ := hrel
          by_cases hlt2 : i < nn
          · have hIr := HIb.out.below hB
            obtain ⟨ad, hA⟩ := hIr.addr (by omega)
            rw [hA] at hIr
            have hix := fun wx => idx_run (m := m9) hA hlt2 wx
            have hE := hIr.cell (Below.refl _ _) hlt2
            rw [(cf_at (by rw [Hnn.out]; exact hlt2)).1] at hE
            obtain ⟨x, hx⟩ : ∃ x, cf g i = x := ⟨_, rfl⟩
            have hxc : g.Corner x := by rw [← hx]; exact (cf_at (by rw [Hnn.out]; exact hlt2)).2
            rw [hx] at hE
            obtain ⟨L, hL, _, _, lL, _⟩ := HGs.out.facts Hok.out hxc
            obtain ⟨L', hL', _, _, _, _⟩ := HGs8.out.facts Hok.out hxc
            obtain rfl : L = L' := GSpec.one HGs.out HGs8.out hL hL'
            have c1 := Lib.hid (graphEdges wr b7 p7 mb7 S g v E (HGrAb.out.below hB) (x : Nat) L hL (by omega))
            have c2 := Lib.hid (fun w' (hb : Below wr.heap.size wr w') => graphEdges w' b8 p8 mb8 S8 g v E8 ((HGr8b.out.below hB).below hb) (x : Nat) L hL' (by omega))
            clear hIr hA hx hL hL'
            go_wp2_with fail
            (with_reducible refine c1.out.mono ?_)
            rintro e wc ⟨Ac, mc, rfl, hEc, _, hbc⟩
            have hE := bel_cell hbc hE
            have HEc := Lib.hid hEc
            clear hEc c1
            go_wp2_with fail
            (with_reducible refine (c2.out _ hbc).mono ?_)
            rintro e wd ⟨Ad, md, rfl, hEd, _, hbd⟩
            obtain ⟨nl, hnl⟩ : ∃ z, L.length = z := ⟨_, rfl⟩
            have c3 := Lib.hid (sameEdges wd Ac Ad nl mc md L (HEc.out.below hbd) hEd hnl (by omega))
            have HBd := bel_trans (bel_trans hB hbc) hbd
            rw [hnl]
            clear hEd hbd hbc hE hix c2 hB hnl
            go_wp2_with fail
            (with_reducible refine c3.out.mono ?_)
            rintro e we ⟨rfl, hbe⟩
            have HBe := bel_trans HBd hbe
            clear hbe c3
            go_wp2
            go_roundw
            case rel => exact ⟨i + 1, by go_num, by omega, HBe⟩
            case measure => simp [intOf]; omega
          · obtain rfl : i = nn := by omega
            have hfin := bel_trans HBb hB
            clear hB
            go_wp2
            go_ret
            exact ⟨rfl, hfin⟩
end Go.Proofs.Ytjejkadaafmdcaa
