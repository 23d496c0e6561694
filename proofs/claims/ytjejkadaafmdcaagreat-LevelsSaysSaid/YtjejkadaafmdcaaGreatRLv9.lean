/- Lemmas of this claim: RLv9. -/
import Derived.Test.YtjejkadaafmdcaaGreatRLv7
import Derived.Test.YtjejkadaafmdcaaGreatKLevelsSays33
import Derived.Deep.CutBlock
set_option linter.unusedVariables false
set_option linter.unusedSimpArgs false
/- The document's levels: of a graph: the walk. -/
namespace Go.Proofs.YtjejkadaafmdcaaGreat
open Go.RowKit Go.Sort FR Go.Lib
set_option maxRecDepth 100000 in
set_option maxHeartbeats 6400000 in
theorem rLevels (w : World) (gb gmb : Nat) (GS : List Nat) (A : Option Addr) (n0 m0 : Nat) (g : G) (hok : g.ok) (h : RGraphOf w gb gmb GS A n0 m0 g) (hd : gb ≠ gmb) (most : Nat) (h1 : 1 ≤ most) (h2 : most ≤ 6) :
    Calls Tryz.prog 17 #[.pointer (some ⟨gb, 0, none⟩), .int .i64 (most : Nat)] w (RLvD w g most) := by
  have hn := G.n_le hok
  have hmm := @run_makeMap Tryz.prog
  obtain ⟨g1, hI, hn0, hgS, hE⟩ := h
  have hn256 : n0 ≤ 256 := by rw [← hn0]; exact corners_le hok
  rw [← hn0, EGr_egE] at hE
  have kg0 : w.cell? ⟨gb, 0, none⟩ = some (.slice A n0 m0) := by simp [World.cell?, g1]
  have kg1 : w.cell? ⟨gb, 1, none⟩ = some (.map (some gmb)) := by simp [World.cell?, g1]
  obtain ⟨V, NG, e1, e2, e3, e4, e5, e6, e7⟩ := hE
  have hgl : gb < w.heap.size := (Array.getElem?_eq_some_iff.1 g1).1
  have hml0 : gmb < w.heap.size := e1.lt
  have HI := Lib.hid hI
  have Hok := Lib.hid hok
  have Hn := Lib.hid (And.intro hn hn0)
  have HG := Lib.hid (And.intro e1 (And.intro e2 (And.intro e3 (And.intro e4 (And.intro e5 (And.intro e6 e7))))))
  have HIl : Hid (0 < n0 → ∀ ad, A = some ad → ad.block < w.heap.size) := Lib.hid fun hp ad e => by
    obtain ⟨ad', e', hlt, _⟩ := hI hp
    rw [e'] at e; injection e with e; subst e
    exact hlt
  clear g1 hI hok hn hn0 e1 e2 e3 e4 e5 e6 e7
  go_enter Tryz.func17, Tryz.ntmps17
  go_upto_region 2 with (fail)
  refine wp_name ?_
  intro W4 hW4
  have HW4 : Below w.heap.size w W4 := by rw [hW4]; (repeat' (first | exact Below.refl _ _ | assumption | apply bel_drewN | apply bel_drew | apply bel_alloc | (refine bel_trans ?_ (by assumption))))
  obtain ⟨ml, hml⟩ : ∃ ml, w.heap.size = ml := ⟨_, rfl⟩
  obtain ⟨me, hme⟩ : ∃ me, ml + 1 = me := ⟨_, rfl⟩
  obtain ⟨b, hb⟩ : ∃ b, me + 1 = b := ⟨_, rfl⟩
  rw [hml] at hW4 ⊢
  rw [hme] at hW4 ⊢
  rw [hb]
  have q1 : MapAt iK (w.alloc (.map #[] 0)) w.heap.size (fun _ => none) 0 := MapAt.made w
  have q2 : MapAt iK ((w.alloc (.map #[] 0)).alloc (.map #[] 0)) (w.alloc (.map #[] 0)).heap.size (fun _ => none) 0 := MapAt.made _
  have hbk : W4.heap[b]? = some (.cells #[.map (some ml), .map (some me), .int .i64 ((1 : Nat) : Int)] 56 (0, 0)) := by
    have := heap_alloc_new ((w.alloc (.map #[] 0)).alloc (.map #[] 0)) (.cells #[.map (some ml), .map (some me), .int .i64 1] 56 (0, 0))
    have e : ((w.alloc (.map #[] 0)).alloc (.map #[] 0)).heap.size = b := by simp; omega
    rw [e] at this
    rw [hW4]
    exact this
  have hM1 : MapAt iK W4 ml (levR g (LS.first g)) 0 := by
    rw [levR_first, hW4]
    rw [hml] at q1
    exact (q1.below (bel_alloc (Below.refl _ _))).below (bel_alloc (Below.refl _ _))
  have hM2 : MapAt iK W4 me (subV g V 0) 0 := by
    rw [subV_zero, hW4]
    have e : (w.alloc (.map #[] 0)).heap.size = me := by simp; omega
    rw [e] at q2
    exact q2.below (bel_alloc (Below.refl _ _))
  have kg0 := bel_cell HW4 kg0
  have kg1 := bel_cell HW4 kg1
  have kb1 : W4.cell? ⟨b, 1, none⟩ = some (.map (some me)) := by simp [World.cell?, hbk]
  have HK0 := Lib.hid (And.intro kg0 (And.intro kg1 kb1))
  have HM := Lib.hid (And.intro hbk hM1)
  clear hW4 q1 q2 hbk hM1 hmm kg0 kg1 kb1
  go_wp2_with fail
  obtain ⟨wz, rfl⟩ : ∃ wz : World, wz = W4 := ⟨_, rfl⟩
  have hwz : b < wz.heap.size := (Array.getElem?_eq_some_iff.1 HM.out.1).1
  go_loopw [6] (fun kv wr => ∃ (i N : Nat), kv = .int .i64 i ∧ i ≤ n0 ∧ MapAt iK wr me (subV g V i) N ∧ Kept [me] wz wr) (fun kv _ => n0 - (intOf kv).toNat)
  case atStart => exact ⟨0, 0, rfl, by omega, hM2, Kept.refl _ _⟩
  case round =>
    obtain ⟨i, N, rfl, hi, hM, hK⟩ := hrel
    clear hM2
    have kg0 := keptc hK (by simp; omega) HK0.out.1
    have kg1 := keptc hK (by simp; omega) HK0.out.2.1
    have kb1 := keptc hK (by simp; omega) HK0.out.2.2
    have HMr := Lib.hid (And.intro hM hK)
    by_cases hlt : i < n0
    · have hIr := (HI.out.below HW4).kept0 hK (fun hp ad e => by have := HIl.out hp ad e; simp; omega)
      obtain ⟨ad, hAd⟩ := hIr.addr (by omega)
      rw [hAd] at hIr
      have hix := fun wx => idx_run (m := m0) hAd hlt wx
      have hE := hIr.cell (Below.refl _ _) hlt
      obtain ⟨c1, c2⟩ := cf_at (g := g) (i := i) (by rw [Hn.out.2]; exact hlt)
      rw [c1] at hE
      obtain ⟨u, hu⟩ : ∃ u, V (cf g i : Nat) = some u := by
        cases hV : V (cf g i : Nat) with
        | none => have := (HG.out.2.1 _).2 hV; rw [egE_at c2] at this; cases this
        | some u => exact ⟨u, rfl⟩
      have hlg : (Instr.lookup 54 (.map (some gmb)) (.int .i64 (cf g i : Nat)) false).run Tryz.prog wr.drew = .ok u wr.drew := by
        have := ((((HG.out.1.below HW4).kept hK (by simp; omega)).below (bel_drew (Below.refl _ _))).look (int_fit Tryz.underlying3) Tryz.underlying54 (z := .slice none 0 0) (by simp [Tryz.zeroValue59]) ((cf g i : Nat) : Int)).2
        rw [hu] at this; exact this
      obtain ⟨wU, hrun, hMU, hKU⟩ := (hM.below (bel_drew (Below.refl _ _))).store (P := Tryz.prog) (mt := 54) (int_fit Tryz.underlying3) Tryz.underlying54 ((cf g i : Nat) : Int) u
      rw [subV_step g V i hu] at hMU
      have hKU2 : Kept [me] wr wU := ⟨hKU.os, hKU.tape, hKU.output, hKU.size, hKU.block⟩
      have HF := Lib.hid (And.intro hMU (hK.trans hKU2))
      obtain ⟨c, hc⟩ : ∃ c, cf g i = c := ⟨_, rfl⟩
      rw [hc] at hE hlg hrun
      clear hIr hAd c1 c2 hu hMU hKU hKU2 hM hK HMr hc
      go_upto_region 5 with (fail)
      go_region
      go_wp2
      go_roundw
      case rel => first | exact ⟨i + 1, _, by go_num, by omega, HF.out⟩ | ((repeat apply Exists.intro); exact ⟨⟨i + 1, _, by go_num, by omega, HF.out⟩, rfl⟩)
      case measure => simp [intOf]; omega
    · obtain rfl : i = n0 := by omega
      have hL0 : LvR wr b ml me GS ((1 : Nat) : Int) (levR g (LS.first g)) 0 (egE g (LS.first g)) := by
        have hm := HMr.out.1
        rw [← Hn.out.2] at hm
        refine ⟨(HMr.out.2.block b hwz (by simp; omega)).trans HM.out.1, HM.out.2.kept HMr.out.2 (by simp; omega), EMap.copy (w := w) HG.out.2.1 HG.out.2.2.1 HG.out.2.2.2.1 HG.out.2.2.2.2.2.1 HG.out.2.2.2.2.2.2 hm ((Kept.of_below HW4).trans HMr.out.2) (fun hm2 => by have := HG.out.2.2.2.2.2.2 _ hm2; omega), fun hm2 => by have := HG.out.2.2.2.2.2.2 _ hm2; omega, fun hm2 => by have := HG.out.2.2.2.2.2.2 _ hm2; omega, by omega, by omega, by omega⟩
      obtain ⟨N0, hN0⟩ : ∃ N0, N0 = most - 1 := ⟨_, rfl⟩
      have hstart : RRdI wr b ml me g most N0 wr := ⟨most - 1, 1, 15, LS.first g, GS, 0, hL0, LS.first_inv Hok.out g.n (Nat.le_refl _), fun _ => by show (0 : Nat) < 1; omega, by simp, by omega, by omega, rfl, Kept.refl _ _, by omega⟩
      have HIr := Lib.hid ((HI.out.below HW4).kept0 hK (fun hp ad e => by have := HIl.out hp ad e; simp; omega))
      have HKr := Lib.hid (And.intro kg0 hK)
      clear hL0 hN0 hM hK HMr kg1 kb1
      go_upto_block 2 with (fail)
      obtain ⟨wy, rfl⟩ : ∃ z : World, z = wr := ⟨_, rfl⟩
      go_cut [] (fun wx => RRdF wy b ml me g most wx)
      case first =>
        go_wp2_with fail
        go_loopg [] N0 (fun gk wr => RRdI wy b ml me g most gk wr)
        case atStart => exact hstart
        case round =>
          obtain ⟨k, tp, K, S, Sb, nl, hL, hInv, hlt2, hK, htp1, htk, hrd, hKp, hgk⟩ := hrel
          clear hstart
          have k2 : wr.cell? ⟨b, 2, none⟩ = some (.int .i64 (tp : Nat)) := by simp [World.cell?, hL.1]
          have kg0 := keptc hKp (by simp; omega) HKr.out.1
          have HL := Lib.hid (And.intro hL hKp)
          have HInv := Lib.hid (And.intro hInv (And.intro hlt2 (And.intro hK hrd)))
          have cR := Lib.hid (fun hKs => rRound wr b ml me nl Sb tp K g S Hok.out hInv hKs hL A i m0 (HIr.out.kept0 hKp (fun hp ad e => by have := HIl.out hp ad e; simp; omega)) Hn.out.2 (fun hp ad e => by have := HIl.out hp ad e; omega))
          clear hL hInv hlt2 hK hrd hKp
          by_cases hk0 : k = 0
          · subst hk0
            obtain rfl : tp = most := by omega
            have hF := Lib.hid (show RRdF wy b ml me g tp wr from ⟨S, tp, Sb, nl, HL.out.1, HInv.out.2.2.2, HL.out.2⟩)
            clear HL HInv cR
            go_wp2
            go_meet
            case rel => exact hF.out
          · obtain ⟨k, rfl⟩ : ∃ j, k = j + 1 := ⟨k - 1, by omega⟩
            have hlt3 : ((tp : Nat) : Int) < (most : Nat) := by omega
            have cR := Lib.hid (cR.out (K_small HInv.out.2.2.1 (by omega)))
            go_wp2_with fail
            (with_reducible refine cR.out.mono ?_)
            rintro e w8 ⟨rfl, Sb8, nl8, hL8, hk8⟩
            have hFI := LS.fold_inv (cornersN g) ⟨S, fun _ => false, false⟩ HInv.out.1 (fun n hn => mem_cornersN.1 hn)
            have hr : (if (RS.run g.n tp (cornersN g) S).some_ = true then LS.rounds g.n (cornersN g) k (tp + 1) (RS.run g.n tp (cornersN g) S).S else ((RS.run g.n tp (cornersN g) S).S, tp)) = LS.rounds g.n (cornersN g) (most - 1) 1 (LS.first g) := HInv.out.2.2.2
            have hkw := HL.out.2.trans (hk8.wid (T := [b, ml, me]) (by simp))
            obtain ⟨t, ht⟩ : ∃ t, (RS.run g.n tp (cornersN g) S).some_ = t := ⟨_, rfl⟩
            rw [ht] at hr ⊢
            cases t with
            | false =>
              rw [if_neg (by simp)] at hr
              have hF := Lib.hid (show RRdF wy b ml me g most w8 from ⟨_, tp, Sb8, nl8, hL8, hr, hkw⟩)
              clear HL HInv cR hL8 hk8 hFI hr hkw ht k2 kg0
              go_wp2
              go_meet
              case rel => exact hF.out
            | true =>
              rw [if_pos rfl] at hr
              have k2 : w8.cell? ⟨b, 2, none⟩ = some (.int .i64 ((tp : Nat) : Int)) := by simp [World.cell?, hL8.1]
              have kf : w8.frozen? ⟨b, 2, none⟩ = false := by simp [World.frozen?, hL8.1]
              have hw : IntKind.i64.wrap (((tp : Nat) : Int) + 1) = ((tp + 1 : Nat) : Int) := by rw [IntWalk.i64_in _ (by omega)]; omega
              have hK2 : 2 * K ≤ 15 * 2 ^ (tp + 1 - 1) := by
                have hK := HInv.out.2.2.1
                obtain ⟨j, rfl⟩ : ∃ j, tp = j + 1 := ⟨tp - 1, by omega⟩
                simp only [Nat.add_sub_cancel] at hK ⊢
                rw [Nat.pow_succ]
                omega
              have hF : RRdI wy b ml me g most k (w8.setCell ⟨b, 2, none⟩ (.int .i64 ((tp + 1 : Nat) : Int))) := ⟨k, tp + 1, 2 * K, _, Sb8, nl8, hL8.top, hFI.next, fun a => Nat.lt_succ_of_le (hFI.levs a), hK2, by omega, by omega, hr, hkw.setCell (.inl (by simp)), Nat.le_refl _⟩
              have hF := Lib.hid hF
              clear HL HInv cR hL8 hk8 hFI hr hkw ht kg0 hK2
              go_wp2
              go_roundg k
              case measure => omega
              case rel => exact hF.out
      case rest =>
        obtain ⟨S, tp, Sb, nl, hL, hrd, hKp⟩ := hcut
        obtain ⟨wq, rfl⟩ : ∃ z : World, z = wc := ⟨_, rfl⟩
        have kg0 := keptc hKp (by simp; omega) HKr.out.1
        have k0 : wq.cell? ⟨b, 0, none⟩ = some (.map (some ml)) := by simp [World.cell?, hL.1]
        have k2 : wq.cell? ⟨b, 2, none⟩ = some (.int .i64 (tp : Nat)) := by simp [World.cell?, hL.1]
        have HK2 := Lib.hid (And.intro kg0 (And.intro k0 k2))
        have HIq := Lib.hid (HIr.out.kept0 hKp (fun hp ad e => by have := HIl.out hp ad e; simp; omega))
        have hL0 := hL
        rw [← levC_zero g S tp] at hL0
        have Hrd := Lib.hid (And.intro hrd hKp)
        clear hL hrd hKp hstart kg0 k0 k2
        go_wp2_with fail
        go_loopw [8] (fun kv wr => ∃ (j nl : Nat), kv = .int .i64 j ∧ j ≤ i ∧ LvR wr b ml me Sb (tp : Nat) (levC g S tp j) nl (egE g S) ∧ Kept [ml] wq wr) (fun kv _ => i - (intOf kv).toNat)
        case atStart => exact ⟨0, nl, rfl, by omega, hL0, Kept.refl _ _⟩
        case round =>
          obtain ⟨j, nlj, rfl, hj, hLj, hKj⟩ := hrel
          clear hL0
          have kg0 := keptc hKj (by simp; omega) HK2.out.1
          have k0 := keptc hKj (by simp; omega) HK2.out.2.1
          have k2 := keptc hKj (by simp; omega) HK2.out.2.2
          have HLj := Lib.hid (And.intro hLj hKj)
          by_cases hlj : j < i
          · have hIr := HIq.out.kept0 hKj (fun hp ad e => by have := HIl.out hp ad e; simp; omega)
            obtain ⟨ad, hAd⟩ := hIr.addr (by omega)
            rw [hAd] at hIr
            have hix := fun wx => idx_run (m := m0) hAd hlj wx
            have hE := hIr.cell (Below.refl _ _) hlj
            have hji : j < (cornersI g).length := by rw [Hn.out.2]; exact hlj
            obtain ⟨c1, c2⟩ := cf_at (g := g) (i := j) hji
            rw [c1] at hE
            have hlv : ∀ q, (Instr.lookup 53 (.map (some ml)) (.int .i64 (cf g j : Nat)) false).run Tryz.prog (wr.drewN q) = .ok (.int .i64 (S.lev (cf g j) : Nat)) (wr.drewN q) := fun q => by
              have := ((hLj.2.1.below (bel_drewN (n := q) (Below.refl _ wr))).look (int_fit Tryz.underlying3) Tryz.underlying53 (z := .int .i64 0) (by simp [Tryz.zeroValue3]) ((cf g j : Nat) : Int)).2
              rw [levC_new hji, levR_at0 c2] at this
              exact this
            have hset := levC_set (g := g) (S := S) (top := tp) hji
            have hkeep := levC_keep (g := g) (S := S) (top := tp) hji
            obtain ⟨c, hc⟩ : ∃ c, cf g j = c := ⟨_, rfl⟩
            rw [hc] at hE hlv hset hkeep
            obtain ⟨lt, hlt2⟩ : ∃ z, S.lev c = z := ⟨_, rfl⟩
            rw [hlt2] at hlv hset hkeep
            have Hsk := Lib.hid (And.intro hset hkeep)
            clear hIr hAd c1 c2 hc hLj hKj hset hkeep
            go_upto_region 13 with (fail)
            by_cases hl0 : lt = 0
            · subst hl0
              have hd : ((0 : Int) == 0) = true := rfl
              go_quiet (fail)
              have hb5 : Below wr.heap.size wr (wr.drewN nq) := bel_drewN (Below.refl _ _)
              have kg0 := bel_cell hb5 kg0
              have k0 := bel_cell hb5 k0
              have k2 := bel_cell hb5 k2
              have hE := bel_cell hb5 hE
              have HL5 := Lib.hid (And.intro (HLj.out.1.below hb5) (HLj.out.2.trans (.of_below hb5)))
              clear hlv HLj hb5
              generalize wr.drewN nq = w5 at *
              have hLd := HL5.out.1.below (bel_drew (Below.refl _ _))
              obtain ⟨wU, hrun, hMU, hKU⟩ := hLd.2.1.store (P := Tryz.prog) (mt := 53) (int_fit Tryz.underlying3) Tryz.underlying53 ((c : Nat) : Int) (.int .i64 (tp : Nat))
              rw [Hsk.out.1 rfl] at hMU
              have hLU := hLd.lev hMU hKU
              have hKU2 : Kept [ml] w5 wU := ⟨hKU.os, hKU.tape, hKU.output, hKU.size, hKU.block⟩
              have HF := Lib.hid (And.intro hLU (HL5.out.2.trans hKU2))
              clear hLd hMU hKU hLU hKU2 HL5
              go_upto_region 14 with (fail)
              go_region
              go_wp2
              go_roundw
              case rel => first | exact ⟨j + 1, _, by go_num, by omega, HF.out⟩ | ((repeat apply Exists.intro); exact ⟨⟨j + 1, _, by go_num, by omega, HF.out⟩, rfl⟩)
              case measure => simp [intOf]; omega
            · have hd : (((lt : Nat) : Int) == 0) = false := beq_eq_false_iff_ne.2 (by omega)
              go_quiet (fail)
              have hb5 : Below wr.heap.size wr (wr.drewN nq) := bel_drewN (Below.refl _ _)
              have hF := HLj.out.1.below hb5
              rw [Hsk.out.2 hl0] at hF
              have HF := Lib.hid (And.intro hF (HLj.out.2.trans (.of_below hb5)))
              clear hlv HLj hb5 hF kg0 k0 k2 hE hix
              go_wp2
              go_roundw
              case rel => first | exact ⟨j + 1, _, by go_num, by omega, HF.out⟩ | ((repeat apply Exists.intro); exact ⟨⟨j + 1, _, by go_num, by omega, HF.out⟩, rfl⟩)
              case measure => simp [intOf]; omega
          · obtain rfl : j = i := by omega
            have hF : RLvD w g most (.returned (.pointer (some ⟨b, 0, none⟩))) wr := by
              have q := HLj.out.1
              rw [← Hn.out.2, levC_all] at q
              have e1 : (LS.all g (cornersN g) most).1 = S.close (cornersN g) tp := by unfold LS.all; rw [← Hrd.out.1]
              have e2 : (LS.all g (cornersN g) most).2 = tp := by unfold LS.all; rw [← Hrd.out.1]
              refine ⟨b, ml, me, Sb, nlj, rfl, by rw [e1, e2]; exact q, ?_⟩
              exact Kept.below (Kept.below (Kept.below HW4 HKr.out.2 HW4.size (by simp; omega)) Hrd.out.2 (Nat.le_trans HW4.size HKr.out.2.size) (by simp; omega)) HLj.out.2 (Nat.le_trans HW4.size (Nat.le_trans HKr.out.2.size Hrd.out.2.size)) (by simp; omega)
            have hF := Lib.hid hF
            clear HLj hLj hKj k0 k2
            go_wp2
            go_ret
            exact hF.out
end Go.Proofs.YtjejkadaafmdcaaGreat
