/- Lemmas of this claim: RLv7. -/
import Derived.Test.YtjejkadaafmdcaaGreatRLv7b
set_option linter.unusedVariables false
set_option linter.unusedSimpArgs false
/- The document's round: the walk. (Written by rl7gen.py.) -/
namespace Go.Proofs.YtjejkadaafmdcaaGreat
open Go.RowKit Go.Sort FR Go.Lib
set_option maxRecDepth 100000 in
set_option maxHeartbeats 6400000 in
theorem rRound (w : World) (b ml me nl : Nat) (Sb0 : List Nat) (tp K : Nat) (g : G) (S : LS) (hok : g.ok) (H : LS.Inv g g.n tp K S (fun _ => false)) (hK : K ≤ 1000) (h : LvR w b ml me Sb0 (tp : Nat) (levR g S) nl (egE g S)) (A : Option Addr) (n0 m0 : Nat)
    (hI : Ints w A n0 (fun k => (cornersI g).getD k 0)) (hn0 : (cornersI g).length = n0) (hA : 0 < n0 → ∀ ad, A = some ad → ad.block ≠ ml ∧ ad.block ≠ me) :
    Calls Tryz.prog 63 #[.pointer (some ⟨b, 0, none⟩), .slice A n0 m0] w (RRoundD w b ml me tp g S) := by
  have hn := G.n_le hok
  have hmm := @run_makeMap Tryz.prog
  have hn256 : n0 ≤ 256 := by rw [← hn0]; exact corners_le hok
  have htp : 0 < tp := H.pos
  have HLv := Lib.hid h
  have Hok := Lib.hid hok
  have HInv := Lib.hid (And.intro H hK)
  have Hn := Lib.hid (And.intro hn hn0)
  have HI0 := Lib.hid (And.intro hI hA)
  clear h hok H hK hn hn0 hI hA
  go_enter Tryz.func63, Tryz.ntmps63
  go_upto_region 3 with (fail)
  refine wp_name ?_
  intro W1 hW1
  have HW1 : Below w.heap.size w W1 := by rw [hW1]; (repeat' (first | exact Below.refl _ _ | assumption | apply bel_drewN | apply bel_drew | apply bel_alloc | (refine bel_trans ?_ (by assumption))))
  have hM1 : MapAt iK W1 w.heap.size (fun _ => none) 0 := by rw [hW1]; exact MapAt.made w
  obtain ⟨mn, hmn⟩ : ∃ mn, w.heap.size = mn := ⟨_, rfl⟩
  rw [hmn] at hM1 ⊢
  have hlts := HLv.out.lts
  have hRd : RdR W1 W1 b ml me mn tp g (rnAt g S tp 0) := ⟨Sb0, 0, nl, HLv.out.below HW1, by show MapAt iK W1 mn (nearV fun _ => false) 0; rw [nearV_none]; exact hM1, fun hm => by have := hlts.2.2.2 _ hm; omega, Kept.refl _ _⟩
  have HI := Lib.hid (HI0.out.1.below HW1)
  have HAn : Hid (0 < n0 → ∀ ad, A = some ad → ad.block ∉ [mn, ml, me]) := Lib.hid fun hp ad e => by
    obtain ⟨ad', e', hlt, _⟩ := HI0.out.1 hp
    have := HI0.out.2 hp ad e
    rw [e'] at e; injection e with e; subst e
    simp; omega
  have hmn1 : mn < W1.heap.size := hM1.lt
  have hmnl : mn ≠ ml ∧ mn ≠ me ∧ mn ≠ b := by omega
  have Hd := Lib.hid HLv.out.2.2.2
  clear hW1 hmm hM1 HI0
  go_wp2_with fail
  obtain ⟨wz, rfl⟩ : ∃ wz : World, wz = W1 := ⟨_, rfl⟩
  go_loopw [5, 7] (fun sv kv wr => ∃ i : Nat, kv = .int .i64 i ∧ i ≤ n0 ∧ sv = .bool (rnAt g S tp i).some_ ∧ RdR wz wr b ml me mn tp g (rnAt g S tp i)) (fun _ kv _ => n0 - (intOf kv).toNat)
  case atStart => exact ⟨0, rfl, by omega, rfl, hRd⟩
  case round =>
    obtain ⟨i, rfl, hi, rfl, hS⟩ := hrel
    have HS := Lib.hid hS
    clear hRd hS
    obtain ⟨wo, rfl⟩ : ∃ wo : World, wo = wr := ⟨_, rfl⟩
    by_cases hlt : i < n0
    · obtain ⟨Sb, c, nl, hL, hN, hmS, hK⟩ := HS.out
      have hIr := HI.out.kept0 hK HAn.out
      have hIr2 := hIr
      obtain ⟨ad, hA⟩ := hIr.addr (by omega)
      rw [hA] at hIr
      have hix := fun wx => idx_run (m := m0) hA hlt wx
      have hE := hIr.cell (Below.refl _ _) hlt
      obtain ⟨c1, c2⟩ := cf_at (g := g) (i := i) (by rw [Hn.out.2]; exact hlt)
      rw [c1] at hE
      have hstep := rn_step (g := g) (S := S) (tp := tp) (i := i) (by rw [Hn.out.2]; exact hlt)
      have hInv := rn_inv HInv.out.1 i
      obtain ⟨n, hcn⟩ : ∃ n, cf g i = n := ⟨_, rfl⟩
      rw [hcn] at hE c2 hstep
      obtain ⟨R, hR⟩ : ∃ R, rnAt g S tp i = R := ⟨_, rfl⟩
      rw [hR] at hL hN hstep hInv HS ⊢
      obtain ⟨sm, hsm⟩ : ∃ s, R.some_ = s := ⟨_, rfl⟩
      rw [hsm]
      have k0 : wo.cell? ⟨b, 0, none⟩ = some (.map (some ml)) := by simp [World.cell?, hL.1]
      have hnl0 : (Instr.lookup 123 (.map (some mn)) (.int .i64 (n : Nat)) false).run Tryz.prog wo = .ok (.bool (R.near n)) wo := by
        have := (hN.look (int_fit Tryz.underlying3) Tryz.underlying123 (boolz wo) ((n : Nat) : Int)).2
        rw [nearV_at] at this; exact this
      have hlv0 : (Instr.lookup 53 (.map (some ml)) (.int .i64 (n : Nat)) false).run Tryz.prog wo = .ok (.int .i64 (R.S.lev n : Nat)) wo := by
        have := (hL.2.1.look (int_fit Tryz.underlying3) Tryz.underlying53 (z := .int .i64 0) (by simp [Tryz.zeroValue3]) ((n : Nat) : Int)).2
        rw [levRof g R.S _, levI_at c2] at this
        exact this
      obtain ⟨nr, hnr⟩ : ∃ s, R.near n = s := ⟨_, rfl⟩
      obtain ⟨lv, hlv⟩ : ∃ s, R.S.lev n = s := ⟨_, rfl⟩
      rw [hnr] at hnl0
      rw [hlv] at hlv0
      have HR := Lib.hid (And.intro hstep (And.intro c2 (And.intro hInv (And.intro hsm (And.intro hnr hlv)))))
      have HL := Lib.hid (And.intro hL (And.intro hN hmS))
      clear hA c1 hstep c2 hInv hR hsm hnr hlv hL hN hmS hIr hcn
      have hsame : RS.step g.n tp R n = R → (sm = (rnAt g S tp (i + 1)).some_ ∧ ∀ wx, Below wo.heap.size wo wx → RdR wz wx b ml me mn tp g (rnAt g S tp (i + 1))) := fun hh => by
        rw [HR.out.1, hh]
        exact ⟨HR.out.2.2.2.1.symm, fun wx hb => HS.out.below hb⟩
      have Hsame := Lib.hid hsame
      clear hsame
      by_cases hlv1 : lv = 0
      case neg =>
        have hd : decide ((0 : Int) < ((lv : Nat) : Int)) = true := by simp; omega
        have hF := Hsame.out (step_has (by rw [HR.out.2.2.2.2.2]; exact hlv1))
        have HF := Lib.hid hF
        clear hF Hsame HS HL
        go_wp2
        go_roundw
        case rel => first | exact ⟨i + 1, by go_num, by omega, by rw [HF.out.1], HF.out.2 _ (by (repeat' (first | exact Below.refl _ _ | assumption | apply bel_drewN | apply bel_drew | apply bel_alloc | (refine bel_trans ?_ (by assumption)))))⟩ | ((repeat apply Exists.intro); exact ⟨⟨i + 1, by go_num, by omega, by rw [HF.out.1], HF.out.2 _ (by (repeat' (first | exact Below.refl _ _ | assumption | apply bel_drewN | apply bel_drew | apply bel_alloc | (refine bel_trans ?_ (by assumption)))))⟩, rfl⟩)
        case measure => simp [intOf]; omega
      subst hlv1
      cases nr with
      | true =>
        have hF := Hsame.out (step_near HR.out.2.2.2.2.1)
        have HF := Lib.hid hF
        clear hF Hsame HS HL
        go_wp2
        go_roundw
        case rel => first | exact ⟨i + 1, by go_num, by omega, by rw [HF.out.1], HF.out.2 _ (by (repeat' (first | exact Below.refl _ _ | assumption | apply bel_drewN | apply bel_drew | apply bel_alloc | (refine bel_trans ?_ (by assumption)))))⟩ | ((repeat apply Exists.intro); exact ⟨⟨i + 1, by go_num, by omega, by rw [HF.out.1], HF.out.2 _ (by (repeat' (first | exact Below.refl _ _ | assumption | apply bel_drewN | apply bel_drew | apply bel_alloc | (refine bel_trans ?_ (by assumption)))))⟩, rfl⟩)
        case measure => simp [intOf]; omega
      | false =>
        go_upto_block 2 with (fail)
        go_cut [9] (fun v wx => OwnE wx wo.heap.size v (frL R.S g.n n) ∧ Below wo.heap.size wo wx)
        case first =>
          obtain ⟨ne, hne⟩ : ∃ n', (EgL R.S g.n n).length = n' := ⟨_, rfl⟩
          have hne256 : ne ≤ 256 := by rw [← hne]; exact Nat.le_trans (len_EgL R.S g.n n) Hn.out.1
          have Hne := Lib.hid hne
          clear hne hnl0 hlv0 hE hix
          go_wp2_with fail
          obtain ⟨wy, rfl⟩ : ∃ wy : World, wy = wo := ⟨_, rfl⟩
          go_loopw [9, 10] (fun lv kv wr => ∃ k : Nat, kv = .int .i64 k ∧ k ≤ ne ∧ OwnE wr wy.heap.size lv (((EgL R.S g.n n).take k).filter (fun e => decide (R.S.lev e.to_.toNat = 0))) ∧ Below wy.heap.size wy wr) (fun _ kv _ => ne - (intOf kv).toNat)
          case atStart => exact ⟨0, rfl, by omega, OwnE.nil _ _, Below.refl _ _⟩
          case round =>
            obtain ⟨k, rfl, hk, hO, hB⟩ := hrel
            have HO := Lib.hid hO
            have hLv := HL.out.1.below hB
            have k0 : wr.cell? ⟨b, 0, none⟩ = some (.map (some ml)) := by simp [World.cell?, hLv.1]
            have k1 : wr.cell? ⟨b, 1, none⟩ = some (.map (some me)) := by simp [World.cell?, hLv.1]
            obtain ⟨A5, m5, hEd, hlk⟩ := hLv.look (egE_at HR.out.2.1)
            rw [Hne.out] at hlk
            have hlk0 := hlk wr (Below.refl _ _)
            have HLv2 := Lib.hid (And.intro hLv (And.intro hEd hlk))
            clear hO hLv hEd hlk
            by_cases hkn : k < ne
            · obtain ⟨e, he⟩ : ∃ e, (EgL R.S g.n n)[k]? = some e := ⟨_, List.getElem?_eq_getElem (by rw [Hne.out]; exact hkn)⟩
              obtain ⟨t, ht1, ht2, ht3⟩ := mem_EgL.1 (List.mem_of_getElem? he)
              obtain ⟨gb, hA, a1, a2, a3, a4⟩ := HLv2.out.2.1.get he
              have hix := fun wx => idxE (m := m5) hA hkn wx
              have htk := fr_take he
              obtain ⟨xt, ⟨xs, xd⟩, xm⟩ := e
              simp only at a1 a2 a3 a4 ht2 ht3 htk
              subst ht2
              have htc := inv_cor HR.out.2.2.1 n t (by rw [ht3]; simp)
              simp only [Int.toNat_natCast] at htk
              have Htk := Lib.hid htk
              obtain ⟨lt, hlt2⟩ : ∃ z, R.S.lev t = z := ⟨_, rfl⟩
              have hlvq : ∀ q, (Instr.lookup 53 (.map (some ml)) (.int .i64 (t : Nat)) false).run Tryz.prog (wr.drewN q) = .ok (.int .i64 (lt : Nat)) (wr.drewN q) := fun q => by
                have := ((HLv2.out.1.2.1.below (bel_drewN (n := q) (Below.refl _ wr))).look (int_fit Tryz.underlying3) Tryz.underlying53 (z := .int .i64 0) (by simp [Tryz.zeroValue3]) ((t : Nat) : Int)).2
                rw [levRof g R.S _, levI_at htc.2.1, hlt2] at this
                exact this
              have hlkq : ∀ q, (Instr.lookup 54 (.map (some me)) (.int .i64 (n : Nat)) false).run Tryz.prog (wr.drewN q) = .ok (.slice A5 ne m5) (wr.drewN q) := fun q => HLv2.out.2.2 _ (bel_drewN (Below.refl _ wr))
              have Hlt := Lib.hid hlt2
              have hlen : (((EgL R.S g.n n).take k).filter (fun e => decide (R.S.lev e.to_.toNat = 0))).length ≤ 100000 := by
                have h1 := List.length_filter_le (fun e : Ed => decide (R.S.lev e.to_.toNat = 0)) ((EgL R.S g.n n).take k)
                have h2 : ((EgL R.S g.n n).take k).length ≤ k := by rw [List.length_take]; omega
                omega
              clear hA he ht3 htk htc hlt2
              go_upto_region 12 with (fail)
              by_cases hl0 : lt = 0
              · subst hl0
                have hd : ((0 : Int) == 0) = true := rfl
                have Htk2 := Htk.out
                rw [if_pos Hlt.out] at Htk2
                have Htk2 := Lib.hid Htk2
                go_quiet (fail)
                have hB5 : Below wy.heap.size wy (wr.drewN nq) := bel_drewN hB
                have hb5 : Below wr.heap.size wr (wr.drewN nq) := bel_drewN (Below.refl _ _)
                have HO5 := Lib.hid (HO.out.kept (w' := wr.drewN nq) (T := []) (.of_below hb5) (fun _ _ => by simp))
                have a1 := bel_cell hb5 a1
                have a2 := bel_cell hb5 a2
                have a3 := bel_cell hb5 a3
                have a4 := bel_cell hb5 a4
                have k1 := bel_cell hb5 k1
                have hlk5 := hlkq nq
                clear hlvq hlkq hlk0 k0 HO hB hb5 HLv2 Htk
                generalize wr.drewN nq = w5 at *
                go_wp2_with (at_builtin; (refine wpList_append_E _ rfl _ _ rfl wy.heap.size _ _ ⟨(t : Nat), ⟨xs, xd⟩, xm⟩ rfl (HO5.out.kept (T := []) (.of_below (bel_alloc (Below.refl _ _))) (fun _ _ => by simp)) ⟨w5.heap.size, 0, none⟩ rfl (fun j u hu => by rw [Addr.add_lit, Nat.zero_add]; exact new_edge (alloc_at w5 _ rfl) j u hu) hlen (by have := hB5.size; simp; omega) ?_); intro v' w9 hown9 hgrow)
                have hF := hown9
                rw [← Htk2.out] at hF
                have hB9 : Below wy.heap.size wy w9 := (bel_alloc hB5).grown hgrow (by have := hB5.size; simp; omega) (fun k hk => (World.ownsRow.lt HO5.out k hk).1)
                have HF := Lib.hid (And.intro hF hB9)
                clear hown9 hgrow hF hB9 hB5 HO5 a1 a2 a3 a4 k1 hlk5 hix
                go_wp2
                go_roundw
                case rel => first | exact ⟨k + 1, by go_num, by omega, HF.out⟩ | ((repeat apply Exists.intro); exact ⟨⟨k + 1, by go_num, by omega, HF.out⟩, rfl⟩)
                case measure => simp [intOf]; omega
              · have hd : (((lt : Nat) : Int) == 0) = false := beq_eq_false_iff_ne.2 (by omega)
                have Htk2 := Htk.out
                rw [if_neg (by rw [Hlt.out]; exact hl0), List.append_nil] at Htk2
                go_quiet (fail)
                have hB5 : Below wy.heap.size wy (wr.drewN nq) := bel_drewN hB
                have hF := HO.out.kept (w' := wr.drewN nq) (T := []) (.of_below (bel_drewN (Below.refl _ _))) (fun _ _ => by simp)
                rw [← Htk2] at hF
                have HF := Lib.hid (And.intro hF hB5)
                clear Htk2 hF hB5 hlvq hlkq hlk0 k0 k1 HO hB HLv2 Htk a1 a2 a3 a4 hix
                go_wp2
                go_roundw
                case rel => first | exact ⟨k + 1, by go_num, by omega, HF.out⟩ | ((repeat apply Exists.intro); exact ⟨⟨k + 1, by go_num, by omega, HF.out⟩, rfl⟩)
                case measure => simp [intOf]; omega
            · obtain rfl : k = ne := by omega
              have hF := HO.out
              rw [List.take_of_length_le (by rw [Hne.out]; exact Nat.le_refl _)] at hF
              have HF := Lib.hid (And.intro hF hB)
              clear HO HLv2 hF hB
              go_wp2
              go_meet
              case rel => exact HF.out
        case rest =>
          obtain ⟨hO9, hB9⟩ := hcut
          obtain ⟨wA, rfl⟩ : ∃ z : World, z = wc := ⟨_, rfl⟩
          have hO9lt := fun q hq => (World.ownsRow.lt hO9 q hq).1
          obtain ⟨A1, m1, rfl, hEd⟩ := hO9.eds
          obtain ⟨nE, hnE⟩ : ∃ z, (frL R.S g.n n).length = z := ⟨_, rfl⟩
          have hnE256 : nE ≤ 256 := by rw [← hnE]; exact Nat.le_trans (len_frL R.S g.n n) Hn.out.1
          have hnb : (R.S.nb g.n n).length = nE := by rw [← hnE, frL_len]
          have hsort := LS.nb_sorted R.S g.n n
          obtain ⟨nb, hnb0⟩ : ∃ l, R.S.nb g.n n = l := ⟨_, rfl⟩
          rw [hnb0] at hnb hsort
          have hcor := inv_cor HR.out.2.2.1
          have hsml := inv_sml HR.out.2.2.1 HInv.out.2
          have HEd := Lib.hid hEd
          have HnE := Lib.hid (And.intro hnE (And.intro hnb0 (And.intro hnb (And.intro hsort (And.intro hcor hsml)))))
          rw [hnE]
          clear hO9 hEd hnE hnb0 hnb hsort hcor hsml hnl0 hlv0 hE hix k0
          go_upto_block 4 with (fail)
          refine rRoundB wA b ml me nl Sb tp g R Hok.out HnE.out.2.2.2.2.1 HnE.out.2.2.2.2.2 (HL.out.1.below hB9) A n0 m0 (hIr2.below hB9) Hn.out.2 n A1 nE m1 HEd.out HnE.out.1 ?_
          intro u11 u12 u13 u14 u15 u16 u17 u18 u84 u85 u86 u87 u88 u89 u90 u91 u92 u93 u94 u95 u96 u97 u98 u99 u100 u101 u102 u103 u104 u105 u106 u107 u108 u109 u110 u111 u112 u113 u114 u115 u116 u117 u118 u119 u120 u121 u122 u123 u124 u125 u126 u127 u128 u129 u130 u131 u132 u133 u134 u135 u136 u137 u138 u139 u140 u141 u142 u143 u144 u145 u146 u147 u148 u149 u150 u151 u152 wB hP4
          obtain ⟨hO11, hO12, hBB⟩ := hP4
          have h11lt := fun q hq => (World.ownsRow.lt hO11 q hq).1
          have h12lt := fun q hq => (World.ownsRow.lt hO12 q hq).1
          obtain ⟨F, m11, hu11, hF11⟩ := hO11.ints
          obtain ⟨A12, m12, rfl, hE12⟩ := hO12.eds
          subst hu11
          obtain ⟨lm, hlm⟩ : ∃ z, (R.S.more g.n n).length = z := ⟨_, rfl⟩
          rw [List.length_map, hlm] at hF11
          rw [List.length_map, List.length_map, hlm]
          have Hlm := Lib.hid hlm
          have hBo := bel_trans hB9 hBB
          have H11 := Lib.hid (And.intro hF11 h11lt)
          have H12 := Lib.hid (And.intro hE12 h12lt)
          have HEB := Lib.hid (And.intro (HEd.out.below hBB) hO9lt)
          clear hO11 hO12 h11lt h12lt hF11 hE12 hlm hO9lt HEd
          by_cases hmany : nE < lm
          · have hmy : (R.S.nb g.n n).length < (R.S.more g.n n).length := by rw [HnE.out.2.1, HnE.out.2.2.1, Hlm.out]; exact hmany
            have hF := Hsame.out (step_many hmy)
            have HF := Lib.hid (And.intro hF.1 (hF.2 _ hBo))
            clear hF hmy Hsame HS HL
            go_wp2
            go_roundw
            case rel => first | exact ⟨i + 1, by go_num, by omega, by rw [HF.out.1], HF.out.2⟩ | ((repeat apply Exists.intro); exact ⟨⟨i + 1, by go_num, by omega, by rw [HF.out.1], HF.out.2⟩, rfl⟩)
            case measure => simp [intOf]; omega
          · have hmy : ¬ (R.S.nb g.n n).length < (R.S.more g.n n).length := by rw [HnE.out.2.1, HnE.out.2.2.1, Hlm.out]; exact hmany
            have hpass := step_pass (N := g.n) (tp := tp) HR.out.2.2.2.2.2 HR.out.2.2.2.2.1 hmy
            rw [← HR.out.1] at hpass
            have Hpass := Lib.hid hpass
            have HLB := Lib.hid (And.intro (HL.out.1.below hBo) (And.intro (HL.out.2.1.below hBo) HL.out.2.2))
            have hSB := Lib.hid (HS.out.below hBo)
            have hwo : mn < wo.heap.size := HL.out.2.1.lt
            have hgeA : wo.heap.size ≤ wA.heap.size := hB9.size
            have hA1m : ∀ ad, A1 = some ad → ad.block ∉ [mn] := fun ad e => by have := HEB.out.2 ad.block (by rw [e]; rfl); simp; omega
            have HA1m := Lib.hid hA1m
            clear hpass hmy Hsame HS HL hA1m
            go_upto_block 8 with (fail)
            go_cut [] (fun wx => (∃ c, MapAt iK wx mn (nearV fun t => R.near t || decide (t ∈ R.S.nb g.n n)) c) ∧ Kept [mn] wB wx)
            case first =>
              go_wp2_with fail
              go_loopw [19] (fun kv wx => ∃ (j : Nat) (c : Nat), kv = .int .i64 j ∧ j ≤ nE ∧ MapAt iK wx mn (nearV (nearJ R.near (R.S.nb g.n n) j)) c ∧ Kept [mn] wB wx) (fun kv _ => nE - (intOf kv).toNat)
              case atStart => exact ⟨0, c, rfl, by omega, by rw [nearJ_zero]; exact HLB.out.2.1, Kept.refl _ _⟩
              case round =>
                obtain ⟨j, cj, rfl, hj, hNj, hKj⟩ := hrel
                by_cases hlj : j < nE
                · obtain ⟨x, hx⟩ : ∃ x, (frL R.S g.n n)[j]? = some x := ⟨_, List.getElem?_eq_getElem (by rw [HnE.out.1]; exact hlj)⟩
                  obtain ⟨t, ht1, ht2, ht3, ht4, ht5, ht6⟩ := frL_at hx
                  obtain ⟨gb, hA, a1, a2, a3, a4⟩ := (HEB.out.1.kept hKj HA1m.out).get hx
                  have hix2 := fun wx => idxE (m := m1) hA hlj wx
                  obtain ⟨xt, ⟨xs, xd⟩, xm⟩ := x
                  simp only at a1 ht2
                  subst ht2
                  have Ht := Lib.hid ht5
                  clear hx ht3 ht4 ht5 ht6 hA a2 a3 a4
                  go_wp2_with (refine wpList_storeM rfl _ _ _ rfl (int_fit Tryz.underlying3) Tryz.underlying123 hNj rfl ((t : Nat) : Int) rfl (.bool true) rfl ?_; intro wU hmU hkU)
                  rw [nearV_put, nearJ_step Ht.out] at hmU
                  have HF := Lib.hid (And.intro hmU (hKj.trans hkU))
                  clear hmU hkU hKj hNj a1 hix2
                  go_wp2
                  go_roundw
                  case rel => first | exact ⟨j + 1, _, by go_num, by omega, HF.out⟩ | ((repeat apply Exists.intro); exact ⟨⟨j + 1, _, by go_num, by omega, HF.out⟩, rfl⟩)
                  case measure => simp [intOf]; omega
                · obtain rfl : j = nE := by omega
                  rw [nearJ_all (by rw [HnE.out.2.1, HnE.out.2.2.1]; exact Nat.le_refl _)] at hNj
                  have HF := Lib.hid (And.intro hNj hKj)
                  clear hNj hKj
                  go_wp2
                  go_meet
                  case rel => exact ⟨⟨_, HF.out.1⟩, HF.out.2⟩
            case rest =>
              obtain ⟨⟨cN, hNC⟩, hKC⟩ := hcut
              obtain ⟨wC, rfl⟩ : ∃ z : World, z = wc := ⟨_, rfl⟩
              have hmlS : ml ∉ [mn] ∧ me ∉ [mn] ∧ b ∉ [mn] := by simp; omega
              have hLw := HLB.out.1.kept hKC (fun k hk => by
                rcases List.mem_cons.1 hk with r | hk
                · rw [r]; exact hmlS.2.2
                rcases List.mem_cons.1 hk with r | hk
                · rw [r]; exact hmlS.1
                rcases List.mem_cons.1 hk with r | hk
                · rw [r]; exact hmlS.2.1
                · simp; rintro rfl; exact HLB.out.2.2 hk)
              have k0 : wC.cell? ⟨b, 0, none⟩ = some (.map (some ml)) := by simp [World.cell?, hLw.1]
              have k2 : wC.cell? ⟨b, 2, none⟩ = some (.int .i64 (tp : Nat)) := by simp [World.cell?, hLw.1]
              have hLd := hLw.below (bel_drew (Below.refl _ _))
              obtain ⟨wU, hrun, hMU, hKU⟩ := hLd.2.1.store (P := Tryz.prog) (mt := 53) (int_fit Tryz.underlying3) Tryz.underlying53 ((n : Nat) : Int) (.int .i64 (tp : Nat))
              rw [levR_part (T := TK (R.S.more g.n n) 0) HR.out.2.1 (by omega)] at hMU
              have hLU := hLd.lev hMU hKU
              have hKU2 : Kept [ml] wC wU := ⟨hKU.os, hKU.tape, hKU.output, hKU.size, hKU.block⟩
              rw [show egE g R.S = egE g (R.S.part n tp (TK (R.S.more g.n n) 0)) by rw [TK_zero, egE_partF]] at hLU
              have hNU := hNC.kept hKU2 (by simp; omega)
              have hKBU : Kept [mn, ml] wB wU := (hKC.wid (by simp)).trans (hKU2.wid (by simp))
              have HU := Lib.hid (And.intro hLU (And.intro hNU hKBU))
              clear hLw hLd hMU hLU hKU hKU2 hNU hKBU hNC hKC
              go_upto_region 34 with (fail)
              go_region
              have HU2 := Lib.hid (And.intro HU.out.2.1 HU.out.2.2)
              have HmSb := Lib.hid HLB.out.2.2
              clear hrun k0 k2 HLB
              go_upto_block 10 with (fail)
              refine rRoundC wU wB b ml me _ mn Sb tp g R Hok.out HnE.out.2.2.2.2.1 n F lm m11 A12 m12 Hlm.out (by omega) H11.out.1 H12.out.1 (fun ad e => by have := H11.out.2 ad.block (by rw [e]; rfl); simp; omega) (fun ad e => by have := H12.out.2 ad.block (by rw [e]; rfl); simp; omega) HU2.out.2 HU2.out.1.lt (by omega) HU.out.1 HmSb.out ?_
              intro u20 u21 u179 u180 u181 u182 u183 u184 u185 u186 u187 u188 u189 u190 u191 u192 u193 u194 u195 u196 u197 u198 u199 u200 u201 u202 u203 u204 u205 u206 u207 u208 u209 u210 u211 u212 u213 u214 u215 u216 u217 u218 u219 u220 u221 u222 u223 u224 u225 u226 u227 u228 u229 wE hP10
              obtain ⟨Sc, nl', hL, hmSc, hK⟩ := hP10
              have HL := Lib.hid (And.intro hL (And.intro hmSc hK))
              clear hL hmSc hK
              have hF : RdR wz wE b ml me mn tp g (rnAt g S tp (i + 1)) := by
                have e := LS.part_all (S := R.S) (N := g.n) (n := n) (top := tp) (T := TK (R.S.more g.n n) lm) (fun a b => TK_all (by rw [Hlm.out]; exact Nat.le_refl _) a b)
                have q := HL.out.1
                rw [e] at q
                obtain ⟨_, _, _, _, _, _, q4⟩ := hSB.out
                rw [Hpass.out]
                refine ⟨Sc, _, nl', q, HU2.out.1.kept HL.out.2.2 (by simp; omega), HL.out.2.1, (q4.trans (HU2.out.2.wid ?_)).trans (HL.out.2.2.wid (by simp))⟩
                intro z hz
                simp at hz
                rcases hz with rfl | rfl <;> simp
              have hsm2 : true = (rnAt g S tp (i + 1)).some_ := by rw [Hpass.out]
              have HF := Lib.hid (And.intro hsm2 hF)
              clear hF hsm2 HL
              go_wp2
              go_roundw
              case rel => first | exact ⟨i + 1, by go_num, by omega, by rw [HF.out.1], HF.out.2⟩ | ((repeat apply Exists.intro); exact ⟨⟨i + 1, by go_num, by omega, by rw [HF.out.1], HF.out.2⟩, rfl⟩)
              case measure => simp [intOf]; omega
    · obtain rfl : i = n0 := by omega
      have hF := HS.out.fin (by rw [Hn.out.2]; exact Nat.le_refl _) HW1 (by omega)
      have HF := Lib.hid hF
      clear hF HS
      go_wp2
      go_ret
      exact HF.out
end Go.Proofs.YtjejkadaafmdcaaGreat
