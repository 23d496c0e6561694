/- Lemmas of this claim: RLv7b. -/
import Derived.Test.YtjejkadaafmdcaaGreatRLv7a
set_option linter.unusedVariables false
set_option linter.unusedSimpArgs false
/- The document's round: the last of its loops. (Written by rl7gen.py.) -/
namespace Go.Proofs.YtjejkadaafmdcaaGreat
open Go.RowKit Go.Sort FR Go.Lib
set_option maxRecDepth 1000000 in
set_option maxHeartbeats 6400000 in
theorem rRoundC (w0 wB : World) (b ml me nl mn : Nat) (Sb : List Nat) (tp : Nat) (g : G) (R : RS) (hok : g.ok) (hcor : Cor g R.S) (n : Nat) (F : Option Addr) (lm m11 : Nat) (A12 : Option Addr) (m12 : Nat) (hlm : (R.S.more g.n n).length = lm) (hmm2 : lm ≤ 70000) (hF11 : Ints wB F lm (fun k => ((R.S.more g.n n).map fun p => ((p.1 : Nat) : Int)).getD k 0)) (hE12 : EdsAt wB A12 ((R.S.more g.n n).map (mkE R.S n))) (hF11m : ∀ ad, F = some ad → ad.block ∉ [mn, ml, me]) (hE12m : ∀ ad, A12 = some ad → ad.block ∉ [mn, ml, me]) (hKB : Kept [mn, ml] wB w0) (hmn : mn < w0.heap.size) (hmne : mn ≠ me) (hLv : LvR w0 b ml me Sb (tp : Nat) (levR g (R.S.part n tp (TK (R.S.more g.n n) 0))) nl (egE g (R.S.part n tp (TK (R.S.more g.n n) 0)))) (hmS : mn ∉ Sb)
    {s1 s2 s3 s4 s5 s6 s7 s9 s10 s13 s14 s15 s16 s17 s18 s19 s21 s22 s23 s24 s25 s26 s27 s28 s29 s30 s31 s32 s33 s34 s35 s36 s37 s38 s39 s40 s41 s42 s43 s44 s45 s46 s47 s48 s49 s50 s51 s52 s53 s54 s55 s56 s57 s58 s59 s60 s61 s62 s63 s64 s65 s66 s67 s68 s69 s70 s71 s72 s73 s74 s75 s76 s77 s78 s79 s80 s81 s82 s83 s84 s85 s86 s87 s88 s89 s90 s91 s92 s93 s94 s95 s96 s97 s98 s99 s100 s101 s102 s103 s104 s105 s106 s107 s108 s109 s110 s111 s112 s113 s114 s115 s116 s117 s118 s119 s120 s121 s122 s123 s124 s125 s126 s127 s128 s129 s130 s131 s132 s133 s134 s135 s136 s137 s138 s139 s140 s141 s142 s143 s144 s145 s146 s147 s148 s149 s150 s151 s152 s153 s154 s155 s156 s157 s158 s159 s160 s161 s162 s163 s164 s165 s166 s167 s168 s169 s170 s171 s172 s173 s174 s175 s176 s177 s178 s179 s180 s181 s182 s183 s184 s185 s186 s187 s188 s189 s190 s191 s192 s193 s194 s195 s196 s197 s198 s199 s200 s201 s202 s203 s204 s205 s206 s207 s208 s209 s210 s211 s212 s213 s214 s215 s216 s217 s218 s219 s220 s221 s222 s223 s224 s225 s226 s227 s228 s229 s230 : Value} {Q : Exit → Act → World → Prop} (hQ : ∀ (u20 u21 u179 u180 u181 u182 u183 u184 u185 u186 u187 u188 u189 u190 u191 u192 u193 u194 u195 u196 u197 u198 u199 u200 u201 u202 u203 u204 u205 u206 u207 u208 u209 u210 u211 u212 u213 u214 u215 u216 u217 u218 u219 u220 u221 u222 u223 u224 u225 u226 u227 u228 u229 : Value) (w' : World), (∃ Sc nl', LvR w' b ml me Sc (tp : Nat) (levR g (R.S.part n tp (TK (R.S.more g.n n) lm))) nl' (egE g (R.S.part n tp (TK (R.S.more g.n n) lm))) ∧ mn ∉ Sc ∧ Kept [me] w0 w') → Q .normal ⟨#[.pointer (some ⟨b, 0, none⟩), s1, s2, s3, s4, s5, s6, s7, .int .i64 (n : Nat), s9, s10, .slice F lm m11, .slice A12 lm m12, s13, s14, s15, s16, s17, s18, s19, u20, u21, s22, s23, s24, s25, s26, s27, s28, s29, s30, s31, s32, s33, s34, s35, s36, s37, s38, s39, s40, s41, s42, s43, s44, s45, s46, s47, s48, s49, s50, s51, s52, s53, s54, s55, s56, s57, s58, s59, s60, s61, s62, s63, s64, s65, s66, s67, s68, s69, s70, s71, s72, s73, s74, s75, s76, s77, s78, s79, s80, s81, s82, s83, s84, s85, s86, s87, s88, s89, s90, s91, s92, s93, s94, s95, s96, s97, s98, s99, s100, s101, s102, s103, s104, s105, s106, s107, s108, s109, s110, s111, s112, s113, s114, s115, s116, s117, s118, s119, s120, s121, s122, s123, s124, s125, s126, s127, s128, s129, s130, s131, s132, s133, s134, s135, s136, s137, s138, s139, s140, s141, s142, s143, s144, s145, s146, s147, s148, s149, s150, s151, s152, s153, s154, s155, s156, s157, s158, s159, s160, s161, s162, s163, s164, s165, s166, s167, s168, s169, s170, s171, s172, s173, s174, s175, s176, s177, s178, u179, u180, u181, u182, u183, u184, u185, u186, u187, u188, u189, u190, u191, u192, u193, u194, u195, u196, u197, u198, u199, u200, u201, u202, u203, u204, u205, u206, u207, u208, u209, u210, u211, u212, u213, u214, u215, u216, u217, u218, u219, u220, u221, u222, u223, u224, u225, u226, u227, u228, u229, s230], []⟩ w') :
    Code.wp Tryz.prog (rBlk 10) Q ⟨#[.pointer (some ⟨b, 0, none⟩), s1, s2, s3, s4, s5, s6, s7, .int .i64 (n : Nat), s9, s10, .slice F lm m11, .slice A12 lm m12, s13, s14, s15, s16, s17, s18, s19, .int .i64 0, s21, s22, s23, s24, s25, s26, s27, s28, s29, s30, s31, s32, s33, s34, s35, s36, s37, s38, s39, s40, s41, s42, s43, s44, s45, s46, s47, s48, s49, s50, s51, s52, s53, s54, s55, s56, s57, s58, s59, s60, s61, s62, s63, s64, s65, s66, s67, s68, s69, s70, s71, s72, s73, s74, s75, s76, s77, s78, s79, s80, s81, s82, s83, s84, s85, s86, s87, s88, s89, s90, s91, s92, s93, s94, s95, s96, s97, s98, s99, s100, s101, s102, s103, s104, s105, s106, s107, s108, s109, s110, s111, s112, s113, s114, s115, s116, s117, s118, s119, s120, s121, s122, s123, s124, s125, s126, s127, s128, s129, s130, s131, s132, s133, s134, s135, s136, s137, s138, s139, s140, s141, s142, s143, s144, s145, s146, s147, s148, s149, s150, s151, s152, s153, s154, s155, s156, s157, s158, s159, s160, s161, s162, s163, s164, s165, s166, s167, s168, s169, s170, s171, s172, s173, s174, s175, s176, s177, s178, s179, s180, s181, s182, s183, s184, s185, s186, s187, s188, s189, s190, s191, s192, s193, s194, s195, s196, s197, s198, s199, s200, s201, s202, s203, s204, s205, s206, s207, s208, s209, s210, s211, s212, s213, s214, s215, s216, s217, s218, s219, s220, s221, s222, s223, s224, s225, s226, s227, s228, s229, s230], []⟩ w0 := by
  conv => arg 2; whnf
  have hn := G.n_le hok
  have Hn := Lib.hid (And.intro hn trivial)
  have HnE := Lib.hid (And.intro True.intro (And.intro True.intro (And.intro True.intro (And.intro True.intro (And.intro hcor True.intro)))))
  have Hlm := Lib.hid hlm
  have H11 := Lib.hid (And.intro hF11 hF11m)
  have H12 := Lib.hid (And.intro hE12 hE12m)
  have HU2 := Lib.hid (And.intro hmn hKB)
  have HQ := Lib.hid hQ
  have HS0 : ∃ Sc nl', LvR w0 b ml me Sc (tp : Nat) (levR g (R.S.part n tp (TK (R.S.more g.n n) 0))) nl' (egE g (R.S.part n tp (TK (R.S.more g.n n) 0))) ∧ mn ∉ Sc ∧ Kept [me] w0 w0 := ⟨Sb, nl, hLv, hmS, Kept.refl _ _⟩
  clear hn hcor hlm hF11 hE12 hF11m hE12m hmn hKB hQ hLv hmS hok
  go_wp2_with fail
  obtain ⟨wD, rfl⟩ : ∃ z : World, z = w0 := ⟨_, rfl⟩
  go_loopw [20] (fun kv wr => ∃ k : Nat, kv = .int .i64 k ∧ k ≤ lm ∧ ∃ Sc nl', LvR wr b ml me Sc (tp : Nat) (levR g (R.S.part n tp (TK (R.S.more g.n n) k))) nl' (egE g (R.S.part n tp (TK (R.S.more g.n n) k))) ∧ mn ∉ Sc ∧ Kept [me] wD wr) (fun kv _ => lm - (intOf kv).toNat)
  case atStart => exact ⟨0, rfl, by omega, HS0⟩
  case round =>
    obtain ⟨k, rfl, hk, Sc, nl', hL, hmSc, hK⟩ := hrel
    clear HS0
    have HL := Lib.hid (And.intro hL (And.intro hmSc hK))
    clear hL hmSc hK
    by_cases hkl : k < lm
    · obtain ⟨⟨a', b'⟩, hab⟩ : ∃ p, (R.S.more g.n n)[k]? = some p := ⟨_, List.getElem?_eq_getElem (by rw [Hlm.out]; exact hkl)⟩
      have hmem := LS.mem_more.1 (List.mem_of_getElem? hab)
      obtain ⟨na, nb', hlt', _⟩ := hmem
      have hca : g.Corner a' := (HnE.out.2.2.2.2.1 n a' (by have := (LS.mem_nb.1 na).2.1; intro h; rw [h] at this; cases this)).2.1
      have hcb : g.Corner b' := (HnE.out.2.2.2.2.1 n b' (by have := (LS.mem_nb.1 nb').2.1; intro h; rw [h] at this; cases this)).2.1
      obtain ⟨⟨xs, xd⟩, hcx⟩ : ∃ z, C.add (R.S.cost n a') (R.S.cost n b') = z := ⟨_, rfl⟩
      have hKBr : Kept [mn, ml, me] wB wr := (HU2.out.2.wid (by intro z hz; simp at hz; rcases hz with rfl | rfl <;> simp)).trans (HL.out.2.2.wid (by simp))
      have hFr := H11.out.1.kept hKBr H11.out.2
      have hEr := H12.out.1.kept hKBr H12.out.2
      have hxe : ((R.S.more g.n n).map (mkE R.S n))[k]? = some ⟨(b' : Nat), ⟨xs, xd⟩, (n : Nat)⟩ := by rw [List.getElem?_map, hab, Option.map_some]; unfold mkE; simp only; rw [hcx]
      obtain ⟨gx, hA12, a1, a2, a3, a4⟩ := hEr.get hxe
      have hix12 := fun wx => idxE (m := m12) hA12 hkl wx
      simp only at a1 a2 a3 a4
      obtain ⟨ad2, hF2⟩ := hFr.addr (by omega)
      have Hadm := Lib.hid (show ad2.block ∉ [mn, ml, me] from H11.out.2 ad2 hF2)
      rw [hF2] at hFr
      have hix11 := fun wx => idx_run (m := m11) hF2 hkl wx
      have hfc := hFr.cell (Below.refl _ _) hkl
      rw [show ((R.S.more g.n n).map fun p => ((p.1 : Nat) : Int)).getD k 0 = ((a' : Nat) : Int) by rw [List.getD_eq_getElem?_getD, List.getElem?_map, hab]; rfl] at hfc
      obtain ⟨P, hP⟩ : ∃ P, R.S.part n tp (TK (R.S.more g.n n) k) = P := ⟨_, rfl⟩
      have hLr := HL.out.1
      rw [hP] at hLr
      obtain ⟨A5, m5, hEd5, hlk5⟩ := hLr.look (egE_at hca)
      have hle5 := len_EgL P g.n a'
      have cY := Lib.hid (fun w' (hb : Below wr.heap.size wr w') => rLay w' A5 m5 (EgL P g.n a') ⟨(b' : Nat), ⟨xs, xd⟩, (n : Nat)⟩ (hEd5.below hb) (srt_EgL _ _ _) (by have := Hn.out.1; omega))
      obtain ⟨n5, hn5⟩ : ∃ z, (EgL P g.n a').length = z := ⟨_, rfl⟩
      rw [hn5] at cY hlk5
      simp only at cY
      have k1 : wr.cell? ⟨b, 1, none⟩ = some (.map (some me)) := by simp [World.cell?, hLr.1]
      have Hcc := Lib.hid (And.intro hca (And.intro hcb (And.intro hab (And.intro hcx (And.intro hlt' hP)))))
      have HLr := Lib.hid hLr
      have Hlk5 := Lib.hid hlk5
      clear na nb' hca hcb hab hcx hlt' hP hLr hEd5 hlk5 hn5 hle5 hA12 hF2 hxe hKBr hFr hEr
      go_upto_region 39 with (fail)
      refine wp_name ?_
      intro W hW
      have HW : Below wr.heap.size wr W := by rw [hW]; (repeat' (first | exact Below.refl _ _ | assumption | apply bel_drewN | apply bel_drew | apply bel_alloc | (refine bel_trans ?_ (by assumption))))
      have x0 : W.cell? ⟨wr.heap.size, 0, none⟩ = some (.int .i64 (b' : Nat)) := by rw [hW]; go_simp
      have x1 : W.cell? ⟨wr.heap.size, 1, none⟩ = some (.int .i64 xs) := by rw [hW]; go_simp
      have x2 : W.cell? ⟨wr.heap.size, 2, none⟩ = some (.int .i64 xd) := by rw [hW]; go_simp
      have x3 : W.cell? ⟨wr.heap.size, 3, none⟩ = some (.int .i64 (n : Nat)) := by rw [hW]; go_simp
      obtain ⟨b21, hb21⟩ : ∃ z, wr.heap.size = z := ⟨_, rfl⟩
      have hme21 : me ≠ b21 := by have := HLr.out.lts.2.2.1; omega
      have hwrm : mn < wr.heap.size := by have := HU2.out.1; have := HL.out.2.2.size; omega
      have hbme : b ≠ me := HLr.out.2.2.2.2.2.2.1
      have hadm : ad2.block ≠ me := by have := Hadm.out; simp at this; exact this.2.2
      have f0 : W.cell? (ad2.add k) = some (.int .i64 (a' : Nat)) := bel_cell HW hfc
      have k1 := bel_cell HW k1
      rw [hb21] at x0 x1 x2 x3 ⊢
      have hl1 : (Instr.lookup 54 (.map (some me)) (.int .i64 (a' : Nat)) false).run Tryz.prog W.drew = .ok (.slice A5 n5 m5) W.drew := Hlk5.out _ (bel_drew HW)
      have HLW := Lib.hid (HLr.out.below HW)
      obtain ⟨V, N, e1, e2, e3, e4, e5, e6, e7⟩ := HLW.out.2.2.1
      have HE := Lib.hid (And.intro e1 (And.intro e2 (And.intro e3 (And.intro e4 (And.intro e5 (And.intro e6 e7))))))
      clear hW hb21 a1 a2 a3 a4 hix12 hfc e1 e2 e3 e4 e5 e6 e7
      go_region_held3 (fun w' => w'.cell? ⟨b, 1, none⟩ = some (.map (some me)) ∧ w'.cell? (ad2.add k) = some (.int .i64 (a' : Nat)) ∧ w'.cell? ⟨b21, 0, none⟩ = some (.int .i64 (b' : Nat)) ∧ w'.cell? ⟨b21, 1, none⟩ = some (.int .i64 xs) ∧ w'.cell? ⟨b21, 2, none⟩ = some (.int .i64 xd) ∧ w'.cell? ⟨b21, 3, none⟩ = some (.int .i64 (n : Nat)))
        (first
          | exact ⟨k1, f0, x0, x1, x2, x3⟩
          | exact hSI
          | exact hSU)
        ((first
          | (go_at_call 110
             refine (cY.out _ (bel_drew HW)).mono ?_
             rintro e wI ⟨vE, rfl, hOI, hbI⟩
             have hSI : wI.cell? ⟨b, 1, none⟩ = some (.map (some me)) ∧ wI.cell? (ad2.add k) = some (.int .i64 (a' : Nat)) ∧ wI.cell? ⟨b21, 0, none⟩ = some (.int .i64 (b' : Nat)) ∧ wI.cell? ⟨b21, 1, none⟩ = some (.int .i64 xs) ∧ wI.cell? ⟨b21, 2, none⟩ = some (.int .i64 xd) ∧ wI.cell? ⟨b21, 3, none⟩ = some (.int .i64 (n : Nat)) :=
               ⟨bel_cell (w := W.drew) hbI k1, bel_cell (w := W.drew) hbI f0, bel_cell (w := W.drew) hbI x0, bel_cell (w := W.drew) hbI x1, bel_cell (w := W.drew) hbI x2, bel_cell (w := W.drew) hbI x3⟩
             have hMI : MapAt iK wI me V N := (HE.out.1.below (bel_drew (Below.refl _ _))).below hbI
             obtain ⟨wU2, hU, hMU, hKU⟩ := hMI.store (P := Tryz.prog) (int_fit Tryz.underlying3) Tryz.underlying54 ((a' : Nat) : Int) vE
             have hU : (Instr.mapUpdate 54 (.map (some me)) (.int .i64 (a' : Nat)) vE).run Tryz.prog wI = .ok () wU2 := hU
             have hSU : wU2.cell? ⟨b, 1, none⟩ = some (.map (some me)) ∧ wU2.cell? (ad2.add k) = some (.int .i64 (a' : Nat)) ∧ wU2.cell? ⟨b21, 0, none⟩ = some (.int .i64 (b' : Nat)) ∧ wU2.cell? ⟨b21, 1, none⟩ = some (.int .i64 xs) ∧ wU2.cell? ⟨b21, 2, none⟩ = some (.int .i64 xd) ∧ wU2.cell? ⟨b21, 3, none⟩ = some (.int .i64 (n : Nat)) :=
               ⟨keptc hKU (by simpa using hbme) hSI.1, keptc hKU (by rw [add_block]; simpa using hadm) hSI.2.1, keptc hKU (by simpa using Ne.symm hme21) hSI.2.2.1, keptc hKU (by simpa using Ne.symm hme21) hSI.2.2.2.1, keptc hKU (by simpa using Ne.symm hme21) hSI.2.2.2.2.1, keptc hKU (by simpa using Ne.symm hme21) hSI.2.2.2.2.2⟩)))
      all_goals
        have hbI2 : Below W.heap.size W wI := bel_trans (bel_drew (Below.refl _ _)) hbI
        have hEU := EMap.fresh (w := W) HE.out.1 HE.out.2.1 HE.out.2.2.1 HE.out.2.2.2.1 HE.out.2.2.2.2.1 HE.out.2.2.2.2.2.1 HE.out.2.2.2.2.2.2 hbI2 hOI hMU hKU
        have hown : ∀ q, q ∈ vE.ownBlock.toList → W.heap.size ≤ q := fun q hq => by
          rw [Option.mem_toList] at hq
          exact (World.ownsRow.lt hOI q hq).1
        have hLU := HLW.out.put hEU (fun q hq => by
          rcases List.mem_append.1 hq with r | r
          · exact .inr (hown q r)
          · exact .inl r) ((Kept.of_below hbI2).trans (hKU.wid (by simp)))
        have hkU : Kept [me] W wU2 := (Kept.of_below hbI2).trans hKU
        have hmU : mn ∉ vE.ownBlock.toList ++ Sc := fun hm => by
          rcases List.mem_append.1 hm with r | r
          · have := hown _ r; have := HW.size; omega
          · exact HL.out.2.1 r
        obtain ⟨k1', f0', x0', x1', x2', x3'⟩ := hSU
        have hEb : updE (egE g P) ((a' : Nat) : Int) (some (putS (EgL P g.n a') ⟨(b' : Nat), ⟨xs, xd⟩, (n : Nat)⟩)) ((b' : Nat) : Int) = some (EgL P g.n b') := by
          have := Hcc.out.2.2.2.2.1
          unfold updE
          rw [if_neg (by omega), egE_at Hcc.out.2.1]
        obtain ⟨A6, m6, hEd6, hlk6⟩ := hLU.look hEb
        have hle6 := len_EgL P g.n b'
        have cY2 := Lib.hid (fun w' (hb : Below wU2.heap.size wU2 w') => rLay w' A6 m6 (EgL P g.n b') ⟨(a' : Nat), ⟨xs, xd⟩, (n : Nat)⟩ (hEd6.below hb) (srt_EgL _ _ _) (by have := Hn.out.1; omega))
        obtain ⟨n6, hn6⟩ : ∃ z, (EgL P g.n b').length = z := ⟨_, rfl⟩
        rw [hn6] at cY2 hlk6
        simp only at cY2
        have HLU := Lib.hid (And.intro hLU (And.intro hkU hmU))
        have hl2 : (Instr.lookup 54 (.map (some me)) (.int .i64 (b' : Nat)) false).run Tryz.prog wU2.drew = .ok (.slice A6 n6 m6) wU2.drew := hlk6 _ (bel_drew (Below.refl _ _))
        obtain ⟨V2, N2, e1, e2, e3, e4, e5, e6, e7⟩ := hLU.2.2.1
        have HE2 := Lib.hid (And.intro e1 (And.intro e2 (And.intro e3 (And.intro e4 (And.intro e5 (And.intro e6 e7))))))
        clear hl1 k1 f0 x0 x1 x2 x3 hOI hMU hKU hMI hU hSI hEU hown hLU hkU hmU hEb hEd6 hlk6 hn6 hle6 e1 e2 e3 e4 e5 e6 e7 hbI hbI2 HE cY
        go_upto_region 40 with (fail)
        go_region_held3 (fun w' => w'.cell? ⟨b, 1, none⟩ = some (.map (some me)) ∧ w'.cell? (ad2.add k) = some (.int .i64 (a' : Nat)) ∧ w'.cell? ⟨b21, 0, none⟩ = some (.int .i64 (b' : Nat)) ∧ w'.cell? ⟨b21, 1, none⟩ = some (.int .i64 xs) ∧ w'.cell? ⟨b21, 2, none⟩ = some (.int .i64 xd) ∧ w'.cell? ⟨b21, 3, none⟩ = some (.int .i64 (n : Nat)))
          (first
            | exact ⟨k1', f0', x0', x1', x2', x3'⟩
            | exact hSJ
            | exact hSV)
          ((first
            | (go_at_call 110
               refine (cY2.out _ (bel_drew (Below.refl _ _))).mono ?_
               rintro e wJ ⟨vF, rfl, hOJ, hbJ⟩
               have hSJ : wJ.cell? ⟨b, 1, none⟩ = some (.map (some me)) ∧ wJ.cell? (ad2.add k) = some (.int .i64 (a' : Nat)) ∧ wJ.cell? ⟨b21, 0, none⟩ = some (.int .i64 (b' : Nat)) ∧ wJ.cell? ⟨b21, 1, none⟩ = some (.int .i64 xs) ∧ wJ.cell? ⟨b21, 2, none⟩ = some (.int .i64 xd) ∧ wJ.cell? ⟨b21, 3, none⟩ = some (.int .i64 (n : Nat)) :=
                 ⟨bel_cell (w := wU2.drew) hbJ k1', bel_cell (w := wU2.drew) hbJ f0', bel_cell (w := wU2.drew) hbJ x0', bel_cell (w := wU2.drew) hbJ x1', bel_cell (w := wU2.drew) hbJ x2', bel_cell (w := wU2.drew) hbJ x3'⟩
               have hMJ : MapAt iK wJ me V2 N2 := (HE2.out.1.below (bel_drew (Below.refl _ _))).below hbJ
               obtain ⟨wV, hUJ, hMV, hKV⟩ := hMJ.store (P := Tryz.prog) (int_fit Tryz.underlying3) Tryz.underlying54 ((b' : Nat) : Int) vF
               have hUJ : (Instr.mapUpdate 54 (.map (some me)) (.int .i64 (b' : Nat)) vF).run Tryz.prog wJ = .ok () wV := hUJ
               have hSV : wV.cell? ⟨b, 1, none⟩ = some (.map (some me)) ∧ wV.cell? (ad2.add k) = some (.int .i64 (a' : Nat)) ∧ wV.cell? ⟨b21, 0, none⟩ = some (.int .i64 (b' : Nat)) ∧ wV.cell? ⟨b21, 1, none⟩ = some (.int .i64 xs) ∧ wV.cell? ⟨b21, 2, none⟩ = some (.int .i64 xd) ∧ wV.cell? ⟨b21, 3, none⟩ = some (.int .i64 (n : Nat)) :=
                 ⟨keptc hKV (by simpa using hbme) hSJ.1, keptc hKV (by rw [add_block]; simpa using hadm) hSJ.2.1, keptc hKV (by simpa using Ne.symm hme21) hSJ.2.2.1, keptc hKV (by simpa using Ne.symm hme21) hSJ.2.2.2.1, keptc hKV (by simpa using Ne.symm hme21) hSJ.2.2.2.2.1, keptc hKV (by simpa using Ne.symm hme21) hSJ.2.2.2.2.2⟩)))
        all_goals
          have hbJ2 : Below wU2.heap.size wU2 wJ := bel_trans (bel_drew (Below.refl _ _)) hbJ
          have hEV := EMap.fresh (w := wU2) HE2.out.1 HE2.out.2.1 HE2.out.2.2.1 HE2.out.2.2.2.1 HE2.out.2.2.2.2.1 HE2.out.2.2.2.2.2.1 HE2.out.2.2.2.2.2.2 hbJ2 hOJ hMV hKV
          have hownJ : ∀ q, q ∈ vF.ownBlock.toList → wU2.heap.size ≤ q := fun q hq => by
            rw [Option.mem_toList] at hq
            exact (World.ownsRow.lt hOJ q hq).1
          have hLV := HLU.out.1.put hEV (fun q hq => by
            rcases List.mem_append.1 hq with r | r
            · exact .inr (hownJ q r)
            · exact .inl r) ((Kept.of_below hbJ2).trans (hKV.wid (by simp)))
          have hput := part_put (g := g) (S := R.S) (n := n) (top := tp) (a := a') (b := b') (T := TK (R.S.more g.n n) k) Hcc.out.1 Hcc.out.2.1 (by have := Hcc.out.2.2.2.2.1; omega)
          rw [Hcc.out.2.2.2.1, Hcc.out.2.2.2.2.2, TK_step Hcc.out.2.2.1] at hput
          rw [hput] at hLV
          have hVe : levR g P = levR g (R.S.part n tp (TK (R.S.more g.n n) (k + 1))) := by rw [← Hcc.out.2.2.2.2.2]; rfl
          rw [hVe] at hLV
          have hmV : mn ∉ vF.ownBlock.toList ++ (vE.ownBlock.toList ++ Sc) := fun hm => by
            rcases List.mem_append.1 hm with r | r
            · have := hownJ _ r; have := HW.size; have := HLU.out.2.1.size; omega
            · exact HLU.out.2.2 r
          have hKF : Kept [me] wD wV := ((HL.out.2.2.trans (.of_below HW)).trans HLU.out.2.1).trans ((Kept.of_below hbJ2).trans hKV)
          have HF := Lib.hid (And.intro hLV (And.intro hmV hKF))
          clear hOJ hMV hKV hMJ hUJ hSJ hSV hEV hownJ hLV hput hVe hmV hKF hl2 k1' f0' x0' x1' x2' x3' hbJ hbJ2 HE2 cY2
          go_wp2
          go_roundw
          case rel => first | exact ⟨k + 1, by go_num, by omega, _, _, HF.out⟩ | ((repeat apply Exists.intro); exact ⟨⟨k + 1, by go_num, by omega, _, _, HF.out⟩, rfl⟩)
          case measure => simp [intOf]; omega
    · obtain rfl : k = lm := by omega
      have HF := Lib.hid (show ∃ Sc nl', LvR wr b ml me Sc (tp : Nat) (levR g (R.S.part n tp (TK (R.S.more g.n n) k))) nl' (egE g (R.S.part n tp (TK (R.S.more g.n n) k))) ∧ mn ∉ Sc ∧ Kept [me] wD wr from ⟨Sc, nl', HL.out⟩)
      clear HL
      go_wp2
      apply HQ.out
      exact HF.out

end Go.Proofs.YtjejkadaafmdcaaGreat
