/- Lemmas of this claim: Nav5, TopSave. -/
import Derived.Test.YtokhnobcincfjaaGreatDoorNav1
import Derived.Test.YtokhnobcincfjaaGreatDoorTxPrint
import Derived.Test.YtokhnobcincfjaaGreatDoorKNvA39
import Derived.Test.YtokhnobcincfjaaGreatDoorBase
import Derived.Test.YtokhnobcincfjaaGreatDoorKNvA3
import Derived.Test.YtokhnobcincfjaaGreatDoorKNvA44
set_option linter.unusedVariables false
set_option linter.unusedSimpArgs false
set_option maxHeartbeats 6400000
set_option maxRecDepth 100000
namespace Go.Proofs.YtokhnobcincfjaaGreatDoor
open Go.RowKit Go.Sort FR Go.Lib
theorem navSave (w : World) (s : Nat) (g : G) (v : Int) (most : Nat) (h : ServAt w s g v most) :
    Calls Tryz.prog 23 #[.pointer (some ⟨s,0,none⟩)] w fun e w'=>e=.returned (.string (bs (printS g)))∧Below w.heap.size w w':=by
 obtain ⟨_,pg,pt,rb,rp,rm,lb,lm,le,S,E,Sb,nl,hs,m1,m2,hG,_⟩:=h
 have ks0:w.cell? ⟨s,0,none⟩=some (.pointer (some ⟨pg,0,none⟩)):=by rw [Lib.cell_of_heap hs];rfl
 have cT:=textPrint w pg g v hG;obtain ⟨z,hz⟩:∃z,bs (printS g)=z:=⟨_,rfl⟩
 rw [hz] at cT ⊢
 replace cT:=Lib.hid cT;clear hs hG hz m1 m2;go_enter Tryz.func23,Tryz.ntmps23;go_wp2_with fail;refine cT.out.mono ?_;rintro e w2 ⟨rfl,hb2⟩;go_wp2_with fail;go_ret;exact ⟨rfl,hb2⟩
theorem topSave (W0 : World) (hV : LibS W0) (a b : Int) (A0 : Option Addr) (n0 m0 : Nat) (f0 : Nat → Int) (h0 : SlI W0 A0 n0 f0) (mx : Int) (hmx : -9223372036854775808 ≤ mx ∧ mx ≤ 9223372036854775807)
    (A1:Option Addr) (n1 m1:Nat) (f1:Nat→Int×Int) (h1:SlA W0 A1 n1 f1) :
    Calls Tryz.prog 6 #[.agg #[.int .i64 a,.int .i64 b,.slice A0 n0 m0],.int .i64 mx,.slice A1 n1 m1] W0 fun e w'=>e=.returned (.bool true)∧Below W0.heap.size W0 w':=by
 obtain ⟨hA1,hl1⟩:=h1;replace hA1:=Lib.hid hA1;replace hl1:=Lib.hid hl1;clear hmx;obtain ⟨hI0,hl0,_⟩:=h0;replace hl0:=Lib.hid hl0;replace hV:=Lib.hid hV;go_enter Tryz.func6,Tryz.ntmps6
 go_upto_region 1 with (fail)
 refine wp_name ?_;intro W hW
 have HW:Below W0.heap.size W0 W:=by rw [hW];(repeat' (first | exact Below.refl _ _ | assumption | apply bel_drewN | apply bel_drew | apply bel_alloc | (refine bel_trans ?_ (by assumption))))
 have c0:W.cell? ⟨W0.heap.size,0,none⟩=some (.int .i64 a):=by rw [hW];go_simp
 have c1:W.cell? ⟨W0.heap.size,1,none⟩=some (.int .i64 b):=by rw [hW];go_simp
 have c2:W.cell? ⟨W0.heap.size,2,none⟩=some (.slice A0 n0 m0):=by rw [hW];go_simp
 clear hW;go_wp2_with fail;refine (works_true _).mono ?_;rintro e w1 ⟨rfl,hb1⟩;have HB1:=bel_trans HW hb1;replace c0:=bel_cell hb1 c0;replace c1:=bel_cell hb1 c1;replace c2:=bel_cell hb1 c2;have cS:=Lib.hid (serve_any w1 (hV.out.below HB1) a b A0 n0 m0 f0 (hI0.below HB1) hl0.out mx);clear HW hb1;go_wp2_with fail;refine cS.out.mono ?_
 rintro e w2 ⟨hb2,(⟨u1,u2,rfl⟩ | ⟨s,q,g,g2,v,m,rfl,hld,hq,hF,rfl⟩)⟩
 ·have HB2:=bel_trans HB1 hb2
  go_wp2_with fail;go_ret;exact ⟨rfl,HB2⟩
 have HB2:=Lib.hid (bel_trans HB1 hb2);have hw12:=HB1.size
 have hq0:W0.heap.size≤q:=by have:=hq.2.2.2.2;omega
 have HLd:=Lib.hid hld;have HR:=Lib.hid hq.1;have HQ:=Lib.hid (And.intro hq.2.1 (And.intro hq.2.2.1 (And.intro hq.2.2.2.1 hq0)));have hV2:=Lib.hid (hV.out.below HB2.out);obtain ⟨v2,hv2⟩:∃z,((cntB g.b g.n:Nat):Int)=z:=⟨_,rfl⟩;rw [hv2] at hF;have Hok:=Lib.hid HR.out.1;have HS:=Lib.hid hF.serv;have HF:=Lib.hid hF;have Hv2:=Lib.hid hv2;clear c0 c1 c2 cS hb2 HB1 hld hq hF hv2 hw12 hq0 hV
 by_cases h20:20<n1
 ·go_wp2_with fail
  go_ret;exact ⟨rfl,HB2.out⟩
 replace hA1:=Lib.hid (hA1.out.below HB2.out);have hmo:=HS.out.most;have Hok2:=Lib.hid HS.out.ok;obtain ⟨z,hz⟩:∃z,bs (printS g2)=z:=⟨_,rfl⟩
 have hz1:bs (printS g)=z:=by rw [←HLd.out.2.print];exact hz
 have Hz:=Lib.hid (And.intro hz hz1)
 have cV:∀w',Below w2.heap.size w2 w'→Calls Tryz.prog 23 #[.pointer (some ⟨s,0,none⟩)] w' fun e w''=>e=.returned (.string z)∧Below w'.heap.size w' w'':=fun w' hb=>by
  have:=navSave w' s g2 v2 m (HS.out.below hb)
  rwa [hz] at this
 have cL:∀w',LibS w'→Calls Tryz.prog 17 #[.string z,.int .i64 (m:Nat)] w' fun e w''=>∃s' g3,e=.returned (.tuple #[.pointer (some ⟨s',0,none⟩),.nilIface])∧LdG g3 g2∧ServFr w'.heap.size w'' s' g3 ((cntB g2.b g2.n:Nat):Int) m∧Below w'.heap.size w' w'':=fun w' hL=>by
  have:=navLoad_print w' hL g2 Hok2.out m hmo.1 hmo.2
  rwa [hz] at this
 have cP:∀w',Below w2.heap.size w2 w'→Calls Tryz.prog 18 #[.pointer (some ⟨q,0,none⟩)] w' fun e w''=>e=.returned (.string z)∧Below w'.heap.size w' w'':=fun w' hb=>by
  have:=rPrint w' q g v (HR.out.below hb HR.out.lt)
  rwa [hz1] at this
 replace cV:=Lib.hid cV;replace cL:=Lib.hid cL;replace cP:=Lib.hid cP;clear hz hz1 hmo;go_wp2_with fail;refine (cV.out w2 (Below.refl _ _)).mono ?_;rintro e w3 ⟨rfl,hb3⟩;go_wp2_with fail;refine (cL.out w3 (hV2.out.below hb3)).mono ?_;rintro e w4 ⟨s',g3,rfl,hld3,hS3,hb4⟩;obtain rfl:g3=g2:=ldG_idem Hok.out HLd.out hld3;rw [HLd.out.2.cnt,Hv2.out] at hS3;have HS3:=Lib.hid hS3.serv;have HB4:=Lib.hid (bel_trans hb3 hb4)
 clear hld3 hS3 hb3 hb4;go_wp2_with fail;refine (cP.out w4 HB4.out).mono ?_;rintro e w5 ⟨rfl,hb5⟩
 have cV3:Calls Tryz.prog 23 #[.pointer (some ⟨s',0,none⟩)] w5 fun e w''=>e=.returned (.string z)∧Below w5.heap.size w5 w'':=by
  have:=navSave w5 s' g3 v2 m (HS3.out.below hb5)
  rwa [Hz.out.1] at this
 have HB5:=Lib.hid (bel_trans HB4.out hb5);replace HS3:=Lib.hid (HS3.out.below hb5);replace cV3:=Lib.hid cV3;clear hb5 HB4;go_wp2_with fail;refine cV3.out.mono ?_;rintro e w6 ⟨rfl,hb6⟩;have HB6:=Lib.hid (bel_trans HB5.out hb6);replace HS3:=Lib.hid (HS3.out.below hb6);clear cV3 cV cL cP HB5 hb6;go_wp2_with fail
 go_loopw [13] (fun iv wr=>∃(k:Nat),k≤n1∧iv=.int .i64 (k:Nat)∧Below w6.heap.size w6 wr) (fun iv _=>n1-(intOf iv).toNat)
 case atStart=>exact ⟨0,Nat.zero_le _,rfl,Below.refl _ _⟩
 case round=>
  obtain ⟨k,hk,rfl,hB⟩:=hrel
  by_cases hlt:k<n1
  ·have HBk:=Lib.hid (bel_trans HB6.out hB)
   obtain ⟨ba,o,hAe,_,hc⟩:=hA1.out (by omega)
   obtain ⟨x1,x2⟩:=hc k hlt
   have hix:=fun wx=>idx_runA (A:=A1) (m:=m1) hAe hlt wx
   obtain ⟨⟨x,y⟩,hxy⟩:∃z,f1 k=z:=⟨_,rfl⟩;rw [hxy] at x1 x2;simp only at x1 x2;obtain ⟨ok,hok⟩:∃z,o+k*2=z:=⟨_,rfl⟩;rw [hok] at x1 x2 hix;have c0:=bel_cell HBk.out x1;have c1:=bel_cell HBk.out x2;have Hcc:=Lib.hid (And.intro c0 c1);have HSk:=Lib.hid (HS.out.below HBk.out);have HS3k:=Lib.hid (HS3.out.below hB);replace hB:=Lib.hid hB;clear hAe hc x1 x2 hxy hok
   go_upto_region 14 with (fail)
   go_cut [14] from 58 to 90 (fun sv wx=>sv=.bool true∧Below wr.heap.size wr wx)
   case first=>
    have cA:=Lib.hid (fun w' (hb:Below wr.heap.size wr w')=>navAskX w' s g3 v2 m (HSk.out.below hb) x y)
    have cB:=Lib.hid (fun w' (hb:Below wr.heap.size wr w')=>navAskX w' s' g3 v2 m (HS3k.out.below hb) x y)
    have hBQ:Below wr.heap.size wr wr.drew:=bel_drew (Below.refl wr.heap.size wr);have kS:wr.drew.cell? ⟨ba,ok,none⟩=some (.int .i64 x)∧wr.drew.cell? ⟨ba,ok+1,none⟩=some (.int .i64 y):=⟨bel_cell hBQ Hcc.out.1,bel_cell hBQ Hcc.out.2⟩
    go_region_held3 (fun w'=>w'.cell? ⟨ba,ok,none⟩=some (.int .i64 x)∧w'.cell? ⟨ba,ok+1,none⟩=some (.int .i64 y))
     (first
      | with_reducible exact kS)
     (first
      | (go_at_call 19
         with_reducible refine (cA.out _ hBQ).mono ?_
         rintro e wA ⟨Wy1,⟨cs1,cd1⟩,er1,Aw1,mw1,hU1,rfl,hI1,hf1,hb1⟩;have hBQ:=bel_trans hBQ hb1;have kS:wA.cell? ⟨ba,ok,none⟩=some (.int .i64 x)∧wA.cell? ⟨ba,ok+1,none⟩=some (.int .i64 y):=⟨bel_cell hBQ Hcc.out.1,bel_cell hBQ Hcc.out.2⟩)
      | (go_at_call 19
         with_reducible refine (cB.out _ hBQ).mono ?_
         rintro e wB ⟨Wy2,⟨cs2,cd2⟩,er2,Aw2,mw2,hU2,rfl,hI2,hf2,hb2⟩;have hBQ:=bel_trans hBQ hb2;have kS:wB.cell? ⟨ba,ok,none⟩=some (.int .i64 x)∧wB.cell? ⟨ba,ok+1,none⟩=some (.int .i64 y):=⟨bel_cell hBQ Hcc.out.1,bel_cell hBQ Hcc.out.2⟩)
      | (go_at_call 22
         have zz:=hU1.det hU2;obtain ⟨rfl,hce,rfl⟩:=zz
         injection hce with hc1 hc2
         subst hc1;subst hc2;have hX1:=hI1.below hb2;have hXl:=ask_len Hok2.out hU1.1
         with_reducible refine (sameAns wB Aw1 Aw2 _ mw1 mw2 _ _ _ _ hX1 hI2 hXl).mono ?_
         rintro e wC ⟨rfl,hb3⟩;have hBQ:=bel_trans hBQ hb3;have kS:wC.cell? ⟨ba,ok,none⟩=some (.int .i64 x)∧wC.cell? ⟨ba,ok+1,none⟩=some (.int .i64 y):=⟨bel_cell hBQ Hcc.out.1,bel_cell hBQ Hcc.out.2⟩))
    all_goals
     go_wp2;go_meet
     case rel=>exact ⟨rfl,hBQ⟩
   case rest=>
    obtain ⟨rfl,hbx⟩:=hcut;have HF:=Lib.hid (bel_trans hB.out hbx);clear hbx hix HSk HS3k c0 c1;go_wp2;go_roundw
    case rel=>first | exact ⟨k+1,by omega,by go_num,HF.out⟩ | ((repeat apply Exists.intro);exact ⟨⟨k+1,by omega,by go_num,HF.out⟩,rfl⟩)
    case measure=>simp [intOf];omega
  ·obtain rfl:k=n1:=by omega
   have cT:=Lib.hid (navStats wr s' g3 v2 m (HS3.out.below hB));have HBk:=Lib.hid (bel_trans HB6.out hB);clear hB;go_wp2_with fail;refine cT.out.mono ?_;rintro e w7 ⟨sn,sf,sd,se,sa,tp,rfl,hst,hb7⟩;have HB7:=Lib.hid (bel_trans HBk.out hb7);have cT2:=Lib.hid (navStats w7 s g3 v2 m (HS.out.below HB7.out));replace hst:=Lib.hid hst;clear hb7 cT HBk;go_wp2_with fail;refine cT2.out.mono ?_;rintro e w8 ⟨sn2,sf2,sd2,se2,sa2,tp2,rfl,hst2,hb8⟩
   obtain ⟨q1,q2,q3,q4,q5,q6⟩:=hst.out;obtain ⟨r1,r2,r3,r4,r5,r6⟩:=hst2;obtain rfl:=r1.trans q1.symm;obtain rfl:=r2.trans q2.symm;obtain rfl:=r3.trans q3.symm;obtain rfl:=r4.trans q4.symm;obtain rfl:=r5.trans q5.symm;obtain rfl:=r6.trans q6.symm;have HF:=Lib.hid (bel_trans HB2.out (bel_trans HB7.out hb8));clear q1 q2 q3 q4 q5 q6 r1 r2 r3 r4 r5 r6 hb8 cT2;go_wp2;go_ret;exact ⟨rfl,HF.out⟩
end Go.Proofs.YtokhnobcincfjaaGreatDoor
