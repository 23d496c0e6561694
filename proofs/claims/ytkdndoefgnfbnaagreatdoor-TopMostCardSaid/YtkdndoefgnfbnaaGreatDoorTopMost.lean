/- Lemmas of this claim: TopMost. -/
import Derived.Test.YtkdndoefgnfbnaaGreatDoorKNavB50
import Derived.Test.YtkdndoefgnfbnaaGreatDoorStats
import Derived.Test.YtkdndoefgnfbnaaGreatDoorKNavB4
set_option linter.unusedVariables false
set_option linter.unusedSimpArgs false
/- The law TopMost: for any plot, so many levels at most, and any asks, it returns true. -/
namespace Go.Proofs.YtkdndoefgnfbnaaGreatDoor
open Go.RowKit Go.Sort FR Go.Lib
set_option maxRecDepth 100000 in
set_option maxHeartbeats 6400000 in
theorem topMost (W0 : World) (hV : LibS W0) (a b : Int) (A0 : Option Addr) (n0 m0 : Nat) (f0 : Nat → Int) (h0 : SlI W0 A0 n0 f0) (mx : Int) (hmx : -9223372036854775808 ≤ mx ∧ mx ≤ 9223372036854775807)
    (A1:Option Addr) (n1 m1:Nat) (f1:Nat→Int×Int) (h1:SlA W0 A1 n1 f1) :
    Calls Tryz.prog 7 #[.agg #[.int .i64 a,.int .i64 b,.slice A0 n0 m0],.int .i64 mx,.slice A1 n1 m1] W0 fun e w'=>e=.returned (.bool true)∧Below W0.heap.size W0 w':=by
 obtain ⟨hA1,hl1⟩:=h1
 replace hA1:=Lib.hid hA1
 replace hl1:=Lib.hid hl1
 clear hmx
 obtain ⟨hI0,hl0,_⟩:=h0
 replace hl0:=Lib.hid hl0
 replace hV:=Lib.hid hV
 go_enter Tryz.func7,Tryz.ntmps7
 go_upto_region 1 with (fail)
 refine wp_name ?_
 intro W hW
 have HW:Below W0.heap.size W0 W:=by rw [hW];(repeat' (first | exact Below.refl _ _ | assumption | apply bel_drewN | apply bel_drew | apply bel_alloc | (refine bel_trans ?_ (by assumption))))
 have c0:W.cell? ⟨W0.heap.size,0,none⟩=some (.int .i64 a):=by rw [hW];go_simp
 have c1:W.cell? ⟨W0.heap.size,1,none⟩=some (.int .i64 b):=by rw [hW];go_simp
 have c2:W.cell? ⟨W0.heap.size,2,none⟩=some (.slice A0 n0 m0):=by rw [hW];go_simp
 clear hW
 go_wp2_with fail
 refine (works_true _).mono ?_
 rintro e w1 ⟨rfl,hb1⟩
 have HB1:=bel_trans HW hb1
 replace c0:=bel_cell hb1 c0
 replace c1:=bel_cell hb1 c1
 replace c2:=bel_cell hb1 c2
 have cS:=Lib.hid (serve_any w1 (hV.out.below HB1) a b A0 n0 m0 f0 (hI0.below HB1) hl0.out mx)
 clear HW hb1
 go_wp2_with fail
 refine cS.out.mono ?_
 rintro e w2 ⟨hb2,(⟨u1,u2,rfl⟩ | ⟨s,q,g,g2,v,m,rfl,hld,hq,hF,rfl⟩)⟩
 ·have HB2:=bel_trans HB1 hb2
  go_wp2_with fail
  go_ret
  exact ⟨rfl,HB2⟩
 have HB2:=Lib.hid (bel_trans HB1 hb2)
 have hw12:=HB1.size
 have hq0:W0.heap.size≤q:=by have:=hq.2.2.2.2;omega
 have HLd:=Lib.hid hld
 have HR:=Lib.hid hq.1
 have HQ:=Lib.hid (And.intro hq.2.1 (And.intro hq.2.2.1 (And.intro hq.2.2.2.1 hq0)))
 have hV2:=Lib.hid (hV.out.below HB2.out)
 obtain ⟨v2,hv2⟩:∃z,((cntB g.b g.n:Nat):Int)=z:=⟨_,rfl⟩
 rw [hv2] at hF
 have Hok:=Lib.hid HR.out.1
 have HS:=Lib.hid hF.serv
 have HF:=Lib.hid hF
 have Hv2:=Lib.hid hv2
 clear c0 c1 c2 cS hb2 HB1 hld hq hF hv2 hw12 hq0 hV
 by_cases h12:12<n1
 ·go_wp2_with fail
  go_ret
  exact ⟨rfl,HB2.out⟩
 replace hA1:=Lib.hid (hA1.out.below HB2.out)
 go_wp2_with fail
 go_loopw [10] (fun iv wr=>∃(k:Nat),1≤k∧k≤7∧iv=.int .i64 (k:Nat)∧Below w2.heap.size w2 wr) (fun iv _=>7-(intOf iv).toNat)
 case atStart=>exact ⟨1,by omega,by omega,rfl,Below.refl _ _⟩
 case round=>
  obtain ⟨k,k1,k7,rfl,hB⟩:=hrel
  by_cases hlt:k≤6
  ·have cP:=Lib.hid (rPrint wr q g v (HR.out.below hB HR.out.lt))
   replace hB:=Lib.hid hB
   go_wp2_with fail
   refine cP.out.mono ?_
   rintro e w3 ⟨rfl,hb3⟩
   have HB3:=Lib.hid (bel_trans hB.out hb3)
   have cL:=Lib.hid (navLoad_print w3 (hV2.out.below HB3.out) g Hok.out k k1 hlt)
   clear cP hb3
   go_wp2_with fail
   refine cL.out.mono ?_
   rintro e w4 ⟨s',g3,rfl,hld3,hS3,hb4⟩
   obtain ⟨v3,hv3⟩:∃z,((cntB g.b g.n:Nat):Int)=z:=⟨_,rfl⟩
   rw [hv3] at hS3
   have HS3:=Lib.hid hS3.serv
   have HL3:=Lib.hid hld3.2
   have HB4:=Lib.hid (bel_trans HB3.out hb4)
   have cT:=Lib.hid (navStats w4 s' g3 v3 k HS3.out)
   clear hld3 hS3 hb4 cL hv3
   go_wp2_with fail
   refine cT.out.mono ?_
   rintro e w5 ⟨sn,sf,sd,se,sa,tp,rfl,hst,hb5⟩
   have htp2:tp≤k:=by rw [hst.2.2.2.2.2];exact stat_top HS3.out.ok k1 hlt
   have hfd:=fun (w:World)=>field_stat5 w (.int .i64 (sn:Nat)) (.int .i64 (sf:Nat)) (.int .i64 (sd:Nat)) (.int .i64 (se:Nat)) (.int .i64 (sa:Nat)) (.int .i64 v3) (tp:Nat)
   have hdk:decide (k<tp)=false:=by simp;omega
   have HB5:=Lib.hid (bel_trans HB4.out hb5)
   replace HS3:=Lib.hid (HS3.out.below hb5)
   have HA5:=Lib.hid (hA1.out.below HB5.out)
   have HS5:=Lib.hid (HS.out.below HB5.out)
   clear hst hb5 cT
   go_wp2_with fail
   clear hfd hdk htp2
   obtain ⟨wo,rfl⟩:∃wo:World,wo=wr:=⟨_,rfl⟩
   go_loopw [13] (fun iv wr=>∃(j:Nat),j≤n1∧iv=.int .i64 (j:Nat)∧Below w5.heap.size w5 wr) (fun iv _=>n1-(intOf iv).toNat)
   case atStart=>exact ⟨0,Nat.zero_le _,rfl,Below.refl _ _⟩
   case round=>
    obtain ⟨j,hj,rfl,hBj⟩:=hrel
    by_cases hjl:j<n1
    ·have HBj:=Lib.hid hBj
     have HBk:=Lib.hid (bel_trans HB5.out hBj)
     obtain ⟨ba,o,hAe,_,hc⟩:=hA1.out (by omega)
     obtain ⟨x1,x2⟩:=hc j hjl
     have hix:=fun wx=>idx_runA (A:=A1) (m:=m1) hAe hjl wx
     obtain ⟨⟨x,y⟩,hxy⟩:∃z,f1 j=z:=⟨_,rfl⟩
     rw [hxy] at x1 x2
     simp only at x1 x2
     obtain ⟨ok,hok⟩:∃z,o+j*2=z:=⟨_,rfl⟩
     rw [hok] at x1 x2 hix
     have c0:=bel_cell HBk.out x1
     have c1:=bel_cell HBk.out x2
     have HSk:=Lib.hid (HS.out.below HBk.out)
     have HS3k:=Lib.hid (HS3.out.below HBj.out)
     clear hAe hc x1 x2 hxy hok hBj
     go_upto_region 16 with (fail)
     have lba:ba<wr.heap.size:=World.block_lt_of_cell? (a:=⟨ba,ok,none⟩) wr c0
     go_cut [14] from 53 to 94 (fun sv wx=>AskBox wr g2 x y sv wx)
     case first=>
      have cAk:=Lib.hid (fun w' (hb:Below wr.heap.size wr w')=>navAsk w' s g2 v2 m (HSk.out.below hb) x y)
      have hws:wr.heap.size≤wr.heap.size:=Nat.le_refl _
      have hBr:Below wr.heap.size wr wr:=Below.refl _ _
      have hBQ:Below wr.heap.size wr wr.drew:=bel_drew hBr
      have Hcc:=Lib.hid (And.intro c0 c1)
      have kS:wr.drew.cell? ⟨ba,ok,none⟩=some (.int .i64 x)∧wr.drew.cell? ⟨ba,ok+1,none⟩=some (.int .i64 y):=⟨bel_cell hBQ Hcc.out.1,bel_cell hBQ Hcc.out.2⟩
      have koW:=Lib.hid (fun (X:World) (k j:Nat) (u:Value)=>World.cell?_setCell_other (w:=X) (a:=⟨wr.heap.size,k,none⟩) (b:=⟨ba,j,none⟩) (v:=u) (by intro e;injection e with e1;omega))
      go_region_held3 (fun w'=>w'.cell? ⟨ba,ok,none⟩=some (.int .i64 x)∧w'.cell? ⟨ba,ok+1,none⟩=some (.int .i64 y))
       (first
        | with_reducible exact kS
        | (simp only [koW.out];exact kS)
        | with_reducible exact ⟨bel_cell (bel_alloc hBQ) Hcc.out.1,bel_cell (bel_alloc hBQ) Hcc.out.2⟩
        | exact ⟨bel_cell (bel_drew (bel_alloc hBr)) Hcc.out.1,bel_cell (bel_drew (bel_alloc hBr)) Hcc.out.2⟩)
       (first
        | (go_at_call 19
           with_reducible refine (cAk.out _ hBQ).mono ?_
           rintro e wA ⟨Wy,⟨cs,cd⟩,er,Aw,mw,hA,rfl,hI,hf,hbA⟩
           have hBQ:=bel_trans hBQ hbA
           have kS:wA.cell? ⟨ba,ok,none⟩=some (.int .i64 x)∧wA.cell? ⟨ba,ok+1,none⟩=some (.int .i64 y):=⟨bel_cell hBQ Hcc.out.1,bel_cell hBQ Hcc.out.2⟩)
        | (go_at_call 19
           with_reducible refine (cAk.out _ (bel_drew (bel_alloc hBr))).mono ?_
           rintro e wA ⟨Wy,⟨cs,cd⟩,er,Aw,mw,hA,rfl,hI,hf,hbA⟩
           have hZ:wA.heap[wr.heap.size]? = some (.cells #[.slice none 0 0,.int .i64 0,.int .i64 0,.int .i64 0] 41 (0,0)):=(hbA.block wr.heap.size (by simp)).trans (heap_alloc_new wr _)
           have zz:=cells_four hZ
           obtain ⟨z0,z1,z2,z3⟩:=zz
           have y0:=Lib.frozen_of_heap hZ 0
           have y1:=Lib.frozen_of_heap hZ 1
           have y2:=Lib.frozen_of_heap hZ 2
           have y3:=Lib.frozen_of_heap hZ 3
           have hBQ:=bel_trans (bel_drew (bel_alloc hBr)) hbA
           have kS:wA.cell? ⟨ba,ok,none⟩=some (.int .i64 x)∧wA.cell? ⟨ba,ok+1,none⟩=some (.int .i64 y):=⟨bel_cell hBQ Hcc.out.1,bel_cell hBQ Hcc.out.2⟩)
        | (go_at_call 19
           with_reducible refine (cAk.out _ (bel_alloc hBQ)).mono ?_
           rintro e wA ⟨Wy,⟨cs,cd⟩,er,Aw,mw,hA,rfl,hI,hf,hbA⟩
           have hZ:wA.heap[wr.heap.size]? = some (.cells #[.slice none 0 0,.int .i64 0,.int .i64 0,.int .i64 0] 41 (0,0)):=(hbA.block _ (by simp)).trans (heap_alloc_new _ _)
           have zz:=cells_four hZ
           obtain ⟨z0,z1,z2,z3⟩:=zz
           have y0:=Lib.frozen_of_heap hZ 0
           have y1:=Lib.frozen_of_heap hZ 1
           have y2:=Lib.frozen_of_heap hZ 2
           have y3:=Lib.frozen_of_heap hZ 3
           have hBQ:=bel_trans (bel_alloc hBQ) hbA
           have kS:wA.cell? ⟨ba,ok,none⟩=some (.int .i64 x)∧wA.cell? ⟨ba,ok+1,none⟩=some (.int .i64 y):=⟨bel_cell hBQ Hcc.out.1,bel_cell hBQ Hcc.out.2⟩))
      all_goals
       go_wp2
       go_meet
       case rel=>first
        | with_reducible exact AskBox.new hA hBQ
        | with_reducible exact AskBox.old hA hZ hBQ hws
     case rest=>
      obtain ⟨b1,W1,cs1,cd1,er1,A2,mw1,rfl,hA2,hX1,hb1⟩:=hcut
      have HX1:=Lib.hid hX1
      have HA2:=Lib.hid (HLd.out.2.ask hA2)
      replace c0:=bel_cell hb1 c0
      replace c1:=bel_cell hb1 c1
      have HBl:=Lib.hid (bel_trans HBj.out hb1)
      replace HS3k:=Lib.hid (HS3k.out.below hb1)
      clear hX1 hA2 hb1 HSk lba
      go_upto_region 17 with (fail)
      have lba:ba<wc.heap.size:=World.block_lt_of_cell? (a:=⟨ba,ok,none⟩) wc c0
      go_cut [15] from 53 to 94 (fun sv wx=>AskBox wc g3 x y sv wx)
      case first=>
       have cAk:=Lib.hid (fun w' (hb:Below wc.heap.size wc w')=>navAsk w' s' g3 v3 k (HS3k.out.below hb) x y)
       have hws:wc.heap.size≤wc.heap.size:=Nat.le_refl _
       have hBr:Below wc.heap.size wc wc:=Below.refl _ _
       have hBQ:Below wc.heap.size wc wc.drew:=bel_drew hBr
       have Hcc:=Lib.hid (And.intro c0 c1)
       have kS:wc.drew.cell? ⟨ba,ok,none⟩=some (.int .i64 x)∧wc.drew.cell? ⟨ba,ok+1,none⟩=some (.int .i64 y):=⟨bel_cell hBQ Hcc.out.1,bel_cell hBQ Hcc.out.2⟩
       have koW:=Lib.hid (fun (X:World) (k j:Nat) (u:Value)=>World.cell?_setCell_other (w:=X) (a:=⟨wc.heap.size,k,none⟩) (b:=⟨ba,j,none⟩) (v:=u) (by intro e;injection e with e1;omega))
       go_region_held3 (fun w'=>w'.cell? ⟨ba,ok,none⟩=some (.int .i64 x)∧w'.cell? ⟨ba,ok+1,none⟩=some (.int .i64 y))
        (first
         | with_reducible exact kS
         | (simp only [koW.out];exact kS)
         | with_reducible exact ⟨bel_cell (bel_alloc hBQ) Hcc.out.1,bel_cell (bel_alloc hBQ) Hcc.out.2⟩
         | exact ⟨bel_cell (bel_drew (bel_alloc hBr)) Hcc.out.1,bel_cell (bel_drew (bel_alloc hBr)) Hcc.out.2⟩)
        (first
         | (go_at_call 19
            with_reducible refine (cAk.out _ hBQ).mono ?_
            rintro e wA ⟨Wy,⟨cs,cd⟩,er,Aw,mw,hA,rfl,hI,hf,hbA⟩
            have hBQ:=bel_trans hBQ hbA
            have kS:wA.cell? ⟨ba,ok,none⟩=some (.int .i64 x)∧wA.cell? ⟨ba,ok+1,none⟩=some (.int .i64 y):=⟨bel_cell hBQ Hcc.out.1,bel_cell hBQ Hcc.out.2⟩)
         | (go_at_call 19
            with_reducible refine (cAk.out _ (bel_drew (bel_alloc hBr))).mono ?_
            rintro e wA ⟨Wy,⟨cs,cd⟩,er,Aw,mw,hA,rfl,hI,hf,hbA⟩
            have hZ:wA.heap[wc.heap.size]? = some (.cells #[.slice none 0 0,.int .i64 0,.int .i64 0,.int .i64 0] 41 (0,0)):=(hbA.block wc.heap.size (by simp)).trans (heap_alloc_new wc _)
            have zz:=cells_four hZ
            obtain ⟨z0,z1,z2,z3⟩:=zz
            have y0:=Lib.frozen_of_heap hZ 0
            have y1:=Lib.frozen_of_heap hZ 1
            have y2:=Lib.frozen_of_heap hZ 2
            have y3:=Lib.frozen_of_heap hZ 3
            have hBQ:=bel_trans (bel_drew (bel_alloc hBr)) hbA
            have kS:wA.cell? ⟨ba,ok,none⟩=some (.int .i64 x)∧wA.cell? ⟨ba,ok+1,none⟩=some (.int .i64 y):=⟨bel_cell hBQ Hcc.out.1,bel_cell hBQ Hcc.out.2⟩)
         | (go_at_call 19
            with_reducible refine (cAk.out _ (bel_alloc hBQ)).mono ?_
            rintro e wA ⟨Wy,⟨cs,cd⟩,er,Aw,mw,hA,rfl,hI,hf,hbA⟩
            have hZ:wA.heap[wc.heap.size]? = some (.cells #[.slice none 0 0,.int .i64 0,.int .i64 0,.int .i64 0] 41 (0,0)):=(hbA.block _ (by simp)).trans (heap_alloc_new _ _)
            have zz:=cells_four hZ
            obtain ⟨z0,z1,z2,z3⟩:=zz
            have y0:=Lib.frozen_of_heap hZ 0
            have y1:=Lib.frozen_of_heap hZ 1
            have y2:=Lib.frozen_of_heap hZ 2
            have y3:=Lib.frozen_of_heap hZ 3
            have hBQ:=bel_trans (bel_alloc hBQ) hbA
            have kS:wA.cell? ⟨ba,ok,none⟩=some (.int .i64 x)∧wA.cell? ⟨ba,ok+1,none⟩=some (.int .i64 y):=⟨bel_cell hBQ Hcc.out.1,bel_cell hBQ Hcc.out.2⟩))
       all_goals
        go_wp2
        go_meet
        case rel=>first
         | with_reducible exact AskBox.new hA hBQ
         | with_reducible exact AskBox.old hA hZ hBQ hws
      case rest=>
       obtain ⟨b2,W2,cs2,cd2,er2,A3,mw2,rfl,hA3,hX2,hb2⟩:=hcut
       obtain ⟨hcc,hee⟩:=ask_same HA2.out (HL3.out.ask hA3)
       cases hcc
       subst hee
       have hX1:=(hb2.block b1 (Array.getElem?_eq_some_iff.1 HX1.out).1).trans HX1.out
       obtain ⟨_,p1,p2,p3⟩:=cells_four hX1
       obtain ⟨_,q1,q2,q3⟩:=cells_four hX2
       have HF:=Lib.hid (bel_trans HBl.out hb2)
       clear hX1 hX2 hA3 hb2 HX1 HA2 HBl HS3k c0 c1 hix lba
       go_wp2
       go_roundw
       case rel=>first | exact ⟨j+1,by omega,by go_num,HF.out⟩ | ((repeat apply Exists.intro);exact ⟨⟨j+1,by omega,by go_num,HF.out⟩,rfl⟩)
       case measure=>simp [intOf];omega
    ·have HF:=Lib.hid (bel_trans HB5.out hBj)
     have hjn:¬((j:Nat):Int)<((n1:Nat):Int):=by omega
     clear hBj
     go_wp2_with fail
     go_roundw
     case rel=>first | exact ⟨k+1,by omega,by omega,by go_num,HF.out⟩ | ((repeat apply Exists.intro);exact ⟨⟨k+1,by omega,by omega,by go_num,HF.out⟩,rfl⟩)
     case measure=>simp [intOf];omega
  ·have HF:=Lib.hid (bel_trans HB2.out hB)
   clear hB
   go_wp2_with fail
   go_ret
   exact ⟨rfl,HF.out⟩
end Go.Proofs.YtkdndoefgnfbnaaGreatDoor
