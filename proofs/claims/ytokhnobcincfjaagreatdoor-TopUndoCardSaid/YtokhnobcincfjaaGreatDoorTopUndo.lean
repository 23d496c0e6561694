/- Lemmas of this claim: TopUndo. -/
import Derived.Test.YtokhnobcincfjaaGreatDoorKNUn47
import Derived.Test.YtokhnobcincfjaaGreatDoorKNUn42
import Derived.Test.YtokhnobcincfjaaGreatDoorKNUn4
import Derived.Test.YtokhnobcincfjaaGreatDoorKNUn48
import Derived.Test.YtokhnobcincfjaaGreatDoorKNUn41
import Derived.Deep.DeepCutAuto
set_option linter.unusedVariables false
set_option linter.unusedSimpArgs false
set_option maxHeartbeats 6400000
set_option maxRecDepth 100000
namespace Go.Proofs.YtokhnobcincfjaaGreatDoor
open Go.RowKit Go.Sort FR Go.Lib
theorem topUndo (W0 : World) (hV : LibS W0) (a b : Int) (A0 : Option Addr) (n0 m0 : Nat) (f0 : Nat → Int) (h0 : SlI W0 A0 n0 f0) (mx : Int) (hmx : -9223372036854775808 ≤ mx ∧ mx ≤ 9223372036854775807)
    (Ac:Option Addr) (nc mc:Nat) (fc:Nat→Int) (hc:SlI W0 Ac nc fc)
    (A1:Option Addr) (n1 m1:Nat) (f1:Nat→Int×Int) (h1:SlA W0 A1 n1 f1) :
    Calls Tryz.prog 7 #[.agg #[.int .i64 a,.int .i64 b,.slice A0 n0 m0],.int .i64 mx,.slice Ac nc mc,.slice A1 n1 m1] W0 fun e w'=>e=.returned (.bool true)∧Below W0.heap.size W0 w':=by
 obtain ⟨hA1,hl1⟩:=h1;replace hA1:=Lib.hid hA1;replace hl1:=Lib.hid hl1
 have Ha0:=Lib.hid (show 0<n1→∀ad,A1=some ad→ad.block<W0.heap.size from fun hp ad e=>by
  obtain ⟨b,o,e2,hl,_⟩:=hA1.out hp
  rw [e2] at e;injection e with e;subst e;exact hl)
 obtain ⟨hC,hlc,_⟩:=hc;replace hC:=Lib.hid hC;replace hlc:=Lib.hid hlc;clear hmx;obtain ⟨hI0,hl0,_⟩:=h0;replace hl0:=Lib.hid hl0;replace hV:=Lib.hid hV;go_enter Tryz.func7,Tryz.ntmps7
 go_upto_region 1 with (fail)
 refine wp_name ?_;intro W hW
 have HW:Below W0.heap.size W0 W:=by rw [hW];(repeat' (first | exact Below.refl _ _ | assumption | apply bel_drewN | apply bel_drew | apply bel_alloc | (refine bel_trans ?_ (by assumption))))
 have c0:W.cell? ⟨W0.heap.size,0,none⟩=some (.int .i64 a):=by rw [hW];go_simp
 have c1:W.cell? ⟨W0.heap.size,1,none⟩=some (.int .i64 b):=by rw [hW];go_simp
 have c2:W.cell? ⟨W0.heap.size,2,none⟩=some (.slice A0 n0 m0):=by rw [hW];go_simp
 clear hW;go_wp2_with fail;refine (works_true _).mono ?_;rintro e w1 ⟨rfl,hb1⟩;have HB1:=bel_trans HW hb1;replace c0:=bel_cell hb1 c0;replace c1:=bel_cell hb1 c1;replace c2:=bel_cell hb1 c2;have cS:=Lib.hid (serve_any w1 (hV.out.below HB1) a b A0 n0 m0 f0 (hI0.below HB1) hl0.out mx);clear HW hb1;go_wp2_with fail;refine cS.out.mono ?_
 rintro e w2 ⟨hb2,(⟨u1,u2,rfl⟩ | ⟨s,q,g,g2,v,m,rfl,hld,hq,hF,rfl⟩)⟩
 ·have HB2:=bel_trans HB1 hb2
  go_wp2_with fail;go_ret;exact ⟨rfl,HB2⟩
 have HB2:=Lib.hid (bel_trans HB1 hb2);have hw12:=HB1.size
 have hq0:W0.heap.size≤q:=by have:=hq.2.2.2.2;omega
 have HLd:=Lib.hid hld;have HR:=Lib.hid hq.1;have HQ:=Lib.hid (And.intro hq.2.1 (And.intro hq.2.2.1 (And.intro hq.2.2.2.1 hq0)));have hV2:=Lib.hid (hV.out.below HB2.out);obtain ⟨v2,hv2⟩:∃z,((cntB g.b g.n:Nat):Int)=z:=⟨_,rfl⟩;rw [hv2] at hF;have Hok:=Lib.hid HR.out.1;have HS:=Lib.hid hF.serv;have HF:=Lib.hid hF;have Hv2:=Lib.hid hv2;clear c0 c1 c2 cS hb2 HB1 hld hq hF hv2 hw12 hq0 hV
 by_cases h25:25<nc
 ·go_wp2_with fail
  go_ret;exact ⟨rfl,HB2.out⟩
 by_cases h12:12<n1
 ·go_wp2_with fail
  go_ret;exact ⟨rfl,HB2.out⟩
 have d25:decide (25<(nc:Int))=false:=by simp;omega
 have d12:decide (12<(n1:Int))=false:=by simp;omega
 replace hA1:=Lib.hid (hA1.out.below HB2.out);replace hC:=Lib.hid (hC.out.below HB2.out);have Hok2:=Lib.hid HS.out.ok;have cT:=Lib.hid (navStats w2 s g2 v2 m HS.out);go_wp2_with fail;refine cT.out.mono ?_;rintro e w3 ⟨sn,sf,sd,se,sa,tp,rfl,hst,hb3⟩;have Hst:=Lib.hid hst;clear hst cT
 go_upto_region 8 with (fail)
 refine wp_name ?_;intro W4 hW4;obtain ⟨b5,hb5⟩:∃z,w3.heap.size=z:=⟨_,rfl⟩
 have hb34:Below w3.heap.size w3 W4:=by rw [hW4];(repeat' (first | exact Below.refl _ _ | assumption | apply bel_drewN | apply bel_drew | apply bel_alloc | (refine bel_trans ?_ (by assumption))))
 have hZ:W4.heap[b5]? = some (.cells #[.int .i64 (sn:Nat),.int .i64 (sf:Nat),.int .i64 (sd:Nat),.int .i64 (se:Nat),.int .i64 (sa:Nat),.int .i64 (tp:Nat),.int .i64 v2] 50 (0,0)):=by rw [hW4,←hb5];exact heap_alloc_new _ _
 rw [hb5];have HK:=Lib.hid hZ;have h24:=bel_trans hb3 hb34
 have hb5w:w2.heap.size≤b5:=by rw [←hb5];exact hb3.size
 have HB4:=Lib.hid (bel_trans HB2.out h24);have HBT:=Lib.hid h24;replace hA1:=Lib.hid (hA1.out.below h24);replace hC:=Lib.hid (hC.out.below h24);have HR4:=Lib.hid (HR.out.below h24 HR.out.lt);have HS4:=Lib.hid (HS.out.below h24);obtain ⟨T,hT,hTq⟩:=HF.out;have HTl:=Lib.hid (And.intro hT.lt hTq);have HT4:=Lib.hid (hT.below h24);clear hW4 hb5 hb34 hb3 h24 hZ HR HS hT hTq HF;go_wp2_with fail
 go_loopw [13,14] (fun lv iv wr=>∃(k:Nat),k≤n1∧iv=.int .i64 (k:Nat)∧AnsS wr W4.heap.size g2 m f1 k lv∧Below W4.heap.size W4 wr) (fun _ iv _=>n1-(intOf iv).toNat)
 case atStart=>exact ⟨0,Nat.zero_le _,rfl,AnsS.nil _ _ _ _ _,Below.refl _ _⟩
 case round=>
  obtain ⟨k,hk,rfl,hL,hB⟩:=hrel
  by_cases hlt:k<n1
  ·obtain ⟨ba,o,hAe,hal,hcc⟩:=hA1.out (by omega)
   obtain ⟨x1,x2⟩:=hcc k hlt
   have hix:=fun wx=>idx_runA (A:=A1) (m:=m1) hAe hlt wx
   obtain ⟨⟨x,y⟩,hxy⟩:∃z,f1 k=z:=⟨_,rfl⟩;rw [hxy] at x1 x2;simp only at x1 x2;obtain ⟨ok,hok⟩:∃z,o+k*2=z:=⟨_,rfl⟩;rw [hok] at x1 x2 hix;have Hcc:=Lib.hid (And.intro (bel_cell hB x1) (bel_cell hB x2));have Hxy:=Lib.hid hxy;replace hL:=Lib.hid hL;have HB:=Lib.hid hB;have HSk:=Lib.hid (HS4.out.below hB)
   have hk12:k≤12:=by omega
   clear hAe hcc hxy hok hB x1 x2
   have cA:=Lib.hid (fun w' (hb:Below wr.heap.size wr w')=>navAskX w' s g2 v2 m (HSk.out.below hb) x y)
   have hBQ:Below wr.heap.size wr wr.drew:=bel_drew (Below.refl wr.heap.size wr);have kS:wr.drew.cell? ⟨ba,ok,none⟩=some (.int .i64 x)∧wr.drew.cell? ⟨ba,ok+1,none⟩=some (.int .i64 y):=⟨bel_cell hBQ Hcc.out.1,bel_cell hBQ Hcc.out.2⟩
   go_upto_region 12 with (fail)
   go_region_held3 (fun w'=>w'.cell? ⟨ba,ok,none⟩=some (.int .i64 x)∧w'.cell? ⟨ba,ok+1,none⟩=some (.int .i64 y))
    (first
     | with_reducible exact kS
     | with_reducible exact ⟨alloc_some kS.1,alloc_some kS.2⟩)
    (first
     | (go_at_call 19
        with_reducible refine (cA.out _ hBQ).mono ?_
        rintro e wA ⟨Wy,⟨cs,cd⟩,er,Aw,mw,hU,rfl,hI,hf,hb3⟩;have hBA:=bel_trans hBQ hb3;have kS:wA.cell? ⟨ba,ok,none⟩=some (.int .i64 x)∧wA.cell? ⟨ba,ok+1,none⟩=some (.int .i64 y):=⟨bel_cell hBA Hcc.out.1,bel_cell hBA Hcc.out.2⟩;have zz:=hL.out;obtain ⟨L,h1,h2,h3⟩:=zz)
     | (refine step_append_An rfl _ _ rfl W4.heap.size _ L ⟨Aw, Wy.length, mw, cs, cd, (er : Nat)⟩ (by simp [Act.eval, Act.put]) (h2.below (bel_alloc hBA)) ⟨wA.heap.size, 0, none⟩ (by simp [Act.eval, Act.put]) (new_ans (alloc_at wA _ rfl)) (by omega) (by have q1 := HB.out.size; have q2 := hBA.size; simp; omega) ?_
        intro v' w9 hown9 hgrow hat
        have kS:w9.cell? ⟨ba,ok,none⟩=some (.int .i64 x)∧w9.cell? ⟨ba,ok+1,none⟩=some (.int .i64 y):=
         ⟨hgrow.cell (alloc_some kS.1) (fun e=>by have q1:=(World.ownsRow.lt h2 _ e.symm).1;simp only at q1;omega),hgrow.cell (alloc_some kS.2) (fun e=>by have q1:=(World.ownsRow.lt h2 _ e.symm).1;simp only at q1;omega)⟩))
   all_goals
    have hF:AnsS w9 W4.heap.size g2 m f1 (k+1) v'∧Below W4.heap.size W4 w9:=by
     have hd:=bel_alloc hBA (o:=.cells #[.slice Aw Wy.length mw,.int .i64 cs,.int .i64 cd,.int .i64 (er:Nat)] 47 (0,0));have hda:=bel_alloc (Below.refl wA.heap.size wA) (o:=.cells #[.slice Aw Wy.length mw,.int .i64 cs,.int .i64 cd,.int .i64 (er:Nat)] 47 (0,0));have hs1:=HB.out.size;have hs2:=hBQ.size;have hs3:=hBA.size
     have hE:AnsIs wA W4.heap.size g2 m (f1 k).1 (f1 k).2 ⟨Aw,Wy.length,mw,cs,cd,(er:Nat)⟩:=by
      rw [Hxy.out]
      exact ⟨Wy,_,er,hU,rfl,rfl,rfl,rfl,hI,fun ad e=>by have:=hf.1 ad e;omega,fun _=>hf.2⟩
     refine ⟨AnsS.push h1 (h2.below hd) (fun i a hi=>⟨(h3 i a hi).1.below hd,(h3 i a hi).2⟩) (hE.below hda) (fun _ ad e e2=>?_) hown9 hgrow hat,below_grownAn (bel_trans HB.out hd) (by simp;omega) (h2.below hd) hgrow⟩
     have q1:=(World.ownsRow.lt h2 _ e2).2;have q2:=hf.1 ad e;omega
    replace hF:=Lib.hid hF;clear hown9 hgrow hat kS hU hI hf hb3 hBA h1 h2 h3 hBQ cA;go_wp2;go_roundw
    case rel=>first | exact ⟨k+1,by omega,by go_num,hF.out.1,hF.out.2⟩ | ((repeat apply Exists.intro);exact ⟨⟨k+1,by omega,by go_num,hF.out.1,hF.out.2⟩,rfl⟩)
    case measure=>simp [intOf];omega
  ·obtain rfl:n1=k:=by omega
   have HB6:=Lib.hid hB;have HL6:=Lib.hid hL;have HR6:=Lib.hid (HR4.out.below hB HR4.out.lt);have hC6:=Lib.hid (hC.out.below hB);clear hB hL hlt hk;go_wp2_with fail;obtain ⟨W6,rfl⟩:∃W:World,W=wr:=⟨_,rfl⟩
   go_loopw [15,16,17] (fun dv bv iv wr=>∃(k:Nat),k≤nc∧iv=.int .i64 (k:Nat)∧OwnEd wr W6.heap.size dv (undoD g fc k)∧OwnEd wr W6.heap.size bv (undoB g fc k)∧(∀b,dv.ownBlock=some b→bv.ownBlock≠some b)∧Below W6.heap.size W6 wr) (fun _ _ iv _=>nc-(intOf iv).toNat)
   case atStart=>exact ⟨0,Nat.zero_le _,rfl,OwnEd.nil _ _,OwnEd.nil _ _,fun _ e=>(by cases e),Below.refl _ _⟩
   case round=>
    obtain ⟨k,hk,rfl,hD,hBk,hne,hB⟩:=hrel
    by_cases hlt:k<nc
    ·obtain ⟨ad,hAd,hadl,hcc⟩:=hC6.out (by omega)
     have hcz0:=hcc k hlt;have hcz:=bel_cell hB hcz0
     have hix:=fun wx=>idx_run (A:=Ac) (m:=mc) hAd hlt wx
     have hds:undoD g fc (k+1)=undoD g fc k ++ (if 0≤fc k∧fc k<(g.n:Nat) then [(fc k,true)] else []):=rfl
     have hbs:undoB g fc (k+1)=undoB g fc k ++ (if 0≤fc k∧fc k<(g.n:Nat) then [(fc k,g.b (fc k).toNat)] else []):=rfl
     obtain ⟨hl1,hl2⟩:=undo_len g fc k;obtain ⟨z,hz⟩:∃z,fc k=z:=⟨_,rfl⟩;rw [hz] at hcz hcz0 hds hbs;have Hds:=Lib.hid (And.intro hds hbs);have HRr:=Lib.hid (HR6.out.below hB HR6.out.lt);have HO:=Lib.hid (And.intro hD (And.intro hBk hne));have HB:=Lib.hid hB;obtain ⟨pz,hpz⟩:∃z,ad.add k=z:=⟨_,rfl⟩
     have hpl:pz.block<W6.heap.size:=by rw [←hpz,add_block];exact hadl
     rw [hpz] at hcz hcz0 hix;have Hcz:=Lib.hid hcz0;clear hcz0;clear hB hD hBk hne hcc hAd hds hbs hz hpz
     by_cases hin:0≤z∧z<(g.n:Nat)
     case neg=>
      have cI:=Lib.hid (rIs_out wr q g v z HRr.out (by omega))
      have hF:undoD g fc (k+1)=undoD g fc k∧undoB g fc (k+1)=undoB g fc k:=by rw [Hds.out.1,Hds.out.2,if_neg hin,if_neg hin,List.append_nil,List.append_nil];exact ⟨rfl,rfl⟩
      have HFe:=Lib.hid hF;clear hF hin;go_wp2_with fail;refine cI.out.mono ?_;rintro e w5 ⟨rfl,hb5⟩;have HF:=Lib.hid (And.intro (HO.out.1.below hb5) (And.intro (HO.out.2.1.below hb5) (And.intro HO.out.2.2 (bel_trans HB.out hb5))));clear hb5 cI hcz hix;go_wp2;go_roundw
      case rel=>first | exact ⟨k+1,by omega,by go_num,by rw [HFe.out.1,HFe.out.2];exact HF.out⟩ | ((repeat apply Exists.intro);exact ⟨⟨k+1,by omega,by go_num,by rw [HFe.out.1,HFe.out.2];exact HF.out⟩,rfl⟩)
      case measure=>simp [intOf];omega
     obtain ⟨c,rfl⟩:=Int.eq_ofNat_of_zero_le hin.1
     have cI:=Lib.hid (rIs_in wr q g v c HRr.out (by omega))
     have hdl:undoD g fc (k+1)=undoD g fc k ++ [(((c:Nat):Int),true)]:=by rw [Hds.out.1,if_pos hin]
     have hbl:undoB g fc (k+1)=undoB g fc k ++ [(((c:Nat):Int),g.b c)]:=by rw [Hds.out.2,if_pos hin];rfl
     have Hin:=Lib.hid hin;have Hll:=Lib.hid (And.intro hdl hbl);clear hin hdl hbl;go_wp2_with fail;refine cI.out.mono ?_;rintro e w5 ⟨rfl,hb5⟩;replace hcz:=bel_cell hb5 hcz;have HO5:=Lib.hid (And.intro (HO.out.1.below hb5) (And.intro (HO.out.2.1.below hb5) HO.out.2.2));have HB5:=Lib.hid (bel_trans HB.out hb5);have hz5:=HB5.out.size;clear hb5 cI HO
     go_wp2_with (at_builtin;refine wpList_append_EdA _ rfl _ _ rfl W6.heap.size u15 (undoD g fc k) (((c:Nat):Int),true) rfl (HO5.out.1.below (Below.alloc (Below.refl _ _) (Nat.le_refl _) _)) ⟨w5.heap.size,0,none⟩ rfl (by go_simp) (by go_simp) (by omega) (by simp;omega) ?_;intro v' w6 hown6 hgrow hat)
     have hal:=Below.alloc (Below.refl w5.heap.size w5) (Nat.le_refl _) (.cells #[.int .i64 (c:Nat),.bool true] 64 (0,0))
     have hB6:Below W6.heap.size W6 w6:=below_grownEd (HB5.out.alloc (by omega) (.cells #[.int .i64 (c:Nat),.bool true] 64 (0,0))) (by simp;omega) (HO5.out.1.below hal) hgrow
     have hO2:OwnEd w6 W6.heap.size u16 (undoB g fc k):=World.ownsRow.kept (HO5.out.2.1.below hal) hgrow (by
      cases hu:u16.ownBlock with
      | none=>exact .inl rfl
      | some z=>exact .inr (fun e=>HO5.out.2.2 z e.symm hu))
     have hne6:∀b,v'.ownBlock=some b→u16.ownBlock≠some b:=fun b e e2=>by
      have q1:=(World.ownsRow.lt HO5.out.2.1 b e2).2
      rcases hat with q | q
      ·exact HO5.out.2.2 b (by rw [←q];exact e) e2
      ·rw [q] at e;injection e with e;simp at e;omega
     have HD6:=Lib.hid (And.intro hown6 (And.intro hO2 (And.intro hne6 hB6)));have HR6':=HR6.out.below hB6 HR6.out.lt
     have cI0:(0:Int)≤(c:Int):=by omega
     have cI1:(c:Int)<256:=by
      have q1:=Hin.out.2;have q2:=G.n_le Hok.out;omega
     have cI2:c<256:=by omega
     have hbit:=HR6'.bit c (by omega)
     obtain ⟨s0,_⟩:=HR6'.size;obtain ⟨bv,hbv⟩:∃z,g.b c=z:=⟨_,rfl⟩;rw [hbv] at hbit;have hcz6:w6.cell? pz=some (.int .i64 (c:Nat)):=bel_cell hB6 Hcz.out;have hd6:=bel_drew (Below.refl w6.heap.size w6);have hq2:q<W6.heap.size:=HR6.out.lt;have kS:w6.drew.cell? pz=some (.int .i64 (c:Nat))∧w6.drew.cell? ⟨q,2+c,none⟩=some (.bool bv):=⟨bel_cell hd6 hcz6,bel_cell hd6 hbit⟩;have Hbv:=Lib.hid hbv;have Hcb:=Lib.hid (And.intro hcz6 hbit)
     clear hcz hcz6 hbit s0 hown6 hgrow hat hal hO2 hne6 hbv HR6'
     go_upto_region 19 with (fail)
     go_region_held3 (fun w'=>w'.cell? pz=some (.int .i64 (c:Nat))∧w'.cell? ⟨q,2+c,none⟩=some (.bool bv))
      (first
       | with_reducible exact kS
       | exact ⟨bel_cell (bel_drew (bel_alloc (Below.refl w6.heap.size w6))) Hcb.out.1,bel_cell (bel_drew (bel_alloc (Below.refl w6.heap.size w6))) Hcb.out.2⟩)
      (first
       | (refine step_append_Ed rfl _ _ rfl W6.heap.size u16 (undoB g fc k) (((c : Nat) : Int), bv) (by simp [Act.eval, Act.put]) (HD6.out.2.1.below (bel_drew (bel_alloc (Below.refl w6.heap.size w6)))) ⟨w6.heap.size, 0, none⟩ (by simp [Act.eval, Act.put]) (new_edt (alloc_at w6 _ rfl)) (by omega) (by have q1 := HD6.out.2.2.2.size; simp; omega) ?_
          intro v2' w9 hown9 hgrow hat
          have kS:w9.cell? pz=some (.int .i64 (c:Nat))∧w9.cell? ⟨q,2+c,none⟩=some (.bool bv):=
           ⟨hgrow.cell (bel_cell (bel_drew (bel_alloc (Below.refl w6.heap.size w6))) Hcb.out.1) (fun e=>by have q1:=(World.ownsRow.lt HD6.out.2.1 _ e.symm).1;omega),hgrow.cell (bel_cell (bel_drew (bel_alloc (Below.refl w6.heap.size w6))) Hcb.out.2) (fun e=>by have q1:=(World.ownsRow.lt HD6.out.2.1 _ e.symm).1;simp only at q1;omega)⟩))
     all_goals
      have hF:OwnEd w9 W6.heap.size v' (undoD g fc (k+1))∧OwnEd w9 W6.heap.size v2' (undoB g fc (k+1))∧(∀b,v'.ownBlock=some b→v2'.ownBlock≠some b)∧Below W6.heap.size W6 w9:=by
       have hda:=bel_drew (bel_alloc (Below.refl w6.heap.size w6) (o:=.cells #[.int .i64 (c:Nat),.bool bv] 64 (0,0)));have q0:=HD6.out.2.2.2.size;have q1:=hd6.size;rw [Hll.out.1,Hll.out.2,Hbv.out]
       refine ⟨World.ownsRow.kept (HD6.out.1.below hda) hgrow (by
        cases hu:v'.ownBlock with
        | none=>exact .inl rfl
        | some z=>exact .inr (fun e=>HD6.out.2.2.1 z hu e.symm)),hown9,fun b e e2=>?_,below_grownEd (bel_trans HD6.out.2.2.2 hda) (by simp;omega) (HD6.out.2.1.below hda) hgrow⟩
       have q2:=(World.ownsRow.lt HD6.out.1 b e).2
       rcases hat with r | r
       ·exact HD6.out.2.2.1 b e (by rw [←r];exact e2)
       ·rw [r] at e2;injection e2 with e2;simp at e2;omega
      replace hF:=Lib.hid hF;clear hown9 hgrow hat kS HD6 hd6 hix;go_wp2;go_roundw
      case rel=>first | exact ⟨k+1,by omega,by go_num,hF.out⟩ | ((repeat apply Exists.intro);exact ⟨⟨k+1,by omega,by go_num,hF.out⟩,rfl⟩)
      case measure=>simp [intOf];omega
    ·obtain rfl:nc=k:=by omega
     obtain ⟨Ad,md,rfl,hEd,hAd⟩:=hD.edits;obtain ⟨Ab,mb,rfl,hEb,hAb⟩:=hBk.edits;have hl1:=(undo_len g fc nc).1;have hl2:=(undo_len g fc nc).2
     have hfd:∀j,j<(undoD g fc nc).length→0≤((fun k=>(undoD g fc nc).getD k (0,false)) j).1∧((fun k=>(undoD g fc nc).getD k (0,false)) j).1<(g2.n:Nat):=fun j hj=>by
      obtain ⟨_,q1,q2,_⟩:=undo_mem.1 (getD_mem hj);rw [HLd.out.2.n];exact ⟨q1,q2⟩
     have hfb:∀j,j<(undoB g fc nc).length→0≤((fun k=>(undoB g fc nc).getD k (0,false)) j).1∧((fun k=>(undoB g fc nc).getD k (0,false)) j).1<(g2.n:Nat):=fun j hj=>by
      obtain ⟨_,q1,q2⟩:=undo_mem.2 (getD_mem hj);rw [HLd.out.2.n];exact ⟨q1,q2⟩
     have hback:=undo_back g g2 fc nc HLd.out.2.n HLd.out.2.2.2
     obtain ⟨fd,hfde⟩:∃z,(fun k=>(undoD g fc nc).getD k (0,false))=z:=⟨_,rfl⟩
     obtain ⟨fb,hfbe⟩:∃z,(fun k=>(undoB g fc nc).getD k (0,false))=z:=⟨_,rfl⟩
     obtain ⟨nd,hnd⟩:∃z,(undoD g fc nc).length=z:=⟨_,rfl⟩;obtain ⟨nb,hnb⟩:∃z,(undoB g fc nc).length=z:=⟨_,rfl⟩;rw [hfde,hnd] at hfd hEd;rw [hfbe,hnb] at hfb hEb;rw [hfde,hfbe,hnd,hnb] at hback
     rw [hnd] at hl1 ⊢
     rw [hnb] at hl2 ⊢
     have hvv:0≤v2∧v2≤300:=by
      rw [←Hv2.out]
      have:cntB g.b g.n≤g.n:=by unfold cntB;exact Nat.le_trans (List.length_filter_le _ _) (by simp)
      have:=G.n_le Hok.out;omega
     have h4:=HBT.out.size;have h6:=HB6.out.size;have HTr:=HT4.out.below (bel_trans HB6.out hB);have hK0:Kept T wr wr:=Kept.refl _ _
     have cE:=Lib.hid (navEdit_ok wr s g2 v2 m T HTr Ad nd md fd hEd (by omega) (fun ad e hm=>by have:=(hAd ad e).1;have:=HTl.out.1 _ hm;omega) (by omega) hfd)
     have HE:=Lib.hid (And.intro hEb (And.intro hAb (And.intro hfb (And.intro hvv hback))));have HBr:=Lib.hid hB;clear hD hBk hne hEd hAd hEb hAb hfd hfb hback hfde hfbe hnd hnb hB HTr hK0 hvv;go_wp2_with fail;refine cE.out.mono ?_;rintro e w7 ⟨rfl,T2,hT2,hTT,hK7⟩;have e60:=editN_le fd g2 nd
     have cE2:=Lib.hid (navEdit_ok w7 s _ _ m T2 hT2 Ab nb mb fb (HE.out.1.kept hK7 (fun ad e hm=>by have:=(HE.out.2.1 ad e).1;have:=HTl.out.1 _ hm;omega)) (by omega) (fun ad e hm=>by
      have q1:=HE.out.2.1 ad e
      rcases hTT _ hm with r | r
      ·have:=HTl.out.1 _ r;omega
      ·omega) (by have:=HE.out.2.2.2.1;omega) (fun j hj=>by rw [editG_n];exact HE.out.2.2.1 j hj))
     have HK7:=Lib.hid (And.intro hK7 hTT);obtain ⟨d1,hd1⟩:∃z,editN fd g2 nd=z:=⟨_,rfl⟩;rw [hd1];clear hT2 hTT hK7 cE e60 hd1;go_wp2_with fail;refine cE2.out.mono ?_;rintro e w8 ⟨rfl,T3,hT3,hTT3,hK8⟩;rw [HE.out.2.2.2.2] at hT3;obtain ⟨d2,hd2⟩:∃z,editN fb (editG fd g2 nd) nb=z:=⟨_,rfl⟩;have hK:=HK7.out.1.two hK8 HK7.out.2;obtain ⟨v0,hv0⟩:∃z,v2=z:=⟨_,rfl⟩;rw [hv0] at HK
     generalize v2+((editN fd g2 nd:Nat):Int)+((editN fb (editG fd g2 nd) nb:Nat):Int)=v2 at hT3
     rw [hd2]
     have HS:=Lib.hid (show ServAt w8 s g2 v2 m from ⟨T3,hT3⟩)
     have HL8:=(HL6.out.below HBr.out).kept hK (fun k hk=>by have:=HTl.out.1 k hk;omega)
     obtain ⟨L,hL,hO,hIs⟩:=HL8
     have hA8:=(hA1.out.below (bel_trans HB6.out HBr.out)).kept hK (fun hp ad e hm=>by
      have q1:=Ha0.out hp ad e;have q2:=HTl.out.2 _ hm;have q3:=HQ.out.2.2.2;omega)
     replace hA1:=Lib.hid hA8;have hb5l:b5<W4.heap.size:=(Array.getElem?_eq_some_iff.1 HK.out).1
     have hbox:=((HBr.out.block b5 (by omega)).trans ((HB6.out.block b5 hb5l).trans HK.out))
     have hbox8:=Lib.hid ((hK.block b5 (by have:=HBr.out.size;omega) (fun hm=>by have:=HTl.out.1 _ hm;omega)).trans hbox)
     have HB8:=Lib.hid (Kept.below (bel_trans HB4.out (bel_trans HB6.out HBr.out)) hK (by have:=HB4.out.size;have:=HBr.out.size;omega) (fun k hk=>by have:=HTl.out.2 k hk;have:=HQ.out.2.2.2;omega))
     obtain ⟨AL,mL,rfl,hAns,hAd⟩:=hO.ans;rw [hL];have hIsL:=Lib.hid hIs;have HL:=Lib.hid (And.intro hL hAd);have HAns:=Lib.hid hAns;have HW4:=Lib.hid (And.intro h4 (And.intro h6 hb5l));clear hL hO hIs hAns hAd hA8 hbox hT3 hTT3 hK8 hK hd2 hv0 cE2 HE HBr HK7 HK h4 h6 hb5l HL6 HR6 hC6 HT4 HR4 hC HS4;go_wp2_with fail
     go_loopw [22] (fun iv wr=>∃(k:Nat),k≤n1∧iv=.int .i64 (k:Nat)∧Below w8.heap.size w8 wr) (fun iv _=>n1-(intOf iv).toNat)
     case atStart=>exact ⟨0,Nat.zero_le _,rfl,Below.refl _ _⟩
     case round=>
      obtain ⟨j,hj,rfl,hB⟩:=hrel
      by_cases hlt:j<n1
      ·have HBk:=Lib.hid hB
       obtain ⟨wv,rfl⟩:∃wv:World,wv=wr:=⟨_,rfl⟩
       obtain ⟨ba,o,hAe,_,hc⟩:=hA1.out (by omega)
       obtain ⟨x1,x2⟩:=hc j (by omega)
       have hix:=fun wx=>idx_runA (A:=A1) (m:=m1) hAe (show j<n1 by omega) wx
       obtain ⟨⟨x,y⟩,hxy⟩:∃z,f1 j=z:=⟨_,rfl⟩;rw [hxy] at x1 x2;simp only at x1 x2;obtain ⟨ok,hok⟩:∃z,o+j*2=z:=⟨_,rfl⟩;rw [hok] at x1 x2 hix
       obtain ⟨an,han⟩:∃an,L[j]? = some an:=⟨_,List.getElem?_eq_getElem (by have:=HL.out.1;omega)⟩
       obtain ⟨gA,eA,a0,a1,a2,a3⟩:=HAns.out j an han;obtain ⟨W2,⟨cs2,cd2⟩,er2,hU2,e1,e2,e3,e4,hI2,_⟩:=(hIsL.out j an han).1;rw [hxy] at hU2;obtain ⟨A2,n2,m2,s2,d2,z2⟩:=an;simp only at a0 a1 a2 a3 e1 e2 e3 e4 hI2 hU2;subst e1;subst e2;subst e3;subst e4
       have hiy:=fun wx=>idx_runAn (m:=mL) eA (show j<n1 by omega) wx
       obtain ⟨jo,hjo⟩:∃z,j*4=z:=⟨_,rfl⟩;rw [hjo] at a0 a1 a2 a3 hiy;have Hcc:=Lib.hid (And.intro (bel_cell HBk.out x1) (And.intro (bel_cell HBk.out x2) (And.intro (bel_cell hB a0) (And.intro (bel_cell hB a1) (And.intro (bel_cell hB a2) (bel_cell hB a3))))));have HU2:=Lib.hid hU2;have HI2:=Lib.hid (hI2.below hB);have HSk:=Lib.hid (HS.out.below HBk.out);replace hB:=Lib.hid hB;clear hAe hc x1 x2 hxy hok han eA a0 a1 a2 a3 hU2 hI2 hjo
       go_upto_region 27 with (fail)
       go_cut [23] from 126 to 150 (fun sv wx=>sv=.bool true∧Below wv.heap.size wv wx)
       case first=>
        have cA:=Lib.hid (fun w' (hb:Below wv.heap.size wv w')=>navAskX w' s g2 v2 m (HSk.out.below hb) x y)
        have hBQ:Below wv.heap.size wv wv.drew:=bel_drew (Below.refl wv.heap.size wv)
        have kS:wv.drew.cell? ⟨ba,ok,none⟩=some (.int .i64 x)∧wv.drew.cell? ⟨ba,ok+1,none⟩=some (.int .i64 y)∧wv.drew.cell? ⟨gA,jo,none⟩=some (.slice A2 W2.length m2)∧wv.drew.cell? ⟨gA,jo+1,none⟩=some (.int .i64 s2)∧wv.drew.cell? ⟨gA,jo+2,none⟩=some (.int .i64 d2)∧wv.drew.cell? ⟨gA,jo+3,none⟩=some (.int .i64 (er2:Nat)):=
         ⟨bel_cell hBQ Hcc.out.1,bel_cell hBQ Hcc.out.2.1,bel_cell hBQ Hcc.out.2.2.1,bel_cell hBQ Hcc.out.2.2.2.1,bel_cell hBQ Hcc.out.2.2.2.2.1,bel_cell hBQ Hcc.out.2.2.2.2.2⟩
        go_region_held3 (fun w'=>w'.cell? ⟨ba,ok,none⟩=some (.int .i64 x)∧w'.cell? ⟨ba,ok+1,none⟩=some (.int .i64 y)∧w'.cell? ⟨gA,jo,none⟩=some (.slice A2 W2.length m2)∧w'.cell? ⟨gA,jo+1,none⟩=some (.int .i64 s2)∧w'.cell? ⟨gA,jo+2,none⟩=some (.int .i64 d2)∧w'.cell? ⟨gA,jo+3,none⟩=some (.int .i64 (er2:Nat)))
         (first
          | with_reducible exact kS
          | with_reducible exact ⟨bel_cell hBQ Hcc.out.1,bel_cell hBQ Hcc.out.2.1,bel_cell hBQ Hcc.out.2.2.1,bel_cell hBQ Hcc.out.2.2.2.1,bel_cell hBQ Hcc.out.2.2.2.2.1,bel_cell hBQ Hcc.out.2.2.2.2.2⟩)
         (first
          | (go_at_call 19
             with_reducible refine (cA.out _ hBQ).mono ?_
             rintro e wA ⟨Wy1,⟨cs1,cd1⟩,er1,Aw1,mw1,hU1,rfl,hI1,hf1,hb1⟩;have hBQ:=bel_trans hBQ hb1;have zz:=hU1.det HU2.out;have hXl:=ask_len Hok2.out hU1.1;obtain ⟨rfl,hce,rfl⟩:=zz
             injection hce with hc1 hc2
             subst hc1;subst hc2)
          | (go_at_call 22
             have hX2:=HI2.out.below hBQ
             with_reducible refine (sameAns wA Aw1 A2 _ mw1 m2 _ _ _ _ hI1 hX2 hXl).mono ?_
             rintro e wC ⟨rfl,hb3⟩;have hBQ:=bel_trans hBQ hb3))
        all_goals
         go_wp2;go_meet
         case rel=>exact ⟨rfl,hBQ⟩
       case rest=>
        obtain ⟨rfl,hbx⟩:=hcut;have HF:=Lib.hid (bel_trans hB.out hbx);clear hbx hix hiy HSk;go_wp2;go_roundw
        case rel=>first | exact ⟨j+1,by omega,by go_num,HF.out⟩ | ((repeat apply Exists.intro);exact ⟨⟨j+1,by omega,by go_num,HF.out⟩,rfl⟩)
        case measure=>simp [intOf];omega
      ·obtain rfl:n1=j:=by omega
       have cT:=Lib.hid (navStats wr s g2 v2 m (HS.out.below hB));replace hB:=Lib.hid hB;go_wp2_with fail;refine cT.out.mono ?_;rintro e w9 ⟨sn2,sf2,sd2,se2,sa2,tp2,rfl,⟨r1,r2,r3,r4,r5,r6⟩,hb9⟩;obtain ⟨q1,q2,q3,q4,q5,q6⟩:=Hst.out;obtain rfl:=r1.trans q1.symm;obtain rfl:=r2.trans q2.symm;obtain rfl:=r3.trans q3.symm;obtain rfl:=r4.trans q4.symm;obtain rfl:=r5.trans q5.symm;obtain rfl:=r6.trans q6.symm
       clear q1 q2 q3 q4 q5 q6 r1 r2 r3 r4 r5 r6 cT Hst
       go_upto_region 31 with (fail)
       refine wp_name ?_;intro W9 hW9;obtain ⟨b9,hb9e⟩:∃z,w9.heap.size=z:=⟨_,rfl⟩
       have hb99:Below w9.heap.size w9 W9:=by rw [hW9];(repeat' (first | exact Below.refl _ _ | assumption | apply bel_drewN | apply bel_drew | apply bel_alloc | (refine bel_trans ?_ (by assumption))))
       have hZ:W9.heap[b9]? = some (.cells #[.int .i64 (sn2:Nat),.int .i64 (sf2:Nat),.int .i64 (sd2:Nat),.int .i64 (se2:Nat),.int .i64 (sa2:Nat),.int .i64 (tp2:Nat),.int .i64 v2] 50 (0,0)):=by rw [hW9,←hb9e];exact heap_alloc_new _ _
       rw [hb9e];have h89:=bel_trans hB.out (bel_trans hb9 hb99);have hb5l8:b5<w8.heap.size:=(Array.getElem?_eq_some_iff.1 hbox8.out).1;have hbx9:=(h89.block b5 hb5l8).trans hbox8.out
       have hne:b5≠b9:=by
        have:=hB.out.size;have:=hb9.size;omega
       have hw8:W0.heap.size≤b9:=by
        have:=HB8.out.size;have:=hB.out.size;have:=hb9.size;omega
       have HF:=Lib.hid ((bel_trans HB8.out h89).setCell (p:=⟨b9,6,none⟩) hw8 (.int .i64 v0));have zz:=cells_seven hbx9;obtain ⟨_,_,_,_,_,_,p6⟩:=zz;have zz:=cells_seven hZ;obtain ⟨_,_,_,_,_,_,o6⟩:=zz;have f6:W9.frozen? ⟨b9,6,none⟩=false:=Lib.frozen_of_heap hZ 6;have hZ2:=Lib.hid (set_heap1 W9 b9 6 _ _ (.int .i64 v0) hZ)
       have hX2:=Lib.hid (show (W9.setCell ⟨b9,6,none⟩ (.int .i64 v0)).heap[b5]? = _ from (by
        have hk:=(Kept.refl [b9] W9).setCell (p:=⟨b9,6,none⟩) (u:=.int .i64 v0) (.inl (by simp))
        exact (hk.block b5 (by have:=h89.size;omega) (by simpa using hne)).trans hbx9))
       clear hW9 hb9e hZ hbx9 h89 hb9 hb99 hB
       go_upto_region 32 with (fail)
       have zz:=cells_seven hX2.out;obtain ⟨p0,p1,p2,p3,p4,p5,p6⟩:=zz;have zz:=cells_seven hZ2.out;obtain ⟨o0,o1,o2,o3,o4,o5,o6⟩:=zz
       generalize W9.setCell ⟨b9,6,none⟩ (.int .i64 v0)=W10 at *
       go_wp2_with fail;go_ret;exact ⟨rfl,HF.out⟩
end Go.Proofs.YtokhnobcincfjaaGreatDoor
