/- Lemmas of this claim: TopWalls. -/
import Derived.Test.YtkdndoefgnfbnaaGreatDoorNavTop
import Derived.Test.YtkdndoefgnfbnaaGreatDoorEdOwn
set_option linter.unusedVariables false
set_option linter.unusedSimpArgs false
set_option maxHeartbeats 6400000
set_option maxRecDepth 100000
namespace Go.Proofs.YtkdndoefgnfbnaaGreatDoor
open Go.RowKit Go.Sort FR Go.Lib
theorem fault_edit {g:G} {f:Nat→Int×Bool} {n:Nat} {x:Int} (h:∀j,j<n→(f j).1≠x∧0≤(f j).1):(editG f g n).fault x=g.fault x:=by
 unfold G.fault;rw [editG_n]
 split
 ·rfl
 ·rw [editG_other fun j hj=>?_]
  obtain ⟨h1,h2⟩:=h j hj
  exact ⟨by omega,h2⟩
theorem topWalls (W0 : World) (hV : LibS W0) (a b : Int) (A0 : Option Addr) (n0 m0 : Nat) (f0 : Nat → Int) (h0 : SlI W0 A0 n0 f0) (mx : Int) (hmx : -9223372036854775808 ≤ mx ∧ mx ≤ 9223372036854775807)
    (A1:Option Addr) (n1 m1:Nat) (f1:Nat→Int) (h1:SlI W0 A1 n1 f1)
    (x:Int) (hx:-9223372036854775808≤x∧x≤9223372036854775807) (y:Int) (hy:-9223372036854775808≤y∧y≤9223372036854775807) :
    Calls Tryz.prog 12 #[.agg #[.int .i64 a,.int .i64 b,.slice A0 n0 m0],.int .i64 mx,.slice A1 n1 m1,.int .i64 x,.int .i64 y] W0 fun e w'=>e=.returned (.bool true)∧Below W0.heap.size W0 w':=by
 obtain ⟨hSl,hl1,_⟩:=h1;replace hSl:=Lib.hid hSl;clear hmx hx hy hl1;obtain ⟨hI0,hl0,_⟩:=h0;replace hl0:=Lib.hid hl0;replace hV:=Lib.hid hV;go_enter Tryz.func12,Tryz.ntmps12
 go_upto_region 1 with (fail)
 refine wp_name ?_;intro W hW
 have HW:Below W0.heap.size W0 W:=by rw [hW];(repeat' (first | exact Below.refl _ _ | assumption | apply bel_drewN | apply bel_drew | apply bel_alloc | (refine bel_trans ?_ (by assumption))))
 have c0:W.cell? ⟨W0.heap.size,0,none⟩=some (.int .i64 a):=by rw [hW];go_simp
 have c1:W.cell? ⟨W0.heap.size,1,none⟩=some (.int .i64 b):=by rw [hW];go_simp
 have c2:W.cell? ⟨W0.heap.size,2,none⟩=some (.slice A0 n0 m0):=by rw [hW];go_simp
 clear hW;go_wp2_with fail;refine (works_true _).mono ?_;rintro e w1 ⟨rfl,hb1⟩;have HB1:=bel_trans HW hb1;replace c0:=bel_cell hb1 c0;replace c1:=bel_cell hb1 c1;replace c2:=bel_cell hb1 c2;have cS:=Lib.hid (serve_any w1 (hV.out.below HB1) a b A0 n0 m0 f0 (hI0.below HB1) hl0.out mx);clear HW hb1;go_wp2_with fail;refine cS.out.mono ?_
 rintro e w2 ⟨hb2,(⟨u1,u2,rfl⟩ | ⟨s,q,g,g2,v,m,rfl,hld,hq,hF,rfl⟩)⟩
 ·have HB2:=bel_trans HB1 hb2
  go_wp2_with fail;go_ret;exact ⟨rfl,HB2⟩
 have HB2:=Lib.hid (bel_trans HB1 hb2);have hw12:=HB1.size
 have hq0:W0.heap.size≤q:=by have:=hq.2.2.2.2;omega
 have HLd:=Lib.hid hld;have HR:=Lib.hid hq.1;have HQ:=Lib.hid (And.intro hq.2.1 (And.intro hq.2.2.1 (And.intro hq.2.2.2.1 hq0)));have hV2:=Lib.hid (hV.out.below HB2.out);obtain ⟨v2,hv2⟩:∃z,((cntB g.b g.n:Nat):Int)=z:=⟨_,rfl⟩;rw [hv2] at hF;have Hok:=Lib.hid HR.out.1;have HS:=Lib.hid hF.serv;have HF:=Lib.hid hF;have Hv2:=Lib.hid hv2;clear c0 c1 c2 cS hb2 HB1 hld hq hF hv2 hw12 hq0 hV;have hgn:=G.n_le Hok.out
 have hn2:=HLd.out.2.n
 by_cases h40:40<n1
 ·go_wp2_with fail
  go_ret;exact ⟨rfl,HB2.out⟩
 obtain ⟨T,hT,hTq⟩:=HF.out;have hTl:=hT.lt;have HT:=Lib.hid hT;have HTq:=Lib.hid (And.intro hTl hTq)
 have hv2:0≤v2∧v2≤1000000:=by
  rw [←Hv2.out]
  have:cntB g.b g.n≤g.n:=by unfold cntB;exact Nat.le_trans (List.length_filter_le _ _) (by simp)
  omega
 have Hvv:=Lib.hid hv2;clear hT hTl hTq hv2;have cA:=Lib.hid (navAsk w2 s g2 v2 m HS.out x y);go_wp2_with fail;refine cA.out.mono ?_;rintro e w3 ⟨Wy1,⟨cs1,cd1⟩,er1,Aw1,mw1,hA1,rfl,hI1,hf1,hbA⟩
 go_upto_region 8 with (fail)
 refine wp_name ?_;intro W3 hWB;obtain ⟨b1,hb1⟩:∃z,w3.heap.size=z:=⟨_,rfl⟩
 have hbB:Below w3.heap.size w3 W3:=by rw [hWB];(repeat' (first | exact Below.refl _ _ | assumption | apply bel_drewN | apply bel_drew | apply bel_alloc | (refine bel_trans ?_ (by assumption))))
 have k10:W3.cell? ⟨b1,0,none⟩=some (.slice Aw1 Wy1.length mw1):=by rw [hWB,←hb1];go_simp
 have k11:W3.cell? ⟨b1,1,none⟩=some (.int .i64 cs1):=by rw [hWB,←hb1];go_simp
 have k12:W3.cell? ⟨b1,2,none⟩=some (.int .i64 cd1):=by rw [hWB,←hb1];go_simp
 have k13:W3.cell? ⟨b1,3,none⟩=some (.int .i64 (er1:Nat)):=by rw [hWB,←hb1];go_simp
 try rw [hb1]
 have hbl1:w2.heap.size≤b1:=by rw [←hb1];exact hbA.size
 have hAB:=bel_trans hbA hbB;have HB3:=Lib.hid (bel_trans HB2.out hAB);replace hA1:=Lib.hid hA1;replace hI1:=Lib.hid (hI1.below hbB);replace hf1:=Lib.hid hf1;clear hWB hb1 hbA hbB cA;have HT3:=Lib.hid (HT.out.below hAB);have HR3:=Lib.hid (HR.out.below hAB HR.out.lt);have h23:=hAB.size;have hA1x:=Lib.hid (hSl.out.below HB3.out);have hlb1:=World.block_lt_of_cell? (a:=⟨b1,0,none⟩) W3 k10;clear hAB HT HR HS hI1 hf1 hSl
 go_wp2_with fail
 go_loopw [15,16] (fun lv iv wr=>∃(k:Nat),k≤n1∧iv=.int .i64 (k:Nat)∧OwnEd wr W3.heap.size lv (wallL g x y f1 k)∧Below W3.heap.size W3 wr) (fun _ iv _=>n1-(intOf iv).toNat)
 case atStart=>exact ⟨0,Nat.zero_le _,rfl,OwnEd.nil _ _,Below.refl _ _⟩
 case round=>
  obtain ⟨k,hk,rfl,hO,hB⟩:=hrel;have HBw:=Lib.hid hB;have HO:=Lib.hid hO;have hll:=wallL_len g x y f1 k
  by_cases hlt:k<n1
  ·obtain ⟨ad,hAd,_,hcc⟩:=(hA1x.out.below hB) (by omega)
   have hcz:=hcc k hlt
   have hix:=fun wx=>idx_run (A:=A1) (m:=m1) hAd hlt wx
   have hws:wallL g x y f1 (k+1)=wallL g x y f1 k ++ (if (0≤f1 k∧f1 k<(g.n:Nat))∧f1 k≠x∧f1 k≠y then [(f1 k,true)] else []):=rfl
   obtain ⟨z,hz⟩:∃z,f1 k=z:=⟨_,rfl⟩;rw [hz] at hcz hws;have Hws:=Lib.hid hws;have HRr:=Lib.hid (HR3.out.below hB HR3.out.lt);clear hB hO hcc hAd hws hz
   by_cases hin:0≤z∧z<(g.n:Nat)
   case neg=>
    have cI:=Lib.hid (rIs_out wr q g v z HRr.out (by omega))
    have hF:wallL g x y f1 (k+1)=wallL g x y f1 k:=by rw [Hws.out,if_neg (fun h=>hin h.1),List.append_nil]
    have HFe:=Lib.hid hF;clear hF hin;go_wp2_with fail;refine cI.out.mono ?_;rintro e w5 ⟨rfl,hb5⟩;have HO5:=Lib.hid (HO.out.below hb5);have HB5:=Lib.hid (bel_trans HBw.out hb5);clear hb5 cI hcz hix;go_wp2;go_roundw
    case rel=>first | exact ⟨k+1,by omega,by go_num,by rw [HFe.out];exact HO5.out,HB5.out⟩ | ((repeat apply Exists.intro);exact ⟨⟨k+1,by omega,by go_num,by rw [HFe.out];exact HO5.out,HB5.out⟩,rfl⟩)
    case measure=>simp [intOf];omega
   obtain ⟨c,rfl⟩:=Int.eq_ofNat_of_zero_le hin.1
   have cI:=Lib.hid (rIs_in wr q g v c HRr.out (by omega))
   have Hin:=Lib.hid hin;clear hin;go_wp2_with fail;refine cI.out.mono ?_;rintro e w5 ⟨rfl,hb5⟩;have HO5:=Lib.hid (HO.out.below hb5);have HB5:=Lib.hid (bel_trans HBw.out hb5);have hz5:=HB5.out.size;replace hcz:=bel_cell hb5 hcz;clear hb5 cI HO
   by_cases hzx:((c:Nat):Int)=x
   ·have d1:(((c:Nat):Int) != x)=false:=by simp [hzx]
    have hF:wallL g x y f1 (k+1)=wallL g x y f1 k:=by rw [Hws.out,if_neg (fun h=>h.2.1 hzx),List.append_nil]
    have HFe:=Lib.hid hF;clear hF hzx;go_wp2;go_roundw
    case rel=>first | exact ⟨k+1,by omega,by go_num,by rw [HFe.out];exact HO5.out,HB5.out⟩ | ((repeat apply Exists.intro);exact ⟨⟨k+1,by omega,by go_num,by rw [HFe.out];exact HO5.out,HB5.out⟩,rfl⟩)
    case measure=>simp [intOf];omega
   have d1:(((c:Nat):Int) != x)=true:=by simp;exact hzx
   by_cases hzy:((c:Nat):Int)=y
   ·have d2:(((c:Nat):Int) != y)=false:=by simp [hzy]
    have hF:wallL g x y f1 (k+1)=wallL g x y f1 k:=by rw [Hws.out,if_neg (fun h=>h.2.2 hzy),List.append_nil]
    have HFe:=Lib.hid hF;clear hF hzy hzx;go_wp2;go_roundw
    case rel=>first | exact ⟨k+1,by omega,by go_num,by rw [HFe.out];exact HO5.out,HB5.out⟩ | ((repeat apply Exists.intro);exact ⟨⟨k+1,by omega,by go_num,by rw [HFe.out];exact HO5.out,HB5.out⟩,rfl⟩)
    case measure=>simp [intOf];omega
   have d2:(((c:Nat):Int) != y)=true:=by simp;exact hzy
   have hF:wallL g x y f1 (k+1)=wallL g x y f1 k ++ [(((c:Nat):Int),true)]:=by rw [Hws.out,if_pos ⟨Hin.out,hzx,hzy⟩]
   have HFe:=Lib.hid hF;clear hF hzx hzy
   go_wp2_with (at_builtin;refine wpList_append_Ed _ rfl _ _ rfl W3.heap.size _ _ (((c:Nat):Int),true) rfl (HO5.out.below (Below.alloc (Below.refl _ _) (Nat.le_refl _) _)) ⟨w5.heap.size,0,none⟩ rfl (by go_simp) (by go_simp) (by omega) (by simp;omega) ?_;intro v' w6 hown6 hgrow)
   have HB6:=Lib.hid (below_grownEd (HB5.out.alloc (by omega) (.cells #[.int .i64 (c:Nat),.bool true] 74 (0,0))) (by simp;omega) (HO5.out.below (Below.alloc (Below.refl _ _) (Nat.le_refl _) _)) hgrow)
   have HO6:=Lib.hid hown6;clear hown6 hgrow hcz hix d1 d2;go_wp2;go_roundw
   case rel=>first | exact ⟨k+1,by omega,by go_num,by rw [HFe.out];exact HO6.out,HB6.out⟩ | ((repeat apply Exists.intro);exact ⟨⟨k+1,by omega,by go_num,by rw [HFe.out];exact HO6.out,HB6.out⟩,rfl⟩)
   case measure=>simp [intOf];omega
  ·obtain rfl:n1=k:=by omega
   obtain ⟨Al,ml,rfl,hEd,hAd⟩:=hO.edits
   have hmem:∀j,j<(wallL g x y f1 n1).length→(fun k=>(wallL g x y f1 n1).getD k (0,false)) j∈wallL g x y f1 n1:=fun j hj=>by
    simp only [List.getD,List.getElem?_eq_getElem hj,Option.getD_some];exact List.getElem_mem hj
   obtain ⟨L,hL⟩:∃z,wallL g x y f1 n1=z:=⟨_,rfl⟩
   have hW:∀e∈L,(0≤e.1∧e.1<(g.n:Nat))∧e.1≠x∧e.1≠y∧e.2=true:=fun e he=>wallL_mem (hL▸he)
   rw [hL] at hEd hll hmem ⊢
   obtain ⟨fL,hfL⟩:∃f:Nat→Int×Bool,(fun k=>L.getD k (0,false))=f:=⟨_,rfl⟩
   rw [hfL] at hEd hmem;obtain ⟨nl,hnl⟩:∃z,L.length=z:=⟨_,rfl⟩
   rw [hnl] at hEd hll hmem ⊢
   have hall:∀j,j<nl→(0≤(fL j).1∧(fL j).1<(g.n:Nat))∧(fL j).1≠x∧(fL j).1≠y∧(fL j).2=true:=fun j hj=>hW _ (hmem j hj)
   have HTr:=HT3.out.below hB
   have cE:=navEdit_ok wr s g2 v2 m T HTr Al nl ml fL hEd (by omega) (fun ad e hm=>by have:=HTq.out.1 _ hm;have:=(hAd ad e).1;omega) Hvv.out (fun j hj=>by rw [hn2];exact (hall j hj).1)
   replace cE:=Lib.hid cE;replace k11:=bel_cell hB k11;replace k12:=bel_cell hB k12;replace k13:=bel_cell hB k13
   have hmore:=editG_more (g:=g2) (f:=fL) (k:=nl) (fun j hj=>(hall j hj).2.2.2)
   have hfx:(editG fL g2 nl).fault x=g2.fault x:=fault_edit fun j hj=>⟨(hall j hj).2.1,(hall j hj).1.1⟩
   have hfy:(editG fL g2 nl).fault y=g2.fault y:=fault_edit fun j hj=>⟨(hall j hj).2.2.1,(hall j hj).1.1⟩
   have HM:=Lib.hid (And.intro hmore (And.intro hfx hfy));have HBr:=Lib.hid (bel_trans HB3.out hB)
   have hb1q:b1∉T:=fun hm=>by have:=HTq.out.1 b1 hm;omega
   clear hEd hAd hmem hL hW hfL hnl hall HTr hB hO HO hmore hfx hfy hll hk;go_wp2_with fail;refine cE.out.mono ?_;rintro e w6 ⟨rfl,T2,hIn2,hT2,hk6⟩;obtain ⟨ne,hne⟩:∃z,editN fL g2 nl=z:=⟨_,rfl⟩
   rw [hne] at hIn2 ⊢
   obtain ⟨g4,hg4⟩:∃z,editG fL g2 nl=z:=⟨_,rfl⟩;rw [hg4] at hIn2 HM;replace k11:=keptc hk6 (p:=⟨b1,1,none⟩) hb1q k11;replace k12:=keptc hk6 (p:=⟨b1,2,none⟩) hb1q k12;replace k13:=keptc hk6 (p:=⟨b1,3,none⟩) hb1q k13
   have HB6:Below W0.heap.size W0 w6:=Kept.below HBr.out hk6 HBr.out.size (fun i hi=>by have:=HTq.out.2 i hi;have:=HQ.out.2.2.2;omega)
   replace HB6:=Lib.hid HB6
   have HS6:=Lib.hid (show ServAt w6 s g4 _ m from ⟨T2,hIn2⟩)
   have hok2:g2.ok:=by have:=Hok.out;obtain ⟨e1,e2,_⟩:=HLd.out.2;unfold G.ok;rw [e1,e2];exact this
   have Hok2:=Lib.hid (And.intro hok2 HS6.out.ok);clear hIn2 hT2 hk6 hne hg4 cE hb1q hok2;have cA:=Lib.hid (navAsk w6 s g4 _ m HS6.out x y);go_wp2_with fail;refine cA.out.mono ?_;rintro e w7 ⟨Wy2,⟨cs2,cd2⟩,er2,Aw2,mw2,hA2,rfl,hI2,hf2,hbA⟩
   go_upto_region 16 with (fail)
   refine wp_name ?_;intro W7 hWB;obtain ⟨b2,hb2⟩:∃z,w7.heap.size=z:=⟨_,rfl⟩
   have hbB:Below w7.heap.size w7 W7:=by rw [hWB];(repeat' (first | exact Below.refl _ _ | assumption | apply bel_drewN | apply bel_drew | apply bel_alloc | (refine bel_trans ?_ (by assumption))))
   have k20:W7.cell? ⟨b2,0,none⟩=some (.slice Aw2 Wy2.length mw2):=by rw [hWB,←hb2];go_simp
   have k21:W7.cell? ⟨b2,1,none⟩=some (.int .i64 cs2):=by rw [hWB,←hb2];go_simp
   have k22:W7.cell? ⟨b2,2,none⟩=some (.int .i64 cd2):=by rw [hWB,←hb2];go_simp
   have k23:W7.cell? ⟨b2,3,none⟩=some (.int .i64 (er2:Nat)):=by rw [hWB,←hb2];go_simp
   try rw [hb2]
   have hbl2:w6.heap.size≤b2:=by rw [←hb2];exact hbA.size
   have hAB:=bel_trans hbA hbB;have HB7:=Lib.hid (bel_trans HB6.out hAB);replace hA2:=Lib.hid hA2;replace hI2:=Lib.hid (hI2.below hbB);replace hf2:=Lib.hid hf2;clear hWB hb2 hbA hbB cA;replace k11:=bel_cell hAB k11;replace k12:=bel_cell hAB k12;replace k13:=bel_cell hAB k13;obtain ⟨hm1,hm2⟩:=HM.out.1.ask HM.out.2.1 HM.out.2.2 hA1.out hA2.out;clear hAB k20 k10 HS6 hI2 hf2
   by_cases he2:er2=0
   ·subst he2
    obtain ⟨rfl,hle⟩:=hm1 rfl;obtain ⟨_,_,p1,p2,p3,p4⟩:=hA1.out.len Hok2.out.1 rfl;obtain ⟨_,_,q1,q2,q3,q4⟩:=hA2.out.len Hok2.out.2 rfl;simp only at p1 p2 p3 p4 q1 q2 q3 q4
    have cL:=fun w=>costLess cs2 cd2 cs1 cd1 w (by unfold inC;omega) (by unfold inC;omega) (by unfold inC;omega) (by unfold inC;omega)
    have hnl:decide (C.cmp ⟨cs2,cd2⟩ ⟨cs1,cd1⟩<0)=false:=by
     have:=C.cmp_nonneg.2 hle;simp;omega
    rw [hnl] at cL;replace cL:=Lib.hid cL;clear p1 p2 p3 p4 q1 q2 q3 q4 hm1 hm2 hle hnl;go_wp2_with fail;refine (cL.out _).mono ?_;rintro e w8 ⟨rfl,hb8⟩;have HF:=bel_trans HB7.out hb8;replace k13:=bel_cell hb8 k13;replace k23:=bel_cell hb8 k23;go_wp2_with fail;go_ret;exact ⟨rfl,HF⟩
   ·obtain ⟨fz,hfz⟩:∃z:Int,((er2:Nat):Int)=z:=⟨_,rfl⟩
    by_cases he1:er1=0
    ·subst he1
     rw [hfz] at k23
     have d1:(fz == 0)=false:=by simp;omega
     have d2:¬fz=0:=by omega
     clear hm1 hm2 hfz he2;go_wp2_with fail;go_ret;exact ⟨rfl,HB7.out⟩
    ·have e12:=hm2 he1
     rw [←e12,hfz] at k13;rw [hfz] at k23
     have d1:(fz == 0)=false:=by simp;omega
     have d2:¬fz=0:=by omega
     clear hm1 hm2 hfz he2 he1 e12;go_wp2_with fail;go_ret;exact ⟨rfl,HB7.out⟩
end Go.Proofs.YtkdndoefgnfbnaaGreatDoor
