/- Lemmas of this claim: TopEdits, OpenA. -/
import Derived.Test.YtokhnobcincfjaaGreatDoorOpenEd
import Derived.Test.YtokhnobcincfjaaGreatDoorMathCan
set_option linter.unusedVariables false
set_option linter.unusedSimpArgs false
set_option maxHeartbeats 6400000
set_option maxRecDepth 100000
namespace Go.Proofs.YtokhnobcincfjaaGreatDoor
open Go.Lib (hid)
open Go.RowKit Go.Sort FR Go.Lib
def gW(wr:World)(g:G)(x y:Int)(sv:Value)(wx:World):Prop:=
 ∃bt Wy cs cd er A mw,sv=.pointer (some ⟨bt,0,none⟩)/\cu g x y Wy ⟨cs,cd⟩ er/\wx.heap[bt]? =some (.cells #[.slice A Wy.length mw,.int .i64 cs,.int .i64 cd,.int .i64 (er:Nat)] 47 (0,0))/\Ints wx A Wy.length (λk=>(bJ Wy).getD k 0)/\Below wr.heap.size wr wx
theorem gW.new{wr z:World}{g:G}{x y:Int}{u:List Nat}{cs B:Int}{F M:Nat}{A:Option Addr}(I:cu g x y u ⟨cs,B⟩ F)(J:Ints z A u.length (λk=>(bJ u).getD k 0))(L:Below wr.heap.size wr z):gW wr g x y (.pointer (some ⟨z.heap.size,0,none⟩)) (z.alloc (.cells #[.slice A u.length M,.int .i64 cs,.int .i64 B,.int .i64 (F:Nat)] 47 (0,0))):=
 ⟨_,_,_,_,_,_,_,rfl,I,heap_alloc_new _ _,J.below (af (Below.refl _ _)),af L⟩
theorem gW.old{wr u:World}{g:G}{x y:Int}{z:List Nat}{cs I:Int}{J T b:Nat}{A:Option Addr}{u0 u1 u2 u3:Value}(L:cu g x y z ⟨cs,I⟩ J)(M:Ints u A z.length (λk=>(bJ z).getD k 0))(R:∀B,A=some B->b<B.block)(O:u.heap[b]? =some (.cells #[u0,u1,u2,u3] 47 (0,0)))(P:Below wr.heap.size wr u)(F:wr.heap.size<=b):gW wr g x y (.pointer (some ⟨b,0,none⟩)) ((((u.setCell ⟨b,0,none⟩ (.slice A z.length T)).setCell ⟨b,1,none⟩ (.int .i64 cs)).setCell ⟨b,2,none⟩ (.int .i64 I)).setCell ⟨b,3,none⟩ (.int .i64 (J:Nat))):=
 ⟨_,_,_,_,_,_,_,rfl,L,qQ _ _ _ _ O,
  M.qA (S:=[b]) (((((Kept.refl [b] u).setCell (p:=⟨b,0,none⟩) (.inl (by simp))).setCell (p:=⟨b,1,none⟩) (.inl (by simp))).setCell (p:=⟨b,2,none⟩) (.inl (by simp))).setCell (p:=⟨b,3,none⟩) (.inl (by simp))) (λ_ B e Q=>by have:=R B e;simp at Q;omega),
  gZ (gZ (gZ (gZ P F 0 _) F 1 _) F 2 _) F 3 _⟩
theorem topEdits(W0:World)(hV:pQ W0)(a b:Int)(A0:Option Addr)(n0 m0:Nat)(f0:Nat->Int)(h0:TT W0 A0 n0 f0)(mx:Int)(d6: -9223372036854775808<=mx/\mx<=9223372036854775807)(Ae:Option Addr)(ne me:Nat)(fe:Nat->Int×Bool)(he:Sq W0 Ae ne fe)(A1:Option Addr)(n1 m1:Nat)(f1:Nat->Int×Int)(h1:TS W0 A1 n1 f1):Calls Tryz.prog 8 #[.agg #[.int .i64 a,.int .i64 b,.slice A0 n0 m0],.int .i64 mx,.slice Ae ne me,.slice A1 n1 m1] W0 λe w'=>e=.returned (.bool true)/\Below W0.heap.size W0 w':=by
 obtain⟨hA1,da⟩:=h1;replace hA1:=hid hA1;replace da:=hid da
 have cI:=hid (show 0<n1->∀ad,A1=some ad->ad.block<W0.heap.size from λhp ad e=>by
  obtain⟨b,o,e2,hl,_⟩:=hA1.out hp;rw[e2]at e;injection e with e;subst e;exact hl)
 obtain⟨hE,dc,cb⟩:=he;replace hE:=hid hE;replace dc:=hid dc;replace cb:=hid cb;have d3:=hid hV;clear d6;obtain⟨d1,cg,_⟩:=h0;replace cg:=hid cg;replace hV:=hid hV;go_enter Tryz.func8,Tryz.ntmps8;go_upto_region 1 with(fail);refine au ?_;intro W hW;have HW:Below W0.heap.size W0 W:=by rw[hW];(repeat' (first|exact Below.refl _ _|assumption|apply aj|apply ah|apply af|(refine aa ?_ (by assumption))))
 have c0:W.cell? ⟨W0.heap.size,0,none⟩=some (.int .i64 a):=by rw[hW];go_simp
 have c1:W.cell? ⟨W0.heap.size,1,none⟩=some (.int .i64 b):=by rw[hW];go_simp
 have c2:W.cell? ⟨W0.heap.size,2,none⟩=some (.slice A0 n0 m0):=by rw[hW];go_simp
 clear hW;go_wp2_with fail;refine(ET _).mono ?_;rintro e w1 ⟨rfl,P⟩;have ao:=aa HW P;replace c0:=ae P c0;replace c1:=ae P c1;replace c2:=ae P c2;have cS:=hid (Js w1 (hV.out.below ao) a b A0 n0 m0 f0 (d1.below ao) cg.out mx);clear HW P;go_wp2_with fail;refine cS.out.mono ?_
 rintro e w2 ⟨R,(⟨u1,u2,rfl⟩|⟨s,q,g,g2,v,m,rfl,db,hq,hF,rfl⟩)⟩
 .have Q:=aa ao R
  go_wp2_with fail;go_ret;exact⟨rfl,Q⟩
 have Q:=hid (aa ao R);have dq:=ao.size;have dj:W0.heap.size<=q:=by have:=hq.2.2.2.2;omega
 have dv:=hid db;have HR:=hid hq.1;have HQ:=hid (And.intro hq.2.1 (And.intro hq.2.2.1 (And.intro hq.2.2.2.1 dj)));have ek:=hid (hV.out.below Q.out);obtain⟨v2,ch⟩:∃z,((gB g.b g.n:Nat):Int)=z:=⟨_,rfl⟩;rw[ch]at hF;have bt:=hid HR.out.1;have cF:=hid hF.RO;have HF:=hid hF;have dT:=hid ch;clear c0 c1 c2 cS R ao db hq hF ch dq dj hV;by_cases ej:60<ne
 .go_wp2_with fail
  go_ret;exact⟨rfl,Q.out⟩
 by_cases ei:20<n1
 .go_wp2_with fail
  go_ret;exact⟨rfl,Q.out⟩
 have eg:decide (60<(ne:Int))=false:=by simp;omega
 have ef:decide (20<(n1:Int))=false:=by simp;omega
 have dl:=hid Q.out.size;obtain⟨T,hT,c5⟩:=HF.out;have aw:=hid (And.intro hT.lt c5)
 have b3:∀ad,Ae=some ad->ad.block∉T/\ad.block≠q:=λad e=>by
  have q1:=cb.out ad e;have q3:=HQ.out.2.2.2;exact⟨λhm=>by have:=aw.out.2 _ hm;omega,by omega⟩
 have dp:0<=v2/\v2<=1000000:=by
  rw[<-dT.out];have:gB g.b g.n<=g.n:=by unfold gB;exact Nat.le_trans (List.length_filter_le _ _) (by simp)
  have:=G.bR bt.out;omega
 obtain⟨gE,nE,kE,ev,vE,vR,bj,hC,hN,hD⟩:=DN w2 s q g g2 v v2 m T bt.out dv.out hT Ae ne me fe (hE.out.below Q.out) (by omega) b3 ⟨HQ.out.1,by have:=HQ.out.2.1;omega⟩ dp;have cE:=hid hC;have cN:=hid hN;have cD:=hid hD;have cJ:=hid bj;have du:=hid b3;have de:=hid cF.out.most;clear hT c5 dp hC hN hD bj b3;go_wp2_with fail;refine cE.out.mono ?_;rintro e w3 ⟨rfl,⟨T',b7,c4⟩,aE⟩;obtain⟨gL,ce⟩:∃z,R6 gE=z:=⟨_,rfl⟩;rw[ce]at b7;have dy:=hid ce;have cG:=hid b7
 have dx:=hid (show∀k∈T',q+1<=k from λk hk=>by
  rcases c4 k hk with h|h
  .exact aw.out.2 k h
  .have:=HR.out.lt;omega)
 have ct:=hid (Kept.below Q.out aE dl.out (λi hi=>by have:=aw.out.2 i hi;have:=HQ.out.2.2.2;omega))
 have cq:=hid ((hA1.out.below Q.out).kept aE (λhp ad e hm=>by
  have q1:=cI.out hp ad e;have q2:=aw.out.2 _ hm;have q3:=HQ.out.2.2.2;omega))
 have cx:=hid ((hE.out.below Q.out).kept aE (λad e=>(du.out ad e).1));have a2:=hid (show aB w3 q g v from⟨bt.out,(aE.block q HR.out.lt (λhm=>by have:=aw.out.2 _ hm;omega)).trans HR.out.2⟩);clear b7 c4 aE ce cE HF cF;go_upto_region 9 with(fail);refine au ?_;intro W4 b8;have ap:Below w3.heap.size w3 W4:=by rw[b8];(repeat' (first|exact Below.refl _ _|assumption|apply aj|apply ah|apply af|(refine aa ?_ (by assumption))))
 obtain⟨bx,ca⟩:∃z,w3.heap.size=z:=⟨_,rfl⟩;have kx:W4.cell? ⟨bx,0,none⟩=some (.pointer (some ⟨q,0,none⟩)):=by rw[b8,<-ca];go_simp
 rw[ca];have cj:bx≠q:=by have:=a2.out.lt;omega
 have d0:=hid cj;have bm:=hid (aa ct.out ap);have cR:=hid (cD.out W4 bx (a2.out.below ap a2.out.lt) kx cj (cx.out.below ap));have cr:=hid (cq.out.below ap);have cH:=hid (cG.out.below ap);have Kx:=hid kx;clear b8 ap ca kx cj cD;go_wp2_with fail;refine cR.out.mono ?_;rintro e w5 ⟨rfl,cY,aS⟩;have ac:=hid cY
 have bv:=hid (aJ (p:=⟨bx,0,none⟩) aS (by simp;exact d0.out) Kx.out)
 have bk:=hid (cr.out.kept aS (λhp ad e hm=>by
  have q1:=cI.out hp ad e;have q3:=HQ.out.2.2.2;simp at hm;omega))
 have ar:=hid (show fT w5 s gL vE m from⟨T',cH.out.kept aS (λk hk hm=>by have:=dx.out k hk;simp at hm;omega)⟩);have bo:=hid (Kept.below bm.out aS bm.out.size (λi hi=>by have:=HQ.out.2.2.2;simp at hi;omega));clear cY aS cR cq cx a2 cr cH Kx cG ct bm;go_wp2_with fail;refine(cN.out w5).mono ?_;rintro e w6 ⟨rfl,al⟩;obtain⟨z,hz⟩:∃z,bs (di gE)=z:=⟨_,rfl⟩;have cP:=ME w6 q gE vR (ac.out.below al ac.out.lt);rw[hz]at cP;replace cP:=hid cP;have Hz:=hid hz;have cv:=hid al;clear al hz cN;go_wp2_with fail;refine cP.out.mono ?_;rintro e w7 ⟨rfl,c7⟩;have bp:=hid (aa cv.out c7)
 have cL:=ow w7 (d3.out.below (aa bo.out bp.out)) gE cJ.out m de.out.1 de.out.2;rw[Hz.out]at cL;replace cL:=hid cL;clear c7 cP cv;go_wp2_with fail;refine cL.out.mono ?_;rintro e w8 ⟨s',g3,rfl,an,b4,c8⟩;obtain rfl:g3=gL:=an.1.trans dy.out;obtain⟨v3,dn⟩:∃z,((gB gE.b gE.n:Nat):Int)=z:=⟨_,rfl⟩;rw[dn]at b4;have ag:=hid b4.RO;have bc:=hid an
 have bq:=hid (aa bp.out c8);have cV:=Gf w8 s g3 vE m (ar.out.below bq.out);rw[an.2.print,Hz.out]at cV;replace cV:=hid cV;clear an b4 c8 cL bp dn;go_wp2_with fail;refine cV.out.mono ?_;rintro e w9 ⟨rfl,a7⟩;have ay:=Gf w9 s' g3 v3 m (ag.out.below a7);rw[bc.out.2.print,Hz.out]at ay;replace ay:=hid ay;have cw:=hid (aa bq.out a7);replace ag:=hid (ag.out.below a7)
 clear a7 cV bq;go_wp2_with fail;refine ay.out.mono ?_;rintro e ds ⟨rfl,a1⟩;have Z:=hid (aa cw.out a1);replace ag:=hid (ag.out.below a1);replace ar:=hid (ar.out.below Z.out);replace bk:=hid (bk.out.below Z.out);replace ac:=hid (ac.out.below Z.out ac.out.lt);replace bv:=hid (ae Z.out bv.out);have dt:=hid (aa bo.out Z.out)
 clear a1 ay cw Z bo;go_wp2_with fail;go_loopw [18] (λiv wr=>∃(k:Nat),k<=n1/\iv=.int .i64 (k:Nat)/\Below ds.heap.size ds wr) (λiv _=>n1-(intOf iv).toNat)
 case atStart=>exact⟨0,Nat.zero_le _,rfl,Below.refl _ _⟩
 case round=>
  obtain⟨k,hk,rfl,hB⟩:=hrel;by_cases dd:k<n1
  .obtain⟨J,o,cW,_,hc⟩:=bk.out (by omega)
   obtain⟨x1,x2⟩:=hc k dd;have c9:=λwx=>Le (A:=A1) (m:=m1) cW dd wx;obtain⟨⟨x,y⟩,dr⟩:∃z,f1 k=z:=⟨_,rfl⟩;rw[dr]at x1 x2;simp only at x1 x2;obtain⟨ok,dg⟩:∃z,o+k*2=z:=⟨_,rfl⟩;rw[dg]at x1 x2 c9;have c0:=ae hB x1;have c1:=ae hB x2;have HB:=hid hB;have cC:=hid (ar.out.below hB);have am:=hid (ag.out.below hB);clear cW hc x1 x2 dr dg hB;go_upto_region 18 with(fail);have cl:J<wr.heap.size:=World.block_lt_of_cell? (a:=⟨J,ok,none⟩) wr c0;go_cut [19]from 87 to 145 (λsv wx=>gW wr g3 x y sv wx)
   case first=>
    have ai:=hid (λw'(hb:Below wr.heap.size wr w')=>Eh w' s g3 vE m (cC.out.below hb) x y);have ci:wr.heap.size<=wr.heap.size:=Nat.le_refl _;have O:Below wr.heap.size wr wr:=Below.refl _ _;have B:Below wr.heap.size wr wr.drew:=ah O;have F:=hid (And.intro c0 c1);have S:wr.drew.cell? ⟨J,ok,none⟩=some (.int .i64 x)/\wr.drew.cell? ⟨J,ok+1,none⟩=some (.int .i64 y):=⟨ae B F.out.1,ae B F.out.2⟩;have ck:=hid (λ(X:World)(k j:Nat)(u:Value)=>World.cell?_setCell_other (w:=X) (a:=⟨wr.heap.size,k,none⟩) (b:=⟨J,j,none⟩) (v:=u) (by intro e;injection e with e1;omega))
    go_region_held3 (λw'=>w'.cell? ⟨J,ok,none⟩=some (.int .i64 x)/\w'.cell? ⟨J,ok+1,none⟩=some (.int .i64 y))
     (first
      |with_reducible exact S
      |(simp only[ck.out];exact S)
      |with_reducible exact⟨ae (af B) F.out.1,ae (af B) F.out.2⟩
      |exact⟨ae (ah (af O)) F.out.1,ae (ah (af O)) F.out.2⟩)
     (first
      |(go_at_call 19
        with_reducible refine(ai.out _ B).mono ?_
        rintro e U ⟨Wy,⟨cs,cd⟩,er,Aw,mw,hA,rfl,hI,hf,M⟩;have B:=aa B M;have S:U.cell? ⟨J,ok,none⟩=some (.int .i64 x)/\U.cell? ⟨J,ok+1,none⟩=some (.int .i64 y):=⟨ae B F.out.1,ae B F.out.2⟩)
      |(go_at_call 19
        with_reducible refine(ai.out _ (ah (af O))).mono ?_
        rintro e U ⟨Wy,⟨cs,cd⟩,er,Aw,mw,hA,rfl,hI,hf,M⟩;have L:U.heap[wr.heap.size]? =some (.cells #[.slice none 0 0,.int .i64 0,.int .i64 0,.int .i64 0] 47 (0,0)):=(M.block wr.heap.size (by simp)).trans (heap_alloc_new wr _);have zz:=cK L;obtain⟨z0,z1,z2,z3⟩:=zz;have y0:=Lib.frozen_of_heap L 0;have y1:=Lib.frozen_of_heap L 1;have y2:=Lib.frozen_of_heap L 2;have y3:=Lib.frozen_of_heap L 3;have B:=aa (ah (af O)) M;have S:U.cell? ⟨J,ok,none⟩=some (.int .i64 x)/\U.cell? ⟨J,ok+1,none⟩=some (.int .i64 y):=⟨ae B F.out.1,ae B F.out.2⟩)
      |(go_at_call 19
        with_reducible refine(ai.out _ (af B)).mono ?_
        rintro e U ⟨Wy,⟨cs,cd⟩,er,Aw,mw,hA,rfl,hI,hf,M⟩;have L:U.heap[wr.heap.size]? =some (.cells #[.slice none 0 0,.int .i64 0,.int .i64 0,.int .i64 0] 47 (0,0)):=(M.block _ (by simp)).trans (heap_alloc_new _ _);have zz:=cK L;obtain⟨z0,z1,z2,z3⟩:=zz;have y0:=Lib.frozen_of_heap L 0;have y1:=Lib.frozen_of_heap L 1;have y2:=Lib.frozen_of_heap L 2;have y3:=Lib.frozen_of_heap L 3;have B:=aa (af B) M;have S:U.cell? ⟨J,ok,none⟩=some (.int .i64 x)/\U.cell? ⟨J,ok+1,none⟩=some (.int .i64 y):=⟨ae B F.out.1,ae B F.out.2⟩))
    all_goals
     go_wp2;go_meet
     case rel=>first
      |with_reducible exact gW.new hA hI B
      |exact gW.old hA hI (λad e=>by have q:=hf ad e;simp at q;omega) L B ci
   case rest=>
    obtain⟨b1,W1,a4,a3,a5,A2,a8,rfl,hA2,a0,cX,P⟩:=hcut;obtain⟨I,rfl⟩:∃z:World,z=wc:=⟨_,rfl⟩;have br:=hid a0;have cA:=hid cX;have co:=hid hA2;replace c0:=ae P c0;replace c1:=ae P c1;have a9:=hid (aa HB.out P);replace am:=hid (am.out.below P);clear a0 hA2 cX P cC cl;go_upto_region 19 with(fail);have cl:J<I.heap.size:=World.block_lt_of_cell? (a:=⟨J,ok,none⟩) I c0;go_cut [20]from 87 to 145 (λsv wx=>gW I g3 x y sv wx)
    case first=>
     have ai:=hid (λw'(hb:Below I.heap.size I w')=>Eh w' s' g3 v3 m (am.out.below hb) x y);have ci:I.heap.size<=I.heap.size:=Nat.le_refl _;have O:Below I.heap.size I I:=Below.refl _ _;have B:Below I.heap.size I I.drew:=ah O;have F:=hid (And.intro c0 c1);have S:I.drew.cell? ⟨J,ok,none⟩=some (.int .i64 x)/\I.drew.cell? ⟨J,ok+1,none⟩=some (.int .i64 y):=⟨ae B F.out.1,ae B F.out.2⟩;have ck:=hid (λ(X:World)(k j:Nat)(u:Value)=>World.cell?_setCell_other (w:=X) (a:=⟨I.heap.size,k,none⟩) (b:=⟨J,j,none⟩) (v:=u) (by intro e;injection e with e1;omega))
     go_region_held3 (λw'=>w'.cell? ⟨J,ok,none⟩=some (.int .i64 x)/\w'.cell? ⟨J,ok+1,none⟩=some (.int .i64 y))
      (first
       |with_reducible exact S
       |(simp only[ck.out];exact S)
       |with_reducible exact⟨ae (af B) F.out.1,ae (af B) F.out.2⟩
       |exact⟨ae (ah (af O)) F.out.1,ae (ah (af O)) F.out.2⟩)
      (first
       |(go_at_call 19
         with_reducible refine(ai.out _ B).mono ?_
         rintro e U ⟨Wy,⟨cs,cd⟩,er,Aw,mw,hA,rfl,hI,hf,M⟩;have B:=aa B M;have S:U.cell? ⟨J,ok,none⟩=some (.int .i64 x)/\U.cell? ⟨J,ok+1,none⟩=some (.int .i64 y):=⟨ae B F.out.1,ae B F.out.2⟩)
       |(go_at_call 19
         with_reducible refine(ai.out _ (ah (af O))).mono ?_
         rintro e U ⟨Wy,⟨cs,cd⟩,er,Aw,mw,hA,rfl,hI,hf,M⟩;have L:U.heap[I.heap.size]? =some (.cells #[.slice none 0 0,.int .i64 0,.int .i64 0,.int .i64 0] 47 (0,0)):=(M.block I.heap.size (by simp)).trans (heap_alloc_new I _);have zz:=cK L;obtain⟨z0,z1,z2,z3⟩:=zz;have y0:=Lib.frozen_of_heap L 0;have y1:=Lib.frozen_of_heap L 1;have y2:=Lib.frozen_of_heap L 2;have y3:=Lib.frozen_of_heap L 3;have B:=aa (ah (af O)) M;have S:U.cell? ⟨J,ok,none⟩=some (.int .i64 x)/\U.cell? ⟨J,ok+1,none⟩=some (.int .i64 y):=⟨ae B F.out.1,ae B F.out.2⟩)
       |(go_at_call 19
         with_reducible refine(ai.out _ (af B)).mono ?_
         rintro e U ⟨Wy,⟨cs,cd⟩,er,Aw,mw,hA,rfl,hI,hf,M⟩;have L:U.heap[I.heap.size]? =some (.cells #[.slice none 0 0,.int .i64 0,.int .i64 0,.int .i64 0] 47 (0,0)):=(M.block _ (by simp)).trans (heap_alloc_new _ _);have zz:=cK L;obtain⟨z0,z1,z2,z3⟩:=zz;have y0:=Lib.frozen_of_heap L 0;have y1:=Lib.frozen_of_heap L 1;have y2:=Lib.frozen_of_heap L 2;have y3:=Lib.frozen_of_heap L 3;have B:=aa (af B) M;have S:U.cell? ⟨J,ok,none⟩=some (.int .i64 x)/\U.cell? ⟨J,ok+1,none⟩=some (.int .i64 y):=⟨ae B F.out.1,ae B F.out.2⟩))
     all_goals
      go_wp2;go_meet
      case rel=>first
       |with_reducible exact gW.new hA hI B
       |exact gW.old hA hI (λad e=>by have q:=hf ad e;simp at q;omega) L B ci
    case rest=>
     obtain⟨b2,W2,ee,ed,eh,A3,el,rfl,hA3,c6,d2,R⟩:=hcut;obtain⟨Ns,rfl⟩:∃z:World,z=wc:=⟨_,rfl⟩;obtain⟨d4,d5⟩:=AQ co.out hA3;cases d4;subst d5;have a0:=(R.block b1 (Array.getElem?_eq_some_iff.1 br.out).1).trans br.out;have ax:=hid (And.intro a0 c6);have cB:=hid (cA.out.below R);have aq:=hid (aa a9.out R);have F:=hid (And.intro (ae R c0) (ae R c1));have bd:=hid (ac.out.below aq.out ac.out.lt);have cO:=hid (ae aq.out bv.out);have cp:=hid (bc.out.2.ask co.out);clear a0 c6 hA3 d2 R br cA a9 am c0 c1 cl;have B:Below Ns.heap.size Ns Ns.drew:=ah (Below.refl _ _);obtain⟨p0,p1,p2,p3⟩:=cK ax.out.1
     have S:Ns.drew.cell? ⟨J,ok,none⟩=some (.int .i64 x)/\Ns.drew.cell? ⟨J,ok+1,none⟩=some (.int .i64 y)/\Ns.drew.cell? ⟨b1,0,none⟩=some (.slice A2 W1.length a8)/\Ns.drew.cell? ⟨b1,1,none⟩=some (.int .i64 a4)/\Ns.drew.cell? ⟨b1,2,none⟩=some (.int .i64 a3)/\Ns.drew.cell? ⟨b1,3,none⟩=some (.int .i64 (a5:Nat)):=
      ⟨ae B F.out.1,ae B F.out.2,ae B p0,ae B p1,ae B p2,ae B p3⟩
     clear p0 p1 p2 p3;go_upto_region 20 with(fail)
     go_region_held3 (λw'=>w'.cell? ⟨J,ok,none⟩=some (.int .i64 x)/\w'.cell? ⟨J,ok+1,none⟩=some (.int .i64 y)/\w'.cell? ⟨b1,0,none⟩=some (.slice A2 W1.length a8)/\w'.cell? ⟨b1,1,none⟩=some (.int .i64 a4)/\w'.cell? ⟨b1,2,none⟩=some (.int .i64 a3)/\w'.cell? ⟨b1,3,none⟩=some (.int .i64 (a5:Nat)))
      (first
       |with_reducible exact S)
      (first
       |(go_at_call 27
         refine(RG _ bx q gE vR (ae B cO.out) (bd.out.below B bd.out.lt) x y A2 W1.length a8 W1 rfl a4 a3 a5 cp.out (cB.out.below B)).mono ?_;rintro e wB ⟨rfl,ab⟩
         have S:wB.cell? ⟨J,ok,none⟩=some (.int .i64 x)/\wB.cell? ⟨J,ok+1,none⟩=some (.int .i64 y)/\wB.cell? ⟨b1,0,none⟩=some (.slice A2 W1.length a8)/\wB.cell? ⟨b1,1,none⟩=some (.int .i64 a4)/\wB.cell? ⟨b1,2,none⟩=some (.int .i64 a3)/\wB.cell? ⟨b1,3,none⟩=some (.int .i64 (a5:Nat)):=
          ⟨ae ab S.1,ae ab S.2.1,ae ab S.2.2.1,ae ab S.2.2.2.1,ae ab S.2.2.2.2.1,ae ab S.2.2.2.2.2⟩))
     all_goals
      have a6:=aa B ab;obtain⟨_,p1,p2,p3⟩:=cK ((a6.block b1 (Array.getElem?_eq_some_iff.1 ax.out.1).1).trans ax.out.1);obtain⟨_,q1,q2,q3⟩:=cK ((a6.block b2 (Array.getElem?_eq_some_iff.1 ax.out.2).1).trans ax.out.2);have cy:=hid (aa aq.out a6);clear S a6 ab B c9;go_wp2;go_roundw
      case rel=>first|exact⟨k+1,by omega,by go_num,cy.out⟩|((repeat apply Exists.intro);exact⟨⟨k+1,by omega,by go_num,cy.out⟩,rfl⟩)
      case measure=>simp[intOf];omega
  .obtain rfl:k=n1:=by omega
   have cT:=hid (Cb wr s g3 vE m (ar.out.below hB));replace hB:=hid hB;go_wp2_with fail;refine cT.out.mono ?_;rintro e cm ⟨sn,sf,sd,se,sa,tp,rfl,dk,be⟩;have cM:=hid dk;clear dk cT
   go_upto_region 24 with(fail);refine au ?_;intro bw hW;obtain⟨b5,b9⟩:∃z,cm.heap.size=z:=⟨_,rfl⟩;have bg:Below cm.heap.size cm bw:=by rw[hW];(repeat' (first|exact Below.refl _ _|assumption|apply aj|apply ah|apply af|(refine aa ?_ (by assumption))))
   have L:bw.heap[b5]? =some (.cells #[.int .i64 (sn:Nat),.int .i64 (sf:Nat),.int .i64 (sd:Nat),.int .i64 (se:Nat),.int .i64 (sa:Nat),.int .i64 (tp:Nat),.int .i64 vE] 50 (0,0)):=by rw[hW,<-b9];exact heap_alloc_new _ _
   rw[b9];have HZ:=hid L;have bb:=hid (aa hB.out (aa be bg));have cU:=hid (Cb bw s' g3 v3 m (ag.out.below bb.out));clear hW b9 bg be L hB;go_wp2_with fail;refine cU.out.mono ?_;rintro e cn ⟨eb,ea,d8,d9,d7,ec,rfl,⟨r1,r2,r3,r4,r5,r6⟩,bh⟩;obtain⟨q1,q2,q3,q4,q5,q6⟩:=cM.out;obtain rfl:=r1.trans q1.symm;obtain rfl:=r2.trans q2.symm;obtain rfl:=r3.trans q3.symm
   obtain rfl:=r4.trans q4.symm;clear q1 q2 q3 q4 q5 q6 r1 r2 r3 r4 r5 r6 cU cM;go_upto_region 25 with(fail);refine au ?_;intro cQ hW;obtain⟨b6,al⟩:∃z,cn.heap.size=z:=⟨_,rfl⟩;have bi:Below cn.heap.size cn cQ:=by rw[hW];(repeat' (first|exact Below.refl _ _|assumption|apply aj|apply ah|apply af|(refine aa ?_ (by assumption))))
   have L:cQ.heap[b6]? =some (.cells #[.int .i64 (eb:Nat),.int .i64 (ea:Nat),.int .i64 (d8:Nat),.int .i64 (d9:Nat),.int .i64 (d7:Nat),.int .i64 (ec:Nat),.int .i64 v3] 50 (0,0)):=by rw[hW,<-al];exact heap_alloc_new _ _
   rw[al];have b0:=aa bh bi;obtain⟨p0,p1,p2,p3,_⟩:=bN ((b0.block b5 (Array.getElem?_eq_some_iff.1 HZ.out).1).trans HZ.out);obtain⟨o0,o1,o2,o3,_⟩:=bN L;have HF:=hid (aa dt.out (aa bb.out b0));clear hW al L bh bi b0;go_wp2;go_ret;exact⟨rfl,HF.out⟩
end Go.Proofs.YtokhnobcincfjaaGreatDoor
namespace Go.Proofs.YtokhnobcincfjaaGreatDoor
open Go.Lib (hid)
open Go.RowKit Go.Sort FR
open Go.ChangeShapes Go.WideShapes Go.ChangeAt Go.Joins
theorem AV:Tryz.prog.cellsOf 60=2:=by kernel_rfl
section
variable {H:Type} {enc:TypeId×Value->H} {w:World} {base:Nat} {held:Bool}
theorem QU{g:Nat}{cs:List Value}{x:DataW H×List MemPlace}(h:DataW.trod enc Tryz.prog w base (λ_=>true) held g 60 cs=some x):∃s d,cs=[.int .i64 s,.int .i64 d]:=by
 obtain⟨F,I,n,J,L,rfl,z,B⟩:=GG Tryz.underlying60 AV rfl uI rfl uI h;obtain⟨s,k,_⟩:=DataW.trod_int Tryz.underlying3 z;obtain⟨d,u,_⟩:=DataW.trod_int Tryz.underlying3 B;simp at k u;subst k u;exact⟨s,d,rfl⟩
theorem RP{u:Nat}{cs:List Value}{x:DataW H×List MemPlace}(h:DataW.trod enc Tryz.prog w base (λ_=>true) held u 54 cs=some x):∃A n m f,cs=[.slice A n m]/\TS w A n f:=by
 rcases Go.Deep.open_slice Tryz.underlying54 h with⟨rfl,_⟩|⟨a,len,z,m,n,D,Z,rfl,_,hl,U,I,_,M⟩
 .exact⟨none,0,0,λ_=>default,rfl,λh=>absurd h (by omega),by omega⟩
 .rw[AV]at M
  simp only[if_true]at I
  obtain⟨F,J⟩:=Go.Deep.choose_lt (α:=Int×Int) (n:=m) (p:=λi p=>∀j v,[Value.int .i64 p.1,.int .i64 p.2][j]? =some v->w.cell? ((a.add (i*2)).add j)=some v) (λi T=>by
   obtain⟨O,Q,R⟩:=M i T;obtain⟨s,d,rfl⟩:=QU R;refine⟨⟨s,d⟩,λj v L=>?_⟩;obtain⟨_,_,S⟩:=World.cells?_some Q;rw[S j (by have:=(List.getElem?_eq_some_iff.1 L).1;simpa using this)];exact L)
  refine⟨some a,len,z,F,rfl,λhp=>?_,?_⟩
  .have B:=J 0 (by omega) 0 _ rfl
   have P:(a.add (0*2)).add 0=a:=by simp[Addr.add]
   rw[P]at B;obtain⟨b,o,rfl⟩:=AL B;refine⟨b,o,rfl,World.block_lt_of_cell? _ _ B,λk hk=>?_⟩;have g:=J k (by omega);simp only[AJ]at g;exact⟨g 0 _ rfl,g 1 _ rfl⟩
  .unfold maxLen at U;omega
variable {r:Reach} {b0:Nat} {v:Value} {d:DataW H} {p:List MemPlace}
theorem Jb(B:Value.okWide Tryz.prog w r b0 54 v)(h:DataW.Trod enc Tryz.prog w base (λ_=>true) held 54 v d p):∃A n m f,v=.slice A n m/\TS w A n f:=by
 obtain⟨a,l,c,rfl⟩:=okWide_slice Tryz.underlying54 B;obtain⟨g,u⟩:=h;obtain⟨A,n,m,f,e,z⟩:=RP u;have k:Value.slice a l c=.slice A n m:=(List.cons.inj (show[Value.slice a l c]=[.slice A n m]from e)).1;exact⟨A,n,m,f,k,z⟩
end
end Go.Proofs.YtokhnobcincfjaaGreatDoor
