/- Lemmas of this claim: RWalk. -/
import Derived.Test.YtokhnobcincfjaaGreatDoorKNEd11
set_option linter.unusedVariables false
set_option linter.unusedSimpArgs false
set_option maxHeartbeats 3200000
set_option maxRecDepth 100000
namespace Go.Proofs.YtokhnobcincfjaaGreatDoor
open Go.Lib (hid)
open Go.RowKit Go.Sort FR
variable {k:Nat}
theorem vM(w:World)(p:Nat)(g:G)(v x:Int)(h:aB w p g v):Calls Tryz.prog 61 #[.pointer (some ⟨p,0,none⟩),.int .i64 x] w λe I=>e=.returned (.int .i64 (g.fault x:Nat))/\Below w.heap.size w I:=by
 by_cases F:0<=x/\x<g.n
 .obtain⟨L,P⟩:=F
  obtain⟨c,rfl⟩:=Int.eq_ofNat_of_zero_le L;have J:c<g.n:=by omega
  have Q:=G.bR h.1;have z:=λI(z:Below w.heap.size w I)=>(h.below z h.lt).bit c (by omega);rw[G.aN J];obtain⟨t,M⟩:∃t,g.b c=t:=⟨_,rfl⟩;rw[M]at z⊢;have z:=hid z;have B:(c:Int)<256:=by omega
  go_enter Tryz.func61,Tryz.ntmps61;go_wp2_with fail;(with_reducible refine(vN _ p g v c h J).mono ?_);rintro e O ⟨rfl,u⟩;have k:=z.out _ u;cases t with
  |true=>
   go_wp2;go_ret;exact⟨rfl,u⟩
  |false=>
   go_wp2;go_ret;exact⟨rfl,u⟩
 .rw[G.rE (by omega)]
  go_enter Tryz.func61,Tryz.ntmps61;go_wp2_with fail;(with_reducible refine(uq _ p g v x h (by omega)).mono ?_);rintro e O ⟨rfl,u⟩;go_wp2;go_ret;exact⟨rfl,u⟩
def Q0(x:C×Nat):Value:=.tuple #[.agg #[.int .i64 x.1.s,.int .i64 x.1.d],.int .i64 (x.2:Nat)]
def TN(w:World)(x:C×Nat)(e:Ending)(w':World):Prop:=e=.returned (Q0 x)/\Below w.heap.size w w'
def Dl(g:G)(k:Nat)(c:C)(o:Option Nat)(j:Nat):C:=match o with|some kk=>if kk<j then C.add c (g.Aj k kk)else c|none=>c
def Nr(o:Option Nat)(j:Nat):Bool:=match o with|some kk=>decide (kk<j)|none=>false
theorem Fj(g:G)(k:Nat)(c:C)(o:Option Nat):Dl g k c o 0=c/\Nr o 0=false:=by
 unfold Dl Nr;cases o<;>simp
theorem NM{g:G}{k j:Nat}{c:C}{o:Option Nat}(h:o≠some j):Dl g k c o (j+1)=Dl g k c o j/\Nr o (j+1)=Nr o j:=by
 unfold Dl Nr;cases o with
 |none=>simp
 |some kk=>
  have:kk≠j:=λe=>h (by rw[e]);have u:(kk<j+1)=(kk<j):=by simp;omega
  simp only[u,and_self]
theorem QV{g:G}{k j:Nat}{c:C}{o:Option Nat}(h:o=some j):Dl g k c o (j+1)=C.add c (g.Aj k j)/\Nr o (j+1)=true/\Dl g k c o j=c:=by
 subst h;simp[Dl,Nr]
def J4(W:World)(b6:Nat)(x:C)(wr:World):Prop:=wr.cell? ⟨b6,0,none⟩=some (.int .i64 x.s)/\wr.cell? ⟨b6,1,none⟩=some (.int .i64 x.d)/\wr.frozen? ⟨b6,0,none⟩=false/\wr.frozen? ⟨b6,1,none⟩=false/\Kept [b6] W wr
theorem Ul{S:List Nat}{w w':World}{ad:Addr}{v:Value}(h:Kept S w w')(z:ad.block∉S)(g:w.cell? (ad.add k)=some v):w'.cell? (ad.add k)=some v:=by
 have u:=World.block_lt_of_cell? _ _ g;rw[add_block]at u;have e:w'.cell? (ad.add k)=w.cell? (ad.add k):=World.cell?_of_block (by rw[add_block];exact h.block _ u z);rw[e];exact g
theorem J4.below{W w w':World}{u:Nat}{x:C}(h:J4 W u x w)(g:Below w.heap.size w w'):J4 W u x w':=by
 obtain⟨z,B,F,I,J⟩:=h;have l:=World.block_lt_of_cell? _ _ z;exact⟨ae g z,ae g B,aQ g l F,aQ g l I,J.trans (Kept.of_below g)⟩
theorem J4.Er{W M z:World}{g:Nat}{x y:Int}{u v:Value}(I:Kept [g] W M)(O:Below M.heap.size M z)(B:z.cell? ⟨g,0,none⟩=some u)(F:z.cell? ⟨g,1,none⟩=some v)(J:z.frozen? ⟨g,0,none⟩=false)(L:z.frozen? ⟨g,1,none⟩=false):J4 W g ⟨x,y⟩ ((z.setCell ⟨g,0,none⟩ (.int .i64 x)).setCell ⟨g,1,none⟩ (.int .i64 y)):=by
 have e:=dF (x:=.int .i64 x) (y:=.int .i64 y) B F;refine⟨e.1,e.2,by simpa using J,by simpa using L,?_⟩;exact I.trans (((Kept.of_below O).setCell (.inl (by simp))).setCell (.inl (by simp)))
theorem Tm(w:World)(p:Nat)(g:G)(v:Int)(A:Option Addr)(n m:Nat)(f:Nat->Int)(hG:aB w p g v)(hI:Ints w A n f)(hn:n<=1000000):Calls Tryz.prog 63 #[.pointer (some ⟨p,0,none⟩),.slice A n m] w (TN w (g.qY f n)):=by
 go_enter Tryz.func63,Tryz.ntmps63;go_upto_region 2 with(fail);refine au ?_;intro W hW;have HW:Below w.heap.size w W:=by rw[hW];(repeat' (first|exact Below.refl _ _|assumption|apply aj|apply ah|apply af|(refine aa ?_ (by assumption))))
 obtain⟨b4,ab⟩:∃b,w.heap.size=b:=⟨_,rfl⟩;have cW:W.heap.size=b4+1+1:=by rw[hW];simp;omega
 have L:W.cell? ⟨b4,0,none⟩=some (.int .i64 0):=by rw[hW,<-ab];go_simp
 have M:W.cell? ⟨b4,1,none⟩=some (.int .i64 0):=by rw[hW,<-ab];go_simp
 have T:W.frozen? ⟨b4,0,none⟩=false:=by rw[hW,<-ab];go_simp
 have U:W.frozen? ⟨b4,1,none⟩=false:=by rw[hW,<-ab];go_simp
 have cb:W.cell? ⟨b4+1,0,none⟩=some (.int .i64 0):=by rw[hW,<-ab];go_simp
 have ce:W.cell? ⟨b4+1,1,none⟩=some (.int .i64 0):=by rw[hW,<-ab];go_simp
 have B:W.frozen? ⟨b4+1,0,none⟩=false:=by rw[hW,<-ab];go_simp
 have F:W.frozen? ⟨b4+1,1,none⟩=false:=by rw[hW,<-ab];go_simp
 have cS:=hid (hG.below HW hG.lt);have cU:=hid (hI.below HW);have c7:=hG.lt;rw[ab]at c7⊢;obtain⟨b6,c0⟩:∃b,b4+1=b:=⟨_,rfl⟩;rw[c0]at cW cb ce B F⊢;have c6:=hG.1;have du:=G.bR c6
 have bc:0<n->∀ad,A=some ad->ad.block<b4:=λh0 ad e=>by
  obtain⟨dl,e',a5,_⟩:=hI h0;rw[e']at e;injection e with e;subst e;omega
 have bc:=hid bc;clear hW hG hI;have hstart:Np W b6 g f 0 W:=⟨0,0,rfl,cb,ce,B,F,Kept.refl _ _⟩;go_wp2_with fail;go_loopw [7] (λkv wr=>∃i:Nat,i<=n/\kv=.int .i64 i/\Np W b6 g f i wr) (λkv _=>n-(intOf kv).toNat)
 case atStart=>exact⟨0,by omega,rfl,hstart⟩
 case round=>
  obtain⟨i,hi,rfl,cs,cd,ar,I,J,B,F,hK⟩:=hrel;clear hstart cb ce;have L:=aT hK (by simp;omega) L;have M:=aT hK (by simp;omega) M;have T:=rR hK (by simp;omega) (by omega) T;have U:=rR hK (by simp;omega) (by omega) U;have bg:=hid (cS.out.kept hK (by simp;omega));have bh:=hid (cU.out.qA hK (λh0 ad e=>by have:=bc.out h0 ad e;simp;omega));have aw:Below w.heap.size w wr:=Kept.below HW hK HW.size (by simp;omega);have aw:=hid aw;have HK:=hid hK;have d7:=hK.size;clear hK;by_cases a5:i<n
  .obtain⟨ad,hA⟩:=bh.out.addr (by omega)
   have O:=bh.out;rw[hA]at O;have c4:=λwx=>aX (m:=m) hA a5 wx;have hE:=O.cell (Below.refl _ _) a5;have a2:=hid ar;clear hA O ar;obtain⟨fi,b5⟩:∃fi,f i=fi:=⟨_,rfl⟩;rw[b5]at hE;have cF:=hid (λw' h'=>vM w' p g v fi h');obtain⟨fa,aS⟩:∃fa,g.fault fi=fa:=⟨_,rfl⟩;rw[aS]at cF;have a1:=hid b5;have bb:=hid aS;clear b5 aS;go_wp2_with fail;(with_reducible refine(cF.out _ bg.out).mono ?_);rintro e w6 ⟨rfl,u⟩;have d3:=u.size;have L:=ae u L;have M:=ae u M;have T:=aQ u (by simp only;omega) T;have U:=aQ u (by simp only;omega) U;have I:=ae u I;have J:=ae u J;have B:=aQ u (by simp only;omega) B;have F:=aQ u (by simp only;omega) F;have bd:=hid (bg.out.below u bg.out.lt);have b0:=hid (bh.out.below u);have bw:=hid (aa aw.out u);have b2:=hid (HK.out.trans (Kept.of_below u));have hE:=ae u hE;clear cF u bg bh aw HK;rcases Nat.eq_zero_or_pos fa with aS|aS
   .subst aS
    obtain⟨c,hc,dx,dv⟩:=G.gN bb.out;subst hc;have a9:g.fault (f i)=0:=by rw[a1.out];exact bb.out
    have a9:=hid a9;rcases Nat.eq_zero_or_pos i with a0|a0
    .subst a0
     have hz:cs=0/\cd=0:=by
      have h:=a2.out;unfold G.dX at h;injection h with h
      unfold C.zero at h;injection h with h1 h2
      exact⟨h1.symm,h2.symm⟩
     obtain⟨rfl,rfl⟩:=hz;have S:Np W b6 g f 1 w6:=⟨0,0,G.pI a9.out,I,J,B,F,b2.out⟩;have S:=hid S;clear I J B F L M T U;go_wp2;go_roundw
     case rel=>exact⟨1,by omega,by go_num,S.out⟩
     case measure=>simp[intOf];omega
    .obtain⟨i',a4⟩:∃i',i=i'+1:=⟨i-1,by omega⟩
     have bm:i'<n:=by omega
     have c5:((i:Int)==0)=false:=by simp;omega
     have P:=a2.out;rw[a4]at P;obtain⟨k,b7,cx,dT⟩:=G.uB P;have cq:=G.Ab P;simp only at cq;obtain⟨dp,dr,ds,dt⟩:=cq;have a3:=hid P;have ba:g.fault (f (i'+1))=0:=by rw[<-a4];exact a9.out
     have ba:=hid ba;have Hc:f (i'+1)=(c:Nat):=by rw[<-a4];exact a1.out
     have Hc:=hid Hc;obtain⟨ad,hA⟩:=b0.out.addr (by omega);have O:=b0.out;rw[hA]at O;have de:=λwx=>aX (m:=m) hA bm wx;have ac:=O.cell (Below.refl _ _) bm;have cp:=O.SG (by omega);have hA6:ad.block<b4:=bc.out (by omega) ad hA;rw[b7]at ac
     have d8:IntKind.i64.wrap ((i:Int)-1)=(i':Int):=by
      rw[show(i:Int)-1=(i':Int)by omega];exact IntWalk.i64_in _ (by omega)
     have ag:=O.cell (Below.refl _ _) a5;rw[a1.out]at ag;have dg:=λwx=>aX (m:=m) hA a5 wx;have ch:=hid a4;have cg:=hid b7;clear hA O P b7 a4 hE c4;go_wp2_with fail;(with_reducible refine(Gt _ p g v k bd.out cx).mono ?_);rintro e w7 ⟨A1,m1,rfl,bx,bi,z⟩;have d4:=z.size;have cL:=hid (ae z L);have cM:=hid (ae z M);have cN:=hid (aQ z (by simp only;omega) T);have cO:=hid (aQ z (by simp only;omega) U);have I:=ae z I;have J:=ae z J;have B:=aQ z (by simp only;omega) B;have F:=aQ z (by simp only;omega) F;have cR:=hid (bd.out.below z bd.out.lt);have ck:=hid (aa bw.out z);have cV:=hid (b2.out.trans (Kept.of_below z));have cG:=hid (ae z ac);have cH:=hid (ae z ag);obtain⟨nl,bj⟩:∃nl,(fF g k).length=nl:=⟨_,rfl⟩;rw[bj]at bx⊢;have dj:nl<=8:=by rw[<-bj];exact jq _ _
     have bi:0<nl->∀ad,A1=some ad->ad.block∉[b6]:=λ_ ad e=>by have:=bi ad e;simp;omega
     have cJ:=hid bi;have cI:=hid bx;have ci:=hid bj;obtain⟨o,ho⟩:∃o,g.mP k c=o:=⟨_,rfl⟩;have Ho:=hid ho;have bk:ad.block≠b6:=by omega
     have cA:p≠b6:=by omega
     clear ac ag L M T U bd b0 bw b2 z bx bi bj ho cp;have ai:J4 w7 b6 (Dl g k ⟨cs,cd⟩ o 0) w7:=by rw[(Fj g k ⟨cs,cd⟩ o).1];exact⟨I,J,B,F,Kept.refl _ _⟩
     have ct:=(Fj g k ⟨cs,cd⟩ o).2;clear I J B F;go_wp2_with fail;obtain⟨wo,rfl⟩:∃wo:World,wo=wr:=⟨_,rfl⟩
     go_loopw [10,11] (λfv kv wr=>∃j:Nat,j<=nl/\fv=.bool (Nr o j)/\kv=.int .i64 j/\J4 w7 b6 (Dl g k ⟨cs,cd⟩ o j) wr) (λ_ kv _=>nl-(intOf kv).toNat)
     case atStart=>exact⟨0,by omega,by rw[ct],rfl,ai⟩
     case round=>
      obtain⟨j,hj,rfl,rfl,hJ⟩:=hrel;clear ai ct;obtain⟨I,J,B,F,Q⟩:=hJ;have ac:=Ul Q (by simpa using bk) cG.out;have ag:=Ul Q (by simpa using bk) cH.out;have L:=aT Q (by simp;omega) cL.out;have M:=aT Q (by simp;omega) cM.out;have T:=rR Q (by simp;omega) (by omega) cN.out;have U:=rR Q (by simp;omega) (by omega) cO.out;have be:=hid (cR.out.kept Q (by simpa using cA));have b1:=hid (cI.out.qA Q cJ.out);have d6:=Q.size;have bt:=hid Q;obtain⟨⟨xs,xd⟩,hx⟩:∃x,Dl g k ⟨cs,cd⟩ o j=x:=⟨_,rfl⟩;obtain⟨fb,b3⟩:∃x,Nr o j=x:=⟨_,rfl⟩;rw[hx]at I J;rw[b3]at⊢;simp only at I J;have Hx:=hid hx;have bv:=hid b3;clear Q hx b3;by_cases b8:j<nl
      .obtain⟨dn,hA1⟩:=b1.out.addr (by omega)
       have O:=b1.out;rw[hA1]at O;have bo:=λwx=>aX (m:=m1) hA1 b8 wx;have ax:=O.cell (Below.refl _ _) b8;obtain⟨d,c2,bp,cv,aq⟩:=qF (g:=g) (k:=k) (j:=j) (by rw[ci.out];exact b8);rw[cv]at ax;obtain⟨b9,da⟩:=to_eq bp;obtain⟨tt,ca⟩:∃tt,g.to k d=tt:=⟨_,rfl⟩;rw[ca]at b9 da;obtain⟨t,ht⟩:∃t,((tt:Int)==(c:Int))=t:=⟨_,rfl⟩
       have bq:t=true↔o=some j:=by
        have e1:t=true↔g.to k d=c:=by rw[<-ht,ca];simp;omega
        rw[e1,<-Ho.out];cases hw:g.mP k c with
        |none=>simp;exact G.sj hw j d aq
        |some i2=>
         obtain⟨d2,z1,z2,z3⟩:=G.gV hw;rw[z3 j d aq];simp;omega
       have br:g.Aj k j=aW d:=by unfold G.Aj;rw[List.getD_eq_getElem?_getD,aq];rfl
       have cT:=hid (λw' h'=>MG w' p g v k d (tt:Nat) h' cx c2 b9);have Ht:=hid bq;have cj:=hid br;have hp:=be.out.lt;have HB:=Below.refl wr.heap.size wr;have cl:=cell_regrown ax;have cm:=cell_regrown ac;have cn:=cell_regrown ag;clear hA1 O cv b9 bq ca bp aq br;go_upto_region 14 with(fail);refine wp_region_quiet_below (by kernel_rfl) (by kernel_rfl) ?_;repeat (first|go_big_quiet_step ((with_reducible exact Calls.regrown_of (cT.out _ (be.out.below (HB.trans ((below_regrown wr _ _).mono HB.size)) hp))))|quiet_step ((with_reducible exact Calls.regrown_of (cT.out _ (be.out.below (HB.trans ((below_regrown wr _ _).mono HB.size)) hp)))))
       refine wpQuiet_nil ?_;intro _ db;obtain⟨⟨dq,osq⟩,cD⟩:=db;have Z:=aa HB (below_regrown wr dq osq);have co:=below_regrown wr dq osq;subst cD;generalize grow (redrawn wr dq) osq=w8 at Z co⊢;have d5:=Z.size;have ao:=ae Z I;have ap:=ae Z J;have am:=aQ Z (by simp only;omega) B;have an:=aQ Z (by simp only;omega) F;have ay:=hid (bt.out.trans (Kept.of_below Z));have ax:=ae Z ax;clear cl cm cn ac ag I J B F L M T U bt b1 be co Z cT;cases t with
       |false=>
        have cy:o≠some j:=λe=>by have:=Ht.out.2 e;cases this
        obtain⟨a7,a8⟩:=NM (g:=g) (k:=k) (c:=⟨cs,cd⟩) cy;have hJ:J4 w7 b6 (Dl g k ⟨cs,cd⟩ o (j+1)) w8:=by rw[a7,Hx.out];exact⟨ao,ap,am,an,ay.out⟩
        have hJ:=hid hJ;have hf:=hid (a8.trans bv.out);clear cy a7 a8 ao ap am an;go_wp2;go_roundw
        case rel=>first|exact⟨j+1,by omega,by rw[hf.out],by go_num,hJ.out⟩|((repeat apply Exists.intro);exact⟨⟨j+1,by omega,by rw[hf.out],by go_num,hJ.out⟩,rfl⟩)
        case measure=>simp[intOf];omega
       |true=>
        obtain⟨a7,a8,cE⟩:=QV (g:=g) (k:=k) (c:=⟨cs,cd⟩) (Ht.out.1 rfl);have a6:=Hx.out;rw[cE]at a6;injection a6 with dc dd
        subst dc;subst dd;obtain⟨es,ed,cC,d1,cB,c8,c9⟩:=pE d;have cP:=hid (λw=>Gw cs cd es ed w (by unfold aV;omega) (by unfold aV;omega) (by unfold aV;omega) (by unfold aV;omega));have dk:IntKind.i64.wrap (1-ed)=es:=by rw[<-cB];exact IntWalk.i64_in _ (by omega)
        have R:Dl g k ⟨cs,cd⟩ o (j+1)=⟨cs+es,cd+ed⟩:=by rw[a7,cj.out,cC];rfl
        have R:=hid R;have hf:=hid a8;have d0:(0:Int)<=(d:Int):=by omega
        have d9:(0:Int)<=(j:Int):=by omega
        have ea:(j:Int)<(nl:Int):=by omega
        clear a7 a8 cE cC cB c8 c9;go_upto_region 15 with(fail);go_cut [] (λwx=>J4 w7 b6 ⟨cs+es,cd+ed⟩ wx)
        case first=>
         go_region_with (go_at_call 113;refine(cP.out _).mono ?_;rintro e wA ⟨rfl,aE⟩;have ao:=ae aE ao;have ap:=ae aE ap;have am:=aQ aE (by simp only;simp;omega) am;have an:=aQ aE (by simp only;simp;omega) an)
         all_goals
          have cr:Below w8.heap.size w8 wA:=aa (ah (Below.refl w8.heap.size w8)) aE;have S:=hid (J4.Er (x:=cs+es) (y:=cd+ed) ay.out cr ao ap am an);clear ao ap am an aE cr ax bo;go_wp2;go_meet
          case rel=>exact S.out
        case rest=>
         have hJ:J4 w7 b6 (Dl g k ⟨cs,cd⟩ o (j+1)) wc:=by rw[R.out];exact hcut
         have hJ:=hid hJ;clear hcut cP ao ap am an ax bo;go_wp2;go_roundw
         case rel=>first|exact⟨j+1,by omega,by rw[hf.out],by go_num,hJ.out⟩|((repeat apply Exists.intro);exact⟨⟨j+1,by omega,by rw[hf.out],by go_num,hJ.out⟩,rfl⟩)
         case measure=>simp[intOf];omega
      .obtain rfl:j=nl:=by omega
       have ay:=bt.out;cases o with
       |none=>
        have cX:fb=false:=by rw[<-bv.out];rfl
        subst cX;have al:=hid (G.mQ (G.yL a3.out ba.out cg.out Hc.out Ho.out) (n:=n) (by have:=ch.out;omega));have cQ:Below w.heap.size w wr:=Kept.below ck.out ay ck.out.size (by simp;omega);clear I J B F ac ag;go_wp2;have e2:=dF (x:=.int .i64 0) (y:=.int .i64 0) L M;refine bodyPost_ret (v:=.tuple #[.agg #[.int .i64 0,.int .i64 0],.int .i64 7]) (by simp[results,Tryz.results63,go_sem,e2]) rfl ?_;exact⟨by rw[al.out];rfl,(cQ.setCell (by simp only;omega) _).setCell (by simp only;omega) _⟩
       |some kk=>
        have cw:kk<j:=by
         obtain⟨d',c1,_,_⟩:=G.gV Ho.out;have h1:=(List.getElem?_eq_some_iff.1 c1).1;have h2:(g.moves k).length=j:=by rw[<-ci.out,iU,List.length_map]
         omega
        have cY:fb=true:=by rw[<-bv.out];simp[Nr,cw]
        subst cY;have a6:C.add ⟨cs,cd⟩ (g.Aj k kk)=⟨xs,xd⟩:=by rw[<-Hx.out];simp[Dl,cw]
        have R:=G.sw a3.out ba.out cg.out Hc.out Ho.out;rw[a6]at R;have S:Np W b6 g f (i+1) wr:=⟨xs,xd,by rw[ch.out];exact R,I,J,B,F,cV.out.trans ay⟩;have S:=hid S;clear I J B F ac ag L M T U a6 R ay;go_wp2;go_roundw
        case rel=>first|exact⟨i+1,by omega,by go_num,S.out⟩|((repeat apply Exists.intro);exact⟨⟨i+1,by omega,by go_num,S.out⟩,rfl⟩)
        case measure=>simp[intOf];omega
   .have al:=G.mQ (G.pG a2.out (by rw[a1.out,bb.out];omega)) (n:=n) (by omega)
    rw[a1.out,bb.out]at al;have al:=hid al;have dy:((0:Int)<(fa:Int)):=by omega
    clear I J B F;go_wp2;have e2:=dF (x:=.int .i64 0) (y:=.int .i64 0) L M;refine bodyPost_ret (v:=.tuple #[.agg #[.int .i64 0,.int .i64 0],.int .i64 (fa:Nat)]) (by simp[results,Tryz.results63,go_sem,e2]) rfl ?_;exact⟨by rw[al.out];rfl,(bw.out.setCell (by simp only;omega) _).setCell (by simp only;omega) _⟩
  .obtain rfl:i=n:=by omega
   rcases Nat.eq_zero_or_pos i with a0|a0
   .subst a0
    go_wp2;have e2:=dF (x:=.int .i64 0) (y:=.int .i64 0) L M;refine bodyPost_ret (v:=.tuple #[.agg #[.int .i64 0,.int .i64 0],.int .i64 7]) (by simp[results,Tryz.results63,go_sem,e2]) rfl ?_;exact⟨rfl,(aw.out.setCell (by simp only;omega) _).setCell (by simp only;omega) _⟩
   .have c5:((i:Int)==0)=false:=by simp;omega
    have al:=hid (G.uA ar a0);clear ar;go_wp2;have e2:=dF (x:=.int .i64 cs) (y:=.int .i64 cd) L M;refine bodyPost_ret (v:=.tuple #[.agg #[.int .i64 cs,.int .i64 cd],.int .i64 0]) (by simp[results,Tryz.results63,go_sem,e2]) rfl ?_;exact⟨by rw[al.out];rfl,(aw.out.setCell (by simp only;omega) _).setCell (by simp only;omega) _⟩
