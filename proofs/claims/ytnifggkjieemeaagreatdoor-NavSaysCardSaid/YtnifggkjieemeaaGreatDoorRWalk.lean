/- Lemmas of this claim: RWalk. -/
import Derived.Test.YtnifggkjieemeaaGreatDoorKNNs11
set_option linter.unusedVariables false
set_option linter.unusedSimpArgs false
set_option maxHeartbeats 3200000
set_option maxRecDepth 100000
open Go.Proofs.Tryz
namespace Go.Proofs.YtnifggkjieemeaaGreatDoor
open Go.Lib (hid)
open Go.RowKit Go.Sort FR
variable {k:Nat}
theorem zw(w:World)(p:Nat)(g:G)(v x:Int)(h:aG w p g v):Calls prog 40 #[vP p,rI x] w λe F=>e=.returned (rI (g.fault x:Nat))/\Below w.heap.size w F:=by
 by_cases B:0<=x/\x<g.n
 .obtain⟨J,O⟩:=B
  obtain⟨c,rfl⟩:=Zj J;have I:c<g.n:=om;have P:=G.bA h.1;have u:=λF(u:Below w.heap.size w F)=>(h.below u h.lt).bit c om;rw[G.bQ I];obtain⟨t,L⟩:=rX (g.b c);rw[L]at u⊢;have u:=hid u;have z:(c:Int)<256:=om;go_enter func40,ntmps40;go_wp2_with fail;(with_reducible refine(uX _ p g v c h I).mono ?_);rintro e M ⟨rfl,m⟩;have k:=u.out _ m;cases t with
  |true=>
   go_wp2;go_ret;exact⟨rfl,m⟩
  |false=>
   go_wp2;go_ret;exact⟨rfl,m⟩
 .rw[G.uE om]
  go_enter func40,ntmps40;go_wp2_with fail;(with_reducible refine(Da _ p g v x h om).mono ?_);rintro e M ⟨rfl,m⟩;go_wp2;go_ret;exact⟨rfl,m⟩
def Vm(x:C×Nat):Value:=.tuple #[.agg #[rI x.1.s,rI x.1.d],rI (x.2:Nat)]
def XM(w:World)(x:C×Nat)(e:Ending)(w':World):Prop:=e=.returned (Vm x)/\Below w.heap.size w w'
def Gz(g:G)(k:Nat)(c:C)(o:Option Nat)(j:Nat):C:=match o with|some kk=>if kk<j then C.add c (g.Gh k kk)else c|none=>c
def Rh(o:Option Nat)(j:Nat):Bool:=match o with|some kk=>decide (kk<j)|none=>false
theorem Jm(g:G)(k:Nat)(c:C)(o:Option Nat):Gz g k c o 0=c/\Rh o 0=false:=by
 unfold Gz Rh;cases o<;>simp
theorem RF{g:G}{k j:Nat}{c:C}{o:Option Nat}(h:o≠some j):Gz g k c o (j+1)=Gz g k c o j/\Rh o (j+1)=Rh o j:=by
 unfold Gz Rh;cases o with
 |none=>simp
 |some kk=>
  have:kk≠j:=λe=>h (by rw[e]);have m:(kk<j+1)=(kk<j):=so;simp only[m,and_self]
theorem Vi{g:G}{k j:Nat}{c:C}{o:Option Nat}(h:o=some j):Gz g k c o (j+1)=C.add c (g.Gh k j)/\Rh o (j+1)=true/\Gz g k c o j=c:=by
 subst h;simp[Gz,Rh]
def Ue(W:World)(b6:Nat)(x:C)(wr:World):Prop:=wr.cell? ⟨b6,0,none⟩=some (rI x.s)/\wr.cell? ⟨b6,1,none⟩=some (rI x.d)/\wr.frozen? ⟨b6,0,none⟩=false/\wr.frozen? ⟨b6,1,none⟩=false/\Kept [b6] W wr
theorem Yf{S:List Nat}{w w':World}{ad:Addr}{v:Value}(h:Kept S w w')(u:ad.block∉S)(g:w.cell? (ad.add k)=some v):w'.cell? (ad.add k)=some v:=by
 have m:=ZF _ _ g;rw[add_block]at m;have e:w'.cell? (ad.add k)=w.cell? (ad.add k):=World.cell?_of_block (by rw[add_block];exact h.block _ m u);rw[e];exact g
theorem Ue.Ip{W L m:World}{g:Nat}{x y:Int}{u v:Value}(F:Kept [g] W L)(M:Below L.heap.size L m)(z:m.cell? ⟨g,0,none⟩=some u)(B:m.cell? ⟨g,1,none⟩=some v)(I:m.frozen? ⟨g,0,none⟩=false)(J:m.frozen? ⟨g,1,none⟩=false):Ue W g ⟨x,y⟩ ((m.setCell ⟨g,0,none⟩ (rI x)).setCell ⟨g,1,none⟩ (rI y)):=by
 have e:=dJ (x:=rI x) (y:=rI y) z B;refine⟨e.1,e.2,by simpa using I,by simpa using J,?_⟩;exact F.trans (((Kept.of_below M).setCell (.inl rS)).setCell (.inl rS))
theorem Xm(w:World)(p:Nat)(g:G)(v:Int)(A:Option Addr)(n m:Nat)(f:Nat->Int)(hG:aG w p g v)(hI:Ints w A n f)(hn:n<=1000000):Calls prog 42 #[vP p,.slice A n m] w (XM w (g.vK f n)):=by
 go_enter func42,ntmps42;go_upto_region 2 with(fail);refine aB ?_;intro W hW;have HW:Below w.heap.size w W:=by rw[hW];exact be
 obtain⟨b4,aa⟩:=rX w.heap.size;have cV:W.heap.size=b4+1+1:=by rw[hW];simp;omega
 have M:W.cell? ⟨b4,0,none⟩=some (rI 0):=by rw[hW,<-aa];go_simp
 have O:W.cell? ⟨b4,1,none⟩=some (rI 0):=by rw[hW,<-aa];go_simp
 have U:W.frozen? ⟨b4,0,none⟩=false:=by rw[hW,<-aa];go_simp
 have Z:W.frozen? ⟨b4,1,none⟩=false:=by rw[hW,<-aa];go_simp
 have ce:W.cell? ⟨b4+1,0,none⟩=some (rI 0):=by rw[hW,<-aa];go_simp
 have cg:W.cell? ⟨b4+1,1,none⟩=some (rI 0):=by rw[hW,<-aa];go_simp
 have F:W.frozen? ⟨b4+1,0,none⟩=false:=by rw[hW,<-aa];go_simp
 have I:W.frozen? ⟨b4+1,1,none⟩=false:=by rw[hW,<-aa];go_simp
 have cR:=hid (hG.below HW hG.lt);have cS:=hid (hI.below HW);have c7:=hG.lt;rw[aa]at c7⊢;obtain⟨b6,c0⟩:=rX (b4+1);rw[c0]at cV ce cg F I⊢;have c6:=hG.1;have dt:=G.bA c6
 have bd:0<n->∀ad,A=some ad->ad.block<b4:=λh0 ad e=>by
  obtain⟨dl,e',a6,_⟩:=hI h0;rw[e']at e;injection e with e;subst e;omega
 have bd:=hid bd;clear hW hG hI;have hstart:Rf W b6 g f 0 W:=⟨0,0,rfl,ce,cg,F,I,Kept.refl _ _⟩;go_wp2_with fail;go_loopw [7] (λkv wr=>∃i:Nat,i<=n/\kv=rI i/\Rf W b6 g f i wr) (λkv _=>n-(intOf kv).toNat)
 case atStart=>exact⟨0,om,rfl,hstart⟩
 case round=>
  obtain⟨i,hi,rfl,cs,cd,aw,J,L,F,I,hK⟩:=hrel;clear hstart ce cg;have M:=aZ hK so M;have O:=aZ hK so O;have U:=uP hK so om U;have Z:=uP hK so om Z;have bh:=hid (cR.out.kept hK so);have bi:=hid (cS.out.iC hK (λh0 ad e=>by have:=bd.out h0 ad e;simp;omega));have ax:Below w.heap.size w wr:=Kept.below HW hK HW.size so;have ax:=hid ax;have HK:=hid hK;have d6:=hK.size;clear hK;by_cases a6:i<n
  .obtain⟨ad,hA⟩:=bi.out.addr om
   have P:=bi.out;rw[hA]at P;have c4:=λwx=>aP (m:=m) hA a6 wx;have hE:=P.cell br a6;have a3:=hid aw;clear hA P aw;obtain⟨fi,b7⟩:=rX (f i);rw[b7]at hE;have cF:=hid (λw' h'=>zw w' p g v fi h');obtain⟨fa,a0⟩:=rX (g.fault fi);rw[a0]at cF;have a2:=hid b7;have bc:=hid a0;clear b7 a0;go_wp2_with fail;(with_reducible refine(cF.out _ bh.out).mono ?_);rintro e w6 ⟨rfl,u⟩;have d1:=u.size;have M:=af u M;have O:=af u O;have U:=bn u (by simp only;omega) U;have Z:=bn u (by simp only;omega) Z;have J:=af u J;have L:=af u L;have F:=bn u (by simp only;omega) F;have I:=bn u (by simp only;omega) I;have bg:=hid (bh.out.below u bh.out.lt);have b1:=hid (bi.out.below u);have bx:=hid (ae ax.out u);have b3:=hid (HK.out.trans (Kept.of_below u));have hE:=af u hE;clear cF u bh bi ax HK;rcases Nat.eq_zero_or_pos fa with a0|a0
   .subst a0
    obtain⟨c,hc,dv,du⟩:=G.iP bc.out;subst hc;have ba:g.fault (f i)=0:=by rw[a2.out];exact bc.out
    have ba:=hid ba;rcases Nat.eq_zero_or_pos i with a1|a1
    .subst a1
     have hz:cs=0/\cd=0:=by
      have h:=a3.out;unfold G.gL at h;injection h with h
      unfold C.zero at h;injection h with h1 h2
      exact⟨h1.symm,h2.symm⟩
     obtain⟨rfl,rfl⟩:=hz;have T:Rf W b6 g f 1 w6:=⟨0,0,G.rE ba.out,J,L,F,I,b3.out⟩;have T:=hid T;clear J L F I M O U Z;go_wp2;go_roundw
     case rel=>exact⟨1,om,by go_num,T.out⟩
     case measure=>exact rM
    .obtain⟨i',a5⟩:∃i',i=i'+1:=⟨i-1,om⟩
     have bm:i'<n:=om;have c5:((i:Int)==0)=false:=so;have Q:=a3.out;rw[a5]at Q;obtain⟨k,b8,cx,dy⟩:=G.KH Q;have cq:=G.Dm Q;simp only at cq;obtain⟨dp,dq,dr,ds⟩:=cq;have a4:=hid Q;have bb:g.fault (f (i'+1))=0:=by rw[<-a5];exact ba.out
     have bb:=hid bb;have Hc:f (i'+1)=(c:Nat):=by rw[<-a5];exact a2.out
     have Hc:=hid Hc;obtain⟨ad,hA⟩:=b1.out.addr om;have P:=b1.out;rw[hA]at P;have de:=λwx=>aP (m:=m) hA bm wx;have ac:=P.cell br bm;have cp:=P.WO om;have hA6:ad.block<b4:=bd.out om ad hA;rw[b8]at ac
     have d7:IntKind.i64.wrap ((i:Int)-1)=(i':Int):=by
      rw[show(i:Int)-1=(i':Int)by omega];exact IntWalk.i64_in _ om
     have ag:=P.cell br a6;rw[a2.out]at ag;have dg:=λwx=>aP (m:=m) hA a6 wx;have ci:=hid a5;have ch:=hid b8;clear hA P Q b8 a5 hE c4;go_wp2_with fail;(with_reducible refine(Kr _ p g v k bg.out cx).mono ?_);rintro e w7 ⟨A1,m1,rfl,b0,bj,B⟩;have d3:=B.size;have cJ:=hid (af B M);have cL:=hid (af B O);have cM:=hid (bn B (by simp only;omega) U);have cN:=hid (bn B (by simp only;omega) Z);have J:=af B J;have L:=af B L;have F:=bn B (by simp only;omega) F;have I:=bn B (by simp only;omega) I;have cQ:=hid (bg.out.below B bg.out.lt);have cl:=hid (ae bx.out B);have cU:=hid (b3.out.trans (Kept.of_below B));have cE:=hid (af B ac);have cG:=hid (af B ag);obtain⟨nl,bk⟩:=rX ((gI g k).length);rw[bk]at b0⊢;have dj:nl<=8:=by rw[<-bk];exact iG _ _
     have bj:0<nl->∀ad,A1=some ad->ad.block∉[b6]:=λ_ ad e=>by have:=bj ad e;simp;omega
     have cI:=hid bj;have cH:=hid b0;have cj:=hid bk;obtain⟨o,ho⟩:=rX (g.qd k c);have Ho:=hid ho;have bl:ad.block≠b6:=om;have cA:p≠b6:=om;clear ac ag M O U Z bg b1 bx b3 B b0 bj bk ho cp;have ai:Ue w7 b6 (Gz g k ⟨cs,cd⟩ o 0) w7:=by rw[(Jm g k ⟨cs,cd⟩ o).1];exact⟨J,L,F,I,Kept.refl _ _⟩
     have ct:=(Jm g k ⟨cs,cd⟩ o).2;clear J L F I;go_wp2_with fail;obtain⟨wo,rfl⟩:∃wo:World,wo=wr:=⟨_,rfl⟩
     go_loopw [10,11] (λfv kv wr=>∃j:Nat,j<=nl/\fv=.bool (Rh o j)/\kv=rI j/\Ue w7 b6 (Gz g k ⟨cs,cd⟩ o j) wr) (λ_ kv _=>nl-(intOf kv).toNat)
     case atStart=>exact⟨0,om,by rw[ct],rfl,ai⟩
     case round=>
      obtain⟨j,hj,rfl,rfl,hJ⟩:=hrel;clear ai ct;obtain⟨J,L,F,I,R⟩:=hJ;have ac:=Yf R (by simpa using bl) cE.out;have ag:=Yf R (by simpa using bl) cG.out;have M:=aZ R so cJ.out;have O:=aZ R so cL.out;have U:=uP R so om cM.out;have Z:=uP R so om cN.out;have bz:=hid (cQ.out.kept R (by simpa using cA));have b2:=hid (cH.out.iC R cI.out);have d5:=R.size;have bv:=hid R;obtain⟨⟨xs,xd⟩,hx⟩:∃x,Gz g k ⟨cs,cd⟩ o j=x:=⟨_,rfl⟩;obtain⟨fb,b5⟩:=rX (Rh o j);rw[hx]at J L;rw[b5]at⊢;simp only at J L;have Hx:=hid hx;have bw:=hid b5;clear R hx b5;by_cases b9:j<nl
      .obtain⟨dn,hA1⟩:=b2.out.addr om
       have P:=b2.out;rw[hA1]at P;have bo:=λwx=>aP (m:=m1) hA1 b9 wx;have ay:=P.cell br b9;obtain⟨d,c2,bp,cv,ar⟩:=sU (g:=g) (k:=k) (j:=j) (by rw[cj.out];exact b9);rw[cv]at ay;obtain⟨ca,da⟩:=to_eq bp;obtain⟨tt,cb⟩:=rX (g.to k d);rw[cb]at ca da;obtain⟨t,ht⟩:∃t,((tt:Int)==(c:Int))=t:=⟨_,rfl⟩
       have bq:t=true↔o=some j:=by
        have e1:t=true↔g.to k d=c:=by rw[<-ht,cb];simp;omega
        rw[e1,<-Ho.out];cases hw:g.qd k c with
        |none=>simp;exact G.vJ hw j d ar
        |some i2=>
         obtain⟨d2,z1,z2,z3⟩:=G.jB hw;rw[z3 j d ar];simp;omega
       have bt:g.Gh k j=bu d:=by unfold G.Gh;rw[Zk,ar];rfl
       have cT:=hid (λw' h'=>IE w' p g v k d (tt:Nat) h' cx c2 ca);have Ht:=hid bq;have ck:=hid bt;have hp:=bz.out.lt;have HB:=Below.refl wr.heap.size wr;have cm:=ZE ay;have cn:=ZE ac;have co:=ZE ag;clear hA1 P cv ca bq cb bp ar bt;go_upto_region 14 with(fail);refine qb HB (λx(z:Below wr.heap.size wr x)=>cT.out x (bz.out.below (HB.trans (z.mono HB.size)) hp)) λw8 ab cY=>?_;have d4:=ab.size;have ap:=af ab J;have aq:=af ab L;have am:=bn ab (by simp only;omega) F;have ao:=bn ab (by simp only;omega) I;have aE:=hid (bv.out.trans (Kept.of_below ab));have ay:=af ab ay;clear cm cn co ac ag J L F I M O U Z bv b2 bz cY ab cT;cases t with
       |false=>
        have cy:o≠some j:=λe=>by have:=Ht.out.2 e;cases this
        obtain⟨a8,a9⟩:=RF (g:=g) (k:=k) (c:=⟨cs,cd⟩) cy;have hJ:Ue w7 b6 (Gz g k ⟨cs,cd⟩ o (j+1)) w8:=by rw[a8,Hx.out];exact⟨ap,aq,am,ao,aE.out⟩
        have hJ:=hid hJ;have hf:=hid (a9.trans bw.out);clear cy a8 a9 ap aq am ao;go_wp2;go_roundw
        case rel=>refine rR ?_;exact⟨j+1,om,by rw[hf.out],by go_num,hJ.out⟩
        case measure=>exact rM
       |true=>
        obtain⟨a8,a9,cD⟩:=Vi (g:=g) (k:=k) (c:=⟨cs,cd⟩) (Ht.out.1 rfl);have a7:=Hx.out;rw[cD]at a7;injection a7 with db dd
        subst db;subst dd;obtain⟨es,ed,cC,dT,cB,c8,c9⟩:=rz d;have cP:=hid (λw=>tK cs cd es ed w (by unfold aT;omega) (by unfold aT;omega) (by unfold aT;omega) (by unfold aT;omega));have dk:IntKind.i64.wrap (1-ed)=es:=by rw[<-cB];exact IntWalk.i64_in _ om
        have S:Gz g k ⟨cs,cd⟩ o (j+1)=⟨cs+es,cd+ed⟩:=by rw[a8,ck.out,cC];rfl
        have S:=hid S;have hf:=hid a9;have d0:(0:Int)<=(d:Int):=om;have d8:(0:Int)<=(j:Int):=om;have d9:(j:Int)<(nl:Int):=om;clear a8 a9 cD cC cB c8 c9;go_upto_region 15 with(fail);go_cut [] (λwx=>Ue w7 b6 ⟨cs+es,cd+ed⟩ wx)
        case first=>
         go_region_with (go_at_call 85;refine(cP.out _).mono ?_;rintro e wA ⟨rfl,aS⟩;have ap:=af aS ap;have aq:=af aS aq;have am:=bn aS (by simp only;simp;omega) am;have ao:=bn aS (by simp only;simp;omega) ao)
         all_goals
          have cr:Below w8.heap.size w8 wA:=ae (aj (Below.refl w8.heap.size w8)) aS;have T:=hid (Ue.Ip (x:=cs+es) (y:=cd+ed) aE.out cr ap aq am ao);clear ap aq am ao aS cr ay bo;go_wp2;go_meet
          case rel=>exact T.out
        case rest=>
         have hJ:Ue w7 b6 (Gz g k ⟨cs,cd⟩ o (j+1)) wc:=by rw[S.out];exact hcut
         have hJ:=hid hJ;clear hcut cP ap aq am ao ay bo;go_wp2;go_roundw
         case rel=>refine rR ?_;exact⟨j+1,om,by rw[hf.out],by go_num,hJ.out⟩
         case measure=>exact rM
      .obtain rfl:j=nl:=om
       have aE:=bv.out;cases o with
       |none=>
        have cW:fb=false:=by rw[<-bw.out];rfl
        subst cW;have al:=hid (G.o7 (G.BJ a4.out bb.out ch.out Hc.out Ho.out) (n:=n) (by have:=ci.out;omega));have cO:Below w.heap.size w wr:=Kept.below cl.out aE cl.out.size so;clear J L F I ac ag;go_wp2;have e2:=dJ (x:=rI 0) (y:=rI 0) M O;refine bodyPost_ret (v:=.tuple #[.agg #[rI 0,rI 0],rI 7]) (by simp[results,results42,go_sem,e2]) rfl ?_;exact⟨by rw[al.out];rfl,(cO.setCell (by simp only;omega) _).setCell (by simp only;omega) _⟩
       |some kk=>
        have cw:kk<j:=by
         obtain⟨d',c1,_,_⟩:=G.jB Ho.out;have h1:=(Zb.1 c1).1;have h2:(g.moves k).length=j:=by rw[<-cj.out,jA,Zr]
         omega
        have cX:fb=true:=by rw[<-bw.out];simp[Rh,cw]
        subst cX;have a7:C.add ⟨cs,cd⟩ (g.Gh k kk)=⟨xs,xd⟩:=by rw[<-Hx.out];simp[Gz,cw]
        have S:=G.vQ a4.out bb.out ch.out Hc.out Ho.out;rw[a7]at S;have T:Rf W b6 g f (i+1) wr:=⟨xs,xd,by rw[ci.out];exact S,J,L,F,I,cU.out.trans aE⟩;have T:=hid T;clear J L F I ac ag M O U Z a7 S aE;go_wp2;go_roundw
        case rel=>refine rR ?_;exact⟨i+1,om,by go_num,T.out⟩
        case measure=>exact rM
   .have al:=G.o7 (G.rC a3.out (by rw[a2.out,bc.out];omega)) (n:=n) om
    rw[a2.out,bc.out]at al;have al:=hid al;have dx:((0:Int)<(fa:Int)):=om;clear J L F I;go_wp2;have e2:=dJ (x:=rI 0) (y:=rI 0) M O;refine bodyPost_ret (v:=.tuple #[.agg #[rI 0,rI 0],rI (fa:Nat)]) (by simp[results,results42,go_sem,e2]) rfl ?_;exact⟨by rw[al.out];rfl,(bx.out.setCell (by simp only;omega) _).setCell (by simp only;omega) _⟩
  .obtain rfl:i=n:=om
   rcases Nat.eq_zero_or_pos i with a1|a1
   .subst a1
    go_wp2;have e2:=dJ (x:=rI 0) (y:=rI 0) M O;refine bodyPost_ret (v:=.tuple #[.agg #[rI 0,rI 0],rI 7]) (by simp[results,results42,go_sem,e2]) rfl ?_;exact⟨rfl,(ax.out.setCell (by simp only;omega) _).setCell (by simp only;omega) _⟩
   .have c5:((i:Int)==0)=false:=so
    have al:=hid (G.Dl aw a1);clear aw;go_wp2;have e2:=dJ (x:=rI cs) (y:=rI cd) M O;refine bodyPost_ret (v:=.tuple #[.agg #[rI cs,rI cd],rI 0]) (by simp[results,results42,go_sem,e2]) rfl ?_;exact⟨by rw[al.out];rfl,(ax.out.setCell (by simp only;omega) _).setCell (by simp only;omega) _⟩
