/- Lemmas of this claim: RRay4, RRay5. -/
import Derived.Test.YtnifggkjieemeaaGreatDoorKNNs21
import Derived.Test.YtnifggkjieemeaaGreatDoorKNNs17
set_option linter.unusedVariables false
set_option linter.unusedSimpArgs false
set_option maxHeartbeats 6400000
set_option maxRecDepth 100000
namespace Go.Proofs.YtnifggkjieemeaaGreatDoor
open Go.Lib (hid)
open Go.RowKit Go.Sort FR
def NK(g:G)(ca cb:Nat)(c1 c2:Nat->C)(i1 i2:Nat->Bool)(i:Nat):Prop:=∀j,j<i->∀k:Nat,(aA g).getD j 0=(k:Int)->¬NI g ca cb c1 c2 i1 i2 k
theorem Fv(w:World)(p:Nat)(g:G)(v:Int)(ca cb:Nat)(R c2:Nat->C)(i1 i2:Nat->Bool)(Z1 Z2:Array Value)(A:Option Addr)(n m:Nat)(t:Bool)(h:aG w p g v)(bv:ca<g.n)(bw:cb<g.n)(cd:dX ca R i1=Z1)(ce:dX cb c2 i2=Z2)(h1:ik g ca R i1)(h2:ik g cb c2 i2)(hI:Ints w A n (λk=>(aA g).getD k 0))(hn:(aA g).length=n)(ht:t=true↔g.aK ca cb):Calls Tryz.prog 159 #[vP p,.agg Z1,.agg Z2,.slice A n m] w (Rt w (.bool t)):=by
 have cn:=G.bA h.1;have b7:=h.1;have cr:n<=256:=by rw[<-hn];exact Zg (iG _ _) cn
 obtain⟨⟨os,od⟩,bb⟩:=rX (g.cZ ca cb);have cO:=hid (λw' h'=>Xk w' p g v ca cb ⟨os,od⟩ h' bv bw bb);have ai:=y9 (cb:=cb) h1
 have ab:g.aK ca cb↔g.dL ca cb/\∀k,g.av k->¬NI g ca cb R c2 i1 i2 k:=by
  unfold G.aK;refine and_congr_right λ_=>forall_congr' λk=>imp_congr_right λhk=>?_;rw[PU h1 h2];constructor
  .rintro q ⟨a1,a2,a3⟩;exact q a1 a2 a3
  .intro q a1 a2 a3;exact q ⟨a1,a2,a3⟩
 rw[ab,ai]at ht;have cj:=hid cd;have ck:=hid ce;have H1:=hid h1;have H2:=hid h2;have Hn:=hid hn;have Ht:=hid ht;have ao:=hid bb;have HI:=hid hI;have HR:=hid h;have cs:=h.lt;have bl:=hid b7;clear cd ce h1 h2 hn ht bb hI h ai ab b7;go_enter Tryz.func159,Tryz.ntmps159;go_upto_region 1 with(fail);refine aB ?_;intro W hW;have HW:Below w.heap.size w W:=by rw[hW];exact be
 have hA:W.heap[w.heap.size]? =some (.cells Z1 198 (0,0)):=by rw[hW];exact alloc_old _ _ rS (alloc_at _ _ rfl)
 have hB:W.heap[w.heap.size+1]? =some (.cells Z2 198 (0,0)):=by rw[hW];exact alloc_at _ _ rS
 obtain⟨b5,bp⟩:=rX w.heap.size;rw[bp]at hA hB⊢;obtain⟨b6,bq⟩:=rX (b5+1);rw[bq]at hB⊢;have cA:=hid (λw' hb=>zA (w':=w') hA cj.out hb);have cB:=hid (λw' hb=>zA (w':=w') hB ck.out hb);clear hW hA hB bp bq;have a0:=(cA.out W br).1;have a1:=(cB.out W br).1;go_wp2_with fail;(with_reducible refine(cO.out _ (HR.out.below HW cs)).mono ?_);rintro e w2 ⟨rfl,u⟩;go_upto_region 2 with(fail);refine aB ?_;intro W2 aq;have bj:Below w2.heap.size w2 W2:=by rw[aq];exact be
 have o0:W2.cell? ⟨w2.heap.size,0,none⟩=some (rI os):=by rw[aq];go_simp
 have o1:W2.cell? ⟨w2.heap.size,1,none⟩=some (rI od):=by rw[aq];go_simp
 obtain⟨b9,bt⟩:=rX w2.heap.size;rw[bt]at o0 o1⊢;have al:=ae u bj;clear aq bt u bj a0 a1 cO;obtain⟨a0,ac⟩:=cA.out W2 al;obtain⟨b0,_⟩:=cB.out W2 al;obtain⟨x1,x2,x3⟩:=ac cb om;have q0:(0:Int)<=(cb:Int):=om;have q1:(cb:Int)<256:=om;have a9:=ZE a0;have ba:=ZE b0;have ax:=ZE x1;have ay:=ZE x2;have bh:=ZE o0;have bi:=ZE o1;obtain⟨⟨xs,xd⟩,aw⟩:=rX (R cb);rw[aw]at x1 x2 ax ay;simp only at x1 x2 ax ay;have bo:=hid aw;obtain⟨ti,ar⟩:=rX (i1 cb);rw[ar]at x3;have aE:=ZE x3;have bm:=hid ar;obtain⟨tn,bg⟩:=Uk (g.dL ca cb);rw[y9 H1.out,ar,aw,ao.out]at bg;have U:=hid bg;obtain⟨nt,b4⟩:=rX ((!tn));have S:=hid b4;clear ac aw ar bg b4;have Q:=Below.refl W2.heap.size W2;go_cut [32] (λs wx=>s=.bool nt/\Below W2.heap.size W2 wx)
 case first=>
  cases ti with
  |false=>
   have e:tn=false:=iA U.out rS;have M:nt=true:=by rw[<-S.out,e];rfl
   clear e;subst M;refine qb Q trivial λw3 F u=>?_;go_wp2;go_meet
   case rel=>exact⟨rfl,F⟩
  |true=>
   by_cases L:xs=os
   .by_cases M:xd=od
    .have e:tn=true:=U.out.2 ⟨rfl,by rw[L,M]⟩
     have e3:nt=false:=by rw[<-S.out,e];rfl
     clear e;subst e3;subst L;subst M;refine qb Q trivial λw3 F u=>?_;go_wp2;go_meet
     case rel=>exact⟨rfl,F⟩
    .have e:tn=false:=iA U.out (by rintro⟨_,e⟩;injection e with _ e;exact M e)
     have e3:nt=true:=by rw[<-S.out,e];rfl
     have cm:(xd==od)=false:=by rw[Zq];exact M
     clear e M;subst e3;subst L;refine qb Q trivial λw3 F u=>?_;go_wp2;go_meet
     case rel=>exact⟨rfl,F⟩
   .have e:tn=false:=iA U.out (by rintro⟨_,e⟩;injection e with e _;exact L e)
    have e3:nt=true:=by rw[<-S.out,e];rfl
    have cl:(xs==os)=false:=by rw[Zq];exact L
    clear e L;subst e3;refine qb Q trivial λw3 F u=>?_;go_wp2;go_meet
    case rel=>exact⟨rfl,F⟩
 case rest=>
 obtain⟨rfl,J⟩:=hcut;obtain⟨w3,b8⟩:∃z:World,wc=z:=⟨_,rfl⟩;rw[b8]at J⊢;have o0:=af J o0;have o1:=af J o1;have am:=ae al J;clear b8 J al a0 b0 x1 x2 x3 a9 ba ax ay aE bh bi Q;cases nt with
 |true=>
  have e:tn=false:=by have:=S.out;cases tn<;>simp_all
  have et:t=false:=iA Ht.out (by
   rintro⟨h,_⟩;rw[bm.out,bo.out,ao.out]at h;have:=U.out.2 h;rw[e]at this;cases this)
  clear e;subst et;go_wp2;go_ret;exact⟨rfl,ae HW am⟩
 |false=>
  have e:tn=true:=by have:=S.out;cases tn<;>simp_all
  have b3:i1 cb=true/\R cb=g.cZ ca cb:=by rw[bm.out,bo.out,ao.out];exact U.out.1 e
  have ci:=hid b3;have hstart:NK g ca cb R c2 i1 i2 0:=λj hj=>om;have HI:=hid (HI.out.below (ae HW am));clear e b3;go_wp2_with fail;go_loopw [10] (λkv wr=>∃i:Nat,i<=n/\kv=rI i/\NK g ca cb R c2 i1 i2 i/\Below w3.heap.size w3 wr) (λkv _=>n-(intOf kv).toNat)
  case atStart=>exact⟨0,om,rfl,hstart,br⟩
  case round=>
   obtain⟨i,hi,rfl,b2,aa⟩:=hrel;have bk:=hid b2;clear b2 hstart;have a7:=ae am aa;by_cases b1:i<n
   .have ap:=HI.out.below aa
    obtain⟨ad,hA⟩:=ap.addr om;rw[hA]at ap;have cp:=λwx=>aP (m:=m) hA b1 wx;have hE:=ap.cell br b1;obtain⟨d,ab,co,bx⟩:=F8 (p:=aQ g) (n:=g.n) (k:=i) (by have:=Hn.out;unfold aA at this;omega);have ag:(aA g).getD i 0=(d:Int):=ab;rw[ag]at hE;have cg:=hid ag;have bz:=(fU co).1 bx;have ch:=hid bz;have d0:(0:Int)<=(d:Int):=om;have d1:(d:Int)<256:=om;have i0:(0:Int)<=(i:Int):=om;have cw:(i:Int)<(n:Int):=om;obtain⟨a0,ac⟩:=cA.out wr a7;obtain⟨b0,bc⟩:=cB.out wr a7;obtain⟨x1,x2,x3⟩:=ac d om;obtain⟨y1,y2,y3⟩:=bc d om;have o0:=af aa o0;have o1:=af aa o1;obtain⟨r,hr⟩:=Uk (NI g ca cb R c2 i1 i2 d);have T:=hid hr;have P:i1 d=true->0<=(R d).s/\(R d).s<=512/\0<=(R d).d/\(R d).d<=512:=λh=>G.qO bl.out bv ((H1.out d).1 h).1;have B:i2 d=true->0<=(c2 d).s/\(c2 d).s<=512/\0<=(c2 d).d/\(c2 d).d<=512:=λh=>G.qO bl.out bw ((H2.out d).1 h).1;clear ap hA ab ag bx bz ac bc hr;go_upto_region 8 with(fail)
    clear hE cp;have a9:=ZE a0;have ba:=ZE b0;have bh:=ZE o0;have bi:=ZE o1;have Q:=Below.refl wr.heap.size wr;go_cut [77] (λs wx=>s=.bool r/\Below wr.heap.size wr wx)
    case first=>
     unfold NI at T;by_cases L:d=ca
     .have Z:r=false:=iA T.out (λh=>h.1 L)
      subst Z;subst L;clear T x1 x2 x3 y1 y2 y3 P B;refine qb Q trivial λw4 F u=>?_;go_wp2;go_meet
      case rel=>exact⟨rfl,F⟩
     have cl:((d:Int)!= (ca:Int))=true:=by rw[bne_iff_ne];omega
     by_cases M:d=cb
     .have Z:r=false:=iA T.out (λh=>h.2.1 M)
      subst Z;subst M;clear T x1 x2 x3 y1 y2 y3 P B L;refine qb Q trivial λw4 F u=>?_;go_wp2;go_meet
      case rel=>exact⟨rfl,F⟩
     have cm:((d:Int)!= (cb:Int))=true:=by rw[bne_iff_ne];omega
     cases I:i1 d with
     |false=>
      have Z:r=false:=iA T.out (λh=>by have:=h.2.2.1;rw[I]at this;cases this);rw[I]at x3;have aE:=ZE x3;subst Z;clear T x1 x2 y1 y2 y3 P B L M I;refine qb Q trivial λw4 F u=>?_;go_wp2;go_meet
      case rel=>exact⟨rfl,F⟩
     |true=>
      cases O:i2 d with
      |false=>
       have Z:r=false:=iA T.out (λh=>by have:=h.2.2.2.1;rw[O]at this;cases this);rw[I]at x3;rw[O]at y3;have aE:=ZE x3;have ct:=ZE y3;subst Z;clear T x1 x2 y1 y2 P B L M I O;refine qb Q trivial λw4 F u=>?_;go_wp2;go_meet
       case rel=>exact⟨rfl,F⟩
      |true=>
       have s1:=P I;have s2:=B O;obtain⟨⟨us,ud⟩,hu⟩:=rX (R d);obtain⟨⟨vs,vd⟩,hv⟩:=rX (c2 d);have bd:=T.out;rw[I,O,hu,hv,ao.out]at bd;rw[I]at x3;rw[O]at y3;rw[hu]at s1 x1 x2;rw[hv]at s2 y1 y2;simp only at s1 s2 x1 x2 y1 y2;obtain⟨cC,cD,cE,cF⟩:=s1;obtain⟨cG,cH,cI,cJ⟩:=s2;have cP:=hid (λw=>tK us ud vs vd w (by unfold aT;omega) (by unfold aT;omega) (by unfold aT;omega) (by unfold aT;omega));have ax:=ZE x1;have ay:=ZE x2;have aE:=ZE x3;have cL:=ZE y1;have cM:=ZE y2;have ct:=ZE y3;have a8:=hid bd;clear T bd P B I O hu hv;by_cases q1:us+vs=os
       .by_cases q2:ud+vd=od
        .have Z:r=true:=a8.out.2 ⟨L,M,rfl,rfl,by simp only[C.add];rw[q1,q2]⟩
         subst Z;subst q1;subst q2;clear L M;refine qb Q cP.out λw4 F u=>?_;go_wp2;go_meet
         case rel=>exact⟨rfl,F⟩
        .have Z:r=false:=iA a8.out (λh=>by have:=h.2.2.2.2;simp only[C.add]at this;injection this with _ h;exact q2 h)
         have cy:(ud+vd==od)=false:=by rw[Zq];exact q2
         subst Z;subst q1;clear L M q2;refine qb Q cP.out λw4 F u=>?_;go_wp2;go_meet
         case rel=>exact⟨rfl,F⟩
       .have Z:r=false:=iA a8.out (λh=>by have:=h.2.2.2.2;simp only[C.add]at this;injection this with h _;exact q1 h)
        have cx:(us+vs==os)=false:=by rw[Zq];exact q1
        subst Z;clear L M q1;refine qb Q cP.out λw4 F u=>?_;go_wp2;go_meet
        case rel=>exact⟨rfl,F⟩
    case rest=>
    obtain⟨rfl,J⟩:=hcut;have a5:=ae aa J;clear a0 b0 x1 x2 x3 y1 y2 y3 a9 ba bh bi Q P B J;cases r with
    |true=>
     have et:t=false:=iA Ht.out (λh=>h.2 d ch.out (T.out.1 (by trivial)));have a6:=ae HW (ae am a5);subst et;go_wp2;go_ret;exact⟨rfl,a6⟩
    |false=>
     have a4:NK g ca cb R c2 i1 i2 (i+1):=λj hj k hk=>by
      by_cases e:j=i
      .subst e
       have:k=d:=by have:=cg.out;omega
       subst this;intro h;have:=T.out.2 h;simp at this
      .exact bk.out j om k hk
     have aS:=hid a4;clear a4;go_wp2;go_roundw
     case rel=>refine rR ?_;exact⟨i+1,om,by go_num,aS.out,a5⟩
     case measure=>exact rM
   .obtain rfl:i=n:=om
    have et:t=true:=Ht.out.2 ⟨ci.out,λk hk=>by
     obtain⟨j,cv,cq⟩:=F9 (p:=aQ g) hk.1 ((fU hk.1).2 hk);exact bk.out j (by have:=Hn.out;unfold aA at this;omega) k cq⟩
    have a6:=ae HW a7;subst et;go_wp2;go_ret;exact⟨rfl,a6⟩
theorem dE{w w':World}{b o:Nat}{cs:List Value}(h:w.rangeAt b o cs)(g:Below w.heap.size w w'):w'.rangeAt b o cs:=λj v k=>af g (h j v k)
theorem Bp{w:World}{b:Nat}{Z:Array Value}{T:TypeId}(h:w.heap[b]? =some (.cells Z T (0,0))):w.rangeAt b 0 Z.toList:=λj v g=>by
 rw[ZB]at g;simp[World.cell?,h,g]
