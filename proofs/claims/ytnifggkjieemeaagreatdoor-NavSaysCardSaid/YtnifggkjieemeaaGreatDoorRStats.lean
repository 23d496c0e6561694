/- Lemmas of this claim: RLvA, RStats. -/
import Derived.Test.YtnifggkjieemeaaGreatDoorRLv9
import Derived.Test.YtnifggkjieemeaaGreatDoorNavS0
set_option linter.unusedVariables false
set_option linter.unusedSimpArgs false
set_option maxHeartbeats 12800000
set_option maxRecDepth 100000
open Go.Proofs.Tryz
namespace Go.Proofs.YtnifggkjieemeaaGreatDoor
open Go.Lib (hid)
open Go.RowKit Go.Sort FR Go.Lib
theorem VR(w:World)(b ml me nl:Nat)(S:List Nat)(top:Int)(V:Int->Option Value)(E:Int->Option (List Ed))(N:Nat)(h:oo w b ml me S top V nl E)(hl:∀z L,E z=some L->L.length<=256)(hb:∀z,E z≠none->∃n:Nat,z=n/\n<N)(hN:N<=256):Calls prog 59 #[vP b] w (Rt w (rI (bC (iU E) N:Nat))):=by
 obtain⟨g1,_,⟨W3,n3,q1,q2,q3,_,_,_,_⟩,_⟩:=h;have a8:w.cell? ⟨b,1,none⟩=some (.map (some me)):=by simp[World.cell?,g1]
 have bb:=q1.lt;have H1:=hid q1;have H2:=hid q2;have H3:=hid q3;have Hl:=hid hl;have Hb:=hid hb;obtain⟨D,hD⟩:=rX (bC (iU E) N);rw[hD];have HD:=hid hD;clear g1 q2 q3 hl hb hD;go_enter func59,ntmps59;go_wp2_with (at_range;refine dY rfl _ rfl kY underlying124 q1 rfl ?_;intro w1 g ao a6);go_frame;obtain⟨r,hr⟩:=rX w.heap.size
 rw[hr]at g⊢;have hstart:∃left P,aO iK w1 me r W3 left P/\0=doneN left (iU E) N/\Below w.heap.size w w1:=⟨_,_,g,(wF λk hk=>x8 ((H2.out _).2 (Zu λh=>hk h))).symm,ao⟩;have bg:w.heap.size<=r:=om;clear g ao a6 q1 hr;go_loopw [3] (λlv wr=>∃T:Nat,lv=rI T/\∃left P,aO iK wr me r W3 left P/\T=doneN left (iU E) N/\Below w.heap.size w wr) (λ_ wr=>wr.rangeLeft me r)
 case atStart=>exact⟨0,rfl,hstart⟩
 case round=>
  obtain⟨T,rfl,left,P,g,hT,hB⟩:=hrel;clear hstart;have hleft:=hid g.left_eq;have HT:=hid hT
  have bc:T<=100000:=by
   have h1:=Ej (left:=left) (N:=N) (K:=256) (λk=>N7 Hl.out k);have h2:N*256<=256*256:=Nat.mul_le_mul_right _ hN;omega
  clear hT;go_wp2_with (at_next;refine fD rfl _ rfl kY g rfl ?_ ?_)
  .intro h0 hl
   have aE:T=D:=by rw[HT.out,Az hl,HD.out]
   subst aE;have HB:=hid hB;clear hl g HT hB;go_wp2;go_ret;exact⟨rfl,HB.out⟩
  .intro k u w4 a9 hk ap Z U al a7 aa
   obtain⟨L,hL⟩:∃L,E k=some L:=by
    cases hE:E k with
    |none=>rw[(H2.out k).1 hE]at hk;cases hk
    |some L=>exact⟨L,rfl⟩
   obtain⟨B,rfl,a0⟩:=Hb.out k (by rw[hL];simp);have J:Below w.heap.size w w4:=Kept.below hB al hB.size so;obtain⟨A,ag,rfl,ai⟩:=(H3.out _ u L hk hL).yI;have ax:=hid (ai.below J)
   have O:∀wx,Below w.heap.size w wx->(Instr.lookup 124 (.map (some me)) (rI ((B:Nat):Int)) false).run prog wx=.ok (.slice A L.length ag) wx:=λwx aS=>by
    have:=((H1.out.below aS).look (aF underlying3) underlying124 (z:=.slice none 0 0) (by simp[zeroValue119]) ((B:Nat):Int)).2;rw[hk]at this;exact this
   have am:T+rV B L=doneN (λj=>left j/\j≠(B:Nat)) (iU E) N:=by rw[yF a0 ap,DN hL,HT.out]
   have Q:=hid Z;have ad:=hid (rN am U);have ab:=Hl.out _ L hL;obtain⟨n,hn⟩:=rX L.length;rw[hn]at aa ab O⊢;have Hn:=hid hn;have ay:=hid O;have bj:=af J a8;rw[show iK ((B:Nat):Int)=rI ((B:Nat):Int)from rfl]at aa⊢;clear hk ap Z U al a7 ai hB g HT am hn hL O;go_wp2_with fail;clear aa;have bi:=J.size
   go_loopw [3,5] (λlv kv wr=>∃i t:Nat,kv=rI i/\lv=rI t/\i<=n/\t=T+rV B (L.take i)/\w4=wr) (λ_ kv _=>n-(intOf kv).toNat)
   case atStart=>exact⟨0,T,rfl,rfl,om,by simp[rV],rfl⟩
   case round=>
    obtain⟨i,t,rfl,rfl,hi,ht,rfl⟩:=hrel;have R:=hid ht
    have bh:t<=200000:=by
     have h1:=Jk B (L.take i);rw[List.length_take]at h1;omega
    have ba:=ay.out _ J;clear ht;by_cases aq:i<n
    .obtain⟨e,he⟩:∃e,L[i]? =some e:=⟨L[i]'(by rw[Hn.out];exact aq),Zc _⟩
     obtain⟨gb,hA,a1,a2,a3,a4⟩:=ax.out.get he;have bd:=λwx=>gZ (m:=ag) hA aq wx;have ac:=KR (z:=(B:Nat)) he;obtain⟨xt,⟨xs,xd⟩,xm⟩:=e;simp only at a1 a2 a3 a4 ac;have F:=hid ac;clear hA he ac;by_cases hm:0<=xm
     .by_cases aw:((B:Nat):Int)<xt
      .have M:t+1=T+rV B (L.take (i+1)):=by have:=F.out;rw[if_pos ⟨hm,aw⟩]at this;rw[this,R.out];omega
       have I:=hid M;clear M F R;go_wp2;go_roundw
       case rel=>refine rR ?_;exact⟨i+1,t+1,by go_num,by go_num,om,I.out,by trivial⟩
       case measure=>exact rM
      .have M:t=T+rV B (L.take (i+1)):=by have:=F.out;rw[if_neg (λq=>aw q.2)]at this;rw[this,R.out];omega
       have I:=hid M;clear M F R;go_wp2;go_roundw
       case rel=>refine rR ?_;exact⟨i+1,t,by go_num,rfl,om,I.out,by trivial⟩
       case measure=>exact rM
     .have M:t=T+rV B (L.take (i+1)):=by have:=F.out;rw[if_neg (λq=>hm q.1)]at this;rw[this,R.out];omega
      have I:=hid M;clear M F R;go_wp2;go_roundw
      case rel=>refine rR ?_;exact⟨i+1,t,by go_num,rfl,om,I.out,by trivial⟩
      case measure=>exact rM
    .obtain rfl:i=n:=om
     have M:t=doneN (λj=>left j/\j≠(B:Nat)) (iU E) N:=by
      have:=R.out;rw[<-Hn.out,List.take_length]at this;rw[this,ad.out.1]
     have a5:=hid Q.out.left_eq;have I:=hid (rN Q.out (rN M J));have ar:=ad.out.2;clear M R;go_wp2;go_roundw
     case rel=>refine rR ?_;exact⟨t,rfl,_,_,I.out⟩
     case measure=>rw[hleft.out,a5.out];exact ar
theorem Vq{w:World}{S:List Nat}{F:Nat}{E:Int->Option (List Ed)}(h:cz w S F E){z:Int}{L:List Ed}(m:E z=some L):∃A g,∀k,Below w.heap.size w k->(Instr.lookup 124 (.map (some F)) (rI z) false).run prog k=.ok (.slice A L.length g) k:=by
 obtain⟨V,N,M,O,P,_,_,_,_⟩:=h
 obtain⟨u,B⟩:∃u,V z=some u:=by
  cases I:V z with
  |none=>rw[(O z).2 I]at m;cases m
  |some u=>exact⟨u,rfl⟩
 obtain⟨A,g,rfl,_⟩:=(P z u L B m).yI;refine⟨A,g,λk J=>?_⟩;have:=((M.below J).look (aF underlying3) underlying124 (z:=.slice none 0 0) (by simp[zeroValue119]) z);rw[B]at this;exact this.2
theorem V3(w:World)(x q:Nat)(g:G)(v:Int)(most:Nat)(h:dA w x q g v most)(m1:1<=most)(m2:most<=6):Calls prog 23 #[vP x] w (Uh w g v most):=by
 obtain⟨hx,hR,da⟩:=h;have bd:=hR.1;have cU:=G.bA bd;have c0:=hR.lt;have P:w.cell? ⟨x,0,none⟩=some (vP q):=by rw[Lib.cell_of_heap hx];rfl
 have bh:w.cell? ⟨x,1,none⟩=some (rI (most:Nat)):=by rw[Lib.cell_of_heap hx];rfl
 have en:((g.n:Nat):Int)=(g.w:Int)*g.h:=by unfold G.n;simp
 have c1:IntKind.i64.wrap ((g.w:Int)*g.h)=((g.n:Nat):Int):=by rw[<-en];exact IntWalk.i64_in _ om
 have cd:(az g).length=(aA g).length:=yw g;obtain⟨D,ct⟩:=rX (addN g most);have cj:=hid ct;have cN:=QL bd m1 m2;obtain⟨tp,aw⟩:=rX ((LS.all g (az g) most).2);have cp:=hid aw;rw[aw]at cN;have HR:=hid hR;have ab:=hid bd;obtain⟨nn,ar⟩:=rX g.n;rw[ar]at c1 cU;replace ar:=hid ar;replace cd:=hid cd;have Hs:=hid (rN P bh);clear hx hR bd en ct aw P bh;go_enter func23,ntmps23;go_upto_region 1 with(fail);refine aB ?_;intro W hW;have HW:Below w.heap.size w W:=by rw[hW];exact be
 have P:=af HW Hs.out.1;have am:W.heap[w.heap.size]? =some (.cells #[rI 0,rI 0,rI 0,rI 0,rI 0,rI 0,rI 0] 64 (0,0)):=by rw[hW];exact heap_alloc_new _ _
 obtain⟨b2,b1⟩:=rX w.heap.size;have cy:b2<W.heap.size:=by rw[<-b1];exact(Za.1 am).1
 rw[b1]at am c0;replace am:=hid am;replace Hs:=hid (rN P (af HW Hs.out.2));have bl:=HR.out.lt;replace HR:=hid (HR.out.below HW bl);rw[b1];replace HW:=hid HW;obtain⟨s1,s2⟩:=HR.out.size;have s3:=HR.out.XA;clear hW bl;have S:Below W.heap.size W W.drew:=aj br;go_cut [3] (λsv wx=>∃F,sv=vP F/\W.heap.size<=F/\wx.heap[F]? =some (.cells #[rI (nn:Nat),rI 0,rI 0,rI 0,rI 0,rI 0,rI v] 64 (0,0))/\Below W.heap.size W wx)
 case first=>
  have H4:=hid (rN P (rN s1 (rN s2 s3)));have c2:W.heap.size<=W.heap.size:=Zi _;have kS:W.drew.cell? ⟨x,0,none⟩=some (vP q)/\W.drew.cell? ⟨q,0,none⟩=some (rI g.w)/\W.drew.cell? ⟨q,1,none⟩=some (rI g.h)/\W.drew.cell? ⟨q,258,none⟩=some (rI v):=⟨af S P,af S s1,af S s2,af S s3⟩;clear P s1 s2 s3
  go_region_held3 (λw'=>w'.cell? ⟨x,0,none⟩=some (vP q)/\w'.cell? ⟨q,0,none⟩=some (rI g.w)/\w'.cell? ⟨q,1,none⟩=some (rI g.h)/\w'.cell? ⟨q,258,none⟩=some (rI v))
   (first
    |with_reducible exact kS
    |with_reducible exact⟨af (ah S) H4.out.1,af (ah S) H4.out.2.1,af (ah S) H4.out.2.2.1,af (ah S) H4.out.2.2.2⟩)
   (first
    |fail)
  clear H4 kS;go_wp2;go_meet
  case rel=>exact⟨_,rfl,c2,heap_alloc_new W _,aj (ah br)⟩
 case rest=>
  obtain⟨F,rfl,ai,O,HB⟩:=hcut;have c9:F≠b2:=om;have O:=hid O;have HB:=hid HB;clear S s1 s2 s3 P;go_wp2_with fail;go_loopw [4] (λiv wr=>∃(k:Nat),k<=nn/\iv=rI (k:Nat)/\wr.heap[F]? =some (.cells #[rI (nn:Nat),rI (gF g k:Nat),rI 0,rI 0,rI 0,rI 0,rI v] 64 (0,0))/\Below W.heap.size W wr) (λiv _=>nn-(intOf iv).toNat)
  case atStart=>exact⟨0,Zw _,rfl,O.out,HB.out⟩
  case round=>
   clear O HB;obtain⟨k,hk,rfl,O,hB⟩:=hrel;have P:=af hB Hs.out.1;obtain⟨z0,z1,_⟩:=aR O;by_cases ac:k<nn
   .obtain⟨t,ht⟩:=rX (g.b k)
    have cb:=(HR.out.below hB HR.out.lt).bit k om;rw[ht]at cb;obtain⟨fr,U⟩:=rX (gF g k);have cC:gF g (k+1)=fr+(if(!t)=true then 1 else 0):=by rw[yL,U,ht]
    have c8:fr<=256:=by rw[<-U];exact Zg (Et g k) om
    rw[U]at O z1;have Z:=hid O;have J:=hid hB;have aS:=hid cC;clear O hB cC U ht;cases t with
    |true=>
     have hF:wr.heap[F]? =some (.cells #[rI (nn:Nat),rI (gF g (k+1):Nat),rI 0,rI 0,rI 0,rI 0,rI v] 64 (0,0)):=by
      rw[aS.out];exact Z.out
     replace hF:=hid hF;clear Z aS;go_wp2;go_roundw
     case rel=>refine rR ?_;exact⟨k+1,om,by go_num,hF.out,J.out⟩
     case measure=>exact rM
    |false=>
     have y1:=Lib.frozen_of_heap Z.out 1;go_upto_region 6 with(fail);go_upto_region 4 with(fail);refine aB ?_;intro W4 bx
     have hF:W4.heap[F]? =some (.cells #[rI (nn:Nat),rI (gF g (k+1):Nat),rI 0,rI 0,rI 0,rI 0,rI v] 64 (0,0)):=by
      rw[bx,aS.out];exact aI wr F 1 _ _ _ Z.out
     have ax:Below W.heap.size W W4:=by rw[bx];exact dO J.out ai 1 _
     replace hF:=hid hF;replace ax:=hid ax;clear Z aS z0 z1 y1 bx J P cb;go_wp2;go_roundw
     case rel=>refine rR ?_;exact⟨k+1,om,by go_num,hF.out,ax.out⟩
     case measure=>exact rM
   .obtain rfl:nn=k:=om
    have cH:gF g nn=gF g g.n:=by rw[ar.out]
    obtain⟨fr,U⟩:=rX (gF g nn);rw[U]at O z1;have cQ:=hid (U.symm.trans cH);have cG:=hid (VV wr q g v (HR.out.below hB HR.out.lt));have Z:=hid O;have J:=hid hB;clear O hB U cH ac z1;go_upto_region 7 with(fail);clear z0;go_wp2_with fail;refine cG.out.mono ?_;rintro e w5 ⟨gb,Q,GS,A,M,mm,rfl,B,cF,⟨cE,cs⟩,b5⟩;have a3:=(b5.block F (Za.1 Z.out).1).trans Z.out;have cT:F<wr.heap.size:=(Za.1 Z.out).1;have ce:=hid (ae J.out b5)
    have bk:∀k∈gb::Q::GS,k∉[F]:=λk hk e=>by have:=cF k hk;simp at e;omega
    obtain⟨z0,z1,z2,z3,z4,z5,z6⟩:=aR a3;have y2:=Lib.frozen_of_heap a3 2;have bg:w5.cell? ⟨gb,0,none⟩=some (.slice A M mm):=by simp[World.cell?,B.1]
    have cY:M<=256:=by rw[<-B.2.2.1];exact bM ab.out
    have cq:∀ad,A=some ad->ad.block≠F:=λad e=>by have:=cs ad e;omega
    have ck:=hid a3;have u:=hid B;have I:=hid bk;have bm:=hid cq;have cR:=hid cE;clear a3 b5 Z J cG P bk cF B cT cq cs cE z0 z1 z3 z4 z5 z6;go_upto_region 9 with(fail);refine aB ?_;intro W6 a0
    have cv:W6.heap[F]? =some (.cells #[rI (nn:Nat),rI (fr:Nat),rI (M:Nat),rI (nY g 0:Nat),rI 0,rI 0,rI v] 64 (0,0)):=by
     rw[a0];simpa[nY]using aI w5 F 2 _ _ (rI (M:Nat)) ck.out
    have a9:Kept [F] w5 W6:=by rw[a0];exact(Kept.refl [F] w5).setCell (p:=⟨F,2,none⟩) (.inl rS)
    have ay:Below W.heap.size W W6:=by rw[a0];exact dO ce.out ai 2 _
    have bj:lK W6 gb Q GS A M mm g:=
     ⟨(a9.block gb (Za.1 u.out.1).1 (I.out gb rS)).trans u.out.1,u.out.2.1.iC a9 (λ_ ad e=>by simp;exact bm.out ad e),u.out.2.2.1,u.out.2.2.2.1,u.out.2.2.2.2.kept a9 (λs hs=>I.out s (by simp[hs])) (I.out Q rS)⟩
    have u:=hid bj;have cl:=hid cv;have ay:=hid ay;clear ck bg z2 y2 a0 a9 cv bj ce;go_wp2_with fail;go_loopw [6] (λiv wr=>∃(i:Nat),i<=M/\iv=rI (i:Nat)/\wr.heap[F]? =some (.cells #[rI (nn:Nat),rI (fr:Nat),rI (M:Nat),rI (nY g i:Nat),rI 0,rI 0,rI v] 64 (0,0))/\Below W.heap.size W wr/\lK wr gb Q GS A M mm g) (λiv _=>M-(intOf iv).toNat)
    case atStart=>exact⟨0,Zw _,rfl,cl.out,ay.out,u.out⟩
    case round=>
     clear cl ay u;obtain⟨i,hi,rfl,O,hB,B⟩:=hrel;have bg:wr.cell? ⟨gb,0,none⟩=some (.slice A M mm):=by simp[World.cell?,B.1]
     have cO:wr.cell? ⟨gb,1,none⟩=some (.map (some Q)):=by simp[World.cell?,B.1]
     by_cases ac:i<M
     .obtain⟨cA,b6⟩:=bW (g:=g) (i:=i) (by rw[B.2.2.1];exact ac)
      obtain⟨ad,cr,_,hc⟩:=B.2.1 om;have b8:=hc i ac;simp only[cA]at b8;obtain⟨c,b7⟩:=rX (cf g i);rw[b7]at b8 b6;have cV:=λwx=>aP (A:=A) (m:=mm) cr ac wx
      obtain⟨L,hL⟩:∃L,BL g M (c:Nat)=some L:=by
       rw[<-B.2.2.1,I5];exact⟨_,fM b6⟩
      have cM:bZ g (λ_ _=>True) (BL g M):=by rw[<-B.2.2.1];exact Dv g
      have ao:=Jv cM hL;have ap:=uD (g:=g) (k:=i) (by rw[B.2.2.1];exact ac);rw[b7,<-ao]at ap;have ca:L.length<=256:=by rw[ao];exact Cm ab.out c
      obtain⟨AL,c5,T⟩:=Vq B.2.2.2.2 hL;obtain⟨dk,b9⟩:=rX (nY g i)
      have c6:dk<=65536:=by
       rw[<-b9];have:=sj ab.out (k:=i) (by rw[B.2.2.1];omega);omega
      rw[b9]at O ap;obtain⟨ln,cJ⟩:=rX L.length;rw[cJ]at ap ca T;obtain⟨_,_,_,z3,_⟩:=aR O;have y3:=Lib.frozen_of_heap O 3;have Z:=hid O;have J:=hid hB;have co:=hid ap;have u:=hid B;have bc:=T wr.drew (aj br);clear O hB ap cM hc cA b6 b7 cr hL ao b9 cJ B;have cX:=λo=>T (wr.drewN o) (ak br);go_upto_region 12 with(fail);go_region;obtain⟨W7,al⟩:∃z,(wr.setCell ⟨F,3,none⟩ (rI ((dk:Int)+(ln:Int)))).drew=z:=⟨_,rfl⟩;rw[al]
      have hF:W7.heap[F]? =some (.cells #[rI (nn:Nat),rI (fr:Nat),rI (M:Nat),rI (nY g (i+1):Nat),rI 0,rI 0,rI v] 64 (0,0)):=by
       rw[<-al,co.out];exact aI wr F 3 _ _ _ Z.out
      have ba:Kept [F] wr W7:=by rw[<-al];exact((Kept.refl [F] wr).setCell (p:=⟨F,3,none⟩) (.inl rS)).drew
      have aE:Below W.heap.size W W7:=by rw[<-al];exact aj (dO J.out ai 3 _)
      have ag:lK W7 gb Q GS A M mm g:=
       ⟨(ba.block gb (Za.1 u.out.1).1 (I.out gb rS)).trans u.out.1,u.out.2.1.iC ba (λ_ ad e=>by simp;exact bm.out ad e),u.out.2.2.1,u.out.2.2.2.1,u.out.2.2.2.2.kept ba (λs hs=>I.out s (by simp[hs])) (I.out Q rS)⟩
      replace hF:=hid hF;replace aE:=hid aE;replace ag:=hid ag;clear Z co z3 y3 al ba J cX T bc b8 cV u bg cO;go_wp2;go_roundw
      case rel=>refine rR ?_;exact⟨i+1,om,by go_num,hF.out,aE.out,ag.out⟩
      case measure=>exact rM
     .obtain rfl:M=i:=om
      obtain⟨ed,a7⟩:=rX (nY g M);have cB:ed=OG g:=by rw[<-a7,<-B.2.2.1];exact Ei g
      have c7:ed<=65536:=by
       rw[<-a7];have:=sj ab.out (k:=M) (by rw[B.2.2.1];omega);omega
      rw[a7]at O;obtain⟨_,_,_,z3,_⟩:=aR O;have y3:=Lib.frozen_of_heap O 3;obtain⟨eh,a8⟩:=rX (ed/2);have Hq:=hid (show((ed:Nat):Int)/2=((eh:Nat):Int)by rw[<-a8];simp);replace a8:=hid a8;have Z:=hid O;have J:=hid hB;have cP:=hid cB;have u:=hid B;have cS:=hid B.2.2.1;clear O hB a7 cB ac B;go_upto_region 14 with(fail);refine aB ?_;intro W8 a1
      have cw:W8.heap[F]? =some (.cells #[rI (nn:Nat),rI (fr:Nat),rI (M:Nat),rI (eh:Nat),rI 0,rI 0,rI v] 64 (0,0)):=by
       rw[a1,<-Hq.out];exact aI wr F 3 _ _ _ Z.out
      have bb:Kept [F] wr W8:=by rw[a1];exact(Kept.refl [F] wr).setCell (p:=⟨F,3,none⟩) (.inl rS)
      have aa:Below W.heap.size W W8:=by rw[a1];exact dO J.out ai 3 _
      have bi:lK W8 gb Q GS A M mm g:=
       ⟨(bb.block gb (Za.1 u.out.1).1 (I.out gb rS)).trans u.out.1,u.out.2.1.iC bb (λ_ ad e=>by simp;exact bm.out ad e),u.out.2.2.1,u.out.2.2.2.1,u.out.2.2.2.2.kept bb (λs hs=>I.out s (by simp[hs])) (I.out Q rS)⟩
      have cL:=hid (Tw W8 gb Q GS A M mm g ab.out bi cR.out most m1 m2);have bh:=af aa Hs.out.2;have bt:=hid cw;replace aa:=hid aa;clear a1 Z J z3 y3 bb bi cw u bg cO;go_wp2_with fail;refine cL.out.mono ?_;rintro e w9 ⟨lb,ml,me,Sb,nl,rfl,bw,b4⟩;have b0:=(b4.block F (Za.1 bt.out).1).trans bt.out;have cg:=hid (ae aa.out b4)
      have cD:=hid (VR w9 lb ml me nl Sb _ _ _ g.n bw (JE (G.bA ab.out)) JD (G.bA ab.out));have aq:=bw.1;rw[cp.out]at aq
      have cW:lb≠F:=λe=>by
       rw[e,b0]at aq;simp at aq
      have bv:=hid b0;have bp:=hid aq;clear b0 aq b4 bw cL bh bt aa;go_wp2_with fail;refine cD.out.mono ?_;rintro e wA ⟨rfl,a6⟩
      rw[show bC (iU (eZ g (LS.all g (az g) most).1)) g.n=D from cj.out];have a4:=(a6.block F (Za.1 bv.out).1).trans bv.out;have bq:=hid ((a6.block lb (Za.1 bp.out).1).trans bp.out);have ch:=hid (ae cg.out a6);obtain⟨_,_,_,_,z4,_⟩:=aR a4;have y4:=Lib.frozen_of_heap a4 4;have cm:=hid a4;clear a4 a6 cD bv bp cg;go_upto_region 16 with(fail);refine aB ?_;intro WB a2
      have a5:WB.heap[F]? =some (.cells #[rI (nn:Nat),rI (fr:Nat),rI (M:Nat),rI (eh:Nat),rI (D:Nat),rI 0,rI v] 64 (0,0)):=by
       rw[a2];exact aI wA F 4 _ _ _ cm.out
      have cI:Kept [F] wA WB:=by rw[a2];exact(Kept.refl [F] wA).setCell (p:=⟨F,4,none⟩) (.inl rS)
      have c4:WB.cell? ⟨lb,2,none⟩=some (rI (tp:Nat)):=by
       have:=(cI.block lb (Za.1 bq.out).1 (by simp;exact cW)).trans bq.out;rw[Lib.cell_of_heap this];rfl
      have ci:=hid (show Below W.heap.size W WB by rw[a2];exact dO ch.out ai 4 _);obtain⟨_,_,_,_,_,z5,_⟩:=aR a5;have y5:=Lib.frozen_of_heap a5 5;have cn:=hid a5;clear a2 a5 cI cm bq ch z4 y4;go_upto_region 17 with(fail);refine aB ?_;intro WC bz
      have cx:WC.heap[F]? =some (.cells #[rI (nn:Nat),rI (fr:Nat),rI (M:Nat),rI (eh:Nat),rI (D:Nat),rI (tp:Nat),rI v] 64 (0,0)):=by
       rw[bz];exact aI WB F 5 _ _ _ cn.out
      have bo:Below W.heap.size W WC:=by rw[bz];exact dO ci.out ai 5 _
      have R:=(bo.block b2 cy).trans am.out;have aa:=hid (ae HW.out bo);obtain⟨z0,z1,z2,z3,z4,z5,z6⟩:=aR cx;obtain⟨u0,u1,u2,u3,u4,u5,u6⟩:=aR R;have y0:=Lib.frozen_of_heap R 0;have y1:=Lib.frozen_of_heap R 1;have y2:=Lib.frozen_of_heap R 2;have y3:=Lib.frozen_of_heap R 3;have y4:=Lib.frozen_of_heap R 4;have y5:=Lib.frozen_of_heap R 5;have y6:=Lib.frozen_of_heap R 6;have e7:=hid (aR (ve (rI (nn:Nat)) (rI (fr:Nat)) (rI (M:Nat)) (rI (eh:Nat)) (rI (D:Nat)) (rI (tp:Nat)) (rI v) R));clear cx R bz cn ci bo c4;go_wp2_with fail;have e7:=e7.out
      refine bodyPost_ret (v:=.agg #[rI (nn:Nat),rI (fr:Nat),rI (M:Nat),rI (eh:Nat),rI (D:Nat),rI (tp:Nat),rI v]) (by simp[results,results23,go_sem,e7]) rfl ?_;exact⟨nn,fr,M,eh,D,tp,rfl,⟨ar.out.symm,cQ.out,by rw[cd.out,cS.out],by rw[<-a8.out,cP.out],cj.out.symm,cp.out.symm⟩,uy aa.out om _ _ _ _ _ _ _⟩
