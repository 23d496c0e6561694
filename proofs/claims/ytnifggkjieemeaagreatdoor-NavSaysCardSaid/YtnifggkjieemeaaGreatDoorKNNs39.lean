/- Lemmas of this claim: Nav5, NavEd, RServ. -/
import Derived.Test.YtnifggkjieemeaaGreatDoorTxPrint
import Derived.Test.YtnifggkjieemeaaGreatDoorKNNs38
set_option linter.unusedVariables false
set_option linter.unusedSimpArgs false
set_option maxHeartbeats 12800000
set_option maxRecDepth 100000
open Go.Proofs.Tryz
namespace Go.Proofs.YtnifggkjieemeaaGreatDoor
open Go.Lib (hid)
open Go.RowKit Go.Sort FR Go.Lib
variable {sc:Array Value}{g:G}{v:Int}{E:Int->Option (List Ed)}{S:List Nat}{k n pg pt ptg rb rm rp s:Nat}{f:Nat->Int×Bool}{A:Option Addr}{w w' w2 wr:World}
theorem Il(w:World)(s:Nat)(g:G)(v:Int)(most:Nat)(h:gH w s g v most)(c d:Nat)(L:c<g.n)(M:d<8):Calls prog 17 #[vP s,rI (c:Nat),rI (d:Nat)] w (Rt w (.tuple #[rI (iM g c d),.nilIface])):=by
 obtain⟨_,pg,U,rb,rp,rm,lb,lm,le,S,E,Sb,nl,R,m1,m2,Z,B,F,I,O,⟨f,Q,u,P⟩,_⟩:=h;have k:w.cell? ⟨s,1,none⟩=some (vP U):=by rw[Lib.cell_of_heap R];rfl
 have m:=FX w U O f g v c d Q u L M;rw[P c d L M]at m;obtain⟨z,T⟩:=rX (iM g c d);rw[T]at m⊢;replace m:=hid m;clear R Z B F I Q u P T m1 m2 L M;go_enter func17,ntmps17;go_wp2_with fail;refine m.out.mono ?_;rintro e w2 ⟨rfl,J⟩;go_wp2_with fail;go_ret2;exact⟨rfl,J⟩
theorem wY(w:World)(s:Nat)(g:G)(v:Int)(most:Nat)(h:gH w s g v most)(c d:Int)(u:c<0\/(g.n:Nat)<=c\/d<0\/8<=d):Calls prog 17 #[vP s,rI c,rI d] w (Rt w (.tuple #[rI 0,.iface 54 (rI 1)])):=by
 obtain⟨_,pg,B,rb,rp,rm,lb,lm,le,S,E,Sb,nl,Q,m1,m2,T,I,J,L,z,⟨f,M,m,R⟩,_⟩:=h;have Z:w.cell? ⟨s,1,none⟩=some (vP B):=by rw[Lib.cell_of_heap Q];rfl
 have F:Calls prog 46 #[vP B,rI c,rI d] w (Rt w (.tuple #[rI 0,.iface 54 (rI 1)])):=by
  by_cases U:c<0\/(g.n:Nat)<=c
  .exact Ac w B z f g v c d M m U
  .obtain⟨k,rfl⟩:=Zj (show 0<=c by omega)
   exact Di w B z f g v k d M m om om
 replace F:=hid F;clear Q T I J L M m R m1 m2 u;go_enter func17,ntmps17;go_wp2_with fail;refine F.out.mono ?_;rintro e w2 ⟨rfl,O⟩;go_wp2_with fail;go_ret2;exact⟨rfl,O⟩
theorem S9(w:World)(s:Nat)(g:G)(v:Int)(most:Nat)(h:gH w s g v most):Calls prog 20 #[vP s] w (Rt w (.string (bs (zq g)))):=by
 obtain⟨_,J,Z,k,rp,rm,R,T,le,S,E,Q,U,F,M,O,B,_⟩:=h;have L:w.cell? ⟨s,0,none⟩=some (vP J):=by rw[Lib.cell_of_heap F];rfl
 have m:=Nf w J g v B;obtain⟨z,I⟩:=rX (bs (zq g));rw[I]at m⊢;replace m:=hid m;clear F B I M O;go_enter func20,ntmps20;go_wp2_with fail;refine m.out.mono ?_;rintro e w2 ⟨rfl,u⟩;go_wp2_with fail;go_ret;exact⟨rfl,u⟩
theorem TA(w:World)(q:Nat)(g:G)(v:Int)(c:Nat)(t:Bool)(h:aG w q g v)(B:c<g.n)(L:0<=v/\v<=1099511627776):Calls prog 39 #[vP q,rI (c:Nat),.bool t] w λe u=>e=.returned (.tuple #[.bool (g.b c != t),rI 0])/\aG u q (dN g c t) (v+(if g.b c=t then 0 else 1:Nat))/\Kept [q] w u:=by
 by_cases F:g.b c=t
 .subst F
  refine(MR w q g v c h B).mono λe u⟨z,m⟩=>⟨by simpa using z,?_,.of_below m⟩
  rw[uM rfl,if_pos rfl];simpa using h.below m h.lt
 .have I:g.b c=!t:=by cases h:g.b c<;>cases t<;>simp_all
  refine(Fx w q g v c t h B I L).mono λe u⟨z,m,J⟩=>⟨by rw[I];simpa using z,?_,J⟩
  rw[if_neg F];simpa using m
def eG(W:World)(A:Option Addr)(n:Nat)(f:Nat->Int×Bool):Prop:=
 0<n->∃b o,A=some ⟨b,o,none⟩/\b<W.heap.size/\∀k,k<n->W.cell? ⟨b,o+k*2,none⟩=some (rI (f k).1)/\W.cell? ⟨b,o+k*2+1,none⟩=some (.bool (f k).2)
theorem eG.kept(h:eG w A n f)(z:Kept S w w')(I:∀B,A=some B->B.block∉S):eG w' A n f:=λL=>by
 obtain⟨b,o,e,J,F⟩:=h L;have m:b∉S:=I ⟨b,o,none⟩ e;exact⟨b,o,e,Zf J z.size,λk u=>⟨aH (p:=⟨b,_,none⟩) z m (F k u).1,aH (p:=⟨b,_,none⟩) z m (F k u).2⟩⟩
theorem eG.below(h:eG w A n f)(m:Below w.heap.size w w'):eG w' A n f:=h.kept (S:=[]) (.of_below m) (λ_ _=>rS)
theorem lX{b o n m k:Nat}(h:A=some ⟨b,o,none⟩)(z:k<n)(u:World):(Instr.indexAt 42 (.slice A n m) (rI (k:Nat))).run prog u=.ok (.pointer (some ⟨b,o+k*2,none⟩)) u:=by
 subst h;have q:(k:Int)<(n:Int):=om;go_simp
def Nw(w:World)(s:Nat)(g:G)(v:Int)(most:Nat)(T:List Nat)(f:Nat->Int×Bool)(n:Nat)(e:Ending)(w':World):Prop:=
 e=.returned (.tuple #[rI (aW f g n:Nat),.nilIface])/\∃T',fT w' s (aV f g n) (v+(aW f g n:Nat)) most T'/\(∀k∈T',k∈T\/w.heap.size<=k)/\Kept T w w'
def Dp(w:World)(s pg pt ptg rb rp rm:Nat)(S:List Nat)(sc:Array Value)(g:G)(v:Int)(f:Nat->Int×Bool)(k:Nat)(wr:World):Prop:=
 ∃S' E',wr.heap[s]? =some (.cells sc 93 (0,0))/\aC wr pg (aV f g k) (v+(aW f g k:Nat))/\fQ wr pt ptg (aV f g k) (v+(aW f g k:Nat))/\
  aJ wr rb rp rm S' (aV f g k) (v+(aW f g k:Nat)) E'/\bZ (aV f g k) (λ_ _=>True) E'/\Apart s pg pt ptg rb rp rm S'/\(∀q∈S',q∈S\/w.heap.size<=q)/\Kept (pg::pt::ptg::rp::rm::S) w wr/\(aW f g k=0->Below w.heap.size w wr)
theorem Dp.below(h:Dp w s pg pt ptg rb rp rm S sc g v f k wr)(m:Below wr.heap.size wr w2):Dp w s pg pt ptg rb rp rm S sc g v f k w2:=by
 obtain⟨F,B,u,z,I,J,L,M,O,P,Q⟩:=h;exact⟨F,B,(m.block s (Za.1 u).1).trans u,z.below m z.lt,I.below m,J.below m,L,M,O,P.trans (.of_below m),λe=>ae (Q e) m⟩
theorem Dp.same(h:Dp w s pg pt ptg rb rp rm S sc g v f k wr)(B:Below wr.heap.size wr w2)(m:(aV f g k).b (f k).1.toNat=(f k).2):Dp w s pg pt ptg rb rp rm S sc g v f (k+1) w2:=by
 have u:aV f g (k+1)=aV f g k:=uM m
 have z:aW f g (k+1)=aW f g k:=by
  show aW f g k+_=_;rw[if_pos m];rfl
 have:=h.below B;unfold Dp at this⊢;rw[u,z];exact this
theorem Dp.start(m:w.heap[s]? =some (.cells sc 93 (0,0)))(u:aC w pg g v)(z:fQ w pt ptg g v)(B:aJ w rb rp rm S g v E)(F:bZ g (λ_ _=>True) E)(I:Apart s pg pt ptg rb rp rm S):Dp w s pg pt ptg rb rp rm S sc g v f 0 w:=
 ⟨S,E,m,by simpa[aV,aW]using u,by simpa[aV,aW]using z,by simpa[aV,aW]using B,F,I,λ_ h=>.inl h,.refl _ _,λ_=>.refl _ _⟩
theorem Dp.next{w wr w1 w2 U:World}{u M:List Nat}{E' L:Int->Option (List Ed)}(hs:¬(aV f g k).b (f k).1.toNat=(f k).2)(O:wr.heap[s]? =some (.cells sc 93 (0,0)))(P:aJ wr rb rp rm u (aV f g k) (v+(aW f g k:Nat)) E')(Q:Apart s pg pt ptg rb rp rm u)(h7:∀q∈u,q∈S\/w.heap.size<=q)(h8:Kept (pg::pt::ptg::rp::rm::S) w wr)(Z:aC w1 pg (aV f g (k+1)) (v+(aW f g k:Nat)+1))(F:Kept [pg] wr w1)(g2:fQ w2 pt ptg (aV f g (k+1)) (v+(aW f g k:Nat)+1))(z:Kept [pt,ptg] w1 w2)(g3:aJ U rb rp rm M (aV f g (k+1)) (v+(aW f g k:Nat)+1) L)(g4:bZ (aV f g (k+1)) (λ_ _=>True) L)(g5:∀q∈M,q∈u\/w2.heap.size<=q)(I:Kept (rp::rm::u) w2 U):Dp w s pg pt ptg rb rp rm S sc g v f (k+1) U:=by
 have e2:aW f g (k+1)=aW f g k+1:=by
  show aW f g k+_=_;rw[if_neg hs]
 have ev:v+((aW f g (k+1):Nat):Int)=v+(aW f g k:Nat)+1:=by rw[e2];omega
 unfold Dp;rw[ev];have nd:=Q.nd;simp only[List.nodup_cons,Zd,List.not_mem_nil,or_false,not_or,List.nodup_nil,and_true,not_false_eq_true]at nd;obtain⟨⟨a1,a2,a3,a4,a5,a6⟩,⟨b1,b2,b3,b4,b5⟩,⟨c1,c2,c3,c4⟩,⟨d1,d2,d3⟩,⟨e1,aa⟩,f1⟩:=nd;have ho:=Q.out;have J:∀{x},x∈[s,pg,pt,ptg,rb,rp,rm]->x∉u:=λhx B=>ho _ B hx;have z1:=O;have l1:s<wr.heap.size:=(Za.1 O).1;have s1:=(F.block s l1 (by simp[a1])).trans O;have l2:s<w1.heap.size:=(Za.1 s1).1;have s2:=(z.block s l2 (by simp[a2,a3])).trans s1;have l3:s<w2.heap.size:=(Za.1 s2).1;have s3:=(I.block s l3 (by simp[a5,a6,J])).trans s2;have T:wr.heap.size<=w2.heap.size:=Zg F.size z.size;refine⟨M,L,s3,(Z.kept z (by simp[b1,b2])).kept I (by simp[b4,b5,J]),g2.kept I (by simp[c3,c4,J]) (by simp[d2,d3,J]),g3,g4,⟨Q.nd,λq R B=>?_⟩,λq R=>?_,?_,λe=>om⟩
 .rcases g5 q R with r|r
  .exact ho q r B
  .have lg:=Z.lt
   have lt:=g2.lt;have l4:rb<wr.heap.size:=(Za.1 P.1).1;have l5:=P.2.1.lt;have l6:=P.2.2.1.lt;have ab:=F.size;have ac:=z.size;simp only[Zd,List.not_mem_nil,or_false]at B;omega
 .rcases g5 q R with r|r
  .exact h7 q r
  .exact .inr (Zg (Zg h8.size T) r)
 .refine((h8.gK F λi m _=>?_).gK z λi m _=>?_).gK I λi m hl=>?_
  .simp at m;simp[m]
  .simp only[Zd,List.not_mem_nil,or_false]at m⊢
   omega
  .simp only[Zd]at m⊢
   rcases m with e|e|e
   .simp[e]
   .simp[e]
   .rcases h7 i e with r|r
    .simp[r]
    .omega
theorem yM{b p u:Nat}{S X:List Nat}(h:aJ w b p u S g v E)(m:Kept X w w')(z:b∉X)(B:p∉X)(F:u∉X)(I:∀q∈S,q∉X):aJ w' b p u S g v E:=
 ⟨(m.block b (Za.1 h.1).1 z).trans h.1,h.2.1.kept m B,h.2.2.1.kept m I F,h.2.2.2⟩
theorem Dp.fin{w wr L P:World}{s pg pt ptg rb rp rm F O me nl:Nat}{S T M:List Nat}{most:Nat}{n Z:Nat}(h:Dp w s pg pt ptg rb rp rm S #[vP pg,vP pt,vP rb,vP Z,rI (most:Nat)] g v f n wr)(u:∀k∈s::pg::pt::ptg::rb::rp::rm::S,k∈T)(m1:1<=most)(m2:most<=6)(hw:∀k∈T,k<w.heap.size)(hL:dF L F O me M ((LS.all (aV f g n) (az (aV f g n)) most).2:Nat) (bN (aV f g n) (LS.all (aV f g n) (az (aV f g n)) most).1) nl (eZ (aV f g n) (LS.all (aV f g n) (az (aV f g n)) most).1))(I:∀k∈F::O::me::M,wr.heap.size<=k)(hb:Below wr.heap.size wr L)(J:P=L.setCell ⟨s,3,none⟩ (vP F)):Nw w s g v most T f n (.returned (.tuple #[rI (aW f g n:Nat),.nilIface])) P:=by
 obtain⟨S',E',h1,h2,h3,h4,h5,Q,h7,R,_⟩:=h.below hb;have U:w.heap.size<=wr.heap.size:=by obtain⟨_,_,_,_,_,_,_,_,_,R,_⟩:=h;exact R.size
 have z:Kept [s] L P:=by rw[J];exact(Kept.refl [s] L).setCell (.inl rS)
 have aa:=hw s (u s rS);have nd:=Q.nd;simp only[List.nodup_cons,Zd,List.not_mem_nil,or_false,not_or,List.nodup_nil,and_true,not_false_eq_true]at nd;obtain⟨⟨a1,a2,a3,a4,a5,a6⟩,_⟩:=nd;have aS:∀k∈S',k≠s:=λk z e=>Q.out k z (by rw[e];simp)
 have z1:P.heap[s]? =some (.cells #[vP pg,vP pt,vP rb,vP F,rI (most:Nat)] 93 (0,0)):=by
  rw[J];exact aI _ s 3 _ _ _ h1
 obtain⟨r1,r2,r3,r4⟩:=h4
 refine⟨rfl,_,⟨pg,pt,rb,rp,rm,F,O,me,S',E',M,nl,z1,m1,m2,h2.kept z so,⟨(z.block rb (Za.1 r1).1 so).trans r1,r2.kept z so,r3.kept z (λq hq=>by simp;exact aS q hq) so,r4⟩,h5,
  hL.kept z (λk m=>by have:=I k m;simp;omega),ptg,h3.kept z so so,Q,rfl⟩,λk m=>?_,?_⟩
 .simp only[Zd,Zl]at m
  have B:=λk(z:k∈F::O::me::M)=>Zg U (I k z);rcases m with rfl|rfl|rfl|rfl|rfl|rfl|rfl|m|rfl|rfl|rfl|m
  .exact .inl (u _ rS)
  .exact .inl (u _ rS)
  .exact .inl (u _ rS)
  .exact .inl (u _ rS)
  .exact .inl (u _ rS)
  .exact .inl (u _ rS)
  .exact .inl (u _ rS)
  .rcases h7 k m with r|r
   .exact .inl (u _ (by simp[r]))
   .exact .inr r
  .exact .inr (B _ rS)
  .exact .inr (B _ rS)
  .exact .inr (B _ rS)
  .exact .inr (B _ (by simp[m]))
 .refine(R.more λk m=>u k ?_).trans (z.more λk m=>u k ?_)
  .simp only[Zd]at m
   rcases m with e|e|e|e|e|e<;>simp[e]
  .simp at m;simp[m]
theorem wX(w:World)(s:Nat)(g:G)(v:Int)(most:Nat)(T:List Nat)(h:fT w s g v most T)(A:Option Addr)(n m:Nat)(f:Nat->Int×Bool)(hE:eG w A n f)(hn:n<=60)(hA:0<n->∀ad,A=some ad->ad.block∉T)(hv:0<=v/\v<=1000000)(ca:∀j,j<n->0<=(f j).1/\(f j).1<(g.n:Nat)):Calls prog 12 #[vP s,.slice A n m] w (Nw w s g v most T f n):=by
 have HT:=hid h.lt;have cg:=hid h;obtain⟨M,U,Q,rp,rm,lb,lm,le,S,E,Sb,nl,hs,m1,m2,hG,b1,b2,ci,ai,b5,b0,b6⟩:=h;have aw:w.cell? ⟨s,0,none⟩=some (vP M):=by rw[Lib.cell_of_heap hs];rfl
 have b3:=Dp.start (f:=f) hs hG b5 b1 b2 b0
 have b8:∀k∈s::M::U::ai::Q::rp::rm::S,k∈T:=λk hk=>by
  rw[b6];simp only[Zd,Zl]at hk⊢;rcases hk with e|e|e|e|e|e|e|e<;>simp[e]
 have bt:=hid b8;have bq:=hid b3;have HG:=hid hG;have HE:=hid hE;have HA:=hid hA;have bv:=hid ca;have Hm:=hid (rN m1 m2);have Hv:=hid hv;have a2:=hid aw;clear hs m1 m2 hG b1 b2 ci b5 b0 b6 b3 b8 hE hA ca hv aw;go_enter func12,ntmps12;go_wp2_with fail;go_loopw [21] (λiv wr=>∃(k:Nat),k<=n/\iv=rI (k:Nat)/\Below w.heap.size w wr) (λiv _=>n-(intOf iv).toNat)
 case atStart=>exact⟨0,Zw _,rfl,br⟩
 case round=>
  obtain⟨k,hk,rfl,hB⟩:=hrel;by_cases ac:k<n
  .obtain⟨ba,o,ao,bg,hc⟩:=HE.out om
   obtain⟨x1,x2⟩:=hc k ac;have ax:=λwx=>lX (A:=A) (m:=m) ao ac wx;obtain⟨i0,i1⟩:=bv.out k ac;obtain⟨⟨x,t⟩,ag⟩:=rX (f k);rw[ag]at x1 x2 i0 i1;simp only at x1 x2 i0 i1;obtain⟨c,rfl⟩:=Zj i0;obtain⟨ok,ay⟩:=rX (o+k*2);rw[ay]at x1 x2 ax;replace x1:=af hB x1;replace x2:=af hB x2;obtain⟨u,hu⟩:=rX ((!g.b c));have Z:c<g.n:=om;have cF:=λI(hb:Below w.heap.size w I)=>dQ I M g v c (HG.out.below hb HG.out.lt) Z;rw[hu]at cF;replace cF:=hid cF;clear ao bg hc ag ay hu i0 i1 Z;go_upto_region 6 with(fail);refine aB ?_;intro W hW;have aq:Below wr.heap.size wr W:=by rw[hW];exact be
   obtain⟨b7,bc⟩:=rX wr.heap.size;have e0:W.cell? ⟨b7,0,none⟩=some (rI (c:Nat)):=by rw[hW,<-bc];go_simp
   have bp:=ae hB aq;rw[bc];clear hW bc aq x1 x2 ax hB;have F:Below w.heap.size w W.drew:=aj bp;have O:W.drew.cell? ⟨s,0,none⟩=some (vP M)/\W.drew.cell? ⟨b7,0,none⟩=some (rI (c:Nat)):=⟨af F a2.out,af (aj br) e0⟩
   go_region_held3 (λI=>I.cell? ⟨s,0,none⟩=some (vP M)/\I.cell? ⟨b7,0,none⟩=some (rI (c:Nat)))
    (first
     |exact O)
    (first
     |(go_at_call 34
       refine(cF.out _ F).mono ?_;rintro e L ⟨rfl,P⟩;have O:L.cell? ⟨s,0,none⟩=some (vP M)/\L.cell? ⟨b7,0,none⟩=some (rI (c:Nat)):=⟨af P O.1,af P O.2⟩))
   have HF:=hid (ae F P);clear O P F e0 bp cF;go_wp2;go_roundw
   case rel=>refine rR ?_;exact⟨k+1,om,by go_num,HF.out⟩
   case measure=>exact rM
  .obtain rfl:n=k:=om
   have b4:=hid (bq.out.below hB);clear hB bq;go_wp2_with fail;go_loopw [10,41] (λcv iv wr=>∃(j:Nat),j<=n/\iv=rI (j:Nat)/\cv=rI (aW f g j:Nat)/\Dp w s M U ai Q rp rm S #[vP M,vP U,vP Q,vP lb,rI (most:Nat)] g v f j wr) (λ_ iv _=>n-(intOf iv).toNat)
   case atStart=>exact⟨0,Zw _,rfl,rfl,b4.out⟩
   case round=>
    obtain⟨j,hj,rfl,rfl,hI⟩:=hrel;clear b4;by_cases ac:j<n
    .obtain⟨ba,o,ao,bg,hc⟩:=HE.out om
     obtain⟨x1,x2⟩:=hc j ac;have ax:=λwx=>lX (A:=A) (m:=m) ao ac wx;obtain⟨i0,i1⟩:=bv.out j ac;have bz:=HA.out om ⟨ba,o,none⟩ ao;have a9:=hI;obtain⟨S',E',z1,z2,z3,z4,z5,z6,z7,z8,z9⟩:=a9;have bd:ba∉M::U::ai::rp::rm::S:=λhm=>bz (bt.out _ (by simp only[Zd]at hm;rcases hm with e|e|e|e|e|e<;>simp[e]));replace x1:=aH z8 (p:=⟨ba,o+j*2,none⟩) bd x1;replace x2:=aH z8 (p:=⟨ba,o+j*2+1,none⟩) bd x2;obtain⟨⟨x,t⟩,ag⟩:=rX (f j);rw[ag]at x1 x2 i0 i1;simp only at x1 x2 i0 i1;obtain⟨c,rfl⟩:=Zj i0;obtain⟨ok,ay⟩:=rX (o+j*2);rw[ay]at x1 x2 ax;obtain⟨gk,aa⟩:=rX (aV f g j);obtain⟨nk,J⟩:=rX (aW f g j);have Z:c<gk.n:=by rw[<-aa,JC];omega
     have bi:nk<=60:=by have:=oH f g j;omega
     have a4:(f j).1.toNat=c:=by rw[ag];simp
     have a5:(f j).2=t:=by rw[ag]
     have aE:gk.b c=t->aW f g (j+1)=nk/\(aV f g j).b (f j).1.toNat=(f j).2:=λh=>by
      have h2:(aV f g j).b (f j).1.toNat=(f j).2:=by rw[aa,a4,a5];exact h
      refine⟨?_,h2⟩;show aW f g j+_=nk;rw[if_pos h2,J];rfl
     have a6:¬gk.b c=t->aW f g (j+1)=nk+1/\¬(aV f g j).b (f j).1.toNat=(f j).2/\aV f g (j+1)=dN gk c t:=λh=>by
      have h2:¬(aV f g j).b (f j).1.toNat=(f j).2:=by rw[aa,a4,a5];exact h
      refine⟨?_,h2,?_⟩
      .show aW f g j+_=nk+1
       rw[if_neg h2,J]
      .show dN (aV f g j) _ _=_
       rw[aa,a4,a5]
     have a0:0<=v+((nk:Nat):Int)/\v+((nk:Nat):Int)<=1099511627776:=by have:=Hv.out;omega
     obtain⟨vk,am⟩:=rX (v+((nk:Nat):Int));rw[am]at a0;rw[aa,J,am]at z2 z3 z4;rw[aa]at z5;have HI:=hid hI;have lS:=(Za.1 z1).1;have lG:=z2.lt;have lT:=z3.lt;have bk:=(Za.1 z4.1).1;have bo:=z4.2.1.lt;have bm:=z4.2.2.1.lt;have bj:=z4.2.2.1.qp;have bh:=z6.nd;have a7:=z6.out;have aw:wr.cell? ⟨s,0,none⟩=some (vP M):=by rw[Lib.cell_of_heap z1];rfl
     have cb:wr.cell? ⟨s,1,none⟩=some (vP U):=by rw[Lib.cell_of_heap z1];rfl
     have a1:wr.cell? ⟨s,2,none⟩=some (vP Q):=by rw[Lib.cell_of_heap z1];rfl
     obtain⟨B,al⟩:=rX wr.heap.size;rw[al]at lS lG lT bk bo bm bj;simp only[List.nodup_cons,Zd,List.not_mem_nil,or_false,not_or,List.nodup_nil,and_true,not_false_eq_true]at bh;have R:=hid (rN bh (rN lS (rN lG (rN lT (rN bk (rN bo bm))))));have a3:=hid (rN a7 bj);have HZ:=hid (rN z1 (rN z2 (rN z3 (rN z4 (rN z5 (rN z6 (rN z7 z8)))))));have Hk:=hid aw;have a8:=hid aE;have bw:=hid a6;have ch:=hid (rN aa (rN J am));rw[J];clear ao bg hc ag ay i0 i1 bz bd hI z1 z2 z3 z4 z5 z6 z7 z8 z9 a4 a5 aE a6 aa J am lS lG lT bk bo bm bj bh a7;go_upto_region 14 with(fail);refine aB ?_;intro W hW;have aq:Below wr.heap.size wr W:=by rw[hW];exact be
     have e0:W.cell? ⟨B,0,none⟩=some (rI (c:Nat)):=by rw[hW,<-al];go_simp
     have e1:W.cell? ⟨B,1,none⟩=some (.bool t):=by rw[hW,<-al];go_simp
     try rw[al]
     clear hW x1 x2 ax;have F:Below wr.heap.size wr W.drew:=aj aq;have O:W.drew.cell? ⟨s,0,none⟩=some (vP M)/\W.drew.cell? ⟨s,1,none⟩=some (vP U)/\W.drew.cell? ⟨s,2,none⟩=some (vP Q)/\W.drew.cell? ⟨B,0,none⟩=some (rI (c:Nat))/\W.drew.cell? ⟨B,1,none⟩=some (.bool t):=⟨af F aw,af F cb,af F a1,af (aj br) e0,af (aj br) e1⟩;clear aw cb a1 Hk;by_cases aS:gk.b c=t
     .have cG:Calls prog 35 #[vP M,rI (c:Nat),.bool t] W.drew λe I=>e=.returned (.tuple #[.bool false,.nilIface])/\Below W.drew.heap.size W.drew I:=by
       have:=Cw W.drew M gk vk c (HZ.out.2.1.below F HZ.out.2.1.lt) Z;rw[aS]at this;exact this
      replace cG:=hid cG;obtain⟨hN,ab⟩:=a8.out aS;replace hN:=hid hN;replace ab:=hid ab;replace F:=hid F;clear aS aq e0 e1 a0 Z
      go_region_held3 (λI=>I.cell? ⟨s,0,none⟩=some (vP M)/\I.cell? ⟨s,1,none⟩=some (vP U)/\I.cell? ⟨s,2,none⟩=some (vP Q)/\I.cell? ⟨B,0,none⟩=some (rI (c:Nat))/\I.cell? ⟨B,1,none⟩=some (.bool t))
       (first
        |exact O)
       (first
        |(go_at_call 35
          refine cG.out.mono ?_;rintro e L ⟨rfl,P⟩;have O:L.cell? ⟨s,0,none⟩=some (vP M)/\L.cell? ⟨s,1,none⟩=some (vP U)/\L.cell? ⟨s,2,none⟩=some (vP Q)/\L.cell? ⟨B,0,none⟩=some (rI (c:Nat))/\L.cell? ⟨B,1,none⟩=some (.bool t):=⟨af P O.1,af P O.2.1,af P O.2.2.1,af P O.2.2.2.1,af P O.2.2.2.2⟩))
      have hF:=hid (HI.out.same (ae F.out P) ab.out);clear O P cG F;go_wp2;go_roundw
      case rel=>refine rR ?_;exact⟨j+1,om,by go_num,by rw[hN.out],hF.out⟩
      case measure=>exact rM
     .have ht:gk.b c=!t:=by cases h:gk.b c<;>cases t<;>simp_all
      have cG:=hid (kE W.drew M gk vk c t (HZ.out.2.1.below F HZ.out.2.1.lt) Z ht a0);obtain⟨hN,ab,ap⟩:=bw.out aS;replace hN:=hid hN;replace ab:=hid ab;replace ap:=hid ap;replace F:=hid F;replace ht:=hid ht;clear aS aq e0 e1
      go_region_held3 (λI=>I.cell? ⟨s,0,none⟩=some (vP M)/\I.cell? ⟨s,1,none⟩=some (vP U)/\I.cell? ⟨s,2,none⟩=some (vP Q)/\I.cell? ⟨B,0,none⟩=some (rI (c:Nat))/\I.cell? ⟨B,1,none⟩=some (.bool t))
       (first
        |exact O
        |exact q1)
       (first
        |(go_at_call 35
          refine cG.out.mono ?_;rintro e L ⟨rfl,g1,k1⟩;have q1:L.cell? ⟨s,0,none⟩=some (vP M)/\L.cell? ⟨s,1,none⟩=some (vP U)/\L.cell? ⟨s,2,none⟩=some (vP Q)/\L.cell? ⟨B,0,none⟩=some (rI (c:Nat))/\L.cell? ⟨B,1,none⟩=some (.bool t):=⟨aH k1 (by have:=R.out;simp;omega) O.1,aH k1 (by have:=R.out;simp;omega) O.2.1,aH k1 (by have:=R.out;simp;omega) O.2.2.1,aH k1 (by have:=R.out;simp;omega) O.2.2.2.1,aH k1 (by have:=R.out;simp;omega) O.2.2.2.2⟩))
      have K1:=(Kept.of_below (S:=[M]) F.out).trans k1;have T2:=HZ.out.2.2.1.kept K1 (by have:=R.out;simp;omega) (by have:=R.out;simp;omega);have R2:=yM HZ.out.2.2.2.1 K1 (by have:=R.out;simp;omega) (by have:=R.out;simp;omega) (by have:=R.out;simp;omega) (λq hq=>by have:=a3.out.1 q hq;simp at this⊢;omega);replace K1:=hid K1;replace R2:=hid R2;have g1:=hid g1;obtain⟨f2,t1,t2,t3⟩:=T2;have co:B<L.heap.size:=ZF L (a:=⟨B,0,none⟩) q1.2.2.2.1;have d2:=aj (Below.refl L.heap.size L);have cT:=hid (IU L.drew U ai f2 gk vk c t (t1.below d2 t1.lt) (t2.below d2 t2.lt) (by have:=R.out;omega) t3 Z ht.out a0);have q2:L.drew.cell? ⟨s,0,none⟩=some (vP M)/\L.drew.cell? ⟨s,1,none⟩=some (vP U)/\L.drew.cell? ⟨s,2,none⟩=some (vP Q)/\L.drew.cell? ⟨B,0,none⟩=some (rI (c:Nat))/\L.drew.cell? ⟨B,1,none⟩=some (.bool t):=⟨af d2 q1.1,af d2 q1.2.1,af d2 q1.2.2.1,af d2 q1.2.2.2.1,af d2 q1.2.2.2.2⟩;have cj:=hid (k1.size)
      clear O k1 t1 t2 t3 cG F d2;go_wp2;go_upto_region 16 with(fail)
      go_region_held3 (λI=>I.cell? ⟨s,0,none⟩=some (vP M)/\I.cell? ⟨s,1,none⟩=some (vP U)/\I.cell? ⟨s,2,none⟩=some (vP Q)/\I.cell? ⟨B,0,none⟩=some (rI (c:Nat))/\I.cell? ⟨B,1,none⟩=some (.bool t))
       (first
        |exact q2
        |exact q3
        |exact q1)
       (first
        |(go_at_call 36
          refine cT.out.mono ?_;rintro e w3 ⟨rfl,f3,u1,u2,u3,k2⟩;have q3:w3.cell? ⟨s,0,none⟩=some (vP M)/\w3.cell? ⟨s,1,none⟩=some (vP U)/\w3.cell? ⟨s,2,none⟩=some (vP Q)/\w3.cell? ⟨B,0,none⟩=some (rI (c:Nat))/\w3.cell? ⟨B,1,none⟩=some (.bool t):=⟨aH k2 (by have:=R.out;simp;omega) q2.1,aH k2 (by have:=R.out;simp;omega) q2.2.1,aH k2 (by have:=R.out;simp;omega) q2.2.2.1,aH k2 (by have:=R.out;simp;omega) q2.2.2.2.1,aH k2 (by have:=R.out;simp;omega) q2.2.2.2.2⟩))
      have K2:=(Kept.of_below (S:=[U,ai]) (aj (Below.refl L.heap.size L))).trans k2;have R3:=yM R2.out K2 (by have:=R.out;simp;omega) (by have:=R.out;simp;omega) (by have:=R.out;simp;omega) (λq hq=>by have:=a3.out.1 q hq;simp at this⊢;omega);have d3:=aj (Below.refl w3.heap.size w3);have cR:=hid (Cu w3.drew Q rp rm S' gk vk E' c t (R3.below d3) HZ.out.2.2.2.2.1 Z ht.out a0);have T3:fQ w3 U ai (dN gk c t) (vk+1):=⟨f3,u1,u2,u3⟩;replace T3:=hid T3;replace K2:=hid K2;have q4:w3.drew.cell? ⟨s,0,none⟩=some (vP M)/\w3.drew.cell? ⟨s,1,none⟩=some (vP U)/\w3.drew.cell? ⟨s,2,none⟩=some (vP Q)/\w3.drew.cell? ⟨B,0,none⟩=some (rI (c:Nat))/\w3.drew.cell? ⟨B,1,none⟩=some (.bool t):=⟨af d3 q3.1,af d3 q3.2.1,af d3 q3.2.2.1,af d3 q3.2.2.2.1,af d3 q3.2.2.2.2⟩
      have nS:s∉rp::rm::S':=by
       have:=R.out;simp only[Zd,not_or];exact⟨om,om,λhm=>a3.out.1 s hm rS⟩
      have nB:B∉rp::rm::S':=by
       have:=R.out;simp only[Zd,not_or];exact⟨om,om,λhm=>by have:=a3.out.2 B hm;omega⟩
      replace nS:=hid nS;replace nB:=hid nB;clear q1 q2 k2 u1 u2 u3 cT d3 R3;go_upto_region 17 with(fail)
      go_region_held3 (λI=>I.cell? ⟨s,0,none⟩=some (vP M)/\I.cell? ⟨s,1,none⟩=some (vP U)/\I.cell? ⟨s,2,none⟩=some (vP Q)/\I.cell? ⟨B,0,none⟩=some (rI (c:Nat))/\I.cell? ⟨B,1,none⟩=some (.bool t))
       (first
        |exact q4
        |exact q5
        |exact q3)
       (first
        |(go_at_call 37
          refine cR.out.mono ?_;rintro e w4 ⟨rfl,S4,E4,g3,g4,g5,k3⟩;have q5:w4.cell? ⟨s,0,none⟩=some (vP M)/\w4.cell? ⟨s,1,none⟩=some (vP U)/\w4.cell? ⟨s,2,none⟩=some (vP Q)/\w4.cell? ⟨B,0,none⟩=some (rI (c:Nat))/\w4.cell? ⟨B,1,none⟩=some (.bool t):=⟨aH k3 nS.out q4.1,aH k3 nS.out q4.2.1,aH k3 nS.out q4.2.2.1,aH k3 nB.out q4.2.2.2.1,aH k3 nB.out q4.2.2.2.2⟩))
      have K3:=(Kept.of_below (S:=rp::rm::S') (aj (Below.refl w3.heap.size w3))).trans k3
      have hF:Dp w s M U ai Q rp rm S #[vP M,vP U,vP Q,vP lb,rI (most:Nat)] g v f (j+1) w4:=by
       obtain⟨z1,z2,z3,z4,z5,z6,z7,z8⟩:=HZ.out;obtain⟨e1,e2,e3⟩:=ch.out;refine Dp.next ab.out z1 (by rw[e1,e2,e3];exact z4) z6 z7 z8 (w1:=L) (w2:=w3) (by rw[ap.out,e2,e3];exact g1.out) K1.out (by rw[ap.out,e2,e3];exact T3.out) K2.out (by rw[ap.out,e2,e3];exact g3) (by rw[ap.out];exact g4) g5 K3
      replace hF:=hid hF;clear q3 q4 q5 k3 g1 g3 g4 g5 K1 K2 K3 R2 T3 cR cj;go_wp2;go_roundw
      case rel=>refine rR ?_;exact⟨j+1,om,by go_num,by rw[hN.out];go_num,hF.out⟩
      case measure=>exact rM
    .obtain rfl:n=j:=om
     obtain⟨nk,J⟩:=rX (aW f g n);rw[J];by_cases h0:nk=0
     .have bb:Below w.heap.size w wr:=by
       obtain⟨_,_,_,_,_,_,_,_,_,_,h9⟩:=hI;exact h9 (by rw[J,h0])
      have hF:Nw w s g v most T f n (.returned (.tuple #[rI (0:Nat),.nilIface])) wr:=by
       have e1:aW f g n=0:=by rw[J,h0]
       refine⟨by rw[e1],T,?_,λk hk=>.inl hk,.of_below bb⟩;rw[e1,yH e1];simpa using cg.out.below bb
      replace hF:=hid hF;subst h0;clear hI bb J;go_wp2_with fail;go_ret2;exact hF.out
     .have h1:0<nk:=om
      have a9:=hI;obtain⟨S',E',z1,z2,z3,z4,z5,z6,z7,z8,z9⟩:=a9;have a1:wr.cell? ⟨s,2,none⟩=some (vP Q):=by rw[Lib.cell_of_heap z1];rfl
      have ce:wr.cell? ⟨s,4,none⟩=some (rI (most:Nat)):=by rw[Lib.cell_of_heap z1];rfl
      have bx:wr.frozen? ⟨s,3,none⟩=false:=Lib.frozen_of_heap z1 3;have cd:wr.cell? ⟨s,3,none⟩=some (vP lb):=by rw[Lib.cell_of_heap z1];rfl
      have lS:=(Za.1 z1).1;have d:=aj (Below.refl wr.heap.size wr);have cL:=hid (EU wr.drew Q rp rm S' (aV f g n) _ E' most (z4.below d) z5 Hm.out.1 Hm.out.2);have HI:=hid hI;have bi:nk<=60:=by have:=oH f g n;omega
      have cm:decide (0<((nk:Nat):Int))=true:=so;replace J:=hid J;have O:wr.drew.cell? ⟨s,2,none⟩=some (vP Q)/\wr.drew.cell? ⟨s,4,none⟩=some (rI (most:Nat)):=⟨af d a1,af d ce⟩;clear hI z1 z2 z3 z4 z5 z6 z7 z8 z9;have ck:=hid (λ(X:World)(u:Value)=>World.cell?_setCell_other (w:=X) (a:=⟨s,3,none⟩) (b:=⟨s,2,none⟩) (v:=u) (by intro e;injection e with e1 e2;omega));have cl:=hid (λ(X:World)(u:Value)=>World.cell?_setCell_other (w:=X) (a:=⟨s,3,none⟩) (b:=⟨s,4,none⟩) (v:=u) (by intro e;injection e with e1 e2;omega));have a2:=hid (rN cd bx);go_upto_region 21 with(fail);clear a1 cd ce bx
      go_region_held3 (λI=>I.cell? ⟨s,2,none⟩=some (vP Q)/\I.cell? ⟨s,4,none⟩=some (rI (most:Nat)))
       (first
        |with_reducible exact O
        |with_reducible exact q1
        |(simp only[ck.out,cl.out];exact q1))
       (first
        |(go_at_call 38
          refine cL.out.mono ?_;rintro e w4 ⟨bl,ml,me,cn,cp,rfl,hL,b9,ar⟩;have q1:w4.cell? ⟨s,2,none⟩=some (vP Q)/\w4.cell? ⟨s,4,none⟩=some (rI (most:Nat)):=⟨af ar O.1,af ar O.2⟩;have k3:=af (ae d ar) a2.out.1;have f3:=(((ae d ar).frozen (p:=⟨s,3,none⟩) lS).trans a2.out.2)))
      have hF:=HI.out.fin bt.out Hm.out.1 Hm.out.2 HT.out hL b9 (ae d ar) rfl;rw[J.out]at hF;replace hF:=hid hF;clear O q1 k3 f3 hL b9 ar cL d;go_wp2;go_ret2;exact hF.out
theorem CY(w:World)(s:Nat)(A:Option Addr)(n m:Nat)(B:60<n)(z:n<=9223372036854775807):Calls prog 12 #[vP s,.slice A n m] w (Rt w (.tuple #[rI 0,.iface 54 (rI 2)])):=by
 go_enter func12,ntmps12;go_wp2_with fail;go_ret2;exact⟨rfl,br⟩
theorem EZ(w:World)(s:Nat)(g:G)(v:Int)(most:Nat)(h:gH w s g v most)(A:Option Addr)(n m:Nat)(f:Nat->Int×Bool)(hE:eG w A n f)(hn:n<=60)(Q:∃j,j<n/\¬(0<=(f j).1/\(f j).1<(g.n:Nat))):Calls prog 12 #[vP s,.slice A n m] w (Rt w (.tuple #[rI 0,.iface 54 (rI 1)])):=by
 obtain⟨_,R,pt,rb,rp,rm,lb,lm,le,S,E,Sb,nl,hs,m1,m2,hG,_⟩:=h;have ao:w.cell? ⟨s,0,none⟩=some (vP R):=by rw[Lib.cell_of_heap hs];rfl
 have HG:=hid hG;have HE:=hid hE;have aa:=hid Q;have aq:=hid ao;clear hs hG hE Q ao m1 m2;go_enter func12,ntmps12;go_wp2_with fail;go_loopw [21] (λiv wr=>∃(k:Nat),k<=n/\iv=rI (k:Nat)/\Hid (∀j,j<k->0<=(f j).1/\(f j).1<(g.n:Nat))/\Below w.heap.size w wr) (λiv _=>n-(intOf iv).toNat)
 case atStart=>exact⟨0,Zw _,rfl,hid (λj hj=>absurd hj om),br⟩
 case round=>
  obtain⟨k,hk,rfl,I,hB⟩:=hrel;by_cases al:k<n
  .obtain⟨ba,o,ab,ar,hc⟩:=HE.out om
   obtain⟨x1,x2⟩:=hc k al;have ai:=λwx=>lX (A:=A) (m:=m) ab al wx;obtain⟨⟨x,t⟩,Z⟩:=rX (f k);have ag:(f k).1=x:=by rw[Z]
   rw[Z]at x1 x2;simp only at x1 x2;obtain⟨ok,am⟩:=rX (o+k*2);rw[am]at x1 x2 ai;replace x1:=af hB x1;replace x2:=af hB x2;have ap:=hid ag;clear ab ar hc Z am ag;go_upto_region 6 with(fail);refine aB ?_;intro W hW;have ac:Below wr.heap.size wr W:=by rw[hW];exact be
   obtain⟨b7,U⟩:=rX wr.heap.size;have e0:W.cell? ⟨b7,0,none⟩=some (rI x):=by rw[hW,<-U];go_simp
   have T:=ae hB ac;rw[U];clear hW U ac x1 x2 ai hB;have F:Below w.heap.size w W.drew:=aj T;have O:W.drew.cell? ⟨s,0,none⟩=some (vP R)/\W.drew.cell? ⟨b7,0,none⟩=some (rI x):=⟨af F aq.out,af (aj br) e0⟩;by_cases J:0<=x/\x<(g.n:Nat)
   .obtain⟨c,rfl⟩:=Zj J.1
    have ad:c<g.n:=om;obtain⟨u,hu⟩:=rX ((!g.b c));have P:=λL(hb:Below w.heap.size w L)=>dQ L R g v c (HG.out.below hb HG.out.lt) ad;rw[hu]at P;replace P:=hid P
    have M:Hid (∀j,j<k+1->0<=(f j).1/\(f j).1<(g.n:Nat)):=hid (λj hj=>by
     by_cases e:j=k
     .rw[e,ap.out];exact J
     .exact I.out j om)
    replace J:=hid J;clear I ad hu
    go_region_held3 (λL=>L.cell? ⟨s,0,none⟩=some (vP R)/\L.cell? ⟨b7,0,none⟩=some (rI (c:Nat)))
     (first
      |exact O)
     (first
      |(go_at_call 34
        refine(P.out _ F).mono ?_;rintro e w2 ⟨rfl,B⟩;have O:w2.cell? ⟨s,0,none⟩=some (vP R)/\w2.cell? ⟨b7,0,none⟩=some (rI (c:Nat)):=⟨af B O.1,af B O.2⟩))
    have HF:=hid (ae F B);clear O B F e0 T P;go_wp2;go_roundw
    case rel=>refine rR ?_;exact⟨k+1,om,by go_num,M,HF.out⟩
    case measure=>exact rM
   .have P:=hid (λL(hb:Below w.heap.size w L)=>mY L R g v x (HG.out.below hb HG.out.lt) om)
    replace J:=hid J;clear I
    go_region_held3 (λL=>L.cell? ⟨s,0,none⟩=some (vP R)/\L.cell? ⟨b7,0,none⟩=some (rI x))
     (first
      |exact O)
     (first
      |(go_at_call 34
        refine(P.out _ F).mono ?_;rintro e w2 ⟨rfl,B⟩;have O:w2.cell? ⟨s,0,none⟩=some (vP R)/\w2.cell? ⟨b7,0,none⟩=some (rI x):=⟨af B O.1,af B O.2⟩))
    have HF:=hid (ae F B);clear O B F e0 T P;go_wp2;go_ret2;exact⟨rfl,HF.out⟩
  .obtain rfl:n=k:=om
   obtain⟨j,hj,aw⟩:=aa.out;exact absurd (I.out j hj) aw
theorem IA(w:World)(x:Nat)(A:Option Addr)(n m:Nat)(B:60<n)(z:n<=9223372036854775807):Calls prog 13 #[vP x,.slice A n m] w (Rt w (.tuple #[rI 0,rI 2])):=by
 go_enter func13,ntmps13;go_wp2_with fail;go_ret2;exact⟨rfl,br⟩
def WA(w:World)(q:Nat)(g:G)(v:Int)(f:Nat->Int×Bool)(n:Nat)(e:Ending)(w':World):Prop:=
 (e=.returned (.tuple #[rI (aW f g n:Nat),rI 0])/\(∀j,j<n->0<=(f j).1/\(f j).1<(g.n:Nat))/\aG w' q (aV f g n) (v+(aW f g n:Nat))/\Kept [q] w w')\/
 (e=.returned (.tuple #[rI 0,rI 1])/\(∃j,j<n/\¬(0<=(f j).1/\(f j).1<(g.n:Nat)))/\Below w.heap.size w w')
theorem Qt(w:World)(x q:Nat)(g:G)(v:Int)(hR:aG w q g v)(kx:w.cell? ⟨x,0,none⟩=some (vP q))(aE:x≠q)(A:Option Addr)(n m:Nat)(f:Nat->Int×Bool)(hE:eG w A n f)(hA:0<n->∀ad,A=some ad->ad.block≠q)(hn:n<=60)(hv:0<=v/\v<=1000000):Calls prog 13 #[vP x,.slice A n m] w (WA w q g v f n):=by
 have HR:=hid hR;have HE:=hid hE;have HA:=hid hA;have am:=hid kx;clear hR hE hA kx;go_enter func13,ntmps13;go_wp2_with fail;go_loopw [6] (λiv wr=>∃(k:Nat),k<=n/\iv=rI (k:Nat)/\Hid (∀j,j<k->0<=(f j).1/\(f j).1<(g.n:Nat))/\Below w.heap.size w wr) (λiv _=>n-(intOf iv).toNat)
 case atStart=>exact⟨0,Zw _,rfl,hid (λj hj=>absurd hj om),br⟩
 case round=>
  obtain⟨k,hk,rfl,L,hB⟩:=hrel;by_cases O:k<n
  .obtain⟨P,o,T,ao,hc⟩:=HE.out om
   obtain⟨x1,x2⟩:=hc k O;have al:=λwx=>lX (A:=A) (m:=m) T O wx;obtain⟨⟨z,t⟩,M⟩:=rX (f k);have aw:(f k).1=z:=by rw[M]
   rw[M]at x1 x2;simp only at x1 x2;obtain⟨ok,ai⟩:=rX (o+k*2);rw[ai]at x1 x2 al;have ap:=hid aw;have J:Below w.heap.size w wr.drew:=aj hB;have Q:wr.drew.cell? ⟨x,0,none⟩=some (vP q)/\wr.drew.cell? ⟨P,ok,none⟩=some (rI z):=⟨af J am.out,af J x1⟩;replace hB:=hid hB;clear T ao hc M ai aw x1 x2;by_cases B:0<=z/\z<(g.n:Nat)
   .obtain⟨c,rfl⟩:=Zj B.1
    have ar:c<g.n:=om;have cF:=hid (λI(hb:Below w.heap.size w I)=>uX I q g v c (HR.out.below hb HR.out.lt) ar)
    have ac:Hid (∀j,j<k+1->0<=(f j).1/\(f j).1<(g.n:Nat)):=hid (λj hj=>by
     by_cases e:j=k
     .rw[e,ap.out];exact B
     .exact L.out j om)
    replace B:=hid B;clear L ar;go_upto_region 6 with(fail)
    go_region_held3 (λI=>I.cell? ⟨x,0,none⟩=some (vP q)/\I.cell? ⟨P,ok,none⟩=some (rI (c:Nat)))
     (first
      |exact Q)
     (first
      |(go_at_call 18
        refine(cF.out _ J).mono ?_;rintro e w2 ⟨rfl,F⟩;have Q:w2.cell? ⟨x,0,none⟩=some (vP q)/\w2.cell? ⟨P,ok,none⟩=some (rI (c:Nat)):=⟨af F Q.1,af F Q.2⟩))
    have HF:=hid (ae J F);clear Q F J cF;go_wp2;go_roundw
    case rel=>refine rR ?_;exact⟨k+1,om,by go_num,ac,HF.out⟩
    case measure=>exact rM
   .have cF:=hid (λI(hb:Below w.heap.size w I)=>Da I q g v z (HR.out.below hb HR.out.lt) om)
    have aq:=hid (show∃j,j<n/\¬(0<=(f j).1/\(f j).1<(g.n:Nat))from⟨k,O,by rw[ap.out];exact B⟩);replace B:=hid B;clear L;go_upto_region 6 with(fail)
    go_region_held3 (λI=>I.cell? ⟨x,0,none⟩=some (vP q)/\I.cell? ⟨P,ok,none⟩=some (rI z))
     (first
      |exact Q)
     (first
      |(go_at_call 18
        refine(cF.out _ J).mono ?_;rintro e w2 ⟨rfl,F⟩;have Q:w2.cell? ⟨x,0,none⟩=some (vP q)/\w2.cell? ⟨P,ok,none⟩=some (rI z):=⟨af F Q.1,af F Q.2⟩))
    have HF:=hid (ae J F);clear Q F J cF;go_wp2;go_ret2;exact .inr ⟨rfl,aq.out,HF.out⟩
  .obtain rfl:n=k:=om
   have a2:=hid (HR.out.below hB HR.out.lt);have HB:=hid hB;clear hB;go_wp2_with fail;obtain⟨wo,rfl⟩:∃wo:World,wo=wr:=⟨_,rfl⟩
   go_loopw [8,9] (λcv iv wx=>∃(j:Nat),j<=n/\iv=rI (j:Nat)/\cv=rI (aW f g j:Nat)/\aG wx q (aV f g j) (v+(aW f g j:Nat))/\Kept [q] wo wx) (λ_ iv _=>n-(intOf iv).toNat)
   case atStart=>exact⟨0,Zw _,rfl,rfl,by simpa[aV,aW]using a2.out,Kept.refl _ _⟩
   case round=>
    obtain⟨j,hj,rfl,rfl,ab,Z⟩:=hrel;have ay:=oH f g j;by_cases O:j<n
    .obtain⟨P,o,T,ao,hc⟩:=HE.out om
     obtain⟨x1,x2⟩:=hc j O;have al:=λwx=>lX (A:=A) (m:=m) T O wx;have B:=L.out j O;have ag:=HA.out om _ T;simp only at ag;obtain⟨⟨z,t⟩,M⟩:=rX (f j);rw[M]at x1 x2 B;simp only at x1 x2 B;obtain⟨c,rfl⟩:=Zj B.1;obtain⟨ok,ai⟩:=rX (o+j*2);rw[ai]at x1 x2 al;have R:=hid (rN (af HB.out am.out) (rN (af HB.out x1) (rN (af HB.out x2) ag)));have a0:=aH Z (p:=⟨P,ok,none⟩) (by simp[ag]) (af HB.out x1);have a1:=aH Z (p:=⟨P,ok+1,none⟩) (by simp[ag]) (af HB.out x2);have aS:=aH Z (p:=⟨x,0,none⟩) (by simp[aE]) (af HB.out am.out);have hd:=aj (Below.refl wr.heap.size wr);have Q:wr.drew.cell? ⟨x,0,none⟩=some (vP q)/\wr.drew.cell? ⟨P,ok,none⟩=some (rI (c:Nat))/\wr.drew.cell? ⟨P,ok+1,none⟩=some (.bool t):=⟨af hd aS,af hd a0,af hd a1⟩;have ax:(aV f g j).n=g.n:=JC f g j;have e1:(f j).1.toNat=c:=by rw[M];simp
     have e2:(f j).2=t:=by rw[M]
     have cS:Calls prog 39 #[vP q,rI (c:Nat),.bool t] wr.drew λe I=>∃u,e=.returned (.tuple #[.bool u,rI 0])/\aW f g (j+1)=aW f g j+(if u=true then 1 else 0)/\aG I q (aV f g (j+1)) (v+(aW f g (j+1):Nat))/\Kept [q] wo I:=by
      refine(TA wr.drew q (aV f g j) _ c t (ab.below hd ab.lt) (by rw[ax];omega) om).mono ?_;rintro e I ⟨rfl,h2,h3⟩
      have hN:aW f g (j+1)=aW f g j+(if(aV f g j).b c=t then 0 else 1):=by
       show aW f g j+(if(aV f g j).b (f j).1.toNat=(f j).2 then 0 else 1)=_;rw[e1,e2]
      have hG:aV f g (j+1)=dN (aV f g j) c t:=by
       show dN (aV f g j) (f j).1.toNat (f j).2=_;rw[e1,e2]
      refine⟨_,rfl,?_,?_,(Z.trans (.of_below hd)).trans h3⟩
      .rw[hN]
       by_cases hb:(aV f g j).b c=t
       .rw[if_pos hb,if_neg (by simp[hb])]
       .rw[if_neg hb,if_pos (by simpa using hb)]
      .rw[hG,hN,Int.natCast_add,<-Int.add_assoc]
       by_cases hb:(aV f g j).b c=t
       .rw[if_pos hb]at h2⊢;exact h2
       .rw[if_neg hb]at h2⊢;exact h2
     replace cS:=hid cS;obtain⟨nj,S⟩:=rX (aW f g j);have a3:=hid S;rw[S]at ay⊢;clear T ao hc M ai B x1 x2 ag aS a0 a1 ab Z ax e1 e2 S;go_upto_region 13 with(fail)
     go_region_held3 (λI=>I.cell? ⟨x,0,none⟩=some (vP q)/\I.cell? ⟨P,ok,none⟩=some (rI (c:Nat))/\I.cell? ⟨P,ok+1,none⟩=some (.bool t))
      (first
       |exact Q)
      (first
       |(go_at_call 39
         refine cS.out.mono ?_;rintro e w2 ⟨u,rfl,hN,hG,Z⟩;have Q:w2.cell? ⟨x,0,none⟩=some (vP q)/\w2.cell? ⟨P,ok,none⟩=some (rI (c:Nat))/\w2.cell? ⟨P,ok+1,none⟩=some (.bool t):=⟨aH Z (by simp[aE]) R.out.1,aH Z (by simp[R.out.2.2.2]) R.out.2.1,aH Z (by simp[R.out.2.2.2]) R.out.2.2.1⟩))
     rw[a3.out]at hN;have U:=hid (rN hG Z);clear Q hG Z cS hd R al;cases u with
     |true=>
      have aa:=hid (show aW f g (j+1)=nj+1 by rw[hN];simp);clear hN;go_wp2;go_roundw
      case rel=>refine rR ?_;exact⟨j+1,om,by go_num,by rw[aa.out];go_num,U.out.1,U.out.2⟩
      case measure=>exact rM
     |false=>
      have aa:=hid (show aW f g (j+1)=nj by rw[hN];simp);clear hN;go_wp2;go_roundw
      case rel=>refine rR ?_;exact⟨j+1,om,by go_num,by rw[aa.out],U.out.1,U.out.2⟩
      case measure=>exact rM
    .obtain rfl:n=j:=om
     have U:WA w q g v f n (.returned (.tuple #[rI (aW f g n:Nat),rI 0])) wr:=.inl ⟨rfl,L.out,ab,(Kept.of_below HB.out).trans Z⟩;obtain⟨nj,S⟩:=rX (aW f g n);rw[S]at U⊢;replace U:=hid U;clear ab Z S ay;go_wp2;go_ret2;exact U.out
