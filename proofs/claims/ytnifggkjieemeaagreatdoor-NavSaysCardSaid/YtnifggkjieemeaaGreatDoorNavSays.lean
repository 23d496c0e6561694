/- Lemmas of this claim: ClearSays, NavSays. -/
import Derived.Test.YtnifggkjieemeaaGreatDoorRStats
set_option linter.unusedVariables false
set_option linter.unusedSimpArgs false
set_option maxHeartbeats 12800000
set_option maxRecDepth 100000
open Go.Proofs.Tryz
namespace Go.Proofs.YtnifggkjieemeaaGreatDoor
open Go.Lib (hid)
open Go.RowKit Go.Sort FR
theorem MN(w:World)(p:Nat)(g:G)(v:Int)(c d:Nat)(z:Int)(h:aG w p g v)(k:c<g.n)(m:d<8)(e:iM g c d=z):Calls prog 19 #[vP p,rI (c:Nat),rI (d:Nat)] w (Rt w (rI z)):=by
 rw[<-e];exact VT w p g v c d h k m
open Go.Lib
variable {e:Ending}{g:G}{a b c v:Int}{T:List Nat}{l:List UInt8}{i m q s x:Nat}{W W0 w w' w1 w2:World}
def BR(W0:World)(s x q m:Nat)(i:Nat)(wr:World):Prop:=
 ∃T g v,fT wr s g v m T/\dA wr x q g v m/\(∀k∈T,W0.heap.size<=k/\k≠x/\k≠q)/\(W0.heap.size<=x/\W0.heap.size<=q)/\(0<=v/\v<=256+60*(i:Int))/\Below W0.heap.size W0 wr
theorem eG.WZ{S:List Nat}{A:Option Addr}{n:Nat}{f:Nat->Int×Bool}(h:eG w A n f)(B:Kept S w w')(z:0<n->∀k,A=some k->k.block∉S):eG w' A n f:=λu=>h.kept B (z u) u
theorem dA.kept{S:List Nat}(h:dA w x q g v m)(k:Kept S w w')(u:x∉S)(z:q∉S):dA w' x q g v m:=
 ⟨(k.block x (Za.1 h.1).1 u).trans h.1,h.2.1.kept k z,h.2.2⟩
theorem dA.set{g g':G}{v k:Int}(h:dA w x q g v m)(z:Kept [q] w w')(u:aG w' q g' k):dA w' x q g' k m:=
 ⟨(z.block x (Za.1 h.1).1 (by simpa using h.2.2)).trans h.1,u,h.2.2⟩
def Dy(W0:World)(s x q m i:Nat)(T:List Nat)(g:G)(v:Int)(W:World):Prop:=
 fT W s g v m T/\dA W x q g v m/\(∀k∈T,W0.heap.size<=k/\k≠x/\k≠q)/\(W0.heap.size<=x/\W0.heap.size<=q)/\(0<=v/\v<=256+60*(i:Int))/\Below W0.heap.size W0 W
theorem Dy.next(h:Dy W0 s x q m i T g v W)(k:Below W.heap.size W w'):BR W0 s x q m (i+1) w':=by
 obtain⟨u,z,B,F,I,J⟩:=h;exact⟨T,g,v,u.below k,z.below k,B,F,⟨I.1,om⟩,ae J k⟩
theorem Dy.below(h:Dy W0 s x q m i T g v W)(k:Below W.heap.size W w'):Dy W0 s x q m i T g v w':=by
 obtain⟨u,z,B,F,I,J⟩:=h;exact⟨u.below k,z.below k,B,F,I,ae J k⟩
theorem Dy.edit{T T':List Nat}{g g':G}{v J:Int}{n:Nat}(h:Dy W0 s x q m i T g v W)(R:fT w1 s g' J m T')(S:∀k∈T',k∈T\/W.heap.size<=k)(u:Kept T W w1)(Q:aG w2 q g' J)(z:Kept [q] w1 w2)(hv:J=v+(n:Nat))(hn:n<=60):BR W0 s x q m (i+1) w2:=by
 obtain⟨h1,L,I,P,h5,M⟩:=h;have Z:x∉T:=λO=>(I x O).2.1 rfl;have U:q∉T:=λO=>(I q O).2.2 rfl;have lx:x<W.heap.size:=(Za.1 L.1).1;have lq:q<W.heap.size:=L.2.1.lt
 have F:∀k∈T',W0.heap.size<=k/\k≠x/\k≠q:=λk u=>by
  rcases S k u with h|h
  .exact I k h
  .have:=M.size;exact⟨om,om,om⟩
 have B:Below W0.heap.size W0 w1:=Kept.below M u M.size (λk u=>(I k u).1);exact⟨T',g',J,R.kept z (λk u=>by simp;exact(F k u).2.2),(L.kept u Z U).set z Q,F,P,⟨om,om⟩,Kept.below B z B.size (by simp;exact P.2)⟩
def KN(W0:World)(sx sm:Value)(wr:World):Prop:=
 (sx=.pointer none/\sm=.pointer none)\/∃s x q m,sx=vP s/\sm=vP x/\BR W0 s x q m 0 wr
theorem BR.below(h:BR W0 s x q m i w)(k:Below w.heap.size w w'):BR W0 s x q m i w':=by
 obtain⟨T,g,v,u,z,B,F,I,J⟩:=h;exact⟨T,g,v,u.below k,z.below k,B,F,I,ae J k⟩
theorem KN.below{sx k:Value}(h:KN W0 sx k w)(F:Below w.heap.size w w'):KN W0 sx k w':=by
 rcases h with h|⟨s,x,q,m,u,z,B⟩
 .exact .inl h
 .exact .inr ⟨s,x,q,m,u,z,B.below F⟩
theorem E8(h:BS w a b c e w'):∃p y,e=.returned (.tuple #[.pointer p,y]):=by
 rcases h with⟨_,h,_⟩|⟨_,_,_,_,h,_⟩<;>exact⟨_,_,h⟩
theorem MQ(h:NR w a b c e w'):∃p k,e=.returned (.tuple #[.pointer p,rI k]):=by
 rcases h with⟨_,h,_⟩|⟨_,_,_,_,_,h,_⟩<;>exact⟨_,_,h⟩
theorem Mi(h:NC w l c e w'):∃p y,e=.returned (.tuple #[.pointer p,y]):=by
 rcases h with⟨_,_,h,_⟩|⟨_,_,_,_,_,_,_,_,_,h,_⟩<;>exact⟨_,_,h⟩
theorem IB(h:Gq w l c e w'):∃p k,e=.returned (.tuple #[.pointer p,rI k]):=by
 rcases h with⟨_,_,h,_⟩|⟨_,_,_,_,_,_,_,_,_,_,h,_⟩<;>exact⟨_,_,h⟩
def DF(p:Option Addr)(y:Value)(k:Int):Prop:=(∃n:Nat,0<n/\p=none/\y=.iface 54 (rI (n:Nat))/\k=(n:Nat))\/(∃s,p=some s)/\y=.nilIface/\k=0
theorem FD{p:Option Addr}{y:Value}{k:Int}(h:DF p y k)(w:World):Calls prog 9 #[y,rI k] w λe u=>e=.returned (.bool true)/\w=u:=by
 rcases h with⟨n,z,_,rfl,rfl⟩|⟨_,rfl,rfl⟩
 .exact jV _ _ om
 .exact Df _
theorem DF.test{p:Option Addr}{y:Value}{k:Int}(h:DF p y k):(!decide (0<k)==p.isNone)=false:=by
 rcases h with⟨n,u,rfl,_,rfl⟩|⟨⟨s,rfl⟩,_,rfl⟩
 .simp;omega
 .simp
theorem P5{u I J L:Value}(h:BS w a b c (.returned (.tuple #[u,I])) w1)(k:NR w1 a b c (.returned (.tuple #[J,L])) w2)(M:Below W0.heap.size W0 w):KN W0 u J w2/\(∃p k,u=.pointer p/\L=rI k/\DF p I k)/\Below W0.heap.size W0 w2:=by
 have hw:=M.size;rcases h with⟨P,z,B⟩|⟨m,s,P,rfl,z,⟨T,Z,Q⟩,B⟩
 .rcases k with⟨_,F,S⟩|⟨_,_,_,O,_⟩
  .simp at z F
   obtain⟨rfl,rfl⟩:=z;obtain⟨rfl,rfl⟩:=F;exact⟨.inl ⟨rfl,rfl⟩,⟨none,1,rfl,rfl,.inl ⟨1,rD,rfl,rfl,rfl⟩⟩,ae (ae M B) S⟩
  .exact absurd O P
 .rcases k with⟨O,_⟩|⟨m',x,q,O,e,F,S,⟨k4,k5⟩,U⟩
  .exact absurd P O
  .obtain rfl:m=m':=Int.ofNat_inj.1 e
   simp at z F;obtain⟨rfl,rfl⟩:=z;obtain⟨rfl,rfl⟩:=F;have R:=Z.lt;have hs:=B.size;exact⟨.inr ⟨s,x,q,m,rfl,rfl,T,_,0,Z.below U,S,λk g=>by have:=Q k g;have:=R k g;exact⟨om,om,om⟩,⟨om,om⟩,⟨om,om⟩,ae (ae M B) U⟩,⟨_,0,rfl,rfl,.inr ⟨⟨_,rfl⟩,rfl,rfl⟩⟩,ae (ae M B) U⟩
theorem Mq{I O Q P:Value}(h:NC w l c (.returned (.tuple #[I,O])) w1)(k:Gq w1 l c (.returned (.tuple #[Q,P])) w2)(U:Below W0.heap.size W0 w):KN W0 I Q w2/\(∃p k,I=.pointer p/\P=rI k/\DF p O k)/\Below W0.heap.size W0 w2/\Below w.heap.size w w2:=by
 have hw:=U.size;rcases h with⟨n,S,M,B,z⟩|⟨a,b,R,m,s,S,rfl,m1,m2,M,⟨T,hT,g⟩,B⟩
 .rcases k with⟨n',F,J,L,u⟩|⟨a,b,R,m,x,q,F,rfl,_,_,_⟩
  .obtain rfl:n=n':=by
    rcases z with z|⟨⟨_,_,_,z⟩,_,rfl⟩<;>rcases u with u|⟨⟨_,_,_,u⟩,_,rfl⟩
    .rw[z]at u;injection u
    .rw[z]at u;cases u
    .rw[z]at u;cases u
    .rfl
   simp at M J;obtain⟨rfl,rfl⟩:=M;obtain⟨rfl,rfl⟩:=J;exact⟨.inl ⟨rfl,rfl⟩,⟨none,_,rfl,rfl,.inl ⟨n,S,rfl,rfl,rfl⟩⟩,ae (ae U B) L,ae B L⟩
  .exfalso
   rcases z with z|⟨_,z,_⟩
   .rw[z]at F;cases F
   .omega
 .rcases k with⟨n',F,J,L,u⟩|⟨a',b',R',m',x,q,F,e,_,_,J,L,⟨u,k5⟩,Z⟩
  .exfalso
   rcases u with u|⟨_,u,_⟩
   .rw[S]at u;cases u
   .omega
  .obtain rfl:m=m':=Int.ofNat_inj.1 e
   rw[S]at F;injection F with e1 e2 e3
   subst e1;subst e2;subst e3;simp at M J;obtain⟨rfl,rfl⟩:=M;obtain⟨rfl,rfl⟩:=J;have aa:=hT.lt;have hs:=B.size;have hn:=G.bA L.2.1.1;have hc:=Cj (fq a R) (b*a);have ab:b*a<=256:=by simpa[G.n,eT,Nat.mul_comm]using hn
   exact⟨.inr ⟨s,x,q,m,rfl,rfl,T,_,_,hT.below Z,L,λk hk=>by have:=g k hk;have:=aa k hk;exact⟨om,om,om⟩,⟨om,om⟩,⟨om,om⟩,ae (ae U B) Z⟩,⟨_,0,rfl,rfl,.inr ⟨⟨_,rfl⟩,rfl,rfl⟩⟩,ae (ae U B) Z,ae B Z⟩
theorem navSays(W0:World)(hV:xu W0)(a:Int)(ha: -9223372036854775808<=a/\a<=9223372036854775807)(b:Int)(hb: -9223372036854775808<=b/\b<=9223372036854775807)(c:Int)(hc: -9223372036854775808<=c/\c<=9223372036854775807)(S:ByteArray)(A0:Option Addr)(n0 m0:Nat)(F:Nat->qB)(h0:Cc W0 A0 n0 F):Calls prog 3 #[rI a,rI b,rI c,.string S,.slice A0 n0 m0] W0 (Rt W0 (.bool true)):=by
 obtain⟨l,rfl⟩:=Ul S;have a9:=hid h0;have HV:=hid hV;clear h0 hV ha hb hc;go_enter func3,ntmps3;go_wp2_with fail;(with_reducible refine(FH _).mono ?_);rintro e Z ⟨rfl,bc⟩;have cL:=hid (Mg Z A0 n0 m0 F (a9.out.below bc));go_wp2_with fail;refine cL.out.mono ?_;rintro e w2 ⟨t,rfl,hL,B⟩;have ay:=ae bc B;have HL:=hid hL;clear hL B bc cL
 cases t with
 |false=>
  go_wp2_with fail;go_ret;exact⟨rfl,ay⟩
 |true=>
  by_cases ct:1200<l.length
  .have bv:decide (1200<(l.length:Int))=true:=so
   go_wp2_with fail;go_ret;exact⟨rfl,ay⟩
  have bv:decide (1200<(l.length:Int))=false:=so;replace HL:=hid (HL.out rfl);go_wp2_with fail;clear bv ct;refine(P7 w2 a b c).mono ?_;intro e w3 hN;obtain⟨cU,cY,rfl⟩:=E8 hN;have HN:=hid hN;clear hN;go_wp2_with fail;refine(Qv w3 a b c).mono ?_;intro e w4 hM;obtain⟨cV,cT,rfl⟩:=MQ hM;obtain⟨hB,⟨p,k,R,Q,hv⟩,hb⟩:=P5 HN.out hM ay
  injection R with R
  injection Q with _ Q
  subst R;subst Q;have aS:=hid hB;have I:=hid hb;have hs:=hid (FD hv);have ht:=hv.test;clear hB hb hv hM HN ay;go_wp2_with fail;(with_reducible refine(hs.out _).mono ?_);rintro e M ⟨rfl,rfl⟩;go_wp2_with fail;clear hs ht;have bt:=hid (SY w4 (HV.out.below I.out) l c);refine bt.out.mono ?_;intro e w5 hN;obtain⟨cW,cG,rfl⟩:=Mi hN;have HN:=hid hN;clear hN bt;go_wp2_with fail;refine(MP w5 l c).mono ?_;intro e w6 hM;obtain⟨cX,cF,rfl⟩:=IB hM;obtain⟨hB,⟨p,k,R,Q,hv⟩,hb,b6⟩:=Mq HN.out hM I.out
  injection R with R
  injection Q with _ Q
  subst R;subst Q;have bi:=hid hB;replace aS:=hid (aS.out.below b6);have aE:=hid hb;have hs:=hid (FD hv);have ht:=hv.test;clear hB hb hv hM HN I b6;go_wp2_with fail;(with_reducible refine(hs.out _).mono ?_);rintro e M ⟨rfl,rfl⟩;go_upto_if 90 with(fail)
  clear hs ht;obtain⟨wj,rfl⟩:∃z:World,z=w6:=⟨_,rfl⟩;go_cut [12,14] (λcy cD wx=>wx=wj/\KN W0 cy cD wj)
  case first=>
   rcases bi.out with⟨_,Q⟩|⟨s,x,q,m,_,Q,_⟩
   .injection Q with Q
    subst Q;go_wp2;go_meet
    case rel=>exact⟨rfl,aS.out⟩
   .injection Q with Q
    subst Q;go_wp2;go_meet
    case rel=>exact⟨rfl,bi.out⟩
  case rest=>
   obtain⟨cv,hB⟩:=hcut;subst cv;obtain⟨wh,rfl⟩:∃z:World,z=wc:=⟨_,rfl⟩;clear bi aS;go_upto_region 15 with(fail);rcases hB with⟨rfl,rfl⟩|⟨s,x,q,m,rfl,rfl,T,g,v,hS,hX,hT,hq,hv,_⟩
   .go_quiet (fail)
    go_wp2;go_ret;exact⟨rfl,ak aE.out⟩
   .have L:wh.cell? ⟨x,0,none⟩=some (vP q):=by rw[Lib.cell_of_heap hX.1];rfl
    obtain⟨k0,k1⟩:=hX.2.1.size;have cm:=G.bA hX.2.1.1;have en:((g.n:Nat):Int)=(g.w:Int)*g.h:=by unfold G.n;simp
    have R:(g.w:Int)*g.h<=(g.n:Nat):=om;have m1:0<=(g.w:Int)*g.h:=om;have cw:IntKind.i64.wrap ((g.w:Int)*g.h)=(g.w:Int)*g.h:=IntWalk.i64_in _ om;have HI:Hid (∀M,Below wh.heap.size wh M->BR W0 s x q m 0 M):=hid (λM hb=>BR.below ⟨T,g,v,hS,hX,hT,hq,hv,aE.out⟩ hb);clear hS hX hT hq hv en;by_cases a6:90<(g.w:Int)*g.h
    .have hd:decide (90<(g.w:Int)*g.h)=true:=so
     clear a6 R m1;go_quiet (fail);go_wp2;go_ret;exact⟨rfl,ak aE.out⟩
    have hd:decide (90<(g.w:Int)*g.h)=false:=so;clear a6 R m1;go_quiet (fail);have bh:=hid (HI.out _ (ak br (n:=nq)));generalize wh.drewN nq=wi at bh⊢;clear L k0 k1 cw hd HI aE cm;go_wp2_with fail;go_loopw [18] (λiv wr=>∃i:Nat,i<=n0/\iv=rI (i:Nat)/\BR W0 s x q m i wr) (λiv _=>n0-(intOf iv).toNat)
    case atStart=>exact⟨0,Zw _,rfl,bh.out⟩
    case round=>
     clear bh;obtain⟨i,hi,rfl,T,g,v,hS,hX,hT,hq,hv,hB⟩:=hrel;by_cases a4:i<n0
     .obtain⟨ba,o,bx,cl,c0,c1,c2,c3,c4,c5,⟨a2,a3⟩,a0,bl⟩:=(a9.out.below hB).cells a4
      have b9:=λwx=>AV (A:=A0) (m:=m0) bx a4 wx;obtain⟨ok,cb⟩:=rX (o+i*6);rw[cb]at c0 c1 c2 c3 c4 c5 b9;have bj:=HL.out.2 i a4;obtain⟨⟨kd,aa,bb,eA,eN,eM,eF,qA,qN,qM,qF,ss⟩,hF⟩:=rX (F i);rw[hF]at c0 c1 c2 c3 c4 c5 a2 a3 a0 bl bj;simp only at c0 c1 c2 c3 c4 c5 a2 a3 a0 bl bj;obtain⟨ks,rfl⟩:=Ul kd;have cn:i<=25:=by have:=HL.out.1;omega
      have a1:eG W0 (F i).eA (F i).eN (F i).eF:=by
       obtain⟨_,_,_,_,_,_,_,_,_,_,⟨h,_⟩,_⟩:=a9.out.cells a4;exact h
      rw[hF]at a1;simp only at a1;have b4:=hS.lt
      have bd:Hid (0<eN->∀ad,eA=some ad->ad.block<W0.heap.size):=hid (λhp ad e=>by
       obtain⟨b',o',e',cp,_⟩:=a1 hp;rw[e']at e;injection e with e;subst e;exact cp)
      have bq:Hid (Dy W0 s x q m i T g v wr):=hid ⟨hS,hX,hT,hq,hv,hB⟩;have bg:=hid (rN a2 a0);clear bx cl cb hF a2 a0 hS hX hT hq hv hB a1 bj;go_upto_region 21 with(fail);refine aB ?_;intro W hW;have u:Below wr.heap.size wr W:=by rw[hW];exact be
      have e0:W.cell? ⟨wr.heap.size,0,none⟩=some (.string (bs ks)):=by rw[hW];go_simp
      have R:W.cell? ⟨wr.heap.size,1,none⟩=some (rI aa):=by rw[hW];go_simp
      have Q:W.cell? ⟨wr.heap.size,2,none⟩=some (rI bb):=by rw[hW];go_simp
      have e3:W.cell? ⟨wr.heap.size,3,none⟩=some (.slice eA eN eM):=by rw[hW];go_simp
      have e4:W.cell? ⟨wr.heap.size,4,none⟩=some (.slice qA qN qM):=by rw[hW];go_simp
      obtain⟨bz,bm⟩:=rX wr.heap.size;have cj:=hid (show∀k∈T,k<bz from λk hk=>by have:=b4 k hk;omega);rw[bm]at e0 R Q e3 e4;rw[bm];have HE:=hid (rN (bg.out.1.below u) (bg.out.2.below u));have J:=hid (bq.out.below u);clear hW u bm c0 c1 c2 c3 c4 c5 b9 bg bq b4;have L:W.cell? ⟨x,0,none⟩=some (vP q):=by rw[Lib.cell_of_heap J.out.2.1.1];rfl
      cases cJ:(ks==[101,100,105,116])with
      |true=>
       as_aux_lemma=>
        by_cases bw:60<eN
        .go_wp2_with fail
         refine(CY _ s eA eN eM bw a3).mono ?_;rintro e Z ⟨rfl,u⟩;have ar:=af u e3;clear e0 R Q e3 e4 L;go_wp2_with fail;refine(IA _ x eA eN eM bw a3).mono ?_;rintro e w2 ⟨rfl,B⟩;have P:=hid (J.out.next (ae u B));clear u B ar;go_wp2_with fail;(with_reducible refine(jV 2 _ rD).mono ?_);rintro e M ⟨rfl,rfl⟩;go_wp2;go_roundw
         case rel=>refine rR ?_;exact⟨i+1,om,by go_num,P.out⟩
         case measure=>exact rM
        .by_cases ab:∀j,j<eN->0<=(eF j).1/\(eF j).1<(g.n:Nat)
         .have ax:0<=v/\v<=1000000:=by have:=J.out.2.2.2.2.1;omega
          have bk:0<eN->∀ad,eA=some ad->ad.block∉T:=λhp ad e hm=>by
           have:=bd.out hp ad e;have:=(J.out.2.2.1 _ hm).1;omega
          have cE:=hid (wX W s g v m T J.out.1 eA eN eM eF HE.out.1 om bk ax ab);have aq:=hid (rN ab (rN bk ax));clear ab bk;go_wp2_with fail;refine cE.out.mono ?_;rintro e Z ⟨rfl,T',b2,b3,aw⟩
          have a7:bz∉T:=λhm=>by have:=cj.out bz hm;omega
          have ar:=aH (p:=⟨bz,3,none⟩) aw a7 e3;have cg:x∉T:=λhm=>(J.out.2.2.1 x hm).2.1 rfl;have ce:q∉T:=λhm=>(J.out.2.2.1 q hm).2.2 rfl;have ai:=J.out.2.1.kept aw cg ce;have ch:Z.cell? ⟨x,0,none⟩=some (vP q):=by rw[Lib.cell_of_heap ai.1];rfl
          have cR:=hid (Qt Z x q g v ai.2.1 ch ai.2.2 eA eN eM eF (HE.out.1.WZ aw aq.out.2.1) (λhp ad e he=>by have:=bd.out hp ad e;have:=J.out.2.2.2.1.2;omega) om aq.out.2.2);have H1:=hid (rN b2 (rN b3 aw));clear b2 b3 aw ai ch e0 R Q e3 e4 L cE a7 cg ce;go_wp2_with fail;refine cR.out.mono ?_
          rintro e w2 (⟨rfl,_,b1,b0⟩|⟨rfl,⟨j,hj,co⟩,_⟩)
          .have P:=hid (J.out.edit H1.out.1 H1.out.2.1 H1.out.2.2 b1 b0 rfl (Zg (oH eF g eN) om))
           obtain⟨en,b8⟩:=rX (aW eF g eN);rw[b8];clear b1 b0 H1 cR ar b8;go_wp2_with fail;(with_reducible refine(Df _).mono ?_);rintro e M ⟨rfl,rfl⟩;go_wp2;go_roundw
           case rel=>refine rR ?_;exact⟨i+1,om,by go_num,P.out⟩
           case measure=>exact rM
          .exact absurd (aq.out.1 j hj) co
         .have a5:∃j,j<eN/\¬(0<=(eF j).1/\(eF j).1<(g.n:Nat)):=by
           apply Zu;intro cq;exact ab (λj hj=>Zu λhh=>cq ⟨j,hj,hh⟩)
          have ax:0<=v/\v<=1000000:=by have:=J.out.2.2.2.2.1;omega
          have cE:=hid (EZ W s g v m ⟨T,J.out.1⟩ eA eN eM eF HE.out.1 om a5);have aq:=hid ab;clear ab a5;go_wp2_with fail;refine cE.out.mono ?_;rintro e Z ⟨rfl,u⟩;have ar:=af u e3;have ai:=J.out.2.1.below u
          have cR:=hid (Qt Z x q g v ai.2.1 (af u L) ai.2.2 eA eN eM eF (HE.out.1.below u) (λhp ad e he=>by have:=bd.out hp ad e;have:=J.out.2.2.2.1.2;omega) om ax);have H1:=hid u;clear u ai e0 R Q e3 e4 L cE ax;go_wp2_with fail;refine cR.out.mono ?_
          rintro e w2 (⟨rfl,b5,_⟩|⟨rfl,_,B⟩)
          .exact absurd b5 aq.out
          .have P:=hid (J.out.next (ae H1.out B))
           clear B cR ar H1;go_wp2_with fail;(with_reducible refine(jV 1 _ rD).mono ?_);rintro e M ⟨rfl,rfl⟩;go_wp2;go_roundw
           case rel=>refine rR ?_;exact⟨i+1,om,by go_num,P.out⟩
           case measure=>exact rM
      |false=>
       cases cM:(ks==[97,115,107])with
       |true=>
        as_aux_lemma=>
         have cA:=hid (λM(hb:Below W.heap.size W M)=>PZ M s g v m ⟨T,J.out.1.below hb⟩ aa bb);have a8:=hid (rN R (rN Q L));have U:Below W.heap.size W W.drew:=aj (Below.refl W.heap.size W);have kS:W.drew.cell? ⟨bz,1,none⟩=some (rI aa)/\W.drew.cell? ⟨bz,2,none⟩=some (rI bb):=⟨af U R,af U Q⟩;go_upto_region 29 with(fail);clear e0 R Q e3 e4 L
         go_region_held3 (λM=>M.cell? ⟨bz,1,none⟩=some (rI aa)/\M.cell? ⟨bz,2,none⟩=some (rI bb))
          (first
           |with_reducible exact kS
           |with_reducible exact⟨af U a8.out.1,af U a8.out.2.1⟩)
          (first
           |(go_at_call 15
             with_reducible refine(cA.out _ U).mono ?_
             rintro e wA ⟨Wy,⟨cs,cd⟩,er,Aw,mw,hA,rfl,hI,_,u⟩;have U:=ae U u)
           |(go_at_call 14
             have cx:=J.out.2.1.below U;have cr:aG wA q g v:=by obtain⟨_,h,_⟩:=cx;exact h
             with_reducible refine(Qw wA x q g v (af U a8.out.2.2) cr aa bb Aw Wy.length mw Wy rfl cs cd er hA hI).mono ?_
             rintro e wC ⟨rfl,ck⟩;have U:=ae U ck))
         all_goals
          have P:=hid (J.out.next U);go_wp2;go_roundw
          case rel=>refine rR ?_;exact⟨i+1,om,by go_num,P.out⟩
          case measure=>exact rM
       |false=>
        cases cN:(ks==[98,97,116,99,104])with
        |true=>
         as_aux_lemma=>
          have cB:=hid (Cf W s x q g v v m m ⟨T,J.out.1⟩ J.out.2.1 qA qN qM qF HE.out.2 bl);go_wp2_with fail;refine cB.out.mono ?_;rintro e Z ⟨rfl,u⟩;have P:=hid (J.out.next u);clear u cB e0 R Q e3 e4 L;go_wp2;go_roundw
          case rel=>refine rR ?_;exact⟨i+1,om,by go_num,P.out⟩
          case measure=>exact rM
        |false=>
         cases cO:(ks==[108,111,111,107])with
         |true=>
          as_aux_lemma=>
           have ap:=J.out.2.1.2.1.lt;by_cases ab:0<=aa/\aa<(g.n:Nat)
           .obtain⟨ca,rfl⟩:=Zj ab.1
            have ao:ca<g.n:=om;by_cases hd:0<=bb/\bb<8
            .obtain⟨db,rfl⟩:=Zj hd.1
             have bo:db<8:=om;obtain⟨z,hz⟩:=rX (iM g ca db);have cL:=Il W s g v m ⟨T,J.out.1⟩ ca db ao bo;rw[hz]at cL;replace cL:=hid cL;have cI:=hid (λM(hb:Below W.heap.size W M)=>uX M q g v ca (J.out.2.1.2.1.below hb ap) ao);have cC:=hid (λM(hb:Below W.heap.size W M)=>MN M q g v ca db z (J.out.2.1.2.1.below hb ap) ao bo hz);have d0:decide ((db:Int)<0)=false:=rS;have d7:decide (7<(db:Int))=false:=so;clear ab hd ao hz bo;go_wp2_with fail;refine cL.out.mono ?_;rintro e Z ⟨rfl,u⟩;have k1:=af u R;have k2:=af u Q;have kx:=af u L;have al:=ZE k1;have am:=ZE k2;have ag:=ZE kx;clear e0 R Q e3 e4 L cL
             go_upto_region 34 with(fail);refine ZH kr kr ?_;repeat (first|go_big_quiet_step (with_reducible exact ZG (cI.out _ (ae u (ZC _ _ _))))|quiet_step (with_reducible exact ZG (cI.out _ (ae u (ZC _ _ _)))))
             refine wpQuiet_nil ?_;intro _ ac;obtain⟨⟨dq,osq⟩,O⟩:=ac;have I:=ae u (ZC Z dq osq);have B:=ZC Z dq osq;subst O;generalize grow (redrawn Z dq) osq=w3 at I B⊢;replace k1:=af B k1;replace k2:=af B k2;replace kx:=af B kx;clear al am ag B cI;have al:=ZE k1;have am:=ZE k2;have ag:=ZE kx;go_upto_region 36 with(fail);refine ZH kr kr ?_;repeat (first|go_big_quiet_step (with_reducible exact ZG (cC.out _ (ae I (ZC _ _ _))))|quiet_step (with_reducible exact ZG (cC.out _ (ae I (ZC _ _ _)))))
             refine wpQuiet_nil ?_;intro _ ac;obtain⟨⟨dq,osq⟩,O⟩:=ac;have bp:=ae I (ZC w3 dq osq);have B:=ZC w3 dq osq;subst O;generalize grow (redrawn w3 dq) osq=w5 at bp B⊢;have P:=hid (J.out.next bp);clear k1 k2 kx al am ag B cC;go_wp2;go_roundw
             case rel=>refine rR ?_;exact⟨i+1,om,by go_num,P.out⟩
             case measure=>exact rM
            .have cL:=hid (wY W s g v m ⟨T,J.out.1⟩ (ca:Nat) bb om)
             have cI:=hid (λM(hb:Below W.heap.size W M)=>uX M q g v ca (J.out.2.1.2.1.below hb ap) ao);have cH:bb<0\/7<bb:=om;clear ab hd ao;go_wp2_with fail;refine cL.out.mono ?_;rintro e Z ⟨rfl,u⟩;have k1:=af u R;have k2:=af u Q;have kx:=af u L;have al:=ZE k1;have am:=ZE k2;have ag:=ZE kx;clear e0 R Q e3 e4 L cL
             go_upto_region 34 with(fail);by_cases b7:bb<0
             .have d0:decide (bb<0)=true:=by simpa using b7
              refine ZH kr kr ?_;repeat (first|go_big_quiet_step (with_reducible exact ZG (cI.out _ (ae u (ZC _ _ _))))|quiet_step (with_reducible exact ZG (cI.out _ (ae u (ZC _ _ _)))))
              refine wpQuiet_nil ?_;intro _ ac;obtain⟨⟨dq,osq⟩,O⟩:=ac;have I:=ae u (ZC Z dq osq);have B:=ZC Z dq osq;subst O;generalize grow (redrawn Z dq) osq=w3 at I B⊢;have P:=hid (J.out.next I);clear k1 k2 kx al am ag B cI;go_wp2_with fail;(with_reducible refine(jV 1 _ rD).mono ?_);rintro e M ⟨rfl,rfl⟩;go_wp2;go_roundw
              case rel=>refine rR ?_;exact⟨i+1,om,by go_num,P.out⟩
              case measure=>exact rM
             .have d0:decide (bb<0)=false:=by simpa using b7
              have d7:decide (7<bb)=true:=so;refine ZH kr kr ?_;repeat (first|go_big_quiet_step (with_reducible exact ZG (cI.out _ (ae u (ZC _ _ _))))|quiet_step (with_reducible exact ZG (cI.out _ (ae u (ZC _ _ _)))))
              refine wpQuiet_nil ?_;intro _ ac;obtain⟨⟨dq,osq⟩,O⟩:=ac;have I:=ae u (ZC Z dq osq);have B:=ZC Z dq osq;subst O;generalize grow (redrawn Z dq) osq=w3 at I B⊢;have P:=hid (J.out.next I);clear k1 k2 kx al am ag B cI;go_wp2_with fail;(with_reducible refine(jV 1 _ rD).mono ?_);rintro e M ⟨rfl,rfl⟩;go_wp2;go_roundw
              case rel=>refine rR ?_;exact⟨i+1,om,by go_num,P.out⟩
              case measure=>exact rM
           .have cL:=hid (wY W s g v m ⟨T,J.out.1⟩ aa bb om)
            have cI:=hid (λM(hb:Below W.heap.size W M)=>Da M q g v aa (J.out.2.1.2.1.below hb ap) om);clear ab;go_wp2_with fail;refine cL.out.mono ?_;rintro e Z ⟨rfl,u⟩;have k1:=af u R;have k2:=af u Q;have kx:=af u L;have al:=ZE k1;have am:=ZE k2;have ag:=ZE kx;clear e0 R Q e3 e4 L cL
            go_upto_region 34 with(fail);refine ZH kr kr ?_;repeat (first|go_big_quiet_step (with_reducible exact ZG (cI.out _ (ae u (ZC _ _ _))))|quiet_step (with_reducible exact ZG (cI.out _ (ae u (ZC _ _ _)))))
            refine wpQuiet_nil ?_;intro _ ac;obtain⟨⟨dq,osq⟩,O⟩:=ac;have I:=ae u (ZC Z dq osq);have B:=ZC Z dq osq;subst O;generalize grow (redrawn Z dq) osq=w3 at I B⊢;have P:=hid (J.out.next I);clear k1 k2 kx al am ag B cI;go_wp2_with fail;(with_reducible refine(jV 1 _ rD).mono ?_);rintro e M ⟨rfl,rfl⟩;go_wp2;go_roundw
            case rel=>refine rR ?_;exact⟨i+1,om,by go_num,P.out⟩
            case measure=>exact rM
         |false=>
          cases cQ:(ks==[115,97,118,101])with
          |true=>
           as_aux_lemma=>
            have ap:=J.out.2.1.2.1.lt;have cS:=hid (λM(hb:Below W.heap.size W M)=>S9 M s g v m ⟨T,J.out.1.below hb⟩);have cP:=hid (λM(hb:Below W.heap.size W M)=>VY M q g v (J.out.2.1.2.1.below hb ap));have ag:=ZE L;have ci:=Below.refl W.heap.size W;go_upto_region 38 with(fail);refine ZH kr kr ?_;repeat (first|go_big_quiet_step (first|with_reducible exact ZG (cS.out _ (ZC _ _ _))|with_reducible exact ZG (cP.out _ (ZC _ _ _)))|quiet_step (first|with_reducible exact ZG (cS.out _ (ZC _ _ _))|with_reducible exact ZG (cP.out _ (ZC _ _ _))))
            refine wpQuiet_nil ?_;intro _ ac;obtain⟨⟨dq,osq⟩,O⟩:=ac;have I:=ae ci (ZC W dq osq);have B:=ZC W dq osq;subst O;generalize grow (redrawn W dq) osq=w3 at I B⊢;have P:=hid (J.out.next I);clear e0 R Q e3 e4 L ag B cS cP I;go_wp2;go_roundw
            case rel=>refine rR ?_;exact⟨i+1,om,by go_num,P.out⟩
            case measure=>exact rM
          |false=>
           as_aux_lemma=>
            have cS:=hid (P8 W s g v m ⟨T,J.out.1⟩);obtain⟨m1,m2⟩:=gH.most ⟨T,J.out.1⟩;go_wp2_with fail;refine cS.out.mono ?_;rintro e Z ⟨n1,n2,n3,n4,n5,n6,rfl,⟨r1,r2,r3,r4,r5,r6⟩,u⟩;have cR:=hid (V3 Z x q g v m (J.out.2.1.below u) m1 m2);have H1:=hid (rN u (rN r1 (rN r2 (rN r3 (rN r4 (rN r5 r6))))));clear u r1 r2 r3 r4 r5 r6 cS e0 R Q e3 e4 L
            go_wp2_with fail;refine cR.out.mono ?_;rintro e w2 ⟨k1,k2,k3,k4,k5,k6,rfl,⟨r1,r2,r3,r4,r5,r6⟩,B⟩;obtain⟨u,s1,s2,s3,s4,s5,s6⟩:=H1.out;obtain rfl:n1=k1:=s1.trans r1.symm;obtain rfl:n2=k2:=s2.trans r2.symm;obtain rfl:n3=k3:=s3.trans r3.symm;obtain rfl:n4=k4:=s4.trans r4.symm;obtain rfl:n5=k5:=s5.trans r5.symm;obtain rfl:n6=k6:=s6.trans r6.symm;have P:=hid (J.out.next (ae u B))
            clear u B r1 r2 r3 r4 r5 r6 s1 s2 s3 s4 s5 s6 H1 cR;go_wp2;go_roundw
            case rel=>refine rR ?_;exact⟨i+1,om,by go_num,P.out⟩
            case measure=>exact rM
     .obtain rfl:n0=i:=om
      go_wp2;go_ret;exact⟨rfl,hB⟩
