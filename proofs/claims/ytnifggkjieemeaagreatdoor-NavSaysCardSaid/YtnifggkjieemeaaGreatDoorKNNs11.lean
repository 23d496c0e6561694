/- Lemmas of this claim: Clear, Clear2, Clear3, TabF, Pend, Flood2, Flood3, Flood4, ShRev, Flood5, Flood6, Flood7, RFlood. -/
import Derived.Test.YtnifggkjieemeaaGreatDoorOpenH
import Derived.Shelf.Slices.Reverse
import Derived.Sort.OwnSortedInts
set_option linter.unusedVariables false
set_option linter.unusedSimpArgs false
set_option maxHeartbeats 3200000
set_option maxRecDepth 100000
namespace Go.Proofs.YtnifggkjieemeaaGreatDoor
open Go.Lib (hid)
open Go.RowKit Go.Sort FR
variable {g:G}{v v' x y:Int}{S:List Nat}{c d j k m p t:Nat}{f f' f'':Nat->Nat->Int}{hp:Nat->Option C}{W0 w w':World}
def xg(p:Nat)(f:Nat->Nat->Int)(k:Nat):Value:=if k=0 then vP p else rI (f ((k-1)/8) ((k-1)%8))
def TabAt(w:World)(t p:Nat)(f:Nat->Nat->Int):Prop:=w.heap[t]? =some (.cells (rowOf (xg p f) 2049) 162 (0,0))
theorem TabAt.lt(h:TabAt w t p f):t<w.heap.size:=(Za.1 h).1
theorem TabAt.below{t p B:Nat}(h:TabAt w t p f)(u:Below B w w')(z:t<B):TabAt w' t p f:=(u.block t z).trans h
theorem TabAt.kept(h:TabAt w t p f)(u:Kept S w w')(z:t∉S):TabAt w' t p f:=(u.block t h.lt z).trans h
theorem TabAt.cell(h:TabAt w t p f)(k:Nat)(u:k<2049):w.cell? ⟨t,k,none⟩=some (xg p f k):=by
 unfold TabAt at h;simp[World.cell?,h,bI _ _ _ u]
theorem TabAt.ptr(h:TabAt w t p f):w.cell? ⟨t,0,none⟩=some (vP p):=h.cell 0 rD
theorem FY(p:Nat)(f:Nat->Nat->Int)(u:d<8):xg p f (1+c*8+d)=rI (f c d):=by
 unfold xg;rw[if_neg om,show(1+c*8+d-1)/8=c by omega,show(1+c*8+d-1)%8=d by omega]
theorem TabAt.val(h:TabAt w t p f)(z:c<256)(u:d<8):w.cell? ⟨t,1+c*8+d,none⟩=some (rI (f c d)):=by
 rw[h.cell _ om,FY p f u]
theorem TabAt.frozen(h:TabAt w t p f)(k:Nat):w.frozen? ⟨t,k,none⟩=false:=by
 unfold TabAt at h;simp[World.frozen?,h]
def zW(f:Nat->Nat->Int)(c d:Nat)(z:Int):Nat->Nat->Int:=λc' d'=>if c'=c/\d'=d then z else f c' d'
theorem TabAt.set(h:TabAt w t p f)(F:c<256)(B:d<8)(z:Int):TabAt (w.setCell ⟨t,1+c*8+d,none⟩ (rI z)) t p (zW f c d z):=by
 unfold TabAt at h⊢;rw[aI _ _ _ _ _ _ h,nH (xg p f) (xg p (zW f c d z)) 2049 (1+c*8+d) _ (by rw[FY p _ B];unfold zW;rw[if_pos ⟨rfl,rfl⟩])];intro i I;unfold xg zW;by_cases u:i=0
 .rw[if_pos u,if_pos u]
 .rw[if_neg u,if_neg u,if_neg om]
theorem I8(w:World)(p:Nat)(g:G)(v x y:Int)(d:Nat)(t:Bool)(h:aC w p g v)(u:d<8)(z:yQ x)(B:yQ y)(e:g.may x y d=t):Calls Tryz.prog 153 #[vP p,rI x,rI y,rI (d:Nat)] w (Rt w (.bool t)):=by
 rw[<-e];exact Cv w p g v x y d h u z B
def iM(g:G)(c d:Nat):Int:=(G.Jr g d (g.X c:Nat) (g.Y c:Nat):Nat)
theorem FV(w:World)(t p:Nat)(f:Nat->Nat->Int)(g:G)(v:Int)(c d:Nat)(hT:TabAt w t p f)(J:aC w p g v)(ax:t≠p)(hc:c<g.n)(hd:d<8):Calls Tryz.prog 121 #[vP t,rI (c:Nat),rI (d:Nat)] w λe w'=>e=.returned (.tuple #[])/\TabAt w' t p (zW f c d (iM g c d))/\aC w' p g v/\Kept [t] w w':=by
 have hn:=G.bA J.1;have ac:=J.1;have hX:(g.X c:Int)<16:=by have:=G.ji J.1 c;have:=J.1.2.1;omega
 have hY:(g.Y c:Int)<16:=by have:=G.iJ hc;have:=J.1.2.2.2;omega
 have ai:=hid hT.lt;have P:=hid J.lt;have k0:=hT.ptr;obtain⟨b1,b2,b3,b4⟩:=jH d;have ag:=hid (jc d hd);have aq:=hid (λ(x y:Int)=>(rfl:g.may x y d=g.may x y d));obtain⟨Z,L⟩:=rX (bL d);obtain⟨m,M⟩:=rX (bD d);rw[L]at b1 b2;rw[M]at b3 b4
 have I:∀w,Calls Tryz.prog 126 #[rI (d:Nat)] w (Rt w (.tuple #[rI Z,rI m])):=by
  rw[<-L,<-M];exact ag.out
 have I:=hid I;have T:=hid L;have U:=hid M;clear L M ag aq;go_enter Tryz.func121,Tryz.ntmps121;go_wp2_with fail;(with_reducible refine(aU _ p g v c J hc).mono ?_);rintro e w1 ⟨rfl,aa⟩;go_wp2_with fail;(with_reducible refine(I.out _).mono ?_);rintro e w2 ⟨rfl,ab⟩;have al:=ae aa ab;clear aa ab k0;go_wp2_with fail;go_loopw [6,7,11] (λx y i wr=>∃(k:Nat)(u z:Int),i=rI k/\x=rI u/\y=rI z/\u=(g.X c:Nat)+k*Z/\z=(g.Y c:Nat)+k*m/\G.run g d (g.X c:Nat) (g.Y c:Nat) k/\Below w.heap.size w wr) (λ_ _ i _=>20-(intOf i).toNat)
 case atStart=>exact⟨0,_,_,rfl,rfl,rfl,rS,rS,G.zI _ _ _ _,al⟩
 case round=>
  obtain⟨k,u,z,rfl,rfl,rfl,hu,hz,hr,R⟩:=hrel;have hk:=G.uZ ac hr
  have ar:-40<=u/\u<=40:=by
   rcases(show Z= -1\/Z=0\/Z=1 by omega)with e|e|e<;>rw[e]at hu<;>omega
  have aw:-40<=z/\z<=40:=by
   rcases(show m= -1\/m=0\/m=1 by omega)with e|e|e<;>rw[e]at hz<;>omega
  obtain⟨u1,u2⟩:=ar;obtain⟨z1,z2⟩:=aw;have ao:=hT.below R ai.out;have k0:=ao.ptr;have ad:=hid hr;have Hu:=hid hu;have Hz:=hid hz;clear hr hu hz;go_wp2_with fail;cases Q:g.may u z d with
  |true=>
   (with_reducible refine(I8 _ p g v u z d true (J.below R P.out) hd (by unfold yQ;omega) (by unfold yQ;omega) Q).mono ?_);rintro e w3 ⟨rfl,F⟩;have B:=ae R F;have ap:=hid Q;clear F Q k0;go_wp2;go_roundw
   case rel=>exact⟨k+1,_,_,by go_num,rfl,rfl,by have:=Hu.out;rw[Int.natCast_add,Int.add_mul];omega,by have:=Hz.out;rw[Int.natCast_add,Int.add_mul];omega,G.zH ad.out (by rw[T.out,U.out,<-Hu.out,<-Hz.out];exact ap.out),B⟩
   case measure=>exact rM
  |false=>
   (with_reducible refine(I8 _ p g v u z d false (J.below R P.out) hd (by unfold yQ;omega) (by unfold yQ;omega) Q).mono ?_);rintro e w3 ⟨rfl,F⟩;have B:=ae R F;have O:=hT.below B ai.out;have am:=J.below B P.out
   have e:(k:Int)=iM g c d:=by
    unfold iM;rw[G.GD ac ad.out (by rw[T.out,U.out,<-Hu.out,<-Hz.out];exact Q)]
   have he:=hid e;clear F Q k0 e;have kv:=O.val (c:=c) (d:=d) om hd;have kf:=O.frozen (1+c*8+d);have q1:(c:Int)<256:=om;have q2:(d:Int)<8:=om;go_wp2;go_end0;refine⟨rfl,?_,?_,?_⟩
   .rw[<-he.out];exact O.set om hd _
   .exact am.kept (S:=[t]) ((Kept.refl _ _).setCell (.inl rS)) so
   .exact(Kept.of_below B).setCell (.inl rS)
def xZ(W0:World)(t p:Nat)(g:G)(v:Int)(P:Nat->Nat->Prop)(w:World):Prop:=∃f,TabAt w t p f/\aC w p g v/\(∀c d,P c d->f c d=iM g c d)/\Below W0.heap.size W0 w
theorem Q8(p:Nat):(Tryz.zeroCells162.setIfInBounds 0 (vP p))=rowOf (xg p (λ_ _=>0)) 2049:=kr
theorem FX(w:World)(t p:Nat)(f:Nat->Nat->Int)(g:G)(v:Int)(c d:Nat)(z:TabAt w t p f)(F:aC w p g v)(I:c<g.n)(J:d<8):Calls Tryz.prog 46 #[vP t,rI (c:Nat),rI (d:Nat)] w (Rt w (.tuple #[rI (f c d),.nilIface])):=by
 have O:=G.bA F.1;have B:=hid z.lt;have L:=z.ptr;go_enter Tryz.func46,Tryz.ntmps46;go_wp2_with fail;(with_reducible refine(aU _ p g v c F I).mono ?_);rintro e T ⟨rfl,u⟩;have P:=(z.below u B.out).val (c:=c) (d:=d) om J;have Q:(c:Int)<256:=om;have R:(d:Int)<8:=om;clear L;go_wp2;go_ret2;exact⟨rfl,u⟩
theorem Ac(w:World)(t p:Nat)(f:Nat->Nat->Int)(g:G)(v c d:Int)(B:TabAt w t p f)(z:aC w p g v)(F:c<0\/g.n<=c):Calls Tryz.prog 46 #[vP t,rI c,rI d] w (Rt w (.tuple #[rI 0,.iface 54 (rI 1)])):=by
 have I:=B.ptr;go_enter Tryz.func46,Tryz.ntmps46;go_wp2_with fail;(with_reducible refine(ql _ p g v c z F).mono ?_);rintro e L ⟨rfl,u⟩;clear I;go_wp2;go_ret2;exact⟨rfl,u⟩
theorem Di(w:World)(t p:Nat)(f:Nat->Nat->Int)(g:G)(v:Int)(c:Nat)(d:Int)(B:TabAt w t p f)(z:aC w p g v)(F:c<g.n)(I:d<0\/8<=d):Calls Tryz.prog 46 #[vP t,rI (c:Nat),rI d] w (Rt w (.tuple #[rI 0,.iface 54 (rI 1)])):=by
 have M:=B.ptr;rcases(show d<0\/(0<=d/\8<=d)by omega)with I|⟨J,L⟩
 all_goals
  go_enter Tryz.func46,Tryz.ntmps46;go_wp2_with fail;(with_reducible refine(aU _ p g v c z F).mono ?_);rintro e P ⟨rfl,u⟩;clear M;go_wp2;go_ret2;exact⟨rfl,u⟩
def RA(w:World)(g:G)(v:Int)(e:Ending)(w':World):Prop:=∃t p,e=.returned (vP t)/\w.heap.size<=p/\p<t/\xZ w t p g v (λc d=>c<g.n/\d<8) w'
theorem QU(w:World)(p0:Nat)(g:G)(v:Int)(hG:aC w p0 g v):Calls Tryz.prog 67 #[vP p0] w (RA w g v):=by
 have hp0:=hid hG.lt;have hn:=G.bA hG.1;go_enter Tryz.func67,Tryz.ntmps67;go_wp2_with fail;(with_reducible refine(EA _ p0 g v hG).mono ?_);rintro e w1 ⟨rfl,B,U,aa⟩;obtain⟨p,F⟩:=rX w.heap.size;rw[F]at B⊢;have ad:=hid aa;have ac:=hid F;clear aa F;go_upto_region 2 with(fail);obtain⟨t,ht⟩:=rX w1.heap.size;rw[ht];have F:=ac.out;have S:t=p+1:=by have:=ad.out;omega
 have hP:=hid (show w.heap.size<=p by omega);refine aB ?_;intro W2 I;have T:TabAt W2 t p (λ_ _=>0):=by rw[I,<-ht];unfold TabAt;rw[heap_alloc_new,Q8]
 have R:aC W2 p g v:=by rw[I];exact B.below (Below.alloc br (Zi _) _) B.lt
 have Q:Below w.heap.size w W2:=by rw[I];exact ah U
 have hstart:xZ w t p g v (λc d=>c<g.n/\d<0) W2:=⟨_,T,R,λc d h=>om,Q⟩;have O:=hid S;clear I T R Q B U ht F S;go_wp2_with fail;go_loopw [10] (λi wr=>∃d:Nat,d<=8/\i=rI d/\xZ w t p g v (λu z=>u<g.n/\z<d) wr) (λi _=>8-(intOf i).toNat)
 case atStart=>exact⟨0,om,rfl,hstart⟩
 case round=>
  obtain⟨d,hd,rfl,f,M,B,P,L⟩:=hrel;clear hstart;by_cases am:d<8
  .go_wp2_with fail
   (with_reducible refine(jK _ p0 g v (hG.below L hp0.out)).mono ?_);rintro e w3 ⟨rfl,J⟩;have Z:xZ w t p g v (λu z=>u<g.n/\z<d\/u<0/\z=d) w3:=⟨f,M.below J M.lt,B.below J B.lt,λu z h=>P u z om,ae L J⟩;clear M B P L J;go_wp2_with fail;obtain⟨wo,rfl⟩:∃wo:World,wo=wr:=⟨_,rfl⟩
   go_loopw [15] (λi wr=>∃c:Nat,c<=g.n/\i=rI c/\xZ w t p g v (λu z=>u<g.n/\z<d\/u<c/\z=d) wr) (λi _=>g.n-(intOf i).toNat)
   case atStart=>exact⟨0,om,rfl,Z⟩
   case round=>
    obtain⟨c,hc,rfl,f,M,B,P,L⟩:=hrel;clear Z;by_cases al:c<g.n
    .have m:t≠p:=by have:=O.out;omega
     go_wp2_with fail;(with_reducible refine(FV _ t p f g v c d M B m al am).mono ?_);rintro e w4 ⟨rfl,ai,ag,k⟩;have ab:=Kept.below L k L.size (by simp;have:=O.out;have:=hP.out;omega);clear m M B k;go_wp2;go_roundw
     case rel=>exact⟨c+1,om,by go_num,_,ai,ag,λu z h=>by
      unfold zW;by_cases e:u=c/\z=d
      .obtain⟨rfl,rfl⟩:=e;rw[if_pos ⟨rfl,rfl⟩]
      .rw[if_neg e];exact P u z om,ab⟩
     case measure=>exact rM
    .obtain rfl:c=g.n:=om
     go_wp2;go_roundw
     case rel=>exact⟨d+1,om,by go_num,f,M,B,λu z h=>P u z om,L⟩
     case measure=>exact rM
  .obtain rfl:d=8:=om
   go_wp2;go_ret;exact⟨t,p,rfl,hP.out,by have:=O.out;omega,f,M,B,P,L⟩
def dC(g:G)(f f':Nat->Nat->Int):Prop:=∀c d,f' c d=f c d\/f' c d=iM g c d
theorem dC.refl(g:G)(f:Nat->Nat->Int):dC g f f:=λ_ _=>.inl rfl
theorem dC.set(h:dC g f f')(c d:Nat):dC g f (zW f' c d (iM g c d)):=by
 intro u z;unfold zW;by_cases e:u=c/\z=d
 .obtain⟨rfl,rfl⟩:=e;rw[if_pos ⟨rfl,rfl⟩];exact .inr rfl
 .rw[if_neg e];exact h u z
theorem dC.trans(h:dC g f f')(k:dC g f' f''):dC g f f'':=by
 intro c d;rcases k c d with e|e
 .rw[e];exact h c d
 .exact .inr e
theorem dC.keep(h:dC g f f')(e:f c d=iM g c d):f' c d=iM g c d:=by
 rcases h c d with h|h
 .rw[h,e]
 .exact h
def Behind(g:G)(x y:Int)(d c k:Nat):Prop:=c<g.n/\(g.X c:Int)=x-k*bL d/\(g.Y c:Int)=y-k*bD d
def zP(g:G)(x y:Int):Prop:=0<=x/\x<g.w/\0<=y/\y<g.h
def I7(g:G)(f':Nat->Nat->Int)(x y:Int)(d m:Nat):Prop:=∀c k:Nat,k<m->Behind g x y d c k->f' c d=iM g c d
def Ub(W0:World)(t p:Nat)(g:G)(v:Int)(f:Nat->Nat->Int)(x y:Int)(d m:Nat)(w:World):Prop:=
 ∃f',TabAt w t p f'/\aC w p g v/\dC g f f'/\I7 g f' x y d m/\Kept [t] W0 w
def Ua(W0:World)(t p:Nat)(g:G)(v:Int)(f:Nat->Nat->Int)(x y:Int)(d:Nat)(e:Ending)(w:World):Prop:=
 e=.returned (.tuple #[])/\∃f',TabAt w t p f'/\aC w p g v/\dC g f f'/\(zP g x y->∀c k:Nat,Behind g x y d c k->f' c d=iM g c d)/\Kept [t] W0 w
theorem EH(I:zP g x y)(J:zP g (x-k*bL d) (y-k*bD d))(L:m<=k):zP g (x-m*bL d) (y-m*bD d):=by
 obtain⟨u,z,B,F⟩:=jH d;unfold zP at*;generalize bL d=a at*;generalize bD d=b at*;rcases(show a= -1\/a=0\/a=1 by omega)with rfl|rfl|rfl<;>rcases(show b= -1\/b=0\/b=1 by omega)with rfl|rfl|rfl<;>omega
theorem KV(z:g.ok)(h:Behind g x y d c k):zP g (x-k*bL d) (y-k*bD d):=by
 obtain⟨u,B,F⟩:=h;have:=G.ji z c;have:=G.iJ u;unfold zP;omega
theorem Ig(F:I7 g f' x y d m)(I:Behind g x y d c m):I7 g (zW f' c d (iM g c d)) x y d (m+1):=by
 intro u k P h;unfold zW;by_cases e:u=c/\d=d
 .rw[if_pos e,e.1]
 .rw[if_neg e]
  have z:u≠c:=λB=>e ⟨B,rfl⟩;refine F u k ?_ h
  have:k≠m:=by
   rintro rfl;apply z;obtain⟨_,M,O⟩:=h;obtain⟨_,J,L⟩:=I;rw[<-G.gM g u,<-G.gM g c];rw[show g.X u=g.X c by omega,show g.Y u=g.Y c by omega]
  omega
theorem KU(L:g.ok)(h:zP g (x-m*bL d) (y-m*bD d)):∃c:Nat,(y-m*bD d)*(g.w:Int)+(x-m*bL d)=(c:Nat)/\Behind g x y d c m:=by
 obtain⟨B,I,F,J⟩:=h;obtain⟨i,u⟩:=Zj B;obtain⟨j,z⟩:=Zj F;refine⟨g.cell i j,?_,G.pq om om,?_,?_⟩
 .rw[u,z];unfold G.cell;simp
 .rw[G.qI om];exact u.symm
 .rw[G.qJ om];exact z.symm
theorem Mh(I:g.ok)(F:I7 g f' x y d m)(J:¬zP g (x-m*bL d) (y-m*bD d)):zP g x y->∀c k:Nat,Behind g x y d c k->f' c d=iM g c d:=by
 intro B c k h;refine F c k ?_ h;rcases Nat.lt_or_ge k m with z|u
 .exact z
 .exact absurd (EH B (KV I h) u) J
theorem Ia(z:g.ok)(B:zP g x y)(h:zP g (x-m*bL d) (y-m*bD d)):m<=15:=by
 obtain⟨_,F,_,I⟩:=z;unfold zP at*;rcases G.Ur d with e|e|⟨e,u|u⟩
 .rw[e]at h;omega
 .rw[e]at h;omega
 .rw[e,u]at h;omega
 .rw[e,u]at h;omega
theorem TU(w:World)(t p:Nat)(f:Nat->Nat->Int)(g:G)(v x y:Int)(d:Nat)(hT:TabAt w t p f)(hG:aC w p g v)(ag:t≠p)(hd:d<8)(hx: -1<=x/\x<=16)(hy: -1<=y/\y<=16):Calls Tryz.prog 76 #[vP t,rI x,rI y,rI (d:Nat)] w (Ua w t p g v f x y d):=by
 have U:=hG.1;have ay:=hid hT.lt;have ax:=hid hG.lt;have aw:=hid ag;obtain⟨x1,x2⟩:=hx;obtain⟨y1,y2⟩:=hy;clear ag;obtain⟨b1,b2,b3,b4⟩:=jH d;have B:=jc d hd;obtain⟨dx,Q⟩:=rX (bL d);obtain⟨dy,R⟩:=rX (bD d);rw[Q]at b1 b2 B;rw[R]at b3 b4 B;have B:=hid B;have L:=hid Q;have M:=hid R;clear Q R;go_enter Tryz.func76,Tryz.ntmps76;go_wp2_with fail;(with_reducible refine(B.out _).mono ?_);rintro e w1 ⟨rfl,J⟩;have hstart:Ub w t p g v f x y d 0 w1:=⟨f,hT.below J ay.out,hG.below J ax.out,dC.refl _ _,λc k hk=>om,.of_below J⟩;clear J;go_wp2_with fail;go_loopg [1,2] 20 (λgk a b wr=>∃(m:Nat)(u z:Int),gk+m=20/\m<=16/\a=rI u/\b=rI z/\u=x-m*dx/\z=y-m*dy/\(0<m->zP g x y)/\Ub w t p g v f x y d m wr)
 case atStart=>exact⟨0,x,y,om,om,rfl,rfl,rS,rS,λh=>om,hstart⟩
 case round=>
  obtain⟨m,u,z,ab,a1,rfl,rfl,hu,hz,ac,f',O,I,ad,hL,hk⟩:=hrel;clear hstart
  have aE:-40<=u/\u<=40:=by
   rcases(show dx= -1\/dx=0\/dx=1 by omega)with e|e|e<;>rw[e]at hu<;>omega
  have aS:-40<=z/\z<=40:=by
   rcases(show dy= -1\/dy=0\/dy=1 by omega)with e|e|e<;>rw[e]at hz<;>omega
  obtain⟨u1,u2⟩:=aE;obtain⟨z1,z2⟩:=aS;have k0:=O.ptr;have Hu:=hid hu;have Hz:=hid hz;have aa:=hid ab;have al:=hid ac;clear hu hz ab ac;by_cases F:zP g u z
  .have T:zP g (x-m*bL d) (y-m*bD d):=by rw[L.out,M.out,<-Hu.out,<-Hz.out];exact F
   have Z:zP g x y:=by
    rcases Nat.eq_zero_or_pos m with h0|h0
    .have e1:=Hu.out;have e2:=Hz.out
     rw[h0]at e1 e2;simp at e1 e2;rw[<-e1,<-e2];exact F
    .exact al.out h0
   have a0:=Ia U Z T;obtain⟨c,hc,P⟩:=KU U T;rw[L.out,M.out,<-Hu.out,<-Hz.out]at hc;have S:=kD wr p g v u z I F.1 F.2.1 F.2.2.1 F.2.2.2;rw[hc]at S;have S:=hid S;have ai:=hid P;have aq:=P.1;clear hc P F T;have am:=hid Z;clear Z;go_wp2_with fail;(with_reducible refine(S.out).mono ?_);rintro e w' ⟨rfl,rfl⟩;go_wp2_with fail;(with_reducible refine(FV _ t p f' g v c d O I aw.out aq hd).mono ?_);rintro e w4 ⟨rfl,ap,ao,ar⟩;clear k0;go_wp2;go_roundg (gk-1)
   case measure=>have:=aa.out;omega
   case rel=>exact⟨m+1,_,_,by have:=aa.out;omega,om,rfl,rfl,by have:=Hu.out;rw[Int.natCast_add,Int.add_mul];omega,by have:=Hz.out;rw[Int.natCast_add,Int.add_mul];omega,λ_=>am.out,_,ap,ao,ad.set c d,Ig hL ai.out,hk.trans ar⟩
  .have ho:¬zP g (x-m*bL d) (y-m*bD d):=by rw[L.out,M.out,<-Hu.out,<-Hz.out];exact F
   have S:=hid (mX wr p g v u z I (λh=>F h));have Ho:=hid ho;clear ho F;go_wp2_with fail;(with_reducible refine(S.out).mono ?_);rintro e w' ⟨rfl,rfl⟩;clear k0;go_wp2;go_end0;exact⟨rfl,f',O,I,ad,Mh U hL Ho.out,hk⟩
def Full(g:G)(f:Nat->Nat->Int):Prop:=∀c d,c<g.n->d<8->f c d=iM g c d
theorem Sg(R:g.ok){t:Bool}(Q:c<g.n)(u v:Int)(h:¬(u=(g.X c:Nat)/\v=(g.Y c:Nat))):(dN g c t).op u v=g.op u v:=by
 by_cases z:0<=u/\u<g.w/\0<=v/\v<g.h
 .obtain⟨L,O,M,P⟩:=z
  obtain⟨i,rfl⟩:=Zj L;obtain⟨j,rfl⟩:=Zj M;unfold G.op dN;simp only[Int.toNat_natCast];rw[upd_ne];intro e;apply h;have I:g.X c=i:=by rw[<-e];exact G.qI om
  have J:g.Y c=j:=by rw[<-e];exact G.qJ om
  rw[I,J];exact⟨rfl,rfl⟩
 .have B:(dN g c t).op u v=false:=by unfold G.op dN;simp only;rw[decide_eq_false z];rfl
  have F:g.op u v=false:=by unfold G.op;rw[decide_eq_false z];rfl
  rw[B,F]
def Xx(i j k i' j' k':Nat):Prop:=i'<3/\j'<3/\k'<8/\(i'<i\/(i'=i/\(j'<j\/(j'=j/\k'<k))))
def uu(W0:World)(t p:Nat)(g':G)(v':Int)(f:Nat->Nat->Int)(x y:Int)(i j k:Nat)(w:World):Prop:=
 ∃f',TabAt w t p f'/\aC w p g' v'/\dC g' f f'/\(∀i' j' k',Xx i j k i' j' k'->zP g' (x-1+j') (y-1+i')->∀c m:Nat,Behind g' (x-1+j') (y-1+i') k' c m->f' c k'=iM g' c k')/\Kept [t,p] W0 w
theorem uu.mono{g':G}{i j k I J L:Nat}(h:uu W0 t p g' v' f x y i j k w)(U:∀u z B,Xx I J L u z B->Xx i j k u z B):uu W0 t p g' v' f x y I J L w:=by
 obtain⟨M,O,P,Q,R,T⟩:=h;exact⟨M,O,P,Q,λu z B F=>R u z B (U _ _ _ F),T⟩
theorem OZ{u:Nat}{b:Bool}(P:g.ok)(B:u<g.n)(hf:Full g f)(h:uu W0 t p (dN g u b) v' f (g.X u:Nat) (g.Y u:Nat) 3 0 0 w):∃z,TabAt w t p z/\aC w p (dN g u b) v'/\Full (dN g u b) z/\Kept [t,p] W0 w:=by
 obtain⟨z,Z,k,S,h4,h5⟩:=h;refine⟨z,Z,k,λc d M O=>?_,h5⟩;rcases S c d with e|e
 .by_cases Q:iM (dN g u b) c d=iM g c d
  .rw[e,hf c d M O,Q]
  .have I:(dN g u b).Jr d (g.X c:Nat) (g.Y c:Nat)≠g.Jr d (g.X c:Nat) (g.Y c:Nat):=by
    intro U;apply Q;unfold iM;show(((dN g u b).Jr d (g.X c:Nat) (g.Y c:Nat):Nat):Int)=_;rw[U]
   obtain⟨m,hm,F,a1,a2,a3,a4⟩:=G.GA P (g':=dN g u b) rfl rfl (zx:=(g.X u:Nat)) (zy:=(g.Y u:Nat)) (Sg P B) I;obtain⟨T,hj⟩:=Zj (show 0<=(g.X c:Int)+m*bL d-((g.X u:Int)-1)by omega);obtain⟨R,hi⟩:=Zj (show 0<=(g.Y c:Int)+m*bD d-((g.Y u:Int)-1)by omega);have L:(g.X u:Int)-1+T=(g.X c:Int)+m*bL d:=om;have J:(g.Y u:Int)-1+R=(g.Y c:Int)+m*bD d:=om;refine h4 R T d ⟨om,om,O,.inl om⟩ ?_ c m ⟨M,?_,?_⟩
   .rw[L,J];exact F
   .rw[L];show(g.X c:Int)=_;omega
   .rw[J];show(g.Y c:Int)=_;omega
 .exact e
theorem dC.Xb(k:dC g f' f'')(h:zP g x y->∀c m:Nat,Behind g x y d c m->f' c d=iM g c d):zP g x y->∀c m:Nat,Behind g x y d c m->f'' c d=iM g c d:=
 λu c m z=>k.keep (h u c m z)
theorem M4{W0 w1 w2:World}{g':G}{i j k:Nat}{F:Nat->Nat->Int}(M:∀z B u,Xx i j k z B u->zP g' (x-1+B) (y-1+z)->∀c m:Nat,Behind g' (x-1+B) (y-1+z) u c m->F c u=iM g' c u)(L:dC g' f F)(O:Kept [t,p] W0 w1){e:Ending}(P:Ua w1 t p g' v' F (x-1+j) (y-1+i) k e w2):uu W0 t p g' v' f x y i j (k+1) w2:=by
 obtain⟨_,J,R,T,I,U,Z⟩:=P;refine⟨J,R,T,L.trans I,?_,O.trans (Z.more rS)⟩;intro z B u Q;by_cases e:z=i/\B=j/\u=k
 .obtain⟨rfl,rfl,rfl⟩:=e;exact U
 .refine I.Xb (M z B u ?_)
  obtain⟨g,S,v3,v4⟩:=Q;exact⟨g,S,v3,om⟩
def XP(W0:World)(t p:Nat)(g':G)(v':Int)(e:Ending)(w:World):Prop:=e=.returned (.tuple #[.bool true,.nilIface])/\∃f',TabAt w t p f'/\aC w p g' v'/\Full g' f'/\Kept [t,p] W0 w
theorem IU(w:World)(t p:Nat)(f:Nat->Nat->Int)(g:G)(v:Int)(c:Nat)(b:Bool)(S:TabAt w t p f)(M:aC w p g v)(T:t≠p)(hf:Full g f)(U:c<g.n)(hb:g.b c= !b)(hv:0<=v/\v<=1099511627776):Calls Tryz.prog 36 #[vP t,rI (c:Nat),.bool b] w (XP w t p (dN g c b) (v+1)):=by
 have ab:=M.1;have hX:g.X c<16:=by have:=G.ji M.1 c;have:=M.1.2.1;omega
 have hY:g.Y c<16:=by have:=G.iJ U;have:=M.1.2.2.2;omega
 have aa:c<(dN g c b).n:=U;have R:=hid T;have hf:=hid hf;have hb:=hid hb;clear T;have k0:=S.ptr;go_enter Tryz.func36,Tryz.ntmps36;go_wp2_with fail;(with_reducible refine(kE _ p g v c b M U hb.out hv).mono ?_);rintro e w1 ⟨rfl,B,L⟩;have F:=S.kept L (by simp;exact R.out);have J:Kept [t,p] w w1:=L.more rS;clear k0;have k0:=F.ptr;go_wp2_with fail;(with_reducible refine(aU _ p (dN g c b) (v+1) c B aa).mono ?_);rintro e w2 ⟨rfl,I⟩;have hstart:uu w t p (dN g c b) (v+1) f (g.X c:Nat) (g.Y c:Nat) 0 0 0 w2:=⟨f,F.below I F.lt,B.below I B.lt,dC.refl _ _,λi' j' k' hv=>by obtain⟨_,_,_,h⟩:=hv;omega,J.trans (.of_below I)⟩;have eX:(dN g c b).X c=g.X c:=rfl;have eY:(dN g c b).Y c=g.Y c:=rfl;rw[eX,eY];clear k0 F B L J I eX eY S M;go_wp2_with fail;go_loopw [13] (λa wr=>∃(i:Nat)(u:Int),i<=3/\a=rI u/\u=(g.Y c:Nat)-1+i/\uu w t p (dN g c b) (v+1) f (g.X c:Nat) (g.Y c:Nat) i 0 0 wr) (λa _=>(30-intOf a).toNat)
 case atStart=>exact⟨0,_,om,rfl,om,hstart⟩
 case round=>
  obtain⟨i,u,hi,rfl,hu,P⟩:=hrel;clear hstart;have u1:-1<=u:=om;have u2:u<=20:=om;have Hu:=hid hu;by_cases ad:i<3
  .have u3:u<=(g.Y c:Nat)+1:=om
   clear hu;go_wp2_with fail;obtain⟨wo,rfl⟩:∃wo:World,wo=wr:=⟨_,rfl⟩
   go_loopw [14] (λa wr=>∃(j:Nat)(z:Int),j<=3/\a=rI z/\z=(g.X c:Nat)-1+j/\uu w t p (dN g c b) (v+1) f (g.X c:Nat) (g.Y c:Nat) i j 0 wr) (λa _=>(30-intOf a).toNat)
   case atStart=>exact⟨0,_,om,rfl,om,P⟩
   case round=>
    obtain⟨j,z,hj,rfl,hz,P⟩:=hrel;have z1:-1<=z:=om;have z2:z<=20:=om;have Hz:=hid hz;by_cases ac:j<3
    .have z3:z<=(g.X c:Nat)+1:=om
     clear hz;go_wp2_with fail;obtain⟨wp,rfl⟩:∃wp:World,wp=wr:=⟨_,rfl⟩
     go_loopw [59] (λa wr=>∃k:Nat,k<=8/\a=rI k/\uu w t p (dN g c b) (v+1) f (g.X c:Nat) (g.Y c:Nat) i j k wr) (λa _=>8-(intOf a).toNat)
     case atStart=>exact⟨0,om,rfl,P⟩
     case round=>
      obtain⟨k,hk,rfl,f1,s1,s2,s3,s4,s5⟩:=hrel;by_cases Q:k<8
      .go_wp2_with fail
       (with_reducible refine(TU _ t p f1 (dN g c b) (v+1) z u k s1 s2 R.out Q om om).mono ?_);rintro e w4 hL;obtain⟨rfl,O⟩:=hL;have Z:uu w t p (dN g c b) (v+1) f (g.X c:Nat) (g.Y c:Nat) i j (k+1) w4:=M4 s4 s3 s5 (e:=.returned (.tuple #[])) (by rw[<-Hu.out,<-Hz.out];exact⟨rfl,O⟩);clear O s1 s2 s3 s4 s5;go_wp2;go_roundw
       case rel=>exact⟨k+1,om,by go_num,Z⟩
       case measure=>exact rM
      .obtain rfl:k=8:=om
       have m:uu w t p (dN g c b) (v+1) f (g.X c:Nat) (g.Y c:Nat) i (j+1) 0 wr:=uu.mono ⟨f1,s1,s2,s3,s4,s5⟩ (λi' j' k'⟨v1,v2,v3,v4⟩=>⟨v1,v2,v3,om⟩);go_wp2;go_roundw
       case rel=>exact⟨j+1,_,om,rfl,by have:=Hz.out;omega,m⟩
       case measure=>exact rM
    .obtain rfl:j=3:=om
     have z3:(g.X c:Nat)+1<z:=om;have m:uu w t p (dN g c b) (v+1) f (g.X c:Nat) (g.Y c:Nat) (i+1) 0 0 wr:=P.mono (λi' j' k'⟨v1,v2,v3,v4⟩=>⟨v1,v2,v3,om⟩);clear hz;go_wp2;go_roundw
     case rel=>exact⟨i+1,_,om,rfl,by have:=Hu.out;omega,m⟩
     case measure=>exact rM
  .obtain rfl:i=3:=om
   have u3:(g.Y c:Nat)+1<u:=om;clear hu;go_wp2;go_ret2;exact⟨rfl,OZ ab U hf.out P⟩
theorem VT(w:World)(p:Nat)(g:G)(v:Int)(B d:Nat)(h:aG w p g v)(ad:B<g.n)(hd:d<8):Calls Tryz.prog 19 #[vP p,rI (B:Nat),rI (d:Nat)] w (Rt w (rI (iM g B d))):=by
 have hp:=hid h.lt;have M:=h.1;obtain⟨o1,o2,o3,o4⟩:=h.1;have hn:=G.bA h.1;obtain⟨r,hr⟩:=rX (iM g B d);rw[hr];have Hr:=hid hr;clear hr;go_enter Tryz.func19,Tryz.ntmps19;go_wp2_with fail;go_loopw [1,7] (λa i wr=>∃k c:Nat,k<=15/\i=rI k/\a=rI c/\c<g.n/\(g.X c:Int)=g.X B+k*bL d/\(g.Y c:Int)=g.Y B+k*bD d/\G.run g d (g.X B:Nat) (g.Y B:Nat) k/\Below w.heap.size w wr) (λ_ i _=>20-(intOf i).toNat)
 case atStart=>exact⟨0,B,om,rfl,rfl,ad,rS,rS,G.zI _ _ _ _,br⟩
 case round=>
  obtain⟨k,c,hk,rfl,rfl,hc,hX,hY,J,HB⟩:=hrel;have ag:=Ph M hc;have eX:(c:Int)%g.w=(g.X c:Nat):=by unfold G.X;simp
  have eY:(c:Int)/g.w=(g.Y c:Nat):=by unfold G.Y;simp
  have ai:=G.iJ hc;have q1:0<=(c:Int)/g.w:=om;have q2:(c:Int)/g.w<=256:=om;have hf:=hid (rN eX eY);have u:=hid (rN hX hY);have I:=hid J;have s1:=(h.below HB hp.out).size.1;have s2:=ZE s1;clear eX eY hX hY J;go_wp2_with fail;refine qb HB (λx(z:Below wr.heap.size wr x)=>Kq x p g v c d _ _ (h.below (HB.trans (z.mono HB.size)) hp.out) hd ag hf.out.1 hf.out.2) λw2 L al=>?_;clear s1 s2 q1 q2;cases U:g.fG c d with
  |false=>
   have e:r=(k:Int):=by
    rw[<-Hr.out];unfold iM;rw[G.GD M I.out (by rw[<-u.out.1,<-u.out.2];exact U)]
   subst e;clear U;go_wp2;go_ret;exact⟨rfl,L⟩
  |true=>
   obtain⟨P,aa⟩:=to_eq U;obtain⟨_,Q,R⟩:=G.dV U;have O:=G.zH I.out (by rw[<-u.out.1,<-u.out.2];exact U);have am:=G.uZ M O;obtain⟨T,S⟩:=rX (g.to c d);rw[S]at P aa Q R;have Z:(g.X T:Int)=g.X B+((k+1:Nat):Int)*bL d:=by rw[Q,u.out.1,Int.natCast_add,Int.add_mul];omega
   have m:(g.Y T:Int)=g.Y B+((k+1:Nat):Int)*bD d:=by rw[R,u.out.2,Int.natCast_add,Int.add_mul];omega
   have F:=hid (rN Z m);have cT:=hid (λw' h'=>IE w' p g v c d (T:Nat) h' hc hd P);have ab:=hid O;clear S Q R Z m P U O;go_wp2_with fail;(with_reducible refine(cT.out _ (h.below L hp.out)).mono ?_);rintro e w3 ⟨rfl,ac⟩;go_wp2;go_roundw
   case rel=>exact⟨k+1,T,om,by go_num,rfl,aa,F.out.1,F.out.2,ab.out,ae L ac⟩
   case measure=>exact rM
def fQ(w:World)(t p:Nat)(g:G)(v:Int):Prop:=∃f,TabAt w t p f/\aC w p g v/\Full g f
theorem fQ.kept(h:fQ w t p g v)(u:Kept S w w')(J:t∉S)(I:p∉S):fQ w' t p g v:=by
 obtain⟨f,z,B,F⟩:=h;exact⟨f,z.kept u J,B.kept u I,F⟩
theorem fQ.below(h:fQ w t p g v)(u:Below w.heap.size w w'):fQ w' t p g v:=h.kept (S:=[]) (.of_below u) rS rS
theorem FW(w:World)(u:Nat)(g:G)(v:Int)(P:aC w u g v):Calls Tryz.prog 67 #[vP u] w λe z=>∃t p,e=.returned (vP t)/\w.heap.size<=p/\p<t/\fQ z t p g v/\Below w.heap.size w z:=
 (QU w u g v P).mono λ_ _⟨t,p,B,F,I,f,J,L,M,O⟩=>⟨t,p,B,F,I,⟨f,J,L,λc d Q R=>M c d ⟨Q,R⟩⟩,O⟩
theorem fQ.lt(h:fQ w t p g v):t<w.heap.size/\p<w.heap.size:=by
 obtain⟨f,u,z,_⟩:=h;exact⟨u.lt,z.lt⟩
theorem Ints.WO{ad:Addr}{n:Nat}{f:Nat->Int}(h:Ints w (some ad) n f)(B:0<n):ad.block<w.heap.size:=by
 obtain⟨u,e,z,_⟩:=h B;injection e with e;subst e;exact z
theorem sU(B:j<(gI g k).length):∃d:Nat,d<8/\g.fG k d=true/\(gI g k).getD j 0=(d:Int)/\(g.moves k)[j]? =some d:=by
 have F:(gI g k).length=(g.moves k).length:=by rw[jA,Zr]
 have u:j<(g.moves k).length:=om;have z:=List.getElem_mem u;unfold G.moves at z;have:=List.mem_filter.1 z;refine⟨(g.moves k)[j],List.mem_range.1 this.1,this.2,?_,Zc u⟩;rw[jA];simp[List.getD,u]
theorem af{a:Addr}{v:Value}(h:Below w.heap.size w w')(u:w.cell? a=some v):w'.cell? a=some v:=(h.cell (ZF w _ u)).trans u
theorem aD{o:Obj}{a:Addr}{v:Value}(h:w.cell? a=some v):(w.alloc o).cell? a=some v:=by
 rw[World.cell?_alloc_old w _ _ (Nat.ne_of_lt (ZF w _ h))];exact h
theorem rz(d:Nat):∃z u:Int,bu d=⟨z,u⟩/\(d:Int).tmod 2=u/\1-u=z/\0<=u/\u<=1:=by
 refine⟨1-((d%2:Nat):Int),((d%2:Nat):Int),?_,?_,rfl,om,om⟩
 .unfold bu
  rcases Nat.mod_two_eq_zero_or_one d with h|h<;>simp[h]
 .rw[Int.tmod_eq_emod_of_nonneg om];simp
def Ag(g:G)(k j:Nat)(b:Nat)(e:C):Prop:=∃d,d∈(g.moves k).drop j/\b=g.to k d/\e=bu d
theorem Bl{k j d B:Nat}(I:(g.moves k)[j]? =some d)(L:g.to k d=B):∀b e,Ag g k j b e->Ag g k (j+1) b e\/(b=B/\e=bu d):=by
 rintro b e ⟨F,u,rfl,rfl⟩;obtain⟨J,z⟩:=Zb.1 I;rw[List.drop_eq_getElem_cons J,z]at u;rcases Zd.1 u with rfl|u
 .exact .inr ⟨L,rfl⟩
 .exact .inl ⟨F,u,rfl,rfl⟩
theorem MJ{k z:Nat}(h:(gI g k).length=z):∀b e,Ag g k z b e->False:=by
 rintro b e ⟨d,u,_⟩;rw[jA,Zr]at h;rw[List.drop_eq_nil_of_le om]at u;cases u
theorem QN(d:Nat):bu d≠C.zero:=by unfold bu C.zero;split<;>simp
theorem QM(d:Nat):C.le (bu d) ⟨0,1⟩:=by unfold bu;split<;>decide
def rJ(hp:Nat->Option C)(z:Int):Option C:=if 0<=z then hp z.toNat else none
theorem xI(u:Nat->Option C)(n:Nat):rJ u (n:Nat)=u n:=by unfold rJ;rw[if_pos om];rfl
theorem CE(u:Nat->Option C)(n:Nat)(v:Option C):hset (rJ u) (n:Nat) v=rJ (upd u n v):=by
 funext z;unfold hset rJ upd;by_cases h:0<=z
 .rw[if_pos h,if_pos h]
  by_cases e:z=(n:Nat)
  .rw[if_pos e,if_pos om]
  .rw[if_neg e,if_neg om]
 .rw[if_neg h,if_neg h,if_neg om]
theorem EF:(λ_=>none:Int->Option C)=rJ (λ_=>none):=by funext z;unfold rJ;split<;>rfl
theorem pz(N:Nat):bJ (λ_=>none) N=0:=by unfold bJ;exact Aq N
def pushed(hp:Nat->Option C)(k:Nat)(c:C)(t:Bool):Nat->Option C:=if t=true then upd hp k (some c)else hp
def lower?(hp:Nat->Option C)(k:Nat)(c:C):Bool:=match hp k with|none=>true|some d=>decide (C.cmp c d<0)
theorem pK{c:C}(h:lower? hp k c=true):∀d,hp k=some d->C.lt c d:=by
 intro d u;unfold lower? at h;rw[u]at h;simp at h;exact C.dP.1 h
theorem yS{c:C}(h:lower? hp k c=false):∃d,hp k=some d/\C.le d c:=by
 unfold lower? at h;cases u:hp k with
 |none=>rw[u]at h;cases h
 |some d=>
  rw[u]at h;simp at h;exact⟨d,rfl,C.yo.1 h⟩
theorem uN(w:World)(S:List Nat)(q N:Nat)(u:Nat->Option C)(k:Nat)(B z:Int)(t:Bool)(h:bU w S q (bJ u N) (rJ u))(R:k<N)(Q:N<=1000000)(L:kZ ⟨B,z⟩)(M:lower? u k ⟨B,z⟩=t):Calls Tryz.prog 191 #[vP q,rI (k:Nat),.agg #[rI B,rI z]] w (rO w S q (bJ (pushed u k ⟨B,z⟩ t) N) (rJ (pushed u k ⟨B,z⟩ t)) (.bool t)):=by
 cases F:u k with
 |none=>
  have e:t=true:=by rw[<-M];unfold lower?;rw[F]
  subst e;have:=Cz w S q (bJ u N) (rJ u) (k:Nat) B z h (by rw[xI];exact F) L (Zg (jY _ _) Q);rw[CE]at this;unfold pushed;rw[if_pos rfl,lQ R F];exact this
 |some d=>
  obtain⟨J,I⟩:=d;have e:decide (C.cmp ⟨B,z⟩ ⟨J,I⟩<0)=t:=by rw[<-M];unfold lower?;rw[F]
  have:=CB w S q (bJ u N) (rJ u) (k:Nat) B z J I t h (by rw[xI];exact F) L e
  have O:(if t=true then hset (rJ u) (k:Nat) (some ⟨B,z⟩)else rJ u)=rJ (pushed u k ⟨B,z⟩ t):=by
   unfold pushed;split
   .rw[CE]
   .rfl
  have P:bJ (pushed u k ⟨B,z⟩ t) N=bJ u N:=by
   unfold pushed bJ;split
   .exact Au N (by rw[F];simp) _
   .rfl
  rw[O]at this;rw[P];exact this
def XL(w:World)(S:List Nat)(q N:Nat)(hp:Nat->Option C)(e:Ending)(w':World):Prop:=
 ∃k ds dd,hp k=some ⟨ds,dd⟩/\(∀j d,hp j=some d->C.le ⟨ds,dd⟩ d)/\e=.returned (.tuple #[rI (k:Nat),.agg #[rI ds,rI dd],.bool true])/\bU w' S q (bJ (upd hp k none) N) (rJ (upd hp k none))/\Kept S w w'
theorem It.Xa{a b:It}(h:It.le a b):C.le a.c b.c:=by
 unfold It.le It.lt at h;intro u;exact h (.inl u)
def XK(w:World)(S:List Nat)(q N:Nat)(hp:Nat->Option C)(e:Ending)(w':World):Prop:=
 ∃k ds dd,hp k=some ⟨ds,dd⟩/\(∀j d,hp j=some d->It.le ⟨⟨ds,dd⟩,(k:Nat)⟩ ⟨d,(j:Nat)⟩)/\e=.returned (.tuple #[rI (k:Nat),.agg #[rI ds,rI dd],.bool true])/\bU w' S q (bJ (upd hp k none) N) (rJ (upd hp k none))/\Kept S w w'
theorem EE(w:World)(S:List Nat)(q N:Nat)(u:Nat->Option C)(h:bU w S q (bJ u N) (rJ u))(m:∀j,u j≠none->j<N)(hN:N<=1000000)(h0:bJ u N≠0):Calls Tryz.prog 149 #[vP q] w (XK w S q N u):=by
 obtain⟨k,Z⟩:∃k,bJ u N=k+1:=⟨bJ u N-1,om⟩;rw[Z]at h;refine(Cy w S q k (rJ u) h (by have:=jY u N;omega)).mono ?_;rintro e w' ⟨id,J,I,B,O,P,Q,R⟩
 have F:0<=id:=by
  apply Zu;intro g;unfold rJ at B;rw[if_neg g]at B;cases B
 obtain⟨j,rfl⟩:=Zj F;have z:u j=some ⟨J,I⟩:=by rw[<-xI u j];exact B
 have U:j<N:=m j (by rw[z];simp);have M:bJ u N=bJ (upd u j none) N+1:=Ee U (by rw[z];simp);refine⟨j,J,I,z,λi d T=>O (i:Nat) d (by rw[xI];exact T),P,?_,R⟩;have L:bU w' S q k (hset (rJ u) (j:Nat) none):=Q;rw[CE,show k=bJ (upd u j none) N by omega]at L;exact L
theorem O9(w:World)(S:List Nat)(q N:Nat)(u:Nat->Option C)(h:bU w S q (bJ u N) (rJ u))(R:∀j,u j≠none->j<N)(P:N<=1000000)(F:bJ u N≠0):Calls Tryz.prog 149 #[vP q] w (XL w S q N u):=
 (EE w S q N u h R P F).mono λ_ _⟨k,B,z,I,J,L,M,O⟩=>⟨k,B,z,I,λj d Q=>It.Xa (J j d Q),L,M,O⟩
theorem aZ{b o:Nat}{v:Value}(h:Kept S w w')(z:b∉S)(u:w.cell? ⟨b,o,none⟩=some v):w'.cell? ⟨b,o,none⟩=some v:=by
 have B:=ZF _ _ u;have e:w'.cell? ⟨b,o,none⟩=w.cell? ⟨b,o,none⟩:=World.cell?_of_block (h.block b B z);rw[e];exact u
theorem QQ(d:Nat):0<=(bu d).s/\(bu d).s<=1/\0<=(bu d).d/\(bu d).d<=1:=by unfold bu;split<;>simp
theorem lY{f:Nat->Option Value}(h:∀j,f j=none):eQ f=λ_=>none:=by
 funext z;unfold eQ;split
 .exact h _
 .rfl
theorem Ar{N:Nat}(h:bJ hp N=0)(z:∀j,hp j≠none->j<N):∀j,hp j=none:=by
 intro j;cases u:hp j with
 |none=>rfl
 |some c=>
  have:=Le h j (z j (by rw[u];simp));rw[u]at this;cases this
end Go.Proofs.YtnifggkjieemeaaGreatDoor
namespace Go.Proofs
open Go.Lib (hid)
open Go.Shelf
def Tryz.lays112_ren:Go.Shelf.Ren:=⟨λ|112=>194|n=>n,λ|28=>51|3=>3|4=>4|0=>0|n=>n,λ|n=>n⟩
theorem Tryz.lays112:Go.Proofs.Lays.n112 Tryz.prog Tryz.lays112_ren:=by repeat' first|(intros;kernel_rfl)|decide|constructor
open Go.RowKit Go.Lib Go.Sort in
theorem Tryz.slices_Reverse_int(g k m:Nat)(u:List Int)(w:World)(B:Holds (Value.int .i64) w g k u.toArray)(z:u.length<=9223372036854775807):Calls Tryz.prog 194 #[.slice (some ⟨g,k,none⟩) u.length m] w λe F=>e=.returned (.tuple #[])/\∃n,F=putRow (Value.int .i64) (Sort.ahead w n) g k u.reverse.toArray:=Any.slices_Reverse_int Tryz.lays112 g k m u w B z
open Go.RowKit Go.Lib Go.Sort in
theorem Tryz.slices_Reverse_int_empty(a:Option Addr)(g:Nat)(w:World):Calls Tryz.prog 194 #[.slice a 0 g] w λe k=>e=.returned (.tuple #[])/\k=w:=Any.slices_Reverse_int_empty Tryz.lays112 a g w
end Go.Proofs
namespace Go.Proofs.YtnifggkjieemeaaGreatDoor
open Go.Lib (hid)
open Go.RowKit Go.Sort FR
variable {g:G}{S todo:List Nat}{b bc bi fr i k n:Nat}{is:Nat->Bool}{c:Nat->C}{pend:Nat->C->Prop}{f:Nat->Value}{o:Obj}{v:Value}{W w w' w7 wr:World}
theorem EI(w:World)(B:Nat)(v:Value)(m:List Int)(z:aL w B v m)(hl:m.length<=1000000000)(hB:B<=w.heap.size):Calls Tryz.prog 194 #[v] w λe F=>e=.returned (.tuple #[])/\aL F B v m.reverse/\Below B w F:=by
 rcases z.2 with⟨rfl,hn⟩|⟨g,I,J,rfl,S,R,Z,hm,hs,T⟩
 .have:m=[]:=List.eq_nil_of_length_eq_zero hn
  subst this;refine(Tryz.slices_Reverse_int_empty none 0 w).mono ?_;rintro e F ⟨L,M⟩;subst M;exact⟨L,aL.nil _ _,br⟩
 .have P:J.toList.take m.length=m.map (Value.int .i64):=by rw[Nat.mul_one]at T;exact T
  refine(Tryz.slices_Reverse_int g 0 I m w (holds_of_blockI R P) om).mono ?_;rintro e F ⟨L,n,M⟩;have U:F=grow (putRow (Value.int .i64) (Sort.ahead w n) g 0 m.reverse.toArray) #[]:=by rw[grow_empty];exact M
  have Q:=ownsRow_sortedI (w:=w) (n:=n) (os:=#[]) (ss:=m) (ts:=m.reverse) rS S R Z hm hs;have u:=grownBy_sortedI (w:=w) (g:=g) (n:=n) (os:=#[]) m.reverse.toArray;rw[<-U]at Q u;refine⟨L,?_,⟨u.os,u.tape,u.output,u.size,λk hk=>?_⟩⟩
  .unfold aL;rw[List.length_reverse];exact Q
  .by_cases O:k<w.heap.size
   .exact u.block k O (by intro e;injection e with e;omega)
   .omega
theorem Wh(w:World)(S b2 b3 b4 P:Nat)(g:G)(v:Int)(A:Option Addr)(n m:Nat)(f:Nat->Int)(i J k d:Nat)(cell z:Int)(t:Bool)(R:aC w P g v)(T:Ints w A n f)(I:i<n)(U:J=i+1)(am:J<=1000000)(F:f i=(k:Nat))(Z:k<g.n)(hd:d<8)(hz:g.F3 k d=z)(ht:(z==cell)=t)(c1:w.cell? ⟨S,0,none⟩=some (vP P))(c2:w.cell? ⟨b2,0,none⟩=some (.slice A n m))(c3:w.cell? ⟨b3,0,none⟩=some (rI (J:Nat)))(c4:w.cell? ⟨b4,0,none⟩=some (rI cell)):Calls Tryz.prog 95 #[rI (d:Nat),vP S,vP b2,vP b3,vP b4] w (Rt w (.bool t)):=by
 obtain⟨ad,Q⟩:=T.addr om;have u:=T;rw[Q]at u;have ao:=λL=>aP (m:=m) Q I L;have hE:=u.cell br I;rw[F]at hE
 have ap:IntKind.i64.wrap ((J:Int)-1)=(i:Int):=by
  rw[show(J:Int)-1=(i:Int)by omega];exact IntWalk.i64_in _ om
 have hp:=hid R.lt;have aa:=ZE c1;have ab:=ZE c2;have ac:=ZE c3;have ag:=ZE c4;have ai:=ZE hE;have M:=Below.refl w.heap.size w;have B:∀L wy,Ending.returned (Value.bool (z==cell))=.returned (.bool t)/\Below w.heap.size L wy↔Below w.heap.size L wy:=λ_ _=>by rw[ht];simp
 have B:=hid B;have HG:=hid R;have Hz:=hid hz;clear Q T u F R U ht hz;go_enter Tryz.func95,Tryz.ntmps95;go_wp2_with fail;refine qb M (λx(z:Below w.heap.size w x)=>WL x P g v k d _ (HG.out.below (M.trans (z.mono M.size)) hp.out) Z hd Hz.out) λw2 O al=>?_;go_wp2;go_ret;exact(B.out _ _).2 O
def Sk(o:Option Nat):Int:=match o with|some i=>(i:Nat)|none=>-1
theorem idxFunc(w:World)(b1 b2 b3 b4 gp:Nat)(g:G)(v:Int)(A A1:Option Addr)(n m m1 M:Nat)(f:Nat->Int)(i iv k c:Nat)(hG:aC w gp g v)(hI:Ints w A n f)(am:i<n)(ao:iv=i+1)(al:iv<=1000000)(ag:f i=(k:Nat))(aw:k<g.n)(ac:Ints w A1 M (λx=>(gI g k).getD x 0))(R:(gI g k).length=M)(c1:w.cell? ⟨b1,0,none⟩=some (vP gp))(c2:w.cell? ⟨b2,0,none⟩=some (.slice A n m))(c3:w.cell? ⟨b3,0,none⟩=some (rI (iv:Nat)))(c4:w.cell? ⟨b4,0,none⟩=some (rI (c:Nat))):Calls Tryz.prog 94 #[.slice A1 M m1,.func (.func 95) #[] #[vP b1,vP b2,vP b3,vP b4]] w (Rt w (rI (Sk (g.qd k c)))):=by
 have aE:M<=8:=by rw[<-R];exact iG _ _
 have aa:=hid R;have cC:=hid (λw'(T:Below w.heap.size w w')d z t hd hz ht=>Wh w' b1 b2 b3 b4 gp g v A n m f i iv k d (c:Nat) z t (hG.below T hG.lt) (hI.below T) am ao al ag aw hd hz ht (af T c1) (af T c2) (af T c3) (af T c4));have S:=hid ac;clear hG hI am ao al ag c1 c2 c3 c4 ac R;go_enter Tryz.func94,Tryz.ntmps94;go_wp2_with fail;go_loopw [8] (λkv wr=>∃j:Nat,j<=M/\kv=rI j/\(∀I d:Nat,I<j->(g.moves k)[I]? =some d->g.to k d≠c)/\Below w.heap.size w wr) (λkv _=>M-(intOf kv).toNat)
 case atStart=>exact⟨0,om,rfl,λI d h=>om,br⟩
 case round=>
  obtain⟨j,hj,rfl,F,U⟩:=hrel;have F:=hid F;by_cases Q:j<M
  .obtain⟨aS,hA1⟩:=S.out.addr om
   have P:=S.out;rw[hA1]at P;have ay:=λwx=>aP (m:=m1) hA1 Q wx;have ab:=P.cell U Q;obtain⟨d,ar,J,ai,L⟩:=sU (g:=g) (k:=k) (j:=j) (by rw[aa.out];exact Q);rw[ai]at ab;obtain⟨ap,ax⟩:=to_eq J;obtain⟨t,ht⟩:∃t,(((g.to k d:Nat):Int)==(c:Nat))=t:=⟨_,rfl⟩;have cD:=hid (cC.out wr U d _ t ar ap ht);have Ht:=hid ht;have u:=hid L;clear hA1 P ai ap ht L J ax;go_wp2_with fail;(with_reducible refine(cD.out).mono ?_);rintro e w2 ⟨rfl,ad⟩;have Z:=ae U ad;clear cD U ad ab;cases t with
   |true=>
    have hr:Sk (g.qd k c)=(j:Nat):=by
     have aq:g.to k d=c:=by have:=Ht.out;simp at this;omega
     cases hw:g.qd k c with
     |none=>exact absurd aq (G.vJ hw j d u.out)
     |some i'=>
      obtain⟨O,h1,h2,h3⟩:=G.jB hw;rw[(h3 j d u.out).1 aq];rfl
    have Hr:=hid hr;clear hr;go_wp2;go_ret;exact⟨by rw[Hr.out];rfl,Z⟩
   |false=>
    have B:∀I O:Nat,I<j+1->(g.moves k)[I]? =some O->g.to k O≠c:=by
     intro I O h1 h2;by_cases e:I=j
     .subst e
      have:=u.out;rw[h2]at this;injection this with this;subst this
      have:=Ht.out;simp at this;omega
     .exact F.out I O om h2
    have B:=hid B;go_wp2;go_roundw
    case rel=>exact⟨j+1,om,by go_num,B.out,Z⟩
    case measure=>exact rM
  .obtain rfl:j=M:=om
   have hr:Sk (g.qd k c)= -1:=by
    cases hw:g.qd k c with
    |none=>rfl
    |some i'=>
     obtain⟨O,h1,h2,h3⟩:=G.jB hw;have a1:=(Zb.1 h1).1;have a0:(g.moves k).length=j:=by rw[<-aa.out,jA,Zr]
     exact absurd h2 (F.out i' O om h1)
   have Hr:=hid hr;clear hr;go_wp2;go_ret;exact⟨by rw[Hr.out];rfl,U⟩
def Vs(k:Nat):Value:=if k=0 then .nilIface else .iface 54 (rI (k:Nat))
def Oz(x:C×Nat):Value:=.tuple #[.agg #[rI x.1.s,rI x.1.d],Vs x.2]
def Rf(W:World)(b6:Nat)(g:G)(f:Nat->Int)(i:Nat)(wr:World):Prop:=∃cs cd,g.gL f i=.inr ⟨cs,cd⟩/\wr.cell? ⟨b6,0,none⟩=some (rI cs)/\wr.cell? ⟨b6,1,none⟩=some (rI cd)/\wr.frozen? ⟨b6,0,none⟩=false/\wr.frozen? ⟨b6,1,none⟩=false/\Kept [b6] W wr
def Yv(w:World)(x:C×Nat)(e:Ending)(w':World):Prop:=e=.returned (Oz x)/\Below w.heap.size w w'
theorem uP{b o:Nat}(h:Kept S w w')(m:b∉S)(z:b<w.heap.size){t:Bool}(u:w.frozen? ⟨b,o,none⟩=t):w'.frozen? ⟨b,o,none⟩=t:=by
 have e:w'.frozen? ⟨b,o,none⟩=w.frozen? ⟨b,o,none⟩:=by simp only[World.frozen?,h.block b z m]
 rw[e];exact u
theorem Ints.iC{A:Option Addr}{f:Nat->Int}(h:Ints w A n f)(F:Kept S w w')(L:0<n->∀m,A=some m->m.block∉S):Ints w' A n f:=by
 intro I;obtain⟨m,z,B,J⟩:=h I
 exact⟨m,z,Zf B F.size,λk u=>by
  have e:w'.cell? (m.add k)=w.cell? (m.add k):=World.cell?_of_block (by rw[add_block];exact F.block _ B (L I m z));rw[e];exact J k u⟩
theorem Rf.Ip{W w7 z:World}{m i:Nat}{f:Nat->Int}{x y:Int}{u v:Value}(J:Kept [m] W w7)(O:Below w7.heap.size w7 z)(B:g.gL f i=.inr ⟨x,y⟩)(F:z.cell? ⟨m,0,none⟩=some u)(I:z.cell? ⟨m,1,none⟩=some v)(L:z.frozen? ⟨m,0,none⟩=false)(M:z.frozen? ⟨m,1,none⟩=false):Rf W m g f i ((z.setCell ⟨m,0,none⟩ (rI x)).setCell ⟨m,1,none⟩ (rI y)):=by
 have e:=dJ (x:=rI x) (y:=rI y) F I;refine⟨x,y,B,e.1,e.2,by simpa using L,by simpa using M,?_⟩;exact J.trans (((Kept.of_below O).setCell (.inl rS)).setCell (.inl rS))
theorem bn{a:Addr}{t:Bool}(h:Below w.heap.size w w')(u:a.block<w.heap.size)(m:w.frozen? a=t):w'.frozen? a=t:=(h.frozen u).trans m
theorem Lv(w:World)(p:Nat)(g:G)(v:Int)(A:Option Addr)(n m:Nat)(f:Nat->Int)(hG:aC w p g v)(hI:Ints w A n f)(hn:n<=1000000):Calls Tryz.prog 44 #[vP p,.slice A n m] w (Yv w (g.vK f n)):=by
 go_enter Tryz.func44,Tryz.ntmps44;go_upto_region 2 with(fail);refine aB ?_;intro W hW;have HW:Below w.heap.size w W:=by rw[hW];exact be
 obtain⟨b2,Z⟩:=rX w.heap.size;have bl:W.heap.size=b2+1+1+1+1:=by rw[hW];simp;omega
 have q2:W.cell? ⟨b2,0,none⟩=some (vP p):=by rw[hW,<-Z];go_simp
 have q3:W.cell? ⟨b2+1,0,none⟩=some (.slice A n m):=by rw[hW,<-Z];go_simp
 have z:W.cell? ⟨b2+1+1,0,none⟩=some (rI 0):=by rw[hW,<-Z];go_simp
 have B:W.cell? ⟨b2+1+1,1,none⟩=some (rI 0):=by rw[hW,<-Z];go_simp
 have M:W.frozen? ⟨b2+1+1,0,none⟩=false:=by rw[hW,<-Z];go_simp
 have O:W.frozen? ⟨b2+1+1,1,none⟩=false:=by rw[hW,<-Z];go_simp
 have aS:W.cell? ⟨b2+1+1+1,0,none⟩=some (rI 0):=by rw[hW,<-Z];go_simp
 have a0:W.cell? ⟨b2+1+1+1,1,none⟩=some (rI 0):=by rw[hW,<-Z];go_simp
 have F:W.frozen? ⟨b2+1+1+1,0,none⟩=false:=by rw[hW,<-Z];go_simp
 have I:W.frozen? ⟨b2+1+1+1,1,none⟩=false:=by rw[hW,<-Z];go_simp
 have ct:=hid (hG.below HW hG.lt);have cv:=hid (hI.below HW);have cL:=hG.lt;rw[Z]at cL⊢;obtain⟨b3,cy⟩:=rX (b2+1);rw[cy]at bl q3 z B M O aS a0 F I⊢;obtain⟨b4,cB⟩:=rX (b3+1);rw[cB]at bl z B M O aS a0 F I⊢;obtain⟨b6,cC⟩:=rX (b4+1);rw[cC]at bl aS a0 F I⊢;have cJ:=hG.1;have cV:=G.bA cJ;clear hW hG
 have bi:0<n->∀ad,A=some ad->ad.block<b2:=λh0 ad e=>by
  obtain⟨cO,e',bv,_⟩:=hI h0;rw[e']at e;injection e with e;subst e;omega
 have bi:=hid bi;clear hI;have hstart:Rf W b6 g f 0 W:=⟨0,0,rfl,aS,a0,F,I,Kept.refl _ _⟩;go_wp2_with fail;go_loopw [16] (λkv wr=>∃i:Nat,i<=n/\kv=rI i/\Rf W b6 g f i wr) (λkv _=>n-(intOf kv).toNat)
 case atStart=>exact⟨0,om,rfl,hstart⟩
 case round=>
  obtain⟨i,hi,rfl,cs,cd,ai,P,Q,F,I,hK⟩:=hrel;clear hstart aS a0;have q2:=aZ hK so q2;have q3:=aZ hK so q3;have z:=aZ hK so z;have B:=aZ hK so B;have M:=uP hK so om M;have O:=uP hK so om O;have bj:=hid (ct.out.EK hK so);have a6:=hid (cv.out.iC hK (λh0 ad e=>by have:=bi.out h0 ad e;simp;omega));have al:Below w.heap.size w wr:=Kept.below HW hK HW.size so;have al:=hid al;have HK:=hid hK;have c8:=hK.size;clear hK;by_cases bv:i<n
  .obtain⟨ad,hA⟩:=a6.out.addr om
   have U:=a6.out;rw[hA]at U;have a8:=λwx=>aP (m:=m) hA bv wx;have hE:=U.cell br bv;have ac:=hid ai;clear hA U ai;obtain⟨fi,bp⟩:=rX (f i);rw[bp]at hE;have a2:=hid bp;clear bp;go_upto_region 5 with(fail);refine aB ?_;intro W5 ax;have R:Below wr.heap.size wr W5:=by rw[ax];exact be
   obtain⟨b7,bm⟩:=rX wr.heap.size;have cM:W5.heap.size=b7+1+1:=by rw[ax];simp;omega
   have q7:W5.cell? ⟨b7,0,none⟩=some (rI (i:Nat)):=by rw[ax,<-bm];go_simp
   have q8:W5.cell? ⟨b7+1,0,none⟩=some (rI fi):=by rw[ax,<-bm];go_simp
   rw[bm]at⊢;obtain⟨b8,cD⟩:=rX (b7+1);rw[cD]at cM q8⊢;have q2:=af R q2;have q3:=af R q3;have z:=af R z;have B:=af R B;have M:=bn R (by simp only;omega) M;have O:=bn R (by simp only;omega) O;have P:=af R P;have Q:=af R Q;have F:=bn R (by simp only;omega) F;have I:=bn R (by simp only;omega) I;have hE:=af R hE;have ar:=hid (bj.out.below R bj.out.lt);have cb:=hid (a6.out.below R);have a3:=hid (ae al.out R);have ce:=hid (HK.out.trans (Kept.of_below R));clear ax R bj a6 al HK a8 hE;by_cases ab:0<=fi/\fi<g.n
   .obtain⟨co,cN⟩:=ab
    obtain⟨c,hc⟩:=Zj co;subst hc;have bo:c<g.n:=om;have cF:=dQ W5 p g v c ar.out bo;cases a7:g.b c with
    |true=>
     rw[a7]at cF
     have S:g.vK f n=(C.zero,4):=by
      have cm:g.fault (f i)=4:=by rw[a2.out,G.bQ bo,a7];rfl
      have:=G.o7 (G.rC ac.out (by rw[cm];decide)) (n:=n) om;rw[cm]at this;exact this
     have S:=hid S;go_wp2_with fail;(with_reducible refine cF.mono ?_);rintro e w6 ⟨rfl,u⟩;have z:=af u z;have B:=af u B;have M:=bn u (by simp only;omega) M;have O:=bn u (by simp only;omega) O;clear cF;go_wp2;have e2:=dJ (x:=rI 0) (y:=rI 0) z B;refine bodyPost_ret (v:=.tuple #[.agg #[rI 0,rI 0],.iface 54 (rI 4)]) (by simp[results,Tryz.results44,go_sem,e2]) rfl ?_;exact⟨by rw[S.out];rfl,((ae a3.out u).setCell (by simp only;omega) _).setCell (by simp only;omega) _⟩
    |false=>
     rw[a7]at cF;have ck:g.fault (f i)=0:=by rw[a2.out,G.bQ bo,a7];rfl
     have b0:=hid ck;clear ck;go_wp2_with fail;(with_reducible refine cF.mono ?_);rintro e w6 ⟨rfl,u⟩;have c5:=u.size;have q2:=af u q2;have q3:=af u q3;have z:=af u z;have B:=af u B;have q7:=af u q7;have q8:=af u q8;have M:=bn u (by simp only;omega) M;have O:=bn u (by simp only;omega) O;have P:=af u P;have Q:=af u Q;have F:=bn u (by simp only;omega) F;have I:=bn u (by simp only;omega) I;have aw:=hid (ar.out.below u ar.out.lt);have a5:=hid (cb.out.below u);have b9:=hid (ae a3.out u);have bk:=hid (ce.out.trans (Kept.of_below u));clear cF u ar cb a3 ce;rcases Nat.eq_zero_or_pos i with ap|ap
     .subst ap
      have hz:cs=0/\cd=0:=by
       have h:=ac.out;unfold G.gL at h;injection h with h
       unfold C.zero at h;injection h with h1 h2
       exact⟨h1.symm,h2.symm⟩
      obtain⟨rfl,rfl⟩:=hz;have ab:Rf W b6 g f 1 w6:=⟨0,0,G.rE b0.out,P,Q,F,I,bk.out⟩;have ab:=hid ab;clear P Q F I z B M O;go_wp2;go_roundw
      case rel=>exact⟨1,om,by go_num,ab.out⟩
      case measure=>exact rM
     .obtain⟨i',ay⟩:∃i',i=i'+1:=⟨i-1,om⟩
      have aE:i'<n:=om;have cH:((i:Int)==0)=false:=so;have T:=ac.out;rw[ay]at T;obtain⟨k,bq,cp,cW⟩:=G.KH T;have ch:=G.Dm T;simp only at ch;obtain⟨cQ,cR,cT,cU⟩:=ch;have aq:=hid T;have a1:g.fault (f (i'+1))=0:=by rw[<-ay];exact b0.out
      have a1:=hid a1;have Hc:f (i'+1)=(c:Nat):=by rw[<-ay];exact a2.out
      have Hc:=hid Hc;obtain⟨ad,hA⟩:=a5.out.addr om;have U:=a5.out;rw[hA]at U;have a8:=λwx=>aP (m:=m) hA aE wx;have hE:=U.cell br aE;rw[bq]at hE
      have c9:IntKind.i64.wrap ((i:Int)-1)=(i':Int):=by
       rw[show(i:Int)-1=(i':Int)by omega];exact IntWalk.i64_in _ om
      have bh:=hid ay;have bg:=hid bq;clear hA U T bq ay;go_upto_region 11 with(fail)
      go_region_held3 (λw'=>w'.cell? ⟨b2,0,none⟩=some (vP p)/\w'.cell? ⟨b3,0,none⟩=some (.slice A n m)/\w'.cell? ⟨b7,0,none⟩=some (rI (i:Nat))/\w'.cell? (ad.add i')=some (rI (k:Nat)))
       (first
        |(go_keep;done)
        |(go_split_ands
          exact⟨af ao au,af ao au,af ao au,af ao au⟩))
       (first
        |(go_at_call 93
          refine(Hw _ p g v k (aw.out.below (aj br) aw.out.lt) cp).mono ?_;rintro e wM ⟨A1,m1,rfl,a4,cx,ao⟩))
      have L:Below w6.heap.size w6 wM:=ae (aj br) ao;have c7:=L.size;have q2:=af L q2;have q3:=af L q3;have z:=af L z;have B:=af L B;have q7:=af L q7;have q8:=af L q8;have M:=bn L (by simp only;omega) M;have O:=bn L (by simp only;omega) O;have P:=af L P;have Q:=af L Q;have F:=bn L (by simp only;omega) F;have I:=bn L (by simp only;omega) I;have ca:=hid (ae b9.out L);have cg:=hid (bk.out.trans (Kept.of_below L));obtain⟨nl,a9⟩:=rX ((gI g k).length);rw[a9]at a4⊢;obtain⟨r,hr⟩:=rX (Sk (g.qd k c));have cI:=idxFunc wM b2 b3 b7 b8 p g v A A1 n m m1 nl f i' i k c (aw.out.below L aw.out.lt) (a5.out.below L) aE bh.out om bg.out cp a4 a9 q2 q3 q7 q8;rw[hr]at cI;have cI:=hid cI;have bz:=hid a4;have b5:=hid a9;clear aw a5 b9 bk L ao a8 hE a4 cx a9 q2 q3 q7 q8;go_wp2_with fail;(with_reducible refine cI.out.mono ?_);rintro e w7 ⟨rfl,J⟩;have c6:=J.size;have z:=af J z;have B:=af J B
      have M:=bn J (by simp only;omega) M;have O:=bn J (by simp only;omega) O;have P:=af J P;have Q:=af J Q;have F:=bn J (by simp only;omega) F;have I:=bn J (by simp only;omega) I;have cr:=hid (ae ca.out J);have cw:=hid (cg.out.trans (Kept.of_below J));have bd:=hid (bz.out.below J);clear ca cg bz J cI;cases hw:g.qd k c with
      |none=>
       rw[hw]at hr;have bw:r= -1:=hr.symm;subst bw;have S:=hid (G.o7 (G.BJ aq.out a1.out bg.out Hc.out hw) (n:=n) (by have:=bh.out;omega));clear hr hw P Q F I;go_wp2;have e2:=dJ (x:=rI 0) (y:=rI 0) z B;refine bodyPost_ret (v:=.tuple #[.agg #[rI 0,rI 0],.iface 54 (rI 7)]) (by simp[results,Tryz.results44,go_sem,e2]) rfl ?_;exact⟨by rw[S.out];rfl,(cr.out.setCell (by simp only;omega) _).setCell (by simp only;omega) _⟩
      |some kk=>
       rw[hw]at hr;have bw:r=(kk:Nat):=hr.symm;subst bw;obtain⟨d',cj,cE,_⟩:=G.jB hw
       have bt:kk<nl:=by
        have h1:=(Zb.1 cj).1;have h2:(g.moves k).length=nl:=by rw[<-b5.out,jA,Zr]
        omega
       obtain⟨d,cG,cq,cn,bb⟩:=sU (g:=g) (k:=k) (j:=kk) (by rw[b5.out];exact bt);have bc:g.Gh k kk=bu d:=by unfold G.Gh;rw[Zk,bb];rfl
       have ag:=G.vQ aq.out a1.out bg.out Hc.out hw;rw[bc]at ag;obtain⟨es,ed,bx,_,_,cY,c0⟩:=rz d;have ba:=QQ d;rw[bx]at ba ag;simp only at ba;obtain⟨ba,c1,c2,c4⟩:=ba;have cS:=hid (λw=>Lt w d cG);rw[bx]at cS;have cA:=hid (λw=>pE cs cd es ed w (by unfold aT;omega) (by unfold aT;omega) (by unfold aT;omega) (by unfold aT;omega));obtain⟨cP,hA1⟩:=bd.out.addr om;have U:=bd.out;rw[hA1]at U;have a8:=λwx=>aP (m:=m1) hA1 bt wx;have hE:=U.cell br bt;rw[cn]at hE;have b1:=hid ag;have cX:((kk:Int)<0)=False:=rS;clear hr hw cj cE cq cn bb bc ag bx hA1 U bd;go_upto_region 15 with(fail);clear z B M O
       go_region_with (first
        |(go_at_call 98
          refine(cS.out _).mono ?_;rintro e wS ⟨rfl,aa⟩;have P:=af aa P;have Q:=af aa Q;have F:=bn aa (by simp only;simp;omega) F;have I:=bn aa (by simp only;simp;omega) I)
        |(go_at_call 97
          refine(cA.out _).mono ?_;rintro e wA ⟨rfl,am⟩;have P:=af am P;have Q:=af am Q;have F:=bn am (by simp only;have:=aa.size;simp at this;omega) F;have I:=bn am (by simp only;have:=aa.size;simp at this;omega) I))
       all_goals
        have ci:Below w7.heap.size w7 wA:=ae (ae (aj (Below.refl w7.heap.size w7)) aa) am;have ab:=hid (Rf.Ip cw.out ci (by rw[bh.out];exact b1.out:g.gL f (i+1)=.inr ⟨cs+es,cd+ed⟩) P Q F I);clear P Q F I aa am ci;go_wp2;go_roundw
        case rel=>refine rR ?_;exact⟨i+1,om,by go_num,ab.out⟩
        case measure=>exact rM
   .have S:g.vK f n=(C.zero,1):=by
     have cl:g.fault (f i)=1:=by rw[a2.out];exact G.uE om
     have:=G.o7 (G.rC ac.out (by rw[cl];decide)) (n:=n) om;rw[cl]at this;exact this
    have S:=hid S;go_wp2_with fail;(with_reducible refine(mY _ p g v fi ar.out om).mono ?_);rintro e w6 ⟨rfl,u⟩;have z:=af u z;have B:=af u B;have M:=bn u (by simp only;omega) M;have O:=bn u (by simp only;omega) O;go_wp2;have e2:=dJ (x:=rI 0) (y:=rI 0) z B;refine bodyPost_ret (v:=.tuple #[.agg #[rI 0,rI 0],.iface 54 (rI 1)]) (by simp[results,Tryz.results44,go_sem,e2]) rfl ?_;exact⟨by rw[S.out];rfl,((ae a3.out u).setCell (by simp only;omega) _).setCell (by simp only;omega) _⟩
  .obtain rfl:i=n:=om
   rcases Nat.eq_zero_or_pos i with ap|ap
   .subst ap
    go_wp2;have e2:=dJ (x:=rI 0) (y:=rI 0) z B;refine bodyPost_ret (v:=.tuple #[.agg #[rI 0,rI 0],.iface 54 (rI 7)]) (by simp[results,Tryz.results44,go_sem,e2]) rfl ?_;exact⟨rfl,(al.out.setCell (by simp only;omega) _).setCell (by simp only;omega) _⟩
   .have cH:((i:Int)==0)=false:=so
    have S:=hid (G.Dl ai ap);clear ai;go_wp2;have e2:=dJ (x:=rI cs) (y:=rI cd) z B;refine bodyPost_ret (v:=.tuple #[.agg #[rI cs,rI cd],.nilIface]) (by simp[results,Tryz.results44,go_sem,e2]) rfl ?_;exact⟨by rw[S.out];rfl,(al.out.setCell (by simp only;omega) _).setCell (by simp only;omega) _⟩
def dG(c:Nat->C)(k:Nat):Value:=if k%2=0 then rI (c (k/2)).s else rI (c (k/2)).d
def eB(b:Nat->Bool)(k:Nat):Value:=.bool (b k)
theorem rG:Tryz.zeroCells100=rowOf (dG λ_=>C.zero) 512:=kr
theorem rF:Tryz.zeroCells36=rowOf (eB λ_=>false) 256:=kr
theorem alloc_old(w:World)(o:Obj){x:Option Obj}(m:k<w.heap.size)(h:w.heap[k]? =x):(w.alloc o).heap[k]? =x:=(Below.heap_alloc _ _ _ m).trans h
theorem alloc_at(w:World)(o:Obj)(m:k=w.heap.size):(w.alloc o).heap[k]? =some o:=by rw[m];exact heap_alloc_new w o
theorem N8(w:World)(a b c d:Obj):((((w.alloc a).alloc b).alloc c).alloc d).heap[w.heap.size]? =some a:=
 alloc_old _ _ so (alloc_old _ _ so (alloc_old _ _ rS (alloc_at _ _ rfl)))
theorem N9(w:World)(a b c d:Obj):((((w.alloc a).alloc b).alloc c).alloc d).heap[w.heap.size+1]? =some b:=
 alloc_old _ _ rS (alloc_old _ _ rS (alloc_at _ _ rS))
theorem Oa(w:World)(a b c d:Obj):((((w.alloc a).alloc b).alloc c).alloc d).heap[w.heap.size+1+1]? =some c:=
 alloc_old _ _ rS (alloc_at _ _ rS)
theorem Ob(w:World)(a b c d:Obj):((((w.alloc a).alloc b).alloc c).alloc d).heap[w.heap.size+1+1+1]? =some d:=alloc_at _ _ rS
def ik(g:G)(fr:Nat)(c:Nat->C)(is:Nat->Bool):Prop:=∀t,(is t=true->df g.E fr t (c t)/\t<g.n)/\(is t=false->∀d,¬Walk g.E fr t d)
def UQ(w:World)(g:G)(fr:Nat)(e:Ending)(w':World):Prop:=∃c is,e=.returned (.tuple #[.agg (rowOf (dG c) 512),.agg (rowOf (eB is) 256)])/\ik g fr c is/\Below w.heap.size w w'
theorem aL.Ic{B:Nat}{I:List Int}(h:aL w B v I)(M:Kept S w w')(J:∀s∈S,s<B):aL w' B v I:=by
 refine⟨h.1,?_⟩;rcases h.2 with P|⟨g,z,F,rfl,L,m,u⟩
 .exact .inl P
 .refine .inr ⟨g,z,F,rfl,L,?_,u⟩
  rw[M.block g (Za.1 m).1 (λO=>by have:=J g O;omega)];exact m
structure oh (W wr:World) (bc bi:Nat) (v:Value) (c:Nat->C) (is:Nat->Bool) (todo:List Nat):Prop where
 hc:wr.heap[bc]? =some (.cells (rowOf (dG c) 512) 100 (0,0))
 hi:wr.heap[bi]? =some (.cells (rowOf (eB is) 256) 36 (0,0))
 own:aL wr W.heap.size v (todo.map λn:Nat=>(n:Int))
 kept:Kept [bc,bi] W wr
theorem oh.below(h:oh W wr bc bi v c is todo)(m:Below wr.heap.size wr w'):oh W w' bc bi v c is todo:=
 ⟨(m.block bc (Za.1 h.hc).1).trans h.hc,(m.block bi (Za.1 h.hi).1).trans h.hi,h.own.below (B':=0) m,h.kept.trans (Kept.of_below m)⟩
theorem oh.cell(h:oh W wr bc bi v c is todo){t:Nat}(z:t<256):wr.cell? ⟨bc,t*2,none⟩=some (rI (c t).s)/\wr.cell? ⟨bc,t*2+1,none⟩=some (rI (c t).d)/\wr.cell? ⟨bi,t,none⟩=some (.bool (is t)):=by
 refine⟨?_,?_,?_⟩
 .simp only[World.cell?,h.hc,bI _ _ _ (show t*2<512 by omega)]
  simp[dG]
 .simp only[World.cell?,h.hc,bI _ _ _ (show t*2+1<512 by omega)]
  have m:(t*2+1)%2=1:=om;have u:(t*2+1)/2=t:=om;simp[dG,m,u]
 .simp[World.cell?,h.hi,bI _ _ _ z,eB]
theorem oh.free(h:oh W wr bc bi v c is todo)(k:Nat):wr.frozen? ⟨bc,k,none⟩=false/\wr.frozen? ⟨bi,k,none⟩=false:=by
 simp[World.frozen?,h.hc,h.hi]
theorem K7(c:Nat->C)(t:Nat)(x:C):dG (upd c t x)=upd (upd (dG c) (t*2) (rI x.s)) (t*2+1) (rI x.d):=by
 funext k;unfold dG;by_cases m:k=t*2+1
 .subst m
  rw[upd_same,if_neg om,show(t*2+1)/2=t by omega,upd_same]
 .rw[upd_ne _ _ m]
  by_cases u:k=t*2
  .subst u
   rw[upd_same,if_pos om,show t*2/2=t by omega,upd_same]
  .rw[upd_ne _ _ u,upd_ne _ _ om]
theorem oh.set(h:oh W wr bc bi v c is todo)(m:bc≠bi){t:Nat}(x:C)(I:bc<W.heap.size)(F:bi<W.heap.size):oh W (((wr.setCell ⟨bc,t*2,none⟩ (rI x.s)).setCell ⟨bc,t*2+1,none⟩ (rI x.d)).setCell ⟨bi,t,none⟩ (.bool true)) bc bi v (upd c t x) (upd is t true) todo:=by
 have z:Kept [bc,bi] wr (((wr.setCell ⟨bc,t*2,none⟩ (rI x.s)).setCell ⟨bc,t*2+1,none⟩ (rI x.d)).setCell ⟨bi,t,none⟩ (.bool true)):=(((Kept.refl _ _).setCell (.inl rS)).setCell (.inl rS)).setCell (.inl rS);refine⟨?_,?_,?_,h.kept.trans z⟩
 .rw[Below.heap_setCell _ _ _ _ (by simpa using m),aI _ _ _ _ _ _ (aI _ _ _ _ _ _ h.hc),K7,
   nH (dG c) (upd (dG c) (t*2) (rI x.s)) 512 (t*2) _ (upd_same _ _ _) (λi u=>upd_ne _ _ u),
   nH (upd (dG c) (t*2) (rI x.s)) (upd (upd (dG c) (t*2) (rI x.s)) (t*2+1) (rI x.d)) 512 (t*2+1) _ (upd_same _ _ _) (λi u=>upd_ne _ _ u)]
 .have B:((wr.setCell ⟨bc,t*2,none⟩ (rI x.s)).setCell ⟨bc,t*2+1,none⟩ (rI x.d)).heap[bi]? =some (.cells (rowOf (eB is) 256) 36 (0,0)):=by
   rw[Below.heap_setCell _ _ _ _ (by simpa using Ne.symm m),Below.heap_setCell _ _ _ _ (by simpa using Ne.symm m)];exact h.hi
  rw[aI _ _ _ _ _ _ B,nH (eB is) (eB (upd is t true)) 256 t _ (by unfold eB;rw[upd_same]) (λi u=>by unfold eB;rw[upd_ne _ _ u])]
 .exact h.own.Ic z so
theorem jD.weaken{E:Nat->Nat->C->Prop}{m n:Nat}{pend pend':Nat->C->Prop}(H:jD E m n c is todo i k pend)(B:∀b e,pend b e->pend' b e):jD E m n c is todo i k pend':=
 ⟨H.i0,H.i1,H.i2,λa b e u z=>(H.i3 a b e u z).imp_right (λh=>h.imp_left λ⟨x,y⟩=>⟨x,B _ _ y⟩),H.i4⟩
def XH(W:World)(g:G)(fr bc bi M0 gk:Nat)(v:Value)(i:Nat)(wr:World):Prop:=∃c is todo k0,i<=todo.length/\oh W wr bc bi v c is todo/\jD g.E fr g.n c is todo i k0 (λ_ _=>False)/\todo.length+jD.meas g.n c is<=M0/\2*jD.meas g.n c is+(todo.length-i)<=gk
theorem VA{i J:Nat}(H:jD g.E fr g.n c is todo i J pend)(P:g.n<=256)(u:is k=true):0<=(c k).s/\(c k).s<=512/\0<=(c k).d/\(c k).d<=512:=by
 have z:=H.i4 k u;have m:=G.Rj (H.i1 k u).1;have L:=jX is g.n;have B:=C.gy m (b:=⟨0,eO is g.n⟩) ⟨rS,rS⟩ z;obtain⟨F,I⟩:=B;obtain⟨M,O⟩:=m;simp only at F I;omega
theorem JV{i J:Nat}(H:jD g.E fr g.n c is todo i J pend)(P:g.n<=256)(u:is k=true):kZ (c k):=by
 have z:=H.i4 k u;have m:=G.Rj (H.i1 k u).1;have L:=jX is g.n;have B:=C.gy m (b:=⟨0,eO is g.n⟩) ⟨rS,rS⟩ z;obtain⟨F,I⟩:=B;obtain⟨M,O⟩:=m;simp only at F I;refine⟨?_,?_⟩<;>unfold aT<;>omega
theorem gQ{o o':Obj}{a:Addr}(m:a.block≠w.heap.size)(h:(w.alloc o).cell? a=some v):(w.alloc o').cell? a=some v:=by
 rw[World.cell?_alloc_old w _ _ m]at h;rw[World.cell?_alloc_old w _ _ m];exact h
theorem Og{W w1:World}(m:Below W.heap.size W w1):(∀b o,b<W.heap.size->w1.cell? ⟨b,o,none⟩=W.cell? ⟨b,o,none⟩)/\(∀b o,b<W.heap.size->w1.frozen? ⟨b,o,none⟩=W.frozen? ⟨b,o,none⟩):=
 ⟨λb o h=>m.cell (p:=⟨b,o,none⟩) h,λb o h=>m.frozen (p:=⟨b,o,none⟩) h⟩
theorem jD.weaken'{m:Nat}(H:jD g.E fr n c is todo i m (g.E m))(e:m=k):jD g.E fr n c is todo i k (Ag g k 0):=by
 subst e;refine jD.weaken H ?_;rintro b e ⟨_,d,u,z,rfl,rfl⟩;exact⟨d,by simpa[G.moves]using⟨u,z⟩,rfl,rfl⟩
theorem row_one(h:∀k,(f k).oneCell'=true)(n:Nat):∀v∈(rowOf f n).toList,v.oneCell'=true:=by
 intro v m;simp[rowOf]at m;obtain⟨k,_,rfl⟩:=m;exact h k
theorem Bq{T:TypeId}(h:w.heap[b]? =some (.cells (rowOf f n) T (0,0))):w.rangeAt b 0 (rowOf f n).toList:=by
 intro j v m;simp only[World.cell?,h,Zx];simpa using m
theorem vD{T:TypeId}(h:w.heap[b]? =some (.cells (rowOf f n) T (0,0))):w.there b 0 n:=by
 intro j m;simp only[World.cell?,World.frozen?,h,Zx,bI _ _ _ m];simp
theorem jf{B b:Nat}{a:World}(m:B<=b):∀(u:List Value)(o:Nat)(w:World),Below B a w->Below B a (w.setCells b o u)
 |[],_,_,h=>h
 |v::r,o,w,h=>jf m r (o+1) _ (h.setCell m v)
def UN(W:World)(g:G)(fr bc bi M0 gk k i:Nat)(A1:Option Addr)(nl:Nat)(v:Value)(j:Nat)(wr:World):Prop:=∃c is todo,oh W wr bc bi v c is todo/\jD g.E fr g.n c is todo i k (Ag g k j)/\i<=todo.length/\todo.length+jD.meas g.n c is<=M0/\2*jD.meas g.n c is+(todo.length-i)<gk/\Ints wr A1 nl (λx=>(gI g k).getD x 0)/\(0<nl->∀ad,A1=some ad->v.ownBlock≠some ad.block/\ad.block∉[bc,bi])/\is k=true
theorem oh.grown{W w7 B:World}{v L:Value}(h:oh W w7 bc bi v c is todo)(O:aL B W.heap.size L (todo.map (λn:Nat=>(n:Int))++[(b:Int)]))(u:(w7.alloc o).grownBy B v.ownBlock)(F:bc<W.heap.size)(I:bi<W.heap.size):oh W B bc bi L c is (todo++[b]):=by
 have P:=h.kept.size;have J:∀k,k<W.heap.size->some k≠v.ownBlock:=λk z e=>by have:=(World.ownsRow.lt h.own k e.symm).1;omega
 have m:∀k,k<W.heap.size->B.heap[k]? =w7.heap[k]?:=λk z=>(u.block k so (J k z)).trans (Below.heap_alloc _ _ _ om);refine⟨(m bc F).trans h.hc,(m bi I).trans h.hi,by simpa using O,?_⟩;exact⟨u.os.trans h.kept.os,u.tape.trans h.kept.tape,u.output.trans h.kept.output,Zg P (Zg rS u.size),λk z M=>(m k z).trans (h.kept.block k z M)⟩
theorem UN.push{W w7 L:World}{fr bc bi M0 gk k i S j b:Nat}{M:Option Addr}{v J:Value}{c I:Nat->C}{is u:Nat->Bool}(h:oh W w7 bc bi v I u todo)(ho:aL L W.heap.size J (todo.map (λn:Nat=>(n:Int))++[(b:Int)]))(Z:(w7.alloc o).grownBy L v.ownBlock)(R:J.ownBlock=v.ownBlock\/J.ownBlock=some (w7.alloc o).heap.size)(T:bc<W.heap.size)(U:bi<W.heap.size)(B:jD g.E fr g.n I u (todo++[b]) i k (Ag g k (j+1)))(hm:jD.meas g.n I u<jD.meas g.n c is)(hi:i<=todo.length)(ab:todo.length+jD.meas g.n c is<=M0)(ac:2*jD.meas g.n c is+(todo.length-i)<gk)(hI:Ints w7 M S (λx=>(gI g k).getD x 0))(Q:0<S->∀m,M=some m->v.ownBlock≠some m.block/\m.block∉[bc,bi])(hk:u k=true):UN W g fr bc bi M0 gk k i M S J (j+1) L:=by
 refine⟨I,u,todo++[b],h.grown ho Z T U,B,so,so,so,?_,?_,hk⟩
 .intro z
  obtain⟨m,e,F,hc⟩:=hI z;refine⟨m,e,Zf F (Zg rS Z.size),λx hx=>?_⟩;have e1:L.cell? (m.add x)=(w7.alloc o).cell? (m.add x):=Z.cell_far _ (by rw[add_block];simp;omega) (by rw[add_block];exact Ne.symm (Q z m e).1);rw[e1,World.cell?_alloc_old w7 _ _ (by rw[add_block];omega)];exact hc x hx
 .intro z m e
  refine⟨?_,(Q z m e).2⟩;rcases R with P|P
  .rw[P];exact(Q z m e).1
  .rw[P]
   intro O;injection O with O
   obtain⟨aa,e',F,_⟩:=hI z;rw[e']at e;injection e with e
   subst e;simp at O;omega
theorem Qu(w:World)(p:Nat)(g:G)(v:Int)(fr:Nat)(h:aG w p g v)(hf:fr<g.n):Calls Tryz.prog 41 #[vP p,rI (fr:Nat)] w (UQ w g fr):=by
 have hn:=G.bA h.1;go_enter Tryz.func41,Tryz.ntmps41;go_upto_region 3 with(fail);refine aB ?_;intro W hW;have HW:Below w.heap.size w W:=by rw[hW];exact be
 have c8:W.heap.size=w.heap.size+4:=by rw[hW];simp
 have b0:W.heap[w.heap.size]? =some (.cells (rowOf (dG λ_=>C.zero) 512) 100 (0,0)):=by rw[hW,rG];exact N8 _ _ _ _ _
 have b1:W.heap[w.heap.size+1]? =some (.cells (rowOf (eB λ_=>false) 256) 36 (0,0)):=by rw[hW,rF];exact N9 _ _ _ _ _
 have b2:W.heap[w.heap.size+1+1]? =some (.cells (rowOf (dG λ_=>C.zero) 512) 100 (0,0)):=by rw[hW,rG];exact Oa _ _ _ _ _
 have b3:W.heap[w.heap.size+1+1+1]? =some (.cells (rowOf (eB λ_=>false) 256) 36 (0,0)):=by rw[hW,rF];exact Ob _ _ _ _ _
 have hp:=h.lt;have cE:=hid (h.below HW h.lt);clear hW h;obtain⟨I,M⟩:=rX (w.heap.size+1+1);rw[M]at b2 b3⊢;obtain⟨F,c9⟩:=rX (I+1);rw[c9]at b3⊢;have k3:W.cell? ⟨F,fr,none⟩=some (.bool false):=by simp[World.cell?,b3,bI _ _ _ (show fr<256 by omega),eB]
 have f3:W.frozen? ⟨F,fr,none⟩=false:=by simp[World.frozen?,b3]
 have hK:Kept [I,F] W (W.setCell ⟨F,fr,none⟩ (.bool true)):=(Kept.refl _ _).setCell (.inl rS);have hC:(W.setCell ⟨F,fr,none⟩ (.bool true)).heap[I]? =some (.cells (rowOf (dG λ_=>C.zero) 512) 100 (0,0)):=(Below.heap_setCell W ⟨F,fr,none⟩ (.bool true) I so).trans b2
 have hI:(W.setCell ⟨F,fr,none⟩ (.bool true)).heap[F]? =some (.cells (rowOf (eB (upd (λ_=>false) fr true)) 256) 36 (0,0)):=by
  rw[aI _ _ _ _ _ _ b3,nH (eB λ_=>false) (eB (upd (λ_=>false) fr true)) 256 fr _ (by unfold eB;rw[upd_same]) (λi hi=>by unfold eB;rw[upd_ne _ _ hi])]
 have a5:(W.setCell ⟨F,fr,none⟩ (.bool true)).heap.size=w.heap.size+4:=by simp[World.setCell,c8]
 have hK:=hid hK;have hC:=hid hC;have hI:=hid hI;have B0:=hid b0;have B1:=hid b1;have q0:(fr:Int)<256:=om;clear b0 b1 b2 b3;go_upto_region 5 with(fail);clear k3 f3;generalize (W.setCell ⟨F,fr,none⟩ (.bool true))=w1 at*;have a5:w1.heap.size=w.heap.size+4:=a5;refine aB ?_;intro w2 cg;have al:Below w1.heap.size w1 w2:=by rw[cg];exact be
 have hO:aL w2 W.heap.size (.slice (some ⟨w.heap.size+4,0,none⟩) 1 1) (([fr]:List Nat).map λn:Nat=>(n:Int)):=by
  rw[cg];refine⟨rfl,.inr ⟨w.heap.size+4,1,#[rI (fr:Nat)],rfl,om,alloc_at _ _ a5.symm,rS,rD,rfl,rfl⟩⟩
 have L:oh W w2 I F (.slice (some ⟨w.heap.size+4,0,none⟩) 1 1) (λ_=>C.zero) (upd (λ_=>false) fr true) [fr]:=
  ⟨(al.block I om).trans hC.out,(al.block F om).trans hI.out,hO,hK.out.trans (Kept.of_below al)⟩
 have u:jD g.E fr g.n (λ_=>C.zero) (upd (λ_=>false) fr true) [fr] 0 0 (λ_ _=>False):=jD.start hf;obtain⟨M0,cy⟩:∃M0,M0=1+jD.meas g.n (λ_=>C.zero) (upd (λ_=>false) fr true):=⟨_,rfl⟩
 have dn:M0<=67371521:=by
  have:=jD.SS g.n (λ_=>C.zero) (upd (λ_=>false) fr true);have h2:g.n*((jD.BX+1)*(jD.BX+1)+1)<=256*((jD.BX+1)*(jD.BX+1)+1):=Nat.mul_le_mul_right _ hn;have h3:256*((jD.BX+1)*(jD.BX+1)+1)=67371520:=rD;omega
 obtain⟨N0,cA⟩:∃N0,N0=2*jD.meas g.n (λ_=>C.zero) (upd (λ_=>false) fr true)+1:=⟨_,rfl⟩;have hstart:XH W g fr I F M0 N0 (.slice (some ⟨w.heap.size+4,0,none⟩) 1 1) 0 w2:=⟨_,_,[fr],0,rS,L,u,by rw[cy];simp,by rw[cA];simp⟩;clear cg al hO L u cy cA hC hI hK;go_wp2_with fail;go_loopg [8,9] N0 (λgk v iv wr=>∃i,iv=rI (i:Nat)/\XH W g fr I F M0 gk v i wr)
 case atStart=>exact⟨0,rfl,hstart⟩
 case round=>
  obtain⟨i,rfl,c,is,z,k0,hi,L,u,ay,da⟩:=hrel;clear hstart;obtain⟨A,m,rfl,U⟩:=L.own.ints;obtain⟨nt,bg⟩:=rX z.length;have a3:(z.map λn:Nat=>(n:Int)).length=nt:=by rw[Zr,bg]
  rw[a3]at U L⊢;rw[bg]at hi ay da;have ab:=hid bg;have dl:=hid a3;have L:=hid L;have u:=hid u;clear bg a3;have dp:nt<=67371521:=om;by_cases R:i<nt
  .obtain⟨ad,hA⟩:=U.addr om
   have bx:=U;rw[hA]at bx;have am:=λwx=>aP (m:=m) hA R wx;have hE:=bx.cell br R;obtain⟨k,hk⟩:∃k,z[i]'(by rw[ab.out];exact R)=k:=⟨_,rfl⟩;have aE:(z.map λn:Nat=>(n:Int)).getD i 0=(k:Nat):=by simp[List.getD,show i<z.length by rw[ab.out];exact R,hk]
   rw[aE]at hE;have B:is k=true:=u.out.i2 k (by rw[<-hk];exact List.getElem_mem _);have b8:k<g.n:=(u.out.i1 k (u.out.i2 k (by rw[<-hk];exact List.getElem_mem _))).2;have cQ:=hid (u.out.next (by rw[ab.out];exact R));have Hk:=hid hk;have cR:p∉[I,F]:=so;have hR:=cE.out.kept L.out.kept cR;clear hA bx U aE hk;go_wp2_with fail;(with_reducible refine(Kr _ p g v k hR b8).mono ?_);rintro e w3 ⟨A1,m1,rfl,bv,cB,cH⟩;have cx:=L.out.below cH
   have ax:0<(gI g k).length->∀ad,A1=some ad->(Value.slice A nt m).ownBlock≠some ad.block/\ad.block∉[I,F]:=λ_ ad e=>by
    have h1:=cB ad e;have h2:=L.out.kept.size;refine⟨λe2=>?_,so⟩;have:=(World.ownsRow.lt L.out.own _ e2).2;omega
   clear cB;obtain⟨nl,bd⟩:=rX ((gI g k).length);rw[bd]at bv ax⊢;have dr:nl<=8:=by rw[<-bd];exact iG _ _
   have cl:=hid bd;have cN:UN W g fr I F M0 gk k (i+1) A1 nl (.slice A nt m) 0 w3:=⟨c,is,z,cx,jD.weaken' cQ.out Hk.out,by rw[ab.out];omega,by rw[ab.out];omega,by rw[ab.out];omega,bv,ax,B⟩;clear L u ax bd cH cQ hE am cx B bv;go_wp2_with fail;obtain⟨wo,rfl⟩:∃wo:World,wo=wr:=⟨_,rfl⟩
   go_loopw [8,12] (λv kv wr=>∃j:Nat,j<=nl/\kv=rI j/\UN W g fr I F M0 gk k (i+1) A1 nl v j wr) (λ_ kv _=>nl-(intOf kv).toNat)
   case atStart=>exact⟨0,om,rfl,cN⟩
   case round=>
    obtain⟨j,hj,rfl,c,is,z,L,u,bb,ay,aS,a8,cD,B⟩:=hrel;have bl:=hid cD;clear cD;have B:=hid B;clear cN;have L:=hid L;have u:=hid u;by_cases ca:j<nl
    .have cw:=hid a8
     obtain⟨cm,hA1⟩:=a8.addr om;have aq:=a8;rw[hA1]at aq;have dq:=λwx=>aP (m:=m1) hA1 ca wx;have ct:=aq.cell br ca;have cG:=aq.WO om;obtain⟨d,cL,a2,aE,bk⟩:=sU (g:=g) (k:=k) (j:=j) (by rw[cl.out];exact ca);rw[aE]at ct;obtain⟨cb,cV⟩:=to_eq a2;obtain⟨O,ce⟩:=rX (g.to k d);rw[ce]at cb cV;have cT:=hid (λw' h'=>IE w' p g v k d (O:Nat) h' b8 cL cb);have Hd:=hid (rN a2 (rN ce bk));have c7:=cE.out.kept L.out.kept cR;have HI:=hid aq;clear hA1 a8 aq aE cb a2 ce bk;go_wp2_with fail;(with_reducible refine(cT.out _ c7).mono ?_);rintro e w4 ⟨rfl,ba⟩;have bz:=hid (L.out.below ba);have c5:=hid (cw.out.below ba);have bt:=(ba.cell (by rw[add_block];exact cG)).trans ct;obtain⟨k1,k2,_⟩:=bz.out.cell (t:=k) om;go_upto_region 14 with(fail);have ch:=JV u.out hn B.out;obtain⟨⟨cs,cd⟩,b5⟩:=rX (c k);have cI:=VA u.out hn B.out;rw[b5]at ch k1 k2 cI;obtain⟨cn,co,cp,cq⟩:=cI;simp only at k1 k2 cn co cp cq;have bm:=hid b5;obtain⟨es,ed,cU,dT,cS,db,dd⟩:=rz d
     have cP:=hid (λw=>tK cs cd es ed w ch.1 ch.2 (by unfold aT;omega) (by unfold aT;omega));have bp:=hid cU;have dy:(k:Int)<256:=om;have d5:IntKind.i64.wrap (1-ed)=es:=by rw[<-cS];exact IntWalk.i64_in _ om
     have d6:(0:Int)<=(j:Int):=om;have d7:(j:Int)<(nl:Int):=om;have eb:(0:Int)<=(k:Int):=om;have dg:aT (cs+es):=by unfold aT;omega
     have de:aT (cd+ed):=by unfold aT;omega
     clear cS db dd cn co cp cq;have d0:(0:Int)<=(d:Int):=om;clear b5 cU;have ee:I<w4.heap.size:=ZF _ _ k1;have ec:cm.block<w4.heap.size:=Zf cG ba.size;have n1:=World.new_ne w4 _ k1;have n2:=World.new_ne w4 _ bt;have cj:=λo=>aD (o:=o) k1;have ck:=λo=>aD (o:=o) k2;have ap:=λo=>aD (o:=o) bt;go_cut [14] (λs wx=>∃D,s=vP D/\w4.heap.size<=D/\wx.cell? ⟨D,0,none⟩=some (rI (cs+es))/\wx.cell? ⟨D,1,none⟩=some (rI (cd+ed))/\Below w4.heap.size w4 wx)
     case first=>
      go_region_held3 (λw'=>w'.cell? ⟨I,k*2,none⟩=some (rI cs)/\w'.cell? ⟨I,k*2+1,none⟩=some (rI cd)/\w'.cell? (cm.add j)=some (rI (d:Nat)))
       (first
        |(go_keep;done)
        |(go_split_ands
          exact⟨af J au,af J au,af J au⟩)
        |(go_split_ands
          exact⟨gQ (by have:=J.size;simp;simp at this;omega) au,gQ (by have:=J.size;simp;simp at this;omega) au,gQ (by have:=J.size;rw[add_block];simp at this;omega) au⟩)
        |(go_split_ands
          refine⟨?_,?_,?_⟩<;>(go_keep;done)))
       (first
        |(go_at_call 85
          refine(cP.out _).mono ?_;rintro e wP ⟨rfl,J⟩;obtain⟨cJ,cM⟩:=Og J))
      .have a6:=hid J
       clear cJ cM J cj ck ap;go_wp2;go_meet
       case rel=>exact⟨_,rfl,a6.out.size,by go_simp,by go_simp,ah (ae (aj br) a6.out)⟩
      .have a6:=hid J
       have q1:wP.cell? ⟨w4.heap.size,0,none⟩=some (rI 0):=af J (by go_simp);have q2:wP.cell? ⟨w4.heap.size,1,none⟩=some (rI 0):=af J (by go_simp);have Q:=hid (tX (x:=rI (cs+es)) (y:=rI (cd+ed)) q1 q2);clear cJ cM J q1 q2 cj ck ap;go_wp2;go_meet
       case rel=>exact⟨_,rfl,Zi _,Q.out.1,Q.out.2,((ae (aj (ah br)) a6.out).setCell rS _).setCell rS _⟩
     case rest=>
      obtain⟨D,rfl,du,a7,bq,M⟩:=hcut;have b4:=hid (bz.out.below M);have c6:=hid (c5.out.below M);have cr:=ZF _ _ a7;clear k1 k2 cj ck ap bt n1 n2 bz M cP;obtain⟨k3,k4,k5⟩:=b4.out.cell (t:=O) om;have d4:(O:Int)<256:=om;go_upto_region 15 with(fail);obtain⟨⟨xs,xd⟩,b6⟩:=rX (c O);rw[b6]at k3 k4;simp only at k3 k4;have bo:=hid b6;obtain⟨ci,a1⟩:=rX (is O);rw[a1]at k5;have ao:=hid a1;obtain⟨t,ht⟩:∃t,(!ci||decide (C.cmp ⟨cs+es,cd+ed⟩ ⟨xs,xd⟩<0))=t:=⟨_,rfl⟩;have Ht:=hid ht;clear b6 a1 ht;go_cut [72] (λs wx=>s=.bool t/\Below wc.heap.size wc wx)
      case first=>
       cases ci with
       |false=>
        have ht:t=true:=by rw[<-Ht.out];rfl
        subst ht;go_quiet (fail);go_wp2;go_meet
        case rel=>exact⟨rfl,be⟩
       |true=>
        have am:=JV u.out hn ao.out;rw[bo.out]at am;have cC:=ry (cs+es) (cd+ed) xs xd;obtain⟨cv,b7⟩:∃cv,C.cmp ⟨cs+es,cd+ed⟩ ⟨xs,xd⟩=cv:=⟨_,rfl⟩;have ht:t=decide (cv<0):=by rw[<-Ht.out,b7];rfl
        rw[b7]at cC;have cC:=hid (λw=>cC w dg de am.1 am.2);have c1:=hid ht;have HB:=Below.refl wc.heap.size wc;have d8:=ZE k3;have d9:=ZE k4;have ea:=ZE k5;have ds:=ZE a7;have dt:=ZE bq;clear b7 am ht;refine qb HB cC.out λw8 cX dx=>?_;go_wp2;go_meet
        case rel=>exact⟨by rw[c1.out],cX⟩
      case rest=>
       obtain⟨rfl,M⟩:=hcut;have ac:=hid (b4.out.below M);have bw:=hid (c6.out.below M);have d1:=(M.cell (by exact cr)).trans a7;have d2:=(M.cell (by exact cr)).trans bq;clear b4 M a7 bq k3 k4 k5;cases t with
       |false=>
        have b9:is O=true/\C.le (c O) (C.add (c k) (bu d)):=by
         have h:=Ht.out;cases ci with
         |false=>simp at h
         |true=>
          refine⟨ao.out,?_⟩;rw[bo.out,bm.out,bp.out];intro R;have:=C.dP.2 R;simp at h;unfold C.add at this;simp only at this;omega
        have hF:UN W g fr I F M0 gk k (i+1) A1 nl _ (j+1) _:=⟨c,is,z,ac.out,u.out.keep b9.1 b9.2 (Bl Hd.out.2.2 Hd.out.2.1),bb,ay,aS,bw.out,bl.out,B.out⟩;have hF:=hid hF;clear b9 d1 d2;go_wp2;go_roundw
        case rel=>refine rR ?_;exact⟨j+1,om,by go_num,hF.out⟩
        case measure=>exact rM
       |true=>
        have R:is O=true->C.lt (C.add (c k) (bu d)) (c O):=by
         intro h1;have h:=Ht.out;rw[ao.out]at h1;rw[h1]at h;simp at h;rw[bo.out,bm.out,bp.out];exact C.dP.1 (by unfold C.add;exact h)
        have aa:=jD.lower (λ_ _ _=>G.Dw) u.out bb B.out (b:=O) (e:=bu d) ⟨b8,d,cL,Hd.out.1,Hd.out.2.1.symm,rfl⟩ cV hn (QN d) (QM d) R (Bl Hd.out.2.2 Hd.out.2.1);have bh:C.add (c k) (bu d)=⟨cs+es,cd+ed⟩:=by rw[bm.out,bp.out];rfl
        rw[bh]at aa;have aa:=hid aa;have a9:=hid (ac.out.set om (t:=O) ⟨cs+es,cd+ed⟩ om om);obtain⟨k3,k4,k5⟩:=ac.out.cell (t:=O) om;have f1:=(ac.out.free (O*2)).1;have f2:=(ac.out.free (O*2+1)).1;have f3:=(ac.out.free O).2;clear R bh
        have ai:Ints (((wc.setCell ⟨I,O*2,none⟩ (rI (cs+es))).setCell ⟨I,O*2+1,none⟩ (rI (cd+ed))).setCell ⟨F,O,none⟩ (.bool true)) A1 nl (λx=>(gI g k).getD x 0):=
         bw.out.kept (S:=[I,F]) ((((Kept.refl _ _).setCell (.inl rS)).setCell (.inl rS)).setCell (.inl rS)) (λad e=>(bl.out om ad e).2)
        have ai:=hid ai;have d3:z.length<=67371521:=om;have cO:(z.map λn:Nat=>(n:Int)).length<1099511627776:=by rw[Zr];omega
        have dv:=a9.out.kept.size;go_upto_region 18 with(fail);clear k3 k4 k5 f1 f2 f3 d1 d2 ac bw;generalize (((wc.setCell ⟨I,O*2,none⟩ (rI (cs+es))).setCell ⟨I,O*2+1,none⟩ (rI (cd+ed))).setCell ⟨F,O,none⟩ (.bool true))=w7 at*;go_wp2_with (at_builtin;(refine dI _ rfl _ _ rfl W.heap.size _ _ _ rfl (a9.out.own.alloc _) ⟨w7.heap.size,0,none⟩ rfl (dh _ _ _) cO so ?_);intro v' w9 a4 a0 cF)
        have hF:UN W g fr I F M0 gk k (i+1) A1 nl v' (j+1) w9:=UN.push a9.out a4 a0 cF om om aa.out.1 aa.out.2 bb ay aS ai.out bl.out (by unfold upd;split;rfl;exact B.out);have hF:=hid hF;clear a4 a0 cF a9 ai cO;go_wp2;go_roundw
        case rel=>refine rR ?_;exact⟨j+1,om,by go_num,hF.out⟩
        case measure=>exact rM
    .obtain rfl:j=nl:=om
     have hF:XH W g fr I F M0 (2*jD.meas g.n c is+(z.length-(i+1))) _ (i+1) _:=⟨c,is,z,k,bb,L.out,jD.weaken u.out (MJ cl.out),ay,Zi _⟩;have hF:=hid hF;go_wp2;go_roundg (2*jD.meas g.n c is+(z.length-(i+1)))
     case measure=>exact aS
     case rel=>exact⟨i+1,by go_num,hF.out⟩
  .obtain rfl:i=nt:=om
   have bj:=hid (jD.fin u.out (by rw[ab.out];exact Zi _));obtain⟨T,ar⟩:=rX ((rowOf (dG c) 512).toList);obtain⟨Z,aw⟩:=rX ((rowOf (eB is) 256).toList);have l1:T.length=512:=by rw[<-ar];simp[rowOf]
   have l2:Z.length=256:=by rw[<-aw];simp[rowOf]
   have o1:∀v∈T,v.oneCell'=true:=by rw[<-ar];exact row_one (λk=>by unfold dG;split<;>rfl) 512
   have o2:∀v∈Z,v.oneCell'=true:=by rw[<-aw];exact row_one (λk=>rfl) 256
   have u1:=Tryz.underlying100;have u2:=Tryz.underlying36;have s1:(Tryz.prog.info? 100).map (·.size)=some T.length:=by rw[l1];kernel_rfl
   have s2:(Tryz.prog.info? 36).map (·.size)=some Z.length:=by rw[l2];kernel_rfl
   have hz:w.heap.size≠I/\w.heap.size≠F/\w.heap.size+1≠I/\w.heap.size+1≠F:=om;have r1:wr.rangeAt I 0 T:=by rw[<-ar];exact Bq L.out.hc
   have r2:wr.rangeAt F 0 Z:=by rw[<-aw];exact Bq L.out.hi
   have t1:wr.there w.heap.size 0 512:=vD ((L.out.kept.block w.heap.size om so).trans B0.out);have t2:wr.there (w.heap.size+1) 0 256:=vD ((L.out.kept.block (w.heap.size+1) om so).trans B1.out);have cY:=hid ar;have c0:=hid aw;clear ar aw;go_upto_region 19 with(fail);have z1:T.toArray.size=512:=l1;have z2:Z.toArray.size=256:=l2;refine wp_region_noPanic ?_;refine wp_region_held_drew (S:=λw'=>w'.rangeAt F 0 Z/\w'.rangeAt I 0 T/\w'.there w.heap.size 0 512/\w'.there (w.heap.size+1) 0 256) kr ⟨r2,r1,t1,t2⟩ (λc4=>?_);refine' wpAnyH_take (i:=0) (oi:={dst:=some 82,op:=.load 100 (.tmp 6),type:=100,pos:= "parts.go:393",after:=#[],guard:=none}) (v:=_) rfl kr kr kr (λ_ _ _ h=>h) (yieldsIf_load_mid (by rfl) 100 (.tmp 6) rfl I 0 rfl T _ (λw h=>h.2.1) u1 rfl s1) au ?_;simp only[Act.put,Zh,Zm,Zn];refine' wpAnyH_take (i:=1) (oi:={dst:=some 83,op:=.load 36 (.tmp 7),type:=36,pos:= "parts.go:393",after:=#[{on:=2,ground:=.gcOnly .lateStores}],guard:=none}) (v:=_) rfl kr kr kr (λ_ _ _ h=>h) (yieldsIf_load_mid (by rfl) 36 (.tmp 7) rfl F 0 rfl Z _ (λw h=>h.1) u2 rfl s2) au ?_
   simp only[Act.put,Zh,Zm,Zn];refine wpAnyH_ready (rs:=[2]) kr rS ?_;refine AllReadyH.cons rfl (λK hK=>?_) .nil;rw[if_pos (by rfl)];refine wp_store_mid _ _ _ rfl w.heap.size 0 T.toArray rfl rfl (by rw[z1];exact t1) (by rw[z1,<-l1];exact s1) (all_oneCell_toArray o1) ?_;simp only[Act.put,Zh,Zm,Zn,List.toList_toArray];refine hK.out _ _ (by go_keep_ranges) (λag=>?_);clear hK K;refine wpAnyH_ready (rs:=[3]) kr rS ?_;refine AllReadyH.cons rfl (λK hK=>?_) .nil;rw[if_pos (by rfl)];refine wp_store_mid _ _ _ rfl (w.heap.size+1) 0 Z.toArray rfl rfl (by rw[z2];exact ag.2.2.2) (by rw[z2,<-l2];exact s2) (all_oneCell_toArray o2) ?_;simp only[Act.put,Zh,Zm,Zn,List.toList_toArray];refine hK.out _ _ (by go_keep_ranges) (λcW=>?_);clear hK K;refine wpAnyH_done kr ?_ _
   refine NoPanic.normal ?_;have g1:(wr.drew.setCells w.heap.size 0 T).rangeAt w.heap.size 0 T:=World.rangeAt_setCells_same _ _ _ _ (by rw[l1];exact t1);have g2:((wr.drew.setCells w.heap.size 0 T).setCells (w.heap.size+1) 0 Z).rangeAt (w.heap.size+1) 0 Z:=World.rangeAt_setCells_same _ _ _ _ (by rw[l2];exact ag.2.2.2);go_wp2;have g3:((wr.drew.setCells w.heap.size 0 T).setCells (w.heap.size+1) 0 Z).rangeAt w.heap.size 0 T:=World.rangeAt_setCells_apart g1 _ _ _ (.inl om);have dj:=run_loadVar_mid (P:=Tryz.prog) _ w.heap.size 0 100 T _ g3 u1 rfl s1;have dk:=run_loadVar_mid (P:=Tryz.prog) _ (w.heap.size+1) 0 36 Z _ g2 u2 rfl s2
   have c2:Below w.heap.size w ((wr.drew.setCells w.heap.size 0 T).setCells (w.heap.size+1) 0 Z):=
    jf (Nat.le_succ _) _ _ _ (jf (Zi _) _ _ _ (aj (Kept.below HW L.out.kept om so)))
   generalize (wr.drew.setCells w.heap.size 0 T).setCells (w.heap.size+1) 0 Z=wE at*;refine bodyPost_ret (v:=.tuple #[.agg T.toArray,.agg Z.toArray]) (by simp[results,Tryz.results41,Sem.run_bind,Sem.run_pure,Result.andThen_ok,asAddr,dj,dk]) rfl ?_;refine⟨c,is,?_,λt=>⟨λh=>⟨(bj.out t).1 h,(u.out.i1 t h).2⟩,(bj.out t).2⟩,c2⟩;rw[<-cY.out,<-c0.out]
end Go.Proofs.YtnifggkjieemeaaGreatDoor
