/- Lemmas of this claim: Open, TopMoves, CostSays, CornerSays, AsGrid, GridSays, Clear2, Clear3, TabF, Fresh. -/
import Derived.Deep.Grids
import Derived.Lib.SmallJoins
import Derived.Test.YtokhnobcincfjaaGreatDoorRows
import Derived.Test.YtokhnobcincfjaaGreatDoorKNEd5
set_option linter.unusedVariables false
set_option linter.unusedSimpArgs false
set_option maxHeartbeats 3200000
set_option maxRecDepth 100000
namespace Go.Proofs.YtokhnobcincfjaaGreatDoor
open Go.Lib (hid)
open Go.RowKit Go.Sort FR
open Go.ChangeShapes Go.WideShapes Go.ChangeAt Go.Joins
structure TT (W:World) (A:Option Addr) (n:Nat) (f:Nat->Int):Prop where
 ints:Ints W A n f
 len:n<=9223372036854775807
 wf:∀k,-9223372036854775808<=f k/\f k<=9223372036854775807
def Bools(w:World)(a:Option Addr)(n:Nat)(f:Nat->Bool):Prop:=0<n->∃ad,a=some ad/\ad.block<w.heap.size/\∀k,k<n->w.cell? (ad.add k)=some (.bool (f k))
structure UM (W:World) (A:Option Addr) (n:Nat) (f:Nat->Bool):Prop where
 bools:Bools W A n f
 len:n<=9223372036854775807
theorem Qx{x:Int}(h:(Lit.int .i64 x).wf=true):-9223372036854775808<=x/\x<=9223372036854775807:=by
 have g:IntKind.i64.min= -9223372036854775808:=by decide
 have k:IntKind.i64.max=9223372036854775807:=by decide
 simp[Lit.wf,g,k]at h;omega
section
variable {H:Type} {enc:TypeId×Value->H} {w:World} {base:Nat} {held:Bool}
theorem RQ{u:Nat}{cs:List Value}{x:DataW H×List MemPlace}(h:DataW.trod enc Tryz.prog w base (λ_=>true) held u 22 cs=some x):∃A n m f,cs=[.slice A n m]/\TT w A n f:=by
 rcases open_ints Tryz.underlying22 Tryz.underlying3 (by kernel_rfl) h with⟨rfl,_⟩|⟨a,len,z,g,rfl,_,M,L,J,_,I,F⟩
 .exact⟨none,0,0,λ_=>0,rfl,λh=>absurd h (by omega),by omega,λ_=>by omega⟩
 .refine⟨some a,len,z,λk=>g.getD k 0,rfl,λO=>⟨a,rfl,?_,λk B=>?_⟩,?_,λk=>?_⟩
  .have:=I 0 (by simp at J;omega)
   have:=block_lt_of_cell this;rwa[add_block]at this
  .exact I k (by simp at J;omega)
  .unfold maxLen at L;omega
  .by_cases B:k<g.length
   .have e:g.getD k 0=g[k]:=by simp[List.getD,B]
    simp only[e];exact Qx (F _ (List.getElem_mem B))
   .have e:g.getD k 0=0:=by simp[List.getD,List.getElem?_eq_none (by omega:g.length<=k)]
    simp only[e];omega
variable {r:Reach} {b0:Nat} {v:Value} {d:DataW H} {p:List MemPlace}
theorem Hf:Tryz.prog.cellsOf 24=3:=by kernel_rfl
theorem Jc(L:Value.okWide Tryz.prog w r b0 24 v)(h:DataW.Trod enc Tryz.prog w base (λ_=>true) held 24 v d p):∃a b A n m f,v=.agg #[.int .i64 a,.int .i64 b,.slice A n m]/\TT w A n f:=by
 obtain⟨M,O,P,Q,R,S,k,rfl,_,_,B,F,I⟩:=open_agg3 Tryz.underlying24 (by kernel_rfl) Hf L h;obtain⟨a,g,_,_⟩:=DataW.trod_int Tryz.underlying3 B;obtain⟨b,u,_,_⟩:=DataW.trod_int Tryz.underlying3 F;obtain⟨A,n,m,f,z,J⟩:=RQ I;simp at g u z;subst g u z;exact⟨a,b,A,n,m,f,rfl,J⟩
end
end Go.Proofs.YtokhnobcincfjaaGreatDoor
namespace Go.Proofs.YtokhnobcincfjaaGreatDoor
open Go.Lib (hid)
open Go.RowKit Go.Sort FR
variable {ad:Addr}{g:G}{v v' x y:Int}{zs:List Int}{c d k m n p t:Nat}{f f' f'':Nat->Nat->Int}{A:Option Addr}{W0 w w':World}
theorem M5{p:Nat->Bool}(h:k<(upTo p n).length):∃d:Nat,(upTo p n).getD k 0=(d:Int)/\d<n/\p d=true:=by
 have e:(upTo p n).getD k 0=(upTo p n)[k]:=by simp[List.getD,h]
 rw[e];have u:(upTo p n)[k]∈upTo p n:=List.getElem_mem h;generalize (upTo p n)[k]=z at u⊢;unfold upTo at u;rw[List.mem_map]at u;obtain⟨d,B,rfl⟩:=u;rw[List.mem_filter,List.mem_range]at B;exact⟨d,rfl,B.1,B.2⟩
theorem M6{p:Nat->Bool}(z:d<n)(F:p d=true):∃k,k<(upTo p n).length/\(upTo p n).getD k 0=(d:Int):=by
 have B:(d:Int)∈upTo p n:=by
  unfold upTo;rw[List.mem_map];exact⟨d,by rw[List.mem_filter,List.mem_range];exact⟨z,F⟩,rfl⟩
 obtain⟨k,u,e⟩:=List.getElem_of_mem B;exact⟨k,u,by simp[List.getD,u,e]⟩
theorem to_eq(h:g.dN c d=true):g.Ai c d=(g.to c d:Nat)/\g.to c d<g.n:=by
 have F:=G.uk h;refine⟨?_,F⟩;obtain⟨a,b,e⟩:=G.df h;unfold G.to;unfold G.dN at h;have I:=(G.fu.1 h).2.1;obtain⟨⟨z,B,u,M⟩,_⟩:=G.rX.1 I;have:=G.CL (g:=g) (c:=c) (d:=d) z B u
 have J:0<=g.Ai c d:=by
  unfold G.Ai;have e:=G.XY g c;have L:(c:Int)=(g.Y c:Int)*g.w+g.X c:=by rw[<-Int.natCast_mul,<-Int.natCast_add,e]
  have q:0<=((g.Y c:Int)+aZ d)*g.w:=Int.mul_nonneg u (by omega);rw[Int.add_mul]at q;omega
 omega
theorem JV(w:World)(p:Nat)(g:G)(v x y:Int)(d:Nat)(t:Bool)(h:az w p g v)(u:d<8)(z:wW x)(B:wW y)(e:g.may x y d=t):Calls Tryz.prog 153 #[.pointer (some ⟨p,0,none⟩),.int .i64 x,.int .i64 y,.int .i64 (d:Nat)] w λe F=>e=.returned (.bool t)/\Below w.heap.size w F:=by
 rw[<-e];exact zn w p g v x y d h u z B
theorem P8(w:World)(p:Nat)(g:G)(v:Int)(c d:Nat)(z:Int)(h:az w p g v)(u:c<g.n)(B:d<8)(e:g.Ai c d=z):Calls Tryz.prog 93 #[.pointer (some ⟨p,0,none⟩),.int .i64 (c:Nat),.int .i64 (d:Nat)] w λe F=>e=.returned (.int .i64 z)/\Below w.heap.size w F:=by
 rw[<-e];exact Rf w p g v c d h u B
theorem Ints.cell{f:Nat->Int}(h:Ints w (some ad) n f)(F:Below w.heap.size w w')(I:k<n):w'.cell? (ad.add k)=some (.int .i64 (f k)):=by
 obtain⟨u,e,z,B⟩:=h (by omega);cases e;exact(F.cell (p:=ad.add k) (by rw[add_block];exact z)).trans (B k I)
theorem Ints.addr{f:Nat->Int}(h:Ints w A n f)(z:0<n):∃u,A=some u:=by
 obtain⟨u,e,_⟩:=h z;exact⟨u,e⟩
theorem aX(h:A=some ad)(z:k<n)(u:World):(Instr.indexAt 22 (.slice A n m) (.int .i64 (k:Nat))).run Tryz.prog u=.ok (.pointer (some (ad.add k))) u:=by
 subst h;have q:(k:Int)<(n:Int):=by omega
 go_simp
def UH:G:=bS ⟨(3:Int).toNat,(3:Int).toNat,λ_=>false⟩ 4 true
theorem MG(w:World)(p:Nat)(g:G)(v:Int)(c d:Nat)(z:Int)(h:aB w p g v)(u:c<g.n)(B:d<8)(e:g.Ai c d=z):Calls Tryz.prog 68 #[.pointer (some ⟨p,0,none⟩),.int .i64 (c:Nat),.int .i64 (d:Nat)] w λe F=>e=.returned (.int .i64 z)/\Below w.heap.size w F:=by
 rw[<-e];exact UJ w p g v c d h u B
theorem Bools.cell{f:Nat->Bool}(h:Bools w (some ad) n f)(F:Below w.heap.size w w')(I:k<n):w'.cell? (ad.add k)=some (.bool (f k)):=by
 obtain⟨u,e,z,B⟩:=h (by omega);cases e;exact(F.cell (p:=ad.add k) (by rw[add_block];exact z)).trans (B k I)
theorem Bools.addr{f:Nat->Bool}(h:Bools w A n f)(z:0<n):∃u,A=some u:=by
 obtain⟨u,e,_⟩:=h z;exact⟨u,e⟩
def uG(W0:World)(t p:Nat)(g:G)(v:Int)(P:Nat->Nat->Prop)(w:World):Prop:=∃f,TabAt w t p f/\az w p g v/\(∀c d,P c d->f c d=j5 g c d)/\Below W0.heap.size W0 w
theorem Nh(p:Nat):(Tryz.zeroCells198.setIfInBounds 0 (.pointer (some ⟨p,0,none⟩)))=rowOf (tJ p (λ_ _=>0)) 2049:=by kernel_rfl
def NJ(w:World)(g:G)(v:Int)(e:Ending)(w':World):Prop:=∃t p,e=.returned (.pointer (some ⟨t,0,none⟩))/\w.heap.size<=p/\p<t/\uG w t p g v (λc d=>c<g.n/\d<8) w'
theorem MZ(w:World)(p0:Nat)(g:G)(v:Int)(hG:az w p0 g v):Calls Tryz.prog 81 #[.pointer (some ⟨p0,0,none⟩)] w (NJ w g v):=by
 have hp0:=hid hG.lt;have hn:=G.bR hG.1;go_enter Tryz.func81,Tryz.ntmps81;go_wp2_with fail;(with_reducible refine(Bv _ p0 g v hG).mono ?_);rintro e w1 ⟨rfl,B,T,ac⟩;obtain⟨p,F⟩:∃p,w.heap.size=p:=⟨_,rfl⟩;rw[F]at B⊢;have ai:=hid ac;have ag:=hid F;clear ac F;go_upto_region 2 with(fail);obtain⟨t,ht⟩:∃t,w1.heap.size=t:=⟨_,rfl⟩;rw[ht];have F:=ag.out;have ab:t=p+1:=by have:=ai.out;omega
 have hP:=hid (show w.heap.size<=p by omega);refine au ?_;intro W2 I;have S:TabAt W2 t p (λ_ _=>0):=by rw[I,<-ht];unfold TabAt;rw[heap_alloc_new,Nh]
 have R:az W2 p g v:=by rw[I];exact B.below (Below.alloc (Below.refl _ _) (Nat.le_refl _) _) B.lt
 have Q:Below w.heap.size w W2:=by rw[I];exact af T
 have hstart:uG w t p g v (λc d=>c<g.n/\d<0) W2:=⟨_,S,R,λc d h=>by omega,Q⟩;have O:=hid ab;clear I S R Q B T ht F ab;go_wp2_with fail;go_loopw [10] (λi wr=>∃d:Nat,d<=8/\i=.int .i64 d/\uG w t p g v (λu z=>u<g.n/\z<d) wr) (λi _=>8-(intOf i).toNat)
 case atStart=>exact⟨0,by omega,rfl,hstart⟩
 case round=>
  obtain⟨d,hd,rfl,f,M,B,P,L⟩:=hrel;clear hstart;by_cases ao:d<8
  .go_wp2_with fail
   (with_reducible refine(jc _ p0 g v (hG.below L hp0.out)).mono ?_);rintro e w3 ⟨rfl,J⟩;have U:uG w t p g v (λu z=>u<g.n/\z<d\/u<0/\z=d) w3:=⟨f,M.below J M.lt,B.below J B.lt,λu z h=>P u z (by omega),aa L J⟩;clear M B P L J;go_wp2_with fail;obtain⟨wo,rfl⟩:∃wo:World,wo=wr:=⟨_,rfl⟩
   go_loopw [15] (λi wr=>∃c:Nat,c<=g.n/\i=.int .i64 c/\uG w t p g v (λu z=>u<g.n/\z<d\/u<c/\z=d) wr) (λi _=>g.n-(intOf i).toNat)
   case atStart=>exact⟨0,by omega,rfl,U⟩
   case round=>
    obtain⟨c,hc,rfl,f,M,B,P,L⟩:=hrel;clear U;by_cases an:c<g.n
    .have k:t≠p:=by have:=O.out;omega
     go_wp2_with fail;(with_reducible refine(CF _ t p f g v c d M B k an ao).mono ?_);rintro e w4 ⟨rfl,am,al,Z⟩;have ad:=Kept.below L Z L.size (by simp;have:=O.out;have:=hP.out;omega);clear k M B Z;go_wp2;go_roundw
     case rel=>exact⟨c+1,by omega,by go_num,_,am,al,λu z h=>by
      unfold xq;by_cases e:u=c/\z=d
      .obtain⟨rfl,rfl⟩:=e;rw[if_pos ⟨rfl,rfl⟩]
      .rw[if_neg e];exact P u z (by omega),ad⟩
     case measure=>simp[intOf];omega
    .obtain rfl:c=g.n:=by omega
     go_wp2;go_roundw
     case rel=>exact⟨d+1,by omega,by go_num,f,M,B,λu z h=>P u z (by omega),L⟩
     case measure=>simp[intOf];omega
  .obtain rfl:d=8:=by omega
   go_wp2;go_ret;exact⟨t,p,rfl,hP.out,by have:=O.out;omega,f,M,B,P,L⟩
def bY(g:G)(f f':Nat->Nat->Int):Prop:=∀c d,f' c d=f c d\/f' c d=j5 g c d
theorem bY.refl(g:G)(f:Nat->Nat->Int):bY g f f:=λ_ _=>.inl rfl
theorem bY.set(h:bY g f f')(c d:Nat):bY g f (xq f' c d (j5 g c d)):=by
 intro u z;unfold xq;by_cases e:u=c/\z=d
 .obtain⟨rfl,rfl⟩:=e;rw[if_pos ⟨rfl,rfl⟩];exact .inr rfl
 .rw[if_neg e];exact h u z
theorem bY.trans(h:bY g f f')(k:bY g f' f''):bY g f f'':=by
 intro c d;rcases k c d with e|e
 .rw[e];exact h c d
 .exact .inr e
theorem bY.keep(h:bY g f f')(e:f c d=j5 g c d):f' c d=j5 g c d:=by
 rcases h c d with h|h
 .rw[h,e]
 .exact h
def Behind(g:G)(x y:Int)(d c k:Nat):Prop:=c<g.n/\(g.X c:Int)=x-k*bu d/\(g.Y c:Int)=y-k*aZ d
def wQ(g:G)(x y:Int):Prop:=0<=x/\x<g.w/\0<=y/\y<g.h
def EW(g:G)(f':Nat->Nat->Int)(x y:Int)(d m:Nat):Prop:=∀c k:Nat,k<m->Behind g x y d c k->f' c d=j5 g c d
def PX(W0:World)(t p:Nat)(g:G)(v:Int)(f:Nat->Nat->Int)(x y:Int)(d m:Nat)(w:World):Prop:=
 ∃f',TabAt w t p f'/\az w p g v/\bY g f f'/\EW g f' x y d m/\Kept [t] W0 w
def PW(W0:World)(t p:Nat)(g:G)(v:Int)(f:Nat->Nat->Int)(x y:Int)(d:Nat)(e:Ending)(w:World):Prop:=
 e=.returned (.tuple #[])/\∃f',TabAt w t p f'/\az w p g v/\bY g f f'/\(wQ g x y->∀c k:Nat,Behind g x y d c k->f' c d=j5 g c d)/\Kept [t] W0 w
theorem BD(I:wQ g x y)(J:wQ g (x-k*bu d) (y-k*aZ d))(L:m<=k):wQ g (x-m*bu d) (y-m*aZ d):=by
 obtain⟨u,z,B,F⟩:=iY d;unfold wQ at*;generalize bu d=a at*;generalize aZ d=b at*;rcases(show a= -1\/a=0\/a=1 by omega)with rfl|rfl|rfl<;>rcases(show b= -1\/b=0\/b=1 by omega)with rfl|rfl|rfl<;>omega
theorem GV(z:g.ok)(h:Behind g x y d c k):wQ g (x-k*bu d) (y-k*aZ d):=by
 obtain⟨u,B,F⟩:=h;have:=G.jw z c;have:=G.iM u;unfold wQ;omega
theorem Ea(F:EW g f' x y d m)(I:Behind g x y d c m):EW g (xq f' c d (j5 g c d)) x y d (m+1):=by
 intro u k P h;unfold xq;by_cases e:u=c/\d=d
 .rw[if_pos e,e.1]
 .rw[if_neg e]
  have z:u≠c:=λB=>e ⟨B,rfl⟩;refine F u k ?_ h
  have:k≠m:=by
   rintro rfl;apply z;obtain⟨_,M,O⟩:=h;obtain⟨_,J,L⟩:=I;rw[<-G.fP g u,<-G.fP g c];rw[show g.X u=g.X c by omega,show g.Y u=g.Y c by omega]
  omega
theorem GU(L:g.ok)(h:wQ g (x-m*bu d) (y-m*aZ d)):∃c:Nat,(y-m*aZ d)*(g.w:Int)+(x-m*bu d)=(c:Nat)/\Behind g x y d c m:=by
 obtain⟨B,I,F,J⟩:=h;obtain⟨i,u⟩:=Int.eq_ofNat_of_zero_le B;obtain⟨j,z⟩:=Int.eq_ofNat_of_zero_le F;refine⟨g.cell i j,?_,G.mY (by omega) (by omega),?_,?_⟩
 .rw[u,z];unfold G.cell;simp
 .rw[G.oN (by omega)];exact u.symm
 .rw[G.oO (by omega)];exact z.symm
theorem IU(I:g.ok)(F:EW g f' x y d m)(J:¬wQ g (x-m*bu d) (y-m*aZ d)):wQ g x y->∀c k:Nat,Behind g x y d c k->f' c d=j5 g c d:=by
 intro B c k h;refine F c k ?_ h;rcases Nat.lt_or_ge k m with z|u
 .exact z
 .exact absurd (BD B (GV I h) u) J
theorem D7(z:g.ok)(B:wQ g x y)(h:wQ g (x-m*bu d) (y-m*aZ d)):m<=15:=by
 obtain⟨_,F,_,I⟩:=z;unfold wQ at*;rcases G.Qc d with e|e|⟨e,u|u⟩
 .rw[e]at h;omega
 .rw[e]at h;omega
 .rw[e,u]at h;omega
 .rw[e,u]at h;omega
theorem PL(w:World)(t p:Nat)(f:Nat->Nat->Int)(g:G)(v x y:Int)(d:Nat)(hT:TabAt w t p f)(hG:az w p g v)(ai:t≠p)(hd:d<8)(hx: -1<=x/\x<=16)(hy: -1<=y/\y<=16):Calls Tryz.prog 104 #[.pointer (some ⟨t,0,none⟩),.int .i64 x,.int .i64 y,.int .i64 (d:Nat)] w (PW w t p g v f x y d):=by
 have T:=hG.1;have ay:=hid hT.lt;have ax:=hid hG.lt;have aw:=hid ai;obtain⟨x1,x2⟩:=hx;obtain⟨y1,y2⟩:=hy;clear ai;obtain⟨b1,b2,b3,b4⟩:=iY d;have B:=iC d hd;obtain⟨dx,Q⟩:∃z,bu d=z:=⟨_,rfl⟩;obtain⟨dy,R⟩:∃z,aZ d=z:=⟨_,rfl⟩;rw[Q]at b1 b2 B;rw[R]at b3 b4 B;have B:=hid B;have L:=hid Q;have M:=hid R;clear Q R;go_enter Tryz.func104,Tryz.ntmps104;go_wp2_with fail;(with_reducible refine(B.out _).mono ?_);rintro e w1 ⟨rfl,J⟩;have hstart:PX w t p g v f x y d 0 w1:=⟨f,hT.below J ay.out,hG.below J ax.out,bY.refl _ _,λc k hk=>by omega,.of_below J⟩;clear J;go_wp2_with fail;go_loopg [1,2] 20 (λgk a b wr=>∃(m:Nat)(u z:Int),gk+m=20/\m<=16/\a=.int .i64 u/\b=.int .i64 z/\u=x-m*dx/\z=y-m*dy/\(0<m->wQ g x y)/\PX w t p g v f x y d m wr)
 case atStart=>exact⟨0,x,y,by omega,by omega,rfl,rfl,by simp,by simp,λh=>by omega,hstart⟩
 case round=>
  obtain⟨m,u,z,ac,a1,rfl,rfl,hu,hz,ad,f',O,I,ag,hL,hk⟩:=hrel;clear hstart
  have aE:-40<=u/\u<=40:=by
   rcases(show dx= -1\/dx=0\/dx=1 by omega)with e|e|e<;>rw[e]at hu<;>omega
  have aS:-40<=z/\z<=40:=by
   rcases(show dy= -1\/dy=0\/dy=1 by omega)with e|e|e<;>rw[e]at hz<;>omega
  obtain⟨u1,u2⟩:=aE;obtain⟨z1,z2⟩:=aS;have k0:=O.ptr;have Hu:=hid hu;have Hz:=hid hz;have ab:=hid ac;have am:=hid ad;clear hu hz ac ad;by_cases F:wQ g u z
  .have S:wQ g (x-m*bu d) (y-m*aZ d):=by rw[L.out,M.out,<-Hu.out,<-Hz.out];exact F
   have U:wQ g x y:=by
    rcases Nat.eq_zero_or_pos m with h0|h0
    .have e1:=Hu.out;have e2:=Hz.out
     rw[h0]at e1 e2;simp at e1 e2;rw[<-e1,<-e2];exact F
    .exact am.out h0
   have a0:=D7 T U S;obtain⟨c,hc,P⟩:=GU T S;rw[L.out,M.out,<-Hu.out,<-Hz.out]at hc;have Z:=jH wr p g v u z I F.1 F.2.1 F.2.2.1 F.2.2.2;rw[hc]at Z;have Z:=hid Z;have al:=hid P;have aq:=P.1;clear hc P F S;have an:=hid U;clear U;go_wp2_with fail;(with_reducible refine(Z.out).mono ?_);rintro e w' ⟨rfl,rfl⟩;go_wp2_with fail;(with_reducible refine(CF _ t p f' g v c d O I aw.out aq hd).mono ?_);rintro e w4 ⟨rfl,ap,ao,ar⟩;clear k0;go_wp2;go_roundg (gk-1)
   case measure=>have:=ab.out;omega
   case rel=>exact⟨m+1,_,_,by have:=ab.out;omega,by omega,rfl,rfl,by have:=Hu.out;rw[Int.natCast_add,Int.add_mul];omega,by have:=Hz.out;rw[Int.natCast_add,Int.add_mul];omega,λ_=>an.out,_,ap,ao,ag.set c d,Ea hL al.out,hk.trans ar⟩
  .have ho:¬wQ g (x-m*bu d) (y-m*aZ d):=by rw[L.out,M.out,<-Hu.out,<-Hz.out];exact F
   have Z:=hid (lh wr p g v u z I (λh=>F h));have Ho:=hid ho;clear ho F;go_wp2_with fail;(with_reducible refine(Z.out).mono ?_);rintro e w' ⟨rfl,rfl⟩;clear k0;go_wp2;go_end0;exact⟨rfl,f',O,I,ag,IU T hL Ho.out,hk⟩
def Full(g:G)(f:Nat->Nat->Int):Prop:=∀c d,c<g.n->d<8->f c d=j5 g c d
theorem Ov(R:g.ok){t:Bool}(Q:c<g.n)(u v:Int)(h:¬(u=(g.X c:Nat)/\v=(g.Y c:Nat))):(bS g c t).op u v=g.op u v:=by
 by_cases z:0<=u/\u<g.w/\0<=v/\v<g.h
 .obtain⟨L,O,M,P⟩:=z
  obtain⟨i,rfl⟩:=Int.eq_ofNat_of_zero_le L;obtain⟨j,rfl⟩:=Int.eq_ofNat_of_zero_le M;unfold G.op bS;simp only[Int.toNat_natCast];rw[upd_ne];intro e;apply h;have I:g.X c=i:=by rw[<-e];exact G.oN (by omega)
  have J:g.Y c=j:=by rw[<-e];exact G.oO (by omega)
  rw[I,J];exact⟨rfl,rfl⟩
 .have B:(bS g c t).op u v=false:=by unfold G.op bS;simp only;rw[decide_eq_false z];rfl
  have F:g.op u v=false:=by unfold G.op;rw[decide_eq_false z];rfl
  rw[B,F]
def TA(i j k i' j' k':Nat):Prop:=i'<3/\j'<3/\k'<8/\(i'<i\/(i'=i/\(j'<j\/(j'=j/\k'<k))))
def rq(W0:World)(t p:Nat)(g':G)(v':Int)(f:Nat->Nat->Int)(x y:Int)(i j k:Nat)(w:World):Prop:=
 ∃f',TabAt w t p f'/\az w p g' v'/\bY g' f f'/\(∀i' j' k',TA i j k i' j' k'->wQ g' (x-1+j') (y-1+i')->∀c m:Nat,Behind g' (x-1+j') (y-1+i') k' c m->f' c k'=j5 g' c k')/\Kept [t,p] W0 w
theorem rq.mono{g':G}{i j k I J L:Nat}(h:rq W0 t p g' v' f x y i j k w)(T:∀u z B,TA I J L u z B->TA i j k u z B):rq W0 t p g' v' f x y I J L w:=by
 obtain⟨M,O,P,Q,R,S⟩:=h;exact⟨M,O,P,Q,λu z B F=>R u z B (T _ _ _ F),S⟩
theorem KW{u:Nat}{b:Bool}(P:g.ok)(B:u<g.n)(hf:Full g f)(h:rq W0 t p (bS g u b) v' f (g.X u:Nat) (g.Y u:Nat) 3 0 0 w):∃z,TabAt w t p z/\az w p (bS g u b) v'/\Full (bS g u b) z/\Kept [t,p] W0 w:=by
 obtain⟨z,U,Z,k,h4,h5⟩:=h;refine⟨z,U,Z,λc d M O=>?_,h5⟩;rcases k c d with e|e
 .by_cases Q:j5 (bS g u b) c d=j5 g c d
  .rw[e,hf c d M O,Q]
  .have I:(bS g u b).Fu d (g.X c:Nat) (g.Y c:Nat)≠g.Fu d (g.X c:Nat) (g.Y c:Nat):=by
    intro T;apply Q;unfold j5;show(((bS g u b).Fu d (g.X c:Nat) (g.Y c:Nat):Nat):Int)=_;rw[T]
   obtain⟨m,hm,F,a1,a2,a3,a4⟩:=G.Dp P (g':=bS g u b) rfl rfl (zx:=(g.X u:Nat)) (zy:=(g.Y u:Nat)) (Ov P B) I;obtain⟨S,hj⟩:=Int.eq_ofNat_of_zero_le (show 0<=(g.X c:Int)+m*bu d-((g.X u:Int)-1)by omega);obtain⟨R,hi⟩:=Int.eq_ofNat_of_zero_le (show 0<=(g.Y c:Int)+m*aZ d-((g.Y u:Int)-1)by omega);have L:(g.X u:Int)-1+S=(g.X c:Int)+m*bu d:=by omega
   have J:(g.Y u:Int)-1+R=(g.Y c:Int)+m*aZ d:=by omega
   refine h4 R S d ⟨by omega,by omega,O,.inl (by omega)⟩ ?_ c m ⟨M,?_,?_⟩
   .rw[L,J];exact F
   .rw[L];show(g.X c:Int)=_;omega
   .rw[J];show(g.Y c:Int)=_;omega
 .exact e
theorem bY.Td(k:bY g f' f'')(h:wQ g x y->∀c m:Nat,Behind g x y d c m->f' c d=j5 g c d):wQ g x y->∀c m:Nat,Behind g x y d c m->f'' c d=j5 g c d:=
 λu c m z=>k.keep (h u c m z)
theorem Jt{W0 w1 w2:World}{g':G}{i j k:Nat}{F:Nat->Nat->Int}(M:∀z B u,TA i j k z B u->wQ g' (x-1+B) (y-1+z)->∀c m:Nat,Behind g' (x-1+B) (y-1+z) u c m->F c u=j5 g' c u)(L:bY g' f F)(O:Kept [t,p] W0 w1){e:Ending}(P:PW w1 t p g' v' F (x-1+j) (y-1+i) k e w2):rq W0 t p g' v' f x y i j (k+1) w2:=by
 obtain⟨_,J,R,S,I,T,U⟩:=P;refine⟨J,R,S,L.trans I,?_,O.trans (U.more (by simp))⟩;intro z B u Q;by_cases e:z=i/\B=j/\u=k
 .obtain⟨rfl,rfl,rfl⟩:=e;exact T
 .refine I.Td (M z B u ?_)
  obtain⟨Z,g,v3,v4⟩:=Q;exact⟨Z,g,v3,by omega⟩
def TQ(W0:World)(t p:Nat)(g':G)(v':Int)(e:Ending)(w:World):Prop:=e=.returned (.tuple #[.bool true,.nilIface])/\∃f',TabAt w t p f'/\az w p g' v'/\Full g' f'/\Kept [t,p] W0 w
theorem EM(w:World)(t p:Nat)(f:Nat->Nat->Int)(g:G)(v:Int)(c:Nat)(b:Bool)(hT:TabAt w t p f)(M:az w p g v)(S:t≠p)(hf:Full g f)(T:c<g.n)(hb:g.b c= !b)(hv:0<=v/\v<=1099511627776):Calls Tryz.prog 58 #[.pointer (some ⟨t,0,none⟩),.int .i64 (c:Nat),.bool b] w (TQ w t p (bS g c b) (v+1)):=by
 have ac:=M.1;have hX:g.X c<16:=by have:=G.jw M.1 c;have:=M.1.2.1;omega
 have hY:g.Y c<16:=by have:=G.iM T;have:=M.1.2.2.2;omega
 have ab:c<(bS g c b).n:=T;have R:=hid S;have hf:=hid hf;have hb:=hid hb;clear S;have k0:=hT.ptr;go_enter Tryz.func58,Tryz.ntmps58;go_wp2_with fail;(with_reducible refine(iw _ p g v c b M T hb.out hv).mono ?_);rintro e w1 ⟨rfl,B,L⟩;have F:=hT.kept L (by simp;exact R.out);have J:Kept [t,p] w w1:=L.more (by simp);clear k0;have k0:=F.ptr;go_wp2_with fail;(with_reducible refine(aU _ p (bS g c b) (v+1) c B ab).mono ?_);rintro e w2 ⟨rfl,I⟩;have hstart:rq w t p (bS g c b) (v+1) f (g.X c:Nat) (g.Y c:Nat) 0 0 0 w2:=⟨f,F.below I F.lt,B.below I B.lt,bY.refl _ _,λi' j' k' hv=>by obtain⟨_,_,_,h⟩:=hv;omega,J.trans (.of_below I)⟩;have eX:(bS g c b).X c=g.X c:=rfl;have eY:(bS g c b).Y c=g.Y c:=rfl;rw[eX,eY];clear k0 F B L J I eX eY hT M;go_wp2_with fail;go_loopw [13] (λa wr=>∃(i:Nat)(u:Int),i<=3/\a=.int .i64 u/\u=(g.Y c:Nat)-1+i/\rq w t p (bS g c b) (v+1) f (g.X c:Nat) (g.Y c:Nat) i 0 0 wr) (λa _=>(30-intOf a).toNat)
 case atStart=>exact⟨0,_,by omega,rfl,by omega,hstart⟩
 case round=>
  obtain⟨i,u,hi,rfl,hu,P⟩:=hrel;clear hstart;have u1:-1<=u:=by omega
  have u2:u<=20:=by omega
  have Hu:=hid hu;by_cases ag:i<3
  .have u3:u<=(g.Y c:Nat)+1:=by omega
   clear hu;go_wp2_with fail;obtain⟨wo,rfl⟩:∃wo:World,wo=wr:=⟨_,rfl⟩
   go_loopw [14] (λa wr=>∃(j:Nat)(z:Int),j<=3/\a=.int .i64 z/\z=(g.X c:Nat)-1+j/\rq w t p (bS g c b) (v+1) f (g.X c:Nat) (g.Y c:Nat) i j 0 wr) (λa _=>(30-intOf a).toNat)
   case atStart=>exact⟨0,_,by omega,rfl,by omega,P⟩
   case round=>
    obtain⟨j,z,hj,rfl,hz,P⟩:=hrel;have z1:-1<=z:=by omega
    have z2:z<=20:=by omega
    have Hz:=hid hz;by_cases ad:j<3
    .have z3:z<=(g.X c:Nat)+1:=by omega
     clear hz;go_wp2_with fail;obtain⟨wp,rfl⟩:∃wp:World,wp=wr:=⟨_,rfl⟩
     go_loopw [59] (λa wr=>∃k:Nat,k<=8/\a=.int .i64 k/\rq w t p (bS g c b) (v+1) f (g.X c:Nat) (g.Y c:Nat) i j k wr) (λa _=>8-(intOf a).toNat)
     case atStart=>exact⟨0,by omega,rfl,P⟩
     case round=>
      obtain⟨k,hk,rfl,f1,s1,s2,s3,s4,s5⟩:=hrel;by_cases Q:k<8
      .go_wp2_with fail
       (with_reducible refine(PL _ t p f1 (bS g c b) (v+1) z u k s1 s2 R.out Q (by omega) (by omega)).mono ?_);rintro e w4 hL;obtain⟨rfl,O⟩:=hL;have U:rq w t p (bS g c b) (v+1) f (g.X c:Nat) (g.Y c:Nat) i j (k+1) w4:=Jt s4 s3 s5 (e:=.returned (.tuple #[])) (by rw[<-Hu.out,<-Hz.out];exact⟨rfl,O⟩);clear O s1 s2 s3 s4 s5;go_wp2;go_roundw
       case rel=>exact⟨k+1,by omega,by go_num,U⟩
       case measure=>simp[intOf];omega
      .obtain rfl:k=8:=by omega
       have Z:rq w t p (bS g c b) (v+1) f (g.X c:Nat) (g.Y c:Nat) i (j+1) 0 wr:=rq.mono ⟨f1,s1,s2,s3,s4,s5⟩ (λi' j' k'⟨v1,v2,v3,v4⟩=>⟨v1,v2,v3,by omega⟩);go_wp2;go_roundw
       case rel=>exact⟨j+1,_,by omega,rfl,by have:=Hz.out;omega,Z⟩
       case measure=>simp[intOf];omega
    .obtain rfl:j=3:=by omega
     have z3:(g.X c:Nat)+1<z:=by omega
     have Z:rq w t p (bS g c b) (v+1) f (g.X c:Nat) (g.Y c:Nat) (i+1) 0 0 wr:=P.mono (λi' j' k'⟨v1,v2,v3,v4⟩=>⟨v1,v2,v3,by omega⟩);clear hz;go_wp2;go_roundw
     case rel=>exact⟨i+1,_,by omega,rfl,by have:=Hu.out;omega,Z⟩
     case measure=>simp[intOf];omega
  .obtain rfl:i=3:=by omega
   have u3:(g.Y c:Nat)+1<u:=by omega
   clear hu;go_wp2;go_ret2;exact⟨rfl,KW ac T hf.out P⟩
def eH(w:World)(t p:Nat)(g:G)(v:Int):Prop:=∃f,TabAt w t p f/\az w p g v/\Full g f
theorem eH.kept{S:List Nat}(h:eH w t p g v)(u:Kept S w w')(J:t∉S)(I:p∉S):eH w' t p g v:=by
 obtain⟨f,z,B,F⟩:=h;exact⟨f,z.kept u J,B.kept u I,F⟩
theorem eH.below(h:eH w t p g v)(u:Below w.heap.size w w'):eH w' t p g v:=h.kept (S:=[]) (.of_below u) (by simp) (by simp)
theorem CG(w:World)(u:Nat)(g:G)(v:Int)(P:az w u g v):Calls Tryz.prog 81 #[.pointer (some ⟨u,0,none⟩)] w λe z=>∃t p,e=.returned (.pointer (some ⟨t,0,none⟩))/\w.heap.size<=p/\p<t/\eH z t p g v/\Below w.heap.size w z:=
 (MZ w u g v P).mono λ_ _⟨t,p,B,F,I,f,J,L,M,O⟩=>⟨t,p,B,F,I,⟨f,J,L,λc d Q R=>M c d ⟨Q,R⟩⟩,O⟩
theorem eH.lt(h:eH w t p g v):t<w.heap.size/\p<w.heap.size:=by
 obtain⟨f,u,z,_⟩:=h;exact⟨u.lt,z.lt⟩
theorem aI.Lh{B:Nat}{v:Value}(h:aI w B v zs):∃A m,v=.slice A zs.length m/\Ints w A zs.length (λk=>zs.getD k 0)/\∀u,A=some u->B<=u.block:=by
 rcases h.2 with⟨rfl,M⟩|⟨g,z,F,rfl,I,J,O,P,Q,R⟩
 .rw[M];exact⟨none,0,rfl,λh=>absurd h (by omega),λu h=>by cases h⟩
 .refine⟨_,z,rfl,λ_=>⟨⟨g,0,none⟩,rfl,(Array.getElem?_eq_some_iff.1 J).1,λk L=>?_⟩,λu h=>by injection h with h;rw[<-h];exact I⟩
  refine World.ownsRow.cells h (g:=g) rfl k _ ?_;simp[List.getD,L]
def Au(w:World)(zs:List Int)(e:Ending)(w':World):Prop:=∃A m,e=.returned (.slice A zs.length m)/\Ints w' A zs.length (λk=>zs.getD k 0)/\(∀ad,A=some ad->w.heap.size<=ad.block)/\Below w.heap.size w w'
def xE(w:World)(zs:List Int)(e:Ending)(w':World):Prop:=∃A m,e=.returned (.tuple #[.slice A zs.length m,.nilIface])/\Ints w' A zs.length (λk=>zs.getD k 0)/\(∀ad,A=some ad->w.heap.size<=ad.block)/\Below w.heap.size w w'
theorem Jp{v:Value}(h:aI w' w.heap.size v zs)(u:Below w.heap.size w w'):Au w zs (.returned v) w':=by
 obtain⟨A,m,rfl,B,z⟩:=h.Lh;exact⟨A,m,rfl,B,z,u⟩
theorem EE{v:Value}(h:aI w' w.heap.size v zs)(u:Below w.heap.size w w'):xE w zs (.returned (.tuple #[v,.nilIface])) w':=by
 obtain⟨A,m,rfl,B,z⟩:=h.Lh;exact⟨A,m,rfl,B,z,u⟩
theorem dR{M:Array Oper}{F:List Oper}{o:Oper}{a:Act}{Q:Exit->Act->World->Prop}(w:World)(R:o.guard=none)(s x:Operand)(ho:o.op=.call {callee:=.builtin .append,args:=#[s,x],argTypes:=#[22,22]})(B:Nat)(v:Value)(P:List Int)(z:Int)(hs:a.eval s=v)(L:aI w B v P)(ad:Addr)(hx:a.eval x=.slice (some ad) 1 1)(hc:w.cell? ad=some (.int .i64 z))(hl:P.length<1099511627776)(hB:B<=w.heap.size)(h:∀J O,aI O B J (P++[z])->w.grownBy O v.ownBlock->(J.ownBlock=v.ownBlock\/J.ownBlock=some w.heap.size)->wpList Tryz.prog M Q F (a.put o.dst J) O):wpList Tryz.prog M Q (o::F) a w:=by
 obtain⟨i0,hi,S,T,U⟩:=info_parts mD;refine wpList_append_own_at w R s x 22 ho B 3 i0 (.int .i64 0) 1 8 Tryz.underlying22 hi S T U rfl (by decide) v P.length (P.map (Value.int .i64)) hs L ad 1 1 [.int .i64 z] hx rfl ?_ ?_ ?_ ?_ hB ?_
 .intro j u I
  cases j with
  |zero=>simp at I;subst I;simpa[Addr.add]using hc
  |succ j=>simp at I
 .intro u I;simp at I;subst I;rfl
 .unfold maxLen;omega
 .omega
 .intro J O Z g _ k
  refine h J O ?_ g k;unfold aI;simpa using Z
theorem Ints.kept{S:List Nat}{f:Nat->Int}(h:Ints w A n f)(I:Kept S w w')(L:∀u,A=some u->u.block∉S):Ints w' A n f:=by
 intro M;obtain⟨u,B,F,J⟩:=h M
 exact⟨u,B,Nat.lt_of_lt_of_le F I.size,λk z=>by
  have e:w'.cell? (u.add k)=w.cell? (u.add k):=World.cell?_of_block (by rw[add_block];exact I.block _ F (L u B));rw[e];exact J k z⟩
theorem Gt(w:World)(p:Nat)(g:G)(v:Int)(c:Nat)(h:aB w p g v)(hc:c<g.n):Calls Tryz.prog 112 #[.pointer (some ⟨p,0,none⟩),.int .i64 (c:Nat)] w (Au w (fF g c)):=by
 have M:=Rj h.1 hc;have U:=hid h.lt;obtain⟨o1,o2,o3,o4⟩:=h.1;have hn:=G.bR h.1;have eX:(c:Int)%g.w=(g.X c:Nat):=by unfold G.X;simp
 have eY:(c:Int)/g.w=(g.Y c:Nat):=by unfold G.Y;simp
 have hY:=G.iM hc;have q1:0<=(c:Int)/g.w:=by omega
 have q2:(c:Int)/g.w<=256:=by omega
 have Q:=hid (And.intro eX eY);clear eX eY;go_enter Tryz.func112,Tryz.ntmps112;go_wp2_with fail;go_loopw [5,6] (λl i wr=>∃k:Nat,k<=8/\i=.int .i64 k/\aI wr w.heap.size l (upTo (g.dN c) k)/\Below w.heap.size w wr) (λ_ i _=>8-(intOf i).toNat)
 case atStart=>exact⟨0,by omega,rfl,aI.nil _ _,Below.refl _ _⟩
 case round=>
  obtain⟨k,hk,rfl,B,F⟩:=hrel;have hl:=jq (g.dN c) k;by_cases O:k<8
  .have hR:=h.below F U.out
   have s1:=hR.size.1;have s2:=cell_regrown s1;go_wp2_with fail;refine wp_region_quiet_below (by kernel_rfl) (by kernel_rfl) ?_;repeat (first|go_big_quiet_step ((with_reducible exact Calls.regrown_of (Gs _ p g v c k _ _ (h.below (F.trans ((below_regrown wr _ _).mono F.size)) U.out) O M Q.out.1 Q.out.2)))|quiet_step ((with_reducible exact Calls.regrown_of (Gs _ p g v c k _ _ (h.below (F.trans ((below_regrown wr _ _).mono F.size)) U.out) O M Q.out.1 Q.out.2))))
   refine wpQuiet_nil ?_;intro _ Z;obtain⟨⟨T,osq⟩,P⟩:=Z;have z:=aa F (below_regrown wr T osq);have L:=below_regrown wr T osq;subst P;generalize grow (redrawn wr T) osq=w2 at z L⊢;clear s1 s2;have u:aI w2 w.heap.size _ _:=B.below (B':=0) L;have ab:=z.size;cases R:g.dN c k with
   |false=>
    have e:=hid (Aa (p:=g.dN c) R);clear R;go_wp2;go_roundw
    case rel=>exact⟨k+1,by omega,by go_num,by rw[e.out];exact u,z⟩
    case measure=>simp[intOf];omega
   |true=>
    have e:=hid (wL (p:=g.dN c) R);clear R;go_wp2_with (at_builtin;refine bK _ rfl _ _ rfl w.heap.size _ _ _ rfl (u.alloc _) ⟨w2.heap.size,0,none⟩ rfl (dm _ _ _) (by omega) (by simp;omega) ?_;intro v' w3 J I)
    have S:=below_grown (z.alloc (by omega) _) (by simp;omega) (u.alloc _) I;go_wp2;go_roundw
    case rel=>exact⟨k+1,by omega,by go_num,by rw[e.out];exact J,S⟩
    case measure=>simp[intOf];omega
  .obtain rfl:k=8:=by omega
   go_wp2;go_ret;exact Jp B F
theorem D6(w:World)(p:Nat)(g:G)(v:Int)(c:Nat)(h:az w p g v)(S:c<g.n):Calls Tryz.prog 90 #[.pointer (some ⟨p,0,none⟩),.int .i64 (c:Nat)] w (xE w (fF g c)):=by
 have M:=Rj h.1 S;have T:=hid h.lt;go_enter Tryz.func90,Tryz.ntmps90;go_wp2_with fail;refine(aU w p g v c h S).mono ?_;rintro e w1 ⟨rfl,J⟩;go_wp2_with fail;have U:=J.size
 go_loopw [9,21] (λl i wr=>∃k:Nat,k<=8/\i=.int .i64 k/\aI wr w.heap.size l (upTo (g.dN c) k)/\Below w.heap.size w wr) (λ_ i _=>8-(intOf i).toNat)
 case atStart=>exact⟨0,by omega,rfl,aI.nil _ _,J⟩
 case round=>
  obtain⟨k,hk,rfl,z,P⟩:=hrel;have hl:=jq (g.dN c) k;by_cases R:k<8
  .go_wp2_with fail
   refine(zn _ p g v _ _ k (h.below P T.out) R M.1 M.2).mono ?_;rintro e w2 ⟨rfl,L⟩;have B:=aa P L;have u:=z.below (B':=0) L;have Z:=B.size;cases O:g.may (g.X c:Nat) (g.Y c:Nat) k with
   |false=>
    have e:=hid (Aa (p:=g.dN c) O);clear O;go_wp2;go_roundw
    case rel=>exact⟨k+1,by omega,by go_num,by rw[e.out];exact u,B⟩
    case measure=>simp[intOf];omega
   |true=>
    have e:=hid (wL (p:=g.dN c) O);clear O;go_wp2_with (at_builtin;(refine bK _ rfl _ _ rfl w.heap.size _ _ _ rfl (u.alloc _) ⟨w2.heap.size,0,none⟩ rfl (dm _ _ _) (by omega) (by simp;omega) ?_);intro v' w3 I F)
    have Q:=below_grown (B.alloc (by omega) _) (by simp;omega) (u.alloc _) F;go_wp2;go_roundw
    case rel=>exact⟨k+1,by omega,by go_num,by rw[e.out];exact I,Q⟩
    case measure=>simp[intOf];omega
  .obtain rfl:k=8:=by omega
   go_wp2;go_ret2;exact EE z P
end Go.Proofs.YtokhnobcincfjaaGreatDoor
