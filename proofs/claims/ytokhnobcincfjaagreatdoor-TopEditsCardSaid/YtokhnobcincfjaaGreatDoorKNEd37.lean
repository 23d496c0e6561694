/- Lemmas of this claim: MathAsk2, MathAsk3, MathAsk4, MathAsk5, MathAsk6, MathEmb, MathEmb2, MathDeg. -/
import Derived.Test.YtokhnobcincfjaaGreatDoorSr7
set_option linter.unusedVariables false
set_option linter.unusedSimpArgs false
namespace Go.Proofs.YtokhnobcincfjaaGreatDoor
open FR
variable {c:C}{g g2:G}{x y:Int}{W:List Nat}{a b e:Nat}
theorem jC(k:g.ok){c:Nat}(h:g.ak c):g.b c=false:=by
 have:=G.lH k h.1;rw[h.2.1]at this;simpa using this.symm
theorem SX(k:g.ok)(h:g.GE a b c):JX g a b c:=⟨h.1.1,h.2.1.1,jC k h.1,jC k h.2.1,h.2.2.2.1.1,h.2.2.2.2⟩
theorem O0(h:JX g a b c):Walk g.E a b c:=by
 obtain⟨_,_,_,_,h,rfl⟩:=h;exact h
theorem LJ{E F:Nat->Nat->C->Prop}(k:∀a b c,E a b c->F a b c):∀{W:List Nat}{c:C},LS.LW E W c->LS.LW F W c
 |_,_,.one a=>.one a
 |_,_,.cons he h=>.cons (k _ _ _ he) (LJ k h)
theorem vC:∀{W:List Nat}{a b:Nat}{c:C},LS.LW (JX g) (a::W) c->(a::W).getLast?=some b->Walk g.E a b c
 |[],a,b,c,h,k=>by cases h;simp at k;subst k;exact .nil _
 |x::l,a,b,c,h,k=>by
  cases h with
  |cons u h=>exact(O0 u).trans (vC h (by simpa using k))
theorem IJ(x:Nat)(W:List Nat)(y:Nat):(x::(W++[y])).getLast?=some y:=by
 rw[show x::(W++[y])=(x::W)++[y]from rfl,List.getLast?_append];rfl
theorem xI{x y:Nat}{b:C}(h:oG g (tO g x) (tO g y) b true)(B:¬g.dz x y):bP g.E x y b:=by
 have u:=M4 (h.2 rfl).1;obtain⟨d,k⟩:=bP.exist (λ_ _ _ z=>G.yP z) u;have F:GN g (tO g x) (tO g y) d:=ze.2 (G2.uH k B);obtain rfl:b=d:=C.le_antisymm ((h.2 rfl).2 _ F) (k.2 _ u);exact k
theorem G5{x y:Nat}{b:C}(h:oG g (tO g x) (tO g y) b false)(z:¬g.dz x y)(c:C):¬Walk g.E x y c:=λB=>by
 obtain⟨d,k⟩:=bP.exist (λ_ _ _ u=>G.yP u) B;exact(h.1 rfl).2 _ (ze.2 (G2.uH k z))
theorem MX(k:g.ok){x y:Nat}(hx:x<g.n)(hy:y<g.n)(fx:g.b x=false)(fy:g.b y=false){F:C}{u:List Nat}{f:Int->Option C}(Z:oG g (tO g x) (tO g y) F true)(hF:jM (tO g y) (tO g y).length f)(hW:Az g (wD f) (tO g x) F u)(hn:¬g.dz x y):LS.LW (JX g) (x::(u++[y])) F:=by
 obtain⟨s,t,d,B,e,Q,I,R,S,T,U⟩:=hW;obtain⟨O,q2,rfl⟩:=y9.1 Q;obtain⟨e',J,L,rfl⟩:=hF.some_ _ _ (show f (t:Nat)=some e from T);obtain⟨z,P,_,r2,rfl⟩:=lu.1 J;obtain rfl:z=t:=Int.ofNat_inj.1 L;have l1:LS.LW (JX g) u B:=LJ (λ_ _ _=>SX k) S;have n1:JX g x s (g.bV x s):=⟨hx,O.1,fx,jC k O,q2.1,rfl⟩;have n2:JX g z y (g.bV y z):=⟨P.1,hy,jC k P,fy,G.x9.1 r2.1,G.dW ..⟩
 have l2:LS.LW (JX g) (u++[y]) (C.add B (g.bV y z)):=by
  have:=zL l1 R (LS.LW.cons n2 (LS.LW.one y));rwa[C.add_zero]at this
 have M:LS.LW (JX g) (x::(u++[y])) (C.add (g.bV x s) (C.add B (g.bV y z))):=by
  cases u with
  |nil=>simp at I
  |cons w l=>
   simp at I;subst I;exact LS.LW.cons n1 l2
 have hw:Walk g.E x y (C.add (g.bV x s) (C.add B (g.bV y z))):=vC M (IJ ..);have e:C.add (g.bV x s) (C.add B (g.bV y z))=F:=C.le_antisymm U ((xI Z hn).2 _ hw);rw[<-e];exact M
def cu(g:G)(x y:Int)(W:List Nat)(c:C)(e:Nat):Prop:=
 (eP g x y≠0/\e=eP g x y/\W=[]/\c=C.zero)\/
 ∃a b:Nat,x=(a:Nat)/\y=(b:Nat)/\a<g.n/\b<g.n/\g.b a=false/\g.b b=false/\
  (((∀d,¬Walk g.E a b d)/\e=5/\W=[]/\c=C.zero)\/(bP g.E a b c/\e=0/\LS.LW g.E W c/\W.head?=some a/\W.getLast?=some b))
theorem gP(k:g.fault x=0)(u:g.fault y=0):eP g x y=0:=by
 unfold eP;rw[if_neg (by simp[k]),u]
theorem cu.cells(h:cu g x y W c e)(k:eP g x y=0):∃a b:Nat,x=(a:Nat)/\y=(b:Nat)/\a<g.n/\b<g.n/\g.b a=false/\g.b b=false/\(((∀d,¬Walk g.E a b d)/\e=5/\W=[]/\c=C.zero)\/(bP g.E a b c/\e=0/\LS.LW g.E W c/\W.head?=some a/\W.getLast?=some b)):=by
 rcases h with⟨h,_⟩|h
 .exact absurd k h
 .exact h
theorem cu.ok(h:cu g x y W c e)(M:e=0):∃a b:Nat,x=(a:Nat)/\y=(b:Nat)/\a<g.n/\b<g.n/\g.b a=false/\g.b b=false/\bP g.E a b c/\LS.LW g.E W c/\W.head?=some a/\W.getLast?=some b:=by
 rcases h with⟨k,u,_⟩|⟨a,b,k,u,B,F,I,J,z|⟨z,_,L⟩⟩
 .exact absurd (u.symm.trans M) k
 .omega
 .exact⟨a,b,k,u,B,F,I,J,z,L⟩
theorem Ef:∀{W:List Nat}{c:C},LS.LW g.E W c->(W.length:Int)=c.s+c.d+1
 |_,_,.one a=>by simp[C.zero]
 |_,_,.cons (l:=l) (b:=b) he h=>by
  have k:=Ef h;obtain⟨_,d,_,_,_,e⟩:=he;rw[e];simp only[List.length_cons]at k⊢;unfold aW C.add;split<;>simp only<;>omega
theorem cu.len(k:g.ok)(h:cu g x y W c e)(B:e=0):W.length<=1025/\0<W.length/\0<=c.s/\c.s<=512/\0<=c.d/\c.d<=512:=by
 obtain⟨a,b,_,_,u,_,_,_,z,F,O,_⟩:=h.ok B;have:=Ef F;obtain⟨I,J,L,M⟩:=G.DD k u z;refine⟨by omega,by omega,I,J,L,M⟩
theorem cu.zero(h:cu g x y W c e)(B:e≠0):W=[]/\c=C.zero:=by
 rcases h with⟨_,_,k,u⟩|⟨_,_,_,_,_,_,_,_,⟨_,_,k,u⟩|⟨_,z,_⟩⟩
 .exact⟨k,u⟩
 .exact⟨k,u⟩
 .exact absurd z B
theorem cu.qY(k:g.ok)(h:cu g x y W c e)(B:e=0):g.qY (λi=>(bJ W).getD i 0) W.length=(c,0):=by
 obtain⟨a,b,_,_,u,_,z,_,J,I,F,_⟩:=h.ok B;exact OU k I F u z
theorem Gl(z:g2.w=g.w)(u:g2.h=g.h)(k:∀c,c<g.n->g2.b c=g.b c):g2.op=g.op:=by
 funext x y;unfold G.op;rw[z,u];by_cases h:0<=x/\x<g.w/\0<=y/\y<g.h
 .rw[k]
  obtain⟨B,F,I,J⟩:=h;have:y.toNat*g.w+x.toNat<(y.toNat+1)*g.w:=by rw[Nat.add_mul];omega
  exact Nat.lt_of_lt_of_le this (by rw[G.n,Nat.mul_comm];exact Nat.mul_le_mul_left _ (by omega))
 .rw[decide_eq_false h,Bool.false_and,Bool.false_and]
theorem JM(k:g2.w=g.w)(u:g2.h=g.h)(I:∀c,c<g.n->g2.b c=g.b c):g2.E=g.E:=by
 have z:=Gl k u I;have L:g2.may=g.may:=by funext x y d;unfold G.may;rw[z]
 have B:g2.X=g.X:=by funext c;unfold G.X;rw[k]
 have F:g2.Y=g.Y:=by funext c;unfold G.Y;rw[k]
 have J:g2.dN=g.dN:=by funext c d;unfold G.dN;rw[L,B,F]
 have O:g2.to=g.to:=by funext c d;unfold G.to G.Ai;rw[k]
 have M:g2.n=g.n:=by unfold G.n;rw[k,u]
 funext a b c;unfold G.E;rw[M,J,O]
theorem uV(B:g2.w=g.w)(u:g2.h=g.h)(k:∀c,c<g.n->g2.b c=g.b c)(x:Int):g2.fault x=g.fault x:=by
 have z:g2.n=g.n:=by unfold G.n;rw[B,u]
 unfold G.fault;rw[z];split
 .rfl
 .rw[k _ (by omega)]
theorem cu.same(z:g2.w=g.w)(u:g2.h=g.h)(k:∀c,c<g.n->g2.b c=g.b c)(h:cu g2 x y W c e):cu g x y W c e:=by
 have R:g2.n=g.n:=by unfold G.n;rw[z,u]
 have P:=JM z u k;unfold cu at h⊢;have Q:eP g2 x y=eP g x y:=by unfold eP;rw[uV z u k,uV z u k]
 rw[Q,P,R]at h;rcases h with h|⟨a,b,I,J,B,F,L,M,O⟩
 .exact .inl h
 .exact .inr ⟨a,b,I,J,B,F,by rw[<-k a B];exact L,by rw[<-k b F];exact M,O⟩
theorem RV{u v:Int}(k:u= -1\/u=0\/u=1)(z:v= -1\/v=0\/v=1)(h:u≠0\/v≠0):∃d,d<8/\bu d=u/\aZ d=v/\aW d=if u≠0/\v≠0 then⟨0,1⟩else⟨1,0⟩:=by
 rcases k with rfl|rfl|rfl<;>rcases z with rfl|rfl|rfl
 .exact⟨7,by decide,rfl,rfl,by decide⟩
 .exact⟨6,by decide,rfl,rfl,by decide⟩
 .exact⟨5,by decide,rfl,rfl,by decide⟩
 .exact⟨0,by decide,rfl,rfl,by decide⟩
 .omega
 .exact⟨4,by decide,rfl,rfl,by decide⟩
 .exact⟨1,by decide,rfl,rfl,by decide⟩
 .exact⟨2,by decide,rfl,rfl,by decide⟩
 .exact⟨3,by decide,rfl,rfl,by decide⟩
theorem Q5{d:Nat}(h:d<8):(bu d= -1\/bu d=0\/bu d=1)/\(aZ d= -1\/aZ d=0\/aZ d=1)/\(bu d≠0\/aZ d≠0)/\aW d=if bu d≠0/\aZ d≠0 then⟨0,1⟩else⟨1,0⟩:=by
 have:d=0\/d=1\/d=2\/d=3\/d=4\/d=5\/d=6\/d=7:=by omega
 rcases this with rfl|rfl|rfl|rfl|rfl|rfl|rfl|rfl<;>decide
def Stp(g:G)(a b:Nat)(c:C)(u v:Int):Prop:=
 (u= -1\/u=0\/u=1)/\(v= -1\/v=0\/v=1)/\(u≠0\/v≠0)/\c=(if u≠0/\v≠0 then⟨0,1⟩else⟨1,0⟩)/\
 g.op (g.X a) (g.Y a)=true/\g.op (g.X a+u) (g.Y a+v)=true/\g.op (g.X a+u) (g.Y a)=true/\g.op (g.X a) (g.Y a+v)=true/\(g.X b:Int)=g.X a+u/\(g.Y b:Int)=g.Y a+v
theorem lZ(k:(g.X a:Int)=g.X b)(u:(g.Y a:Int)=g.Y b):a=b:=by
 rw[<-G.fP g a,<-G.fP g b,Int.ofNat_inj.1 k,Int.ofNat_inj.1 u]
theorem GL:g.E a b c↔a<g.n/\b<g.n/\∃u v,Stp g a b c u v:=by
 constructor
 .intro h
  have F:=G.Qz h;obtain⟨z,d,B,k,rfl,rfl⟩:=h;obtain⟨_,I,J⟩:=G.df k;obtain⟨m1,m2,m3,m4⟩:=G.fu.1 k;obtain⟨L,M,O,P⟩:=Q5 B;exact⟨z,F,bu d,aZ d,L,M,O,P,m1,m2,m3,m4,I,J⟩
 .rintro⟨z,F,u,v,Q,S,T,rfl,U,Z,h7,h8,h9,R⟩
  obtain⟨d,B,rfl,rfl,e⟩:=RV Q S T;have k:g.dN a d=true:=G.fu.2 ⟨U,Z,h7,h8⟩;obtain⟨_,I,J⟩:=G.df k;exact⟨z,d,B,k,lZ (g:=g) (by omega) (by omega),e.symm⟩
structure uE (g g':G) (f:Int->Int->Int×Int) (s:Bool) (p q:Int) (σ:Nat->Nat):Prop where
 op:∀x y,g'.op (f x y).1 (f x y).2=g.op x y
 hp:p=1\/p= -1
 hq:q=1\/q= -1
 lin:∀x y u v,f (x+u) (y+v)=if s then((f x y).1+q*v,(f x y).2+p*u)else((f x y).1+p*u,(f x y).2+q*v)
 lt:∀a,a<g.n->σ a<g'.n
 pl:∀a,a<g.n->(g'.X (σ a):Int)=(f (g.X a) (g.Y a)).1/\(g'.Y (σ a):Int)=(f (g.X a) (g.Y a)).2
namespace uE
variable {c:C}{a b:Nat}
variable {g g':G} {f:Int->Int->Int×Int} {s:Bool} {p q:Int} {σ:Nat->Nat}
theorem Gj(h:uE g g' f s p q σ)(B:a<g.n)(u v:Int):g.op (g.X a+u) (g.Y a+v)=if s then g'.op (g'.X (σ a)+q*v) (g'.Y (σ a)+p*u)else g'.op (g'.X (σ a)+p*u) (g'.Y (σ a)+q*v):=by
 obtain⟨k,z⟩:=h.pl a B;rw[<-h.op,h.lin,k,z];cases s<;>rfl
theorem inj(h:uE g g' f s p q σ)(L:a<g.n)(M:b<g.n)(e:σ a=σ b):a=b:=by
 obtain⟨I,J⟩:=h.pl a L;obtain⟨O,P⟩:=h.pl b M;rw[e]at I J;have k:=h.lin (g.X a) (g.Y a) ((g.X b:Int)-g.X a) ((g.Y b:Int)-g.Y a);rw[show(g.X a:Int)+((g.X b:Int)-g.X a)=g.X b by omega,show(g.Y a:Int)+((g.Y b:Int)-g.Y a)=g.Y b by omega]at k;have u:=congrArg Prod.fst k;have z:=congrArg Prod.snd k;have B:=h.hp;have F:=h.hq;cases s
 .simp only[Bool.false_eq_true,if_false]at u z
  refine lZ (g:=g) ?_ ?_
  .rcases B with rfl|rfl<;>omega
  .rcases F with rfl|rfl<;>omega
 .simp only[if_true]at u z
  refine lZ (g:=g) ?_ ?_
  .rcases B with rfl|rfl<;>omega
  .rcases F with rfl|rfl<;>omega
theorem fwd(h:uE g g' f s p q σ)(he:g.E a b c):g'.E (σ a) (σ b) c:=by
 obtain⟨k,S,u,v,h1,h2,h3,rfl,T,U,Z,h8,h9,P⟩:=GL.1 he;obtain⟨Q,R⟩:=h.pl a k;obtain⟨M,O⟩:=h.pl b S;have F:=h.Gj k 0 0;have I:=h.Gj k u v;have J:=h.Gj k u 0;have L:=h.Gj k 0 v;have hl:=h.lin (g.X a) (g.Y a) u v;rw[h9,P,hl]at M O;simp only[Int.add_zero,Int.mul_zero]at F I J L;rw[T]at F;rw[U]at I;rw[Z]at J;rw[h8]at L;have z:=h.hp;have B:=h.hq;refine GL.2 ⟨h.lt a k,h.lt b S,?_⟩;cases s
 .simp only[Bool.false_eq_true,if_false]at F I J L M O
  refine⟨p*u,q*v,?_,?_,?_,?_,F.symm,I.symm,J.symm,L.symm,by rw[M,Q],by rw[O,R]⟩
  .rcases z with rfl|rfl<;>omega
  .rcases B with rfl|rfl<;>omega
  .rcases z with rfl|rfl<;>rcases B with rfl|rfl<;>omega
  .have e:(u≠0/\v≠0)↔(p*u≠0/\q*v≠0):=by rcases z with rfl|rfl<;>rcases B with rfl|rfl<;>omega
   simp only[e]
 .simp only[if_true]at F I J L M O
  refine⟨q*v,p*u,?_,?_,?_,?_,F.symm,I.symm,L.symm,J.symm,by rw[M,Q],by rw[O,R]⟩
  .rcases B with rfl|rfl<;>omega
  .rcases z with rfl|rfl<;>omega
  .rcases z with rfl|rfl<;>rcases B with rfl|rfl<;>omega
  .have e:(u≠0/\v≠0)↔(q*v≠0/\p*u≠0):=by rcases z with rfl|rfl<;>rcases B with rfl|rfl<;>omega
   simp only[e]
theorem bwd(h:uE g g' f s p q σ){a y:Nat}(B:a<g.n)(he:g'.E (σ a) y c):∃b,b<g.n/\y=σ b/\g.E a b c:=by
 obtain⟨_,hy,P,Q,h1,h2,h3,rfl,Z,h6,h7,h8,h9,ab⟩:=GL.1 he;obtain⟨a1,a2⟩:=h.pl a B;have F:=h.hp;have I:=h.hq
 obtain⟨u,v,k,z⟩:∃u v:Int,P=(if s then q*v else p*u)/\Q=(if s then p*u else q*v):=by
  cases s
  .exact⟨p*P,q*Q,by rcases F with rfl|rfl<;>simp,by rcases I with rfl|rfl<;>simp⟩
  .exact⟨p*Q,q*P,by rcases I with rfl|rfl<;>simp,by rcases F with rfl|rfl<;>simp⟩
 have J:=h.Gj B 0 0;have L:=h.Gj B u v;have M:=h.Gj B u 0;have O:=h.Gj B 0 v;simp only[Int.add_zero,Int.mul_zero]at J L M O
 have T:g.op (g.X a) (g.Y a)=true/\g.op (g.X a+u) (g.Y a+v)=true/\g.op (g.X a+u) (g.Y a)=true/\g.op (g.X a) (g.Y a+v)=true:=by
  cases s
  .simp only[Bool.false_eq_true,if_false]at J L M O k z
   subst k;subst z;exact⟨by rw[J,Z],by rw[L,h6],by rw[M,h7],by rw[O,h8]⟩
  .simp only[if_true]at J L M O k z
   subst k;subst z;exact⟨by rw[J,Z],by rw[L,h6],by rw[M,h8],by rw[O,h7]⟩
 obtain⟨k0,k1,k2,k3⟩:=T;obtain⟨U,q2,q3⟩:=G.Kj k1;refine⟨_,U,?_,GL.2 ⟨B,U,u,v,?_,?_,?_,?_,k0,k1,k2,k3,q2,q3⟩⟩
 .obtain⟨R,S⟩:=h.pl _ U
  rw[q2,q3,h.lin]at R S;cases s
  .simp only[Bool.false_eq_true,if_false]at R S k z
   exact lZ (g:=g') (by omega) (by omega)
  .simp only[if_true]at R S k z
   exact lZ (g:=g') (by omega) (by omega)
 .cases s<;>simp only[Bool.false_eq_true,if_false,if_true]at k z<;>rcases F with rfl|rfl<;>omega
 .cases s<;>simp only[Bool.false_eq_true,if_false,if_true]at k z<;>rcases I with rfl|rfl<;>omega
 .cases s<;>simp only[Bool.false_eq_true,if_false,if_true]at k z<;>rcases F with rfl|rfl<;>rcases I with rfl|rfl<;>omega
 .have e:(u≠0/\v≠0)↔(P≠0/\Q≠0):=by
   cases s<;>simp only[Bool.false_eq_true,if_false,if_true]at k z<;>rcases F with rfl|rfl<;>rcases I with rfl|rfl<;>omega
  simp only[e]
theorem walk(h:uE g g' f s p q σ)(k:Walk g.E a b c):Walk g'.E (σ a) (σ b) c:=by
 induction k with
 |nil=>exact .nil _
 |snoc _ he ih=>exact .snoc ih (h.fwd he)
theorem back(h:uE g g' f s p q σ){a y:Nat}(B:a<g.n)(k:Walk g'.E (σ a) y c):∃b,b<g.n/\y=σ b/\Walk g.E a b c:=by
 generalize J:σ a=z at k
 induction k with
 |nil=>exact⟨a,B,J.symm,.nil _⟩
 |snoc _ he ih=>
  obtain⟨m,I,rfl,k⟩:=ih;obtain⟨b,F,rfl,u⟩:=h.bwd I he;exact⟨b,F,rfl,.snoc k u⟩
theorem Q6(h:uE g g' f s p q σ)(F:a<g.n)(I:b<g.n):bP g.E a b c↔bP g'.E (σ a) (σ b) c:=by
 have u:∀d,Walk g'.E (σ a) (σ b) d->Walk g.E a b d:=λd z=>by
  obtain⟨L,B,e,J⟩:=h.back F z;rwa[h.inj I B e]
 exact⟨λk=>⟨h.walk k.1,λd z=>k.2 d (u d z)⟩,λk=>⟨u _ k.1,λd z=>k.2 d (h.walk z)⟩⟩
theorem bl(h:uE g g' f s p q σ)(z:g.ok)(u:g'.ok)(k:a<g.n):g'.b (σ a)=g.b a:=by
 have o:=h.Gj k 0 0;simp only[Int.add_zero,Int.mul_zero,ite_self]at o;rw[G.lH z k,G.lH u (h.lt a k)]at o
 revert o
 cases g.b a<;>cases g'.b (σ a)<;>simp
theorem ask(h:uE g g' f s p q σ)(hg:g.ok)(L:g'.ok)(B:a<g.n)(F:b<g.n){W W':List Nat}{c c':C}{e e':Nat}(k:cu g (a:Nat) (b:Nat) W c e)(k':cu g' (σ a:Nat) (σ b:Nat) W' c' e'):c=c'/\e=e':=by
 have hf:eP g' (σ a:Nat) (σ b:Nat)=eP g (a:Nat) (b:Nat):=by
  unfold eP;rw[G.aN B,G.aN F,G.aN (h.lt a B),G.aN (h.lt b F),h.bl hg L B,h.bl hg L F]
 by_cases P:eP g (a:Nat) (b:Nat)=0
 .obtain⟨I,J,u,z,_,_,_,_,hh⟩:=k.cells P
  obtain rfl:a=I:=Int.ofNat_inj.1 u;obtain rfl:b=J:=Int.ofNat_inj.1 z;obtain⟨I,J,u,z,_,_,_,_,ab⟩:=k'.cells (hf.trans P);obtain rfl:σ a=I:=Int.ofNat_inj.1 u;obtain rfl:σ b=J:=Int.ofNat_inj.1 z;rcases hh with⟨Q,M,_,x3⟩|⟨Q,M,_⟩<;>rcases ab with⟨R,O,_,y3⟩|⟨R,O,_⟩
  .exact⟨by rw[x3,y3],by rw[M,O]⟩
  .exact absurd ((h.Q6 B F).2 R).1 (Q _)
  .exact absurd ((h.Q6 B F).1 Q).1 (R _)
  .exact⟨((h.Q6 B F).1 Q).unique R,by rw[M,O]⟩
 .rcases k with⟨_,M,_,x3⟩|⟨I,J,u,z,S,T,U,Z,_⟩
  .rcases k' with⟨_,O,_,y3⟩|⟨I,J,u,z,S,T,U,Z,_⟩
   .exact⟨by rw[x3,y3],by rw[M,O,hf]⟩
   .exact absurd (hf▸gP (by rw[u,G.aN S,U];rfl) (by rw[z,G.aN T,Z];rfl)) P
  .exact absurd (gP (by rw[u,G.aN S,U];rfl) (by rw[z,G.aN T,Z];rfl)) P
end uE
end Go.Proofs.YtokhnobcincfjaaGreatDoor
namespace Go.Proofs.YtokhnobcincfjaaGreatDoor
open FR
theorem Cf(x y g k:Int)(u:x.natAbs=g.natAbs)(z:y.natAbs=k.natAbs):dh x y=dh g k:=by unfold dh;rw[u,z]
namespace uE
variable {a b:Nat}
variable {g g':G} {f:Int->Int->Int×Int} {s:Bool} {p q:Int} {σ:Nat->Nat}
theorem TC(h:uE g g' f s p q σ)(k:a<g.n)(u v:Int):g'.op (g'.X (σ a)+u) (g'.Y (σ a)+v)=if s then g.op (g.X a+p*v) (g.Y a+q*u)else g.op (g.X a+p*u) (g.Y a+q*v):=by
 have z:=h.hp;have B:=h.hq;cases s
 .have o:=h.Gj k (p*u) (q*v)
  simp only[Bool.false_eq_true,if_false]at o⊢;rw[o];congr 1
  .rcases z with rfl|rfl<;>omega
  .rcases B with rfl|rfl<;>omega
 .have o:=h.Gj k (p*v) (q*u)
  simp only[if_true]at o⊢;rw[o];congr 1
  .rcases B with rfl|rfl<;>omega
  .rcases z with rfl|rfl<;>omega
theorem bG(h:uE g g' f s p q σ)(F:a<g.n):g'.ak (σ a)↔g.ak a:=by
 have R:=h.hp;have S:=h.hq;have T:=h.TC F 0 0;simp only[Int.add_zero,Int.mul_zero,ite_self]at T
 have I:∀{p u:Int},(p=1\/p= -1)->(u=1\/u= -1)->(p*u=1\/p*u= -1):=by
  intro p u U J;rcases U with rfl|rfl<;>rcases J with rfl|rfl<;>decide
 constructor
 .rintro⟨_,J,u,v,P,Q,L,M,O⟩
  have k:=h.TC F u v;have z:=h.TC F u 0;have B:=h.TC F 0 v;simp only[Int.add_zero,Int.mul_zero]at k z B;refine⟨F,by rw[<-T];exact J,?_⟩;cases s
  .simp only[Bool.false_eq_true,if_false]at k z B
   exact⟨p*u,q*v,I R P,I S Q,by rw[<-k];exact L,by rw[<-z];exact M,by rw[<-B];exact O⟩
  .simp only[if_true]at k z B
   exact⟨p*v,q*u,I R Q,I S P,by rw[<-k];exact L,by rw[<-B];exact O,by rw[<-z];exact M⟩
 .rintro⟨_,J,u,v,P,Q,L,M,O⟩
  have k:=h.Gj F u v;have z:=h.Gj F u 0;have B:=h.Gj F 0 v;simp only[Int.add_zero,Int.mul_zero]at k z B;refine⟨h.lt a F,by rw[T];exact J,?_⟩;cases s
  .simp only[Bool.false_eq_true,if_false]at k z B
   exact⟨p*u,q*v,I R P,I S Q,by rw[<-k];exact L,by rw[<-z];exact M,by rw[<-B];exact O⟩
  .simp only[if_true]at k z B
   exact⟨q*v,p*u,I S Q,I R P,by rw[<-k];exact L,by rw[<-B];exact O,by rw[<-z];exact M⟩
theorem bV(h:uE g g' f s p q σ)(L:a<g.n)(M:b<g.n):g'.bV (σ a) (σ b)=g.bV a b:=by
 obtain⟨I,J⟩:=h.pl a L;obtain⟨k,u⟩:=h.pl b M;have B:=h.hp;have F:=h.hq;have z:=h.lin (g.X a) (g.Y a) ((g.X b:Int)-g.X a) ((g.Y b:Int)-g.Y a);rw[show(g.X a:Int)+((g.X b:Int)-g.X a)=g.X b by omega,show(g.Y a:Int)+((g.Y b:Int)-g.Y a)=g.Y b by omega]at z;rw[z]at k u;unfold G.bV;rw[I,J,k,u];cases s
 .simp only[Bool.false_eq_true,if_false]
  refine Cf _ _ _ _ ?_ ?_
  .rcases B with rfl|rfl<;>omega
  .rcases F with rfl|rfl<;>omega
 .simp only[if_true]
  rw[nI];refine Cf _ _ _ _ ?_ ?_
  .rcases B with rfl|rfl<;>omega
  .rcases F with rfl|rfl<;>omega
theorem CR(h:uE g g' f s p q σ){c:C}(u:a<g.n)(z:b<g.n):Walk g'.E (σ a) (σ b) c↔Walk g.E a b c:=by
 refine⟨λB=>?_,h.walk⟩;obtain⟨I,k,e,F⟩:=h.back u B;rwa[h.inj z k e]
theorem near(h:uE g g' f s p q σ)(k:a<g.n)(u:b<g.n):g'.dz (σ a) (σ b)↔g.dz a b:=by
 unfold G.dz;rw[h.bV k u];exact h.CR k u
theorem mid(h:uE g g' f s p q σ){a b k:Nat}(I:a<g.n)(J:b<g.n)(u:k<g.n):g'.Mid (σ a) (σ b) (σ k)↔g.Mid a b k:=by
 unfold G.Mid;rw[h.bV I J];constructor
 .rintro⟨x,y,z,B,F⟩
  exact⟨x,y,(h.CR I u).1 z,(h.CR u J).1 B,F⟩
 .rintro⟨x,y,z,B,F⟩
  exact⟨x,y,(h.CR I u).2 z,(h.CR u J).2 B,F⟩
def Tx(g g':G)(σ:Nat->Nat):Prop:=∀y,g'.ak y->∃a,a<g.n/\y=σ a
theorem direct(h:uE g g' f s p q σ)(P:Tx g g' σ)(z:a<g.n)(B:b<g.n):g'.aF (σ a) (σ b)↔g.aF a b:=by
 unfold G.aF;rw[h.near z B];constructor
 .rintro⟨F,I⟩
  refine⟨F,λk u L M J=>?_⟩;exact I (σ k) ((h.bG u.1).2 u) (λe=>L (h.inj u.1 z e)) (λe=>M (h.inj u.1 B e)) ((h.mid z B u.1).2 J)
 .rintro⟨F,I⟩
  refine⟨F,λy O L M J=>?_⟩;obtain⟨k,u,rfl⟩:=P y O;exact I k ((h.bG u).1 O) (λe=>L (by rw[e])) (λe=>M (by rw[e])) ((h.mid z B u).1 J)
theorem ge(h:uE g g' f s p q σ)(B:Tx g g' σ){c:C}(u:a<g.n)(z:b<g.n):g'.GE (σ a) (σ b) c↔g.GE a b c:=by
 unfold G.GE;rw[h.bG u,h.bG z,h.direct B u z,h.bV u z];have:σ a≠σ b↔a≠b:=⟨λk e=>k (by rw[e]),λk e=>k (h.inj u z e)⟩;rw[this]
theorem N7(h:uE g g' f s p q σ)(I:Tx g g' σ):(av g').Perm ((av g).map σ):=by
 have B:∀g:G,(av g).Nodup:=λg=>(dU g).imp (λh=>Nat.ne_of_lt h);refine(List.perm_ext_iff_of_nodup (B g') ?_).2 (λy=>?_)
 .exact List.Pairwise.map _ (λa b k=>k) (List.Pairwise.imp_of_mem (λ{a b}u F k e=>k (h.inj (bn.1 u).1 (bn.1 F).1 e)) (B g))
 .rw[bn,List.mem_map]
  constructor
  .intro z
   obtain⟨a,u,rfl⟩:=I y z;exact⟨a,bn.2 ((h.bG u).1 z),rfl⟩
  .rintro⟨a,u,rfl⟩
   exact(h.bG (bn.1 u).1).2 (bn.1 u)
theorem nodes(h:uE g g' f s p q σ)(k:Tx g g' σ):(av g').length=(av g).length:=by
 rw[(h.N7 k).length_eq,List.length_map]
end uE
open Classical in
noncomputable def Dw(g:G)(a:Nat):Nat:=((av g).filter λb=>decide (g.GE a b (g.bV a b))).length
noncomputable def Od(g:G):Nat:=((av g).map (Dw g)).sum
end Go.Proofs.YtokhnobcincfjaaGreatDoor
namespace Go.Proofs.YtokhnobcincfjaaGreatDoor
open FR
theorem Oe{g:G}{E:Int->Option (List Ed)}(h:bI g (λ_ _=>True) E){c:Nat}{L:List Ed}(I:E (c:Nat)=some L):L.length=Dw g c:=by
 obtain⟨U,R⟩:=h.2 c L I;obtain⟨M,e,B⟩:=(h.1 (c:Nat)).1 (by rw[I];simp);obtain rfl:c=M:=Int.ofNat_inj.1 e;have nd:(av g).Nodup:=(dU g).imp (λh=>Nat.ne_of_lt h);unfold Dw
 have T:L.Perm (((av g).filter λb=>@decide (g.GE c b (g.bV c b)) (Classical.propDecidable _)).map λy:Nat=>(⟨(y:Nat),g.bV c y,-1⟩:Ed)):=by
  have S:L.Nodup:=by
   refine List.pairwise_iff_getElem.2 (λi j P Q F e=>?_);have:=U i j _ _ F (List.getElem?_eq_getElem P) (List.getElem?_eq_getElem Q);rw[e]at this;omega
  refine(List.perm_ext_iff_of_nodup S ?_).2 (λe=>?_)
  .exact List.Pairwise.map _ (λa b k e=>k (by injection e with e;exact Int.ofNat_inj.1 e)) (nd.filter _)
  .rw[R e,List.mem_map]
   constructor
   .rintro⟨y,z,u,_,O,rfl⟩
    refine⟨y,?_,rfl⟩;rw[List.mem_filter];exact⟨bn.2 z,by simp only[decide_eq_true_eq];exact⟨B,z,λe=>u e.symm,O,rfl⟩⟩
   .rintro⟨y,J,rfl⟩
    rw[List.mem_filter]at J;obtain⟨z,u⟩:=J;simp only[decide_eq_true_eq]at u;obtain⟨_,Z,k3,k4,_⟩:=u;exact⟨y,Z,λe=>k3 e.symm,trivial,k4,rfl⟩
 rw[T.length_eq,List.length_map]
end Go.Proofs.YtokhnobcincfjaaGreatDoor
