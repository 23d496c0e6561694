/- Lemmas of this claim: MathReach, MathRepair, MathBd, MathLevels, MathLevels2, MathLv3, MathAsk, MathSel, MathSpan, MathSearch, MathSr, MathGSet. -/
import Derived.Test.YtnifggkjieemeaaGreatDoorKNNs2
set_option linter.unusedVariables false
set_option linter.unusedSimpArgs false
set_option linter.unusedSectionVars false
namespace FR
namespace G
variable {i j p q:Nat}
variable {g:G} {a b:Nat}
def Eg(g:G)(a b i j:Nat):Prop:=i<g.fI a b/\g.may (g.fx a b i j) (g.fy a b i j) (g.sG a b)=true
def Np(g:G)(a b i j:Nat):Prop:=j<g.fJ a b/\g.may (g.fx a b i j) (g.fy a b i j) (g.gJ a b)=true
def zR(i' j' i j:Nat):Prop:=i'<i\/(i'=i/\j'<j)
def Gn(g:G)(a b i j:Nat)(p q:Nat):Prop:=p<=g.fI a b/\q<=g.fJ a b/\((p=0/\q=0)\/(∃p',p=p'+1/\zR p' q i j/\g.On a b p' q/\g.Eg a b p' q)\/(∃q',q=q'+1/\zR p q' i j/\g.On a b p q'/\g.Np a b p q'))
theorem Bg:g.Gn a b 0 0 p q↔(p=0/\q=0):=by
 constructor
 .rintro⟨_,_,h|⟨k,_,h,_⟩|⟨m,_,h,_⟩⟩
  .exact h
  .unfold zR at h;omega
  .unfold zR at h;omega
 .rintro⟨rfl,rfl⟩;exact⟨Zw _,Zw _,.inl ⟨rfl,rfl⟩⟩
theorem VM(M:g.ok)(L:b<g.n)(J:a<g.n)(z:i<=g.fI a b)(B:j<=g.fJ a b):g.Gn a b i j i j↔g.On a b i j:=by
 rw[uV M L J z B];constructor
 .rintro⟨_,_,h|⟨F,k,_,m,u⟩|⟨I,k,_,m,u⟩⟩
  .exact .inl h
  .exact .inr (.inl ⟨F,k,m,u.2⟩)
  .exact .inr (.inr ⟨I,k,m,u.2⟩)
 .rintro(h|⟨F,k,m,u⟩|⟨I,k,m,u⟩)
  .exact⟨z,B,.inl h⟩
  .exact⟨z,B,.inr (.inl ⟨F,k,by unfold zR;omega,m,om,u⟩)⟩
  .exact⟨z,B,.inr (.inr ⟨I,k,by unfold zR;omega,m,om,u⟩)⟩
theorem VN(h:¬g.On a b i j):g.Gn a b i (j+1) p q↔g.Gn a b i j p q:=by
 have m:∀u z,g.On a b u z->(zR u z i (j+1)↔zR u z i j):=by
  intro u z O;unfold zR;constructor
  .intro P
   by_cases e:u=i/\z=j
   .rw[e.1,e.2]at O;exact absurd O h
   .omega
  .omega
 unfold Gn;constructor
 .rintro⟨B,F,M|⟨u,I,J,k,L⟩|⟨z,I,J,k,L⟩⟩
  .exact⟨B,F,.inl M⟩
  .exact⟨B,F,.inr (.inl ⟨u,I,(m _ _ k).1 J,k,L⟩)⟩
  .exact⟨B,F,.inr (.inr ⟨z,I,(m _ _ k).1 J,k,L⟩)⟩
 .rintro⟨B,F,M|⟨u,I,J,k,L⟩|⟨z,I,J,k,L⟩⟩
  .exact⟨B,F,.inl M⟩
  .exact⟨B,F,.inr (.inl ⟨u,I,(m _ _ k).2 J,k,L⟩)⟩
  .exact⟨B,F,.inr (.inr ⟨z,I,(m _ _ k).2 J,k,L⟩)⟩
theorem Qk(M:i<=g.fI a b)(O:j<=g.fJ a b)(h:g.On a b i j):g.Gn a b i (j+1) p q↔g.Gn a b i j p q\/(g.Eg a b i j/\p=i+1/\q=j)\/(g.Np a b i j/\p=i/\q=j+1):=by
 constructor
 .rintro⟨u,z,J|⟨F,k,L,B,m⟩|⟨I,k,L,B,m⟩⟩
  .exact .inl ⟨u,z,.inl J⟩
  .by_cases e:F=i/\q=j
   .obtain⟨rfl,rfl⟩:=e
    exact .inr (.inl ⟨m,k,rfl⟩)
   .exact .inl ⟨u,z,.inr (.inl ⟨F,k,by unfold zR at*;omega,B,m⟩)⟩
  .by_cases e:p=i/\I=j
   .obtain⟨rfl,rfl⟩:=e
    exact .inr (.inr ⟨m,rfl,k⟩)
   .exact .inl ⟨u,z,.inr (.inr ⟨I,k,by unfold zR at*;omega,B,m⟩)⟩
 .rintro(⟨u,z,J|⟨F,k,L,B,m⟩|⟨I,k,L,B,m⟩⟩|⟨x,rfl,rfl⟩|⟨x,rfl,rfl⟩)
  .exact⟨u,z,.inl J⟩
  .exact⟨u,z,.inr (.inl ⟨F,k,by unfold zR at*;omega,B,m⟩)⟩
  .exact⟨u,z,.inr (.inr ⟨I,k,by unfold zR at*;omega,B,m⟩)⟩
  .exact⟨x.1,O,.inr (.inl ⟨i,rfl,by unfold zR;omega,h,x⟩)⟩
  .exact⟨M,x.1,.inr (.inr ⟨j,rfl,by unfold zR;omega,h,x⟩)⟩
theorem Tj:g.Gn a b i (g.fJ a b+1) p q↔g.Gn a b (i+1) 0 p q:=by
 unfold Gn;constructor
 .rintro⟨k,m,F|⟨I,u,L,z,B⟩|⟨J,u,L,z,B⟩⟩
  .exact⟨k,m,.inl F⟩
  .exact⟨k,m,.inr (.inl ⟨I,u,by unfold zR at*;omega,z,B⟩)⟩
  .exact⟨k,m,.inr (.inr ⟨J,u,by unfold zR at*;omega,z,B⟩)⟩
 .rintro⟨k,m,F|⟨I,u,L,z,B⟩|⟨J,u,L,z,B⟩⟩
  .exact⟨k,m,.inl F⟩
  .exact⟨k,m,.inr (.inl ⟨I,u,by unfold zR at*;omega,z,B⟩)⟩
  .exact⟨k,m,.inr (.inr ⟨J,u,by unfold zR at*;omega,z,B⟩)⟩
def Rc(g:G)(a b p q:Nat):Prop:=p<=g.fI a b/\q<=g.fJ a b/\g.On a b p q
theorem Ti(M:g.ok)(L:b<g.n)(J:a<g.n):g.Gn a b (g.fI a b+1) 0 p q↔g.Rc a b p q:=by
 constructor
 .rintro⟨z,B,h⟩
  refine⟨z,B,(uV M L J z B).2 ?_⟩;rcases h with h|⟨F,k,_,m,u⟩|⟨I,k,_,m,u⟩
  .exact .inl h
  .exact .inr (.inl ⟨F,k,m,u.2⟩)
  .exact .inr (.inr ⟨I,k,m,u.2⟩)
 .rintro⟨z,B,h⟩
  refine⟨z,B,?_⟩;rcases(uV M L J z B).1 h with h|⟨F,k,m,u⟩|⟨I,k,m,u⟩
  .exact .inl h
  .exact .inr (.inl ⟨F,k,by unfold zR;omega,m,om,u⟩)
  .exact .inr (.inr ⟨I,k,by unfold zR;omega,m,om,u⟩)
def Gd(g:G)(a b i j:Nat)(p q:Nat):Prop:=p<=g.fI a b/\q<=g.fJ a b/\((p=g.fI a b/\q=g.fJ a b)\/((i<=p\/(p+1=i/\j<=q))/\g.lH a b p q))
theorem K4:g.Gd a b (g.fI a b+1) (g.fJ a b+1) p q↔(p=g.fI a b/\q=g.fJ a b):=by
 constructor
 .rintro⟨k,m,h|⟨h,_⟩⟩
  .exact h
  .omega
 .rintro⟨rfl,rfl⟩;exact⟨Zi _,Zi _,.inl ⟨rfl,rfl⟩⟩
theorem Oi(O:g.ok)(M:b<g.n)(L:a<g.n)(P:i<=g.fI a b)(Q:j<=g.fJ a b):g.Gd a b (i+1) j p q↔g.Gd a b (i+1) (j+1) p q\/(((g.Eg a b i j/\g.Gd a b (i+1) (j+1) (i+1) j)\/(g.Np a b i j/\g.Gd a b (i+1) (j+1) i (j+1)))/\p=i/\q=j):=by
 have B:=oq O M L P Q
 have S:g.Eg a b i j->(g.Gd a b (i+1) (j+1) (i+1) j↔g.lH a b (i+1) j):=by
  intro U;constructor
  .rintro⟨m,u,⟨I,J⟩|⟨_,h⟩⟩
   .rw[oq O M L m u];exact .inl ⟨I,J⟩
   .exact h
  .intro h;exact⟨U.1,Q,.inr ⟨.inl (Zi _),h⟩⟩
 have T:g.Np a b i j->(g.Gd a b (i+1) (j+1) i (j+1)↔g.lH a b i (j+1)):=by
  intro Z;constructor
  .rintro⟨m,u,⟨I,J⟩|⟨_,h⟩⟩
   .rw[oq O M L m u];exact .inl ⟨I,J⟩
   .exact h
  .intro h;exact⟨P,Z.1,.inr ⟨.inr ⟨rfl,Zi _⟩,h⟩⟩
 constructor
 .rintro⟨m,u,h|⟨h,F⟩⟩
  .exact .inl ⟨m,u,.inl h⟩
  .by_cases e:p=i/\q=j
   .obtain⟨rfl,rfl⟩:=e
    rcases B.1 F with x|⟨k,z,R⟩|⟨k,z,R⟩
    .exact .inl ⟨m,u,.inl x⟩
    .exact .inr ⟨.inl ⟨⟨k,z⟩,(S ⟨k,z⟩).2 R⟩,rfl,rfl⟩
    .exact .inr ⟨.inr ⟨⟨k,z⟩,(T ⟨k,z⟩).2 R⟩,rfl,rfl⟩
   .exact .inl ⟨m,u,.inr ⟨om,F⟩⟩
 .rintro(⟨m,u,h|⟨h,F⟩⟩|⟨h,rfl,rfl⟩)
  .exact⟨m,u,.inl h⟩
  .exact⟨m,u,.inr ⟨om,F⟩⟩
  .refine⟨P,Q,.inr ⟨.inr ⟨rfl,Zi _⟩,B.2 ?_⟩⟩
   rcases h with⟨k,z⟩|⟨k,z⟩
   .exact .inr (.inl ⟨k.1,k.2,(S k).1 z⟩)
   .exact .inr (.inr ⟨k.1,k.2,(T k).1 z⟩)
theorem RJ:g.Gd a b (i+1) 0 p q↔g.Gd a b i (g.fJ a b+1) p q:=by
 unfold Gd;constructor
 .rintro⟨k,m,h|⟨h,u⟩⟩
  .exact⟨k,m,.inl h⟩
  .exact⟨k,m,.inr ⟨om,u⟩⟩
 .rintro⟨k,m,h|⟨h,u⟩⟩
  .exact⟨k,m,.inl h⟩
  .exact⟨k,m,.inr ⟨om,u⟩⟩
def TY(g:G)(a b p q:Nat):Prop:=p<=g.fI a b/\q<=g.fJ a b/\g.lH a b p q
theorem RI(B:g.ok)(z:b<g.n)(u:a<g.n):g.Gd a b 0 j p q↔g.TY a b p q:=by
 constructor
 .rintro⟨k,m,h|⟨_,h⟩⟩
  .exact⟨k,m,(oq B z u k m).2 (.inl h)⟩
  .exact⟨k,m,h⟩
 .rintro⟨k,m,h⟩
  exact⟨k,m,.inr ⟨.inl (Zw _),h⟩⟩
theorem wG(I:g.ok)(F:b<g.n)(B:a<g.n):g.fI a b<=15/\g.fJ a b<=15:=by
 obtain⟨k,m,u,z⟩:=I;have J:=ji ⟨k,m,u,z⟩ a;have L:=ji ⟨k,m,u,z⟩ b;have M:=iJ B;have O:=iJ F;unfold fI fJ G5 G6;omega
def Yb(g:G)(a b:Nat)(p p':Nat×Nat):Prop:=(g.Eg a b p.1 p.2/\g.TY a b (p.1+1) p.2/\p'=(p.1+1,p.2))\/(¬(g.Eg a b p.1 p.2/\g.TY a b (p.1+1) p.2)/\p'=(p.1,p.2+1))
def DK(g:G)(a b:Nat)(P:Nat->Nat×Nat):Prop:=P 0=(0,0)/\∀k,g.Yb a b (P k) (P (k+1))
theorem IZ(g:G)(a b:Nat):∃P,g.DK a b P:=by
 classical
 refine⟨λk=>Nat.rec (0,0) (λ_ p=>if g.Eg a b p.1 p.2/\g.TY a b (p.1+1) p.2 then(p.1+1,p.2)else(p.1,p.2+1)) k,rfl,λk=>?_⟩;simp only;split
 .rename_i h;exact .inl ⟨h.1,h.2,rfl⟩
 .rename_i h;exact .inr ⟨h,rfl⟩
theorem Qg(I:g.ok)(F:b<g.n)(B:a<g.n){M:Nat×Nat}(T:g.Yb a b (i,j) M)(P:i<=g.fI a b)(J:j<=g.fJ a b)(Q:g.On a b i j)(S:g.lH a b i j)(L:¬(i=g.fI a b/\j=g.fJ a b)):(M=(i+1,j)/\g.Eg a b i j/\g.On a b (i+1) j/\g.lH a b (i+1) j)\/(M=(i,j+1)/\g.Np a b i j/\g.On a b i (j+1)/\g.lH a b i (j+1)/\¬(g.Eg a b i j/\g.TY a b (i+1) j)):=by
 rcases T with⟨k,R,z⟩|⟨k,z⟩
 .exact .inl ⟨z,k,(uV I F B k.1 J).2 (.inr (.inl ⟨i,rfl,Q,k.2⟩)),R.2.2⟩
 .rcases(oq I F B P J).1 S with x|⟨m,u,O⟩|⟨m,u,O⟩
  .exact absurd x L
  .exact absurd ⟨⟨m,u⟩,m,J,O⟩ k
  .exact .inr ⟨z,⟨m,u⟩,(uV I F B P m).2 (.inr (.inr ⟨j,rfl,Q,u⟩)),O,k⟩
theorem xR(I:g.ok)(F:b<g.n)(B:a<g.n)(R:g.dL a b){P:Nat->Nat×Nat}(z:g.DK a b P):∀k,k<=g.fI a b+g.fJ a b->(P k).1<=g.fI a b/\(P k).2<=g.fJ a b/\(P k).1+(P k).2=k/\g.On a b (P k).1 (P k).2/\g.lH a b (P k).1 (P k).2
 |0,_=>by rw[z.1];exact⟨Zw _,Zw _,rfl,(uV I F B (Zw _) (Zw _)).2 (.inl ⟨rfl,rfl⟩),Mr.1 R⟩
 |k+1,h=>by
  obtain⟨m,u,S,O,Q⟩:=xR I F B R z k om;have T:=z.2 k;generalize P (k+1)=U at*;generalize P k=p at*;obtain⟨i,j⟩:=p;simp only at m u S O Q;rcases Qg I F B T m u O Q om with⟨e,J,L,M⟩|⟨e,J,L,M,_⟩
  .rw[e];exact⟨J.1,u,by simp only;omega,L,M⟩
  .rw[e];exact⟨m,J.1,by simp only;omega,L,M⟩
end G
end FR
namespace FR
namespace G
variable {g g':G}{x y:Int}{a b k:Nat}
theorem WT(i j:Nat)(M:i<=g.fI a b)(O:j<=g.fJ a b):((g.X a:Int)<=g.fx a b i j\/(g.X b:Int)<=g.fx a b i j)/\(g.fx a b i j<=g.X a\/g.fx a b i j<=g.X b)/\((g.Y a:Int)<=g.fy a b i j\/(g.Y b:Int)<=g.fy a b i j)/\(g.fy a b i j<=g.Y a\/g.fy a b i j<=g.Y b):=by
 obtain⟨u,z⟩:=g.OU a b;have H:=g.yJ a b;unfold fx fy;unfold G5 at u;unfold G6 at z;generalize g.JF a b=B at*;generalize g.JG a b=F at*;generalize g.JH a b=L at*;generalize g.JI a b=m at*;generalize g.fI a b=I at*;generalize g.fJ a b=J at*;rcases H.cases with⟨P,Q⟩|⟨e,h⟩|⟨e,h⟩|h
 .have:i=0:=om
  have:j=0:=om;subst i;subst j;simp only[Int.natCast_zero,Int.zero_mul];omega
 .have:i=0:=om
  subst i;subst e;rcases h with⟨rfl,rfl⟩|⟨rfl,rfl⟩|⟨rfl,rfl⟩|⟨rfl,rfl⟩<;>simp only[Int.natCast_zero,Int.zero_mul]at* <;>omega
 .have:j=0:=om
  subst j;subst e;rcases h with⟨rfl,rfl⟩|⟨rfl,rfl⟩|⟨rfl,rfl⟩|⟨rfl,rfl⟩<;>simp only[Int.natCast_zero,Int.zero_mul]at* <;>omega
 .rcases h with⟨rfl,rfl,rfl,rfl⟩|⟨rfl,rfl,rfl,rfl⟩|⟨rfl,rfl,rfl,rfl⟩|⟨rfl,rfl,rfl,rfl⟩|⟨rfl,rfl,rfl,rfl⟩|⟨rfl,rfl,rfl,rfl⟩|⟨rfl,rfl,rfl,rfl⟩|⟨rfl,rfl,rfl,rfl⟩<;>omega
def xS(g:G)(a b:Nat)(x y:Int):Prop:=
 ((g.X a:Int)-1<=x\/(g.X b:Int)-1<=x)/\(x<=g.X a+1\/x<=g.X b+1)/\((g.Y a:Int)-1<=y\/(g.Y b:Int)-1<=y)/\(y<=g.Y a+1\/y<=g.Y b+1)
structure But (g g':G) (x y:Int):Prop where
 w:g'.w=g.w
 h:g'.h=g.h
 op:∀u v:Int,¬(u=x/\v=y)->g'.op u v=g.op u v
theorem But.symm(h:But g g' x y):But g' g x y:=⟨h.w.symm,h.h.symm,λu v k=>(h.op u v k).symm⟩
theorem But.X(h:But g g' x y)(c:Nat):g'.X c=g.X c:=by unfold G.X;rw[h.w]
theorem But.Y(h:But g g' x y)(c:Nat):g'.Y c=g.Y c:=by unfold G.Y;rw[h.w]
theorem But.n(h:But g g' x y):g'.n=g.n:=by unfold G.n;rw[h.w,h.h]
theorem But.ok(h:But g g' x y)(k:g.ok):g'.ok:=by unfold G.ok at*;rw[h.w,h.h];exact k
theorem But.cZ(h:But g g' x y)(a b:Nat):g'.cZ a b=g.cZ a b:=by unfold G.cZ;rw[h.X,h.X,h.Y,h.Y]
theorem But.to(h:But g g' x y)(a d:Nat):g'.to a d=g.to a d:=by unfold G.to G.F3;rw[h.w]
theorem But.XV(h:But g g' x y)(a b:Nat)(u v:Int):g'.xS a b u v↔g.xS a b u v:=by unfold xS;rw[h.X,h.X,h.Y,h.Y]
theorem RN{z:Nat}{t:Bool}(L:z<g.n):But g ⟨g.w,g.h,upd g.b z t⟩ (g.X z) (g.Y z):=by
 refine⟨rfl,rfl,λu v h=>?_⟩;unfold G.op;simp only;by_cases I:0<=u/\u<g.w/\0<=v/\v<g.h
 .rw[decide_eq_true I]
  simp only[Bool.true_and];congr 1;refine upd_ne _ _ ?_;intro e;apply h;obtain⟨p,hp⟩:∃p:Nat,u=p:=⟨u.toNat,om⟩;obtain⟨q,J⟩:∃q:Nat,v=q:=⟨v.toNat,om⟩;subst hp;subst J;simp only[Int.toNat_natCast]at e;have m:p<g.w:=om;have B:=qI (g:=g) (y:=q) m;have F:=qJ (g:=g) (y:=q) m;unfold cell at B F;rw[e]at B F;rw[B,F];exact⟨rfl,rfl⟩
 .rw[decide_eq_false I]
  simp
theorem yz(h:But g g' x y){c:Nat}(P:¬((g.X c:Int)-1<=x/\x<=g.X c+1/\(g.Y c:Int)-1<=y/\y<=g.Y c+1)):g'.av c↔g.av c:=by
 have m:∀u v:Int,-1<=u->u<=1->-1<=v->v<=1->g'.op ((g.X c:Int)+u) ((g.Y c:Int)+v)=g.op ((g.X c:Int)+u) ((g.Y c:Int)+v):=λu v J L M O=>h.op _ _ om;have z:=m 0 0 om om om om;rw[Int.add_zero,Int.add_zero]at z;unfold av;rw[h.n,h.X,h.Y,z];refine and_congr_right λ_=>and_congr_right λ_=>exists_congr λu=>exists_congr λv=>and_congr_right λQ=>and_congr_right λR=>?_;have I:=m u v om om om om;have B:=m u 0 om om om om;have F:=m 0 v om om om om;rw[Int.add_zero]at B F;rw[I,B,F]
theorem CV(F:g.ok)(B:b<g.n)(z:a<g.n)(h:g.Mid a b k):((g.X a:Int)<=g.X k\/(g.X b:Int)<=g.X k)/\((g.X k:Int)<=g.X a\/(g.X k:Int)<=g.X b)/\((g.Y a:Int)<=g.Y k\/(g.Y b:Int)<=g.Y k)/\((g.Y k:Int)<=g.Y a\/(g.Y k:Int)<=g.Y b):=by
 obtain⟨i,j,m,u,rfl,_,_⟩:=(CW F B z).1 h;obtain⟨_,I,J⟩:=iY F B z m u;rw[I,J];exact WT i j m u
theorem jW(M:g.ok)(h:But g g' x y)(L:b<g.n)(J:a<g.n)(T:¬g.xS a b x y){p:C}(S:Walk g.E a k p):∀q,Walk g.E k b q->C.add p q=g.cZ a b->Walk g'.E a k p:=by
 induction S with
 |nil=>intro _ _ _;exact .nil _
 | @snoc m k p e O B Z=>
  intro q F u;have U:Walk g'.E a m p:=Z (C.add e q) (Walk.cons B F) (by rw[<-C.add_assoc];exact u);have b1:=CV M L J ⟨p,C.add e q,O,Walk.cons B F,by rw[<-C.add_assoc];exact u⟩;have b2:=CV M L J ⟨C.add p e,q,O.snoc B,F,u⟩;refine U.snoc ?_;obtain⟨P,d,Q,z,I,R⟩:=B;obtain⟨_,x1,y1⟩:=dV z;rw[<-I]at x1 y1;refine⟨by rw[h.n];exact P,d,Q,?_,by rw[h.to];exact I,R⟩;unfold fG at z⊢;rw[iE]at z⊢;rw[h.X,h.Y];obtain⟨o1,o2,o3,o4⟩:=z;unfold xS at T;refine⟨?_,?_,?_,?_⟩
  .rw[h.op _ _ om];exact o1
  .rw[h.op _ _ om];exact o2
  .rw[h.op _ _ om];exact o3
  .rw[h.op _ _ om];exact o4
theorem DV:g.xS a b x y↔g.xS b a x y:=by unfold xS;omega
theorem SV(L:g.ok)(h:But g g' x y)(I:b<g.n)(F:a<g.n)(J:¬g.xS a b x y)(O:g.Mid a b k):g'.Mid a b k:=by
 obtain⟨p,q,z,B,u⟩:=O;refine⟨p,q,jW L h I F J z q B u,?_,by rw[h.cZ];exact u⟩;have P:=Walk.rev (E:=g.E) (λ_ _ _ m=>kQ m) B;have Q:=Walk.rev (E:=g.E) (λ_ _ _ m=>kQ m) z;have R:=jW L h F I (λM=>J (DV.1 M)) P p Q (by rw[C.add_comm,u,fH]);exact Walk.rev (E:=g'.E) (λ_ _ _ m=>kQ m) R
theorem P9(B:g.ok)(h:But g g' x y)(u:b<g.n)(m:a<g.n)(z:¬g.xS a b x y)(F:g.dL a b):g'.dL a b:=by
 unfold dL at*;rw[h.cZ];exact jW B h u m z F C.zero (.nil b) (C.add_zero _)
theorem GM(B:g.ok)(h:But g g' x y)(u:b<g.n)(m:a<g.n)(z:¬g.xS a b x y):g'.aK a b↔g.aK a b:=by
 have I:∀{g g':G},g.ok->But g g' x y->b<g.n->a<g.n->¬g.xS a b x y->g.aK a b->g'.aK a b:=by
  rintro g g' B h u m z ⟨O,P⟩;have L:=h.ok B;have J:¬g'.xS a b x y:=λM=>z ((h.XV a b x y).1 M);refine⟨P9 B h u m z O,λk Q S T R=>?_⟩;have F:=SV L h.symm (by rw[h.n];exact u) (by rw[h.n];exact m) J R;have U:=CV B u m F;refine P k ((yz h ?_).1 Q) S T F;unfold xS at z;omega
 exact⟨I (h.ok B) h.symm (by rw[h.n];exact u) (by rw[h.n];exact m) (λM=>z ((h.XV a b x y).1 M)),I B h u m z⟩
end G
end FR
namespace FR
variable {E:Nat->Nat->C->Prop}
theorem Jo(P:Nat->Prop):∃f:Nat->Bool,∀u,f u=true↔P u:=⟨λu=>@decide (P u) (Classical.propDecidable _),λu=>rS⟩
def UY(E:Nat->Nat->C->Prop)(fr:Nat)(c:C)(f:Nat->Bool):Prop:=∀u,f u=true↔∃d,df E fr u d/\C.lt d c
theorem Ju{p q:Nat->Bool}{n m:Nat}(h:∀k,p k=true->q k=true)(z:m<n)(g:p m=false)(u:q m=true):eO p n+1<=eO q n:=by
 unfold eO;refine tT n (λk _=>?_) ⟨m,z,by rw[g,u];decide⟩;cases hp:p k with
 |false=>simp
 |true=>rw[h k hp];simp
theorem R4(T:∀a b c,E a b c->C.Nn c)(hz:∀a b c,E a b c->c≠C.zero){M N:Nat}(U:∀a b c,E a b c->C.le c ⟨0,(M:Int)⟩)(Z:∀a b c,E a b c->b<N){fr:Nat}(hf:fr<N):∀(k:Nat){t:Nat}{c:C}(f:Nat->Bool),UY E fr c f->df E fr t c->eO f N<=k->C.le c ⟨0,((M*k:Nat):Int)⟩:=by
 intro k
 induction k using Nat.strongRecOn with
 |_ k ih=>
  intro t c f B h hk;rcases h.1.inv with⟨_,e⟩|⟨m,d,e,R,I,L⟩
  .rw[e];exact C.Bd ⟨Int.le_refl 0,by simp only;omega⟩
  .have O:df E fr m d:=⟨R,λd' P=>by
    have:=h.2 _ (P.snoc I);rw[L]at this;exact(C.add_le_right _).1 this⟩
   have F:C.lt d c:=by rw[L];exact C.kI (T _ _ _ I) (hz _ _ _ I)
   have hm:m<N:=by
    rcases R.inv with⟨e,_⟩|⟨_,_,_,_,he,_⟩
    .rw[e];exact hf
    .exact Z _ _ _ he
   obtain⟨z,g⟩:=Jo (λu=>∃x,df E fr u x/\C.lt x d)
   have hc:eO z N+1<=eO f N:=by
    refine Ju (m:=m) (λu hu=>?_) hm ?_ ?_
    .obtain⟨x,Q,J⟩:=(g u).1 hu
     exact(B u).2 ⟨x,Q,C.lt_trans J F⟩
    .cases hq:z m with
     |false=>rfl
     |true=>
      obtain⟨x,Q,J⟩:=(g m).1 hq;rw[O.unique Q]at J;exact absurd J (C.lt_irrefl _)
    .exact(B m).2 ⟨d,O,F⟩
   have hi:=ih (eO z N) om z g O (Zi _);rw[L];refine C.le_trans (C.add_le_add hi (U _ _ _ I)) (C.aM (by simp[C.add]) ?_);simp only[C.add];have S:M*(eO z N+1)<=M*k:=Nat.mul_le_mul_left M om;rw[Nat.mul_succ]at S;omega
theorem GQ(k:∀a b c,E a b c->C.Nn c)(J:∀a b c,E a b c->c≠C.zero){M N:Nat}(B:∀a b c,E a b c->C.le c ⟨0,(M:Int)⟩)(F:∀a b c,E a b c->b<N){fr:Nat}(I:fr<N){t:Nat}{c:C}(h:df E fr t c):0<=c.s/\c.s<=2*(M*N:Nat)/\0<=c.d/\c.d<=2*(M*N:Nat):=by
 obtain⟨f,g⟩:=Jo (λu=>∃x,df E fr u x/\C.lt x c);have z:=R4 k J B F I N f g h (jX _ _);have m:=h.1.nn k;have:=C.gy m ⟨Int.le_refl 0,by simp only;omega⟩ z;simp only at this;obtain⟨a,b⟩:=m;omega
theorem G.qO{g:G}(u:g.ok){a t:Nat}{c:C}(m:a<g.n)(h:df g.E a t c):0<=c.s/\c.s<=512/\0<=c.d/\c.d<=512:=by
 have z:=G.bA u
 have:=GQ (M:=1) (N:=g.n) (λ_ _ _=>G.Dw) (λ_ _ c k=>by
  obtain⟨_,d,_,_,_,e⟩:=k;rw[e];unfold bu C.zero;split<;>simp) (λ_ _ c k=>by
  obtain⟨_,d,_,_,_,e⟩:=k;rw[e];unfold bu;split<;>decide) (λ_ _ _=>G.Ws) m h
 omega
end FR
namespace FR
open Classical
structure LS where
 lev:Nat->Nat
 eg:Nat->Nat->Option (C×Int)
namespace LS
def Lf(S:LS)(x y:Nat)(c:C):Prop:=S.lev x=0/\S.lev y=0/\∃m,S.eg x y=some (c,m)
def Lw(S:LS)(n x y:Nat)(c:C):Prop:=S.Lf x y c/\x≠n/\y≠n
def cost(S:LS)(x y:Nat):C:=match S.eg x y with|some (c,_)=>c|none=>C.zero
def iI(S:LS)(n a b:Nat):Prop:=¬∃c,Walk (S.Lw n) a b c/\C.le c (C.add (S.cost n a) (S.cost n b))
noncomputable def nb(S:LS)(N n:Nat):List Nat:=(List.range N).filter λt=>decide ((S.eg n t).isSome=true/\S.lev t=0)
def bF:List Nat->List (Nat×Nat)
 |[]=>[]
 |a::l=>l.map (λb=>(a,b))++bF l
noncomputable def more(S:LS)(N n:Nat):List (Nat×Nat):=(bF (S.nb N n)).filter λp=>decide (S.iI n p.1 p.2)
noncomputable def pass(S:LS)(N n top:Nat):LS where
 lev:=upd S.lev n top
 eg:=λx y=>if(x,y)∈S.more N n\/(y,x)∈S.more N n then some (C.add (S.cost n x) (S.cost n y),(n:Int))else S.eg x y
end LS
structure RS where
 S:LS
 near:Nat->Bool
 some_:Bool
namespace RS
noncomputable def step(N top:Nat)(R:RS)(n:Nat):RS:=
 if R.S.lev n≠0\/R.near n=true then R
 else if(R.S.nb N n).length<(R.S.more N n).length then R
 else⟨R.S.pass N n top,λt=>R.near t||decide (t∈R.S.nb N n),true⟩
noncomputable def run(N top:Nat)(nodes:List Nat)(S:LS):RS:=nodes.foldl (step N top) ⟨S,λ_=>false,false⟩
end RS
namespace LS
variable {S:LS}{N:Nat}
noncomputable def rounds(N:Nat)(nodes:List Nat):Nat->Nat->LS->LS×Nat
 |0,top,S=>(S,top)
 |k+1,top,S=>if(RS.run N top nodes S).some_=true then rounds N nodes k (top+1) (RS.run N top nodes S).S else((RS.run N top nodes S).S,top)
def close(S:LS)(nodes:List Nat)(top:Nat):LS where
 lev:=λn=>if n∈nodes/\S.lev n=0 then top else S.lev n
 eg:=S.eg
theorem jO{N n t:Nat}:t∈S.nb N n↔t<N/\(S.eg n t).isSome=true/\S.lev t=0:=by
 unfold nb;simp
theorem pQ(S:LS)(N n:Nat):(S.nb N n).Pairwise (· < ·):=List.Pairwise.filter _ List.pairwise_lt_range
theorem qZ:∀{l:List Nat},l.Pairwise (· < ·)->∀{a b:Nat},(a,b)∈bF l↔a∈l/\b∈l/\a<b
 |[],_,a,b=>by simp[bF]
 |x::l,h,a,b=>by
  rw[List.pairwise_cons]at h;unfold bF;rw[Zl,qZ h.2];constructor
  .rintro(q|⟨u,k,z⟩)
   .rw[List.mem_map]at q
    obtain⟨y,B,e⟩:=q;injection e with F I
    subst F;subst I;exact⟨rS,by simp[B],h.1 _ B⟩
   .exact⟨by simp[u],by simp[k],z⟩
  .rintro⟨u,k,z⟩
   rcases Zd.1 u with m|m
   .rcases Zd.1 k with g|g
    .omega
    .exact .inl (List.mem_map.2 ⟨b,g,by rw[m]⟩)
   .rcases Zd.1 k with g|g
    .have:=h.1 a m;omega
    .exact .inr ⟨m,g,z⟩
theorem yU{N n a b:Nat}:(a,b)∈S.more N n↔a∈S.nb N n/\b∈S.nb N n/\a<b/\S.iI n a b:=by
 unfold more;rw[List.mem_filter,qZ (pQ S N n)];simp[and_assoc]
theorem gY(z:∀x y,S.eg x y=S.eg y x){n a b:Nat}:S.iI n a b↔S.iI n b a:=by
 have g:∀a b,S.iI n a b->S.iI n b a:=by
  rintro a b h ⟨c,k,u⟩;refine h ⟨c,Walk.rev (E:=S.Lw n) (λx y c⟨⟨B,F,m,I⟩,J,L⟩=>⟨⟨F,B,m,by rw[z];exact I⟩,L,J⟩) k,?_⟩;rw[C.add_comm];exact u
 exact⟨g a b,g b a⟩
theorem pF{x y:Nat}{c:C}{m:Int}(h:S.eg x y=some (c,m)):S.cost x y=c:=by unfold cost;rw[h]
theorem fA(z:∀x y,S.eg x y=S.eg y x){N n top x y:Nat}:(S.pass N n top).eg x y=if x∈S.nb N n/\y∈S.nb N n/\x≠y/\S.iI n x y then some (C.add (S.cost n x) (S.cost n y),(n:Int))else S.eg x y:=by
 unfold pass;simp only[yU];by_cases h:x∈S.nb N n/\y∈S.nb N n/\x≠y/\S.iI n x y
 .rw[if_pos h]
  obtain⟨g,k,u,m⟩:=h;rcases Nat.lt_or_gt_of_ne u with q|q
  .rw[if_pos (.inl ⟨g,k,q,m⟩)]
  .rw[if_pos (.inr ⟨k,g,q,(gY z).1 m⟩)]
 .rw[if_neg h,if_neg]
  rintro(⟨g,k,u,m⟩|⟨g,k,u,m⟩)
  .exact h ⟨g,k,om,m⟩
  .exact h ⟨k,g,om,(gY z).1 m⟩
def Up(S:LS)(x y:Nat)(c:C):Prop:=S.lev x≠0/\(S.lev y=0\/S.lev x<S.lev y)/\∃m,S.eg x y=some (c,m)
def UD(S:LS)(s t:Nat)(c:C):Prop:=
 (∃m c1 c2,Walk S.Up s m c1/\Walk S.Up t m c2/\C.le (C.add c1 c2) c)\/
 ∃p q c1 c0 c2,Walk S.Up s p c1/\Walk S.Lf p q c0/\Walk S.Up t q c2/\S.lev p=0/\S.lev q=0/\C.le (C.add (C.add c1 c0) c2) c
structure Inv (g:FR.G) (N top K:Nat) (S:LS) (nr:Nat->Bool):Prop where
 nN:g.n<=N
 pos:0<top
 dw:∀a b,S.eg a b≠none->g.av a/\g.av b/\a≠b
 symm:∀a b,S.eg a b=S.eg b a
 orig:∀a b c m,S.eg a b=some (c,m)->m<0->m= -1/\g.GE a b c
 sum:∀a b c m,S.eg a b=some (c,m)->0<=m->∃k:Nat,m=k/\S.lev k≠0/\(S.lev a=0\/S.lev k<S.lev a)/\(S.lev b=0\/S.lev k<S.lev b)/\
  ∃c1 m1 c2 m2,S.eg a k=some (c1,m1)/\S.eg k b=some (c2,m2)/\c=C.add c1 c2
 walk:∀a b c m,S.eg a b=some (c,m)->Walk g.GE a b c
 levs:∀a,S.lev a<=top
 apart:∀a b,S.eg a b≠none->S.lev a=S.lev b->S.lev a=0
 near:∀a b,S.eg a b≠none->S.lev a=top->S.lev b=0->nr b=true
 small:∀a b c m,S.eg a b=some (c,m)->0<=c.s/\c.s<=2*K/\0<=c.d/\c.d<=2*K/\(S.lev a=0->nr a=false->c.s<=K/\c.d<=K)
 keep:∀a b c,g.GE a b c->S.eg a b≠none
 ud:∀s t c,g.av s->g.av t->Walk g.GE s t c->S.UD s t c
theorem CQ(z:∀x y,S.eg x y=S.eg y x):∀x y c,S.Lf x y c->S.Lf y x c:=λx y c⟨g,k,m,u⟩=>⟨k,g,m,by rw[z];exact u⟩
section pass
variable {c:C}{x y:Nat}
variable {g:FR.G} {N top K:Nat} {S:LS} {near:Nat->Bool} (H:Inv g N top K S near) {n:Nat} (h0:S.lev n=0)
include H h0
theorem UE(h:S.Lf n x c):x∈S.nb N n:=by
 obtain⟨_,k,m,g⟩:=h;refine jO.2 ⟨Zf ?_ H.nN,by rw[g];rfl,k⟩;exact(H.dw n x (by rw[g];simp)).2.1.1
theorem mQ:S.eg x x=none:=by
 cases h:S.eg x x with
 |none=>rfl
 |some _=>exact absurd rfl (H.dw x x (by rw[h];simp)).2.2
theorem zn:(S.pass N n top).eg n y=S.eg n y:=by
 rw[fA H.symm,if_neg];rintro⟨g,_⟩;have:=(jO.1 g).2.1;rw[mQ H h0]at this;cases this
theorem Ki(h:S.Lf x y c)(u:x≠n)(z:y≠n):∃k,(S.pass N n top).Lf x y k/\C.le k c:=by
 have B:(S.pass N n top).lev x=0:=by show upd S.lev n top x=0;rw[upd_ne _ _ u];exact h.1
 have F:(S.pass N n top).lev y=0:=by show upd S.lev n top y=0;rw[upd_ne _ _ z];exact h.2.1
 have e:=fA (S:=S) H.symm (N:=N) (n:=n) (top:=top) (x:=x) (y:=y);by_cases g:x∈S.nb N n/\y∈S.nb N n/\x≠y/\S.iI n x y
 .rw[if_pos g]at e
  refine⟨_,⟨B,F,_,e⟩,?_⟩;rcases C.le_total c (C.add (S.cost n x) (S.cost n y))with q|q
  .exact absurd ⟨c,Walk.single ⟨h,u,z⟩,q⟩ g.2.2.2
  .exact q
 .rw[if_neg g]at e
  obtain⟨_,_,m,I⟩:=h;exact⟨c,⟨B,F,m,by rw[e];exact I⟩,C.le_refl _⟩
theorem MI(h:Walk (S.Lw n) x y c):∃g,Walk (S.pass N n top).Lf x y g/\C.le g c:=by
 induction h with
 |nil=>exact⟨_,.nil _,C.le_refl _⟩
 |snoc _ he ih=>
  obtain⟨B,k,m⟩:=ih;obtain⟨F,u,z⟩:=Ki H h0 he.1 he.2.1 he.2.2;exact⟨_,k.snoc u,C.add_le_add m z⟩
theorem Qo{B F:C}(J:S.Lf n x B)(L:S.Lf n y F)(z:x≠y):∃g,Walk (S.pass N n top).Lf x y g/\C.le g (C.add B F):=by
 have T:=UE H h0 J;have U:=UE H h0 L;obtain⟨_,Q,mx,k⟩:=J;obtain⟨_,R,my,m⟩:=L;have Z:x≠n:=by rintro rfl;rw[mQ H h0]at k;cases k
 have yn:y≠n:=by rintro rfl;rw[mQ H h0]at m;cases m
 by_cases u:S.iI n x y
 .have e:=fA (S:=S) H.symm (N:=N) (n:=n) (top:=top) (x:=x) (y:=y)
  rw[if_pos ⟨T,U,z,u⟩,pF k,pF m]at e;refine⟨_,Walk.single ⟨?_,?_,_,e⟩,C.le_refl _⟩
  .show upd S.lev n top x=0;rw[upd_ne _ _ Z];exact Q
  .show upd S.lev n top y=0;rw[upd_ne _ _ yn];exact R
 .unfold iI at u
  obtain⟨c,M,I⟩:=Classical.not_not.1 u;rw[pF k,pF m]at I;obtain⟨g,O,P⟩:=MI H h0 M;exact⟨g,O,C.le_trans P I⟩
theorem zm{a b:Nat}(h:Walk S.Lf a b c)(ha:a≠n):(b≠n->∃Q,Walk (S.pass N n top).Lf a b Q/\C.le Q c)/\(b=n->∃x g e,Walk (S.pass N n top).Lf a x g/\x≠n/\S.Lf x n e/\C.le (C.add g e) c):=by
 induction h with
 |nil=>exact⟨λ_=>⟨_,.nil _,C.le_refl _⟩,λe=>absurd e ha⟩
 | @snoc m b d e hw F R=>
  have P:C.Nn e:=by
   obtain⟨_,_,k,u⟩:=F;have:=H.small _ _ _ _ u;exact⟨this.1,this.2.2.1⟩
  by_cases M:m=n
  .subst M
   obtain⟨x,g,e1,z,O,J,L⟩:=R.2 rfl
   have B:b≠m:=by
    rintro rfl;obtain⟨_,_,k,u⟩:=F;rw[mQ H h0]at u;cases u
   refine⟨λ_=>?_,λe=>absurd e B⟩;by_cases I:x=b
   .subst I
    refine⟨g,z,C.le_trans (C.le_trans (C.iZ ?_) L) (C.iZ P)⟩;obtain⟨_,_,k,u⟩:=J;have:=H.small _ _ _ _ u;exact⟨this.1,this.2.2.1⟩
   .obtain⟨T,U,Z⟩:=Qo H h0 (CQ H.symm _ _ _ J) F I
    refine⟨_,z.trans U,?_⟩;refine C.le_trans (C.add_le_add (C.le_refl g) Z) ?_;rw[<-C.add_assoc];exact C.add_le_add L (C.le_refl _)
  .obtain⟨g,z,O⟩:=R.1 M
   refine⟨λB=>?_,λB=>?_⟩
   .obtain⟨T,J,L⟩:=Ki H h0 F M B
    exact⟨_,z.snoc J,C.add_le_add O L⟩
   .subst B
    exact⟨m,g,e,z,M,F,C.add_le_add O (C.le_refl _)⟩
theorem xM(g:∀y,S.eg n y≠none->S.lev y≠top)(h:Walk S.Up x y c):Walk (S.pass N n top).Up x y c:=by
 refine Walk.mono (λa b c⟨k,F,m,u⟩=>?_) h;have I:a≠n:=by rintro rfl;exact k h0
 have e:(S.pass N n top).eg a b=some (c,m):=by
  rw[fA H.symm,if_neg]
  .exact u
  .rintro⟨q,_⟩;exact k (jO.1 q).2.2
 have B:(S.pass N n top).lev a=S.lev a:=upd_ne _ _ I;refine⟨by rw[B];exact k,?_,m,e⟩;rw[B];by_cases z:b=n
 .subst z
  right;show S.lev a<upd S.lev b top b;rw[upd_same];have L:=H.levs a;have:S.lev a≠top:=g a (by rw[H.symm,u];simp);omega
 .have J:(S.pass N n top).lev b=S.lev b:=upd_ne _ _ z
  rw[J];exact F
theorem TW{a b:Nat}(h:Walk S.Lf a b c):C.Nn c:=by
 refine h.nn λa b c⟨_,_,m,g⟩=>?_;have:=H.small _ _ _ _ g;exact⟨this.1,this.2.2.1⟩
theorem UK{e:C}(k:∀y,S.eg n y≠none->S.lev y≠top)(h:S.Lf x n e):(S.pass N n top).Up n x e/\(S.pass N n top).lev x=0:=by
 obtain⟨z,F,m,g⟩:=h;have B:x≠n:=by rintro rfl;rw[mQ H h0]at g;cases g
 have u:(S.pass N n top).lev x=0:=by show upd S.lev n top x=0;rw[upd_ne _ _ B];exact z
 refine⟨⟨?_,.inl u,m,by rw[zn H h0,H.symm];exact g⟩,u⟩;show upd S.lev n top n≠0;rw[upd_same];have:=H.pos;omega
theorem Tn{s t:Nat}(g:∀y,S.eg n y≠none->S.lev y≠top)(h:S.UD s t c):(S.pass N n top).UD s t c:=by
 rcases h with⟨m,u,z,Q,J,R⟩|⟨p,q,u,d,z,Q,J,R,lp,lq,P⟩
 .exact .inl ⟨m,u,z,xM H h0 g Q,xM H h0 g J,R⟩
 .have u1:=xM H h0 g Q
  have u2:=xM H h0 g R;by_cases hp:p=n
  .subst hp
   by_cases F:q=p
   .subst F
    refine .inl ⟨_,u,z,u1,u2,C.le_trans (C.add_le_add ?_ (C.le_refl _)) P⟩;exact C.iZ (TW H h0 J)
   .obtain⟨x,L,e,M,U,Z,k4⟩:=(zm H h0 (Walk.rev (E:=S.Lf) (CQ H.symm) J) F).2 rfl
    obtain⟨k5,k6⟩:=UK H h0 g Z;have I:(S.pass N p top).lev q=0:=by show upd S.lev p top q=0;rw[upd_ne _ _ F];exact lq
    have T:∀x y,(S.pass N p top).eg x y=(S.pass N p top).eg y x:=λx y=>by
     rw[fA H.symm,fA H.symm,H.symm x y,C.add_comm];by_cases B:x∈S.nb N p/\y∈S.nb N p/\x≠y/\S.iI p x y
     .rw[if_pos B,if_pos ⟨B.2.1,B.1,Ne.symm B.2.2.1,(gY H.symm).1 B.2.2.2⟩]
     .rw[if_neg B,if_neg (λk=>B ⟨k.2.1,k.1,Ne.symm k.2.2.1,(gY H.symm).1 k.2.2.2⟩)]
    refine .inr ⟨x,q,C.add u e,L,z,u1.snoc k5,Walk.rev (E:=(S.pass N p top).Lf) (CQ T) M,u2,k6,I,?_⟩;refine C.le_trans (C.add_le_add ?_ (C.le_refl _)) P;rw[C.add_assoc,C.add_comm e];exact C.add_le_add (C.le_refl _) k4
  .have O:(S.pass N n top).lev p=0:=by show upd S.lev n top p=0;rw[upd_ne _ _ hp];exact lp
   by_cases F:q=n
   .subst F
    obtain⟨x,L,e,M,U,Z,k4⟩:=(zm H h0 J hp).2 rfl;obtain⟨k5,k6⟩:=UK H h0 g Z;refine .inr ⟨p,x,u,L,C.add z e,u1,M,u2.snoc k5,O,k6,?_⟩;refine C.le_trans ?_ P;rw[C.add_comm z,<-C.add_assoc,C.add_assoc u];exact C.add_le_add (C.add_le_add (C.le_refl _) k4) (C.le_refl _)
   .obtain⟨L,M,U⟩:=(zm H h0 J hp).1 F
    have I:(S.pass N n top).lev q=0:=by show upd S.lev n top q=0;rw[upd_ne _ _ F];exact lq
    exact .inr ⟨p,q,u,L,z,u1,M,u2,O,I,C.le_trans (C.add_le_add (C.add_le_add (C.le_refl _) U) (C.le_refl _)) P⟩
theorem Qn(hn:near n=false)(hc:g.av n):Inv g N top K (S.pass N n top) (λt=>near t||decide (t∈S.nb N n)):=by
 have O:∀y,S.eg n y≠none->S.lev y≠top:=λy hy z=>by
  have:=H.near y n (by rw[H.symm];exact hy) z h0;rw[hn]at this;cases this
 have B:∀x,x∈S.nb N n->∃c m,S.eg n x=some (c,m)/\S.lev x=0/\x≠n/\c.s<=K/\c.d<=K/\0<=c.s/\0<=c.d/\S.cost n x=c:=by
  intro x hx;obtain⟨h1,h2,h3⟩:=jO.1 hx;cases I:S.eg n x with
  |none=>rw[I]at h2;cases h2
  |some cm=>
   obtain⟨c,m⟩:=cm;obtain⟨a1,a2,a3,a4,a5⟩:=H.small _ _ _ _ I;obtain⟨a6,a7⟩:=a5 h0 hn;exact⟨c,m,rfl,h3,(by rintro rfl;rw[mQ H h0]at I;cases I),a6,a7,a1,a3,pF I⟩
 have P:∀x,(S.pass N n top).lev x=upd S.lev n top x:=λ_=>rfl;have ad:=H.pos
 have R:∀a b c m,(S.pass N n top).eg a b=some (c,m)->(S.eg a b=some (c,m)/\(¬(a∈S.nb N n/\b∈S.nb N n/\a≠b/\S.iI n a b)))\/(a∈S.nb N n/\b∈S.nb N n/\a≠b/\S.iI n a b/\c=C.add (S.cost n a) (S.cost n b)/\m=n):=by
  intro a b c m h;rw[fA H.symm]at h;split at h
  .rename_i q
   injection h with h
   injection h with Z F
   exact .inr ⟨q.1,q.2.1,q.2.2.1,q.2.2.2,Z.symm,F.symm⟩
  .rename_i q
   exact .inl ⟨h,q⟩
 have T:∀a b,(S.pass N n top).eg a b≠none->S.eg a b≠none\/(a∈S.nb N n/\b∈S.nb N n/\a≠b):=by
  intro a b h;cases I:(S.pass N n top).eg a b with
  |none=>exact absurd I h
  |some cm=>
   rcases R a b cm.1 cm.2 I with q|q
   .exact .inl (by rw[q.1];simp)
   .exact .inr ⟨q.1,q.2.1,q.2.2.1⟩
 refine⟨H.nN,H.pos,?_,?_,?_,?_,?_,?_,?_,?_,?_,?_,λs t c hs ht hw=>Tn H h0 O (H.ud s t c hs ht hw)⟩
 .intro a b h
  rcases T a b h with q|⟨U,q2,q3⟩
  .exact H.dw a b q
  .obtain⟨J,Q,Z,_⟩:=B a U
   obtain⟨c2,m2,F,_⟩:=B b q2;exact⟨(H.dw n a (by rw[Z];simp)).2.1,(H.dw n b (by rw[F];simp)).2.1,q3⟩
 .intro x y
  rw[fA H.symm,fA H.symm,H.symm x y,C.add_comm];by_cases u:x∈S.nb N n/\y∈S.nb N n/\x≠y/\S.iI n x y
  .rw[if_pos u,if_pos ⟨u.2.1,u.1,Ne.symm u.2.2.1,(gY H.symm).1 u.2.2.2⟩]
  .rw[if_neg u,if_neg (λk=>u ⟨k.2.1,k.1,Ne.symm k.2.2.1,(gY H.symm).1 k.2.2.2⟩)]
 .intro a b c m h hm
  rcases R a b c m h with⟨q,_⟩|⟨_,_,_,_,_,q⟩
  .exact H.orig a b c m q hm
  .omega
 .intro a b c m h hm
  rcases R a b c m h with⟨q,_⟩|⟨U,q2,q3,q4,q5,q6⟩
  .obtain⟨k,Z,F,e3,e4,J,Q,c2,m2,e5,e6,e7⟩:=H.sum a b c m q hm
   have kn:k≠n:=by rintro rfl;exact F h0
   have ka:k∉S.nb N n:=λu=>F (jO.1 u).2.2;have lk:(S.pass N n top).lev k=S.lev k:=upd_ne _ _ kn
   have up:∀a J Q,S.eg a k=some (J,Q)->(S.lev a=0\/S.lev k<S.lev a)->((S.pass N n top).lev a=0\/(S.pass N n top).lev k<(S.pass N n top).lev a):=by
    intro a J Q I z;rw[lk,P];by_cases e:a=n
    .subst e
     rw[upd_same];right;have:=H.levs k;have:=O k (by rw[I];simp);omega
    .rw[upd_ne _ _ e];exact z
   refine⟨k,Z,by rw[lk];exact F,up a J Q e5 e3,up b c2 m2 (by rw[H.symm];exact e6) e4,J,Q,c2,m2,?_,?_,e7⟩
   .rw[fA H.symm,if_neg (λu=>ka u.2.1)];exact e5
   .rw[fA H.symm,if_neg (λu=>ka u.1)];exact e6
  .obtain⟨J,Q,Z,l1,n1,_,_,_,_,k1⟩:=B a U
   obtain⟨c2,m2,F,l2,n2,_,_,_,_,k2⟩:=B b q2;refine⟨n,q6,by rw[P,upd_same];omega,.inl (by rw[P,upd_ne _ _ n1];exact l1),.inl (by rw[P,upd_ne _ _ n2];exact l2),J,Q,c2,m2,?_,?_,by rw[q5,k1,k2]⟩
   .rw[fA H.symm,if_neg (λu=>(B n u.2.1).elim λ_ q=>q.elim λ_ q=>q.2.2.1 rfl),H.symm];exact Z
   .rw[zn H h0];exact F
 .intro a b c m h
  rcases R a b c m h with⟨q,_⟩|⟨U,q2,q3,q4,q5,q6⟩
  .exact H.walk a b c m q
  .obtain⟨J,Q,Z,l1,n1,_,_,_,_,k1⟩:=B a U
   obtain⟨c2,m2,F,l2,n2,_,_,_,_,k2⟩:=B b q2;rw[q5,k1,k2];exact(H.walk a n J Q (by rw[H.symm];exact Z)).trans (H.walk n b c2 m2 F)
 .intro a
  rw[P];by_cases e:a=n
  .subst e;rw[upd_same];exact Zi _
  .rw[upd_ne _ _ e];exact H.levs a
 .intro a b h z
  rw[P,P]at z;rw[P];have ab:∀y,(S.pass N n top).eg n y≠none->y≠n->S.lev y≠top:=λy hy _=>O y (by rw[zn H h0]at hy;exact hy)
  have ac:(S.pass N n top).eg b a≠none:=by
   rw[fA H.symm];rw[fA H.symm]at h;by_cases u:a∈S.nb N n/\b∈S.nb N n/\a≠b/\S.iI n a b
   .rw[if_pos ⟨u.2.1,u.1,Ne.symm u.2.2.1,(gY H.symm).1 u.2.2.2⟩];simp
   .rw[if_neg u]at h
    rw[if_neg (λk=>u ⟨k.2.1,k.1,Ne.symm k.2.2.1,(gY H.symm).1 k.2.2.2⟩),H.symm];exact h
  by_cases L:a=n
  .by_cases eb:b=n
   .subst L;subst eb
    rw[zn H h0,mQ H h0]at h;exact absurd rfl h
   .subst L
    rw[upd_same,upd_ne _ _ eb]at z;exact absurd z.symm (ab b h eb)
  .by_cases eb:b=n
   .subst eb
    rw[upd_same,upd_ne _ _ L]at z;exact absurd z (ab a ac L)
   .rw[upd_ne _ _ L,upd_ne _ _ eb]at z
    rw[upd_ne _ _ L];rcases T a b h with q|⟨U,q2,_⟩
    .exact H.apart a b q z
    .exact(jO.1 U).2.2
 .intro a b h z M
  rw[P]at z M;show(near b||decide (b∈S.nb N n))=true;have eb:b≠n:=by rintro rfl;rw[upd_same]at M;omega
  rw[upd_ne _ _ eb]at M;by_cases L:a=n
  .subst L
   rw[zn H h0]at h
   have:b∈S.nb N a:=by
    refine jO.2 ⟨Zf (H.dw a b h).2.1.1 H.nN,?_,M⟩;cases I:S.eg a b with
    |none=>exact absurd I h
    |some _=>rfl
   simp[this]
  .rw[upd_ne _ _ L]at z
   rcases T a b h with q|⟨U,q2,_⟩
   .rw[H.near a b q z M];rfl
   .simp[q2]
 .intro a b c m h
  rcases R a b c m h with⟨q,hq⟩|⟨U,q2,q3,q4,q5,q6⟩
  .obtain⟨a1,a2,a3,a4,a5⟩:=H.small a b c m q
   refine⟨a1,a2,a3,a4,λz aa=>?_⟩;simp only[Bool.or_eq_false_iff]at aa;have L:a≠n:=by rintro rfl;rw[P,upd_same]at z;omega
   rw[P,upd_ne _ _ L]at z;exact a5 z aa.1
  .obtain⟨J,Q,Z,l1,n1,s1,s2,s3,s4,k1⟩:=B a U
   obtain⟨c2,m2,F,l2,n2,t1,t2,t3,t4,k2⟩:=B b q2;rw[q5,k1,k2];simp only[C.add];refine⟨om,om,om,om,λ_ aa=>?_⟩;simp[U]at aa
 .intro a b c h
  rw[fA H.symm];split
  .simp
  .exact H.keep a b c h
end pass
end LS
end FR
namespace FR
open Classical
namespace LS
variable {c:C}{S:LS}{N a b top:Nat}{E:Nat->Nat->C->Prop}
noncomputable def first(g:FR.G):LS where
 lev:=λ_=>0
 eg:=λa b=>if g.GE a b (g.cZ a b)then some (g.cZ a b,-1)else none
theorem jJ{g:FR.G}{m:Int}(h:(first g).eg a b=some (c,m)):g.GE a b c/\c=g.cZ a b/\m= -1:=by
 unfold first at h
 simp only at h;split at h
 .rename_i q;injection h with h;injection h with k u;subst k;subst u;exact⟨q,rfl,rfl⟩
 .cases h
theorem Gj{g:FR.G}(h:g.GE a b c):g.GE a b (g.cZ a b):=⟨h.1,h.2.1,h.2.2.1,h.2.2.2.1,rfl⟩
theorem yK{g:FR.G}(h:g.GE a b c):(first g).eg a b=some (c,-1):=by
 unfold first
 simp only;rw[if_pos (Gj h),h.2.2.2.2]
theorem uH{g:FR.G}(z:g.ok)(N:Nat)(I:g.n<=N):Inv g N 1 15 (first g) (λ_=>false):=by
 have u:∀{a b},(first g).eg a b≠none->g.GE a b (g.cZ a b):=λ{a b}h=>by
  cases F:(first g).eg a b with
  |none=>exact absurd F h
  |some cm=>obtain⟨Q,R,_⟩:=jJ (c:=cm.1) (m:=cm.2) F;rw[<-R];exact Q
 refine⟨I,om,λa b h=>?_,λa b=>?_,λa b c m h _=>?_,λa b c m h U=>?_,λa b c m h=>Walk.single (jJ h).1,λ_=>Zw _,λ_ _ _ _=>rfl,λa b _ h=>?_,λa b c m h=>?_,λa b c h=>by rw[yK h];simp,λs t c Z S M=>?_⟩
 .exact⟨(u h).1,(u h).2.1,(u h).2.2.1⟩
 .unfold first
  simp only;by_cases h:g.GE a b (g.cZ a b)
  .rw[if_pos h,if_pos (Gj (G.BN h)),G.fH]
  .rw[if_neg h,if_neg (λk=>h (Gj (G.BN k)))]
 .exact⟨(jJ h).2.2,(jJ h).1⟩
 .have:=(jJ h).2.2;omega
 .exact absurd h (by show(0:Nat)≠1;omega)
 .obtain⟨q,e,_⟩:=jJ h
  have B:=G.Wu q;have J:=(q.1).1;have L:=(q.2.1).1;have x1:=G.ji z a;have x2:=G.ji z b;have y1:=G.iJ J;have y2:=G.iJ L;have w1:=z.2.1;have T:=z.2.2.2
  have k:c.s<=15/\c.d<=15:=by
   rw[e];unfold G.cZ dD;split<;>(simp only;omega)
  obtain⟨O,P⟩:=B;exact⟨O,om,P,om,λ_ _=>by exact⟨om,om⟩⟩
 .refine .inr ⟨s,t,C.zero,c,C.zero,.nil _,?_,.nil _,rfl,rfl,?_⟩
  .exact Walk.mono (λa b c h=>⟨rfl,rfl,-1,yK h⟩) M
  .rw[C.zero_add,C.add_zero];exact C.le_refl _
theorem Inv.next{g:FR.G}{N top K:Nat}{z:Nat->Bool}(H:Inv g N top K S z):Inv g N (top+1) (2*K) S (λ_=>false):=by
 refine⟨H.nN,om,H.dw,H.symm,H.orig,H.sum,H.walk,λa=>Nat.le_succ_of_le (H.levs a),H.apart,λa b _ h=>?_,λa b c m h=>?_,H.keep,H.ud⟩
 .have:=H.levs a;omega
 .obtain⟨k,B,u,F,_⟩:=H.small a b c m h
  refine⟨k,?_,u,?_,λ_ _=>⟨?_,?_⟩⟩<;>omega
theorem QR{g:FR.G}{N top K:Nat}{R:RS}(H:Inv g N top K R.S R.near){n:Nat}(u:g.av n):Inv g N top K (RS.step N top R n).S (RS.step N top R n).near:=by
 unfold RS.step;split
 .exact H
 .rename_i h
  split
  .exact H
  .have h0:R.S.lev n=0:=by
    apply Zu;intro k;exact h (.inl k)
   have m:R.near n=false:=by
    cases k:R.near n with
    |false=>rfl
    |true=>exact absurd (.inr k) h
   exact Qn H h0 m u
theorem lU{g:FR.G}{N top K:Nat}:∀(l:List Nat)(R:RS),Inv g N top K R.S R.near->(∀n∈l,g.av n)->Inv g N top K (l.foldl (RS.step N top) R).S (l.foldl (RS.step N top) R).near
 |[],_,H,_=>H
 |n::l,R,H,k=>lU l _ (QR H (k n rS)) (λm u=>k m (by simp[u]))
theorem M9{R:RS}{n:Nat}(h:(RS.step N top R n).some_=false):RS.step N top R n=R:=by
 unfold RS.step at*;split
 .rfl
 .split
  .rfl
  .rename_i g k
   rw[if_neg g,if_neg k]at h;cases h
theorem AB:∀(l:List Nat)(R:RS),(l.foldl (RS.step N top) R).some_=false->l.foldl (RS.step N top) R=R
 |[],_,_=>rfl
 |n::l,R,h=>by
  have g:=AB l _ h;simp only[List.foldl_cons]at*;rw[g];rw[g]at h;exact M9 h
structure Fin (g:FR.G) (top:Nat) (S:LS):Prop where
 pos:0<top
 dw:∀a b,S.eg a b≠none->g.av a/\g.av b/\a≠b
 symm:∀a b,S.eg a b=S.eg b a
 orig:∀a b c m,S.eg a b=some (c,m)->m<0->m= -1/\g.GE a b c
 sum:∀a b c m,S.eg a b=some (c,m)->0<=m->∃k:Nat,m=k/\S.lev k<S.lev a/\S.lev k<S.lev b/\
  ∃c1 m1 c2 m2,S.eg a k=some (c1,m1)/\S.eg k b=some (c2,m2)/\c=C.add c1 c2
 walk:∀a b c m,S.eg a b=some (c,m)->Walk g.GE a b c
 levs:∀a,g.av a->1<=S.lev a/\S.lev a<=top
 apart:∀a b,S.eg a b≠none->S.lev a=S.lev b->S.lev a=top
 small:∀a b c m,S.eg a b=some (c,m)->0<=c.s/\c.s<=2000/\0<=c.d/\c.d<=2000
 ud:∀s t c,g.av s->g.av t->Walk g.GE s t c->∃p q c1 c0 c2,
  Walk (λx y c=>S.lev x<S.lev y/\∃m,S.eg x y=some (c,m)) s p c1/\Walk (λx y c=>S.lev y=top/\∃m,S.eg x y=some (c,m)) p q c0/\
  Walk (λx y c=>S.lev x<S.lev y/\∃m,S.eg x y=some (c,m)) t q c2/\C.le (C.add (C.add c1 c0) c2) c
theorem K9{g:FR.G}{N top K:Nat}{nr:Nat->Bool}(H:Inv g N top K S nr)(B:∀a,S.lev a<top)(u:List Nat)(hn:∀a,a∈u↔g.av a)(hK:K<=1000):Fin g top (S.close u top):=by
 have L:∀a,g.av a->(S.close u top).lev a=if S.lev a=0 then top else S.lev a:=λa M=>by
  unfold close;simp only;by_cases h:S.lev a=0
  .rw[if_pos ⟨(hn a).2 M,h⟩,if_pos h]
  .rw[if_neg (λk=>h k.2),if_neg h]
 have J:∀x y,S.eg x y≠none->S.lev x≠0->(S.lev y=0\/S.lev x<S.lev y)->(S.close u top).lev x<(S.close u top).lev y:=by
  intro x y Q F I;obtain⟨hx,hy,_⟩:=H.dw x y Q;rw[L x hx,L y hy,if_neg F];have:=B x;split<;>omega
 have aa:=H.pos;refine⟨H.pos,H.dw,H.symm,H.orig,?_,H.walk,?_,?_,?_,?_⟩
 .intro a b c m h hm
  obtain⟨k,e1,T,e3,e4,O,m1,P,m2,U,Z,e7⟩:=H.sum a b c m h hm;exact⟨k,e1,J k a (by rw[H.symm,U];simp) T e3,J k b (by rw[Z];simp) T e4,O,m1,P,m2,U,Z,e7⟩
 .intro a M
  rw[L a M];have:=B a;split<;>omega
 .intro a b Q R
  obtain⟨M,hb,_⟩:=H.dw a b Q;rw[L a M,L b hb]at R;rw[L a M];have F:=B a;have I:=B b;split
  .rfl
  .rename_i z
   rw[if_neg z]at R;split at R
   .omega
   .exact absurd (H.apart a b Q R) z
 .intro a b c m h
  obtain⟨a1,a2,a3,a4,_⟩:=H.small a b c m h;refine⟨a1,?_,a3,?_⟩<;>omega
 .intro s t c hs ht hw
  have mono:∀{x y c},Walk S.Up x y c->Walk (λx y c=>(S.close u top).lev x<(S.close u top).lev y/\∃m,(S.close u top).eg x y=some (c,m)) x y c:=
   λh=>Walk.mono (λa b c⟨F,I,m,z⟩=>⟨J a b (by rw[z];simp) F I,m,z⟩) h
  rcases H.ud s t c hs ht hw with⟨m,O,P,F,I,z⟩|⟨p,q,O,c0,P,F,I,z,_,_,h4⟩
  .exact⟨m,m,O,C.zero,P,mono F,.nil _,mono I,by rw[C.add_zero];exact z⟩
  .refine⟨p,q,O,c0,P,mono F,Walk.mono (λa b c⟨q1,q2,m,q3⟩=>⟨?_,m,q3⟩) I,mono z,h4⟩
   rw[L b (H.dw a b (by rw[q3];simp)).2.1,if_pos q2]
theorem zG{g:FR.G}(m:List Nat)(I:∀n∈m,g.av n):∀(k top K:Nat)(S:LS),Inv g N top K S (λ_=>false)->(∀a,S.lev a<top)->
 ∃z F,Inv g N (rounds N m k top S).2 z (rounds N m k top S).1 F/\(∀a,(rounds N m k top S).1.lev a<(rounds N m k top S).2)/\z<=2^k*K/\(rounds N m k top S).2<=top+k/\top<=(rounds N m k top S).2
 |0,top,K,S,H,u=>⟨K,_,H,u,rS,by simp[rounds],by simp[rounds]⟩
 |k+1,top,K,S,H,u=>by
  have B:=lU m ⟨S,λ_=>false,false⟩ H I;unfold rounds;split
  .obtain⟨z,F,J,L,M,Q,R⟩:=zG m I k (top+1) (2*K) (RS.run N top m S).S B.next (λa=>Nat.lt_succ_of_le (B.levs a))
   refine⟨z,F,J,L,?_,om,om⟩;rw[Nat.pow_succ,Nat.mul_assoc];exact M
  .rename_i h
   have P:(RS.run N top m S).some_=false:=by cases q:(RS.run N top m S).some_ with|false=>rfl|true=>exact absurd q h
   have e:=AB m ⟨S,λ_=>false,false⟩ P;have O:(RS.run N top m S).S=S:=by unfold RS.run;rw[e]
   refine⟨K,_,B,?_,Nat.le_mul_of_pos_left _ (Nat.two_pow_pos _),om,om⟩;show∀a,(RS.run N top m S).S.lev a<top;rw[O];exact u
noncomputable def all(g:FR.G)(nodes:List Nat)(most:Nat):LS×Nat:=
 ((rounds g.n nodes (most-1) 1 (first g)).1.close nodes (rounds g.n nodes (most-1) 1 (first g)).2,(rounds g.n nodes (most-1) 1 (first g)).2)
theorem Ce{g:FR.G}(J:g.ok)(k:List Nat)(m:∀a,a∈k↔g.av a){most:Nat}(O:1<=most)(P:most<=6):Fin g (all g k most).2 (all g k most).1/\1<=(all g k most).2/\(all g k most).2<=most:=by
 obtain⟨u,R,z,B,L,M,F⟩:=zG k (λn h=>(m n).1 h) (most-1) 1 15 (first g) (uH J g.n (Zi _)) (λ_=>by show(0:Nat)<1;omega)
 have:u<=1000:=by
  have I:2^(most-1)<=2^5:=Nat.pow_le_pow_right om om;have Q:2^(most-1)*15<=2^5*15:=Nat.mul_le_mul_right _ I;omega
 exact⟨K9 z B k m this,by exact F,by show(rounds g.n k (most-1) 1 (first g)).2<=most;omega⟩
inductive Jf (S:LS):Nat->Nat->List Nat->Prop
 |edge {a b:Nat} {c:C} {m:Int}:S.eg a b=some (c,m)->m<0->Jf S a b [a,b]
 |two {a b k:Nat} {c:C} {m:Int} {L M:List Nat}:S.eg a b=some (c,m)->m=k->Jf S a k L->Jf S k b M->Jf S a b (L++M.tail)
inductive LW (E:Nat->Nat->C->Prop):List Nat->C->Prop
 |one (a:Nat):LW E [a] C.zero
 |cons {a b:Nat} {l:List Nat} {e c:C}:E a b e->LW E (b::l) c->LW E (a::b::l) (C.add e c)
theorem LW.append:∀{l:List Nat}{x:Nat}{m:List Nat}{c d:C},LW E (l++[x]) c->LW E (x::m) d->LW E (l++x::m) (C.add c d)
 |[],x,m,c,d,h,k=>by
  cases h;rw[C.zero_add];exact k
 |[a],x,m,c,d,h,k=>by
  cases h with
  |cons g h=>rw[C.add_assoc];exact .cons g (LW.append (l:=[]) h k)
 |a::b::l,x,m,c,d,h,k=>by
  cases h with
  |cons g h=>rw[C.add_assoc];exact .cons g (LW.append (l:=b::l) h k)
theorem LW.walk:∀{l:List Nat}{a b:Nat}{c:C},LW E (a::l) c->(a::l).getLast?=some b->Walk E a b c
 |[],a,b,c,h,g=>by cases h;simp at g;subst g;exact .nil _
 |x::l,a,b,c,h,g=>by
  cases h with
  |cons k h=>exact Walk.cons k (LW.walk h (by simpa using g))
theorem Jf.ends{L:List Nat}(h:Jf S a b L):∃M,L=a::(M++[b]):=by
 induction h with
 |edge=>exact⟨[],rfl⟩
 |two _ _ _ _ ih1 ih2=>
  obtain⟨g,rfl⟩:=ih1;obtain⟨k,rfl⟩:=ih2;exact⟨g++_::k,by simp;rfl⟩
theorem Jf.Yq{L M:List Nat}(h:Jf S a b L)(k:Jf S a b M):L=M:=by
 induction h generalizing M with
 |edge m z=>
  cases k with
  |edge=>rfl
  |two g u=>rw[m]at g;injection g with g;injection g with _ e;omega
 |two m z _ _ ih1 ih2=>
  cases k with
  |edge g u=>rw[m]at g;injection g with g;injection g with _ e;omega
  |two g u F I=>
   rw[m]at g;injection g with g;injection g with _ e
   have B:(_:Nat)=_:=Int.ofNat_inj.1 (z.symm.trans (e.trans u));subst B;rw[ih1 F,ih2 I]
theorem Fin.YE{g:FR.G}(H:Fin g top S):∀(n:Nat){a b:Nat}{c:C}{m:Int},S.lev a+S.lev b<=n->S.eg a b=some (c,m)->∃L,Jf S a b L/\LW g.GE L c/\L.length<=2^n+1:=by
 intro n
 induction n using Nat.strongRecOn with
 |_ n ih=>
  intro a b c m hn h;by_cases u:m<0
  .obtain⟨_,P⟩:=H.orig a b c m h u
   refine⟨[a,b],.edge h u,?_,?_⟩
   .have:=LW.cons P (.one b)
    rwa[C.add_zero]at this
   .have:=Nat.two_pow_pos n
    simp only[List.length_cons,List.length_nil];omega
  .obtain⟨k,F,e2,e3,c1,m1,c2,m2,I,J,O⟩:=H.sum a b c m h om
   have Q:2^n=2^(n-1)+2^(n-1):=by
    have:n=n-1+1:=om;rw[this,Nat.pow_succ];simp;omega
   obtain⟨L,u1,U,R⟩:=ih (n-1) om om I;obtain⟨M,u2,Z,T⟩:=ih (n-1) om om J;obtain⟨z,rfl⟩:=u1.ends;obtain⟨B,rfl⟩:=u2.ends;refine⟨_,.two h F u1 u2,?_,?_⟩
   .rw[O]
    have:=LW.append (E:=g.GE) (l:=a::z) (x:=k) (m:=B++[b]) U Z;simpa using this
   .simp at R T⊢;omega
end LS
end FR
namespace FR
open Classical
structure FM (E:Nat->Nat->C->Prop) (fr N:Nat) (done hp:Nat->Option C) (k:Nat) (pend:Nat->C->Prop):Prop where
 dij:Dt E fr done hp k pend
 frN:fr<N
 rngD:∀j,done j≠none->j<N
 rngH:∀j,hp j≠none->j<N
 c1:∀j c,done j=some c->c.s<=2000*((eO (λi=>(done i).isSome) N:Int)-1)/\c.d<=2000*((eO (λi=>(done i).isSome) N:Int)-1)
 c2:∀j c,hp j=some c->c.s<=2000*(eO (λi=>(done i).isSome) N:Int)/\c.d<=2000*(eO (λi=>(done i).isSome) N:Int)
 last:∀c,done k=some c->∀i d,done i=some d->C.le d c
namespace FM
variable {c:C}{b:Nat}{pend':Nat->C->Prop}
variable {E:Nat->Nat->C->Prop} {fr N:Nat} {done hp:Nat->Option C} {k:Nat} {pend:Nat->C->Prop}
theorem start(h:fr<N)(k:Nat):FM E fr N (λ_=>none) (upd (λ_=>none) fr (some C.zero)) k (λ_ _=>False) where
 dij:=Dt.start fr k
 frN:=h
 rngD:=λj g=>absurd rfl g
 rngH:=λj g=>by
  unfold upd at g;split at g
  .rename_i e;rw[e];exact h
  .exact absurd rfl g
 c1:=λj c h=>by cases h
 c2:=λj c h=>by
  unfold upd at h;split at h
  .cases h;simp only[C.zero];exact⟨om,om⟩
  .cases h
 last:=λc h=>by cases h
theorem weaken(H:FM E fr N done hp k pend)(h:∀b e,pend b e->pend' b e):FM E fr N done hp k pend':=
 {H with dij:=⟨H.dij.i1,H.dij.i2,H.dij.i2',λa c b e x y=>(H.dij.i3 a c b e x y).imp_left λ⟨p,q⟩=>⟨p,h _ _ q⟩,H.dij.i4⟩}
theorem pop(L:∀a b c,E a b c->C.Nn c)(H:FM E fr N done hp k λ_ _=>False){t:Nat}(z:hp t=some c)(u:∀j d,hp j=some d->C.le c d):FM E fr N (upd done t (some c)) (upd hp t none) t (E t):=by
 have B:=H.rngH t (by rw[z];simp);have I:=(H.dij.i2 t c z).1;have m:=yx B I c;refine⟨H.dij.pop L z u,H.frN,?_,?_,?_,?_,?_⟩
 .intro j g
  unfold upd at g;split at g
  .rename_i e;rw[e];exact B
  .exact H.rngD j g
 .intro j g
  unfold upd at g;split at g
  .exact absurd rfl g
  .exact H.rngH j g
 .intro j d g
  rw[m];unfold upd at g;split at g
  .cases g
   have:=H.c2 _ _ z;omega
  .have:=H.c1 _ _ g
   omega
 .intro j d g
  rw[m];unfold upd at g;split at g
  .cases g
  .have:=H.c2 _ _ g
   omega
 .intro M J i d F
  rw[upd_same]at J;cases J;unfold upd at F;split at F
  .cases F;exact C.le_refl _
  .exact H.dij.i2' _ _ z _ _ F
theorem skip(H:FM E fr N done hp k pend)(z:done b≠none)(m:∀g u,pend g u->pend' g u\/g=b):FM E fr N done hp k pend':=
 {H with dij:=H.dij.skip z m}
theorem keep(H:FM E fr N done hp k pend){c e d:C}(F:done k=some c)(B:hp b=some d)(u:C.le d (C.add c e))(z:∀g m,pend g m->pend' g m\/(g=b/\m=e)):FM E fr N done hp k pend':=
 {H with dij:=H.dij.keep F B u z}
theorem push(I:∀a b c,E a b c->C.Nn c)(H:FM E fr N done hp k pend){c e:C}(B:done k=some c)(M:E k b e)(O:e.s<=2000/\e.d<=2000)(z:b<N)(L:done b=none)(J:∀d,hp b=some d->C.lt (C.add c e) d)(F:∀m u,pend m u->pend' m u\/(m=b/\u=e)):FM E fr N done (upd hp b (some (C.add c e))) k pend':=by
 refine⟨H.dij.push I B M L J (H.last _ B) F,H.frN,H.rngD,?_,H.c1,?_,H.last⟩
 .intro j g
  unfold upd at g;split at g
  .rename_i q;rw[q];exact z
  .exact H.rngH j g
 .intro j d g
  unfold upd at g;split at g
  .cases g
   have:=H.c1 _ _ B;simp only[C.add];omega
  .exact H.c2 _ _ g
theorem small(g:∀a b c,E a b c->C.Nn c)(H:FM E fr N done hp k pend)(F:N<=256){j:Nat}(h:done j=some c\/hp j=some c):0<=c.s/\c.s<=512000/\0<=c.d/\c.d<=512000:=by
 have u:=jX (λi=>(done i).isSome) N
 have m:C.Nn c:=by
  rcases h with h|h
  .exact(H.dij.i1 _ _ h).1.nn g
  .exact(H.dij.i2 _ _ h).2.nn g
 obtain⟨z,B⟩:=m;rcases h with h|h
 .have:=H.c1 _ _ h
  omega
 .have:=H.c2 _ _ h
  omega
end FM
namespace LS
variable {S:LS}{N top x y:Nat}{T:Nat->Nat->Prop}
noncomputable def part(S:LS)(n top:Nat)(T:Nat->Nat->Prop):LS where
 lev:=upd S.lev n top
 eg:=λx y=>if T x y\/T y x then some (C.add (S.cost n x) (S.cost n y),(n:Int))else S.eg x y
theorem zk{n top:Nat}(h:T x y\/T y x):(S.part n top T).eg x y=some (C.add (S.cost n x) (S.cost n y),(n:Int)):=if_pos h
theorem Kh{n top:Nat}(h:¬(T x y\/T y x)):(S.part n top T).eg x y=S.eg x y:=if_neg h
theorem Bj{n top:Nat}{T T':Nat->Nat->Prop}(h:(T x y\/T y x)↔(T' x y\/T' y x)):(S.part n top T).eg x y=(S.part n top T').eg x y:=by
 by_cases q:T x y\/T y x
 .rw[zk q,zk (h.1 q)]
 .rw[Kh q,Kh (λr=>q (h.2 r))]
theorem Fs{N n top:Nat}(h:∀a b,T a b↔(a,b)∈S.more N n):S.part n top T=S.pass N n top:=by
 unfold part pass;congr 1;funext x y;simp only[h]
theorem MH{n top:Nat}(h:∀a b,¬T a b):(S.part n top T).eg=S.eg:=by
 funext x y;show(if T x y\/T y x then _ else _)=_;rw[if_neg (λq=>q.elim (h _ _) (h _ _))]
theorem xe{R:RS}{n a:Nat}(h:a≠n):(RS.step N top R n).S.lev a=R.S.lev a:=by
 unfold RS.step;split
 .rfl
 .split
  .rfl
  .show upd R.S.lev n top a=_
   rw[upd_ne _ _ h]
theorem sJ:∀(l:List Nat)(R:RS){a:Nat},a∉l->(l.foldl (RS.step N top) R).S.lev a=R.S.lev a
 |[],_,_,_=>rfl
 |n::l,R,a,h=>by
  rw[List.foldl_cons,sJ l _ (λq=>h (by simp[q])),xe (λq=>h (by simp[q]))]
theorem uJ:∀(l:List Nat)(R:RS),l.Nodup->l.foldl (RS.step N top) R=(l.filter λa=>decide (R.S.lev a=0)).foldl (RS.step N top) R
 |[],_,_=>rfl
 |n::l,R,h=>by
  rw[List.nodup_cons]at h;by_cases h0:R.S.lev n=0
  .rw[List.filter_cons,if_pos (by simpa using h0),List.foldl_cons,List.foldl_cons,uJ l _ h.2]
   congr 1;apply List.filter_congr;intro a g;rw[xe];rintro rfl;exact h.1 g
  .rw[List.filter_cons,if_neg (by simpa using h0),List.foldl_cons]
   have:RS.step N top R n=R:=by unfold RS.step;rw[if_pos (.inl h0)]
   rw[this];exact uJ l R h.2
theorem Fa{n a b:Nat}{done:Nat->Option C}(k:∀c,done b=some c->df (S.Lw n) a b c)(u:done b=none->∀c,¬Walk (S.Lw n) a b c):S.iI n a b↔∀d,done b=some d->C.lt (C.add (S.cost n a) (S.cost n b)) d:=by
 unfold iI;constructor
 .intro h d B
  apply Zu;intro F;exact h ⟨d,(k d B).1,F⟩
 .rintro h ⟨c,m,z⟩
  cases g:done b with
  |none=>exact u g c m
  |some d=>exact C.le_trans ((k d g).2 c m) z (h d g)
end LS
end FR
namespace Go.Proofs.YtnifggkjieemeaaGreatDoor
open FR
variable {g:G}{a:Nat}{P:Nat->Nat×Nat}
def oZ(g:G)(a b:Nat)(P:Nat->Nat×Nat)(n:Nat):List Nat:=(List.range n).map λk=>g.bR a b (P k).1 (P k).2
theorem mr(g:G)(a b:Nat)(P:Nat->Nat×Nat)(n:Nat):oZ g a b P (n+1)=oZ g a b P n++[g.bR a b (P n).1 (P n).2]:=by simp[oZ,List.range_succ]
theorem Q6(z:g.ok){a b:Nat}(u:b<g.n)(m:a<g.n)(O:g.dL a b)(F:g.DK a b P):
 ∀k,k<=g.fI a b+g.fJ a b->LS.LW g.E (oZ g a b P (k+1)) ⟨((P k).2:Nat),((P k).1:Nat)⟩
 |0,_=>by
  rw[mr,F.1];exact LS.LW.one _
 |k+1,h=>by
  have Q:=Q6 z u m O F k om;obtain⟨I,J,R,L,M⟩:=G.xR z u m O F k om;have U:=F.2 k
  have Z:∃e,g.E (g.bR a b (P k).1 (P k).2) (g.bR a b (P (k+1)).1 (P (k+1)).2) e/\(⟨((P (k+1)).2:Nat),((P (k+1)).1:Nat)⟩:C)=C.add ⟨((P k).2:Nat),((P k).1:Nat)⟩ e:=by
   generalize P (k+1)=p' at*;generalize P k=p at*;obtain⟨i0,j0⟩:=p;simp only at I J R L M;rcases G.Qg z u m U I J L M om with⟨e,B,_⟩|⟨e,B,_⟩
   .rw[e]
    exact⟨⟨0,1⟩,G.GX z u m B.1 J B.2,by simp[C.add]⟩
   .rw[e]
    exact⟨⟨1,0⟩,G.GY z u m I B.1 B.2,by simp[C.add]⟩
  obtain⟨e,T,S⟩:=Z;rw[S,mr,mr,List.append_assoc];rw[mr]at Q;have:=LS.LW.append Q (LS.LW.cons T (LS.LW.one _));rw[C.add_zero]at this;exact this
theorem BI(z:g.ok){a b:Nat}(u:b<g.n)(m:a<g.n)(I:g.dL a b)(k:g.DK a b P):∃M,oZ g a b P (g.fI a b+g.fJ a b+1)=a::M/\LS.LW g.E (a::M) (g.cZ a b)/\(a::M).getLast?=some b:=by
 have h:=Q6 z u m I k (g.fI a b+g.fJ a b) (Zi _);obtain⟨J,L,O,_⟩:=G.xR z u m I k (g.fI a b+g.fJ a b) (Zi _);have B:(P (g.fI a b+g.fJ a b)).1=g.fI a b:=om;have F:(P (g.fI a b+g.fJ a b)).2=g.fJ a b:=om;rw[B,F,<-G.nG]at h
 have h0:oZ g a b P (g.fI a b+g.fJ a b+1)=a::(oZ g a b P (g.fI a b+g.fJ a b+1)).tail:=by
  unfold oZ;rw[List.range_succ_eq_map];simp only[List.map_cons,List.tail_cons,k.1];rw[G.mV]
 refine⟨_,h0,h0▸h,?_⟩;rw[<-h0,mr,B,F,G.uF z u m];simp
theorem J4{E:Nat->Nat->C->Prop}:∀{W:List Nat}{c:C},LS.LW E W c->∃f:Nat->C,f 0=C.zero/\(∀i,i+1<W.length->∃e,E (W.getD i 0) (W.getD (i+1) 0) e/\f (i+1)=C.add (f i) e)/\f (W.length-1)=c/\0<W.length
 |_,_,.one a=>⟨λ_=>C.zero,rfl,λi k=>by simp at k,rfl,rS⟩
 |_,_,.cons (a:=a) (b:=b) (l:=l) (e:=e) (c:=c) he h=>by
  obtain⟨f,u,z,B,J⟩:=J4 h;refine⟨λi=>match i with|0=>C.zero|i+1=>C.add e (f i),rfl,λi k=>?_,?_,rS⟩
  .cases i with
   |zero=>exact⟨e,he,by simp only[u];rw[C.add_zero,C.zero_add]⟩
   |succ i=>
    obtain⟨m,F,I⟩:=z i (by simpa using k);refine⟨m,F,?_⟩;show C.add e (f (i+1))=C.add (C.add e (f i)) m;rw[I,C.add_assoc]
  .show(match (a::b::l).length-1 with|0=>C.zero|i+1=>C.add e (f i))=_
   have:(a::b::l).length-1=((b::l).length-1)+1:=rS;rw[this];simp only[B]
theorem SQ(L:g.ok){W:List Nat}{c:C}(h:LS.LW g.E W c)(u:W.head?=some a)(O:a<g.n)(J:g.b a=false):g.vK (λi=>(W.map λn:Nat=>(n:Int)).getD i 0) W.length=(c,0):=by
 obtain⟨f,z,B,F,I⟩:=J4 h
 have m:W.getD 0 0=a:=by
  cases W with
  |nil=>simp at u
  |cons x l=>simpa using u
 have k:=G.Gc (g:=g) (f:=λi=>(W.map λn:Nat=>(n:Int)).getD i 0) (x:=λi=>W.getD i 0) (c:=f) (n:=W.length) z
  (λi M=>by simp[Zk,Zy,Zc M]) (by simp only[m];exact⟨O,J⟩) L B (W.length-1) om
 rw[show W.length-1+1=W.length by omega,F]at k;exact G.Dl k I
def NL(g:G)(a b:Nat)(c:C):Prop:=a<g.n/\b<g.n/\g.b a=false/\g.b b=false/\g.dL a b/\c=g.cZ a b
end Go.Proofs.YtnifggkjieemeaaGreatDoor
namespace FR
namespace G
variable {g:G} {a b:Nat}
theorem Bf(u:g.ok)(m:b<g.n)(k:a<g.n):0<=(g.cZ a b).s/\(g.cZ a b).s<=15/\0<=(g.cZ a b).d/\(g.cZ a b).d<=15:=by
 obtain⟨z,B⟩:=wG u m k;rw[nG];simp only;omega
end G
end FR
namespace FR
theorem C.Pt{s d:Int}(u:0<=s):C.le ⟨s,d⟩ ⟨0,s+d⟩:=by
 by_cases h:s=0
 .subst h;rw[Int.zero_add];exact C.le_refl _
 .refine C.le_of_lt ?_
  unfold C.lt Pos;simp only;have m:0<s*s:=ll om om;refine .inr (.inr ⟨om,om,?_⟩);have g:(0-s)*(0-s)=s*s:=by rw[Int.zero_sub,Int.neg_mul_neg]
  have k:s+d-d=s:=om;rw[g,k];omega
namespace G
variable {g:G}
end G
end FR
namespace FR
structure Hu (E:Nat->Nat->C->Prop) (src:Nat->C->Prop) (h:Nat->C) (lab hp:Nat->Option C) (back:Nat->Int) (k:Nat) (pend:Nat->C->Prop) (ps:Nat->C->Prop):Prop where
 reach:∀j c,lab j=some c->Reach E src j c
 key:∀j f,hp j=some f->∃c,lab j=some c/\f=C.add c (h j)
 closed:∀a c b e,lab a=some c->E a b e->(a=k/\pend b e)\/hp a≠none\/∃d,lab b=some d/\C.le d (C.add c e)
 srcs:∀s c,src s c->ps s c\/∃d,lab s=some d/\C.le d c
 back:∀j c,lab j=some c->(back j= -1/\src j c)\/∃(a:Nat)(d e:C),back j=a/\lab a=some d/\E a j e/\C.le (C.add d e) c
namespace Hu
variable {k':Nat}{pend' ps':Nat->C->Prop}
variable {E:Nat->Nat->C->Prop} {src:Nat->C->Prop} {h:Nat->C} {lab hp:Nat->Option C} {back:Nat->Int} {k:Nat} {pend ps:Nat->C->Prop}
theorem start(k:Nat)(back:Nat->Int):Hu E src h (λ_=>none) (λ_=>none) back k (λ_ _=>False) src where
 reach:=λ_ _ h=>by cases h
 key:=λ_ _ h=>by cases h
 closed:=λ_ _ _ _ h=>by cases h
 srcs:=λ_ _ h=>.inl h
 back:=λ_ _ h=>by cases h
theorem UG(Q:∀j t d,Walk E j t d->t=k->C.le (h j) d){hp:Nat->Option C}(H:Hu E src h lab hp back k' (λ_ _=>False) (λ_ _=>False)){s t:Nat}{z p:C}(R:src s z)(I:Walk E s t p):∀q,Walk E t k q->(∃j f,hp j=some f/\C.le f (C.add (C.add z p) q))\/(hp t=none/\∃d,lab t=some d/\C.le d (C.add z p)):=by
 have fin:∀t c q,Walk E t k q->(∃d,lab t=some d/\C.le d c)->(∃j f,hp j=some f/\C.le f (C.add c q))\/(hp t=none/\∃d,lab t=some d/\C.le d c):=by
  intro t c q u ⟨d,m,g⟩;cases J:hp t with
  |none=>exact .inr ⟨rfl,d,m,g⟩
  |some f=>
   obtain⟨T,B,M⟩:=H.key t f J;rw[m]at B;injection B with B;subst B
   refine .inl ⟨t,f,J,?_⟩;rw[M];exact C.add_le_add g (Q t k q u rfl)
 induction I with
 |nil=>
  intro q u;refine fin _ _ q u ?_;rcases H.srcs _ _ R with x|x
  .exact x.elim
  .rw[C.add_zero];exact x
 | @snoc b t c e I F S=>
  intro q u;rcases S (C.add e q) (Walk.cons F u)with⟨j,f,m,g⟩|⟨h0,d,m,g⟩
  .refine .inl ⟨j,f,m,?_⟩
   rw[<-C.add_assoc,C.add_assoc z]at g;exact g
  .refine fin _ _ q u ?_
   rcases H.closed b d t e m F with x|x|⟨L,O,P⟩
   .exact x.2.elim
   .exact absurd h0 x
   .refine⟨L,O,C.le_trans P ?_⟩
    rw[<-C.add_assoc];exact C.add_le_add g (C.le_refl _)
theorem found(J:∀j t d,Walk E j t d->t=k->C.le (h j) d)(h0:h k=C.zero)(H:Hu E src h lab hp back k' (λ_ _=>False) (λ_ _=>False)){f:C}(I:hp k=some f)(g:∀j m,hp j=some m->C.le f m):lab k=some f/\vT E src k f:=by
 obtain⟨c,z,B⟩:=H.key k f I;rw[h0,C.add_zero]at B;subst B;refine⟨z,H.reach k f z,?_⟩;rintro d ⟨s,O,p,L,M,rfl⟩;rcases H.UG J L M C.zero (.nil k)with⟨j,m,u,F⟩|⟨u,_⟩
 .rw[C.add_zero]at F
  exact C.le_trans (g j m u) F
 .rw[I]at u;cases u
theorem lost(u:∀j t d,Walk E j t d->t=k->C.le (h j) d)(H:Hu E src h lab hp back k' (λ_ _=>False) (λ_ _=>False))(m:∀j,hp j=none)(z:lab k=none):∀d,¬Reach E src k d:=by
 rintro d ⟨s,I,p,B,F,rfl⟩;rcases H.UG u B F C.zero (.nil k)with⟨j,L,g,_⟩|⟨_,J,g,_⟩
 .rw[m j]at g;cases g
 .rw[z]at g;cases g
theorem pop{t:Nat}(H:Hu E src h lab hp back k (λ_ _=>False) (λ_ _=>False)):Hu E src h lab (upd hp t none) back t (E t) (λ_ _=>False) where
 reach:=H.reach
 key:=λj f g=>by
  unfold upd at g;split at g
  .cases g
  .exact H.key j f g
 closed:=λa c b e u m=>by
  by_cases q:a=t
  .subst q;exact .inl ⟨rfl,m⟩
  .rcases H.closed a c b e u m with x|x|x
   .exact x.2.elim
   .right;left;rw[upd_ne _ _ q];exact x
   .exact .inr (.inr x)
 srcs:=H.srcs
 back:=H.back
theorem keep(H:Hu E src h lab hp back k pend ps){b:Nat}{x d:C}(L:lab b=some d)(m:C.le d x)
 (z:∀g u,pend g u->pend' g u\/(g=b/\∀c,lab k=some c->C.le x (C.add c u)))(B:∀s c,ps s c->ps' s c\/(s=b/\C.le x c)):Hu E src h lab hp back k pend' ps' where
 reach:=H.reach
 key:=H.key
 closed:=λa c g e J O=>by
  rcases H.closed a c g e J O with⟨M,Q⟩|q|q
  .rcases z g e Q with r|⟨F,I⟩
   .exact .inl ⟨M,r⟩
   .subst M;subst F
    exact .inr (.inr ⟨d,L,C.le_trans m (I c J)⟩)
  .exact .inr (.inl q)
  .exact .inr (.inr q)
 srcs:=λs c P=>by
  rcases H.srcs s c P with q|q
  .rcases B s c q with r|⟨F,I⟩
   .exact .inl r
   .subst F;exact .inr ⟨d,L,C.le_trans m I⟩
  .exact .inr q
 back:=H.back
theorem put(H:Hu E src h lab hp back k pend ps){b:Nat}{x:C}{z:Int}(hr:Reach E src b x)(O:∀d,lab b=some d->C.lt x d)(Z:b≠k\/(∀u I,¬pend u I))
 (hz:(z= -1/\src b x)\/∃(a:Nat)(d e:C),z=a/\lab a=some d/\a≠b/\E a b e/\C.le (C.add d e) x)
 (R:∀u I,pend u I->pend' u I\/(u=b/\∀c,lab k=some c->C.le x (C.add c I)))(S:∀s c,ps s c->ps' s c\/(s=b/\C.le x c)):
 Hu E src h (upd lab b (some x)) (upd hp b (some (C.add x (h b)))) (upd back b z) k pend' ps' where
 reach:=λj c g=>by
  unfold upd at g;split at g
  .rename_i e;injection g with g;subst g;rw[e];exact hr
  .exact H.reach j c g
 key:=λj f g=>by
  by_cases e:j=b
  .subst e
   rw[upd_same]at g;injection g with g
   exact⟨x,upd_same _ _ _,g.symm⟩
  .rw[upd_ne _ _ e]at g⊢
   exact H.key j f g
 closed:=λa c u e Q he=>by
  by_cases q:a=b
  .subst q
   right;left;rw[upd_same];simp
  .rw[upd_ne _ _ q]at Q⊢
   have low:∀d y,lab u=some d->C.le d y->∃m,upd lab b (some x) u=some m/\C.le m y:=λd y J L=>by
    by_cases r:u=b
    .subst r;exact⟨x,upd_same _ _ _,C.le_trans (C.le_of_lt (O d J)) L⟩
    .exact⟨d,by rw[upd_ne _ _ r];exact J,L⟩
   rcases H.closed a c u e Q he with⟨M,P⟩|r|⟨d,B,F⟩
   .rcases R u e P with r|⟨B,F⟩
    .exact .inl ⟨M,r⟩
    .subst M;subst B
     exact .inr (.inr ⟨x,upd_same _ _ _,F c Q⟩)
   .exact .inr (.inl r)
   .exact .inr (.inr (low d _ B F))
 srcs:=λs c hs=>by
  have low:∀d,lab s=some d->C.le d c->∃m,upd lab b (some x) s=some m/\C.le m c:=λd J L=>by
   by_cases r:s=b
   .subst r;exact⟨x,upd_same _ _ _,C.le_trans (C.le_of_lt (O d J)) L⟩
   .exact⟨d,by rw[upd_ne _ _ r];exact J,L⟩
  rcases H.srcs s c hs with q|⟨d,M,P⟩
  .rcases S s c q with r|⟨B,F⟩
   .exact .inl r
   .subst B;exact .inr ⟨x,upd_same _ _ _,F⟩
  .exact .inr (low d M P)
 back:=λj c g=>by
  have low:∀(a:Nat)(d e y:C),lab a=some d->C.le (C.add d e) y->∃m,upd lab b (some x) a=some m/\C.le (C.add m e) y:=λa d e y J L=>by
   by_cases r:a=b
   .subst r;exact⟨x,upd_same _ _ _,C.le_trans (C.add_le_add (C.le_of_lt (O d J)) (C.le_refl _)) L⟩
   .exact⟨d,by rw[upd_ne _ _ r];exact J,L⟩
  by_cases e:j=b
  .subst e
   rw[upd_same]at g;injection g with g;subst g
   rw[upd_same];rcases hz with q|⟨a,d,e,M,P,q3,T,U⟩
   .exact .inl q
   .obtain⟨m,B,F⟩:=low a d e x P U
    exact .inr ⟨a,m,e,M,B,T,F⟩
  .rw[upd_ne _ _ e]at g⊢
   rcases H.back j c g with q|⟨a,d,I,M,P,T,U⟩
   .exact .inl q
   .obtain⟨m,B,F⟩:=low a d I c P U
    exact .inr ⟨a,m,I,M,B,T,F⟩
theorem done(H:Hu E src h lab hp back k pend ps)(g:∀b e,¬pend b e)(z:∀s c,¬ps s c):Hu E src h lab hp back k' (λ_ _=>False) (λ_ _=>False) where
 reach:=H.reach
 key:=H.key
 closed:=λa c b e m u=>by
  rcases H.closed a c b e m u with q|q|q
  .exact absurd q.2 (g b e)
  .exact .inr (.inl q)
  .exact .inr (.inr q)
 srcs:=λs c h=>by
  rcases H.srcs s c h with q|q
  .exact absurd q (z s c)
  .exact .inr q
 back:=H.back
end Hu
namespace LS
variable {c:C}{S:LS}{T top:Nat}{src:Nat->C->Prop}{fin:Nat->Option C}{mark:Nat->Prop}
def SE(S:LS)(top T:Nat)(mark:Nat->Prop)(fin:Nat->Option C)(a b:Nat)(e:C):Prop:=
 (a≠T/\b≠T/\(S.lev a<S.lev b\/S.lev b=top\/mark b)/\∃m,S.eg a b=some (e,m))\/(a≠T/\b=T/\fin a=some e)
def qG(S:LS)(ends:Nat->Prop)(b:Nat):Prop:=∃t c,ends t/\Walk (λx y c=>S.lev x<S.lev y/\∃m,S.eg x y=some (c,m)) t b c
def Xw(g:FR.G)(src:Nat->C->Prop)(fin:Nat->Option C)(c:C):Prop:=∃s c0 t d e,src s c0/\g.av s/\Walk g.GE s t d/\fin t=some e/\c=C.add (C.add c0 d) e
theorem IL{g:FR.G}(H:Fin g top S)(hT:g.n<=T)(u:∀s c,src s c->g.av s)(h:Reach (S.SE top T mark fin) src T c):Xw g src fin c:=by
 obtain⟨s,F,p,I,z,rfl⟩:=h
 have L:∀{a b p},Walk (S.SE top T mark fin) a b p->a≠T->(b≠T->Walk g.GE a b p)/\(b=T->∃t d e,Walk g.GE a t d/\fin t=some e/\p=C.add d e):=by
  intro a b p z R
  induction z with
  |nil=>exact⟨λ_=>.nil _,λe=>absurd e R⟩
  | @snoc m b d e z U O=>
   rcases U with⟨M,B,_,k,hk⟩|⟨M,B,Z⟩
   .exact⟨λ_=>(O.1 M).trans (H.walk _ _ _ _ hk),λe=>absurd e B⟩
   .exact⟨λe=>absurd B e,λ_=>⟨m,d,e,O.1 M,Z,rfl⟩⟩
 have J:s≠T:=by have:=(u s F I).1;omega
 obtain⟨t,d,e,P,Q,rfl⟩:=(L z J).2 rfl;exact⟨s,F,t,d,e,I,u s F I,P,Q,(C.add_assoc _ _ _).symm⟩
theorem IV{g:FR.G}(H:Fin g top S)(hT:g.n<=T)(hm:∀b,qG S (λt=>g.av t/\fin t≠none) b->mark b)(h:Xw g src fin c):∃O,Reach (S.SE top T mark fin) src T O/\C.le O c:=by
 obtain⟨s,Q,t,d,e,hs,J,z,R,rfl⟩:=h
 have B:g.av t:=by
  have:∀{a b c},Walk g.GE a b c->g.av a->g.av b:=λz ha=>z.keeps (P:=g.av) (λa b c _ I=>I.2.1) ha;exact this z J
 obtain⟨p,q,U,d1,Z,h1,h2,h3,h4⟩:=H.ud s t d J B z
 have F:∀{x y c m},S.eg x y=some (c,m)->x≠T/\y≠T:=λ{x y c m}I=>by
  obtain⟨a,b,_⟩:=H.dw x y (by rw[I];simp);have:=a.1;have:=b.1;exact⟨om,om⟩
 have w1:Walk (S.SE top T mark fin) s p U:=Walk.mono (λa b c⟨L,m,u⟩=>.inl ⟨(F u).1,(F u).2,.inl L,m,u⟩) h1;have w2:Walk (S.SE top T mark fin) p q d1:=Walk.mono (λa b c⟨L,m,u⟩=>.inl ⟨(F u).1,(F u).2,.inr (.inl L),m,u⟩) h2
 have w3:Walk (S.SE top T mark fin) q t Z:=by
  have M:∀{b c},Walk (λx y c=>S.lev x<S.lev y/\∃m,S.eg x y=some (c,m)) t b c->Walk (S.SE top T mark fin) b t c:=by
   intro b c z
   induction z with
   |nil=>exact .nil _
   | @snoc m b d e z I ih=>
    obtain⟨L,k,u⟩:=I;rw[C.add_comm];refine Walk.cons (.inl ⟨(F u).2,(F u).1,.inr (.inr (hm m ⟨t,_,⟨B,by rw[R];simp⟩,z⟩)),k,by rw[H.symm];exact u⟩) ih
  exact M h3
 refine⟨_,⟨s,Q,_,hs,((w1.trans w2).trans w3).snoc (.inr ⟨by have:=B.1;omega,rfl,R⟩),rfl⟩,?_⟩;exact C.le_trans (C.add_le_add (C.le_refl Q) (C.add_le_add h4 (C.le_refl e))) (C.le_of_eq (C.add_assoc _ _ _).symm)
theorem FE{g:FR.G}(H:Fin g top S)(m:g.n<=T)(k:∀s c,src s c->g.av s)(L:∀b,qG S (λt=>g.av t/\fin t≠none) b->mark b):vT (S.SE top T mark fin) src T c↔Xw g src fin c/\∀d,Xw g src fin d->C.le c d:=by
 constructor
 .rintro⟨F,u⟩
  refine⟨IL H m k F,λd I=>?_⟩;obtain⟨B,z,J⟩:=IV H m L I;exact C.le_trans (u B z) J
 .rintro⟨F,u⟩
  obtain⟨B,z,J⟩:=IV H m L F;have:=u B (IL H m k z);have e:=C.le_antisymm this J;subst e;exact⟨z,λd I=>u d (IL H m k I)⟩
end LS
end FR
namespace FR
structure SB (N T B M F:Nat) (lab:Nat->Option C):Prop where
 rng:∀j,lab j≠none->j<N\/j=T
 nn:∀j c,lab j=some c->C.Nn c
 bd:∀j c,lab j=some c->j<N->C.le c ⟨0,((B+M*bJ lab N:Nat):Int)⟩
 bdT:∀j c,lab j=some c->¬j<N->C.le c ⟨0,((F+(B+M*N):Nat):Int)⟩
namespace SB
variable {c:C}
variable {N T B M F:Nat} {lab:Nat->Option C}
def K(N B M F:Nat):Nat:=2*(F+(B+M*(N+1)))
def me(N T B M F:Nat)(lab:Nat->Option C):Nat:=BF.meas (T+1) (K N B M F) lab
theorem start:SB N T B M F (λ_=>none):=⟨λ_ h=>absurd rfl h,λ_ _ h=>(nomatch h),λ_ _ h=>(nomatch h),λ_ _ h=>(nomatch h)⟩
theorem VC(H:SB N T B M F lab){j:Nat}(h:lab j=some c):C.le c ⟨0,((F+(B+M*N):Nat):Int)⟩:=by
 by_cases g:j<N
 .refine C.le_trans (H.bd j c h g) (C.aM (Int.le_refl _) ?_)
  have:=Nat.mul_le_mul_left M (jY lab N);simp only;omega
 .exact H.bdT j c h g
theorem small(H:SB N T B M F lab){j:Nat}(h:lab j=some c):0<=c.s/\c.s<=2*((F+(B+M*N):Nat):Int)/\0<=c.d/\c.d<=2*((F+(B+M*N):Nat):Int):=by
 have g:=H.nn j c h;obtain⟨k,m⟩:=C.gy g (b:=⟨0,((F+(B+M*N):Nat):Int)⟩) ⟨rS,by simp only;omega⟩ (H.VC h);obtain⟨u,z⟩:=g;simp only at k m;omega
theorem put(H:SB N T B M F lab)(Z:N<=T){b:Nat}(S:b<N\/b=T)(O:C.Nn c)(L:∀d,lab b=some d->C.lt c d)(R:b<N->lab b=none->C.le c ⟨0,((B+M*(bJ lab N+1):Nat):Int)⟩)(Q:¬b<N->C.le c ⟨0,((F+(B+M*N):Nat):Int)⟩):SB N T B M F (upd lab b (some c))/\me N T B M F (upd lab b (some c))<me N T B M F lab:=by
 have P:=vY lab N b c;have U:=Nat.mul_le_mul_left M P
 have J:b<N->C.le c ⟨0,((B+M*bJ (upd lab b (some c)) N:Nat):Int)⟩:=λk=>by
  cases u:lab b with
  |none=>rw[lQ k u];exact R k u
  |some d=>exact C.le_trans (C.le_of_lt (L d u)) (C.le_trans (H.bd b _ u k) (C.aM (Int.le_refl _) (by simp only;omega)))
 have z:C.le c ⟨0,((F+(B+M*N):Nat):Int)⟩:=by
  by_cases k:b<N
  .refine C.le_trans (J k) (C.aM (Int.le_refl _) ?_)
   have:=Nat.mul_le_mul_left M (jY (upd lab b (some c)) N);simp only;omega
  .exact Q k
 refine⟨⟨?_,?_,?_,?_⟩,?_⟩
 .intro j g
  unfold upd at g;split at g
  .rename_i e;rw[e];exact S
  .exact H.rng j g
 .intro j d g
  unfold upd at g;split at g
  .cases g;exact O
  .exact H.nn j d g
 .intro j d g m
  by_cases e:j=b
  .subst e;rw[upd_same]at g;cases g;exact J m
  .rw[upd_ne _ _ e]at g
   exact C.le_trans (H.bd j _ g m) (C.aM (Int.le_refl _) (by simp only;omega))
 .intro j d g m
  by_cases e:j=b
  .subst e;rw[upd_same]at g;cases g;exact z
  .rw[upd_ne _ _ e]at g
   exact H.bdT j _ g m
 .have I:c∈box (K N B M F):=by
   obtain⟨p1,p2⟩:=C.gy O (b:=⟨0,((F+(B+M*N):Nat):Int)⟩) ⟨rS,by simp only;omega⟩ z;have h3:M*N<=M*(N+1):=Nat.mul_le_mul_left _ (Nat.le_succ _);simp only at p1 p2;refine xL O ?_ ?_<;>unfold K<;>omega
  unfold me BF.meas;apply tT
  .intro j _
   by_cases q:j=b
   .subst q
    rw[upd_same];cases u:lab j with
    |none=>exact Nat.le_succ_of_le (zD _ _)
    |some d=>exact Nat.le_of_lt (zF (L d u) I)
   .rw[upd_ne _ _ q];exact Zi _
  .refine⟨b,by rcases S with h|h<;>omega,?_⟩
   rw[upd_same];cases u:lab b with
   |none=>exact Nat.lt_succ_of_le (zD _ _)
   |some d=>exact zF (L d u) I
end SB
theorem Ec(L:Nat->Option C)(N b:Nat)(c:C):bJ (upd L b (some c)) N<=bJ L N+1:=by
 by_cases g:b<N
 .cases h:L b with
  |none=>rw[lQ g h];exact Zi _
  |some d=>unfold bJ;rw[Au N (by rw[h];simp) c];exact Nat.le_succ _
 .have:bJ (upd L b (some c)) N=bJ L N:=by
   unfold bJ eO;refine bO N λk m=>?_;show(if(upd L b (some c) k).isSome=true then 1 else 0)=if(L k).isSome=true then 1 else 0
   rw[upd_ne (j:=k) (k:=b) _ _ om]
  omega
end FR
namespace FR
namespace G
variable {g g':G}{nx ny:Int}{a b c k z:Nat}
def p9(g:G)(c z:Nat):Prop:=(g.X c:Int)-1<=g.X z/\(g.X z:Int)<=g.X c+1/\(g.Y c:Int)-1<=g.Y z/\(g.Y z:Int)<=g.Y c+1
def Pd(g:G)(c:Nat)(nx ny:Int)(z:Nat):Prop:=g.p9 c z/\((g.Y z:Int)<ny\/((g.Y z:Int)=ny/\(g.X z:Int)<nx))
def PN(g g':G)(c:Nat)(nx ny:Int)(z:Nat):Prop:=z<g.n/\((g.Pd c nx ny z/\g'.av z)\/(¬g.Pd c nx ny z/\g.av z))
def PD(g g':G)(c:Nat)(nx ny:Int)(a b:Nat):Prop:=g.aK a b/\(g.Pd c nx ny a->g.av a/\g'.av a)/\(g.Pd c nx ny b->g.av b/\g'.av b)
theorem Rp(h:g.PD g' c nx ny a b):g.PD g' c nx ny b a:=⟨gW.1 h.1,h.2.2,h.2.1⟩
theorem xV:¬g.Pd c ((g.X c:Int)-1) ((g.Y c:Int)-1) z:=by
 rintro⟨⟨m,u,B,F⟩,I⟩;omega
theorem Gp(h:nx=(g.X c:Int)+2):g.Pd c nx ny z↔g.Pd c ((g.X c:Int)-1) (ny+1) z:=by
 unfold Pd p9;omega
theorem NN(h:ny=(g.Y c:Int)+2):g.Pd c nx ny z↔g.p9 c z:=by
 unfold Pd p9;omega
theorem BV(m:g.ok)(u:z<g.n)(I:¬(0<=nx/\nx<g.w/\0<=ny/\ny<g.h)):g.Pd c (nx+1) ny z↔g.Pd c nx ny z:=by
 have B:=ji m z;have F:=iJ u
 grind [Pd]
theorem I9(F:(g.X k:Int)=nx)(I:(g.Y k:Int)=ny)(B:g.p9 c k):g.Pd c (nx+1) ny z↔g.Pd c nx ny z\/z=k:=by
 constructor
 .rintro⟨m,u⟩
  by_cases e:(g.X z:Int)=nx/\(g.Y z:Int)=ny
  .grind [gM]
  .exact .inl ⟨m,om⟩
 .rintro(⟨m,u⟩|rfl)
  .exact⟨m,om⟩
  .exact⟨B,om⟩
theorem NP(m:(g.X k:Int)=nx)(u:(g.Y k:Int)=ny):¬g.Pd c nx ny k:=by
 rintro⟨_,h⟩;omega
theorem BU(m:k<g.n)(B:(g.X k:Int)=nx)(F:(g.Y k:Int)=ny)(u:g.p9 c k):((z=k/\g'.av k)\/(z≠k/\g.PN g' c nx ny z))↔g.PN g' c (nx+1) ny z:=by
 grind [PN,I9,NP]
theorem Ro(m:k<g.n)(I:(g.X k:Int)=nx)(J:(g.Y k:Int)=ny)(F:g.p9 c k)(u:g.PN g' c (nx+1) ny a)(B:g.PN g' c (nx+1) ny b):(g.PD g' c nx ny a b/\((a≠k/\b≠k)\/(g'.av k/\g.PN g' c nx ny k)))↔g.PD g' c (nx+1) ny a b:=by
 grind [NP,PN,PD,I9]
theorem U0(m:But g g' (g.X c) (g.Y c))(h:ny=(g.Y c:Int)+2)(z:Nat):g.PN g' c nx ny z↔g'.av z:=by
 unfold PN;rw[NN h];have u:¬g.p9 c z->(g'.av z↔g.av z):=λB=>yz m (by unfold p9 at B;omega);constructor
 .grind
 .intro q
  refine⟨by have:=q.1;rw[m.n]at this;exact this,?_⟩
  grind
theorem NM(I:g.ok)(m:But g g' (g.X c) (g.Y c))(h:ny=(g.Y c:Int)+2)(B:g'.av a)(u:g'.av b)(F:¬g.xS a b (g.X c) (g.Y c)):g.PD g' c nx ny a b↔g'.aK a b:=by
 have J:¬g.p9 c a:=by unfold p9 xS at*;omega
 have L:¬g.p9 c b:=by unfold p9 xS at*;omega
 have e:=GM I m (by have:=u.1;rw[m.n]at this;exact this) (by have:=B.1;rw[m.n]at this;exact this) F
 grind [PD,NN]
end G
end FR
