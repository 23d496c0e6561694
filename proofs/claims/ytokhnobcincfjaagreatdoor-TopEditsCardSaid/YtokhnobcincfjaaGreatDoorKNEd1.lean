/- Lemmas of this claim: Math1, MathClear, MathHeap, Math2, MathFlood. -/
set_option linter.unusedVariables false
set_option linter.unusedSimpArgs false
set_option maxHeartbeats 1000000
namespace FR
variable {a b d s u v:Int}
theorem TB:∀n:Nat,∀s d:Int,s.natAbs<=n->s*s=2*(d*d)->s=0/\d=0:=by
 intro n
 induction n using Nat.strongRecOn with
 |_ n ih=>
  intro s d L h;by_cases k:s=0
  .subst k
   refine⟨rfl,?_⟩;have z:d*d=0:=by omega
   rcases Int.mul_eq_zero.1 z with h|h<;>exact h
  .exfalso
   have J:s%2=0:=by
    rcases Int.emod_two_eq s with g|g
    .exact g
    .have:(s*s)%2=1:=by rw[Int.mul_emod,g];rfl
     omega
   obtain⟨t,rfl⟩:∃t,s=2*t:=⟨s/2,by omega⟩;have I:d*d=2*(t*t):=by grind
   have F:d%2=0:=by
    rcases Int.emod_two_eq d with g|g
    .exact g
    .have:(d*d)%2=1:=by rw[Int.mul_emod,g];rfl
     omega
   obtain⟨u,rfl⟩:∃u,d=2*u:=⟨d/2,by omega⟩;have B:t*t=2*(u*u):=by grind
   have:=ih t.natAbs (by omega) t u (Nat.le_refl _) B;omega
def Pos(s d:Int):Prop:=(0<=s/\0<=d/\(0<s\/0<d))\/(0<s/\d<0/\2*(d*d)<s*s)\/(s<0/\0<d/\s*s<2*(d*d))
theorem Tp(z:0<=a)(k:0<=b)(h:a*a<b*b):a<b:=by
 rcases Int.lt_or_le a b with g|g
 .exact g
 .exfalso;have:=Int.mul_le_mul g g k (by omega);omega
theorem qR(g:0<=a)(h:a<=b):a*a<=b*b:=Int.mul_le_mul h h g (by omega)
theorem jS(g:0<a)(k:0<b):0<a*b:=Int.mul_pos g k
-- p1>q1 r2,p2>q2 r2->p1 p2>2 q1 q2
theorem cross{p1 q1 p2 q2:Int}(z:0<p1)(g:0<q1)(B:0<p2)(k:0<q2)(a:2*(q1*q1)<p1*p1)(b:2*(q2*q2)<p2*p2):2*(q1*q2)<p1*p2:=by
 apply Tp (by have:=jS g k;omega) (by have:=jS z B;omega)
 have J:2*(q1*q1)*(2*(q2*q2))<p1*p1*(p2*p2):=by
  have F:=jS g g;have I:=jS k k
  calc 2*(q1*q1)*(2*(q2*q2))<p1*p1*(2*(q2*q2)):=Int.mul_lt_mul_of_pos_right a (by omega)
   _<=p1*p1*(p2*p2):=Int.mul_le_mul_of_nonneg_left (by omega) (by omega)
 grind
theorem KA{p1 q1 p2 q2:Int}(g:0<p1)(z:0<q1)(k:0<p2)(B:0<q2)(a:p1*p1<2*(q1*q1))(b:p2*p2<2*(q2*q2)):p1*p2<2*(q1*q2):=by
 apply Tp (by have:=jS g k;omega) (by have:=jS z B;omega)
 have J:p1*p1*(p2*p2)<2*(q1*q1)*(2*(q2*q2)):=by
  have F:=jS g g;have I:=jS k k
  calc p1*p1*(p2*p2)<2*(q1*q1)*(p2*p2):=Int.mul_lt_mul_of_pos_right a (by omega)
   _<=2*(q1*q1)*(2*(q2*q2)):=Int.mul_le_mul_of_nonneg_left (by omega) (by omega)
 grind
theorem zT(s d:Int):Pos s d\/(s=0/\d=0)\/Pos (-s) (-d):=by
 unfold Pos;have z:=TB s.natAbs s d (Nat.le_refl _);have g:(-s)*(-s)=s*s:=by grind
 have k:(-d)*(-d)=d*d:=by grind
 rw[g,k];omega
theorem Jl(h:Pos s d):¬Pos (-s) (-d):=by grind [Pos]
theorem EA:¬Pos 0 0:=by unfold Pos;omega
theorem pq(h:Pos s d)(J:0<=u)(L:0<=v):Pos (s+u) (d+v):=by
 unfold Pos at*;rcases h with h|⟨z,B,F⟩|⟨z,B,F⟩
 .omega
 .by_cases I:0<=d+v
  .omega
  .refine .inr (.inl ⟨by omega,by omega,?_⟩)
   have a:s*s<=(s+u)*(s+u):=qR (by omega) (by omega);have b:(-(d+v))*(-(d+v))<=(-d)*(-d):=qR (by omega) (by omega);have g:(-(d+v))*(-(d+v))=(d+v)*(d+v):=by grind
   have k:(-d)*(-d)=d*d:=by grind
   omega
 .by_cases I:0<=s+u
  .omega
  .refine .inr (.inr ⟨by omega,by omega,?_⟩)
   have a:d*d<=(d+v)*(d+v):=qR (by omega) (by omega);have b:(-(s+u))*(-(s+u))<=(-s)*(-s):=qR (by omega) (by omega);have g:(-(s+u))*(-(s+u))=(s+u)*(s+u):=by grind
   have k:(-s)*(-s)=s*s:=by grind
   omega
theorem yw(I:Pos s d)(J:Pos u v)(Q:s<0)(R:0<d)(S:s*s<2*(d*d))(L:0<u)(T:v<0)(U:2*(v*v)<u*u):Pos (s+u) (d+v):=by
 by_cases a:0<=s+u
 .by_cases b:0<=d+v
  .by_cases z:s+u=0/\d+v=0
   .exfalso
    obtain⟨Z,z2⟩:=z;have e:u= -s:=by omega
    have F:v= -d:=by omega
    subst e;subst F;exact Jl I J
   .exact .inl ⟨a,b,by omega⟩
  ·-- s+u>=0,d+v<0:need 2(d+v)²<(s+u)²
   refine .inr (.inl ?_)
   have g:0<s+u/\2*((d+v)*(d+v))<(s+u)*(s+u):=by
    -- with p=-s,q=d:p<q√2;u> -v √2,-v>q;u-p>(-v-q)√2
    rcases zT (s+u) (d+v)with t|t|t
    .unfold Pos at t;omega
    .omega
    .exfalso
     -- Pos (-(s+u)) (-(d+v)),and Pos s d:then sum pos (-u)(-v),contradiction;-(d+v)>0,-(s+u)<=0
     by_cases q:s+u=0
     .have e:u= -s:=by omega
      subst e;have:(-v)*(-v)>=d*d:=qR (by omega) (by omega);have B:(-v)*(-v)=v*v:=by grind
      have k:(-s)*(-s)=s*s:=by grind
      omega
     .unfold Pos at t
      have M:(-(s+u))*(-(s+u))<2*((-(d+v))*(-(d+v))):=by omega
      have c:=KA (p1:=s+u) (q1:=-(d+v)) (p2:=-s) (q2:=d) (by omega) (by omega) (by omega) (by omega) (by grind) (by grind);have:u*u=(s+u)*(s+u)+s*s+2*((s+u)*(-s)):=by grind
      have:v*v=(-(d+v))*(-(d+v))+d*d+2*((-(d+v))*d):=by grind
      have:(-(s+u))*(-(s+u))=(s+u)*(s+u):=by grind
      omega
   exact⟨g.1,by omega,g.2⟩
 .by_cases b:0<d+v
  .refine .inr (.inr ⟨by omega,b,?_⟩)
   rcases zT (s+u) (d+v)with t|t|t
   .unfold Pos at t;omega
   .omega
   .exfalso
    unfold Pos at t;have k:(-(s+u))*(-(s+u))=(s+u)*(s+u):=by grind
    have B:(-(d+v))*(-(d+v))=(d+v)*(d+v):=by grind
    have M:2*((d+v)*(d+v))<(s+u)*(s+u):=by omega
    have c:=cross (p1:=-(s+u)) (q1:=d+v) (p2:=u) (q2:=-v) (by omega) (by omega) L (by omega) (by grind) (by grind);have:s*s=(-(s+u))*(-(s+u))+u*u+2*((-(s+u))*u):=by grind
    have:d*d=(d+v)*(d+v)+v*v+2*((d+v)*(-v)):=by grind
    omega
  .exfalso
   -- s+u<0,d+v<=0: -s>u,-v>=d:s²>u²>2v²>=2d²
   have O:u*u<=(-s)*(-s):=qR (by omega) (by omega);have P:d*d<=(-v)*(-v):=qR (by omega) (by omega);have k:(-s)*(-s)=s*s:=by grind
   have B:(-v)*(-v)=v*v:=by grind
   omega
theorem Pk(h:Pos s d)(k:Pos u v):Pos (s+u) (d+v):=by
 have L:=h;have F:=k;unfold Pos at h k;rcases k with k|⟨I,J,M⟩|⟨I,J,M⟩
 .exact pq L k.1 k.2.1
 .rcases h with h|⟨g,z,B⟩|⟨g,z,B⟩
  .have:=pq F h.1 h.2.1;rw[Int.add_comm s,Int.add_comm d];exact this
  .have c:=cross (p1:=s) (q1:=-d) (p2:=u) (q2:=-v) g (by omega) I (by omega) (by grind) (by grind)
   refine .inr (.inl ⟨by omega,by omega,?_⟩);have:(s+u)*(s+u)=s*s+u*u+2*(s*u):=by grind
   have:(d+v)*(d+v)=d*d+v*v+2*((-d)*(-v)):=by grind
   omega
  .exact yw L F g z B I J M
 .rcases h with h|⟨g,z,B⟩|⟨g,z,B⟩
  .have:=pq F h.1 h.2.1;rw[Int.add_comm s,Int.add_comm d];exact this
  .have:=yw F L I J M g z B;rw[Int.add_comm s,Int.add_comm d];exact this
  .have c:=KA (p1:=-s) (q1:=d) (p2:=-u) (q2:=v) (by omega) z (by omega) J (by grind) (by grind)
   refine .inr (.inr ⟨by omega,by omega,?_⟩);have:(s+u)*(s+u)=s*s+u*u+2*((-s)*(-u)):=by grind
   have:(d+v)*(d+v)=d*d+v*v+2*(d*v):=by grind
   omega
structure C where
 s:Int
 d:Int
deriving DecidableEq
namespace C
variable {a b c:C}
def zero:C:=⟨0,0⟩
def add(a b:C):C:=⟨a.s+b.s,a.d+b.d⟩
def lt(a b:C):Prop:=Pos (b.s-a.s) (b.d-a.d)
def le(a b:C):Prop:=¬lt b a
def Nn(a:C):Prop:=0<=a.s/\0<=a.d
instance (s d:Int):Decidable (Pos s d):=by unfold Pos;infer_instance
instance (a b:C):Decidable (lt a b):=by unfold lt;infer_instance
instance (a b:C):Decidable (le a b):=by unfold le;infer_instance
def cmp(a b:C):Int:=if lt a b then -1 else if lt b a then 1 else 0
theorem ext'(h:a.s=b.s)(k:a.d=b.d):a=b:=by cases a;cases b;simp_all
theorem lt_irrefl(a:C):¬lt a a:=by unfold lt;rw[Int.sub_self,Int.sub_self];exact EA
theorem lt_trans(h:lt a b)(k:lt b c):lt a c:=by
 unfold lt at*;have:=Pk h k;rwa[show b.s-a.s+(c.s-b.s)=c.s-a.s by omega,show b.d-a.d+(c.d-b.d)=c.d-a.d by omega]at this
theorem lt_asymm(h:lt a b):¬lt b a:=λk=>lt_irrefl a (lt_trans h k)
theorem jR(a b:C):lt a b\/a=b\/lt b a:=by grind [lt,zT,ext']
theorem le_refl(a:C):le a a:=lt_irrefl a
theorem le_of_lt(h:lt a b):le a b:=lt_asymm h
theorem le_of_eq(h:a=b):le a b:=h▸le_refl a
theorem le_antisymm(h:le a b)(k:le b a):a=b:=by grind [jR,C,le]
theorem le_total(a b:C):le a b\/le b a:=by grind [jR,le_of_lt,le_of_eq]
theorem not_lt:¬lt a b↔le b a:=Iff.rfl
theorem le_iff:le a b↔lt a b\/a=b:=by grind [jR,le_of_lt,le_of_eq,C,le,lt]
theorem le_trans(h:le a b)(k:le b c):le a c:=by grind [le_iff,le_of_lt,lt_trans]
theorem lt_of_lt_of_le(h:lt a b)(k:le b c):lt a c:=by grind [le_iff,lt_trans]
theorem lt_of_le_of_lt(h:le a b)(k:lt b c):lt a c:=by grind [le_iff,lt_trans]
theorem add_comm(a b:C):add a b=add b a:=ext' (Int.add_comm ..) (Int.add_comm ..)
theorem add_assoc(a b c:C):add (add a b) c=add a (add b c):=ext' (Int.add_assoc ..) (Int.add_assoc ..)
theorem add_zero(a:C):add a zero=a:=ext' (Int.add_zero _) (Int.add_zero _)
theorem zero_add(a:C):add zero a=a:=ext' (Int.zero_add _) (Int.zero_add _)
theorem add_lt_left(c:C):lt (add c a) (add c b)↔lt a b:=by grind [lt,add]
theorem add_lt_right(c:C):lt (add a c) (add b c)↔lt a b:=by grind [add_comm,add_lt_left]
theorem add_le_left(c:C):le (add c a) (add c b)↔le a b:=not_congr (add_lt_left c)
theorem add_le_right(c:C):le (add a c) (add b c)↔le a b:=not_congr (add_lt_right c)
theorem add_le_add{a b c d:C}(h:le a b)(k:le c d):le (add a c) (add b d):=
 le_trans ((add_le_right c).2 h) ((add_le_left b).2 k)
theorem add_lt_add_of_lt_of_le{a b c d:C}(h:lt a b)(k:le c d):lt (add a c) (add b d):=
 lt_of_lt_of_le ((add_lt_right c).2 h) ((add_le_left b).2 k)
theorem OZ:Nn zero:=⟨Int.le_refl 0,Int.le_refl 0⟩
theorem zR(h:Nn a)(k:Nn b):Nn (add a b):=⟨by have:=h.1;have:=k.1;simp only[add];omega,by have:=h.2;have:=k.2;simp only[add];omega⟩
theorem yc(h:Nn a):le zero a:=by grind [lt,Pos,C,Nn,le,zero]
theorem iA(h:Nn b):le a (add a b):=by
 have:=(add_le_left a).2 (yc h);rwa[add_zero]at this
theorem jL(h:a.s<=b.s)(k:a.d<=b.d)(g:a≠b):lt a b:=by grind [lt,Pos,ext']
theorem aK(h:a.s<=b.s)(k:a.d<=b.d):le a b:=by grind [le_of_eq,le_of_lt,jL]
theorem jK(h:Nn b)(g:b≠zero):lt a (add a b):=by grind [lt,jL,add_lt_left,add_zero,C,Nn,add,zero]
theorem fo:cmp a b<0↔lt a b:=by grind [cmp]
theorem uL:0<=cmp a b↔le b a:=by grind [fo,not_lt,C,cmp,le]
theorem uM:cmp a b=0↔a=b:=by grind [cmp,lt_irrefl,jR]
theorem NY:0<cmp a b↔lt b a:=by grind [fo,uM,jR,lt_asymm,lt_irrefl,cmp]
theorem xL(a b:C):cmp a b= -1\/cmp a b=0\/cmp a b=1:=by grind [cmp]
theorem Mr(g:Nn a)(h:le a b):a.s<=b.s+2*b.d\/b.d<0:=by
 by_cases e:b.d<0
 .exact .inr e
 .left
  apply Classical.byContradiction;intro F;apply h;unfold lt Pos;obtain⟨z,B⟩:=g;by_cases x:0<=a.d-b.d
  .omega
  .refine .inr (.inl ⟨by omega,by omega,?_⟩)
   have I:(b.d-a.d)*(b.d-a.d)<=b.d*b.d:=qR (by omega) (by omega);have J:(2*b.d+1)*(2*b.d+1)<=(a.s-b.s)*(a.s-b.s):=qR (by omega) (by omega);have k:(b.d-a.d)*(b.d-a.d)=(a.d-b.d)*(a.d-b.d):=by grind
   have u:(2*b.d+1)*(2*b.d+1)=4*(b.d*b.d)+4*b.d+1:=by grind
   have:0<=b.d*b.d:=Int.mul_nonneg (by omega) (by omega);omega
theorem dZ(g:Nn a)(k:Nn b)(h:le a b):a.s<=b.s+2*b.d/\a.d<=b.s+2*b.d:=by
 refine⟨(Mr g h).resolve_right (by have:=k.2;omega),?_⟩;apply Classical.byContradiction;intro L;apply h;unfold lt Pos;obtain⟨B,F⟩:=g;obtain⟨I,J⟩:=k;by_cases x:0<=a.s-b.s
 .omega
 .refine .inr (.inr ⟨by omega,by omega,?_⟩)
  have M:(b.s-a.s)*(b.s-a.s)<=b.s*b.s:=qR (by omega) (by omega);have O:(b.s+1)*(b.s+1)<=(a.d-b.d)*(a.d-b.d):=qR (by omega) (by omega);have u:(b.s-a.s)*(b.s-a.s)=(a.s-b.s)*(a.s-b.s):=by grind
  have z:(b.s+1)*(b.s+1)=b.s*b.s+2*b.s+1:=by grind
  have:0<=b.s*b.s:=Int.mul_nonneg (by omega) (by omega);omega
end C
theorem DR(P:C->Prop)(M:∀a,P a->C.Nn a)(h:∃a,P a):∃a,P a/\∀b,P b->C.le a b:=by
 classical
 obtain⟨a,z⟩:=h
 -- by induction on a bound of the number of lesser ones
 let box:Nat->List C:=λk=>(List.range (k+1)).flatMap λs:Nat=>(List.range (k+1)).map λd:Nat=>(⟨(s:Int),(d:Int)⟩:C)
 have B:∀(b a:C),C.Nn a->C.Nn b->C.le b a->b∈box (a.s+2*a.d).toNat:=by
  intro b a z u I;obtain⟨Q,R⟩:=C.dZ u z I;obtain⟨S,T⟩:=u;simp only[box,List.mem_flatMap,List.mem_range,List.mem_map];exact⟨b.s.toNat,by omega,b.d.toNat,by omega,C.ext' (by simp;omega) (by simp;omega)⟩
 have L:∀(l:List C)(a:C),P a->(∀b,P b->C.lt b a->b∈l)->∃a,P a/\∀b,P b->C.le a b:=by
  intro l
  induction l with
  |nil=>intro a z F;exact⟨a,z,λb u k=>by have:=F b u k;simp at this⟩
  |cons x l O=>
   intro a z F;by_cases J:P x/\C.lt x a
   .apply O x J.1
    intro b u g;have:=F b u (C.lt_trans g J.2);rcases List.mem_cons.1 this with e|e
    .exact absurd g (e▸C.lt_irrefl x)
    .exact e
   .apply O a z
    intro b u g;rcases List.mem_cons.1 (F b u g)with e|e
    .exact absurd ⟨e▸u,e▸g⟩ J
    .exact e
 exact L (box (a.s+2*a.d).toNat) a z λb u g=>B b a (M a z) (M b u) (C.le_of_lt g)
inductive Walk (E:Nat->Nat->C->Prop):Nat->Nat->C->Prop
 |nil (a:Nat):Walk E a a C.zero
 |snoc {a b t:Nat} {c d:C}:Walk E a b c->E b t d->Walk E a t (C.add c d)
namespace Walk
variable {c:C}{a b:Nat}
variable {E:Nat->Nat->C->Prop}
theorem nn(g:∀a b c,E a b c->C.Nn c)(h:Walk E a b c):C.Nn c:=by
 induction h with
 |nil=>exact C.OZ
 |snoc _ e ih=>exact C.zR ih (g _ _ _ e)
theorem single(h:E a b c):Walk E a b c:=by
 have:=Walk.snoc (Walk.nil a) h;rwa[C.zero_add]at this
theorem trans{a b t:Nat}{c d:C}(h:Walk E a b c)(k:Walk E b t d):Walk E a t (C.add c d):=by
 induction k with
 |nil=>rwa[C.add_zero]
 |snoc _ e ih=>rw[<-C.add_assoc];exact .snoc ih e
theorem cons{a b t:Nat}{c d:C}(h:E a b c)(k:Walk E b t d):Walk E a t (C.add c d):=trans (single h) k
theorem rev(g:∀a b c,E a b c->E b a c)(h:Walk E a b c):Walk E b a c:=by
 induction h with
 |nil=>exact .nil _
 |snoc _ e ih=>rw[C.add_comm];exact cons (g _ _ _ e) ih
theorem mono{g:Nat->Nat->C->Prop}(k:∀a b c,E a b c->g a b c)(h:Walk E a b c):Walk g a b c:=by
 induction h with
 |nil=>exact .nil _
 |snoc _ e ih=>exact .snoc ih (k _ _ _ e)
theorem keeps{P:Nat->Prop}(k:∀a b c,P a->E a b c->P b)(h:Walk E a b c)(g:P a):P b:=by
 induction h with
 |nil=>exact g
 |snoc _ e ih=>exact k _ _ _ ih e
end Walk
def bP(E:Nat->Nat->C->Prop)(a b:Nat)(c:C):Prop:=Walk E a b c/\∀d,Walk E a b d->C.le c d
namespace bP
variable {c:C}{a b:Nat}
variable {E:Nat->Nat->C->Prop}
theorem unique{c d:C}(h:bP E a b c)(k:bP E a b d):c=d:=C.le_antisymm (h.2 _ k.1) (k.2 _ h.1)
theorem exist(u:∀a b c,E a b c->C.Nn c)(h:Walk E a b c):∃d,bP E a b d:=by
 obtain⟨d,g,k⟩:=DR (λc=>Walk E a b c) (λ_ h=>h.nn u) ⟨c,h⟩;exact⟨d,g,k⟩
theorem self(g:∀a b c,E a b c->C.Nn c)(a:Nat):bP E a a C.zero:=⟨.nil a,λ_ h=>C.yc (h.nn g)⟩
theorem symm(g:∀a b c,E a b c->E b a c)(h:bP E a b c):bP E b a c:=
 ⟨h.1.rev g,λd k=>h.2 d (k.rev g)⟩
theorem step{a b t:Nat}{c d e:C}(h:bP E a b c)(k:E b t d)(l:bP E a t e):C.le e (C.add c d):=l.2 _ (h.1.snoc k)
theorem congr{g:Nat->Nat->C->Prop}(k:∀a b c,E a b c↔g a b c):bP E a b c↔bP g a b c:=by
 have:E=g:=by funext a b c;exact propext (k a b c)
 rw[this]
theorem Ja(g:Nat)(L:Nat->Option C)(I:∃c,L g=some c/\C.le c C.zero)(R:∀b c,L b=some c->Walk E g b c)(Q:∀a b c e,L a=some c->E a b e->∃d,L b=some d/\C.le d (C.add c e))(b:Nat):(∀c,L b=some c->bP E g b c)/\(L b=none->∀c,¬Walk E g b c):=by
 have u:∀b c,Walk E g b c->∃d,L b=some d/\C.le d c:=by
  intro b c h
  induction h with
  |nil=>exact I
  |snoc _ e ih=>
   obtain⟨d,k,F⟩:=ih;obtain⟨B,J,M⟩:=Q _ _ _ _ k e;exact⟨B,J,C.le_trans M ((C.add_le_right _).2 F)⟩
 refine⟨λc z=>⟨R b c z,λd O=>?_⟩,λP c z=>?_⟩
 .obtain⟨B,k,F⟩:=u b d O
  rw[z]at k;cases k;exact F
 .obtain⟨B,k,_⟩:=u b c z
  rw[P]at k;cases k
end bP
structure G where
 w:Nat
 h:Nat
 b:Nat->Bool
def bu(d:Nat):Int:=match d with|0=>0|1=>1|2=>1|3=>1|4=>0|5=>-1|6=>-1|_=>-1
def aZ(d:Nat):Int:=match d with|0=>-1|1=>-1|2=>0|3=>1|4=>1|5=>1|6=>0|_=>-1
def aW(d:Nat):C:=if d%2=1 then⟨0,1⟩else⟨1,0⟩
namespace G
variable {g:G}{a b c d x y:Nat}
def ok(g:G):Prop:=1<=g.w/\g.w<=16/\1<=g.h/\g.h<=16
def n(g:G):Nat:=g.w*g.h
def op(g:G)(x y:Int):Bool:=decide (0<=x/\x<g.w/\0<=y/\y<g.h)&& !g.b (y.toNat*g.w+x.toNat)
def may(g:G)(x y:Int)(d:Nat):Bool:=g.op x y&&g.op (x+bu d) (y+aZ d)&&g.op (x+bu d) y&&g.op x (y+aZ d)
def X(g:G)(c:Nat):Nat:=c%g.w
def Y(g:G)(c:Nat):Nat:=c/g.w
def cell(g:G)(x y:Nat):Nat:=y*g.w+x
def dN(g:G)(c d:Nat):Bool:=g.may (g.X c) (g.Y c) d
def Ai(g:G)(c:Int)(d:Nat):Int:=c+bu d+aZ d*g.w
def to(g:G)(c d:Nat):Nat:=(g.Ai c d).toNat
def moves(g:G)(c:Nat):List Nat:=(List.range 8).filter (g.dN c)
theorem bR(h:g.ok):g.n<=256:=by
 obtain⟨z,k,B,u⟩:=h;have:g.w*g.h<=16*16:=Nat.mul_le_mul k u;exact this
theorem jw(h:g.ok)(c:Nat):g.X c<g.w:=Nat.mod_lt _ (by have:=h.1;omega)
theorem iM(k:c<g.n):g.Y c<g.h:=by
 unfold Y;apply Nat.div_lt_of_lt_mul;exact k
theorem XY(g:G)(c:Nat):g.Y c*g.w+g.X c=c:=by grind [X,Y,Nat.mul_comm,Nat.div_add_mod]
theorem mY(u:x<g.w)(k:y<g.h):g.cell x y<g.n:=by
 unfold cell n;have:(y+1)*g.w<=g.h*g.w:=Nat.mul_le_mul_right _ k;rw[Nat.add_mul,Nat.one_mul]at this;rw[Nat.mul_comm g.w g.h];omega
theorem oN(k:x<g.w):g.X (g.cell x y)=x:=by grind [X,cell,Nat.mul_comm,Nat.mul_add_mod,Nat.mod_eq_of_lt]
theorem oO(k:x<g.w):g.Y (g.cell x y)=y:=by grind [Y,cell,Nat.mul_comm,Nat.mul_add_div,Nat.div_eq_of_lt]
theorem fP(g:G)(c:Nat):g.cell (g.X c) (g.Y c)=c:=g.XY c
theorem rX{x y:Int}:g.op x y=true↔(0<=x/\x<g.w/\0<=y/\y<g.h)/\g.b (y.toNat*g.w+x.toNat)=false:=by
 unfold op;simp
theorem lH(h:g.ok)(k:c<g.n):g.op (g.X c) (g.Y c)=!g.b c:=by
 unfold op;have u:=jw h c;have z:=iM k;rw[decide_eq_true (by omega)];simp only[Int.toNat_natCast,XY,Bool.true_and]
theorem CL(L:0<=(g.X c:Int)+bu d)(M:(g.X c:Int)+bu d<g.w)(O:0<=(g.Y c:Int)+aZ d):g.Ai c d=g.to c d/\(g.X (g.to c d):Int)=g.X c+bu d/\(g.Y (g.to c d):Int)=g.Y c+aZ d:=by
 have I:=g.XY c;obtain⟨u,J⟩:∃u:Nat,(g.X c:Int)+bu d=u:=⟨_,(Int.toNat_of_nonneg L).symm⟩;obtain⟨v,z⟩:∃v:Nat,(g.Y c:Int)+aZ d=v:=⟨_,(Int.toNat_of_nonneg O).symm⟩;have k:u<g.w:=by omega
 have e:g.Ai c d=g.cell u v:=by
  unfold Ai cell;have P:((g.Y c:Int)+aZ d)*g.w=v*g.w:=by rw[z]
  have Q:((g.Y c:Int)+aZ d)*g.w=g.Y c*g.w+aZ d*g.w:=Int.add_mul ..;have F:((g.Y c*g.w+g.X c:Nat):Int)=c:=by rw[I]
  push_cast at F⊢
  omega
 have B:g.to c d=g.cell u v:=by unfold to;rw[e];rfl
 rw[B,oN k,oO k,e];exact⟨rfl,J.symm,z.symm⟩
theorem fu{x y:Int}:g.may x y d=true↔g.op x y=true/\g.op (x+bu d) (y+aZ d)=true/\g.op (x+bu d) y=true/\g.op x (y+aZ d)=true:=by
 unfold may;simp[and_assoc]
theorem df(h:g.dN c d=true):g.Ai c d=g.to c d/\(g.X (g.to c d):Int)=g.X c+bu d/\(g.Y (g.to c d):Int)=g.Y c+aZ d:=by
 obtain⟨_,u,_⟩:=fu.1 h;obtain⟨⟨a,b,k,_⟩,_⟩:=rX.1 u;exact CL a b k
theorem uk(h:g.dN c d=true):g.to c d<g.n:=by
 obtain⟨e,B,F⟩:=df h;obtain⟨_,k,_⟩:=fu.1 h;obtain⟨⟨a,b,u,z⟩,_⟩:=rX.1 k;rw[<-fP g (g.to c d)];exact mY (by omega) (by omega)
theorem FB(h:d<8):bu ((d+4)%8)= -bu d/\aZ ((d+4)%8)= -aZ d:=by
 have:d=0\/d=1\/d=2\/d=3\/d=4\/d=5\/d=6\/d=7:=by omega
 rcases this with rfl|rfl|rfl|rfl|rfl|rfl|rfl|rfl<;>decide
theorem LK{x y:Int}(k:d<8)(h:g.may x y d=true):g.may (x+bu d) (y+aZ d) ((d+4)%8)=true:=by grind [FB,fu,bu,aZ]
theorem xW(u:d<8)(h:g.dN c d=true):g.dN (g.to c d) ((d+4)%8)=true/\g.to (g.to c d) ((d+4)%8)=c:=by
 obtain⟨e,F,J⟩:=df h;have B:=LK u h;have k:g.dN (g.to c d) ((d+4)%8)=true:=by unfold dN;rw[F,J];exact B
 refine⟨k,?_⟩;obtain⟨M,I,L⟩:=df k;obtain⟨O,P⟩:=FB u;have z:=fP g (g.to (g.to c d) ((d+4)%8));rw[show g.X (g.to (g.to c d) ((d+4)%8))=g.X c by omega,show g.Y (g.to (g.to c d) ((d+4)%8))=g.Y c by omega,fP]at z;exact z.symm
theorem Jw(d:Nat):aW ((d+4)%8)=aW d:=by grind [aW]
def E(g:G)(a b:Nat)(c:C):Prop:=a<g.n/\∃d,d<8/\g.dN a d=true/\b=g.to a d/\c=aW d
theorem MU(d:Nat):C.Nn (aW d):=by unfold aW C.Nn;split<;>simp
theorem yP{c:C}(h:g.E a b c):C.Nn c:=by
 obtain⟨_,d,_,_,_,rfl⟩:=h;exact MU d
theorem kN{c:C}(h:g.E a b c):g.E b a c:=by
 obtain⟨F,d,B,k,rfl,rfl⟩:=h;obtain⟨u,z⟩:=xW B k;exact⟨uk k,(d+4)%8,Nat.mod_lt _ (by decide),u,z.symm,(Jw d).symm⟩
theorem Qz{c:C}(h:g.E a b c):b<g.n:=by
 obtain⟨_,d,_,k,rfl,_⟩:=h;exact uk k
theorem QA{c:C}(F:g.ok)(h:g.E a b c):g.b a=false/\g.b b=false:=by
 obtain⟨I,d,J,z,rfl,_⟩:=h;have k:=(fu.1 z).1;rw[lH F I]at k;have B:=(xW J z).1;have u:=(fu.1 B).1;rw[lH F (uk z)]at u;simp at k u;exact⟨k,u⟩
end G
def dh(dx dy:Int):C:=if dx.natAbs<dy.natAbs then⟨(dy.natAbs:Int)-dx.natAbs,dx.natAbs⟩else⟨(dx.natAbs:Int)-dy.natAbs,dy.natAbs⟩
theorem O5(g k:Int):C.Nn (dh g k):=by unfold dh C.Nn;split<;>simp<;>omega
theorem Mg(g k:Int):dh (-g) (-k)=dh g k:=by grind [dh,Int.natAbs_neg]
theorem nI(g k:Int):dh k g=dh g k:=by grind [dh]
theorem Ti{a b c d:Int}(F:a<=c)(I:b<=d):C.le ⟨a-b,b⟩ ⟨c-d,d⟩:=by
 intro k;unfold C.lt Pos at k;simp only at k;rcases k with k|⟨g,u,z⟩|⟨g,u,z⟩
 .omega
 .have q:=qR (a:=a-b-(c-d)) (b:=d-b) (by omega) (by omega)
  have B:(b-d)*(b-d)=(d-b)*(d-b):=by grind
  have:0<(d-b)*(d-b):=jS (by omega) (by omega);omega
 .omega
theorem Qv{t m g:Int}(h:m<=g):C.le ⟨t-2*g,g⟩ ⟨t-2*m,m⟩:=by
 intro k;unfold C.lt Pos at k;simp only at k;have e:t-2*g-(t-2*m)= -(2*(g-m)):=by omega
 rw[e]at k;have u:(-(2*(g-m)))*(-(2*(g-m)))=4*((g-m)*(g-m)):=by grind
 have:0<=(g-m)*(g-m):=Int.mul_nonneg (by omega) (by omega);rw[u]at k;omega
theorem I9{p q r s:Int}(g:p.natAbs<=r.natAbs)(k:q.natAbs<=s.natAbs):C.le (dh p q) (dh r s):=by
 unfold dh;split<;>split<;>exact Ti (by omega) (by omega)
theorem Mh(a b c d:Int):C.le (dh (a+c) (b+d)) (C.add (dh a b) (dh c d)):=by
 have F:∀p q r s:Int,0<=p->0<=q->0<=r->0<=s->C.le (dh (p+r) (q+s)) (C.add (dh p q) (dh r s)):=by
  intro p q r s hp u z B
  have go:∀p q r s:Int,0<=p->0<=q->0<=r->0<=s->q<=p->C.le (dh (p+r) (q+s)) (C.add (dh p q) (dh r s)):=by
   intro p q r s hp u z B I;by_cases h:s<=r
   .apply C.le_of_eq
    unfold dh C.add;rw[if_neg (by omega),if_neg (by omega),if_neg (by omega)];apply C.ext'<;>simp<;>omega
   .have e:C.add (dh p q) (dh r s)=⟨(p+q+r+s)-2*(q+r),q+r⟩:=by
     unfold dh C.add;rw[if_neg (by omega),if_pos (by omega)];apply C.ext'<;>simp<;>omega
    rw[e];by_cases J:q+s<=p+r
    .have k:dh (p+r) (q+s)=⟨(p+q+r+s)-2*(q+s),q+s⟩:=by
      unfold dh;rw[if_neg (by omega)];apply C.ext'<;>simp<;>omega
     rw[k];exact Qv (by omega)
    .have k:dh (p+r) (q+s)=⟨(p+q+r+s)-2*(p+r),p+r⟩:=by
      unfold dh;rw[if_pos (by omega)];apply C.ext'<;>simp<;>omega
     rw[k];exact Qv (by omega)
  rcases Int.le_total q p with h|h
  .exact go p q r s hp u z B h
  .have:=go q p s r u hp B z h
   rwa[nI,nI p q,nI r s]at this
 have g:∀p q:Int,dh p q=dh p.natAbs q.natAbs:=by intro p q;unfold dh;simp
 have:=F a.natAbs b.natAbs c.natAbs d.natAbs (by omega) (by omega) (by omega) (by omega);rw[<-g,<-g]at this;refine C.le_trans (I9 ?_ ?_) this<;>omega
namespace G
def bV(g:G)(a b:Nat):C:=dh ((g.X a:Int)-g.X b) ((g.Y a:Int)-g.Y b)
theorem Cg(g:G)(a:Nat):g.bV a a=C.zero:=by unfold bV;rw[Int.sub_self,Int.sub_self];rfl
theorem dW(g:G)(a b:Nat):g.bV a b=g.bV b a:=by
 unfold bV;rw[<-Mg];congr 1<;>omega
theorem Rx(g:G)(a b:Nat):C.Nn (g.bV a b):=O5 _ _
theorem Gi(g:G)(a b c:Nat):C.le (g.bV a c) (C.add (g.bV a b) (g.bV b c)):=by
 have:=Mh ((g.X a:Int)-g.X b) ((g.Y a:Int)-g.Y b) ((g.X b:Int)-g.X c) ((g.Y b:Int)-g.Y c);unfold bV;rwa[show(g.X a:Int)-g.X b+((g.X b:Int)-g.X c)=(g.X a:Int)-g.X c by omega,show(g.Y a:Int)-g.Y b+((g.Y b:Int)-g.Y c)=(g.Y a:Int)-g.Y c by omega]at this
theorem Mj{g:G}{a b:Nat}{c:C}(h:g.E a b c):g.bV a b=c:=by
 obtain⟨u,d,z,k,rfl,rfl⟩:=h;obtain⟨_,B,F⟩:=df k;unfold bV;rw[show(g.X a:Int)-g.X (g.to a d)= -bu d by omega,show(g.Y a:Int)-g.Y (g.to a d)= -aZ d by omega];have:d=0\/d=1\/d=2\/d=3\/d=4\/d=5\/d=6\/d=7:=by omega
 rcases this with rfl|rfl|rfl|rfl|rfl|rfl|rfl|rfl<;>decide
theorem Mi{g:G}{a b:Nat}{c:C}(h:Walk g.E a b c):C.le (g.bV a b) c:=by
 induction h with
 |nil=>rw[Cg];exact C.le_refl _
 | @snoc m _ _ _ _ e ih=>
  refine C.le_trans (Gi g _ m _) ?_;rw[Mj e];exact(C.add_le_right _).2 ih
end G
def upd{α:Type}(f:Nat->α)(k:Nat)(v:α):Nat->α:=λj=>if j=k then v else f j
theorem upd_same{α:Type}(f:Nat->α)(k:Nat)(v:α):upd f k v k=v:=if_pos rfl
theorem upd_ne{α:Type}(f:Nat->α){k j:Nat}(v:α)(h:j≠k):upd f k v j=f j:=if_neg h
structure Al (E:Nat->Nat->C->Prop) (from_:Nat) (done hp:Nat->Option C) (k:Nat) (pend:Nat->C->Prop):Prop where
 i1:∀j c,done j=some c->bP E from_ j c
 i2:∀j c,hp j=some c->done j=none/\Walk E from_ j c
 i2':∀j c,hp j=some c->∀i d,done i=some d->C.le d c
 i3:∀a c b e,done a=some c->E a b e->(a=k/\pend b e)\/done b≠none\/∃d,hp b=some d/\C.le d (C.add c e)
 i4:done from_=some C.zero\/hp from_=some C.zero
namespace Al
variable {c:C}{b from_ k:Nat}{pend pend':Nat->C->Prop}{done hp:Nat->Option C}
variable {E:Nat->Nat->C->Prop}
theorem start(g k:Nat):Al E g (λ_=>none) (upd (λ_=>none) g (some C.zero)) k (λ_ _=>False) where
 i1:=λj c h=>by simp at h
 i2:=λj c h=>by
  unfold upd at h;split at h
  .rename_i e;cases h;rw[e];exact⟨rfl,.nil _⟩
  .simp at h
 i2':=λj c h i d k=>by simp at k
 i3:=λa c b e h=>by simp at h
 i4:=.inr (upd_same _ _ _)
theorem reached(I:∀a b c,E a b c->C.Nn c)(H:Al E from_ done hp k λ_ _=>False){t:Nat}{d:C}(h:Walk E from_ t d):(∃c,done t=some c)\/∃j c,hp j=some c/\C.le c d:=by
 induction h with
 |nil=>
  rcases H.i4 with h|h
  .exact .inl ⟨_,h⟩
  .exact .inr ⟨_,_,h,C.le_refl _⟩
 | @snoc b t c e L u M=>
  rcases M with⟨g,h⟩|⟨j,g,B,F⟩
  .rcases H.i3 _ _ _ _ h u with x|x|⟨z,x,y⟩
   .exact x.2.elim
   .cases J:done t with
    |none=>exact absurd J x
    |some q=>exact .inl ⟨q,rfl⟩
   .refine .inr ⟨t,z,x,C.le_trans y ((C.add_le_right _).2 ((H.i1 _ _ h).2 _ L))⟩
  .exact .inr ⟨j,g,B,C.le_trans F (C.iA (I _ _ _ u))⟩
theorem pop(O:∀a b c,E a b c->C.Nn c)(H:Al E from_ done hp k λ_ _=>False){t:Nat}(J:hp t=some c)(g:∀j d,hp j=some d->C.le c d):Al E from_ (upd done t (some c)) (upd hp t none) t (E t):=by
 obtain⟨I,Q⟩:=H.i2 _ _ J
 have M:bP E from_ t c:=⟨Q,λd P=>by
  rcases H.reached O P with⟨L,x⟩|⟨j,L,x,y⟩
  .rw[I]at x;cases x
  .exact C.le_trans (g _ _ x) y⟩
 refine⟨?_,?_,?_,?_,?_⟩
 .intro j d h
  unfold upd at h;split at h
  .rename_i e;cases h;rw[e];exact M
  .exact H.i1 _ _ h
 .intro j d h
  unfold upd at h⊢;split at h
  .cases h
  .rename_i e;rw[if_neg e];exact H.i2 _ _ h
 .intro j d h i B u
  unfold upd at h u;split at h
  .cases h
  .split at u
   .cases u;exact g _ _ h
   .exact H.i2' _ _ h _ _ u
 .intro a d b e h F
  unfold upd at h;split at h
  .rename_i q;exact .inl ⟨q,q▸F⟩
  .rename_i q
   rcases H.i3 _ _ _ _ h F with x|x|⟨B,x,y⟩
   .exact x.2.elim
   .refine .inr (.inl ?_)
    unfold upd;split
    .simp
    .exact x
   .by_cases z:b=t
    .refine .inr (.inl ?_);rw[z,upd_same];simp
    .refine .inr (.inr ⟨B,?_,y⟩);rw[upd_ne _ _ z];exact x
 .by_cases z:from_=t
  .left;rw[z,upd_same]
   rcases H.i4 with x|x
   .rw[z,I]at x;cases x
   .rw[z,J]at x;exact x
  .rw[upd_ne _ _ z,upd_ne _ _ z];exact H.i4
theorem skip(H:Al E from_ done hp k pend)(B:done b≠none)
 (u:∀g z,pend g z->pend' g z\/g=b):Al E from_ done hp k pend' where
 i1:=H.i1
 i2:=H.i2
 i2':=H.i2'
 i3:=λa c g e h F=>by
  rcases H.i3 _ _ _ _ h F with x|x|x
  .rcases u _ _ x.2 with y|y
   .exact .inl ⟨x.1,y⟩
   .exact .inr (.inl (y▸B))
  .exact .inr (.inl x)
  .exact .inr (.inr x)
 i4:=H.i4
theorem keep(H:Al E from_ done hp k pend){c e d:C}(M:done k=some c)
 (J:hp b=some d)(B:C.le d (C.add c e))(F:∀g u,pend g u->pend' g u\/(g=b/\u=e)):Al E from_ done hp k pend' where
 i1:=H.i1
 i2:=H.i2
 i2':=H.i2'
 i3:=λa I g u h L=>by
  rcases H.i3 _ _ _ _ h L with x|x|x
  .rcases F _ _ x.2 with y|⟨y,z⟩
   .exact .inl ⟨x.1,y⟩
   .have:I=c:=by rw[x.1,M]at h;cases h;rfl
    subst this;exact .inr (.inr ⟨d,y▸J,z▸B⟩)
  .exact .inr (.inl x)
  .exact .inr (.inr x)
 i4:=H.i4
theorem push(J:∀a b c,E a b c->C.Nn c)(H:Al E from_ done hp k pend){c e:C}(M:done k=some c)
 (L:E k b e)(R:done b=none)(P:∀d,hp b=some d->C.lt (C.add c e) d)(g:∀i d,done i=some d->C.le d c)
 (F:∀u I,pend u I->pend' u I\/(u=b/\I=e)):Al E from_ done (upd hp b (some (C.add c e))) k pend' where
 i1:=H.i1
 i2:=λj d h=>by
  unfold upd at h;split at h
  .rename_i q;cases h;rw[q];exact⟨R,(H.i1 _ _ M).1.snoc L⟩
  .exact H.i2 _ _ h
 i2':=λj d h i S O=>by
  unfold upd at h;split at h
  .cases h;exact C.le_trans (g _ _ O) (C.iA (J _ _ _ L))
  .exact H.i2' _ _ h _ _ O
 i3:=λa Q u I h B=>by
  by_cases q:u=b
  .subst q
   rw[upd_same];rcases H.i3 _ _ _ _ h B with x|x|⟨d,x,y⟩
   .rcases F _ _ x.2 with y|⟨_,z⟩
    .exact .inl ⟨x.1,y⟩
    .have:Q=c:=by rw[x.1,M]at h;cases h;rfl
     subst this;exact .inr (.inr ⟨_,rfl,z▸C.le_refl _⟩)
   .exact .inr (.inl x)
   .exact .inr (.inr ⟨_,rfl,C.le_trans (C.le_of_lt (P _ x)) y⟩)
  .rw[upd_ne _ _ q]
   rcases H.i3 _ _ _ _ h B with x|x|x
   .rcases F _ _ x.2 with y|⟨y,z⟩
    .exact .inl ⟨x.1,y⟩
    .exact absurd y q
   .exact .inr (.inl x)
   .exact .inr (.inr x)
 i4:=by
  rcases H.i4 with x|x
  .exact .inl x
  .by_cases q:from_=b
   ·-- the beginning stands in the heap for nothing:nothing is less
    exfalso;have:=P _ (q▸x);exact C.yc (C.zR ((H.i1 _ _ M).1.nn J) (J _ _ _ L)) this
   .right;rw[upd_ne _ _ q];exact x
theorem fin(z:∀a b c,E a b c->C.Nn c)(H:Al E from_ done hp k λ_ _=>False)(u:∀j,hp j=none)(t:Nat):(∀c,done t=some c->bP E from_ t c)/\(done t=none->∀c,¬Walk E from_ t c):=by
 refine⟨H.i1 t,λh c B=>?_⟩;rcases H.reached z B with⟨g,x⟩|⟨j,g,x,_⟩
 .rw[h]at x;cases x
 .rw[u]at x;cases x
end Al
variable {k:Nat}{f g:Nat->Nat}
def bB(f:Nat->Nat):Nat->Nat
 |0=>0
 |k+1=>bB f k+f k
theorem lJ:∀n,(∀k,k<n->f k<=g k)->bB f n<=bB g n
 |0,_=>Nat.le_refl _
 |n+1,h=>Nat.add_le_add (lJ n λk u=>h k (by omega)) (h n (by omega))
theorem qU:∀n,(∀k,k<n->f k<=g k)->(∃k,k<n/\f k<g k)->bB f n<bB g n
 |0,_,h=>by obtain⟨k,h,_⟩:=h;omega
 |n+1,h,⟨k,B,u⟩=>by
  by_cases e:k=n
  .subst e;exact Nat.add_lt_add_of_le_of_lt (lJ k λj z=>h j (by omega)) u
  .exact Nat.add_lt_add_of_lt_of_le (qU n (λj z=>h j (by omega)) ⟨k,by omega,u⟩) (h n (by omega))
theorem gU(K:Nat):∀n,bB (λ_=>K) n=n*K
 |0=>by simp[bB]
 |n+1=>by rw[bB,gU K n,Nat.add_mul,Nat.one_mul]
def dG(p:Nat->Bool)(n:Nat):Nat:=bB (λk=>if p k then 1 else 0) n
theorem iN(p:Nat->Bool)(n:Nat):dG p n<=n:=by
 have:=lJ (f:=λk=>if p k then 1 else 0) (g:=λ_=>1) n (by intro k _;split<;>omega);rw[gU]at this;unfold dG;omega
theorem bD:∀n,(∀k,k<n->f k=g k)->bB f n=bB g n
 |0,_=>rfl
 |n+1,h=>by rw[bB,bB,bD n λk u=>h k (by omega),h n (by omega)]
theorem p8{p:Nat->Bool}{n k:Nat}(B:k<n)(hp:p k=false):dG (upd p k true) n=dG p n+1:=by
 induction n with
 |zero=>omega
 |succ n u=>
  unfold dG at*;simp only[bB];by_cases e:k=n
  .subst e
   have:bB (λj=>if upd p k true j=true then 1 else 0) k=bB (λj=>if p j=true then 1 else 0) k:=
    bD k λj z=>by rw[upd_ne _ _ (by omega)]
   rw[this];simp[upd_same,hp]
  .rw[u (by omega),upd_ne _ _ (by omega)];omega
theorem sN(p:Nat->Bool)(n k:Nat):dG p n<=dG (upd p k true) n:=by
 apply lJ;intro j _;by_cases e:j=k
 .subst e;rw[upd_same];simp;split<;>omega
 .rw[upd_ne _ _ e];exact Nat.le_refl _
def box(k:Nat):List C:=(List.range (k+1)).flatMap λs:Nat=>(List.range (k+1)).map λd:Nat=>(⟨(s:Int),(d:Int)⟩:C)
theorem um{a:C}(h:C.Nn a)(u:a.s<=k)(z:a.d<=k):a∈box k:=by
 obtain⟨B,F⟩:=h;simp only[box,List.mem_flatMap,List.mem_range,List.mem_map];exact⟨a.s.toNat,by omega,a.d.toNat,by omega,C.ext' (by simp;omega) (by simp;omega)⟩
theorem Dk(k:Nat):(box k).length=(k+1)*(k+1):=by
 unfold box;simp[List.length_flatMap,List.map_const']
def rk(k:Nat)(c:C):Nat:=((box k).filter λa=>decide (C.lt a c)).length
theorem vS(k:Nat)(c:C):rk k c<=(k+1)*(k+1):=by grind [rk,Dk,List.length_filter_le]
theorem filter_lt{α:Type}(p q:α->Bool)(l:List α)(h:∀a∈l,p a=true->q a=true)(x:α)(F:x∈l)(hp:p x=false)(L:q x=true):(l.filter p).length<(l.filter q).length:=by
 induction l with
 |nil=>simp at F
 |cons a l B=>
  have mono:(l.filter p).length<=(l.filter q).length:=by
   clear B F
   induction l with
   |nil=>simp
   |cons b l B=>
    have:=B λz u=>h z (by simp at u⊢;rcases u with e|e;exact .inl e;exact .inr (.inr e));have O:=h b (by simp);simp only[List.filter_cons];cases I:p b<;>cases J:q b<;>simp_all<;>omega
  simp only[List.filter_cons];rcases List.mem_cons.1 F with e|e
  .subst e;rw[hp,L];simp;omega
  .have:=B (λz u=>h z (List.mem_cons_of_mem _ u)) e
   have M:=h a List.mem_cons_self;cases I:p a<;>cases J:q a<;>simp_all<;>omega
theorem vT{a b:C}(h:C.lt a b)(z:a∈box k):rk k a<rk k b:=by
 refine filter_lt _ _ _ (λx _ u=>?_) a z ?_ ?_
 .simp at u⊢;exact C.lt_trans u h
 .simp;exact C.lt_irrefl a
 .simp;exact h
structure iV (E:Nat->Nat->C->Prop) (from_ n:Nat) (c:Nat->C) (is:Nat->Bool) (todo:List Nat) (i at_:Nat) (pend:Nat->C->Prop):Prop where
 i0:is from_=true/\c from_=C.zero
 i1:∀b,is b=true->Walk E from_ b (c b)/\b<n
 i2:∀t∈todo,is t=true
 i3:∀a b e,is a=true->E a b e->a∈todo.drop i\/(a=at_/\pend b e)\/(is b=true/\C.le (c b) (C.add (c a) e))
 i4:∀b,is b=true->C.le (c b) ⟨0,dG is n⟩
namespace iV
variable {todo:List Nat}{from_ i k:Nat}{is:Nat->Bool}{c:Nat->C}{pend pend':Nat->C->Prop}
variable {E:Nat->Nat->C->Prop}
def BX:Nat:=512
def meas(n:Nat)(c:Nat->C)(is:Nat->Bool):Nat:=bB (λk=>if is k then rk BX (c k)else(BX+1)*(BX+1)+1) n
theorem OV(n:Nat)(c:Nat->C)(is:Nat->Bool):meas n c is<=n*((BX+1)*(BX+1)+1):=by
 rw[<-gU];apply lJ;intro k _;split
 .exact Nat.le_succ_of_le (vS _ _)
 .exact Nat.le_refl _
theorem start{from_ n:Nat}(h:from_<n):iV E from_ n (λ_=>C.zero) (upd (λ_=>false) from_ true) [from_] 0 0 (λ_ _=>False):=by
 have u:∀b,upd (λ_=>false) from_ true b=true->b=from_:=by
  intro b g;apply Classical.byContradiction;intro q;rw[upd_ne _ _ q]at g;cases g
 refine⟨⟨upd_same _ _ _,rfl⟩,λb g=>?_,λt z=>?_,λa b e B _=>?_,λb g=>?_⟩
 .rw[u b g];exact⟨.nil _,h⟩
 .simp at z;rw[z];exact upd_same _ _ _
 .left;rw[u a B];simp
 .apply C.aK<;>simp[C.zero]
theorem next{u n:Nat}{c:Nat->C}{is:Nat->Bool}{g:List Nat}{i k:Nat}(H:iV E u n c is g i k λ_ _=>False)(F:i<g.length):iV E u n c is g (i+1) g[i] (E g[i]) where
 i0:=H.i0
 i1:=H.i1
 i2:=H.i2
 i3:=λa b e B z=>by
  rcases H.i3 a b e B z with x|x|x
  .rw[List.drop_eq_getElem_cons F]at x
   rcases List.mem_cons.1 x with y|y
   .exact .inr (.inl ⟨y,y▸z⟩)
   .exact .inl y
  .exact x.2.elim
  .exact .inr (.inr x)
 i4:=H.i4
theorem keep{from_ n:Nat}(H:iV E from_ n c is todo i k pend){b:Nat}{e:C}
 (I:is b=true)(B:C.le (c b) (C.add (c k) e))(hp:∀g u,pend g u->pend' g u\/(g=b/\u=e)):iV E from_ n c is todo i k pend' where
 i0:=H.i0
 i1:=H.i1
 i2:=H.i2
 i3:=λa g u F J=>by
  rcases H.i3 a g u F J with x|x|x
  .exact .inl x
  .rcases hp _ _ x.2 with y|⟨y,z⟩
   .exact .inr (.inl ⟨x.1,y⟩)
   .rw[x.1,y,z];exact .inr (.inr ⟨I,B⟩)
  .exact .inr (.inr x)
 i4:=H.i4
theorem lower(T:∀a b c,E a b c->C.Nn c){from_ n:Nat}(H:iV E from_ n c is todo i k pend){b:Nat}{e:C}(hi:i<=todo.length)(R:is k=true)(he:E k b e)(I:b<n)(hn:n<=256)(S:e≠C.zero)(Q:C.le e ⟨0,1⟩)(B:is b=true->C.lt (C.add (c k) e) (c b))(hp:∀J M,pend J M->pend' J M\/(J=b/\M=e)):iV E from_ n (upd c b (C.add (c k) e)) (upd is b true) (todo++[b]) i k pend'/\meas n (upd c b (C.add (c k) e)) (upd is b true)<meas n c is:=by
 have ab:k≠b:=by
  intro q;subst q;exact C.lt_asymm (B R) (C.jK (T _ _ _ he) S)
 have hw:=(H.i1 k R).1.snoc he;have Z:=sN is n b
 have F:C.le (C.add (c k) e) ⟨0,dG (upd is b true) n⟩:=by
  cases O:is b with
  |true=>exact C.le_trans (C.le_of_lt (B O)) (C.le_trans (H.i4 b O) (C.aK (Int.le_refl _) (by simp only;omega)))
  |false=>
   rw[p8 I O];refine C.le_trans (C.add_le_add (H.i4 k R) Q) (C.le_of_eq (C.ext' ?_ ?_))<;>simp[C.add]
 have g:=hw.nn T;refine⟨⟨?_,?_,?_,?_,?_⟩,?_⟩
 .by_cases q:from_=b
  .exfalso
   have:=B (q▸H.i0.1);rw[<-q,H.i0.2]at this;exact C.yc g this
  .rw[upd_ne _ _ q,upd_ne _ _ q];exact H.i0
 .intro j L
  by_cases q:j=b
  .subst q;rw[upd_same];exact⟨hw,I⟩
  .rw[upd_ne _ _ q]at L⊢;exact H.i1 j L
 .intro t ht
  by_cases q:t=b
  .rw[q,upd_same]
  .rw[upd_ne _ _ q]
   rcases List.mem_append.1 ht with x|x
   .exact H.i2 t x
   .simp at x;exact absurd x q
 .intro a J M U P
  rw[List.drop_append,List.mem_append];by_cases q:a=b
  .left;right;rw[Nat.sub_eq_zero_of_le hi,q];simp
  .rw[upd_ne _ _ q]at U⊢
   rcases H.i3 a J M U P with x|x|x
   .exact .inl (.inl x)
   .rcases hp _ _ x.2 with y|⟨y,z⟩
    .exact .inr (.inl ⟨x.1,y⟩)
    .right;right;rw[y,z,x.1,upd_same,upd_same];exact⟨rfl,C.le_refl _⟩
   .right;right
    by_cases z:J=b
    .rw[z]at x⊢;rw[upd_same,upd_same];exact⟨rfl,C.le_trans (C.le_of_lt (B x.1)) x.2⟩
    .rw[upd_ne _ _ z,upd_ne _ _ z];exact x
 .intro j L
  by_cases q:j=b
  .subst q;rw[upd_same];exact F
  .rw[upd_ne _ _ q]at L⊢
   exact C.le_trans (H.i4 j L) (C.aK (Int.le_refl _) (by simp only;omega))
 .have u:C.add (c k) e∈box BX\/256<n:=by
   by_cases hn:256<n
   .exact .inr hn
   .left
    have hc:=iN (upd is b true) n;obtain⟨p1,p2⟩:=C.dZ g ⟨by simp,by simp⟩ F;simp only at p1 p2;exact um g (by unfold BX;omega) (by unfold BX;omega)
  have u:=u.resolve_right (by omega);apply qU
  .intro j L
   by_cases q:j=b
   .subst q;rw[upd_same,upd_same,if_pos rfl]
    split
    .rename_i z;exact Nat.le_of_lt (vT (B z) u)
    .exact Nat.le_succ_of_le (vS _ _)
   .rw[upd_ne _ _ q,upd_ne _ _ q];exact Nat.le_refl _
  .refine⟨b,I,?_⟩
   rw[upd_same,upd_same,if_pos rfl];split
   .rename_i z;exact vT (B z) u
   .exact Nat.lt_succ_of_le (vS _ _)
theorem fin{from_ n:Nat}(H:iV E from_ n c is todo i k λ_ _=>False)(B:todo.length<=i)(t:Nat):(is t=true->bP E from_ t (c t))/\(is t=false->∀d,¬Walk E from_ t d):=by
 have:=bP.Ja (E:=E) from_ (λj=>if is j then some (c j)else none) ⟨C.zero,by rw[H.i0.1,H.i0.2];rfl,C.le_refl _⟩
  (λb d h=>by
   cases u:is b with
   |true=>rw[u]at h;simp at h;rw[<-h];exact(H.i1 b u).1
   |false=>rw[u]at h;simp at h)
  (λa b d e h z=>by
   cases g:is a with
   |false=>rw[g]at h;simp at h
   |true=>
    rw[g]at h;simp at h;subst h;rcases H.i3 a b e g z with x|x|x
    .rw[List.drop_eq_nil_of_le B]at x;simp at x
    .exact x.2.elim
    .exact⟨c b,by rw[x.1];rfl,x.2⟩) t
 refine⟨λh=>this.1 _ (by rw[h];rfl),λh=>this.2 (by rw[h];rfl)⟩
end iV
end FR
namespace FR
namespace G
variable {g:G}{x y:Int}{d k:Nat}
def Ku(g:G)(d:Nat):Nat->Int->Int->Nat
 |0,_,_=>0
 |f+1,x,y=>if g.may x y d then Ku g d f (x+bu d) (y+aZ d)+1 else 0
def Fu(g:G)(d:Nat)(x y:Int):Nat:=Ku g d 17 x y
def run(g:G)(d:Nat)(x y:Int)(k:Nat):Prop:=∀j:Nat,j<k->g.may (x+j*bu d) (y+j*aZ d) d=true
theorem Cu(g:G)(d:Nat)(x y:Int):run g d x y 0:=λj u=>by omega
theorem Ct(h:run g d x y k)(u:g.may (x+k*bu d) (y+k*aZ d) d=true):run g d x y (k+1):=by
 intro j z;by_cases e:j=k
 .subst e;exact u
 .exact h j (by omega)
theorem ML(h:run g d x y (k+1)):run g d (x+bu d) (y+aZ d) k:=by
 intro j u;have:=h (j+1) (by omega);rwa[show x+((j+1:Nat):Int)*bu d=x+bu d+j*bu d by rw[Int.natCast_add,Int.add_mul];omega,show y+((j+1:Nat):Int)*aZ d=y+aZ d+j*aZ d by rw[Int.natCast_add,Int.add_mul];omega]at this
theorem A7:∀{f:Nat}{x y:Int}{k:Nat},k<f->run g d x y k->g.may (x+k*bu d) (y+k*aZ d) d=false->Ku g d f x y=k
 |0,_,_,_,h,_,_=>by omega
 |f+1,x,y,0,_,_,h=>by unfold Ku;rw[if_neg];simpa using h
 |f+1,x,y,k+1,B,u,h=>by
  unfold Ku;have z:=u 0 (by omega);rw[if_pos (by simpa using z),A7 (k:=k) (by omega) (ML u)];rwa[show x+((k+1:Nat):Int)*bu d=x+bu d+k*bu d by rw[Int.natCast_add,Int.add_mul];omega,show y+((k+1:Nat):Int)*aZ d=y+aZ d+k*aZ d by rw[Int.natCast_add,Int.add_mul];omega]at h
theorem Qc(d:Nat):bu d=1\/bu d= -1\/(bu d=0/\(aZ d=1\/aZ d= -1)):=by
 rcases Nat.lt_or_ge d 8 with h|h
 .rcases(show d=0\/d=1\/d=2\/d=3\/d=4\/d=5\/d=6\/d=7 by omega)with rfl|rfl|rfl|rfl|rfl|rfl|rfl|rfl<;>decide
 .obtain⟨k,rfl⟩:=Nat.exists_eq_add_of_le h
  right;left;unfold bu;split<;>first|omega|rfl
theorem KL(d:Nat):-1<=bu d/\bu d<=1/\-1<=aZ d/\aZ d<=1:=by
 refine⟨?_,?_,?_,?_⟩<;>(first|unfold bu|unfold aZ)<;>split<;>decide
theorem OL(B:g.ok)(F:0<=x/\x<g.w/\0<=y/\y<g.h)(u:0<=x+k*bu d/\x+k*bu d<g.w/\0<=y+k*aZ d/\y+k*aZ d<g.h):k<=15:=by
 obtain⟨_,I,_,J⟩:=B;rcases Qc d with e|e|⟨e,z|z⟩
 .rw[e]at u;omega
 .rw[e]at u;omega
 .rw[e,z]at u;omega
 .rw[e,z]at u;omega
theorem zM(h:g.may x y d=true):(0<=x/\x<g.w/\0<=y/\y<g.h)/\(0<=x+bu d/\x+bu d<g.w/\0<=y+aZ d/\y+aZ d<g.h):=
 ⟨(rX.1 (fu.1 h).1).1,(rX.1 (fu.1 h).2.1).1⟩
theorem vW(B:g.ok)(h:run g d x y k):k<=15:=by
 rcases Nat.eq_zero_or_pos k with rfl|F
 .omega
 .obtain⟨j,rfl⟩:∃j,k=j+1:=⟨k-1,by omega⟩
  have u:=(zM (h 0 (by omega))).1;have z:=(zM (h j (by omega))).2;simp only[Int.ofNat_eq_natCast,Int.natCast_zero,Int.zero_mul,Int.add_zero]at u;rw[show x+(j:Int)*bu d+bu d=x+((j+1:Nat):Int)*bu d by rw[Int.natCast_add,Int.add_mul];omega,show y+(j:Int)*aZ d+aZ d=y+((j+1:Nat):Int)*aZ d by rw[Int.natCast_add,Int.add_mul];omega]at z;exact OL B u z
theorem Kv(z:g.ok)(h:run g d x y k)(u:g.may (x+k*bu d) (y+k*aZ d) d=false):Fu g d x y=k:=
 A7 (by have:=vW z h;omega) h u
theorem A8(I:g.ok)(d:Nat)(x y:Int):run g d x y (Fu g d x y)/\g.may (x+(Fu g d x y:Nat)*bu d) (y+(Fu g d x y:Nat)*aZ d) d=false:=by
 have z:∀f k:Nat,16<=f+k->run g d x y k->∃m,run g d x y m/\g.may (x+(m:Nat)*bu d) (y+(m:Nat)*aZ d) d=false:=by
  intro f
  induction f with
  |zero=>intro k L u;exact absurd (vW I u) (by omega)
  |succ f M=>
   intro k L u;cases J:g.may (x+k*bu d) (y+k*aZ d) d with
   |false=>exact⟨k,u,J⟩
   |true=>exact M (k+1) (by omega) (Ct u J)
 obtain⟨m,B,F⟩:=z 16 0 (by omega) (Cu _ _ _ _);rw[Kv I B F];exact⟨B,F⟩
theorem Dp{g g':G}(F:g.ok)(Q:g'.w=g.w)(P:g'.h=g.h){x y zx zy:Int}(B:∀u v:Int,¬(u=zx/\v=zy)->g'.op u v=g.op u v)(ab:Fu g' d x y≠Fu g d x y):∃k:Nat,k<=15/\(0<=x+k*bu d/\x+k*bu d<g.w/\0<=y+k*aZ d/\y+k*aZ d<g.h)/\zx-1<=x+k*bu d/\x+k*bu d<=zx+1/\zy-1<=y+k*aZ d/\y+k*aZ d<=zy+1:=by
 have z:g'.ok:=by unfold G.ok at*;rw[Q,P];exact F
 -- the first place at which the two differ
 have L:∃k:Nat,k<=15/\g'.may (x+k*bu d) (y+k*aZ d) d≠g.may (x+k*bu d) (y+k*aZ d) d:=by
  obtain⟨R,m1⟩:=A8 F d x y;obtain⟨S,m2⟩:=A8 z d x y;rcases Nat.lt_or_ge (Fu g' d x y) (Fu g d x y)with h|h
  .exact⟨Fu g' d x y,by have:=vW z S;omega,by rw[m2,R _ h];simp⟩
  .exact⟨Fu g d x y,by have:=vW F R;omega,by rw[m1,S _ (by omega)];simp⟩
 obtain⟨k,hk,J⟩:=L;refine⟨k,hk,?_⟩;generalize x+(k:Int)*bu d=u at*;generalize y+(k:Int)*aZ d=v at*
 have I:0<=u/\u<g.w/\0<=v/\v<g.h:=by
  cases M:g.may u v d with
  |true=>exact(zM M).1
  |false=>
   cases O:g'.may u v d with
   |true=>have:=(zM O).1;rw[Q,P]at this;exact this
   |false=>rw[M,O]at J;exact absurd rfl J
 refine⟨I,?_⟩;have hx:=KL d;by_cases T:u=zx/\v=zy
 .omega
 by_cases U:u+bu d=zx/\v+aZ d=zy
 .omega
 by_cases c3:u+bu d=zx/\v=zy
 .omega
 by_cases Z:u=zx/\v+aZ d=zy
 .omega
 exfalso;apply J;unfold may;rw[B _ _ T,B _ _ U,B _ _ c3,B _ _ Z]
end G
end FR
namespace FR
structure It where
 c:C
 id:Int
deriving DecidableEq
namespace It
variable {a b:It}
def lt(a b:It):Prop:=C.lt a.c b.c\/(a.c=b.c/\a.id<b.id)
def le(a b:It):Prop:=¬lt b a
theorem lt_irrefl(a:It):¬lt a a:=λh=>by rcases h with h|⟨_,h⟩;exact C.lt_irrefl _ h;omega
theorem lt_trans{a b c:It}(h:lt a b)(k:lt b c):lt a c:=by
 rcases h with h|⟨u,B⟩
 .rcases k with k|⟨g,z⟩
  .exact .inl (C.lt_trans h k)
  .exact .inl (g▸h)
 .rcases k with k|⟨g,z⟩
  .exact .inl (u▸k)
  .exact .inr ⟨u.trans g,by omega⟩
theorem jR(a b:It):lt a b\/a=b\/lt b a:=by
 rcases C.jR a.c b.c with h|h|h
 .exact .inl (.inl h)
 .rcases Int.lt_trichotomy a.id b.id with k|k|k
  .exact .inl (.inr ⟨h,k⟩)
  .right;left;cases a;cases b;simp only at h k;subst h;subst k;rfl
  .exact .inr (.inr (.inr ⟨h.symm,k⟩))
 .exact .inr (.inr (.inl h))
theorem le_refl(a:It):le a a:=lt_irrefl a
theorem le_of_lt(h:lt a b):le a b:=λk=>lt_irrefl a (lt_trans h k)
theorem le_iff:le a b↔lt a b\/a=b:=by
 constructor
 .intro h
  rcases jR a b with k|k|k
  .exact .inl k
  .exact .inr k
  .exact absurd k h
 .grind [le_of_lt,le_refl]
theorem le_trans{a b c:It}(h:le a b)(k:le b c):le a c:=by
 grind [le_iff,le_of_lt,lt_trans]
theorem le_total(a b:It):le a b\/le b a:=by
 grind [jR,le_of_lt,le_refl]
end It
variable {i k:Nat}{g:Nat->It}
def par(j:Nat):Nat:=(j-1)/2
def og(n:Nat)(g:Nat->It):Prop:=∀j,j<n->0<j->It.le (g (par j)) (g j)
def jO(n:Nat)(g:Nat->It)(i:Nat):Prop:=(∀j,j<n->0<j->j≠i->It.le (g (par j)) (g j))/\(∀j,j<n->0<j->par j=i->0<i->It.le (g (par i)) (g j))
def jN(n:Nat)(g:Nat->It)(i:Nat):Prop:=(∀j,j<n->0<j->par j≠i->It.le (g (par j)) (g j))/\(∀j,j<n->0<j->par j=i->0<i->It.le (g (par i)) (g j))
def swp(g:Nat->It)(i k:Nat):Nat->It:=upd (upd g i (g k)) k (g i)
theorem dM(g:Nat->It)(i k j:Nat):swp g i k j=if j=k then g i else if j=i then g k else g j:=rfl
theorem ji{j:Nat}(h:0<j):par j<j:=by unfold par;omega
theorem M7{n:Nat}(h:jO n g i)(u:i=0\/¬It.lt (g i) (g (par i))):og n g:=by
 intro j B z;by_cases e:j=i
 .subst e
  rcases u with u|u
  .omega
  .exact u
 .exact h.1 j B z e
theorem PM{n:Nat}(S:i<n)(O:0<i)(h:jO n g i)(P:It.lt (g i) (g (par i))):jO n (swp g i (par i)) (par i):=by
 have hp:=ji O;constructor
 .intro j z B J
  rw[dM,dM];rw[if_neg J];by_cases u:j=i
  .subst u
   rw[if_pos rfl,if_pos rfl];exact It.le_of_lt P
  .rw[if_neg u]
   by_cases F:par j=par i
   .rw[if_pos F]
    have:=h.1 j z B u;rw[F]at this;exact It.le_trans (It.le_of_lt P) this
   .rw[if_neg F]
    by_cases I:par j=i
    .rw[if_pos I];exact h.2 j z B I O
    .rw[if_neg I];exact h.1 j z B u
 .intro j z B L hp0
  rw[dM,dM];have R:=ji hp0;rw[if_neg (by omega),if_neg (by omega)];have M:It.le (g (par (par i))) (g (par i)):=h.1 (par i) (by omega) hp0 (by omega);by_cases Q:j=par i
  .grind
  .rw[if_neg Q]
   by_cases u:j=i
   .grind
   .rw[if_neg u]
    have:=h.1 j z B u;rw[L]at this;exact It.le_trans M this
theorem oZ{n:Nat}(h:jN n g i)(B:∀j,j<n->0<j->par j=i->It.le (g i) (g j)):og n g:=by
 intro j z u;by_cases e:par j=i
 .grind
 .exact h.1 j z u e
theorem kV{n:Nat}(Q:k<n)(P:0<k)(u:par k=i)(h:jN n g i)(R:It.lt (g k) (g i))(S:∀j,j<n->0<j->par j=i->It.le (g k) (g j)):jN n (swp g i k) k:=by
 have hp:=ji P;constructor
 .intro j F z I
  rw[dM,dM,if_neg I];by_cases L:j=k
  .subst L
   rw[if_pos rfl,if_pos u];exact It.le_of_lt R
  .rw[if_neg L]
   by_cases M:par j=i
   .grind
   .rw[if_neg M]
    by_cases B:j=i
    .rw[if_pos B]
     subst B;exact h.2 k Q P u z
    .rw[if_neg B];exact h.1 j F z M
 .intro j F z J _
  have O:=ji z;rw[dM,dM,u,if_neg (by omega),if_pos rfl,if_neg (by omega),if_neg (by omega)];have:=h.1 j F z (by omega);rwa[J]at this
theorem Ld{n:Nat}(h:og n g):∀k,k<n->It.le (g 0) (g k):=by
 intro k
 induction k using Nat.strongRecOn with
 |_ k ih=>
  intro z;rcases Nat.eq_zero_or_pos k with rfl|u
  .exact It.le_refl _
  .exact It.le_trans (ih (par k) (ji u) (by have:=ji u;omega)) (h k z u)
theorem Ow{n:Nat}{y:It}(h:og n g):jN n (upd g 0 y) 0:=by
 constructor
 .intro j z B u
  rw[upd_ne _ _ u,upd_ne _ _ (by omega)];exact h j z B
 .grind
theorem IA{n:Nat}{x:It}(h:og n g):jO (n+1) (upd g n x) n:=by
 constructor
 .intro j z u B
  have:=ji u;rw[upd_ne _ _ (by omega),upd_ne _ _ (by omega)];exact h j (by omega) u
 .intro j z u hp _
  have:=ji u;omega
theorem Iz{n:Nat}{x:It}(I:i<n)(h:og n g)(J:It.le x (g i)):jO n (upd g i x) i:=by
 constructor
 .intro j B z F
  rw[upd_ne _ _ F];by_cases e:par j=i
  .rw[e,upd_same];exact It.le_trans J (by have:=h j B z;rwa[e]at this)
  .rw[upd_ne _ _ e];exact h j B z
 .intro j B z hp u
  have:=ji z;have:=ji u;rw[upd_ne _ _ (by omega),upd_ne _ _ (by omega)];exact It.le_trans (h i I u) (by have:=h j B z;rwa[hp]at this)
def sF(n:Nat)(g:Nat->It):Prop:=∀j k,j<n->k<n->(g j).id=(g k).id->j=k
def Holds(n:Nat)(g:Nat->It)(hp:Int->Option C):Prop:=∀id c,hp id=some c↔∃k,k<n/\g k=⟨c,id⟩
theorem PK{n:Nat}(B:i<n)(I:k<n)(x:It):(∃j,j<n/\swp g i k j=x)↔∃j,j<n/\g j=x:=by
 constructor
 .grind [dM]
 .rintro⟨j,F,e⟩
  by_cases u:j=i
  .refine⟨k,I,?_⟩;rw[dM,if_pos rfl,<-u];exact e
  .by_cases z:j=k
   .refine⟨i,B,?_⟩
    grind [dM]
   .exact⟨j,F,by rw[dM,if_neg z,if_neg u];exact e⟩
theorem GH{n:Nat}(B:i<n)(F:k<n)(h:sF n g):sF n (swp g i k):=by
 intro a b L M e;rw[dM,dM]at e;by_cases I:a=k<;>by_cases J:b=k
 .omega
 .rw[if_pos I,if_neg J]at e
  by_cases z:b=i
  .rw[if_pos z]at e;have:=h i k B F e;omega
  .rw[if_neg z]at e;have:=h i b B M e;omega
 .rw[if_neg I,if_pos J]at e
  by_cases u:a=i
  .rw[if_pos u]at e;have:=h k i F B e;omega
  .rw[if_neg u]at e;have:=h a i L B e;omega
 .rw[if_neg I,if_neg J]at e
  by_cases u:a=i<;>by_cases z:b=i
  .omega
  .rw[if_pos u,if_neg z]at e;have:=h k b F M e;omega
  .rw[if_neg u,if_pos z]at e;have:=h a k L F e;omega
  .rw[if_neg u,if_neg z]at e;exact h a b L M e
end FR
namespace FR
theorem Walk.inv{E:Nat->Nat->C->Prop}{a b:Nat}{c:C}(h:Walk E a b c):(b=a/\c=C.zero)\/∃m d e,Walk E a m d/\E m b e/\c=C.add d e:=by
 cases h with
 |nil=>exact .inl ⟨rfl,rfl⟩
 |snoc h e=>exact .inr ⟨_,_,_,h,e,rfl⟩
theorem Walk.Uc{E:Nat->Nat->C->Prop}{a b:Nat}{c:C}(h:Walk E a b c):(b=a/\c=C.zero)\/∃m d e,E a m e/\Walk E m b d/\c=C.add e d:=by
 induction h with
 |nil=>exact .inl ⟨rfl,rfl⟩
 |snoc h e z=>
  rcases z with⟨rfl,rfl⟩|⟨m,d,g,k,u,rfl⟩
  .exact .inr ⟨_,C.zero,_,e,.nil _,by rw[C.zero_add,C.add_zero]⟩
  .exact .inr ⟨m,_,g,k,u.snoc e,by rw[C.add_assoc]⟩
namespace G
theorem qb{d:Nat}(h:d<8):(aW d=⟨1,0⟩/\((bu d=1/\aZ d=0)\/(bu d= -1/\aZ d=0)\/(bu d=0/\aZ d=1)\/(bu d=0/\aZ d= -1)))\/(aW d=⟨0,1⟩/\(bu d=1\/bu d= -1)/\(aZ d=1\/aZ d= -1)):=by
 have:d=0\/d=1\/d=2\/d=3\/d=4\/d=5\/d=6\/d=7:=by omega
 rcases this with rfl|rfl|rfl|rfl|rfl|rfl|rfl|rfl<;>decide
theorem qX{g:G}{a b:Nat}{c:C}(h:Walk g.E a b c):0<=c.s/\0<=c.d/\(g.X b:Int)-g.X a<=c.s+c.d/\(g.X a:Int)-g.X b<=c.s+c.d/\(g.Y b:Int)-g.Y a<=c.s+c.d/\(g.Y a:Int)-g.Y b<=c.s+c.d/\(g.X b:Int)-g.X a+((g.Y b:Int)-g.Y a)<=c.s+2*c.d/\(g.X b:Int)-g.X a-((g.Y b:Int)-g.Y a)<=c.s+2*c.d/\(g.X a:Int)-g.X b+((g.Y b:Int)-g.Y a)<=c.s+2*c.d/\(g.X a:Int)-g.X b-((g.Y b:Int)-g.Y a)<=c.s+2*c.d:=by
 induction h with
 |nil=>simp[C.zero]
 |snoc _ e ih=>
  obtain⟨_,d,u,z,rfl,rfl⟩:=e;obtain⟨_,B,F⟩:=df z;rcases qb u with⟨e,k⟩|⟨e,I,J⟩
  .rw[e];simp only[C.add];omega
  .rw[e];simp only[C.add];omega
end G
variable {ax ay bx by_:Int}{I J:Nat}
structure GK (I J:Nat) (ax ay bx by_:Int):Prop where
 ha:0<I->(ax=1\/ax= -1)/\(ay=1\/ay= -1)
 hb:0<J->(bx=1/\by_=0)\/(bx= -1/\by_=0)\/(bx=0/\by_=1)\/(bx=0/\by_= -1)
 hab:0<I->0<J->(bx=ax/\by_=0)\/(bx=0/\by_=ay)
theorem GK.cases(h:GK I J ax ay bx by_):(I=0/\J=0)\/(I=0/\((bx=1/\by_=0)\/(bx= -1/\by_=0)\/(bx=0/\by_=1)\/(bx=0/\by_= -1)))\/(J=0/\((ax=1/\ay=1)\/(ax=1/\ay= -1)\/(ax= -1/\ay=1)\/(ax= -1/\ay= -1)))\/((ax=1/\ay=1/\bx=1/\by_=0)\/(ax=1/\ay= -1/\bx=1/\by_=0)\/(ax= -1/\ay=1/\bx= -1/\by_=0)\/(ax= -1/\ay= -1/\bx= -1/\by_=0)\/(ax=1/\ay=1/\bx=0/\by_=1)\/(ax=1/\ay= -1/\bx=0/\by_= -1)\/(ax= -1/\ay=1/\bx=0/\by_=1)\/(ax= -1/\ay= -1/\bx=0/\by_= -1)):=by
 obtain⟨L,M,k⟩:=h;by_cases u:I=0
 .by_cases g:J=0
  .exact .inl ⟨u,g⟩
  .exact .inr (.inl ⟨u,M (by omega)⟩)
 .obtain⟨z,B⟩:=L (by omega)
  by_cases g:J=0
  .refine .inr (.inr (.inl ⟨g,?_⟩))
   rcases z with rfl|rfl<;>rcases B with rfl|rfl<;>simp
  .have F:=k (by omega) (by omega)
   refine .inr (.inr (.inr ?_));rcases z with rfl|rfl<;>rcases B with rfl|rfl<;>rcases F with⟨rfl,rfl⟩|⟨rfl,rfl⟩<;>simp
theorem xV(H:GK I J ax ay bx by_){i j:Int}(F:0<=i)(L:0<=j)(R:i<=I)(S:j<=J){px py:Int}(u:px=i*ax+j*bx)(z:py=i*ay+j*by_){sx sy s d:Int}(k:(s=j-1/\d=i/\((sx=1/\sy=0)\/(sx= -1/\sy=0)\/(sx=0/\sy=1)\/(sx=0/\sy= -1)))\/(s=j/\d=i-1/\(sx=1\/sx= -1)/\(sy=1\/sy= -1)))(P:0<=s)(Q:0<=d)(T:px-sx<=s+d)(U:-(px-sx)<=s+d)(Z:py-sy<=s+d)(y2:-(py-sy)<=s+d)(z1:px-sx+(py-sy)<=s+2*d)(z2:px-sx-(py-sy)<=s+2*d)(z3:-(px-sx)+(py-sy)<=s+2*d)(z4:-(px-sx)-(py-sy)<=s+2*d):(s=j-1/\d=i/\1<=j/\sx=bx/\sy=by_)\/(s=j/\d=i-1/\1<=i/\sx=ax/\sy=ay):=by
 rcases H.cases with⟨M,O⟩|⟨e,h⟩|⟨e,h⟩|h
 .exfalso;omega
 .have B:i=0:=by omega
  subst B;rw[Int.zero_mul,Int.zero_add]at u z;rcases k with⟨rfl,rfl,g⟩|⟨rfl,rfl,g⟩
  .left
   refine⟨rfl,rfl,by omega,?_⟩;rcases h with⟨rfl,rfl⟩|⟨rfl,rfl⟩|⟨rfl,rfl⟩|⟨rfl,rfl⟩<;>rcases g with⟨rfl,rfl⟩|⟨rfl,rfl⟩|⟨rfl,rfl⟩|⟨rfl,rfl⟩<;>first|exact⟨rfl,rfl⟩|(exfalso;omega)
  .exfalso;omega
 .have B:j=0:=by omega
  subst B;rw[Int.zero_mul,Int.add_zero]at u z;rcases k with⟨rfl,rfl,g⟩|⟨rfl,rfl,g⟩
  .exfalso;omega
  .right
   refine⟨rfl,rfl,by omega,?_⟩;rcases h with⟨rfl,rfl⟩|⟨rfl,rfl⟩|⟨rfl,rfl⟩|⟨rfl,rfl⟩<;>rcases g with⟨rfl|rfl,rfl|rfl⟩<;>first|exact⟨rfl,rfl⟩|(exfalso;omega)
 .rcases k with⟨rfl,rfl,g⟩|⟨rfl,rfl,g⟩
  .left
   refine⟨rfl,rfl,by omega,?_⟩
   rcases h with⟨rfl,rfl,rfl,rfl⟩|⟨rfl,rfl,rfl,rfl⟩|⟨rfl,rfl,rfl,rfl⟩|⟨rfl,rfl,rfl,rfl⟩|⟨rfl,rfl,rfl,rfl⟩|⟨rfl,rfl,rfl,rfl⟩|⟨rfl,rfl,rfl,rfl⟩|⟨rfl,rfl,rfl,rfl⟩<;>
    rcases g with⟨rfl,rfl⟩|⟨rfl,rfl⟩|⟨rfl,rfl⟩|⟨rfl,rfl⟩<;>first|exact⟨rfl,rfl⟩|(exfalso;omega)
  .right
   refine⟨rfl,rfl,by omega,?_⟩
   rcases h with⟨rfl,rfl,rfl,rfl⟩|⟨rfl,rfl,rfl,rfl⟩|⟨rfl,rfl,rfl,rfl⟩|⟨rfl,rfl,rfl,rfl⟩|⟨rfl,rfl,rfl,rfl⟩|⟨rfl,rfl,rfl,rfl⟩|⟨rfl,rfl,rfl,rfl⟩|⟨rfl,rfl,rfl,rfl⟩<;>
    rcases g with⟨rfl|rfl,rfl|rfl⟩<;>first|exact⟨rfl,rfl⟩|(exfalso;omega)
theorem I1(H:GK I J ax ay bx by_){px py:Int}{s d u v:Int}(hs:s+u=J)(hd:d+v=I)(h0:0<=s)(h1:0<=d)(h2:0<=u)(h3:0<=v){g k:Int}(F:g=I*ax+J*bx)(L:k=I*ay+J*by_)(x1:px<=s+d)(x2:-px<=s+d)(y1:py<=s+d)(y2:-py<=s+d)(z1:px+py<=s+2*d)(z2:px-py<=s+2*d)(z3:-px+py<=s+2*d)(z4:-px-py<=s+2*d)(M:g-px<=u+v)(O:-(g-px)<=u+v)(P:k-py<=u+v)(Q:-(k-py)<=u+v)(R:g-px+(k-py)<=u+2*v)(S:g-px-(k-py)<=u+2*v)(T:-(g-px)+(k-py)<=u+2*v)(U:-(g-px)-(k-py)<=u+2*v):px=d*ax+s*bx/\py=d*ay+s*by_:=by
 rcases H.cases with⟨Z,e2⟩|⟨e,h⟩|⟨e,h⟩|h
 .have z:d=0:=by omega
  have B:s=0:=by omega
  subst z;subst B;simp only[Int.zero_mul];omega
 .have z:d=0:=by omega
  subst z;subst e;rcases h with⟨rfl,rfl⟩|⟨rfl,rfl⟩|⟨rfl,rfl⟩|⟨rfl,rfl⟩<;>simp only[Int.zero_mul]at* <;>omega
 .have z:s=0:=by omega
  subst z;subst e;rcases h with⟨rfl,rfl⟩|⟨rfl,rfl⟩|⟨rfl,rfl⟩|⟨rfl,rfl⟩<;>simp only[Int.zero_mul]at* <;>omega
 .rcases h with⟨rfl,rfl,rfl,rfl⟩|⟨rfl,rfl,rfl,rfl⟩|⟨rfl,rfl,rfl,rfl⟩|⟨rfl,rfl,rfl,rfl⟩|⟨rfl,rfl,rfl,rfl⟩|⟨rfl,rfl,rfl,rfl⟩|⟨rfl,rfl,rfl,rfl⟩|⟨rfl,rfl,rfl,rfl⟩<;>omega
def vX(n:Int):Int:=if n<0 then -1 else if 0<n then 1 else 0
theorem rZ(n:Int):(n<0/\vX n= -1)\/(n=0/\vX n=0)\/(0<n/\vX n=1):=by grind [vX]
def jQ(x y:Int):Nat:=
 if x=0/\y= -1 then 0 else if x=1/\y= -1 then 1 else if x=1/\y=0 then 2 else if x=1/\y=1 then 3
 else if x=0/\y=1 then 4 else if x= -1/\y=1 then 5 else if x= -1/\y=0 then 6 else if x= -1/\y= -1 then 7 else 0
theorem jE(x y:Int):jQ x y<8:=by grind [jQ]
theorem iT{d:Nat}(h:d<8):jQ (bu d) (aZ d)=d:=by
 have:d=0\/d=1\/d=2\/d=3\/d=4\/d=5\/d=6\/d=7:=by omega
 rcases this with rfl|rfl|rfl|rfl|rfl|rfl|rfl|rfl<;>decide
theorem yF{x y:Int}(g:x=1\/x= -1)(k:y=1\/y= -1):bu (jQ x y)=x/\aZ (jQ x y)=y/\aW (jQ x y)=⟨0,1⟩:=by grind [jQ,bu,aZ,aW]
theorem wG{x y:Int}(h:(x=1/\y=0)\/(x= -1/\y=0)\/(x=0/\y=1)\/(x=0/\y= -1)):bu (jQ x y)=x/\aZ (jQ x y)=y/\aW (jQ x y)=⟨1,0⟩:=by grind [jQ,bu,aZ,aW]
namespace G
variable {i j v:Nat}
variable (g:G) (a b:Nat)
def DT:Int:=(g.X b:Int)-g.X a
def DU:Int:=(g.Y b:Int)-g.Y a
def fI:Nat:=min (g.DT a b).natAbs (g.DU a b).natAbs
def fJ:Nat:=max (g.DT a b).natAbs (g.DU a b).natAbs-min (g.DT a b).natAbs (g.DU a b).natAbs
def FJ:Int:=vX (g.DT a b)
def FK:Int:=vX (g.DU a b)
def FL:Int:=if(g.DU a b).natAbs<=(g.DT a b).natAbs then vX (g.DT a b)else 0
def FN:Int:=if(g.DU a b).natAbs<=(g.DT a b).natAbs then 0 else vX (g.DU a b)
def qh:Nat:=jQ (g.FJ a b) (g.FK a b)
def fK:Nat:=jQ (g.FL a b) (g.FN a b)
def fx(i j:Nat):Int:=g.X a+i*g.FJ a b+j*g.FL a b
def fy(i j:Nat):Int:=g.Y a+i*g.FK a b+j*g.FN a b
def bE(i j:Nat):Nat:=g.cell (g.fx a b i j).toNat (g.fy a b i j).toNat
theorem uU:GK (g.fI a b) (g.fJ a b) (g.FJ a b) (g.FK a b) (g.FL a b) (g.FN a b):=by grind [fI,fJ,FJ,FK,FL,FN,rZ,vX,GK]
theorem lF:g.bV a b=⟨g.fJ a b,g.fI a b⟩:=by grind [bV,dh,fI,fJ,DT,DU]
theorem KR:g.DT a b=g.fI a b*g.FJ a b+g.fJ a b*g.FL a b/\g.DU a b=g.fI a b*g.FK a b+g.fJ a b*g.FN a b:=by grind [fI,fJ,FJ,FK,FL,FN,rZ,vX]
variable {g a b}
theorem Oq(k:g.ok)(L:b<g.n)(F:a<g.n)(U:i<=g.fI a b)(Z:j<=g.fJ a b):0<=g.fx a b i j/\g.fx a b i j<g.w/\0<=g.fy a b i j/\g.fy a b i j<g.h:=by
 have Q:=jw k a;have R:=jw k b;have S:=iM F;have T:=iM L;obtain⟨z,B⟩:=g.KR a b;have H:=g.uU a b;unfold fx fy;unfold DT at z;unfold DU at B;generalize g.FJ a b=M at*;generalize g.FK a b=O at*;generalize g.FL a b=P at*;generalize g.FN a b=u at*;generalize g.fI a b=I at*;generalize g.fJ a b=J at*;rcases H.cases with⟨q1,q2⟩|⟨e,h⟩|⟨e,h⟩|h
 .have:i=0:=by omega
  have:j=0:=by omega
  subst i;subst j;simp only[Int.natCast_zero,Int.zero_mul];omega
 .have:i=0:=by omega
  subst i;subst e;rcases h with⟨rfl,rfl⟩|⟨rfl,rfl⟩|⟨rfl,rfl⟩|⟨rfl,rfl⟩<;>simp only[Int.natCast_zero,Int.zero_mul]at* <;>omega
 .have:j=0:=by omega
  subst j;subst e;rcases h with⟨rfl,rfl⟩|⟨rfl,rfl⟩|⟨rfl,rfl⟩|⟨rfl,rfl⟩<;>simp only[Int.natCast_zero,Int.zero_mul]at* <;>omega
 .rcases h with⟨rfl,rfl,rfl,rfl⟩|⟨rfl,rfl,rfl,rfl⟩|⟨rfl,rfl,rfl,rfl⟩|⟨rfl,rfl,rfl,rfl⟩|⟨rfl,rfl,rfl,rfl⟩|⟨rfl,rfl,rfl,rfl⟩|⟨rfl,rfl,rfl,rfl⟩|⟨rfl,rfl,rfl,rfl⟩<;>omega
theorem iq(z:g.ok)(u:b<g.n)(k:a<g.n)(B:i<=g.fI a b)(F:j<=g.fJ a b):g.bE a b i j<g.n/\(g.X (g.bE a b i j):Int)=g.fx a b i j/\(g.Y (g.bE a b i j):Int)=g.fy a b i j:=by
 obtain⟨I,J,L,M⟩:=Oq z u k B F;unfold bE;rw[oN (by omega),oO (by omega)];exact⟨mY (by omega) (by omega),by omega,by omega⟩
theorem il(z:g.ok)(u:b<g.n)(k:a<g.n)(B:i<=g.fI a b)(F:j<=g.fJ a b)(L:(g.X v:Int)=g.fx a b i j)(M:(g.Y v:Int)=g.fy a b i j):v=g.bE a b i j:=by
 obtain⟨_,I,J⟩:=iq z u k B F;rw[<-fP g v,<-fP g (g.bE a b i j)];rw[show g.X v=g.X (g.bE a b i j)by omega,show g.Y v=g.Y (g.bE a b i j)by omega]
theorem kZ:g.bE a b 0 0=a:=by grind [bE,fx,fy,fP]
theorem rF(F:g.ok)(B:b<g.n)(z:a<g.n):g.bE a b (g.fI a b) (g.fJ a b)=b:=by
 obtain⟨k,u⟩:=g.KR a b;refine(il F B z (Nat.le_refl _) (Nat.le_refl _) ?_ ?_).symm
 .unfold fx;unfold DT at k;omega
 .unfold fy;unfold DU at u;omega
def On(g:G)(a b i j:Nat):Prop:=Walk g.E a (g.bE a b i j) ⟨j,i⟩
def jX(g:G)(a b i j:Nat):Prop:=Walk g.E (g.bE a b i j) b ⟨(g.fJ a b:Int)-j,(g.fI a b:Int)-i⟩
theorem Bj(h:0<g.fI a b):bu (g.qh a b)=g.FJ a b/\aZ (g.qh a b)=g.FK a b/\aW (g.qh a b)=⟨0,1⟩:=by
 obtain⟨k,u⟩:=(g.uU a b).ha h;exact yF k u
theorem Bo(h:0<g.fJ a b):bu (g.fK a b)=g.FL a b/\aZ (g.fK a b)=g.FN a b/\aW (g.fK a b)=⟨1,0⟩:=
 wG ((g.uU a b).hb h)
theorem rJ(i j:Nat):g.fx a b (i+1) j=g.fx a b i j+g.FJ a b/\g.fy a b (i+1) j=g.fy a b i j+g.FK a b:=by
 unfold fx fy;rw[show((i+1:Nat):Int)=i+1 by omega,Int.add_mul,Int.add_mul,Int.one_mul,Int.one_mul];omega
theorem rM(i j:Nat):g.fx a b i (j+1)=g.fx a b i j+g.FL a b/\g.fy a b i (j+1)=g.fy a b i j+g.FN a b:=by
 unfold fx fy;rw[show((j+1:Nat):Int)=j+1 by omega,Int.add_mul,Int.add_mul,Int.one_mul,Int.one_mul];omega
theorem DK(B:g.ok)(z:b<g.n)(u:a<g.n)(F:i<g.fI a b)(I:j<=g.fJ a b)(J:g.may (g.fx a b i j) (g.fy a b i j) (g.qh a b)=true):g.E (g.bE a b i j) (g.bE a b (i+1) j) ⟨0,1⟩:=by
 obtain⟨L,M,O⟩:=iq B z u (Nat.le_of_lt F) I;obtain⟨Q,R,P⟩:=Bj (show 0<g.fI a b by omega);have k:g.dN (g.bE a b i j) (g.qh a b)=true:=by unfold dN;rw[M,O];exact J
 obtain⟨_,S,T⟩:=df k;obtain⟨u1,u2⟩:=rJ (g:=g) (a:=a) (b:=b) i j;refine⟨L,g.qh a b,jE _ _,k,?_,P.symm⟩;exact(il B z u (i:=i+1) F I (by omega) (by omega)).symm
theorem DL(B:g.ok)(z:b<g.n)(u:a<g.n)(F:i<=g.fI a b)(I:j<g.fJ a b)(J:g.may (g.fx a b i j) (g.fy a b i j) (g.fK a b)=true):g.E (g.bE a b i j) (g.bE a b i (j+1)) ⟨1,0⟩:=by
 obtain⟨L,M,O⟩:=iq B z u F (Nat.le_of_lt I);obtain⟨Q,R,P⟩:=Bo (show 0<g.fJ a b by omega);have k:g.dN (g.bE a b i j) (g.fK a b)=true:=by unfold dN;rw[M,O];exact J
 obtain⟨_,S,T⟩:=df k;obtain⟨u1,u2⟩:=rM (g:=g) (a:=a) (b:=b) i j;refine⟨L,g.fK a b,jE _ _,k,?_,P.symm⟩;exact(il B z u (j:=j+1) F I (by omega) (by omega)).symm
theorem Bf{u v d:Nat}(k:d<8)(z:g.dN u d=true)(B:v=g.to u d){x y:Int}(F:(g.X v:Int)=g.X u+x)(I:(g.Y v:Int)=g.Y u+y):d=jQ x y:=by
 subst B;obtain⟨_,J,L⟩:=df z;rw[show x=bu d by omega,show y=aZ d by omega];exact(iT k).symm
theorem rW(Q:g.ok)(P:b<g.n)(O:a<g.n)(Z:i<=g.fI a b)(hj:j<=g.fJ a b):g.On a b i j↔(i=0/\j=0)\/(∃k,i=k+1/\g.On a b k j/\g.may (g.fx a b k j) (g.fy a b k j) (g.qh a b)=true)\/(∃u,j=u+1/\g.On a b i u/\g.may (g.fx a b i u) (g.fy a b i u) (g.fK a b)=true):=by
 constructor
 .intro h
  rcases Walk.inv h with⟨M,F⟩|⟨m,c,e,M,F,h3⟩
  .left
   have I:=congrArg C.s F;have J:=congrArg C.d F;simp[C.zero]at I J;exact⟨J,I⟩
  .right
   have hE:=F;obtain⟨ab,d,hd,R,S,rfl⟩:=F;obtain⟨f0,f1,x1,x2,y1,y2,z1,z2,z3,z4⟩:=qX M;obtain⟨_,t1,t2⟩:=df R;obtain⟨q1,q2,q3⟩:=iq Q P O Z hj;have I:=congrArg C.s h3;have J:=congrArg C.d h3;simp only[C.add]at I J;rw[<-S,q2]at t1;rw[<-S,q3]at t2;have p1:g.fx a b i j-g.X a=i*g.FJ a b+j*g.FL a b:=by unfold fx;omega
   have p2:g.fy a b i j-g.Y a=i*g.FK a b+j*g.FN a b:=by unfold fy;omega
   have L:=xV (g.uU a b) (i:=i) (j:=j) (by omega) (by omega) (by omega) (by omega) p1 p2 (sx:=bu d) (sy:=aZ d) (s:=c.s) (d:=c.d)
    (by rcases qb hd with⟨k1,k2⟩|⟨k1,k2,k3⟩
        .left;rw[k1]at I J;refine⟨by simp only at I;omega,by simp only at J;omega,k2⟩
        .right;rw[k1]at I J;refine⟨by simp only at I;omega,by simp only at J;omega,k2,k3⟩)
    f0 f1 (by omega) (by omega) (by omega) (by omega) (by omega) (by omega) (by omega) (by omega)
   rcases L with⟨l1,l2,l3,l4,l5⟩|⟨l1,l2,l3,l4,l5⟩
   .right
    obtain⟨u,rfl⟩:∃u,j=u+1:=⟨j-1,by omega⟩;obtain⟨u1,u2⟩:=rM (g:=g) (a:=a) (b:=b) i u;have B:m=g.bE a b i u:=il Q P O Z (by omega) (by omega) (by omega);have z:d=g.fK a b:=by unfold fK;rw[<-l4,<-l5];exact(iT hd).symm
    refine⟨u,rfl,?_,?_⟩
    .unfold On;rw[<-B]
     have:c=⟨(u:Int),(i:Int)⟩:=C.ext' (by simp only;omega) (by simp only;omega);rw[<-this];exact M
    .rw[<-z];unfold dN at R
     obtain⟨_,T,U⟩:=iq Q P O Z (show u<=g.fJ a b by omega);rw[<-B]at T U;rw[<-T,<-U];exact R
   .left
    obtain⟨k,rfl⟩:∃k,i=k+1:=⟨i-1,by omega⟩;obtain⟨u1,u2⟩:=rJ (g:=g) (a:=a) (b:=b) k j;have B:m=g.bE a b k j:=il Q P O (by omega) hj (by omega) (by omega);have z:d=g.qh a b:=by unfold qh;rw[<-l4,<-l5];exact(iT hd).symm
    refine⟨k,rfl,?_,?_⟩
    .unfold On;rw[<-B]
     have:c=⟨(j:Int),(k:Int)⟩:=C.ext' (by simp only;omega) (by simp only;omega);rw[<-this];exact M
    .rw[<-z];unfold dN at R
     obtain⟨_,T,U⟩:=iq Q P O (show k<=g.fI a b by omega) hj;rw[<-B]at T U;rw[<-T,<-U];exact R
 .rintro(⟨rfl,rfl⟩|⟨k,rfl,M,F⟩|⟨u,rfl,M,F⟩)
  .unfold On;rw[kZ];exact .nil a
  .have:=Walk.snoc M (DK Q P O (by omega) hj F)
   unfold On;have e:C.add ⟨(j:Int),(k:Int)⟩ ⟨0,1⟩=⟨(j:Int),((k+1:Nat):Int)⟩:=C.ext' (by simp[C.add]) (by simp[C.add]);rwa[e]at this
  .have:=Walk.snoc M (DL Q P O Z (by omega) F)
   unfold On;have e:C.add ⟨(u:Int),(i:Int)⟩ ⟨1,0⟩=⟨((u+1:Nat):Int),(i:Int)⟩:=C.ext' (by simp[C.add]) (by simp[C.add]);rwa[e]at this
variable {g:G} {a b:Nat}
theorem lY(O:g.ok)(M:b<g.n)(J:a<g.n)(U:i<=g.fI a b)(Z:j<=g.fJ a b):g.jX a b i j↔(i=g.fI a b/\j=g.fJ a b)\/(i<g.fI a b/\g.may (g.fx a b i j) (g.fy a b i j) (g.qh a b)=true/\g.jX a b (i+1) j)\/(j<g.fJ a b/\g.may (g.fx a b i j) (g.fy a b i j) (g.fK a b)=true/\g.jX a b i (j+1)):=by
 obtain⟨q1,q2,q3⟩:=iq O M J U Z;constructor
 .intro h
  rcases Walk.Uc h with⟨u,z⟩|⟨m,c,e,z,u,h3⟩
  .left
   have B:=congrArg C.s z;have F:=congrArg C.d z;simp[C.zero]at B F;omega
  .right
   obtain⟨ab,d,T,hm,R,rfl⟩:=z;obtain⟨f0,f1,x1,x2,y1,y2,z1,z2,z3,z4⟩:=qX u;obtain⟨_,t1,t2⟩:=df hm;have B:=congrArg C.s h3;have F:=congrArg C.d h3;simp only[C.add]at B F;rw[<-R,q2]at t1;rw[<-R,q3]at t2;obtain⟨d1,d2⟩:=g.KR a b
   have p1:(g.X b:Int)-g.fx a b i j=((g.fI a b:Int)-i)*g.FJ a b+((g.fJ a b:Int)-j)*g.FL a b:=by
    rw[Int.sub_mul,Int.sub_mul];unfold fx;unfold DT at d1;omega
   have p2:(g.Y b:Int)-g.fy a b i j=((g.fI a b:Int)-i)*g.FK a b+((g.fJ a b:Int)-j)*g.FN a b:=by
    rw[Int.sub_mul,Int.sub_mul];unfold fy;unfold DU at d2;omega
   have L:=xV (g.uU a b) (i:=(g.fI a b:Int)-i) (j:=(g.fJ a b:Int)-j) (by omega) (by omega) (by omega) (by omega) p1 p2 (sx:=bu d) (sy:=aZ d) (s:=c.s) (d:=c.d)
    (by rcases qb T with⟨k1,k2⟩|⟨k1,k2,k3⟩
        .left;rw[k1]at B F;refine⟨by simp only at B;omega,by simp only at F;omega,k2⟩
        .right;rw[k1]at B F;refine⟨by simp only at B;omega,by simp only at F;omega,k2,k3⟩)
    f0 f1 (by omega) (by omega) (by omega) (by omega) (by omega) (by omega) (by omega) (by omega)
   rcases L with⟨l1,l2,l3,l4,l5⟩|⟨l1,l2,l3,l4,l5⟩
   .right
    have Q:j<g.fJ a b:=by omega
    obtain⟨u1,u2⟩:=rM (g:=g) (a:=a) (b:=b) i j;have I:m=g.bE a b i (j+1):=il O M J U (by omega) (by omega) (by omega);have k:d=g.fK a b:=by unfold fK;rw[<-l4,<-l5];exact(iT T).symm
    refine⟨Q,?_,?_⟩
    .rw[<-k,<-q2,<-q3];exact hm
    .unfold jX;rw[<-I]
     have:c=⟨(g.fJ a b:Int)-((j+1:Nat):Int),(g.fI a b:Int)-i⟩:=C.ext' (by simp only;omega) (by simp only;omega);rw[<-this];exact u
   .left
    have P:i<g.fI a b:=by omega
    obtain⟨u1,u2⟩:=rJ (g:=g) (a:=a) (b:=b) i j;have I:m=g.bE a b (i+1) j:=il O M J (by omega) Z (by omega) (by omega);have k:d=g.qh a b:=by unfold qh;rw[<-l4,<-l5];exact(iT T).symm
    refine⟨P,?_,?_⟩
    .rw[<-k,<-q2,<-q3];exact hm
    .unfold jX;rw[<-I]
     have:c=⟨(g.fJ a b:Int)-j,(g.fI a b:Int)-((i+1:Nat):Int)⟩:=C.ext' (by simp only;omega) (by simp only;omega);rw[<-this];exact u
 .rintro(⟨rfl,rfl⟩|⟨S,u,z⟩|⟨S,u,z⟩)
  .unfold jX;rw[rF O M J]
   have:=Walk.nil (E:=g.E) b;rw[show C.zero=⟨(g.fJ a b:Int)-g.fJ a b,(g.fI a b:Int)-g.fI a b⟩from C.ext' (by simp[C.zero]) (by simp[C.zero])]at this;exact this
  .have:=Walk.cons (DK O M J S Z u) z
   unfold jX;have e:C.add ⟨0,1⟩ ⟨(g.fJ a b:Int)-j,(g.fI a b:Int)-((i+1:Nat):Int)⟩=⟨(g.fJ a b:Int)-j,(g.fI a b:Int)-i⟩:=C.ext' (by simp[C.add]) (by simp only[C.add];omega);rwa[e]at this
  .have:=Walk.cons (DL O M J U S u) z
   unfold jX;have e:C.add ⟨1,0⟩ ⟨(g.fJ a b:Int)-((j+1:Nat):Int),(g.fI a b:Int)-i⟩=⟨(g.fJ a b:Int)-j,(g.fI a b:Int)-i⟩:=C.ext' (by simp only[C.add];omega) (by simp[C.add]);rwa[e]at this
def dz(g:G)(a b:Nat):Prop:=Walk g.E a b (g.bV a b)
theorem x8:g.dz a b↔bP g.E a b (g.bV a b):=⟨λh=>⟨h,λ_ k=>Mi k⟩,λh=>h.1⟩
theorem Gg(z:g.ok)(u:b<g.n)(k:a<g.n):g.dz a b↔g.On a b (g.fI a b) (g.fJ a b):=by grind [dz,On,rF,lF]
theorem I6:g.dz a b↔g.jX a b 0 0:=by grind [dz,jX,kZ,lF]
theorem zP(hg:g.ok)(U:b<g.n)(T:a<g.n):(∃p q,Walk g.E a v p/\Walk g.E v b q/\C.add p q=g.bV a b)↔∃i j,i<=g.fI a b/\j<=g.fJ a b/\v=g.bE a b i j/\g.On a b i j/\g.jX a b i j:=by
 constructor
 .rintro⟨p,q,F,I,k⟩
  rw[lF]at k;obtain⟨O,P,x1,x2,y1,y2,z1,z2,z3,z4⟩:=qX F;obtain⟨z,B,ac,ad,ag,ai,al,am,an,ao⟩:=qX I;have L:=congrArg C.s k;have M:=congrArg C.d k;simp only[C.add]at L M;obtain⟨Q,R⟩:=g.KR a b;have Z:g.DT a b=(g.X b:Int)-g.X a:=rfl;have ab:g.DU a b=(g.Y b:Int)-g.Y a:=rfl
  obtain⟨m1,m2⟩:=I1 (g.uU a b) (px:=(g.X v:Int)-g.X a) (py:=(g.Y v:Int)-g.Y a) (s:=p.s) (d:=p.d) (u:=q.s) (v:=q.d) L M O P z B Q R
   (by omega) (by omega) (by omega) (by omega) (by omega) (by omega) (by omega) (by omega)
   (by omega) (by omega) (by omega) (by omega) (by omega) (by omega) (by omega) (by omega)
  obtain⟨i,hi⟩:=Int.eq_ofNat_of_zero_le P;obtain⟨j,hj⟩:=Int.eq_ofNat_of_zero_le O;rw[hi,hj]at m1 m2;have J:v=g.bE a b i j:=il hg U T (by omega) (by omega) (by unfold fx;omega) (by unfold fy;omega);refine⟨i,j,by omega,by omega,J,?_,?_⟩
  .unfold On;rw[<-J,show(⟨(j:Int),(i:Int)⟩:C)=p from C.ext' (by simp only;omega) (by simp only;omega)];exact F
  .unfold jX;rw[<-J,show(⟨(g.fJ a b:Int)-j,(g.fI a b:Int)-i⟩:C)=q from C.ext' (by simp only;omega) (by simp only;omega)];exact I
 .rintro⟨i,j,F,I,rfl,k,S⟩
  refine⟨_,_,k,S,?_⟩;rw[lF];exact C.ext' (by simp only[C.add];omega) (by simp only[C.add];omega)
theorem x9:g.dz a b↔g.dz b a:=by
 have k:∀a b,g.dz a b->g.dz b a:=by
  intro a b h;unfold dz at*;rw[dW];exact Walk.rev (E:=g.E) (λ_ _ _ u=>kN u) h
 exact⟨k a b,k b a⟩
end G
end FR
namespace FR
variable {t:Nat}{hp:Nat->Option C}
structure FS (E:Nat->Nat->C->Prop) (fr N:Nat) (done hp:Nat->Option C) (back:Nat->Option Nat) (k:Nat) (pend:Nat->C->Prop):Prop where
 dij:Al E fr done hp k pend
 frN:fr<N
 rngD:∀j,done j≠none->j<N
 rngH:∀j,hp j≠none->j<N
 b0:∀j,back j=none->(done j=none/\hp j=none)\/j=fr
 b1:∀j a,back j=some a->∃c d e,(done j=some c\/hp j=some c)/\done a=some d/\E a j e/\c=C.add d e
 bfr:back fr=none
 c1:∀j c,done j=some c->C.le c ⟨0,(dG (λi=>(done i).isSome) N:Int)-1⟩
 c2:∀j c,hp j=some c->C.le c ⟨0,(dG (λi=>(done i).isSome) N:Int)⟩
 last:∀c,done k=some c->∀i d,done i=some d->C.le d c
theorem Cw(f:Nat->Option C)(t:Nat)(c:C):(λi=>(upd f t (some c) i).isSome)=upd (λi=>(f i).isSome) t true:=by
 funext i;unfold upd;split<;>rfl
theorem uN{done:Nat->Option C}{t N:Nat}(g:t<N)(h:done t=none)(c:C):dG (λi=>(upd done t (some c) i).isSome) N=dG (λi=>(done i).isSome) N+1:=by
 rw[Cw];exact p8 g (by rw[h];rfl)
theorem Ba{t N:Nat}(u:t<N)(h:hp t≠none):dG (λi=>(hp i).isSome) N=dG (λi=>(upd hp t none i).isSome) N+1:=by
 rw[<-p8 (p:=λi=>(upd hp t none i).isSome) u (by simp[upd_same])];apply bD;intro k _;by_cases e:k=t
 .subst e
  rw[upd_same];cases g:hp k with
  |none=>exact absurd g h
  |some c=>simp[g]
 .rw[upd_ne _ _ e,upd_ne _ _ e]
theorem xO(N:Nat)(h:hp t≠none)(c:C):dG (λi=>(upd hp t (some c) i).isSome) N=dG (λi=>(hp i).isSome) N:=by
 apply bD;intro k _;by_cases e:k=t
 .subst e
  cases g:hp k with
  |none=>exact absurd g h
  |some c=>simp[upd_same,g]
 .simp only[upd_ne _ _ e]
theorem Ia{p:Nat->Bool}{n:Nat}(h:dG p n=0):∀k,k<n->p k=false:=by
 induction n with
 |zero=>intro k u;omega
 |succ n g=>
  unfold dG at h g;rw[bB]at h;intro k u;by_cases e:k=n
  .subst e
   cases hp:p k with
   |false=>rfl
   |true=>simp[hp]at h
  .exact g (by omega) k (by omega)
theorem xM(n:Nat):dG (λ_=>false) n=0:=by
 unfold dG;simp[gU]
namespace FS
variable {c:C}{b:Nat}{pend':Nat->C->Prop}
variable {E:Nat->Nat->C->Prop} {fr N:Nat} {done hp:Nat->Option C} {back:Nat->Option Nat} {k:Nat} {pend:Nat->C->Prop}
theorem start(h:fr<N)(k:Nat):FS E fr N (λ_=>none) (upd (λ_=>none) fr (some C.zero)) (λ_=>none) k (λ_ _=>False) where
 dij:=Al.start fr k
 frN:=h
 rngD:=λj g=>absurd rfl g
 rngH:=λj g=>by
  unfold upd at g;split at g
  .rename_i e;rw[e];exact h
  .exact absurd rfl g
 b0:=λj _=>by
  by_cases e:j=fr
  .exact .inr e
  .exact .inl ⟨rfl,upd_ne _ _ e⟩
 b1:=λj a h=>by cases h
 bfr:=rfl
 c1:=λj c h=>by cases h
 c2:=λj c h=>by
  unfold upd at h;split at h
  .cases h;exact C.aK (by simp[C.zero]) (by simp[C.zero])
  .cases h
 last:=λc h=>by cases h
theorem weaken(H:FS E fr N done hp back k pend)(h:∀b e,pend b e->pend' b e):FS E fr N done hp back k pend':=
 {H with dij:=⟨H.dij.i1,H.dij.i2,H.dij.i2',λa c b e x y=>(H.dij.i3 a c b e x y).imp_left λ⟨p,q⟩=>⟨p,h _ _ q⟩,H.dij.i4⟩}
theorem pop(S:∀a b c,E a b c->C.Nn c)(H:FS E fr N done hp back k λ_ _=>False){t:Nat}(I:hp t=some c)(J:∀j d,hp j=some d->C.le c d):FS E fr N (upd done t (some c)) (upd hp t none) back t (E t):=by
 have L:=H.rngH t (by rw[I];simp);have F:=(H.dij.i2 t c I).1;have z:=uN L F c;refine⟨H.dij.pop S I J,H.frN,?_,?_,?_,?_,H.bfr,?_,?_,?_⟩
 .intro j g
  unfold upd at g;split at g
  .rename_i e;rw[e];exact L
  .exact H.rngD j g
 .intro j g
  unfold upd at g;split at g
  .exact absurd rfl g
  .exact H.rngH j g
 .intro j g
  rcases H.b0 j g with⟨u,B⟩|h
  .left
   have e:j≠t:=by rintro rfl;rw[I]at B;cases B
   exact⟨(upd_ne _ _ e).trans u,(upd_ne _ _ e).trans B⟩
  .exact .inr h
 .intro j a T
  obtain⟨O,d,e,u,B,Q,R⟩:=H.b1 j a T;refine⟨O,d,e,?_,?_,Q,R⟩
  .by_cases q:j=t
   .subst q
    rw[upd_same];rcases u with u|u
    .rw[F]at u;cases u
    .rw[I]at u;exact .inl u
   .rw[upd_ne _ _ q,upd_ne _ _ q];exact u
  .by_cases q:a=t
   .subst q;rw[F]at B;cases B
   .rw[upd_ne _ _ q];exact B
 .intro j d g
  rw[z];unfold upd at g;split at g
  .cases g;exact C.le_trans (H.c2 _ _ I) (C.aK (Int.le_refl _) (by simp only;omega))
  .exact C.le_trans (H.c1 _ _ g) (C.aK (Int.le_refl _) (by simp only;omega))
 .intro j d g
  rw[z];unfold upd at g;split at g
  .cases g
  .exact C.le_trans (H.c2 _ _ g) (C.aK (Int.le_refl _) (by simp only;omega))
 .intro O P i d M
  rw[upd_same]at P;cases P;unfold upd at M;split at M
  .cases M;exact C.le_refl _
  .exact H.dij.i2' _ _ I _ _ M
theorem skip(H:FS E fr N done hp back k pend)(B:done b≠none)(u:∀g z,pend g z->pend' g z\/g=b):FS E fr N done hp back k pend':=
 {H with dij:=H.dij.skip B u}
theorem keep(H:FS E fr N done hp back k pend){c e d:C}(I:done k=some c)(F:hp b=some d)(z:C.le d (C.add c e))(B:∀g u,pend g u->pend' g u\/(g=b/\u=e)):FS E fr N done hp back k pend':=
 {H with dij:=H.dij.keep I F z B}
theorem push(I:∀a b c,E a b c->C.Nn c)(H:FS E fr N done hp back k pend){c e:C}(u:done k=some c)(M:E k b e)(O:C.le e ⟨0,1⟩)(J:b<N)(R:done b=none)(Q:∀d,hp b=some d->C.lt (C.add c e) d)(P:∀B F,pend B F->pend' B F\/(B=b/\F=e)):FS E fr N done (upd hp b (some (C.add c e))) (upd back b (some k)) k pend':=by
 have L:b≠fr:=by
  rintro rfl;rcases H.dij.i4 with x|x
  .rw[R]at x;cases x
  .exact C.yc (C.zR ((H.dij.i1 _ _ u).1.nn I) (I _ _ _ M)) (Q _ x)
 refine⟨H.dij.push I u M R Q (H.last _ u) P,H.frN,H.rngD,?_,?_,?_,?_,H.c1,?_,H.last⟩
 .intro j g
  unfold upd at g;split at g
  .rename_i q;rw[q];exact J
  .exact H.rngH j g
 .intro j g
  unfold upd at g;split at g
  .cases g
  .rename_i q
   rw[upd_ne _ _ q];exact H.b0 j g
 .intro j a z
  by_cases q:j=b
  .subst q
   rw[upd_same]at z;cases z;exact⟨_,_,_,.inr (upd_same _ _ _),u,M,rfl⟩
  .rw[upd_ne _ _ q]at z⊢
   exact H.b1 j a z
 .rw[upd_ne _ _ (Ne.symm L)];exact H.bfr
 .intro j d g
  unfold upd at g;split at g
  .cases g
   refine C.le_trans (C.add_le_add (H.c1 _ _ u) O) (C.aK ?_ ?_)<;>simp[C.add]
  .exact H.c2 _ _ g
end FS
variable {done hp:Nat->Option C}{back:Nat->Option Nat}
structure mV (E:Nat->Nat->C->Prop) (fr N:Nat) (done:Nat->Option C) (back:Nat->Option Nat):Prop where
 frN:fr<N
 in_:∀t c,done t=some c->bP E fr t c
 out:∀t,done t=none->∀c,¬Walk E fr t c
 rng:∀t,done t≠none->t<N
 b0:∀j,back j=none->done j=none\/j=fr
 b1:∀j a,back j=some a->∃c d e,done j=some c/\done a=some d/\E a j e/\c=C.add d e
 bfr:back fr=none
 small:∀j c,done j=some c->0<=c.s/\c.s<=512/\0<=c.d/\c.d<=512
theorem FS.small{E:Nat->Nat->C->Prop}(u:∀a b c,E a b c->C.Nn c){fr N:Nat}{k:Nat}{pend:Nat->C->Prop}(H:FS E fr N done hp back k pend)(M:N<=256){j:Nat}{c:C}(h:done j=some c\/hp j=some c):0<=c.s/\c.s<=512/\0<=c.d/\c.d<=512:=by
 have I:=iN (λi=>(done i).isSome) N
 have z:C.le c ⟨0,(dG (λi=>(done i).isSome) N:Int)⟩:=by
  rcases h with h|h
  .exact C.le_trans (H.c1 _ _ h) (C.aK (Int.le_refl _) (by simp only;omega))
  .exact H.c2 _ _ h
 have g:C.Nn c:=by
  rcases h with h|h
  .exact(H.dij.i1 _ _ h).1.nn u
  .exact(H.dij.i2 _ _ h).2.nn u
 obtain⟨B,F⟩:=C.dZ g (b:=⟨0,dG (λi=>(done i).isSome) N⟩) ⟨by simp,by simp⟩ z;obtain⟨J,L⟩:=g;simp only at B F;omega
theorem FS.fin{E:Nat->Nat->C->Prop}(u:∀a b c,E a b c->C.Nn c){fr N:Nat}{k:Nat}(H:FS E fr N done hp back k λ_ _=>False)(F:N<=256)(g:∀j,hp j=none):
 mV E fr N done back where
 frN:=H.frN
 in_:=λt=>(H.dij.fin u g t).1
 out:=λt=>(H.dij.fin u g t).2
 rng:=H.rngD
 b0:=λj J=>(H.b0 j J).imp_left And.left
 b1:=λj a I=>by
  obtain⟨c,d,e,z,B⟩:=H.b1 j a I;refine⟨c,d,e,z.resolve_right ?_,B⟩;rw[g];simp
 bfr:=H.bfr
 small:=λj c h=>H.small u F (.inl h)
end FR
