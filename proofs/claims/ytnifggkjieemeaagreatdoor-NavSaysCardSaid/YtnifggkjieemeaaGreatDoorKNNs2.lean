/- Lemmas of this claim: Math1, MathHeap, MathHeap2, MathClear, Math2, MathFlood, MathWay, MathBF, Math3, MathGraph. -/
import Derived.Test.YtnifggkjieemeaaGreatDoorOm
set_option linter.unusedVariables false
set_option linter.unusedSimpArgs false
set_option maxHeartbeats 1000000
namespace FR
variable {d s u v:Int}
theorem Xy:∀n:Nat,∀s d:Int,s.natAbs<=n->s*s=2*(d*d)->s=0/\d=0:=by
 intro n
 induction n using Nat.strongRecOn with
 |_ n ih=>
  intro s d J h;by_cases k:s=0
  .subst k
   refine⟨rfl,?_⟩;have m:d*d=0:=om;rcases Int.mul_eq_zero.1 m with h|h<;>exact h
  .exfalso
   have I:s%2=0:=by
    rcases Int.emod_two_eq s with g|g
    .exact g
    .have:(s*s)%2=1:=by rw[Int.mul_emod,g];rfl
     omega
   obtain⟨t,rfl⟩:∃t,s=2*t:=⟨s/2,om⟩;have F:d*d=2*(t*t):=by grind
   have B:d%2=0:=by
    rcases Int.emod_two_eq d with g|g
    .exact g
    .have:(d*d)%2=1:=by rw[Int.mul_emod,g];rfl
     omega
   obtain⟨u,rfl⟩:∃u,d=2*u:=⟨d/2,om⟩;have z:t*t=2*(u*u):=by grind
   have:=ih t.natAbs om t u (Zi _) z;omega
def Pos(s d:Int):Prop:=(0<=s/\0<=d/\(0<s\/0<d))\/(0<s/\d<0/\2*(d*d)<s*s)\/(s<0/\0<d/\s*s<2*(d*d))
theorem Xp{a b:Int}(m:0<=a)(k:0<=b)(h:a*a<b*b):a<b:=by
 rcases Int.lt_or_le a b with g|g
 .exact g
 .exfalso;have:=Int.mul_le_mul g g k om;omega
theorem tO{a b:Int}(g:0<=a)(h:a<=b):a*a<=b*b:=Int.mul_le_mul h h g om
theorem ll{a b:Int}(g:0<a)(k:0<b):0<a*b:=Int.mul_pos g k
-- p1>q1 r2,p2>q2 r2->p1 p2>2 q1 q2
theorem cross{p1 q1 p2 q2:Int}(m:0<p1)(g:0<q1)(z:0<p2)(k:0<q2)(a:2*(q1*q1)<p1*p1)(b:2*(q2*q2)<p2*p2):2*(q1*q2)<p1*p2:=by
 apply Xp (by have:=ll g k;omega) (by have:=ll m z;omega)
 have I:2*(q1*q1)*(2*(q2*q2))<p1*p1*(p2*p2):=by
  have B:=ll g g;have F:=ll k k
  calc 2*(q1*q1)*(2*(q2*q2))<p1*p1*(2*(q2*q2)):=Int.mul_lt_mul_of_pos_right a om
   _<=p1*p1*(p2*p2):=Int.mul_le_mul_of_nonneg_left om om
 grind
theorem OA{p1 q1 p2 q2:Int}(g:0<p1)(m:0<q1)(k:0<p2)(z:0<q2)(a:p1*p1<2*(q1*q1))(b:p2*p2<2*(q2*q2)):p1*p2<2*(q1*q2):=by
 apply Xp (by have:=ll g k;omega) (by have:=ll m z;omega)
 have I:p1*p1*(p2*p2)<2*(q1*q1)*(2*(q2*q2)):=by
  have B:=ll g g;have F:=ll k k
  calc p1*p1*(p2*p2)<2*(q1*q1)*(p2*p2):=Int.mul_lt_mul_of_pos_right a om
   _<=2*(q1*q1)*(2*(q2*q2)):=Int.mul_le_mul_of_nonneg_left om om
 grind
theorem C9(s d:Int):Pos s d\/(s=0/\d=0)\/Pos (-s) (-d):=by
 unfold Pos;have m:=Xy s.natAbs s d (Zi _);have g:(-s)*(-s)=s*s:=by grind
 have k:(-d)*(-d)=d*d:=by grind
 rw[g,k];omega
theorem MK(h:Pos s d):¬Pos (-s) (-d):=by grind [Pos]
theorem Iy:¬Pos 0 0:=by unfold Pos;omega
theorem ru(h:Pos s d)(I:0<=u)(J:0<=v):Pos (s+u) (d+v):=by
 unfold Pos at*;rcases h with h|⟨m,z,B⟩|⟨m,z,B⟩
 .omega
 .by_cases F:0<=d+v
  .omega
  .refine .inr (.inl ⟨om,om,?_⟩)
   have a:s*s<=(s+u)*(s+u):=tO om om;have b:(-(d+v))*(-(d+v))<=(-d)*(-d):=tO om om;have g:(-(d+v))*(-(d+v))=(d+v)*(d+v):=by grind
   have k:(-d)*(-d)=d*d:=by grind
   omega
 .by_cases F:0<=s+u
  .omega
  .refine .inr (.inr ⟨om,om,?_⟩)
   have a:d*d<=(d+v)*(d+v):=tO om om;have b:(-(s+u))*(-(s+u))<=(-s)*(-s):=tO om om;have g:(-(s+u))*(-(s+u))=(s+u)*(s+u):=by grind
   have k:(-s)*(-s)=s*s:=by grind
   omega
theorem Bn(F:Pos s d)(I:Pos u v)(P:s<0)(Q:0<d)(R:s*s<2*(d*d))(J:0<u)(S:v<0)(T:2*(v*v)<u*u):Pos (s+u) (d+v):=by
 by_cases a:0<=s+u
 .by_cases b:0<=d+v
  .by_cases z:s+u=0/\d+v=0
   .exfalso
    obtain⟨U,Z⟩:=z;have e:u= -s:=om;have B:v= -d:=om;subst e;subst B;exact MK F I
   .exact .inl ⟨a,b,om⟩
  ·-- s+u>=0,d+v<0:need 2(d+v)²<(s+u)²
   refine .inr (.inl ?_)
   have g:0<s+u/\2*((d+v)*(d+v))<(s+u)*(s+u):=by
    -- with p=-s,q=d:p<q√2;u> -v √2,-v>q;u-p>(-v-q)√2
    rcases C9 (s+u) (d+v)with t|t|t
    .unfold Pos at t;omega
    .omega
    .exfalso
     -- Pos (-(s+u)) (-(d+v)),and Pos s d:then sum pos (-u)(-v),contradiction;-(d+v)>0,-(s+u)<=0
     by_cases q:s+u=0
     .have e:u= -s:=om
      subst e;have:(-v)*(-v)>=d*d:=tO om om;have m:(-v)*(-v)=v*v:=by grind
      have k:(-s)*(-s)=s*s:=by grind
      omega
     .unfold Pos at t
      have L:(-(s+u))*(-(s+u))<2*((-(d+v))*(-(d+v))):=om;have c:=OA (p1:=s+u) (q1:=-(d+v)) (p2:=-s) (q2:=d) om om om om (by grind) (by grind);have:u*u=(s+u)*(s+u)+s*s+2*((s+u)*(-s)):=by grind
      have:v*v=(-(d+v))*(-(d+v))+d*d+2*((-(d+v))*d):=by grind
      have:(-(s+u))*(-(s+u))=(s+u)*(s+u):=by grind
      omega
   exact⟨g.1,om,g.2⟩
 .by_cases b:0<d+v
  .refine .inr (.inr ⟨om,b,?_⟩)
   rcases C9 (s+u) (d+v)with t|t|t
   .unfold Pos at t;omega
   .omega
   .exfalso
    unfold Pos at t;have k:(-(s+u))*(-(s+u))=(s+u)*(s+u):=by grind
    have m:(-(d+v))*(-(d+v))=(d+v)*(d+v):=by grind
    have L:2*((d+v)*(d+v))<(s+u)*(s+u):=om;have c:=cross (p1:=-(s+u)) (q1:=d+v) (p2:=u) (q2:=-v) om om J om (by grind) (by grind);have:s*s=(-(s+u))*(-(s+u))+u*u+2*((-(s+u))*u):=by grind
    have:d*d=(d+v)*(d+v)+v*v+2*((d+v)*(-v)):=by grind
    omega
  .exfalso
   -- s+u<0,d+v<=0: -s>u,-v>=d:s²>u²>2v²>=2d²
   have M:u*u<=(-s)*(-s):=tO om om;have O:d*d<=(-v)*(-v):=tO om om;have k:(-s)*(-s)=s*s:=by grind
   have m:(-v)*(-v)=v*v:=by grind
   omega
theorem Tq(h:Pos s d)(k:Pos u v):Pos (s+u) (d+v):=by
 have J:=h;have B:=k;unfold Pos at h k;rcases k with k|⟨F,I,L⟩|⟨F,I,L⟩
 .exact ru J k.1 k.2.1
 .rcases h with h|⟨g,m,z⟩|⟨g,m,z⟩
  .have:=ru B h.1 h.2.1;rw[Int.add_comm s,Int.add_comm d];exact this
  .have c:=cross (p1:=s) (q1:=-d) (p2:=u) (q2:=-v) g om F om (by grind) (by grind)
   refine .inr (.inl ⟨om,om,?_⟩);have:(s+u)*(s+u)=s*s+u*u+2*(s*u):=by grind
   have:(d+v)*(d+v)=d*d+v*v+2*((-d)*(-v)):=by grind
   omega
  .exact Bn J B g m z F I L
 .rcases h with h|⟨g,m,z⟩|⟨g,m,z⟩
  .have:=ru B h.1 h.2.1;rw[Int.add_comm s,Int.add_comm d];exact this
  .have:=Bn B J F I L g m z;rw[Int.add_comm s,Int.add_comm d];exact this
  .have c:=OA (p1:=-s) (q1:=d) (p2:=-u) (q2:=v) om m om I (by grind) (by grind)
   refine .inr (.inr ⟨om,om,?_⟩);have:(s+u)*(s+u)=s*s+u*u+2*((-s)*(-u)):=by grind
   have:(d+v)*(d+v)=d*d+v*v+2*(d*v):=by grind
   omega
structure C where
 s:Int
 d:Int
deriving DecidableEq
namespace C
variable {c:C}
def zero:C:=⟨0,0⟩
def add(a b:C):C:=⟨a.s+b.s,a.d+b.d⟩
def lt(a b:C):Prop:=Pos (b.s-a.s) (b.d-a.d)
def le(a b:C):Prop:=¬lt b a
def Nn(a:C):Prop:=0<=a.s/\0<=a.d
instance (s d:Int):Decidable (Pos s d):=by unfold Pos;infer_instance
instance (a b:C):Decidable (lt a b):=by unfold lt;infer_instance
instance (a b:C):Decidable (le a b):=by unfold le;infer_instance
def cmp(a b:C):Int:=if lt a b then -1 else if lt b a then 1 else 0
theorem ext'{a b:C}(h:a.s=b.s)(k:a.d=b.d):a=b:=by cases a;cases b;simp_all
theorem lt_irrefl(a:C):¬lt a a:=by unfold lt;rw[Int.sub_self,Int.sub_self];exact Iy
theorem lt_trans{a b c:C}(h:lt a b)(k:lt b c):lt a c:=by
 unfold lt at*;have:=Tq h k;rwa[show b.s-a.s+(c.s-b.s)=c.s-a.s by omega,show b.d-a.d+(c.d-b.d)=c.d-a.d by omega]at this
theorem lt_asymm{a b:C}(h:lt a b):¬lt b a:=λk=>lt_irrefl a (lt_trans h k)
theorem nA(a b:C):lt a b\/a=b\/lt b a:=by grind [lt,C9,ext']
theorem le_refl(a:C):le a a:=lt_irrefl a
theorem le_of_lt{a b:C}(h:lt a b):le a b:=lt_asymm h
theorem le_of_eq{a b:C}(h:a=b):le a b:=h▸le_refl a
theorem le_antisymm{a b:C}(h:le a b)(k:le b a):a=b:=by grind [nA,C,le]
theorem le_total(a b:C):le a b\/le b a:=by grind [nA,le_of_lt,le_of_eq]
theorem not_lt{a b:C}:¬lt a b↔le b a:=Iff.rfl
theorem le_iff{a b:C}:le a b↔lt a b\/a=b:=by grind [nA,le_of_lt,le_of_eq,C,le,lt]
theorem le_trans{a b c:C}(h:le a b)(k:le b c):le a c:=by grind [le_iff,le_of_lt,lt_trans]
theorem lt_of_lt_of_le{a b c:C}(h:lt a b)(k:le b c):lt a c:=by grind [le_iff,lt_trans]
theorem lt_of_le_of_lt{a b c:C}(h:le a b)(k:lt b c):lt a c:=by grind [le_iff,lt_trans]
theorem add_comm(a b:C):add a b=add b a:=ext' (Int.add_comm ..) (Int.add_comm ..)
theorem add_assoc(a b c:C):add (add a b) c=add a (add b c):=ext' (Int.add_assoc ..) (Int.add_assoc ..)
theorem add_zero(a:C):add a zero=a:=ext' (Int.add_zero _) (Int.add_zero _)
theorem zero_add(a:C):add zero a=a:=ext' (Int.zero_add _) (Int.zero_add _)
theorem add_lt_left{a b:C}(c:C):lt (add c a) (add c b)↔lt a b:=by grind [lt,add]
theorem add_lt_right{a b:C}(c:C):lt (add a c) (add b c)↔lt a b:=by grind [add_comm,add_lt_left]
theorem add_le_left{a b:C}(c:C):le (add c a) (add c b)↔le a b:=not_congr (add_lt_left c)
theorem add_le_right{a b:C}(c:C):le (add a c) (add b c)↔le a b:=not_congr (add_lt_right c)
theorem add_le_add{a b c d:C}(h:le a b)(k:le c d):le (add a c) (add b d):=
 le_trans ((add_le_right c).2 h) ((add_le_left b).2 k)
theorem add_lt_add_of_lt_of_le{a b c d:C}(h:lt a b)(k:le c d):lt (add a c) (add b d):=
 lt_of_lt_of_le ((add_lt_right c).2 h) ((add_le_left b).2 k)
theorem Ta:Nn zero:=⟨Int.le_refl 0,Int.le_refl 0⟩
theorem CZ{a b:C}(h:Nn a)(k:Nn b):Nn (add a b):=⟨by have:=h.1;have:=k.1;simp only[add];omega,by have:=h.2;have:=k.2;simp only[add];omega⟩
theorem Bd{a:C}(h:Nn a):le zero a:=by grind [lt,Pos,C,Nn,le,zero]
theorem iZ{a b:C}(h:Nn b):le a (add a b):=by
 have:=(add_le_left a).2 (Bd h);rwa[add_zero]at this
theorem kJ{a b:C}(h:a.s<=b.s)(k:a.d<=b.d)(g:a≠b):lt a b:=by grind [lt,Pos,ext']
theorem aM{a b:C}(h:a.s<=b.s)(k:a.d<=b.d):le a b:=by grind [le_of_eq,le_of_lt,kJ]
theorem kI{a b:C}(h:Nn b)(g:b≠zero):lt a (add a b):=by grind [lt,kJ,add_lt_left,add_zero,C,Nn,add,zero]
theorem dP{a b:C}:cmp a b<0↔lt a b:=by grind [cmp]
theorem yo{a b:C}:0<=cmp a b↔le b a:=by grind [dP,not_lt,C,cmp,le]
theorem yu{a b:C}:cmp a b=0↔a=b:=by grind [cmp,lt_irrefl,nA]
theorem RQ{a b:C}:0<cmp a b↔lt b a:=by grind [dP,yu,nA,lt_asymm,lt_irrefl,cmp]
theorem Ap(a b:C):cmp a b= -1\/cmp a b=0\/cmp a b=1:=by grind [cmp]
theorem Qm{a b:C}(g:Nn a)(h:le a b):a.s<=b.s+2*b.d\/b.d<0:=by
 by_cases e:b.d<0
 .exact .inr e
 .left
  apply Zu;intro B;apply h;unfold lt Pos;obtain⟨u,z⟩:=g;by_cases x:0<=a.d-b.d
  .omega
  .refine .inr (.inl ⟨om,om,?_⟩)
   have F:(b.d-a.d)*(b.d-a.d)<=b.d*b.d:=tO om om;have I:(2*b.d+1)*(2*b.d+1)<=(a.s-b.s)*(a.s-b.s):=tO om om;have k:(b.d-a.d)*(b.d-a.d)=(a.d-b.d)*(a.d-b.d):=by grind
   have m:(2*b.d+1)*(2*b.d+1)=4*(b.d*b.d)+4*b.d+1:=by grind
   have:0<=b.d*b.d:=Int.mul_nonneg om om;omega
theorem gy{a b:C}(g:Nn a)(k:Nn b)(h:le a b):a.s<=b.s+2*b.d/\a.d<=b.s+2*b.d:=by
 refine⟨(Qm g h).resolve_right (by have:=k.2;omega),?_⟩;apply Zu;intro J;apply h;unfold lt Pos;obtain⟨z,B⟩:=g;obtain⟨F,I⟩:=k;by_cases x:0<=a.s-b.s
 .omega
 .refine .inr (.inr ⟨om,om,?_⟩)
  have L:(b.s-a.s)*(b.s-a.s)<=b.s*b.s:=tO om om;have M:(b.s+1)*(b.s+1)<=(a.d-b.d)*(a.d-b.d):=tO om om;have m:(b.s-a.s)*(b.s-a.s)=(a.s-b.s)*(a.s-b.s):=by grind
  have u:(b.s+1)*(b.s+1)=b.s*b.s+2*b.s+1:=by grind
  have:0<=b.s*b.s:=Int.mul_nonneg om om;omega
end C
theorem GZ(P:C->Prop)(L:∀a,P a->C.Nn a)(h:∃a,P a):∃a,P a/\∀b,P b->C.le a b:=by
 classical
 obtain⟨a,u⟩:=h
 -- by induction on a bound of the number of lesser ones
 let box:Nat->List C:=λk=>(List.range (k+1)).flatMap λs:Nat=>(List.range (k+1)).map λd:Nat=>(⟨(s:Int),(d:Int)⟩:C)
 have z:∀(b a:C),C.Nn a->C.Nn b->C.le b a->b∈box (a.s+2*a.d).toNat:=by
  intro b a u m F;obtain⟨O,Q⟩:=C.gy m u F;obtain⟨R,S⟩:=m;simp only[box,List.mem_flatMap,List.mem_range,List.mem_map];exact⟨b.s.toNat,om,b.d.toNat,om,C.ext' so so⟩
 have J:∀(l:List C)(a:C),P a->(∀b,P b->C.lt b a->b∈l)->∃a,P a/\∀b,P b->C.le a b:=by
  intro l
  induction l with
  |nil=>intro a u B;exact⟨a,u,λb m k=>by have:=B b m k;simp at this⟩
  |cons x l M=>
   intro a u B;by_cases I:P x/\C.lt x a
   .apply M x I.1
    intro b m g;have:=B b m (C.lt_trans g I.2);rcases Zd.1 this with e|e
    .exact absurd g (e▸C.lt_irrefl x)
    .exact e
   .apply M a u
    intro b m g;rcases Zd.1 (B b m g)with e|e
    .exact absurd ⟨e▸m,e▸g⟩ I
    .exact e
 exact J (box (a.s+2*a.d).toNat) a u λb m g=>z b a (L a u) (L b m) (C.le_of_lt g)
inductive Walk (E:Nat->Nat->C->Prop):Nat->Nat->C->Prop
 |nil (a:Nat):Walk E a a C.zero
 |snoc {a b t:Nat} {c d:C}:Walk E a b c->E b t d->Walk E a t (C.add c d)
namespace Walk
variable {c:C}
variable {E:Nat->Nat->C->Prop}
theorem nn(g:∀a b c,E a b c->C.Nn c){a b:Nat}(h:Walk E a b c):C.Nn c:=by
 induction h with
 |nil=>exact C.Ta
 |snoc _ e ih=>exact C.CZ ih (g _ _ _ e)
theorem single{a b:Nat}(h:E a b c):Walk E a b c:=by
 have:=Walk.snoc (Walk.nil a) h;rwa[C.zero_add]at this
theorem trans{a b t:Nat}{c d:C}(h:Walk E a b c)(k:Walk E b t d):Walk E a t (C.add c d):=by
 induction k with
 |nil=>rwa[C.add_zero]
 |snoc _ e ih=>rw[<-C.add_assoc];exact .snoc ih e
theorem cons{a b t:Nat}{c d:C}(h:E a b c)(k:Walk E b t d):Walk E a t (C.add c d):=trans (single h) k
theorem rev(g:∀a b c,E a b c->E b a c){a b:Nat}(h:Walk E a b c):Walk E b a c:=by
 induction h with
 |nil=>exact .nil _
 |snoc _ e ih=>rw[C.add_comm];exact cons (g _ _ _ e) ih
theorem mono{g:Nat->Nat->C->Prop}(k:∀a b c,E a b c->g a b c){a b:Nat}(h:Walk E a b c):Walk g a b c:=by
 induction h with
 |nil=>exact .nil _
 |snoc _ e ih=>exact .snoc ih (k _ _ _ e)
theorem keeps{P:Nat->Prop}(k:∀a b c,P a->E a b c->P b){a b:Nat}(h:Walk E a b c)(g:P a):P b:=by
 induction h with
 |nil=>exact g
 |snoc _ e ih=>exact k _ _ _ ih e
end Walk
def df(E:Nat->Nat->C->Prop)(a b:Nat)(c:C):Prop:=Walk E a b c/\∀d,Walk E a b d->C.le c d
namespace df
variable {c:C}
variable {E:Nat->Nat->C->Prop}
theorem unique{a b:Nat}{c d:C}(h:df E a b c)(k:df E a b d):c=d:=C.le_antisymm (h.2 _ k.1) (k.2 _ h.1)
theorem exist(m:∀a b c,E a b c->C.Nn c){a b:Nat}(h:Walk E a b c):∃d,df E a b d:=by
 obtain⟨d,g,k⟩:=GZ (λc=>Walk E a b c) (λ_ h=>h.nn m) ⟨c,h⟩;exact⟨d,g,k⟩
theorem self(g:∀a b c,E a b c->C.Nn c)(a:Nat):df E a a C.zero:=⟨.nil a,λ_ h=>C.Bd (h.nn g)⟩
theorem symm(g:∀a b c,E a b c->E b a c){a b:Nat}(h:df E a b c):df E b a c:=
 ⟨h.1.rev g,λd k=>h.2 d (k.rev g)⟩
theorem step{a b t:Nat}{c d e:C}(h:df E a b c)(k:E b t d)(l:df E a t e):C.le e (C.add c d):=l.2 _ (h.1.snoc k)
theorem congr{g:Nat->Nat->C->Prop}(k:∀a b c,E a b c↔g a b c){a b:Nat}:df E a b c↔df g a b c:=by
 have:E=g:=by funext a b c;exact propext (k a b c)
 rw[this]
theorem Mw(g:Nat)(L:Nat->Option C)(F:∃c,L g=some c/\C.le c C.zero)(Q:∀b c,L b=some c->Walk E g b c)(P:∀a b c e,L a=some c->E a b e->∃d,L b=some d/\C.le d (C.add c e))(b:Nat):(∀c,L b=some c->df E g b c)/\(L b=none->∀c,¬Walk E g b c):=by
 have m:∀b c,Walk E g b c->∃d,L b=some d/\C.le d c:=by
  intro b c h
  induction h with
  |nil=>exact F
  |snoc _ e ih=>
   obtain⟨d,k,B⟩:=ih;obtain⟨z,I,J⟩:=P _ _ _ _ k e;exact⟨z,I,C.le_trans J ((C.add_le_right _).2 B)⟩
 refine⟨λc u=>⟨Q b c u,λd M=>?_⟩,λO c u=>?_⟩
 .obtain⟨z,k,B⟩:=m b d M
  rw[u]at k;cases k;exact B
 .obtain⟨z,k,_⟩:=m b c u
  rw[O]at k;cases k
end df
structure G where
 w:Nat
 h:Nat
 b:Nat->Bool
def bL(d:Nat):Int:=match d with|0=>0|1=>1|2=>1|3=>1|4=>0|5=>-1|6=>-1|_=>-1
def bD(d:Nat):Int:=match d with|0=>-1|1=>-1|2=>0|3=>1|4=>1|5=>1|6=>0|_=>-1
def bu(d:Nat):C:=if d%2=1 then⟨0,1⟩else⟨1,0⟩
namespace G
variable {g:G}{c d x y:Nat}
def ok(g:G):Prop:=1<=g.w/\g.w<=16/\1<=g.h/\g.h<=16
def n(g:G):Nat:=g.w*g.h
def op(g:G)(x y:Int):Bool:=decide (0<=x/\x<g.w/\0<=y/\y<g.h)&& !g.b (y.toNat*g.w+x.toNat)
def may(g:G)(x y:Int)(d:Nat):Bool:=g.op x y&&g.op (x+bL d) (y+bD d)&&g.op (x+bL d) y&&g.op x (y+bD d)
def X(g:G)(c:Nat):Nat:=c%g.w
def Y(g:G)(c:Nat):Nat:=c/g.w
def cell(g:G)(x y:Nat):Nat:=y*g.w+x
def fG(g:G)(c d:Nat):Bool:=g.may (g.X c) (g.Y c) d
def F3(g:G)(c:Int)(d:Nat):Int:=c+bL d+bD d*g.w
def to(g:G)(c d:Nat):Nat:=(g.F3 c d).toNat
def moves(g:G)(c:Nat):List Nat:=(List.range 8).filter (g.fG c)
theorem bA(h:g.ok):g.n<=256:=by
 obtain⟨u,k,z,m⟩:=h;have:g.w*g.h<=16*16:=Nat.mul_le_mul k m;exact this
theorem ji(h:g.ok)(c:Nat):g.X c<g.w:=Nat.mod_lt _ (by have:=h.1;omega)
theorem iJ(k:c<g.n):g.Y c<g.h:=by
 unfold Y;apply Nat.div_lt_of_lt_mul;exact k
theorem XY(g:G)(c:Nat):g.Y c*g.w+g.X c=c:=by grind [X,Y,Nat.mul_comm,Nat.div_add_mod]
theorem pq(m:x<g.w)(k:y<g.h):g.cell x y<g.n:=by
 unfold cell n;have:(y+1)*g.w<=g.h*g.w:=Nat.mul_le_mul_right _ k;rw[Nat.add_mul,Nat.one_mul]at this;rw[Nat.mul_comm g.w g.h];omega
theorem qI(k:x<g.w):g.X (g.cell x y)=x:=by grind [X,cell,Nat.mul_comm,Nat.mul_add_mod,Nat.mod_eq_of_lt]
theorem qJ(k:x<g.w):g.Y (g.cell x y)=y:=by grind [Y,cell,Nat.mul_comm,Nat.mul_add_div,Nat.div_eq_of_lt]
theorem gM(g:G)(c:Nat):g.cell (g.X c) (g.Y c)=c:=g.XY c
theorem uW{x y:Int}:g.op x y=true↔(0<=x/\x<g.w/\0<=y/\y<g.h)/\g.b (y.toNat*g.w+x.toNat)=false:=by
 unfold op;simp
theorem sW(h:g.ok)(k:c<g.n):g.op (g.X c) (g.Y c)=!g.b c:=by
 unfold op;have m:=ji h c;have u:=iJ k;rw[decide_eq_true om];simp only[Int.toNat_natCast,XY,Bool.true_and]
theorem F4(J:0<=(g.X c:Int)+bL d)(L:(g.X c:Int)+bL d<g.w)(M:0<=(g.Y c:Int)+bD d):g.F3 c d=g.to c d/\(g.X (g.to c d):Int)=g.X c+bL d/\(g.Y (g.to c d):Int)=g.Y c+bD d:=by
 have F:=g.XY c;obtain⟨u,I⟩:∃u:Nat,(g.X c:Int)+bL d=u:=⟨_,(Int.toNat_of_nonneg J).symm⟩;obtain⟨v,m⟩:∃v:Nat,(g.Y c:Int)+bD d=v:=⟨_,(Int.toNat_of_nonneg M).symm⟩;have k:u<g.w:=om
 have e:g.F3 c d=g.cell u v:=by
  unfold F3 cell;have O:((g.Y c:Int)+bD d)*g.w=v*g.w:=by rw[m]
  have P:((g.Y c:Int)+bD d)*g.w=g.Y c*g.w+bD d*g.w:=Int.add_mul ..;have B:((g.Y c*g.w+g.X c:Nat):Int)=c:=by rw[F]
  push_cast at B⊢
  omega
 have z:g.to c d=g.cell u v:=by unfold to;rw[e];rfl
 rw[z,qI k,qJ k,e];exact⟨rfl,I.symm,m.symm⟩
theorem iE{x y:Int}:g.may x y d=true↔g.op x y=true/\g.op (x+bL d) (y+bD d)=true/\g.op (x+bL d) y=true/\g.op x (y+bD d)=true:=by
 unfold may;simp[and_assoc]
theorem dV(h:g.fG c d=true):g.F3 c d=g.to c d/\(g.X (g.to c d):Int)=g.X c+bL d/\(g.Y (g.to c d):Int)=g.Y c+bD d:=by
 obtain⟨_,m,_⟩:=iE.1 h;obtain⟨⟨a,b,k,_⟩,_⟩:=uW.1 m;exact F4 a b k
theorem xK(h:g.fG c d=true):g.to c d<g.n:=by
 obtain⟨e,z,B⟩:=dV h;obtain⟨_,k,_⟩:=iE.1 h;obtain⟨⟨a,b,m,u⟩,_⟩:=uW.1 k;rw[<-gM g (g.to c d)];exact pq om om
theorem Jw(h:d<8):bL ((d+4)%8)= -bL d/\bD ((d+4)%8)= -bD d:=by
 have:d=0\/d=1\/d=2\/d=3\/d=4\/d=5\/d=6\/d=7:=om;rcases this with rfl|rfl|rfl|rfl|rfl|rfl|rfl|rfl<;>decide
theorem PS{x y:Int}(k:d<8)(h:g.may x y d=true):g.may (x+bL d) (y+bD d) ((d+4)%8)=true:=by grind [Jw,iE,bL,bD]
theorem A7(m:d<8)(h:g.fG c d=true):g.fG (g.to c d) ((d+4)%8)=true/\g.to (g.to c d) ((d+4)%8)=c:=by
 obtain⟨e,B,I⟩:=dV h;have u:=PS m h;have k:g.fG (g.to c d) ((d+4)%8)=true:=by unfold fG;rw[B,I];exact u
 refine⟨k,?_⟩;obtain⟨L,F,J⟩:=dV k;obtain⟨M,O⟩:=Jw m;have z:=gM g (g.to (g.to c d) ((d+4)%8));rw[show g.X (g.to (g.to c d) ((d+4)%8))=g.X c by omega,show g.Y (g.to (g.to c d) ((d+4)%8))=g.Y c by omega,gM]at z;exact z.symm
theorem M8(d:Nat):bu ((d+4)%8)=bu d:=by grind [bu]
def E(g:G)(a b:Nat)(c:C):Prop:=a<g.n/\∃d,d<8/\g.fG a d=true/\b=g.to a d/\c=bu d
theorem QO(d:Nat):C.Nn (bu d):=by unfold bu C.Nn;split<;>simp
theorem Dw{a b:Nat}{c:C}(h:g.E a b c):C.Nn c:=by
 obtain⟨_,d,_,_,_,rfl⟩:=h;exact QO d
theorem kQ{a b:Nat}{c:C}(h:g.E a b c):g.E b a c:=by
 obtain⟨B,d,z,k,rfl,rfl⟩:=h;obtain⟨m,u⟩:=A7 z k;exact⟨xK k,(d+4)%8,Nat.mod_lt _ rD,m,u.symm,(M8 d).symm⟩
theorem Ws{a b:Nat}{c:C}(h:g.E a b c):b<g.n:=by
 obtain⟨_,d,_,k,rfl,_⟩:=h;exact xK k
theorem UM{a b:Nat}{c:C}(B:g.ok)(h:g.E a b c):g.b a=false/\g.b b=false:=by
 obtain⟨F,d,I,u,rfl,_⟩:=h;have k:=(iE.1 u).1;rw[sW B F]at k;have z:=(A7 I u).1;have m:=(iE.1 z).1;rw[sW B (xK u)]at m;simp at k m;exact⟨k,m⟩
end G
def dD(dx dy:Int):C:=if dx.natAbs<dy.natAbs then⟨(dy.natAbs:Int)-dx.natAbs,dx.natAbs⟩else⟨(dx.natAbs:Int)-dy.natAbs,dy.natAbs⟩
theorem Te(g k:Int):C.Nn (dD g k):=by unfold dD C.Nn;split<;>simp<;>omega
theorem Qh(g k:Int):dD (-g) (-k)=dD g k:=by grind [dD,Int.natAbs_neg]
theorem pR(g k:Int):dD k g=dD g k:=by grind [dD]
theorem Xe{a b c d:Int}(B:a<=c)(F:b<=d):C.le ⟨a-b,b⟩ ⟨c-d,d⟩:=by
 intro k;unfold C.lt Pos at k;simp only at k;rcases k with k|⟨g,m,u⟩|⟨g,m,u⟩
 .omega
 .have q:=tO (a:=a-b-(c-d)) (b:=d-b) om om
  have z:(b-d)*(b-d)=(d-b)*(d-b):=by grind
  have:0<(d-b)*(d-b):=ll om om;omega
 .omega
theorem UJ{t m g:Int}(h:m<=g):C.le ⟨t-2*g,g⟩ ⟨t-2*m,m⟩:=by
 intro k;unfold C.lt Pos at k;simp only at k;have e:t-2*g-(t-2*m)= -(2*(g-m)):=om;rw[e]at k;have u:(-(2*(g-m)))*(-(2*(g-m)))=4*((g-m)*(g-m)):=by grind
 have:0<=(g-m)*(g-m):=Int.mul_nonneg om om;rw[u]at k;omega
theorem Mv{p q r s:Int}(g:p.natAbs<=r.natAbs)(k:q.natAbs<=s.natAbs):C.le (dD p q) (dD r s):=by
 unfold dD;split<;>split<;>exact Xe om om
theorem Qi(a b c d:Int):C.le (dD (a+c) (b+d)) (C.add (dD a b) (dD c d)):=by
 have B:∀p q r s:Int,0<=p->0<=q->0<=r->0<=s->C.le (dD (p+r) (q+s)) (C.add (dD p q) (dD r s)):=by
  intro p q r s hp m u z
  have go:∀p q r s:Int,0<=p->0<=q->0<=r->0<=s->q<=p->C.le (dD (p+r) (q+s)) (C.add (dD p q) (dD r s)):=by
   intro p q r s hp m u z F;by_cases h:s<=r
   .apply C.le_of_eq
    unfold dD C.add;rw[if_neg om,if_neg om,if_neg om];apply C.ext'<;>simp<;>omega
   .have e:C.add (dD p q) (dD r s)=⟨(p+q+r+s)-2*(q+r),q+r⟩:=by
     unfold dD C.add;rw[if_neg om,if_pos om];apply C.ext'<;>simp<;>omega
    rw[e];by_cases I:q+s<=p+r
    .have k:dD (p+r) (q+s)=⟨(p+q+r+s)-2*(q+s),q+s⟩:=by
      unfold dD;rw[if_neg om];apply C.ext'<;>simp<;>omega
     rw[k];exact UJ om
    .have k:dD (p+r) (q+s)=⟨(p+q+r+s)-2*(p+r),p+r⟩:=by
      unfold dD;rw[if_pos om];apply C.ext'<;>simp<;>omega
     rw[k];exact UJ om
  rcases Int.le_total q p with h|h
  .exact go p q r s hp m u z h
  .have:=go q p s r m hp z u h
   rwa[pR,pR p q,pR r s]at this
 have g:∀p q:Int,dD p q=dD p.natAbs q.natAbs:=by intro p q;unfold dD;simp
 have:=B a.natAbs b.natAbs c.natAbs d.natAbs om om om om;rw[<-g,<-g]at this;refine C.le_trans (Mv ?_ ?_) this<;>omega
namespace G
def cZ(g:G)(a b:Nat):C:=dD ((g.X a:Int)-g.X b) ((g.Y a:Int)-g.Y b)
theorem Fh(g:G)(a:Nat):g.cZ a a=C.zero:=by unfold cZ;rw[Int.sub_self,Int.sub_self];rfl
theorem fH(g:G)(a b:Nat):g.cZ a b=g.cZ b a:=by
 unfold cZ;rw[<-Qh];congr 1<;>omega
theorem VL(g:G)(a b:Nat):C.Nn (g.cZ a b):=Te _ _
theorem Kg(g:G)(a b c:Nat):C.le (g.cZ a c) (C.add (g.cZ a b) (g.cZ b c)):=by
 have:=Qi ((g.X a:Int)-g.X b) ((g.Y a:Int)-g.Y b) ((g.X b:Int)-g.X c) ((g.Y b:Int)-g.Y c);unfold cZ;rwa[show(g.X a:Int)-g.X b+((g.X b:Int)-g.X c)=(g.X a:Int)-g.X c by omega,show(g.Y a:Int)-g.Y b+((g.Y b:Int)-g.Y c)=(g.Y a:Int)-g.Y c by omega]at this
theorem Qj{g:G}{a b:Nat}{c:C}(h:g.E a b c):g.cZ a b=c:=by
 obtain⟨m,d,u,k,rfl,rfl⟩:=h;obtain⟨_,z,B⟩:=dV k;unfold cZ;rw[show(g.X a:Int)-g.X (g.to a d)= -bL d by omega,show(g.Y a:Int)-g.Y (g.to a d)= -bD d by omega];have:d=0\/d=1\/d=2\/d=3\/d=4\/d=5\/d=6\/d=7:=om;rcases this with rfl|rfl|rfl|rfl|rfl|rfl|rfl|rfl<;>decide
theorem Io{g:G}{a b:Nat}{c:C}(h:Walk g.E a b c):C.le (g.cZ a b) c:=by
 induction h with
 |nil=>rw[Fh];exact C.le_refl _
 | @snoc m _ _ _ _ e ih=>
  refine C.le_trans (Kg g _ m _) ?_;rw[Qj e];exact(C.add_le_right _).2 ih
end G
def upd{α:Type}(f:Nat->α)(k:Nat)(v:α):Nat->α:=λj=>if j=k then v else f j
theorem upd_same{α:Type}(f:Nat->α)(k:Nat)(v:α):upd f k v k=v:=if_pos rfl
theorem upd_ne{α:Type}(f:Nat->α){k j:Nat}(v:α)(h:j≠k):upd f k v j=f j:=if_neg h
structure Dt (E:Nat->Nat->C->Prop) (from_:Nat) (done hp:Nat->Option C) (k:Nat) (pend:Nat->C->Prop):Prop where
 i1:∀j c,done j=some c->df E from_ j c
 i2:∀j c,hp j=some c->done j=none/\Walk E from_ j c
 i2':∀j c,hp j=some c->∀i d,done i=some d->C.le d c
 i3:∀a c b e,done a=some c->E a b e->(a=k/\pend b e)\/done b≠none\/∃d,hp b=some d/\C.le d (C.add c e)
 i4:done from_=some C.zero\/hp from_=some C.zero
namespace Dt
variable {c:C}{from_ k:Nat}{pend pend':Nat->C->Prop}{done hp:Nat->Option C}
variable {E:Nat->Nat->C->Prop}
theorem start(g k:Nat):Dt E g (λ_=>none) (upd (λ_=>none) g (some C.zero)) k (λ_ _=>False) where
 i1:=λj c h=>by simp at h
 i2:=λj c h=>by
  unfold upd at h;split at h
  .rename_i e;cases h;rw[e];exact⟨rfl,.nil _⟩
  .simp at h
 i2':=λj c h i d k=>by simp at k
 i3:=λa c b e h=>by simp at h
 i4:=.inr (upd_same _ _ _)
theorem reached(F:∀a b c,E a b c->C.Nn c)(H:Dt E from_ done hp k λ_ _=>False){t:Nat}{d:C}(h:Walk E from_ t d):(∃c,done t=some c)\/∃j c,hp j=some c/\C.le c d:=by
 induction h with
 |nil=>
  rcases H.i4 with h|h
  .exact .inl ⟨_,h⟩
  .exact .inr ⟨_,_,h,C.le_refl _⟩
 | @snoc b t c e J m L=>
  rcases L with⟨g,h⟩|⟨j,g,z,B⟩
  .rcases H.i3 _ _ _ _ h m with x|x|⟨u,x,y⟩
   .exact x.2.elim
   .cases I:done t with
    |none=>exact absurd I x
    |some q=>exact .inl ⟨q,rfl⟩
   .refine .inr ⟨t,u,x,C.le_trans y ((C.add_le_right _).2 ((H.i1 _ _ h).2 _ J))⟩
  .exact .inr ⟨j,g,z,C.le_trans B (C.iZ (F _ _ _ m))⟩
theorem pop(M:∀a b c,E a b c->C.Nn c)(H:Dt E from_ done hp k λ_ _=>False){t:Nat}(I:hp t=some c)(g:∀j d,hp j=some d->C.le c d):Dt E from_ (upd done t (some c)) (upd hp t none) t (E t):=by
 obtain⟨F,P⟩:=H.i2 _ _ I
 have L:df E from_ t c:=⟨P,λd O=>by
  rcases H.reached M O with⟨J,x⟩|⟨j,J,x,y⟩
  .rw[F]at x;cases x
  .exact C.le_trans (g _ _ x) y⟩
 refine⟨?_,?_,?_,?_,?_⟩
 .intro j d h
  unfold upd at h;split at h
  .rename_i e;cases h;rw[e];exact L
  .exact H.i1 _ _ h
 .intro j d h
  unfold upd at h⊢;split at h
  .cases h
  .rename_i e;rw[if_neg e];exact H.i2 _ _ h
 .intro j d h i u m
  unfold upd at h m;split at h
  .cases h
  .split at m
   .cases m;exact g _ _ h
   .exact H.i2' _ _ h _ _ m
 .intro a d b e h B
  unfold upd at h;split at h
  .rename_i q;exact .inl ⟨q,q▸B⟩
  .rename_i q
   rcases H.i3 _ _ _ _ h B with x|x|⟨u,x,y⟩
   .exact x.2.elim
   .refine .inr (.inl ?_)
    unfold upd;split
    .simp
    .exact x
   .by_cases z:b=t
    .refine .inr (.inl ?_);rw[z,upd_same];simp
    .refine .inr (.inr ⟨u,?_,y⟩);rw[upd_ne _ _ z];exact x
 .by_cases z:from_=t
  .left;rw[z,upd_same]
   rcases H.i4 with x|x
   .rw[z,F]at x;cases x
   .rw[z,I]at x;exact x
  .rw[upd_ne _ _ z,upd_ne _ _ z];exact H.i4
theorem skip(H:Dt E from_ done hp k pend){b:Nat}(z:done b≠none)
 (m:∀g u,pend g u->pend' g u\/g=b):Dt E from_ done hp k pend' where
 i1:=H.i1
 i2:=H.i2
 i2':=H.i2'
 i3:=λa c g e h B=>by
  rcases H.i3 _ _ _ _ h B with x|x|x
  .rcases m _ _ x.2 with y|y
   .exact .inl ⟨x.1,y⟩
   .exact .inr (.inl (y▸z))
  .exact .inr (.inl x)
  .exact .inr (.inr x)
 i4:=H.i4
theorem keep(H:Dt E from_ done hp k pend){b:Nat}{c e d:C}(L:done k=some c)
 (I:hp b=some d)(u:C.le d (C.add c e))(B:∀g m,pend g m->pend' g m\/(g=b/\m=e)):Dt E from_ done hp k pend' where
 i1:=H.i1
 i2:=H.i2
 i2':=H.i2'
 i3:=λa F g m h J=>by
  rcases H.i3 _ _ _ _ h J with x|x|x
  .rcases B _ _ x.2 with y|⟨y,z⟩
   .exact .inl ⟨x.1,y⟩
   .have:F=c:=by rw[x.1,L]at h;cases h;rfl
    subst this;exact .inr (.inr ⟨d,y▸I,z▸u⟩)
  .exact .inr (.inl x)
  .exact .inr (.inr x)
 i4:=H.i4
theorem push(I:∀a b c,E a b c->C.Nn c)(H:Dt E from_ done hp k pend){b:Nat}{c e:C}(L:done k=some c)
 (J:E k b e)(Q:done b=none)(O:∀d,hp b=some d->C.lt (C.add c e) d)(g:∀i d,done i=some d->C.le d c)
 (B:∀m F,pend m F->pend' m F\/(m=b/\F=e)):Dt E from_ done (upd hp b (some (C.add c e))) k pend' where
 i1:=H.i1
 i2:=λj d h=>by
  unfold upd at h;split at h
  .rename_i q;cases h;rw[q];exact⟨Q,(H.i1 _ _ L).1.snoc J⟩
  .exact H.i2 _ _ h
 i2':=λj d h i R M=>by
  unfold upd at h;split at h
  .cases h;exact C.le_trans (g _ _ M) (C.iZ (I _ _ _ J))
  .exact H.i2' _ _ h _ _ M
 i3:=λa P m F h u=>by
  by_cases q:m=b
  .subst q
   rw[upd_same];rcases H.i3 _ _ _ _ h u with x|x|⟨d,x,y⟩
   .rcases B _ _ x.2 with y|⟨_,z⟩
    .exact .inl ⟨x.1,y⟩
    .have:P=c:=by rw[x.1,L]at h;cases h;rfl
     subst this;exact .inr (.inr ⟨_,rfl,z▸C.le_refl _⟩)
   .exact .inr (.inl x)
   .exact .inr (.inr ⟨_,rfl,C.le_trans (C.le_of_lt (O _ x)) y⟩)
  .rw[upd_ne _ _ q]
   rcases H.i3 _ _ _ _ h u with x|x|x
   .rcases B _ _ x.2 with y|⟨y,z⟩
    .exact .inl ⟨x.1,y⟩
    .exact absurd y q
   .exact .inr (.inl x)
   .exact .inr (.inr x)
 i4:=by
  rcases H.i4 with x|x
  .exact .inl x
  .by_cases q:from_=b
   ·-- the beginning stands in the heap for nothing:nothing is less
    exfalso;have:=O _ (q▸x);exact C.Bd (C.CZ ((H.i1 _ _ L).1.nn I) (I _ _ _ J)) this
   .right;rw[upd_ne _ _ q];exact x
theorem fin(u:∀a b c,E a b c->C.Nn c)(H:Dt E from_ done hp k λ_ _=>False)(m:∀j,hp j=none)(t:Nat):(∀c,done t=some c->df E from_ t c)/\(done t=none->∀c,¬Walk E from_ t c):=by
 refine⟨H.i1 t,λh c z=>?_⟩;rcases H.reached u z with⟨g,x⟩|⟨j,g,x,_⟩
 .rw[h]at x;cases x
 .rw[m]at x;cases x
end Dt
variable {k:Nat}{f g:Nat->Nat}
def bC(f:Nat->Nat):Nat->Nat
 |0=>0
 |k+1=>bC f k+f k
theorem nI:∀n,(∀k,k<n->f k<=g k)->bC f n<=bC g n
 |0,_=>Zi _
 |n+1,h=>Nat.add_le_add (nI n λk m=>h k om) (h n om)
theorem tT:∀n,(∀k,k<n->f k<=g k)->(∃k,k<n/\f k<g k)->bC f n<bC g n
 |0,_,h=>by obtain⟨k,h,_⟩:=h;omega
 |n+1,h,⟨k,z,m⟩=>by
  by_cases e:k=n
  .subst e;exact Nat.add_lt_add_of_le_of_lt (nI k λj u=>h j om) m
  .exact Nat.add_lt_add_of_lt_of_le (tT n (λj u=>h j om) ⟨k,om,m⟩) (h n om)
theorem iR(K:Nat):∀n,bC (λ_=>K) n=n*K
 |0=>by simp[bC]
 |n+1=>by rw[bC,iR K n,Nat.add_mul,Nat.one_mul]
def eO(p:Nat->Bool)(n:Nat):Nat:=bC (λk=>if p k then 1 else 0) n
theorem jX(p:Nat->Bool)(n:Nat):eO p n<=n:=by
 have:=nI (f:=λk=>if p k then 1 else 0) (g:=λ_=>1) n (by intro k _;split<;>omega);rw[iR]at this;unfold eO;omega
theorem bO:∀n,(∀k,k<n->f k=g k)->bC f n=bC g n
 |0,_=>rfl
 |n+1,h=>by rw[bC,bC,bO n λk m=>h k om,h n om]
theorem rW{p:Nat->Bool}{n k:Nat}(z:k<n)(hp:p k=false):eO (upd p k true) n=eO p n+1:=by
 induction n with
 |zero=>omega
 |succ n m=>
  unfold eO at*;simp only[bC];by_cases e:k=n
  .subst e
   have:bC (λj=>if upd p k true j=true then 1 else 0) k=bC (λj=>if p j=true then 1 else 0) k:=
    bO k λj u=>by rw[upd_ne _ _ om]
   rw[this];simp[upd_same,hp]
  .rw[m om,upd_ne _ _ om];omega
theorem vX(p:Nat->Bool)(n k:Nat):eO p n<=eO (upd p k true) n:=by
 apply nI;intro j _;by_cases e:j=k
 .subst e;rw[upd_same];simp;split<;>omega
 .rw[upd_ne _ _ e];exact Zi _
def box(k:Nat):List C:=(List.range (k+1)).flatMap λs:Nat=>(List.range (k+1)).map λd:Nat=>(⟨(s:Int),(d:Int)⟩:C)
theorem xL{a:C}(h:C.Nn a)(m:a.s<=k)(u:a.d<=k):a∈box k:=by
 obtain⟨z,B⟩:=h;simp only[box,List.mem_flatMap,List.mem_range,List.mem_map];exact⟨a.s.toNat,om,a.d.toNat,om,C.ext' so so⟩
theorem Gy(k:Nat):(box k).length=(k+1)*(k+1):=by
 unfold box;simp[List.length_flatMap,List.map_const']
def rk(k:Nat)(c:C):Nat:=((box k).filter λa=>decide (C.lt a c)).length
theorem zD(k:Nat)(c:C):rk k c<=(k+1)*(k+1):=by grind [rk,Gy,List.length_filter_le]
theorem filter_lt{α:Type}(p q:α->Bool)(l:List α)(h:∀a∈l,p a=true->q a=true)(x:α)(B:x∈l)(hp:p x=false)(J:q x=true):(l.filter p).length<(l.filter q).length:=by
 induction l with
 |nil=>simp at B
 |cons a l u=>
  have mono:(l.filter p).length<=(l.filter q).length:=by
   clear u B
   induction l with
   |nil=>simp
   |cons b l u=>
    have:=u λz m=>h z (by simp at m⊢;rcases m with e|e;exact .inl e;exact .inr (.inr e));have M:=h b rS;simp only[List.filter_cons];cases F:p b<;>cases I:q b<;>simp_all<;>omega
  simp only[List.filter_cons];rcases Zd.1 B with e|e
  .subst e;rw[hp,J];simp;omega
  .have:=u (λz m=>h z (List.mem_cons_of_mem _ m)) e
   have L:=h a List.mem_cons_self;cases F:p a<;>cases I:q a<;>simp_all<;>omega
theorem zF{a b:C}(h:C.lt a b)(u:a∈box k):rk k a<rk k b:=by
 refine filter_lt _ _ _ (λx _ m=>?_) a u ?_ ?_
 .simp at m⊢;exact C.lt_trans m h
 .simp;exact C.lt_irrefl a
 .simp;exact h
structure jD (E:Nat->Nat->C->Prop) (from_ n:Nat) (c:Nat->C) (is:Nat->Bool) (todo:List Nat) (i at_:Nat) (pend:Nat->C->Prop):Prop where
 i0:is from_=true/\c from_=C.zero
 i1:∀b,is b=true->Walk E from_ b (c b)/\b<n
 i2:∀t∈todo,is t=true
 i3:∀a b e,is a=true->E a b e->a∈todo.drop i\/(a=at_/\pend b e)\/(is b=true/\C.le (c b) (C.add (c a) e))
 i4:∀b,is b=true->C.le (c b) ⟨0,eO is n⟩
namespace jD
variable {todo:List Nat}{from_ i k:Nat}{is:Nat->Bool}{c:Nat->C}{pend pend':Nat->C->Prop}
variable {E:Nat->Nat->C->Prop}
def BX:Nat:=512
def meas(n:Nat)(c:Nat->C)(is:Nat->Bool):Nat:=bC (λk=>if is k then rk BX (c k)else(BX+1)*(BX+1)+1) n
theorem SS(n:Nat)(c:Nat->C)(is:Nat->Bool):meas n c is<=n*((BX+1)*(BX+1)+1):=by
 rw[<-iR];apply nI;intro k _;split
 .exact Nat.le_succ_of_le (zD _ _)
 .exact Zi _
theorem start{from_ n:Nat}(h:from_<n):jD E from_ n (λ_=>C.zero) (upd (λ_=>false) from_ true) [from_] 0 0 (λ_ _=>False):=by
 have m:∀b,upd (λ_=>false) from_ true b=true->b=from_:=by
  intro b g;apply Zu;intro q;rw[upd_ne _ _ q]at g;cases g
 refine⟨⟨upd_same _ _ _,rfl⟩,λb g=>?_,λt u=>?_,λa b e z _=>?_,λb g=>?_⟩
 .rw[m b g];exact⟨.nil _,h⟩
 .simp at u;rw[u];exact upd_same _ _ _
 .left;rw[m a z];simp
 .apply C.aM<;>simp[C.zero]
theorem next{from_ n:Nat}(H:jD E from_ n c is todo i k λ_ _=>False)(u:i<todo.length):jD E from_ n c is todo (i+1) todo[i] (E todo[i]) where
 i0:=H.i0
 i1:=H.i1
 i2:=H.i2
 i3:=λa b e m g=>by
  rcases H.i3 a b e m g with x|x|x
  .rw[List.drop_eq_getElem_cons u]at x
   rcases Zd.1 x with y|y
   .exact .inr (.inl ⟨y,y▸g⟩)
   .exact .inl y
  .exact x.2.elim
  .exact .inr (.inr x)
 i4:=H.i4
theorem keep{from_ n:Nat}(H:jD E from_ n c is todo i k pend){b:Nat}{e:C}
 (F:is b=true)(u:C.le (c b) (C.add (c k) e))(hp:∀g m,pend g m->pend' g m\/(g=b/\m=e)):jD E from_ n c is todo i k pend' where
 i0:=H.i0
 i1:=H.i1
 i2:=H.i2
 i3:=λa g m B I=>by
  rcases H.i3 a g m B I with x|x|x
  .exact .inl x
  .rcases hp _ _ x.2 with y|⟨y,z⟩
   .exact .inr (.inl ⟨x.1,y⟩)
   .rw[x.1,y,z];exact .inr (.inr ⟨F,u⟩)
  .exact .inr (.inr x)
 i4:=H.i4
theorem lower(S:∀a b c,E a b c->C.Nn c){from_ n:Nat}(H:jD E from_ n c is todo i k pend){b:Nat}{e:C}(hi:i<=todo.length)(Q:is k=true)(Z:E k b e)(F:b<n)(hn:n<=256)(R:e≠C.zero)(P:C.le e ⟨0,1⟩)(u:is b=true->C.lt (C.add (c k) e) (c b))(hp:∀I L,pend I L->pend' I L\/(I=b/\L=e)):jD E from_ n (upd c b (C.add (c k) e)) (upd is b true) (todo++[b]) i k pend'/\meas n (upd c b (C.add (c k) e)) (upd is b true)<meas n c is:=by
 have aa:k≠b:=by
  intro q;subst q;exact C.lt_asymm (u Q) (C.kI (S _ _ _ Z) R)
 have hw:=(H.i1 k Q).1.snoc Z;have U:=vX is n b
 have B:C.le (C.add (c k) e) ⟨0,eO (upd is b true) n⟩:=by
  cases M:is b with
  |true=>exact C.le_trans (C.le_of_lt (u M)) (C.le_trans (H.i4 b M) (C.aM (Int.le_refl _) (by simp only;omega)))
  |false=>
   rw[rW F M];refine C.le_trans (C.add_le_add (H.i4 k Q) P) (C.le_of_eq (C.ext' ?_ ?_))<;>simp[C.add]
 have g:=hw.nn S;refine⟨⟨?_,?_,?_,?_,?_⟩,?_⟩
 .by_cases q:from_=b
  .exfalso
   have:=u (q▸H.i0.1);rw[<-q,H.i0.2]at this;exact C.Bd g this
  .rw[upd_ne _ _ q,upd_ne _ _ q];exact H.i0
 .intro j J
  by_cases q:j=b
  .subst q;rw[upd_same];exact⟨hw,F⟩
  .rw[upd_ne _ _ q]at J⊢;exact H.i1 j J
 .intro t ht
  by_cases q:t=b
  .rw[q,upd_same]
  .rw[upd_ne _ _ q]
   rcases Zl.1 ht with x|x
   .exact H.i2 t x
   .simp at x;exact absurd x q
 .intro a I L T O
  rw[List.drop_append,Zl];by_cases q:a=b
  .left;right;rw[Nat.sub_eq_zero_of_le hi,q];simp
  .rw[upd_ne _ _ q]at T⊢
   rcases H.i3 a I L T O with x|x|x
   .exact .inl (.inl x)
   .rcases hp _ _ x.2 with y|⟨y,z⟩
    .exact .inr (.inl ⟨x.1,y⟩)
    .right;right;rw[y,z,x.1,upd_same,upd_same];exact⟨rfl,C.le_refl _⟩
   .right;right
    by_cases z:I=b
    .rw[z]at x⊢;rw[upd_same,upd_same];exact⟨rfl,C.le_trans (C.le_of_lt (u x.1)) x.2⟩
    .rw[upd_ne _ _ z,upd_ne _ _ z];exact x
 .intro j J
  by_cases q:j=b
  .subst q;rw[upd_same];exact B
  .rw[upd_ne _ _ q]at J⊢
   exact C.le_trans (H.i4 j J) (C.aM (Int.le_refl _) (by simp only;omega))
 .have m:C.add (c k) e∈box BX\/256<n:=by
   by_cases hn:256<n
   .exact .inr hn
   .left
    have hc:=jX (upd is b true) n;obtain⟨p1,p2⟩:=C.gy g ⟨rS,rS⟩ B;simp only at p1 p2;exact xL g (by unfold BX;omega) (by unfold BX;omega)
  have m:=m.resolve_right om;apply tT
  .intro j J
   by_cases q:j=b
   .subst q;rw[upd_same,upd_same,if_pos rfl]
    split
    .rename_i z;exact Nat.le_of_lt (zF (u z) m)
    .exact Nat.le_succ_of_le (zD _ _)
   .rw[upd_ne _ _ q,upd_ne _ _ q];exact Zi _
  .refine⟨b,F,?_⟩
   rw[upd_same,upd_same,if_pos rfl];split
   .rename_i z;exact zF (u z) m
   .exact Nat.lt_succ_of_le (zD _ _)
theorem fin{from_ n:Nat}(H:jD E from_ n c is todo i k λ_ _=>False)(z:todo.length<=i)(t:Nat):(is t=true->df E from_ t (c t))/\(is t=false->∀d,¬Walk E from_ t d):=by
 have:=df.Mw (E:=E) from_ (λj=>if is j then some (c j)else none) ⟨C.zero,by rw[H.i0.1,H.i0.2];rfl,C.le_refl _⟩
  (λb d h=>by
   cases m:is b with
   |true=>rw[m]at h;simp at h;rw[<-h];exact(H.i1 b m).1
   |false=>rw[m]at h;simp at h)
  (λa b d e h u=>by
   cases g:is a with
   |false=>rw[g]at h;simp at h
   |true=>
    rw[g]at h;simp at h;subst h;rcases H.i3 a b e g u with x|x|x
    .rw[List.drop_eq_nil_of_le z]at x;simp at x
    .exact x.2.elim
    .exact⟨c b,by rw[x.1];rfl,x.2⟩) t
 refine⟨λh=>this.1 _ (by rw[h];rfl),λh=>this.2 (by rw[h];rfl)⟩
end jD
end FR
namespace FR
structure It where
 c:C
 id:Int
deriving DecidableEq
namespace It
def lt(a b:It):Prop:=C.lt a.c b.c\/(a.c=b.c/\a.id<b.id)
def le(a b:It):Prop:=¬lt b a
theorem lt_irrefl(a:It):¬lt a a:=λh=>by rcases h with h|⟨_,h⟩;exact C.lt_irrefl _ h;omega
theorem lt_trans{a b c:It}(h:lt a b)(k:lt b c):lt a c:=by
 rcases h with h|⟨m,z⟩
 .rcases k with k|⟨g,u⟩
  .exact .inl (C.lt_trans h k)
  .exact .inl (g▸h)
 .rcases k with k|⟨g,u⟩
  .exact .inl (m▸k)
  .exact .inr ⟨m.trans g,om⟩
theorem nA(a b:It):lt a b\/a=b\/lt b a:=by
 rcases C.nA a.c b.c with h|h|h
 .exact .inl (.inl h)
 .rcases Int.lt_trichotomy a.id b.id with k|k|k
  .exact .inl (.inr ⟨h,k⟩)
  .right;left;cases a;cases b;simp only at h k;subst h;subst k;rfl
  .exact .inr (.inr (.inr ⟨h.symm,k⟩))
 .exact .inr (.inr (.inl h))
theorem le_refl(a:It):le a a:=lt_irrefl a
theorem le_of_lt{a b:It}(h:lt a b):le a b:=λk=>lt_irrefl a (lt_trans h k)
theorem le_iff{a b:It}:le a b↔lt a b\/a=b:=by
 constructor
 .intro h
  rcases nA a b with k|k|k
  .exact .inl k
  .exact .inr k
  .exact absurd k h
 .grind [le_of_lt,le_refl]
theorem le_trans{a b c:It}(h:le a b)(k:le b c):le a c:=by
 grind [le_iff,le_of_lt,lt_trans]
theorem le_total(a b:It):le a b\/le b a:=by
 grind [nA,le_of_lt,le_refl]
end It
variable {i k:Nat}{g:Nat->It}
def par(j:Nat):Nat:=(j-1)/2
def qg(n:Nat)(g:Nat->It):Prop:=∀j,j<n->0<j->It.le (g (par j)) (g j)
def kT(n:Nat)(g:Nat->It)(i:Nat):Prop:=(∀j,j<n->0<j->j≠i->It.le (g (par j)) (g j))/\(∀j,j<n->0<j->par j=i->0<i->It.le (g (par i)) (g j))
def kR(n:Nat)(g:Nat->It)(i:Nat):Prop:=(∀j,j<n->0<j->par j≠i->It.le (g (par j)) (g j))/\(∀j,j<n->0<j->par j=i->0<i->It.le (g (par i)) (g j))
def swp(g:Nat->It)(i k:Nat):Nat->It:=upd (upd g i (g k)) k (g i)
theorem eU(g:Nat->It)(i k j:Nat):swp g i k j=if j=k then g i else if j=i then g k else g j:=rfl
theorem jQ{j:Nat}(h:0<j):par j<j:=by unfold par;omega
theorem QY{n:Nat}(h:kT n g i)(m:i=0\/¬It.lt (g i) (g (par i))):qg n g:=by
 intro j z u;by_cases e:j=i
 .subst e
  rcases m with m|m
  .omega
  .exact m
 .exact h.1 j z u e
theorem TV{n:Nat}(R:i<n)(M:0<i)(h:kT n g i)(O:It.lt (g i) (g (par i))):kT n (swp g i (par i)) (par i):=by
 have hp:=jQ M;constructor
 .intro j u z I
  rw[eU,eU];rw[if_neg I];by_cases m:j=i
  .subst m
   rw[if_pos rfl,if_pos rfl];exact It.le_of_lt O
  .rw[if_neg m]
   by_cases B:par j=par i
   .rw[if_pos B]
    have:=h.1 j u z m;rw[B]at this;exact It.le_trans (It.le_of_lt O) this
   .rw[if_neg B]
    by_cases F:par j=i
    .rw[if_pos F];exact h.2 j u z F M
    .rw[if_neg F];exact h.1 j u z m
 .intro j u z J hp0
  rw[eU,eU];have Q:=jQ hp0;rw[if_neg om,if_neg om];have L:It.le (g (par (par i))) (g (par i)):=h.1 (par i) om hp0 om;by_cases P:j=par i
  .grind
  .rw[if_neg P]
   by_cases m:j=i
   .grind
   .rw[if_neg m]
    have:=h.1 j u z m;rw[J]at this;exact It.le_trans L this
theorem qP{n:Nat}(h:kR n g i)(z:∀j,j<n->0<j->par j=i->It.le (g i) (g j)):qg n g:=by
 intro j u m;by_cases e:par j=i
 .grind
 .exact h.1 j u m e
theorem mP{n:Nat}(P:k<n)(O:0<k)(m:par k=i)(h:kR n g i)(Q:It.lt (g k) (g i))(R:∀j,j<n->0<j->par j=i->It.le (g k) (g j)):kR n (swp g i k) k:=by
 have hp:=jQ O;constructor
 .intro j B u F
  rw[eU,eU,if_neg F];by_cases J:j=k
  .subst J
   rw[if_pos rfl,if_pos m];exact It.le_of_lt Q
  .rw[if_neg J]
   by_cases L:par j=i
   .grind
   .rw[if_neg L]
    by_cases z:j=i
    .rw[if_pos z]
     subst z;exact h.2 k P O m u
    .rw[if_neg z];exact h.1 j B u L
 .intro j B u I _
  have M:=jQ u;rw[eU,eU,m,if_neg om,if_pos rfl,if_neg om,if_neg om];have:=h.1 j B u om;rwa[I]at this
theorem Pf{n:Nat}(h:qg n g):∀k,k<n->It.le (g 0) (g k):=by
 intro k
 induction k using Nat.strongRecOn with
 |_ k ih=>
  intro u;rcases Nat.eq_zero_or_pos k with rfl|m
  .exact It.le_refl _
  .exact It.le_trans (ih (par k) (jQ m) (by have:=jQ m;omega)) (h k u m)
theorem Si{n:Nat}{y:It}(h:qg n g):kR n (upd g 0 y) 0:=by
 constructor
 .intro j u z m
  rw[upd_ne _ _ m,upd_ne _ _ om];exact h j u z
 .grind
theorem LK{n:Nat}{x:It}(h:qg n g):kT (n+1) (upd g n x) n:=by
 constructor
 .intro j u m z
  have:=jQ m;rw[upd_ne _ _ om,upd_ne _ _ om];exact h j om m
 .intro j u m hp _
  have:=jQ m;omega
theorem LJ{n:Nat}{x:It}(F:i<n)(h:qg n g)(I:It.le x (g i)):kT n (upd g i x) i:=by
 constructor
 .intro j z u B
  rw[upd_ne _ _ B];by_cases e:par j=i
  .rw[e,upd_same];exact It.le_trans I (by have:=h j z u;rwa[e]at this)
  .rw[upd_ne _ _ e];exact h j z u
 .intro j z u hp m
  have:=jQ u;have:=jQ m;rw[upd_ne _ _ om,upd_ne _ _ om];exact It.le_trans (h i F m) (by have:=h j z u;rwa[hp]at this)
def xq(n:Nat)(g:Nat->It):Prop:=∀j k,j<n->k<n->(g j).id=(g k).id->j=k
def Holds(n:Nat)(g:Nat->It)(hp:Int->Option C):Prop:=∀id c,hp id=some c↔∃k,k<n/\g k=⟨c,id⟩
theorem TT{n:Nat}(z:i<n)(F:k<n)(x:It):(∃j,j<n/\swp g i k j=x)↔∃j,j<n/\g j=x:=by
 constructor
 .grind [eU]
 .rintro⟨j,B,e⟩
  by_cases m:j=i
  .refine⟨k,F,?_⟩;rw[eU,if_pos rfl,<-m];exact e
  .by_cases u:j=k
   .refine⟨i,z,?_⟩
    grind [eU]
   .exact⟨j,B,by rw[eU,if_neg u,if_neg m];exact e⟩
theorem KE{n:Nat}(z:i<n)(B:k<n)(h:xq n g):xq n (swp g i k):=by
 intro a b J L e;rw[eU,eU]at e;by_cases F:a=k<;>by_cases I:b=k
 .omega
 .rw[if_pos F,if_neg I]at e
  by_cases u:b=i
  .rw[if_pos u]at e;have:=h i k z B e;omega
  .rw[if_neg u]at e;have:=h i b z L e;omega
 .rw[if_neg F,if_pos I]at e
  by_cases m:a=i
  .rw[if_pos m]at e;have:=h k i B z e;omega
  .rw[if_neg m]at e;have:=h a i J z e;omega
 .rw[if_neg F,if_neg I]at e
  by_cases m:a=i<;>by_cases u:b=i
  .omega
  .rw[if_pos m,if_neg u]at e;have:=h k b B L e;omega
  .rw[if_neg m,if_pos u]at e;have:=h a k J B e;omega
  .rw[if_neg m,if_neg u]at e;exact h a b J L e
end FR
namespace FR
instance (a b:It):Decidable (It.lt a b):=by unfold It.lt;infer_instance
def Ib(x:It)(st:List It×Bool):List It:=if st.2 then st.1 else st.1++[x]
namespace G
variable {g:G}{x y:Int}{d k:Nat}
def Ow(g:G)(d:Nat):Nat->Int->Int->Nat
 |0,_,_=>0
 |f+1,x,y=>if g.may x y d then Ow g d f (x+bL d) (y+bD d)+1 else 0
def Jr(g:G)(d:Nat)(x y:Int):Nat:=Ow g d 17 x y
def run(g:G)(d:Nat)(x y:Int)(k:Nat):Prop:=∀j:Nat,j<k->g.may (x+j*bL d) (y+j*bD d) d=true
theorem zI(g:G)(d:Nat)(x y:Int):run g d x y 0:=λj m=>om
theorem zH(h:run g d x y k)(m:g.may (x+k*bL d) (y+k*bD d) d=true):run g d x y (k+1):=by
 intro j u;by_cases e:j=k
 .subst e;exact m
 .exact h j om
theorem QA(h:run g d x y (k+1)):run g d (x+bL d) (y+bD d) k:=by
 intro j m;have:=h (j+1) om;rwa[show x+((j+1:Nat):Int)*bL d=x+bL d+j*bL d by rw[Int.natCast_add,Int.add_mul];omega,show y+((j+1:Nat):Int)*bD d=y+bD d+j*bD d by rw[Int.natCast_add,Int.add_mul];omega]at this
theorem Ea:∀{f:Nat}{x y:Int}{k:Nat},k<f->run g d x y k->g.may (x+k*bL d) (y+k*bD d) d=false->Ow g d f x y=k
 |0,_,_,_,h,_,_=>om
 |f+1,x,y,0,_,_,h=>by unfold Ow;rw[if_neg];simpa using h
 |f+1,x,y,k+1,z,m,h=>by
  unfold Ow;have u:=m 0 om;rw[if_pos (by simpa using u),Ea (k:=k) om (QA m)];rwa[show x+((k+1:Nat):Int)*bL d=x+bL d+k*bL d by rw[Int.natCast_add,Int.add_mul];omega,show y+((k+1:Nat):Int)*bD d=y+bD d+k*bD d by rw[Int.natCast_add,Int.add_mul];omega]at h
theorem Ur(d:Nat):bL d=1\/bL d= -1\/(bL d=0/\(bD d=1\/bD d= -1)):=by
 rcases Nat.lt_or_ge d 8 with h|h
 .rcases(show d=0\/d=1\/d=2\/d=3\/d=4\/d=5\/d=6\/d=7 by omega)with rfl|rfl|rfl|rfl|rfl|rfl|rfl|rfl<;>decide
 .obtain⟨k,rfl⟩:=Nat.exists_eq_add_of_le h
  right;left;unfold bL;split<;>first|omega|rfl
theorem OL(d:Nat):-1<=bL d/\bL d<=1/\-1<=bD d/\bD d<=1:=by
 refine⟨?_,?_,?_,?_⟩<;>(first|unfold bL|unfold bD)<;>split<;>decide
theorem SG(z:g.ok)(B:0<=x/\x<g.w/\0<=y/\y<g.h)(m:0<=x+k*bL d/\x+k*bL d<g.w/\0<=y+k*bD d/\y+k*bD d<g.h):k<=15:=by
 obtain⟨_,F,_,I⟩:=z;rcases Ur d with e|e|⟨e,u|u⟩
 .rw[e]at m;omega
 .rw[e]at m;omega
 .rw[e,u]at m;omega
 .rw[e,u]at m;omega
theorem CU(h:g.may x y d=true):(0<=x/\x<g.w/\0<=y/\y<g.h)/\(0<=x+bL d/\x+bL d<g.w/\0<=y+bD d/\y+bD d<g.h):=
 ⟨(uW.1 (iE.1 h).1).1,(uW.1 (iE.1 h).2.1).1⟩
theorem uZ(z:g.ok)(h:run g d x y k):k<=15:=by
 rcases Nat.eq_zero_or_pos k with rfl|B
 .omega
 .obtain⟨j,rfl⟩:∃j,k=j+1:=⟨k-1,om⟩
  have m:=(CU (h 0 om)).1;have u:=(CU (h j om)).2;simp only[Int.ofNat_eq_natCast,Int.natCast_zero,Int.zero_mul,Int.add_zero]at m;rw[show x+(j:Int)*bL d+bL d=x+((j+1:Nat):Int)*bL d by rw[Int.natCast_add,Int.add_mul];omega,show y+(j:Int)*bD d+bD d=y+((j+1:Nat):Int)*bD d by rw[Int.natCast_add,Int.add_mul];omega]at u;exact SG z m u
theorem GD(u:g.ok)(h:run g d x y k)(m:g.may (x+k*bL d) (y+k*bD d) d=false):Jr g d x y=k:=
 Ea (by have:=uZ u h;omega) h m
theorem Eb(I:g.ok)(d:Nat)(x y:Int):run g d x y (Jr g d x y)/\g.may (x+(Jr g d x y:Nat)*bL d) (y+(Jr g d x y:Nat)*bD d) d=false:=by
 have z:∀f k:Nat,16<=f+k->run g d x y k->∃m,run g d x y m/\g.may (x+(m:Nat)*bL d) (y+(m:Nat)*bD d) d=false:=by
  intro f
  induction f with
  |zero=>intro k L u;exact absurd (uZ I u) om
  |succ f M=>
   intro k L u;cases J:g.may (x+k*bL d) (y+k*bD d) d with
   |false=>exact⟨k,u,J⟩
   |true=>exact M (k+1) om (zH u J)
 obtain⟨m,B,F⟩:=z 16 0 om (zI _ _ _ _);rw[GD I B F];exact⟨B,F⟩
theorem GA{g g':G}(B:g.ok)(P:g'.w=g.w)(O:g'.h=g.h){x y zx zy:Int}(z:∀u v:Int,¬(u=zx/\v=zy)->g'.op u v=g.op u v)(aa:Jr g' d x y≠Jr g d x y):∃k:Nat,k<=15/\(0<=x+k*bL d/\x+k*bL d<g.w/\0<=y+k*bD d/\y+k*bD d<g.h)/\zx-1<=x+k*bL d/\x+k*bL d<=zx+1/\zy-1<=y+k*bD d/\y+k*bD d<=zy+1:=by
 have m:g'.ok:=by unfold G.ok at*;rw[P,O];exact B
 -- the first place at which the two differ
 have J:∃k:Nat,k<=15/\g'.may (x+k*bL d) (y+k*bD d) d≠g.may (x+k*bL d) (y+k*bD d) d:=by
  obtain⟨Q,m1⟩:=Eb B d x y;obtain⟨R,m2⟩:=Eb m d x y;rcases Nat.lt_or_ge (Jr g' d x y) (Jr g d x y)with h|h
  .exact⟨Jr g' d x y,by have:=uZ m R;omega,by rw[m2,Q _ h];simp⟩
  .exact⟨Jr g d x y,by have:=uZ B Q;omega,by rw[m1,R _ om];simp⟩
 obtain⟨k,Z,I⟩:=J;refine⟨k,Z,?_⟩;generalize x+(k:Int)*bL d=u at*;generalize y+(k:Int)*bD d=v at*
 have F:0<=u/\u<g.w/\0<=v/\v<g.h:=by
  cases L:g.may u v d with
  |true=>exact(CU L).1
  |false=>
   cases M:g'.may u v d with
   |true=>have:=(CU M).1;rw[P,O]at this;exact this
   |false=>rw[L,M]at I;exact absurd rfl I
 refine⟨F,?_⟩;have hx:=OL d;by_cases S:u=zx/\v=zy
 .omega
 by_cases T:u+bL d=zx/\v+bD d=zy
 .omega
 by_cases c3:u+bL d=zx/\v=zy
 .omega
 by_cases U:u=zx/\v+bD d=zy
 .omega
 exfalso;apply I;unfold may;rw[z _ _ S,z _ _ T,z _ _ c3,z _ _ U]
end G
end FR
namespace FR
theorem Walk.inv{E:Nat->Nat->C->Prop}{a b:Nat}{c:C}(h:Walk E a b c):(b=a/\c=C.zero)\/∃m d e,Walk E a m d/\E m b e/\c=C.add d e:=by
 cases h with
 |nil=>exact .inl ⟨rfl,rfl⟩
 |snoc h e=>exact .inr ⟨_,_,_,h,e,rfl⟩
theorem Walk.X3{E:Nat->Nat->C->Prop}{a b:Nat}{c:C}(h:Walk E a b c):(b=a/\c=C.zero)\/∃m d e,E a m e/\Walk E m b d/\c=C.add e d:=by
 induction h with
 |nil=>exact .inl ⟨rfl,rfl⟩
 |snoc h e z=>
  rcases z with⟨rfl,rfl⟩|⟨m,d,g,k,u,rfl⟩
  .exact .inr ⟨_,C.zero,_,e,.nil _,by rw[C.zero_add,C.add_zero]⟩
  .exact .inr ⟨m,_,g,k,u.snoc e,by rw[C.add_assoc]⟩
namespace G
theorem si{d:Nat}(h:d<8):(bu d=⟨1,0⟩/\((bL d=1/\bD d=0)\/(bL d= -1/\bD d=0)\/(bL d=0/\bD d=1)\/(bL d=0/\bD d= -1)))\/(bu d=⟨0,1⟩/\(bL d=1\/bL d= -1)/\(bD d=1\/bD d= -1)):=by
 have:d=0\/d=1\/d=2\/d=3\/d=4\/d=5\/d=6\/d=7:=om;rcases this with rfl|rfl|rfl|rfl|rfl|rfl|rfl|rfl<;>decide
theorem tZ{g:G}{a b:Nat}{c:C}(h:Walk g.E a b c):0<=c.s/\0<=c.d/\(g.X b:Int)-g.X a<=c.s+c.d/\(g.X a:Int)-g.X b<=c.s+c.d/\(g.Y b:Int)-g.Y a<=c.s+c.d/\(g.Y a:Int)-g.Y b<=c.s+c.d/\(g.X b:Int)-g.X a+((g.Y b:Int)-g.Y a)<=c.s+2*c.d/\(g.X b:Int)-g.X a-((g.Y b:Int)-g.Y a)<=c.s+2*c.d/\(g.X a:Int)-g.X b+((g.Y b:Int)-g.Y a)<=c.s+2*c.d/\(g.X a:Int)-g.X b-((g.Y b:Int)-g.Y a)<=c.s+2*c.d:=by
 induction h with
 |nil=>simp[C.zero]
 |snoc _ e ih=>
  obtain⟨_,d,m,u,rfl,rfl⟩:=e;obtain⟨_,z,B⟩:=dV u;rcases si m with⟨e,k⟩|⟨e,F,I⟩
  .rw[e];simp only[C.add];omega
  .rw[e];simp only[C.add];omega
end G
variable {ax ay bx by_:Int}{I J:Nat}
structure KJ (I J:Nat) (ax ay bx by_:Int):Prop where
 ha:0<I->(ax=1\/ax= -1)/\(ay=1\/ay= -1)
 hb:0<J->(bx=1/\by_=0)\/(bx= -1/\by_=0)\/(bx=0/\by_=1)\/(bx=0/\by_= -1)
 hab:0<I->0<J->(bx=ax/\by_=0)\/(bx=0/\by_=ay)
theorem KJ.cases(h:KJ I J ax ay bx by_):(I=0/\J=0)\/(I=0/\((bx=1/\by_=0)\/(bx= -1/\by_=0)\/(bx=0/\by_=1)\/(bx=0/\by_= -1)))\/(J=0/\((ax=1/\ay=1)\/(ax=1/\ay= -1)\/(ax= -1/\ay=1)\/(ax= -1/\ay= -1)))\/((ax=1/\ay=1/\bx=1/\by_=0)\/(ax=1/\ay= -1/\bx=1/\by_=0)\/(ax= -1/\ay=1/\bx= -1/\by_=0)\/(ax= -1/\ay= -1/\bx= -1/\by_=0)\/(ax=1/\ay=1/\bx=0/\by_=1)\/(ax=1/\ay= -1/\bx=0/\by_= -1)\/(ax= -1/\ay=1/\bx=0/\by_=1)\/(ax= -1/\ay= -1/\bx=0/\by_= -1)):=by
 obtain⟨F,L,k⟩:=h;by_cases m:I=0
 .by_cases g:J=0
  .exact .inl ⟨m,g⟩
  .exact .inr (.inl ⟨m,L om⟩)
 .obtain⟨u,z⟩:=F om
  by_cases g:J=0
  .refine .inr (.inr (.inl ⟨g,?_⟩))
   rcases u with rfl|rfl<;>rcases z with rfl|rfl<;>simp
  .have B:=k om om
   refine .inr (.inr (.inr ?_));rcases u with rfl|rfl<;>rcases z with rfl|rfl<;>rcases B with⟨rfl,rfl⟩|⟨rfl,rfl⟩<;>simp
theorem AX(H:KJ I J ax ay bx by_){i j:Int}(B:0<=i)(F:0<=j)(Q:i<=I)(R:j<=J){px py:Int}(m:px=i*ax+j*bx)(u:py=i*ay+j*by_){sx sy s d:Int}(k:(s=j-1/\d=i/\((sx=1/\sy=0)\/(sx= -1/\sy=0)\/(sx=0/\sy=1)\/(sx=0/\sy= -1)))\/(s=j/\d=i-1/\(sx=1\/sx= -1)/\(sy=1\/sy= -1)))(O:0<=s)(P:0<=d)(S:px-sx<=s+d)(T:-(px-sx)<=s+d)(U:py-sy<=s+d)(Z:-(py-sy)<=s+d)(z1:px-sx+(py-sy)<=s+2*d)(z2:px-sx-(py-sy)<=s+2*d)(z3:-(px-sx)+(py-sy)<=s+2*d)(z4:-(px-sx)-(py-sy)<=s+2*d):(s=j-1/\d=i/\1<=j/\sx=bx/\sy=by_)\/(s=j/\d=i-1/\1<=i/\sx=ax/\sy=ay):=by
 rcases H.cases with⟨L,M⟩|⟨e,h⟩|⟨e,h⟩|h
 .exfalso;omega
 .have z:i=0:=om
  subst z;rw[Int.zero_mul,Int.zero_add]at m u;rcases k with⟨rfl,rfl,g⟩|⟨rfl,rfl,g⟩
  .left
   refine⟨rfl,rfl,om,?_⟩;rcases h with⟨rfl,rfl⟩|⟨rfl,rfl⟩|⟨rfl,rfl⟩|⟨rfl,rfl⟩<;>rcases g with⟨rfl,rfl⟩|⟨rfl,rfl⟩|⟨rfl,rfl⟩|⟨rfl,rfl⟩<;>first|exact⟨rfl,rfl⟩|(exfalso;omega)
  .exfalso;omega
 .have z:j=0:=om
  subst z;rw[Int.zero_mul,Int.add_zero]at m u;rcases k with⟨rfl,rfl,g⟩|⟨rfl,rfl,g⟩
  .exfalso;omega
  .right
   refine⟨rfl,rfl,om,?_⟩;rcases h with⟨rfl,rfl⟩|⟨rfl,rfl⟩|⟨rfl,rfl⟩|⟨rfl,rfl⟩<;>rcases g with⟨rfl|rfl,rfl|rfl⟩<;>first|exact⟨rfl,rfl⟩|(exfalso;omega)
 .rcases k with⟨rfl,rfl,g⟩|⟨rfl,rfl,g⟩
  .left
   refine⟨rfl,rfl,om,?_⟩
   rcases h with⟨rfl,rfl,rfl,rfl⟩|⟨rfl,rfl,rfl,rfl⟩|⟨rfl,rfl,rfl,rfl⟩|⟨rfl,rfl,rfl,rfl⟩|⟨rfl,rfl,rfl,rfl⟩|⟨rfl,rfl,rfl,rfl⟩|⟨rfl,rfl,rfl,rfl⟩|⟨rfl,rfl,rfl,rfl⟩<;>
    rcases g with⟨rfl,rfl⟩|⟨rfl,rfl⟩|⟨rfl,rfl⟩|⟨rfl,rfl⟩<;>first|exact⟨rfl,rfl⟩|(exfalso;omega)
  .right
   refine⟨rfl,rfl,om,?_⟩
   rcases h with⟨rfl,rfl,rfl,rfl⟩|⟨rfl,rfl,rfl,rfl⟩|⟨rfl,rfl,rfl,rfl⟩|⟨rfl,rfl,rfl,rfl⟩|⟨rfl,rfl,rfl,rfl⟩|⟨rfl,rfl,rfl,rfl⟩|⟨rfl,rfl,rfl,rfl⟩|⟨rfl,rfl,rfl,rfl⟩<;>
    rcases g with⟨rfl|rfl,rfl|rfl⟩<;>first|exact⟨rfl,rfl⟩|(exfalso;omega)
theorem Mm(H:KJ I J ax ay bx by_){px py:Int}{s d u v:Int}(hs:s+u=J)(hd:d+v=I)(h0:0<=s)(h1:0<=d)(h2:0<=u)(h3:0<=v){g k:Int}(B:g=I*ax+J*bx)(F:k=I*ay+J*by_)(x1:px<=s+d)(x2:-px<=s+d)(y1:py<=s+d)(y2:-py<=s+d)(z1:px+py<=s+2*d)(z2:px-py<=s+2*d)(z3:-px+py<=s+2*d)(z4:-px-py<=s+2*d)(L:g-px<=u+v)(M:-(g-px)<=u+v)(O:k-py<=u+v)(P:-(k-py)<=u+v)(Q:g-px+(k-py)<=u+2*v)(R:g-px-(k-py)<=u+2*v)(S:-(g-px)+(k-py)<=u+2*v)(T:-(g-px)-(k-py)<=u+2*v):px=d*ax+s*bx/\py=d*ay+s*by_:=by
 rcases H.cases with⟨U,Z⟩|⟨e,h⟩|⟨e,h⟩|h
 .have m:d=0:=om
  have z:s=0:=om;subst m;subst z;simp only[Int.zero_mul];omega
 .have m:d=0:=om
  subst m;subst e;rcases h with⟨rfl,rfl⟩|⟨rfl,rfl⟩|⟨rfl,rfl⟩|⟨rfl,rfl⟩<;>simp only[Int.zero_mul]at* <;>omega
 .have m:s=0:=om
  subst m;subst e;rcases h with⟨rfl,rfl⟩|⟨rfl,rfl⟩|⟨rfl,rfl⟩|⟨rfl,rfl⟩<;>simp only[Int.zero_mul]at* <;>omega
 .rcases h with⟨rfl,rfl,rfl,rfl⟩|⟨rfl,rfl,rfl,rfl⟩|⟨rfl,rfl,rfl,rfl⟩|⟨rfl,rfl,rfl,rfl⟩|⟨rfl,rfl,rfl,rfl⟩|⟨rfl,rfl,rfl,rfl⟩|⟨rfl,rfl,rfl,rfl⟩|⟨rfl,rfl,rfl,rfl⟩<;>omega
def zJ(n:Int):Int:=if n<0 then -1 else if 0<n then 1 else 0
theorem vg(n:Int):(n<0/\zJ n= -1)\/(n=0/\zJ n=0)\/(0<n/\zJ n=1):=by grind [zJ]
def kX(x y:Int):Nat:=
 if x=0/\y= -1 then 0 else if x=1/\y= -1 then 1 else if x=1/\y=0 then 2 else if x=1/\y=1 then 3
 else if x=0/\y=1 then 4 else if x= -1/\y=1 then 5 else if x= -1/\y=0 then 6 else if x= -1/\y= -1 then 7 else 0
theorem kg(x y:Int):kX x y<8:=by grind [kX]
theorem jy{d:Nat}(h:d<8):kX (bL d) (bD d)=d:=by
 have:d=0\/d=1\/d=2\/d=3\/d=4\/d=5\/d=6\/d=7:=om;rcases this with rfl|rfl|rfl|rfl|rfl|rfl|rfl|rfl<;>decide
theorem BD{x y:Int}(g:x=1\/x= -1)(k:y=1\/y= -1):bL (kX x y)=x/\bD (kX x y)=y/\bu (kX x y)=⟨0,1⟩:=by grind [kX,bL,bD,bu]
theorem zL{x y:Int}(h:(x=1/\y=0)\/(x= -1/\y=0)\/(x=0/\y=1)\/(x=0/\y= -1)):bL (kX x y)=x/\bD (kX x y)=y/\bu (kX x y)=⟨1,0⟩:=by grind [kX,bL,bD,bu]
namespace G
variable {i j v:Nat}
variable (g:G) (a b:Nat)
def G5:Int:=(g.X b:Int)-g.X a
def G6:Int:=(g.Y b:Int)-g.Y a
def fI:Nat:=min (g.G5 a b).natAbs (g.G6 a b).natAbs
def fJ:Nat:=max (g.G5 a b).natAbs (g.G6 a b).natAbs-min (g.G5 a b).natAbs (g.G6 a b).natAbs
def JF:Int:=zJ (g.G5 a b)
def JG:Int:=zJ (g.G6 a b)
def JH:Int:=if(g.G6 a b).natAbs<=(g.G5 a b).natAbs then zJ (g.G5 a b)else 0
def JI:Int:=if(g.G6 a b).natAbs<=(g.G5 a b).natAbs then 0 else zJ (g.G6 a b)
def sG:Nat:=kX (g.JF a b) (g.JG a b)
def gJ:Nat:=kX (g.JH a b) (g.JI a b)
def fx(i j:Nat):Int:=g.X a+i*g.JF a b+j*g.JH a b
def fy(i j:Nat):Int:=g.Y a+i*g.JG a b+j*g.JI a b
def bR(i j:Nat):Nat:=g.cell (g.fx a b i j).toNat (g.fy a b i j).toNat
theorem yJ:KJ (g.fI a b) (g.fJ a b) (g.JF a b) (g.JG a b) (g.JH a b) (g.JI a b):=by grind [fI,fJ,JF,JG,JH,JI,vg,zJ,KJ]
theorem nG:g.cZ a b=⟨g.fJ a b,g.fI a b⟩:=by grind [cZ,dD,fI,fJ,G5,G6]
theorem OU:g.G5 a b=g.fI a b*g.JF a b+g.fJ a b*g.JH a b/\g.G6 a b=g.fI a b*g.JG a b+g.fJ a b*g.JI a b:=by grind [fI,fJ,JF,JG,JH,JI,vg,zJ]
variable {g a b}
theorem R8(k:g.ok)(F:b<g.n)(B:a<g.n)(T:i<=g.fI a b)(U:j<=g.fJ a b):0<=g.fx a b i j/\g.fx a b i j<g.w/\0<=g.fy a b i j/\g.fy a b i j<g.h:=by
 have P:=ji k a;have Q:=ji k b;have R:=iJ B;have S:=iJ F;obtain⟨u,z⟩:=g.OU a b;have H:=g.yJ a b;unfold fx fy;unfold G5 at u;unfold G6 at z;generalize g.JF a b=L at*;generalize g.JG a b=M at*;generalize g.JH a b=O at*;generalize g.JI a b=m at*;generalize g.fI a b=I at*;generalize g.fJ a b=J at*;rcases H.cases with⟨Z,q2⟩|⟨e,h⟩|⟨e,h⟩|h
 .have:i=0:=om
  have:j=0:=om;subst i;subst j;simp only[Int.natCast_zero,Int.zero_mul];omega
 .have:i=0:=om
  subst i;subst e;rcases h with⟨rfl,rfl⟩|⟨rfl,rfl⟩|⟨rfl,rfl⟩|⟨rfl,rfl⟩<;>simp only[Int.natCast_zero,Int.zero_mul]at* <;>omega
 .have:j=0:=om
  subst j;subst e;rcases h with⟨rfl,rfl⟩|⟨rfl,rfl⟩|⟨rfl,rfl⟩|⟨rfl,rfl⟩<;>simp only[Int.natCast_zero,Int.zero_mul]at* <;>omega
 .rcases h with⟨rfl,rfl,rfl,rfl⟩|⟨rfl,rfl,rfl,rfl⟩|⟨rfl,rfl,rfl,rfl⟩|⟨rfl,rfl,rfl,rfl⟩|⟨rfl,rfl,rfl,rfl⟩|⟨rfl,rfl,rfl,rfl⟩|⟨rfl,rfl,rfl,rfl⟩|⟨rfl,rfl,rfl,rfl⟩<;>omega
theorem iY(u:g.ok)(m:b<g.n)(k:a<g.n)(z:i<=g.fI a b)(B:j<=g.fJ a b):g.bR a b i j<g.n/\(g.X (g.bR a b i j):Int)=g.fx a b i j/\(g.Y (g.bR a b i j):Int)=g.fy a b i j:=by
 obtain⟨F,I,J,L⟩:=R8 u m k z B;unfold bR;rw[qI om,qJ om];exact⟨pq om om,om,om⟩
theorem iX(u:g.ok)(m:b<g.n)(k:a<g.n)(z:i<=g.fI a b)(B:j<=g.fJ a b)(J:(g.X v:Int)=g.fx a b i j)(L:(g.Y v:Int)=g.fy a b i j):v=g.bR a b i j:=by
 obtain⟨_,F,I⟩:=iY u m k z B;rw[<-gM g v,<-gM g (g.bR a b i j)];rw[show g.X v=g.X (g.bR a b i j)by omega,show g.Y v=g.Y (g.bR a b i j)by omega]
theorem mV:g.bR a b 0 0=a:=by grind [bR,fx,fy,gM]
theorem uF(B:g.ok)(z:b<g.n)(u:a<g.n):g.bR a b (g.fI a b) (g.fJ a b)=b:=by
 obtain⟨k,m⟩:=g.OU a b;refine(iX B z u (Zi _) (Zi _) ?_ ?_).symm
 .unfold fx;unfold G5 at k;omega
 .unfold fy;unfold G6 at m;omega
def On(g:G)(a b i j:Nat):Prop:=Walk g.E a (g.bR a b i j) ⟨j,i⟩
def lH(g:G)(a b i j:Nat):Prop:=Walk g.E (g.bR a b i j) b ⟨(g.fJ a b:Int)-j,(g.fI a b:Int)-i⟩
theorem Ep(h:0<g.fI a b):bL (g.sG a b)=g.JF a b/\bD (g.sG a b)=g.JG a b/\bu (g.sG a b)=⟨0,1⟩:=by
 obtain⟨k,m⟩:=(g.yJ a b).ha h;exact BD k m
theorem Ev(h:0<g.fJ a b):bL (g.gJ a b)=g.JH a b/\bD (g.gJ a b)=g.JI a b/\bu (g.gJ a b)=⟨1,0⟩:=
 zL ((g.yJ a b).hb h)
theorem uK(i j:Nat):g.fx a b (i+1) j=g.fx a b i j+g.JF a b/\g.fy a b (i+1) j=g.fy a b i j+g.JG a b:=by
 unfold fx fy;rw[show((i+1:Nat):Int)=i+1 by omega,Int.add_mul,Int.add_mul,Int.one_mul,Int.one_mul];omega
theorem uL(i j:Nat):g.fx a b i (j+1)=g.fx a b i j+g.JH a b/\g.fy a b i (j+1)=g.fy a b i j+g.JI a b:=by
 unfold fx fy;rw[show((j+1:Nat):Int)=j+1 by omega,Int.add_mul,Int.add_mul,Int.one_mul,Int.one_mul];omega
theorem GX(z:g.ok)(u:b<g.n)(m:a<g.n)(B:i<g.fI a b)(F:j<=g.fJ a b)(I:g.may (g.fx a b i j) (g.fy a b i j) (g.sG a b)=true):g.E (g.bR a b i j) (g.bR a b (i+1) j) ⟨0,1⟩:=by
 obtain⟨J,L,M⟩:=iY z u m (Nat.le_of_lt B) F;obtain⟨P,Q,O⟩:=Ep (show 0<g.fI a b by omega);have k:g.fG (g.bR a b i j) (g.sG a b)=true:=by unfold fG;rw[L,M];exact I
 obtain⟨_,R,S⟩:=dV k;obtain⟨u1,u2⟩:=uK (g:=g) (a:=a) (b:=b) i j;refine⟨J,g.sG a b,kg _ _,k,?_,O.symm⟩;exact(iX z u m (i:=i+1) B F om om).symm
theorem GY(z:g.ok)(u:b<g.n)(m:a<g.n)(B:i<=g.fI a b)(F:j<g.fJ a b)(I:g.may (g.fx a b i j) (g.fy a b i j) (g.gJ a b)=true):g.E (g.bR a b i j) (g.bR a b i (j+1)) ⟨1,0⟩:=by
 obtain⟨J,L,M⟩:=iY z u m B (Nat.le_of_lt F);obtain⟨P,Q,O⟩:=Ev (show 0<g.fJ a b by omega);have k:g.fG (g.bR a b i j) (g.gJ a b)=true:=by unfold fG;rw[L,M];exact I
 obtain⟨_,R,S⟩:=dV k;obtain⟨u1,u2⟩:=uL (g:=g) (a:=a) (b:=b) i j;refine⟨J,g.gJ a b,kg _ _,k,?_,O.symm⟩;exact(iX z u m (j:=j+1) B F om om).symm
theorem En{u v d:Nat}(k:d<8)(m:g.fG u d=true)(z:v=g.to u d){x y:Int}(B:(g.X v:Int)=g.X u+x)(F:(g.Y v:Int)=g.Y u+y):d=kX x y:=by
 subst z;obtain⟨_,I,J⟩:=dV m;rw[show x=bL d by omega,show y=bD d by omega];exact(jy k).symm
theorem uV(Q:g.ok)(P:b<g.n)(O:a<g.n)(Z:i<=g.fI a b)(hj:j<=g.fJ a b):g.On a b i j↔(i=0/\j=0)\/(∃k,i=k+1/\g.On a b k j/\g.may (g.fx a b k j) (g.fy a b k j) (g.sG a b)=true)\/(∃u,j=u+1/\g.On a b i u/\g.may (g.fx a b i u) (g.fy a b i u) (g.gJ a b)=true):=by
 constructor
 .intro h
  rcases Walk.inv h with⟨M,F⟩|⟨m,c,e,M,F,h3⟩
  .left
   have I:=congrArg C.s F;have J:=congrArg C.d F;simp[C.zero]at I J;exact⟨J,I⟩
  .right
   have hE:=F;obtain⟨aa,d,hd,R,S,rfl⟩:=F;obtain⟨f0,f1,x1,x2,y1,y2,z1,z2,z3,z4⟩:=tZ M;obtain⟨_,t1,t2⟩:=dV R;obtain⟨q1,q2,q3⟩:=iY Q P O Z hj;have I:=congrArg C.s h3;have J:=congrArg C.d h3;simp only[C.add]at I J;rw[<-S,q2]at t1;rw[<-S,q3]at t2;have p1:g.fx a b i j-g.X a=i*g.JF a b+j*g.JH a b:=by unfold fx;omega
   have p2:g.fy a b i j-g.Y a=i*g.JG a b+j*g.JI a b:=by unfold fy;omega
   have L:=AX (g.yJ a b) (i:=i) (j:=j) om om om om p1 p2 (sx:=bL d) (sy:=bD d) (s:=c.s) (d:=c.d)
    (by rcases si hd with⟨k1,k2⟩|⟨k1,k2,k3⟩
        .left;rw[k1]at I J;refine⟨by simp only at I;omega,by simp only at J;omega,k2⟩
        .right;rw[k1]at I J;refine⟨by simp only at I;omega,by simp only at J;omega,k2,k3⟩)
    f0 f1 om om om om om om om om
   rcases L with⟨l1,l2,l3,l4,l5⟩|⟨l1,l2,l3,l4,l5⟩
   .right
    obtain⟨u,rfl⟩:∃u,j=u+1:=⟨j-1,om⟩;obtain⟨u1,u2⟩:=uL (g:=g) (a:=a) (b:=b) i u;have B:m=g.bR a b i u:=iX Q P O Z om om om;have z:d=g.gJ a b:=by unfold gJ;rw[<-l4,<-l5];exact(jy hd).symm
    refine⟨u,rfl,?_,?_⟩
    .unfold On;rw[<-B]
     have:c=⟨(u:Int),(i:Int)⟩:=C.ext' (by simp only;omega) (by simp only;omega);rw[<-this];exact M
    .rw[<-z];unfold fG at R
     obtain⟨_,T,U⟩:=iY Q P O Z (show u<=g.fJ a b by omega);rw[<-B]at T U;rw[<-T,<-U];exact R
   .left
    obtain⟨k,rfl⟩:∃k,i=k+1:=⟨i-1,om⟩;obtain⟨u1,u2⟩:=uK (g:=g) (a:=a) (b:=b) k j;have B:m=g.bR a b k j:=iX Q P O om hj om om;have z:d=g.sG a b:=by unfold sG;rw[<-l4,<-l5];exact(jy hd).symm
    refine⟨k,rfl,?_,?_⟩
    .unfold On;rw[<-B]
     have:c=⟨(j:Int),(k:Int)⟩:=C.ext' (by simp only;omega) (by simp only;omega);rw[<-this];exact M
    .rw[<-z];unfold fG at R
     obtain⟨_,T,U⟩:=iY Q P O (show k<=g.fI a b by omega) hj;rw[<-B]at T U;rw[<-T,<-U];exact R
 .rintro(⟨rfl,rfl⟩|⟨k,rfl,M,F⟩|⟨u,rfl,M,F⟩)
  .unfold On;rw[mV];exact .nil a
  .have:=Walk.snoc M (GX Q P O om hj F)
   unfold On;have e:C.add ⟨(j:Int),(k:Int)⟩ ⟨0,1⟩=⟨(j:Int),((k+1:Nat):Int)⟩:=C.ext' (by simp[C.add]) (by simp[C.add]);rwa[e]at this
  .have:=Walk.snoc M (GY Q P O Z om F)
   unfold On;have e:C.add ⟨(u:Int),(i:Int)⟩ ⟨1,0⟩=⟨((u+1:Nat):Int),(i:Int)⟩:=C.ext' (by simp[C.add]) (by simp[C.add]);rwa[e]at this
variable {g:G} {a b:Nat}
theorem oq(O:g.ok)(M:b<g.n)(J:a<g.n)(U:i<=g.fI a b)(Z:j<=g.fJ a b):g.lH a b i j↔(i=g.fI a b/\j=g.fJ a b)\/(i<g.fI a b/\g.may (g.fx a b i j) (g.fy a b i j) (g.sG a b)=true/\g.lH a b (i+1) j)\/(j<g.fJ a b/\g.may (g.fx a b i j) (g.fy a b i j) (g.gJ a b)=true/\g.lH a b i (j+1)):=by
 obtain⟨q1,q2,q3⟩:=iY O M J U Z;constructor
 .intro h
  rcases Walk.X3 h with⟨u,z⟩|⟨m,c,e,z,u,h3⟩
  .left
   have B:=congrArg C.s z;have F:=congrArg C.d z;simp[C.zero]at B F;omega
  .right
   obtain⟨aa,d,T,hm,R,rfl⟩:=z;obtain⟨f0,f1,x1,x2,y1,y2,z1,z2,z3,z4⟩:=tZ u;obtain⟨_,t1,t2⟩:=dV hm;have B:=congrArg C.s h3;have F:=congrArg C.d h3;simp only[C.add]at B F;rw[<-R,q2]at t1;rw[<-R,q3]at t2;obtain⟨d1,d2⟩:=g.OU a b
   have p1:(g.X b:Int)-g.fx a b i j=((g.fI a b:Int)-i)*g.JF a b+((g.fJ a b:Int)-j)*g.JH a b:=by
    rw[Int.sub_mul,Int.sub_mul];unfold fx;unfold G5 at d1;omega
   have p2:(g.Y b:Int)-g.fy a b i j=((g.fI a b:Int)-i)*g.JG a b+((g.fJ a b:Int)-j)*g.JI a b:=by
    rw[Int.sub_mul,Int.sub_mul];unfold fy;unfold G6 at d2;omega
   have L:=AX (g.yJ a b) (i:=(g.fI a b:Int)-i) (j:=(g.fJ a b:Int)-j) om om om om p1 p2 (sx:=bL d) (sy:=bD d) (s:=c.s) (d:=c.d)
    (by rcases si T with⟨k1,k2⟩|⟨k1,k2,k3⟩
        .left;rw[k1]at B F;refine⟨by simp only at B;omega,by simp only at F;omega,k2⟩
        .right;rw[k1]at B F;refine⟨by simp only at B;omega,by simp only at F;omega,k2,k3⟩)
    f0 f1 om om om om om om om om
   rcases L with⟨l1,l2,l3,l4,l5⟩|⟨l1,l2,l3,l4,l5⟩
   .right
    have Q:j<g.fJ a b:=om;obtain⟨u1,u2⟩:=uL (g:=g) (a:=a) (b:=b) i j;have I:m=g.bR a b i (j+1):=iX O M J U om om om;have k:d=g.gJ a b:=by unfold gJ;rw[<-l4,<-l5];exact(jy T).symm
    refine⟨Q,?_,?_⟩
    .rw[<-k,<-q2,<-q3];exact hm
    .unfold lH;rw[<-I]
     have:c=⟨(g.fJ a b:Int)-((j+1:Nat):Int),(g.fI a b:Int)-i⟩:=C.ext' (by simp only;omega) (by simp only;omega);rw[<-this];exact u
   .left
    have P:i<g.fI a b:=om;obtain⟨u1,u2⟩:=uK (g:=g) (a:=a) (b:=b) i j;have I:m=g.bR a b (i+1) j:=iX O M J om Z om om;have k:d=g.sG a b:=by unfold sG;rw[<-l4,<-l5];exact(jy T).symm
    refine⟨P,?_,?_⟩
    .rw[<-k,<-q2,<-q3];exact hm
    .unfold lH;rw[<-I]
     have:c=⟨(g.fJ a b:Int)-j,(g.fI a b:Int)-((i+1:Nat):Int)⟩:=C.ext' (by simp only;omega) (by simp only;omega);rw[<-this];exact u
 .rintro(⟨rfl,rfl⟩|⟨S,u,z⟩|⟨S,u,z⟩)
  .unfold lH;rw[uF O M J]
   have:=Walk.nil (E:=g.E) b;rw[show C.zero=⟨(g.fJ a b:Int)-g.fJ a b,(g.fI a b:Int)-g.fI a b⟩from C.ext' (by simp[C.zero]) (by simp[C.zero])]at this;exact this
  .have:=Walk.cons (GX O M J S Z u) z
   unfold lH;have e:C.add ⟨0,1⟩ ⟨(g.fJ a b:Int)-j,(g.fI a b:Int)-((i+1:Nat):Int)⟩=⟨(g.fJ a b:Int)-j,(g.fI a b:Int)-i⟩:=C.ext' (by simp[C.add]) (by simp only[C.add];omega);rwa[e]at this
  .have:=Walk.cons (GY O M J U S u) z
   unfold lH;have e:C.add ⟨1,0⟩ ⟨(g.fJ a b:Int)-((j+1:Nat):Int),(g.fI a b:Int)-i⟩=⟨(g.fJ a b:Int)-j,(g.fI a b:Int)-i⟩:=C.ext' (by simp only[C.add];omega) (by simp[C.add]);rwa[e]at this
def dL(g:G)(a b:Nat):Prop:=Walk g.E a b (g.cZ a b)
theorem Bb:g.dL a b↔df g.E a b (g.cZ a b):=⟨λh=>⟨h,λ_ k=>Io k⟩,λh=>h.1⟩
theorem Ka(u:g.ok)(m:b<g.n)(k:a<g.n):g.dL a b↔g.On a b (g.fI a b) (g.fJ a b):=by grind [dL,On,uF,nG]
theorem Mr:g.dL a b↔g.lH a b 0 0:=by grind [dL,lH,mV,nG]
theorem CW(hg:g.ok)(T:b<g.n)(S:a<g.n):(∃p q,Walk g.E a v p/\Walk g.E v b q/\C.add p q=g.cZ a b)↔∃i j,i<=g.fI a b/\j<=g.fJ a b/\v=g.bR a b i j/\g.On a b i j/\g.lH a b i j:=by
 constructor
 .rintro⟨p,q,B,F,k⟩
  rw[nG]at k;obtain⟨M,O,x1,x2,y1,y2,z1,z2,z3,z4⟩:=tZ B;obtain⟨m,z,aa,ab,ac,ad,ag,ai,al,am⟩:=tZ F;have J:=congrArg C.s k;have L:=congrArg C.d k;simp only[C.add]at J L;obtain⟨P,Q⟩:=g.OU a b;have U:g.G5 a b=(g.X b:Int)-g.X a:=rfl;have Z:g.G6 a b=(g.Y b:Int)-g.Y a:=rfl
  obtain⟨m1,m2⟩:=Mm (g.yJ a b) (px:=(g.X v:Int)-g.X a) (py:=(g.Y v:Int)-g.Y a) (s:=p.s) (d:=p.d) (u:=q.s) (v:=q.d) J L M O m z P Q
   om om om om om om om om
   om om om om om om om om
  obtain⟨i,hi⟩:=Zj O;obtain⟨j,hj⟩:=Zj M;rw[hi,hj]at m1 m2;have I:v=g.bR a b i j:=iX hg T S om om (by unfold fx;omega) (by unfold fy;omega);refine⟨i,j,om,om,I,?_,?_⟩
  .unfold On;rw[<-I,show(⟨(j:Int),(i:Int)⟩:C)=p from C.ext' (by simp only;omega) (by simp only;omega)];exact B
  .unfold lH;rw[<-I,show(⟨(g.fJ a b:Int)-j,(g.fI a b:Int)-i⟩:C)=q from C.ext' (by simp only;omega) (by simp only;omega)];exact F
 .rintro⟨i,j,B,F,rfl,k,R⟩
  refine⟨_,_,k,R,?_⟩;rw[nG];exact C.ext' (by simp only[C.add];omega) (by simp only[C.add];omega)
theorem Bc:g.dL a b↔g.dL b a:=by
 have k:∀a b,g.dL a b->g.dL b a:=by
  intro a b h;unfold dL at*;rw[fH];exact Walk.rev (E:=g.E) (λ_ _ _ m=>kQ m) h
 exact⟨k a b,k b a⟩
end G
end FR
namespace FR
variable {t:Nat}{hp:Nat->Option C}
structure FS (E:Nat->Nat->C->Prop) (fr N:Nat) (done hp:Nat->Option C) (back:Nat->Option Nat) (k:Nat) (pend:Nat->C->Prop):Prop where
 dij:Dt E fr done hp k pend
 frN:fr<N
 rngD:∀j,done j≠none->j<N
 rngH:∀j,hp j≠none->j<N
 b0:∀j,back j=none->(done j=none/\hp j=none)\/j=fr
 b1:∀j a,back j=some a->∃c d e,(done j=some c\/hp j=some c)/\done a=some d/\E a j e/\c=C.add d e
 bfr:back fr=none
 c1:∀j c,done j=some c->C.le c ⟨0,(eO (λi=>(done i).isSome) N:Int)-1⟩
 c2:∀j c,hp j=some c->C.le c ⟨0,(eO (λi=>(done i).isSome) N:Int)⟩
 last:∀c,done k=some c->∀i d,done i=some d->C.le d c
theorem FK(f:Nat->Option C)(t:Nat)(c:C):(λi=>(upd f t (some c) i).isSome)=upd (λi=>(f i).isSome) t true:=by
 funext i;unfold upd;split<;>rfl
theorem yx{done:Nat->Option C}{t N:Nat}(g:t<N)(h:done t=none)(c:C):eO (λi=>(upd done t (some c) i).isSome) N=eO (λi=>(done i).isSome) N+1:=by
 rw[FK];exact rW g (by rw[h];rfl)
theorem Ee{t N:Nat}(m:t<N)(h:hp t≠none):eO (λi=>(hp i).isSome) N=eO (λi=>(upd hp t none i).isSome) N+1:=by
 rw[<-rW (p:=λi=>(upd hp t none i).isSome) m (by simp[upd_same])];apply bO;intro k _;by_cases e:k=t
 .subst e
  rw[upd_same];cases g:hp k with
  |none=>exact absurd g h
  |some c=>simp[g]
 .rw[upd_ne _ _ e,upd_ne _ _ e]
theorem Au(N:Nat)(h:hp t≠none)(c:C):eO (λi=>(upd hp t (some c) i).isSome) N=eO (λi=>(hp i).isSome) N:=by
 apply bO;intro k _;by_cases e:k=t
 .subst e
  cases g:hp k with
  |none=>exact absurd g h
  |some c=>simp[upd_same,g]
 .simp only[upd_ne _ _ e]
theorem Le{p:Nat->Bool}{n:Nat}(h:eO p n=0):∀k,k<n->p k=false:=by
 induction n with
 |zero=>intro k m;omega
 |succ n g=>
  unfold eO at h g;rw[bC]at h;intro k m;by_cases e:k=n
  .subst e
   cases hp:p k with
   |false=>rfl
   |true=>simp[hp]at h
  .exact g om k om
theorem Aq(n:Nat):eO (λ_=>false) n=0:=by
 unfold eO;simp[iR]
namespace FS
variable {c:C}{pend':Nat->C->Prop}
variable {E:Nat->Nat->C->Prop} {fr N:Nat} {done hp:Nat->Option C} {back:Nat->Option Nat} {k:Nat} {pend:Nat->C->Prop}
theorem start(h:fr<N)(k:Nat):FS E fr N (λ_=>none) (upd (λ_=>none) fr (some C.zero)) (λ_=>none) k (λ_ _=>False) where
 dij:=Dt.start fr k
 frN:=h
 rngD:=λj g=>absurd rfl g
 rngH:=λj g=>by
  unfold upd at g;split at g
  .rename_i e;rw[e];exact h
  .exact absurd rfl g
 b0:=λj _=>by
  by_cases e:j=fr
  .exact .inr e
  .exact .inl ⟨rfl,upd_ne _ _ e⟩
 b1:=λj a h=>by cases h
 bfr:=rfl
 c1:=λj c h=>by cases h
 c2:=λj c h=>by
  unfold upd at h;split at h
  .cases h;exact C.aM (by simp[C.zero]) (by simp[C.zero])
  .cases h
 last:=λc h=>by cases h
theorem weaken(H:FS E fr N done hp back k pend)(h:∀b e,pend b e->pend' b e):FS E fr N done hp back k pend':=
 {H with dij:=⟨H.dij.i1,H.dij.i2,H.dij.i2',λa c b e x y=>(H.dij.i3 a c b e x y).imp_left λ⟨p,q⟩=>⟨p,h _ _ q⟩,H.dij.i4⟩}
theorem pop(R:∀a b c,E a b c->C.Nn c)(H:FS E fr N done hp back k λ_ _=>False){t:Nat}(F:hp t=some c)(I:∀j d,hp j=some d->C.le c d):FS E fr N (upd done t (some c)) (upd hp t none) back t (E t):=by
 have J:=H.rngH t (by rw[F];simp);have B:=(H.dij.i2 t c F).1;have u:=yx J B c;refine⟨H.dij.pop R F I,H.frN,?_,?_,?_,?_,H.bfr,?_,?_,?_⟩
 .intro j g
  unfold upd at g;split at g
  .rename_i e;rw[e];exact J
  .exact H.rngD j g
 .intro j g
  unfold upd at g;split at g
  .exact absurd rfl g
  .exact H.rngH j g
 .intro j g
  rcases H.b0 j g with⟨m,z⟩|h
  .left
   have e:j≠t:=by rintro rfl;rw[F]at z;cases z
   exact⟨(upd_ne _ _ e).trans m,(upd_ne _ _ e).trans z⟩
  .exact .inr h
 .intro j a S
  obtain⟨M,d,e,m,z,P,Q⟩:=H.b1 j a S;refine⟨M,d,e,?_,?_,P,Q⟩
  .by_cases q:j=t
   .subst q
    rw[upd_same];rcases m with m|m
    .rw[B]at m;cases m
    .rw[F]at m;exact .inl m
   .rw[upd_ne _ _ q,upd_ne _ _ q];exact m
  .by_cases q:a=t
   .subst q;rw[B]at z;cases z
   .rw[upd_ne _ _ q];exact z
 .intro j d g
  rw[u];unfold upd at g;split at g
  .cases g;exact C.le_trans (H.c2 _ _ F) (C.aM (Int.le_refl _) (by simp only;omega))
  .exact C.le_trans (H.c1 _ _ g) (C.aM (Int.le_refl _) (by simp only;omega))
 .intro j d g
  rw[u];unfold upd at g;split at g
  .cases g
  .exact C.le_trans (H.c2 _ _ g) (C.aM (Int.le_refl _) (by simp only;omega))
 .intro M O i d L
  rw[upd_same]at O;cases O;unfold upd at L;split at L
  .cases L;exact C.le_refl _
  .exact H.dij.i2' _ _ F _ _ L
theorem skip(H:FS E fr N done hp back k pend){b:Nat}(z:done b≠none)(m:∀g u,pend g u->pend' g u\/g=b):FS E fr N done hp back k pend':=
 {H with dij:=H.dij.skip z m}
theorem keep(H:FS E fr N done hp back k pend){b:Nat}{c e d:C}(F:done k=some c)(B:hp b=some d)(u:C.le d (C.add c e))(z:∀g m,pend g m->pend' g m\/(g=b/\m=e)):FS E fr N done hp back k pend':=
 {H with dij:=H.dij.keep F B u z}
theorem push(F:∀a b c,E a b c->C.Nn c)(H:FS E fr N done hp back k pend){b:Nat}{c e:C}(m:done k=some c)(L:E k b e)(M:C.le e ⟨0,1⟩)(I:b<N)(Q:done b=none)(P:∀d,hp b=some d->C.lt (C.add c e) d)(O:∀z B,pend z B->pend' z B\/(z=b/\B=e)):FS E fr N done (upd hp b (some (C.add c e))) (upd back b (some k)) k pend':=by
 have J:b≠fr:=by
  rintro rfl;rcases H.dij.i4 with x|x
  .rw[Q]at x;cases x
  .exact C.Bd (C.CZ ((H.dij.i1 _ _ m).1.nn F) (F _ _ _ L)) (P _ x)
 refine⟨H.dij.push F m L Q P (H.last _ m) O,H.frN,H.rngD,?_,?_,?_,?_,H.c1,?_,H.last⟩
 .intro j g
  unfold upd at g;split at g
  .rename_i q;rw[q];exact I
  .exact H.rngH j g
 .intro j g
  unfold upd at g;split at g
  .cases g
  .rename_i q
   rw[upd_ne _ _ q];exact H.b0 j g
 .intro j a u
  by_cases q:j=b
  .subst q
   rw[upd_same]at u;cases u;exact⟨_,_,_,.inr (upd_same _ _ _),m,L,rfl⟩
  .rw[upd_ne _ _ q]at u⊢
   exact H.b1 j a u
 .rw[upd_ne _ _ (Ne.symm J)];exact H.bfr
 .intro j d g
  unfold upd at g;split at g
  .cases g
   refine C.le_trans (C.add_le_add (H.c1 _ _ m) M) (C.aM ?_ ?_)<;>simp[C.add]
  .exact H.c2 _ _ g
end FS
structure BM (E:Nat->Nat->C->Prop) (fr N:Nat) (done:Nat->Option C) (back:Nat->Option Nat):Prop where
 frN:fr<N
 in_:∀t c,done t=some c->df E fr t c
 out:∀t,done t=none->∀c,¬Walk E fr t c
 rng:∀t,done t≠none->t<N
 b0:∀j,back j=none->done j=none\/j=fr
 b1:∀j a,back j=some a->∃c d e,done j=some c/\done a=some d/\E a j e/\c=C.add d e
 bfr:back fr=none
 small:∀j c,done j=some c->0<=c.s/\c.s<=512/\0<=c.d/\c.d<=512
end FR
namespace FR
variable {c:C}{g:G}{i:Nat}{f:Nat->Int}
def G.fault(g:G)(x:Int):Nat:=if x<0\/(g.n:Int)<=x then 1 else if g.b x.toNat=true then 4 else 0
theorem G.uE{x:Int}(h:x<0\/(g.n:Int)<=x):g.fault x=1:=if_pos h
theorem G.bQ{c:Nat}(h:c<g.n):g.fault (c:Nat)=if g.b c=true then 4 else 0:=by
 unfold G.fault;rw[if_neg om];rfl
theorem G.iP{x:Int}(h:g.fault x=0):∃c:Nat,x=c/\c<g.n/\g.b c=false:=by
 unfold G.fault at h;split at h
 .cases h
 .rename_i m
  split at h
  .cases h
  .rename_i k
   exact⟨x.toNat,om,om,by simpa using k⟩
def G.qd(g:G)(a b:Nat):Option Nat:=(g.moves a).findIdx? λd=>g.to a d==b
theorem G.QW{a d d':Nat}(I:d<8)(k:d'<8)(h:g.fG a d=true)(m:g.fG a d'=true)(e:g.to a d=g.to a d'):d=d':=by
 obtain⟨_,u,z⟩:=G.dV h;obtain⟨_,J,L⟩:=G.dV m;have B:=G.En I h rfl (x:=bL d) (y:=bD d) u z;have F:=G.En k m rfl (x:=bL d) (y:=bD d) (by rw[<-e];exact u) (by rw[<-e];exact z);rw[B,F]
theorem G.uS{a d:Nat}(h:d∈g.moves a):d<8/\g.fG a d=true:=by
 unfold G.moves at h;have:=List.mem_filter.1 h;exact⟨List.mem_range.1 this.1,this.2⟩
theorem G.EY(g:G)(a:Nat):(g.moves a).Nodup:=List.Pairwise.filter _ List.nodup_range
theorem G.vJ{a b:Nat}(h:g.qd a b=none):∀(j d:Nat),(g.moves a)[j]? =some d->g.to a d≠b:=by
 intro j d k;have:=List.findIdx?_eq_none_iff.1 h d (Ze k);simpa using this
theorem G.jB{a b i:Nat}(h:g.qd a b=some i):∃d:Nat,(g.moves a)[i]? =some d/\g.to a d=b/\∀(j z:Nat),(g.moves a)[j]? =some z->(g.to a z=b↔j=i):=by
 obtain⟨B,u,L⟩:=List.findIdx?_eq_some_iff_getElem.1 h;simp at u;have k:(g.moves a)[i]? =some (g.moves a)[i]:=Zc B;refine⟨(g.moves a)[i],k,u,λj z m=>⟨λe=>?_,λe=>?_⟩⟩
 .have F:=G.uS (Ze m)
  have I:=G.uS (List.getElem_mem B);have J:=G.QW F.1 I.1 F.2 I.2 (e.trans u.symm);rw[J,<-k]at m;exact(List.getElem?_inj (by exact(Zb.1 (m.trans k)).1) (g.EY a)).1 m
 .subst e
  rw[k]at m;injection m with m
  rw[<-m];exact u
def G.Gh(g:G)(a i:Nat):C:=bu ((g.moves a).getD i 0)
theorem G.Wi{a b:Nat}{e:C}(h:g.E a b e):∃i,g.qd a b=some i/\g.Gh a i=e:=by
 obtain⟨R,d,B,F,z,O⟩:=h;have k:d∈g.moves a:=by unfold G.moves;exact List.mem_filter.2 ⟨List.mem_range.2 B,F⟩
 cases I:g.qd a b with
 |none=>
  obtain⟨j,P⟩:=Zo k;exact absurd z.symm (G.vJ I j d P)
 |some i=>
  obtain⟨J,u,M,Q⟩:=G.jB I;have m:=G.uS (Ze u);have L:J=d:=G.QW m.1 B m.2 F (M.trans z);refine⟨i,rfl,?_⟩;unfold G.Gh;rw[Zk,u,O,L];rfl
def G.gL(g:G)(f:Nat->Int):Nat->Nat ⊕ C
 |0=>.inr C.zero
 |i+1=>match G.gL g f i with
  |.inl e=>.inl e
  |.inr c=>if g.fault (f i)≠0 then .inl (g.fault (f i))else if i=0 then .inr c else
   match g.qd (f (i-1)).toNat (f i).toNat with
   |none=>.inl 7
   |some k=>.inr (C.add c (g.Gh (f (i-1)).toNat k))
theorem G.Nj{i n e:Nat}(h:g.gL f i=.inl e)(m:i<=n):g.gL f n=.inl e:=by
 induction n with
 |zero=>obtain rfl:i=0:=om
        exact h
 |succ n k=>
  by_cases q:i=n+1
  .rw[<-q];exact h
  .have:=k om
   unfold G.gL;rw[this]
theorem G.KH(h:g.gL f (i+1)=.inr c):∃a:Nat,f i=a/\a<g.n/\g.b a=false:=by
 unfold G.gL at h;cases k:g.gL f i with
 |inl e=>rw[k]at h;simp at h
 |inr u=>
  rw[k]at h;simp only at h;split at h
  .cases h
  .rename_i m
   exact G.iP (by simpa using m)
def G.vK(g:G)(f:Nat->Int)(n:Nat):C×Nat:=match g.gL f n with
 |.inl e=>(C.zero,e)
 |.inr c=>if n=0 then(C.zero,7)else(c,0)
theorem G.o7{i n e:Nat}(h:g.gL f i=.inl e)(k:i<=n):g.vK f n=(C.zero,e):=by
 unfold G.vK;rw[G.Nj h k]
theorem G.Dl{n:Nat}(h:g.gL f n=.inr c)(k:0<n):g.vK f n=(c,0):=by
 unfold G.vK;rw[h];simp only;rw[if_neg om]
theorem G.rC(h:g.gL f i=.inr c)(k:g.fault (f i)≠0):g.gL f (i+1)=.inl (g.fault (f i)):=by
 rw[G.gL,h];simp only;rw[if_pos k]
theorem G.rE(k:g.fault (f 0)=0):g.gL f 1=.inr C.zero:=by
 rw[G.gL,G.gL];simp[k]
theorem G.BJ{i a b:Nat}(h:g.gL f (i+1)=.inr c)(m:g.fault (f (i+1))=0)(u:f i=a)(k:f (i+1)=b)(z:g.qd a b=none):g.gL f (i+2)=.inl 7:=by
 rw[k]at m;rw[G.gL,h];simp[m,u,k,z]
theorem G.vQ{i a b k:Nat}(h:g.gL f (i+1)=.inr c)(u:g.fault (f (i+1))=0)(z:f i=a)(m:f (i+1)=b)(B:g.qd a b=some k):g.gL f (i+2)=.inr (C.add c (g.Gh a k)):=by
 rw[m]at u;rw[G.gL,h];simp[u,z,m,B]
theorem G.Wj(g:G)(a k:Nat):0<=(g.Gh a k).s/\(g.Gh a k).s<=1/\0<=(g.Gh a k).d/\(g.Gh a k).d<=1:=by
 unfold G.Gh bu;split<;>simp
theorem G.Dm:∀{i:Nat}{c:C},g.gL f i=.inr c->0<=c.s/\c.s<=i/\0<=c.d/\c.d<=i
 |0,c,h=>by
  unfold G.gL at h;injection h with h;subst h;simp[C.zero]
 |i+1,c,h=>by
  unfold G.gL at h;cases m:g.gL f i with
  |inl e=>rw[m]at h;simp at h
  |inr u=>
   have z:=G.Dm m;rw[m]at h;simp only at h;split at h
   .cases h
   .split at h
    .injection h with h;subst h;omega
    .split at h
     .cases h
     .rename_i k _
      injection h with h;subst h
      have:=g.Wj (f (i-1)).toNat k;simp only[C.add];omega
theorem G.Gc{x:Nat->Nat}{c:Nat->C}{n:Nat}(F:c 0=C.zero)(u:∀i,i<n->f i=x i)(m:x 0<g.n/\g.b (x 0)=false)(I:g.ok)
 (J:∀i,i+1<n->∃e,g.E (x i) (x (i+1)) e/\c (i+1)=C.add (c i) e):∀i,i<n->g.gL f (i+1)=.inr (c i)
 |0,h=>by
  rw[F];refine G.rE ?_;rw[u 0 h,G.bQ m.1,m.2];rfl
 |i+1,h=>by
  have O:=G.Gc F u m I J i om;obtain⟨e,z,L⟩:=J i h;obtain⟨k,M,B⟩:=G.Wi z;rw[L,<-B];refine G.vQ O ?_ (u i om) (u (i+1) h) M;rw[u (i+1) h,G.bQ (G.Ws z),(G.UM I z).2];rfl
namespace BM
variable {g:G} {fr:Nat} {done:Nat->Option C} {back:Nat->Option Nat}
theorem lower(H:BM g.E fr g.n done back){x y:Nat}(F:back x=some y):∃c d,done x=some c/\done y=some d/\rk 512 d<rk 512 c:=by
 obtain⟨c,d,e,z,m,u,B⟩:=H.b1 x y F;refine⟨c,d,z,m,?_⟩;have k:=H.small _ _ m;refine zF ?_ (xL ⟨k.1,k.2.2.1⟩ k.2.1 k.2.2.2);rw[B];refine C.kI (G.Dw u) ?_;obtain⟨_,J,_,_,_,I⟩:=u;rw[I];unfold bu C.zero;split<;>simp
end BM
end FR
namespace FR
variable {c:C}
def Reach(E:Nat->Nat->C->Prop)(src:Nat->C->Prop)(j:Nat)(c:C):Prop:=∃s c0 d,src s c0/\Walk E s j d/\c=C.add c0 d
theorem Reach.snoc{E:Nat->Nat->C->Prop}{src:Nat->C->Prop}{a b:Nat}{c e:C}(h:Reach E src a c)(u:E a b e):Reach E src b (C.add c e):=by
 obtain⟨s,g,d,k,m,rfl⟩:=h;exact⟨s,g,_,k,m.snoc u,C.add_assoc _ _ _⟩
theorem Reach.src{E:Nat->Nat->C->Prop}{src:Nat->C->Prop}{s:Nat}(h:src s c):Reach E src s c:=⟨s,c,C.zero,h,.nil s,(C.add_zero c).symm⟩
def vT(E:Nat->Nat->C->Prop)(src:Nat->C->Prop)(j:Nat)(c:C):Prop:=Reach E src j c/\∀d,Reach E src j d->C.le c d
theorem Reach.one{E:Nat->Nat->C->Prop}{fr j:Nat}:Reach E (λs g=>s=fr/\g=C.zero) j c↔Walk E fr j c:=by
 constructor
 .rintro⟨s,g,d,⟨rfl,rfl⟩,h,rfl⟩
  rw[C.zero_add];exact h
 .intro h;exact⟨fr,C.zero,c,⟨rfl,rfl⟩,h,(C.zero_add c).symm⟩
theorem vT.one{E:Nat->Nat->C->Prop}{fr j:Nat}:vT E (λs g=>s=fr/\g=C.zero) j c↔df E fr j c:=by
 unfold vT df;simp only[Reach.one]
def bJ(L:Nat->Option C)(N:Nat):Nat:=eO (λi=>(L i).isSome) N
theorem jY(L:Nat->Option C)(N:Nat):bJ L N<=N:=jX _ _
theorem vY(L:Nat->Option C)(N b:Nat)(c:C):bJ L N<=bJ (upd L b (some c)) N:=by
 unfold bJ;rw[FK];exact vX _ _ _
theorem lQ{L:Nat->Option C}{N b:Nat}(g:b<N)(h:L b=none)(c:C):bJ (upd L b (some c)) N=bJ L N+1:=yx g h c
structure BF (E:Nat->Nat->C->Prop) (src:Nat->C->Prop) (N B M:Nat) (L:Nat->Option C):Prop where
 rng:∀j,L j≠none->j<N
 reach:∀j c,L j=some c->Reach E src j c/\C.Nn c
 bd:∀j c,L j=some c->C.le c ⟨0,((B+M*bJ L N:Nat):Int)⟩
namespace BF
variable {c:C}
variable {E:Nat->Nat->C->Prop} {src:Nat->C->Prop} {N B M:Nat} {L:Nat->Option C}
def K(N B M:Nat):Nat:=2*(B+M*(N+1))
def meas(N K:Nat)(L:Nat->Option C):Nat:=bC (λk=>match L k with|some c=>rk K c|none=>(K+1)*(K+1)+1) N
theorem start:BF E src N B M (λ_=>Option.none) where
 rng:=λ_ h=>absurd rfl h
 reach:=λ_ _ h=>by cases h
 bd:=λ_ _ h=>by cases h
theorem small(H:BF E src N B M L){j:Nat}(h:L j=some c):0<=c.s/\c.s<=2*(B+M*N)/\0<=c.d/\c.d<=2*(B+M*N):=by
 have k:=H.bd _ _ h;have g:=(H.reach _ _ h).2;have z:M*bJ L N<=M*N:=Nat.mul_le_mul_left _ (jY L N);obtain⟨m,u⟩:=C.gy g (b:=⟨0,((B+M*bJ L N:Nat):Int)⟩) ⟨rS,by simp only;omega⟩ k;obtain⟨F,I⟩:=g;simp only at m u;have J:((M*bJ L N:Nat):Int)<=((M*N:Nat):Int):=om;have e:((M*N:Nat):Int)=(M:Int)*N:=rS;omega
theorem put(Q:∀j c,Reach E src j c->C.Nn c)(H:BF E src N B M L){b:Nat}(J:b<N)(P:Reach E src b c)(F:∀d,L b=some d->C.lt c d)(O:L b=Option.none->C.le c ⟨0,((B+M*(bJ L N+1):Nat):Int)⟩):BF E src N B M (upd L b (some c))/\meas N (K N B M) (upd L b (some c))<meas N (K N B M) L:=by
 have u:=vY L N b c;have I:=Q _ _ P
 have z:C.le c ⟨0,((B+M*bJ (upd L b (some c)) N:Nat):Int)⟩:=by
  cases k:L b with
  |none=>rw[lQ J k];exact O k
  |some d=>exact C.le_trans (C.le_of_lt (F d k)) (C.le_trans (H.bd _ _ k) (C.aM (Int.le_refl _) (by have:=Nat.mul_le_mul_left M u;simp only;omega)))
 refine⟨⟨?_,?_,?_⟩,?_⟩
 .intro j g
  unfold upd at g;split at g
  .rename_i e;rw[e];exact J
  .exact H.rng j g
 .intro j d g
  unfold upd at g;split at g
  .rename_i e;cases g;rw[e];exact⟨P,I⟩
  .exact H.reach j d g
 .intro j d g
  by_cases e:j=b
  .subst e;rw[upd_same]at g;cases g;exact z
  .rw[upd_ne _ _ e]at g
   exact C.le_trans (H.bd _ _ g) (C.aM (Int.le_refl _) (by have:=Nat.mul_le_mul_left M u;simp only;omega))
 .have m:c∈box (K N B M):=by
   obtain⟨R,S⟩:=C.gy I (b:=⟨0,((B+M*bJ (upd L b (some c)) N:Nat):Int)⟩) ⟨rS,by simp only;omega⟩ z;have T:M*bJ (upd L b (some c)) N<=M*(N+1):=Nat.mul_le_mul_left _ (Nat.le_succ_of_le (jY _ N));simp only at R S;refine xL I ?_ ?_<;>unfold K<;>omega
  apply tT
  .intro j _
   by_cases q:j=b
   .subst q
    rw[upd_same];cases k:L j with
    |none=>exact Nat.le_succ_of_le (zD _ _)
    |some d=>exact Nat.le_of_lt (zF (F d k) m)
   .rw[upd_ne _ _ q];exact Zi _
  .refine⟨b,J,?_⟩
   rw[upd_same];cases k:L b with
   |none=>exact Nat.lt_succ_of_le (zD _ _)
   |some d=>exact zF (F d k) m
theorem Xn(z:∀j c,Reach E src j c->C.Nn c)(H:BF E src N B M L){k b:Nat}{c e:C}(u:L k=some c)(I:E k b e)(g:C.le e ⟨0,(M:Int)⟩)(F:b<N)(m:∀d,L b=some d->C.lt (C.add c e) d):BF E src N B M (upd L b (some (C.add c e)))/\meas N (K N B M) (upd L b (some (C.add c e)))<meas N (K N B M) L:=by
 refine H.put z F ((H.reach _ _ u).1.snoc I) m λJ=>?_;refine C.le_trans (C.add_le_add (H.bd _ _ u) g) (C.aM ?_ ?_)
 .simp[C.add]
 .simp only[C.add,Nat.mul_add];omega
theorem fin(Z:∀j c,Reach E src j c->C.Nn c)(H:BF E src N B M L)(S:∀s g,src s g->∃d,L s=some d/\C.le d g)(R:∀a c b e,L a=some c->E a b e->∃d,L b=some d/\C.le d (C.add c e))(t:Nat):(∀c,L t=some c->vT E src t c)/\(L t=Option.none->∀c,¬Reach E src t c):=by
 have F:∀s j d,Walk E s j d->∀g,src s g->∃u,L j=some u/\C.le u (C.add g d):=by
  intro s j d z
  induction z with
  |nil=>intro g k;rw[C.add_zero];exact S _ _ k
  |snoc T J U=>
   intro g k;obtain⟨u,m,I⟩:=U g k;obtain⟨O,P,Q⟩:=R _ _ _ _ m J;exact⟨O,P,C.le_trans Q (by rw[<-C.add_assoc];exact(C.add_le_right _).2 I)⟩
 refine⟨λc h=>⟨(H.reach _ _ h).1,?_⟩,?_⟩
 .rintro d ⟨s,g,u,k,z,rfl⟩
  obtain⟨x,m,I⟩:=F _ _ _ z _ k;rw[h]at m;cases m;exact I
 .rintro h c ⟨s,g,u,k,z,rfl⟩
  obtain⟨x,m,_⟩:=F _ _ _ z _ k;rw[h]at m;cases m
end BF
end FR
namespace FR
namespace G
variable {c d:C}{g:G}{b1 b2 e1 e2 i j mx my u v x x' y y':Int}{k p t:Nat}
def at_(g:G)(x y:Int):Nat:=g.cell x.toNat y.toNat
theorem Uj(h:g.op x y=true):g.at_ x y<g.n/\(g.X (g.at_ x y):Int)=x/\(g.Y (g.at_ x y):Int)=y:=by
 obtain⟨⟨m,z,B,F⟩,_⟩:=uW.1 h;unfold at_;rw[qI om,qJ om];exact⟨pq om om,om,om⟩
theorem Jl(c:Nat)(m:(g.X c:Int)=x)(z:(g.Y c:Int)=y):g.at_ x y=c:=by grind [at_,gM]
structure V where
 x:Int
 y:Int
def go(g:G)(x y u v:Int):Prop:=g.op x y=true/\g.op (x+u) (y+v)=true/\g.op (x+u) y=true/\g.op x (y+v)=true
theorem gX(h:(u=1/\v=0)\/(u= -1/\v=0)\/(u=0/\v=1)\/(u=0/\v= -1))(m:g.op x y=true)(z:g.op (x+u) (y+v)=true):g.go x y u v:=by
 refine⟨m,z,?_,?_⟩
 .rcases h with⟨rfl,rfl⟩|⟨rfl,rfl⟩|⟨rfl,rfl⟩|⟨rfl,rfl⟩<;>simp only[Int.add_zero]at* <;>assumption
 .rcases h with⟨rfl,rfl⟩|⟨rfl,rfl⟩|⟨rfl,rfl⟩|⟨rfl,rfl⟩<;>simp only[Int.add_zero]at* <;>assumption
theorem Us{d:Nat}(O:d<8)(P:bL d=u)(Q:bD d=v)(h:g.go x y u v):g.E (g.at_ x y) (g.at_ (x+u) (y+v)) (bu d):=by
 obtain⟨m,J,L,M⟩:=h;obtain⟨B,F,I⟩:=Uj m
 have z:g.fG (g.at_ x y) d=true:=by
  unfold fG;rw[F,I,iE,P,Q];exact⟨m,J,L,M⟩
 obtain⟨_,R,S⟩:=dV z;exact⟨B,d,O,z,Jl _ om om,rfl⟩
theorem lV(k:(u=1/\v=0)\/(u= -1/\v=0)\/(u=0/\v=1)\/(u=0/\v= -1))(h:g.go x y u v):g.E (g.at_ x y) (g.at_ (x+u) (y+v)) ⟨1,0⟩:=by
 obtain⟨m,z,B⟩:=zL k;have:=Us (kg u v) m z h;rwa[B]at this
theorem wK(k:(u=1\/u= -1)/\(v=1\/v= -1))(h:g.go x y u v):g.E (g.at_ x y) (g.at_ (x+u) (y+v)) ⟨0,1⟩:=by
 obtain⟨m,z,B⟩:=BD k.1 k.2;have:=Us (kg u v) m z h;rwa[B]at this
def av(g:G)(c:Nat):Prop:=c<g.n/\g.op (g.X c) (g.Y c)=true/\∃u v:Int,(u=1\/u= -1)/\(v=1\/v= -1)/\
 g.op (g.X c+u) (g.Y c+v)=false/\g.op (g.X c+u) (g.Y c)=true/\g.op (g.X c) (g.Y c+v)=true
theorem Av(B:g.op x y=true)(I:u=1\/u= -1)(J:v=1\/v= -1)(L:g.op (x+u) (y+v)=false)(M:g.op (x+u) y=true)(O:g.op x (y+v)=true):g.av (g.at_ x y):=by
 obtain⟨F,m,z⟩:=Uj B;refine⟨F,by rw[m,z];exact B,u,v,I,J,?_,?_,?_⟩<;>rw[m,z]<;>assumption
def Frame(b1 b2 e1 e2:Int):Prop:=((b1=1\/b1= -1)/\b2=0/\e1=0/\(e2=1\/e2= -1))\/(b1=0/\(b2=1\/b2= -1)/\(e1=1\/e1= -1)/\e2=0)
theorem Frame.b(h:Frame b1 b2 e1 e2):(b1=1/\b2=0)\/(b1= -1/\b2=0)\/(b1=0/\b2=1)\/(b1=0/\b2= -1):=by unfold Frame at h;omega
theorem Frame.e(h:Frame b1 b2 e1 e2):(e1=1/\e2=0)\/(e1= -1/\e2=0)\/(e1=0/\e2=1)\/(e1=0/\e2= -1):=by unfold Frame at h;omega
theorem Frame.a(h:Frame b1 b2 e1 e2):(b1+e1=1\/b1+e1= -1)/\(b2+e2=1\/b2+e2= -1):=by unfold Frame at h;omega
theorem Frame.neg(h:Frame b1 b2 e1 e2):Frame b1 b2 (-e1) (-e2):=by unfold Frame at*;omega
theorem jq(h:Frame b1 b2 e1 e2):g.go x y (b1+e1) (b2+e2)↔g.op x y=true/\g.op (x+b1+e1) (y+b2+e2)=true/\g.op (x+b1) (y+b2)=true/\g.op (x+e1) (y+e2)=true:=by
 unfold go;rw[show x+(b1+e1)=x+b1+e1 by omega,show y+(b2+e2)=y+b2+e2 by omega];rcases h with⟨_,rfl,rfl,_⟩|⟨rfl,_,_,rfl⟩<;>simp only[Int.add_zero]<;>constructor<;>(rintro⟨m,z,B,F⟩;refine⟨m,z,?_,?_⟩<;>assumption)
theorem uC(h:Frame b1 b2 e1 e2)(B:g.op x y=true)(F:g.op (x+b1+e1) (y+b2+e2)=false)(I:g.op (x+b1) (y+b2)=true)(J:g.op (x+e1) (y+e2)=true):g.av (g.at_ x y):=by
 rcases h with⟨m,rfl,rfl,z⟩|⟨rfl,m,z,rfl⟩
 .simp only[Int.add_zero]at*;exact Av B m z F I J
 .simp only[Int.add_zero]at*;exact Av B z m F J I
theorem Frame.VK(h:Frame b1 b2 e1 e2):Frame (-b1) (-b2) e1 e2:=by unfold Frame at*;omega
def je(g:G)(p e:Nat)(c:C):Prop:=(∃q c1 c2,g.av q/\Walk g.E p q c1/\Walk g.E q e c2/\C.add c1 c2=c/\c1≠C.zero/\c2≠C.zero)\/∃c',Walk g.E p e c'/\C.lt c' c
theorem je.back{p e t:Nat}(h:je g p e c)(k:Walk g.E e t d):je g p t (C.add c d):=by
 rcases h with⟨q,L,T,m,B,F,M,O,P⟩|⟨S,m,B⟩
 .refine .inl ⟨q,L,_,m,B,F.trans k,by rw[<-C.add_assoc,M],O,?_⟩
  intro z;have J:=k.nn λ_ _ _=>Dw;have I:=F.nn λ_ _ _=>Dw;apply P;have Q:=congrArg C.s z;have R:=congrArg C.d z;simp only[C.add,C.zero]at Q R;have:=J.1;have:=J.2;have:=I.1;have:=I.2;exact C.ext' (by simp only[C.zero];omega) (by simp only[C.zero];omega)
 .exact .inr ⟨_,m.trans k,(C.add_lt_right _).2 B⟩
inductive zS (g:G) (u v:Int):Nat->Int->Int->Int->Int->Prop
 |nil (x y:Int):zS g u v 0 x y x y
 |cons {k:Nat} {x y x' y':Int}:g.go x y u v->zS g u v k (x+u) (y+v) x' y'->zS g u v (k+1) x y x' y'
theorem zS.snoc{g:G}{u v:Int}{k:Nat}{x y m z:Int}(h:zS g u v k x y m z)(l:g.go m z u v):zS g u v (k+1) x y (m+u) (z+v):=by
 induction h with
 |nil=>exact .cons l (.nil _ _)
 |cons h1 _ ih=>exact .cons h1 (ih l)
theorem zS.Q4(m:(u=1/\v=0)\/(u= -1/\v=0)\/(u=0/\v=1)\/(u=0/\v= -1))(h:zS g u v k x y x' y'):Walk g.E (g.at_ x y) (g.at_ x' y') ⟨k,0⟩:=by
 induction h with
 |nil=>exact .nil _
 |cons h1 _ ih=>
  have:=Walk.cons (lV m h1) ih;refine cast (congrArg _ (C.ext' ?_ ?_)) this<;>simp only[C.add]<;>omega
theorem zS.Q5(m:(u=1\/u= -1)/\(v=1\/v= -1))(h:zS g u v k x y x' y'):Walk g.E (g.at_ x y) (g.at_ x' y') ⟨0,k⟩:=by
 induction h with
 |nil=>exact .nil _
 |cons h1 _ ih=>
  have:=Walk.cons (wK m h1) ih;refine cast (congrArg _ (C.ext' ?_ ?_)) this<;>simp only[C.add]<;>omega
theorem je.less{c d d':C}(h:Walk g.E p t (C.add c d'))(k:C.lt d' d):je g p t (C.add c d):=.inr ⟨_,h,(C.add_lt_left _).2 k⟩
theorem je.at{p q t:Nat}{c m z:C}(I:g.av q)(h:Walk g.E p q m)(k:Walk g.E q t z)(e:c=C.add m z)(B:m≠C.zero)(F:z≠C.zero):je g p t c:=
 .inl ⟨q,m,z,I,h,k,e.symm,B,F⟩
theorem iV(h:C.Nn c)(k:0<=d.s/\0<=d.d/\0<d.s+d.d):C.add c d≠C.zero:=by
 intro z;have m:=congrArg C.s z;have B:=congrArg C.d z;simp only[C.add,C.zero]at m B;have:=h.1;have:=h.2;omega
theorem Rj{a b:Nat}(h:Walk g.E a b c):C.Nn c:=h.nn λ_ _ _=>Dw
theorem Dk(F:Frame b1 b2 e1 e2)(h:Walk g.E p (g.at_ x y) c)(m:g.go x y b1 b2)(z:g.go (x+b1) (y+b2) e1 e2):je g p (g.at_ (x+b1+e1) (y+b2+e2)) (C.add c ⟨2,0⟩):=by
 cases J:g.op (x+e1) (y+e2)with
 |true=>
  have L:g.go x y (b1+e1) (b2+e2):=(jq F).2 ⟨m.1,z.2.1,m.2.1,J⟩;have:=h.snoc (wK F.a L);rw[show x+(b1+e1)=x+b1+e1 by omega,show y+(b2+e2)=y+b2+e2 by omega]at this;exact .less this rD
 |false=>
  have B:=lV F.b m;have I:=lV F.e z;refine .at (uC F.VK z.1 ?_ ?_ z.2.1) (h.snoc B) (.single I) ?_ (iV (Rj h) rD) rD
  .rw[show x+b1+ -b1+e1=x+e1 by omega,show y+b2+ -b2+e2=y+e2 by omega];exact J
  .rw[show x+b1+ -b1=x by omega,show y+b2+ -b2=y by omega];exact m.1
  .rw[C.add_assoc];rfl
theorem IX(F:Frame b1 b2 e1 e2)(h:Walk g.E p (g.at_ x y) c):je g p (g.at_ x y) (C.add c ⟨2,0⟩):=.less (d':=C.zero) (by rwa[C.add_zero]) rD
theorem F7(F:Frame b1 b2 e1 e2)(h:Walk g.E p (g.at_ x y) c)(z:g.go x y b1 b2)(B:g.go (x+b1) (y+b2) (-b1+e1) (-b2+e2)):je g p (g.at_ (x+e1) (y+e2)) (C.add c ⟨1,1⟩):=by
 obtain⟨_,m,_,_⟩:=(jq F.VK).1 B;rw[show x+b1+ -b1+e1=x+e1 by omega,show y+b2+ -b2+e2=y+e2 by omega]at m;exact .less (h.snoc (lV F.e (gX F.e z.1 m))) rD
theorem IW(h:Walk g.E p (g.at_ x y) c):je g p (g.at_ x y) (C.add c ⟨0,2⟩):=.less (d':=C.zero) (by rwa[C.add_zero]) rD
theorem KF(F:Frame b1 b2 e1 e2)(h:Walk g.E p (g.at_ x y) c)(m:g.go x y (b1+e1) (b2+e2)):je g p (g.at_ (x+e1) (y+e2)) (C.add c ⟨1,1⟩):=by
 obtain⟨z,_,_,B⟩:=(jq F).1 m;exact .less (h.snoc (lV F.e (gX F.e z B))) rD
theorem Frame.swap(h:Frame b1 b2 e1 e2):Frame e1 e2 b1 b2:=by unfold Frame at*;omega
theorem Dj(F:Frame b1 b2 e1 e2)(h:Walk g.E p (g.at_ x y) c)(J:g.go x y (b1+e1) (b2+e2))(L:g.go (x+(b1+e1)) (y+(b2+e2)) (b1-e1) (b2-e2)):je g p (g.at_ (x+b1+b1) (y+b2+b2)) (C.add c ⟨0,2⟩):=by
 obtain⟨M,_,z,_⟩:=(jq F).1 J;have m:g.go (x+(b1+e1)) (y+(b2+e2)) (b1+-e1) (b2+-e2):=L;obtain⟨_,B,_,_⟩:=(jq F.neg).1 m;rw[show x+(b1+e1)+b1+ -e1=x+b1+b1 by omega,show y+(b2+e2)+b2+ -e2=y+b2+b2 by omega]at B;have O:=h.snoc (lV F.b (gX F.b M z));have I:=O.snoc (lV F.b (gX F.b z B));rw[C.add_assoc]at I;exact .less I rD
theorem F6(F:Frame b1 b2 e1 e2):∀(k:Nat)(c:C)(x y z B:Int),Walk g.E p (g.at_ x y) c->g.go x y b1 b2->
 zS g (b1+e1) (b2+e2) k (x+b1) (y+b2) z B->g.go z B e1 e2->je g p (g.at_ (z+e1) (B+e2)) (C.add c ⟨2,k⟩)
 |0,c,x,y,z,B,h,I,m,J=>by cases m;exact Dk F h I J
 |k+1,c,x,y,z,B,h,I,m,J=>by
  cases m with
  |cons m r=>
  obtain⟨Q,R,Z,L⟩:=(jq F).1 m;cases M:g.op (x+e1) (y+e2)with
  |true=>
   have P:g.go x y (b1+e1) (b2+e2):=(jq F).2 ⟨I.1,L,Q,M⟩;have T:=h.snoc (wK F.a P)
   have O:g.go (x+(b1+e1)) (y+(b2+e2)) b1 b2:=gX F.b (by rw[show x+(b1+e1)=x+b1+e1 by omega,show y+(b2+e2)=y+b2+e2 by omega];exact L)
    (by rw[show x+(b1+e1)+b1=x+b1+b1+e1 by omega,show y+(b2+e2)+b2=y+b2+b2+e2 by omega];exact R)
   have S:zS g (b1+e1) (b2+e2) k (x+(b1+e1)+b1) (y+(b2+e2)+b2) z B:=by
    rw[show x+(b1+e1)+b1=x+b1+(b1+e1)by omega,show y+(b2+e2)+b2=y+b2+(b2+e2)by omega];exact r
   have:=F6 F k _ _ _ _ _ T O S J;rwa[C.add_assoc,show C.add ⟨0,1⟩ ⟨2,(k:Int)⟩=⟨2,((k+1:Nat):Int)⟩from C.ext' rfl (by simp only[C.add];omega)]at this
  |false=>
   have U:=(zS.Q5 F.a (.cons m r)).snoc (lV F.e J);refine .at (uC F.VK m.1 ?_ ?_ L) (h.snoc (lV F.b I)) U ?_ (iV (Rj h) rD) (iV ⟨by simp only;omega,by simp only;omega⟩ rD)
   .rw[show x+b1+ -b1+e1=x+e1 by omega,show y+b2+ -b2+e2=y+e2 by omega];exact M
   .rw[show x+b1+ -b1=x by omega,show y+b2+ -b2=y by omega];exact I.1
   .exact C.ext' (by simp only[C.add];omega) (by simp only[C.add];omega)
theorem F5(F:Frame b1 b2 e1 e2):∀(k:Nat)(c:C)(x y z B:Int),Walk g.E p (g.at_ x y) c->g.go x y (b1+e1) (b2+e2)->
 zS g b1 b2 k (x+(b1+e1)) (y+(b2+e2)) z B->g.go z B (b1-e1) (b2-e2)->je g p (g.at_ (z+(b1-e1)) (B+(b2-e2))) (C.add c ⟨k,2⟩)
 |0,c,x,y,z,B,h,I,m,J=>by
  cases m;have:=Dj F h I J;rw[show x+(b1+e1)+(b1-e1)=x+b1+b1 by omega,show y+(b2+e2)+(b2-e2)=y+b2+b2 by omega];exact this
 |k+1,c,x,y,z,B,h,I,m,J=>by
  cases m with
  |cons m r=>
  obtain⟨R,S,M,u⟩:=(jq F).1 I;have P:g.op (x+b1+e1+b1) (y+b2+e2+b2)=true:=by have:=m.2.1;rwa[show x+(b1+e1)+b1=x+b1+e1+b1 by omega,show y+(b2+e2)+b2=y+b2+e2+b2 by omega]at this
  cases O:g.op (x+b1+b1) (y+b2+b2)with
  |true=>
   have U:=h.snoc (lV F.b (gX F.b R M));have Q:g.go (x+b1) (y+b2) (b1+e1) (b2+e2):=(jq F).2 ⟨M,by rw[show x+b1+b1+e1=x+b1+e1+b1 by omega,show y+b2+b2+e2=y+b2+e2+b2 by omega];exact P,O,S⟩
   have T:zS g b1 b2 k (x+b1+(b1+e1)) (y+b2+(b2+e2)) z B:=by
    rw[show x+b1+(b1+e1)=x+(b1+e1)+b1 by omega,show y+b2+(b2+e2)=y+(b2+e2)+b2 by omega];exact r
   have:=F5 F k _ _ _ _ _ U Q T J;rwa[C.add_assoc,show C.add ⟨1,0⟩ ⟨(k:Int),2⟩=⟨((k+1:Nat):Int),2⟩from C.ext' (by simp only[C.add];omega) rfl]at this
  |false=>
   have L:g.go z B (b1+-e1) (b2+-e2):=J;have Z:=(zS.Q4 F.b (.cons m r)).snoc (wK F.neg.a L);refine .at (uC F.neg m.1 ?_ m.2.1 ?_) (h.snoc (wK F.a I)) Z ?_ (iV (Rj h) rD) (iV ⟨by simp only;omega,by simp only;omega⟩ rD)
   .rw[show x+(b1+e1)+b1+ -e1=x+b1+b1 by omega,show y+(b2+e2)+b2+ -e2=y+b2+b2 by omega];exact O
   .rw[show x+(b1+e1)+ -e1=x+b1 by omega,show y+(b2+e2)+ -e2=y+b2 by omega];exact M
   .exact C.ext' (by simp only[C.add];omega) (by simp only[C.add];omega)
theorem zS.last(h:zS g u v k x y x' y'):(k=0/\x'=x/\y'=y)\/∃j m z,k=j+1/\zS g u v j x y m z/\g.go m z u v/\x'=m+u/\y'=z+v:=by
 induction h with
 |nil=>exact .inl ⟨rfl,rfl,rfl⟩
 |cons B r L=>
  rcases L with⟨rfl,rfl,rfl⟩|⟨j,m,z,rfl,M,J,F,I⟩
  .exact .inr ⟨0,_,_,rfl,.nil _ _,B,rfl,rfl⟩
  .exact .inr ⟨j+1,m,z,rfl,.cons B M,J,F,I⟩
inductive XQ (g:G) (p:Nat) (b1 b2 e1 e2 x y i j:Int) (c':C):Prop
 |zero (hi:i=0) (hj:j=0)
 |b (c:C) (mx my:Int) (h:Walk g.E p (g.at_ mx my) c) (k:g.go mx my b1 b2) (ex:x=mx+b1) (ey:y=my+b2) (ec:c'=C.add c ⟨1,0⟩) (hi:i=0) (hj:0<j)
 |a (c:C) (mx my:Int) (h:Walk g.E p (g.at_ mx my) c) (k:g.go mx my (b1+e1) (b2+e2)) (ex:x=mx+(b1+e1)) (ey:y=my+(b2+e2)) (ec:c'=C.add c ⟨0,1⟩) (hi:0<i) (hj:j=0)
 |ab (c:C) (k:Nat) (mx my:Int) (h:Walk g.E p (g.at_ mx my) c) (l:g.go mx my (b1+e1) (b2+e2)) (r:zS g b1 b2 (k+1) (mx+(b1+e1)) (my+(b2+e2)) x y) (ec:c'=C.add c ⟨((k+1:Nat):Int),1⟩) (hi:0<i) (hj:0<j)
 |ba (c:C) (k:Nat) (mx my:Int) (h:Walk g.E p (g.at_ mx my) c) (l:g.go mx my b1 b2) (r:zS g (b1+e1) (b2+e2) (k+1) (mx+b1) (my+b2) x y) (ec:c'=C.add c ⟨1,((k+1:Nat):Int)⟩) (hi:0<i) (hj:0<j)
structure Inv (g:G) (p:Nat) (x y:Int) (b1 b2 e1 e2 i j:Int):Prop where
 F:Frame b1 b2 e1 e2
 hi:0<=i
 hj:0<=j
 ex:x=g.X p+i*(b1+e1)+j*b1
 ey:y=g.Y p+i*(b2+e2)+j*b2
 w:Walk g.E p (g.at_ x y) ⟨j,i⟩
 t:XQ g p b1 b2 e1 e2 x y i j ⟨j,i⟩
theorem wH(F:Frame b1 b2 e1 e2):((u=1/\v=0)\/(u= -1/\v=0)\/(u=0/\v=1)\/(u=0/\v= -1)->(u=b1/\v=b2)\/(u= -b1/\v= -b2)\/(u=e1/\v=e2)\/(u= -e1/\v= -e2))/\((u=1\/u= -1)/\(v=1\/v= -1)->(u=b1+e1/\v=b2+e2)\/(u=b1-e1/\v=b2-e2)\/(u= -b1+e1/\v= -b2+e2)\/(u= -b1-e1/\v= -b2-e2)):=by grind [Frame]
theorem Inv.cZ(H:Inv g p x y b1 b2 e1 e2 i j):dD (x-g.X p) (y-g.Y p)=⟨j,i⟩:=by grind [dD,Frame,G,Inv]
theorem fC{c m:C}(h:je g p (g.at_ x y) c)(B:x'=x)(F:y'=y)(z:m=c):je g p (g.at_ x' y') m:=by grind
theorem Ew{x y u v x' y' m z:Int}(h:g.go x y u v)(I:x'=x)(J:y'=y)(B:m=u)(F:z=v):g.go x' y' m z:=by grind
theorem Wn{a b c d:Int}(h:a=c)(k:b=d):(⟨a,b⟩:C)=⟨c,d⟩:=by rw[h,k]
theorem lastB(F:Frame b1 b2 e1 e2)(h:Walk g.E p (g.at_ mx my) c)(k:g.go mx my b1 b2)(m:g.go (mx+b1) (my+b2) u v)(z:(u= -b1/\v= -b2)\/(u=e1/\v=e2)\/(u= -e1/\v= -e2)):je g p (g.at_ (mx+b1+u) (my+b2+v)) (C.add (C.add c ⟨1,0⟩) ⟨1,0⟩):=by
 have e:C.add (C.add c ⟨1,0⟩) ⟨1,0⟩=C.add c ⟨2,0⟩:=by rw[C.add_assoc];rfl
 rw[e];rcases z with⟨rfl,rfl⟩|⟨rfl,rfl⟩|⟨rfl,rfl⟩
 .exact fC (IX F h) om om rfl
 .exact Dk F h k m
 .exact Dk F.neg h k m
theorem Pq(F:Frame b1 b2 e1 e2)(h:Walk g.E p (g.at_ mx my) c)(k:g.go mx my b1 b2)(m:g.go (mx+b1) (my+b2) u v)(z:(u= -b1+e1/\v= -b2+e2)\/(u= -b1-e1/\v= -b2-e2)):je g p (g.at_ (mx+b1+u) (my+b2+v)) (C.add (C.add c ⟨1,0⟩) ⟨0,1⟩):=by
 have e:C.add (C.add c ⟨1,0⟩) ⟨0,1⟩=C.add c ⟨1,1⟩:=by rw[C.add_assoc];rfl
 rw[e];rcases z with⟨rfl,rfl⟩|⟨rfl,rfl⟩
 .exact fC (F7 F h k m) om om rfl
 .exact fC (F7 F.neg h k m) om om rfl
theorem JW(F:Frame b1 b2 e1 e2)(h:Walk g.E p (g.at_ mx my) c)(k:g.go mx my (b1+e1) (b2+e2))(m:(u= -b1/\v= -b2)\/(u= -e1/\v= -e2)):je g p (g.at_ (mx+(b1+e1)+u) (my+(b2+e2)+v)) (C.add (C.add c ⟨0,1⟩) ⟨1,0⟩):=by
 have e:C.add (C.add c ⟨0,1⟩) ⟨1,0⟩=C.add c ⟨1,1⟩:=by rw[C.add_assoc];rfl
 rw[e];rcases m with⟨rfl,rfl⟩|⟨rfl,rfl⟩
 .exact fC (KF F h k) om om rfl
 .exact fC (KF F.swap h (Ew k rfl rfl om om)) om om rfl
theorem Pp(F:Frame b1 b2 e1 e2)(h:Walk g.E p (g.at_ mx my) c)(k:g.go mx my (b1+e1) (b2+e2))(m:g.go (mx+(b1+e1)) (my+(b2+e2)) u v)(z:(u=b1-e1/\v=b2-e2)\/(u= -b1+e1/\v= -b2+e2)\/(u= -b1-e1/\v= -b2-e2)):je g p (g.at_ (mx+(b1+e1)+u) (my+(b2+e2)+v)) (C.add (C.add c ⟨0,1⟩) ⟨0,1⟩):=by
 have e:C.add (C.add c ⟨0,1⟩) ⟨0,1⟩=C.add c ⟨0,2⟩:=by rw[C.add_assoc];rfl
 rw[e];rcases z with⟨rfl,rfl⟩|⟨rfl,rfl⟩|⟨rfl,rfl⟩
 .exact fC (Dj F h k m) om om rfl
 .exact fC (Dj F.swap h (Ew k rfl rfl om om) (Ew m om om om om)) om om rfl
 .exact fC (IW h) om om rfl
theorem pV(i b:Int):(i+1)*b=i*b+b:=by rw[Int.add_mul,Int.one_mul]
theorem CK(H:Inv g p x y b1 b2 e1 e2 i j)(M:g.go x y u v)(hu:(u=1/\v=0)\/(u= -1/\v=0)\/(u=0/\v=1)\/(u=0/\v= -1)):(∃b1 b2 e1 e2 j',Inv g p (x+u) (y+v) b1 b2 e1 e2 i j'/\j'=j+1)\/je g p (g.at_ (x+u) (y+v)) (C.add ⟨j,i⟩ ⟨1,0⟩):=by
 obtain⟨F,U,hj,ex,ey,w,t⟩:=H;have J:=(wH F).1 hu
 have T:Walk g.E p (g.at_ (x+u) (y+v)) ⟨j+1,i⟩:=by
  have:=w.snoc (lV hu M);rwa[show C.add ⟨j,i⟩ ⟨1,0⟩=⟨j+1,i⟩from Wn rfl (Int.add_zero _)]at this
 have aa:=pV j b1;have ac:=pV j b2;cases t with
 |zero L S=>
  subst L;subst S
  obtain⟨d1,d2,F'⟩:∃d1 d2,Frame u v d1 d2:=by
   rcases hu with⟨rfl,rfl⟩|⟨rfl,rfl⟩|⟨rfl,rfl⟩|⟨rfl,rfl⟩
   .exact⟨0,1,.inl ⟨.inl rfl,rfl,rfl,.inl rfl⟩⟩
   .exact⟨0,1,.inl ⟨.inr rfl,rfl,rfl,.inl rfl⟩⟩
   .exact⟨1,0,.inr ⟨rfl,.inl rfl,.inl rfl,rfl⟩⟩
   .exact⟨1,0,.inr ⟨rfl,.inr rfl,.inl rfl,rfl⟩⟩
  refine .inl ⟨u,v,d1,d2,1,⟨F',om,om,om,om,T,.b ⟨0,0⟩ x y w M rfl rfl rfl rfl om⟩,rfl⟩
 |b c Q R h k m B I L S=>
  subst m;subst B;rcases J with⟨rfl,rfl⟩|J
  .exact .inl ⟨_,_,_,_,_,⟨F,U,om,om,om,T,.b _ _ _ w M rfl rfl (Wn rfl (Int.add_zero _).symm) L om⟩,rfl⟩
  .right;rw[I];exact lastB F h k M J
 |a c Q R h k m B I L S=>
  subst m;subst B;subst S;rcases J with⟨rfl,rfl⟩|J|⟨rfl,rfl⟩|J
  .refine .inl ⟨_,_,_,_,_,⟨F,U,om,om,om,T,.ab c 0 Q R h k (.cons M (.nil _ _)) ?_ L om⟩,rfl⟩
   have O:=congrArg C.s I;have P:=congrArg C.d I;simp only[C.add]at O P;exact C.ext' (by simp only[C.add];omega) (by simp only[C.add];omega)
  .right;rw[I];exact JW F h k (.inl J)
  .refine .inl ⟨_,_,_,_,_,⟨F.swap,U,om,by rw[Int.add_comm u b1];omega,by rw[Int.add_comm v b2];omega,T,.ab c 0 Q R h (Ew k rfl rfl om om) ?_ ?_ L om⟩,rfl⟩
   .rw[Int.add_comm u b1,Int.add_comm v b2];exact .cons M (.nil _ _)
   .have O:=congrArg C.s I;have P:=congrArg C.d I
    simp only[C.add]at O P;exact C.ext' (by simp only[C.add];omega) (by simp only[C.add];omega)
  .right;rw[I];exact JW F h k (.inr J)
 |ab c k Q R h l r I L S=>
  rcases J with⟨rfl,rfl⟩|J
  .refine .inl ⟨_,_,_,_,_,⟨F,U,om,om,om,T,.ab c (k+1) Q R h l (r.snoc M) ?_ L om⟩,rfl⟩
   have O:=congrArg C.s I;have P:=congrArg C.d I;simp only[C.add]at O P;exact C.ext' (by simp only[C.add];omega) (by simp only[C.add];omega)
  .right
   rcases r.last with⟨z,_⟩|⟨k',nx,ny,z,r',Z,m,B⟩
   .omega
   .obtain rfl:k'=k:=om
    subst m;subst B;have w2:=(h.snoc (wK F.a l)).trans (r'.Q4 F.b);have:=lastB F w2 Z M J;refine fC this rfl rfl ?_;have O:=congrArg C.s I;have P:=congrArg C.d I;simp only[C.add]at O P;exact C.ext' (by simp only[C.add];omega) (by simp only[C.add];omega)
 |ba c k Q R h l r I L S=>
  have O:=congrArg C.s I;have P:=congrArg C.d I;simp only[C.add]at O P;rcases r.last with⟨z,_⟩|⟨k',nx,ny,z,r',Z,m,B⟩
  .omega
  obtain rfl:k'=k:=om;have w2:=(h.snoc (lV F.b l)).trans (r'.Q5 F.a);rcases J with⟨rfl,rfl⟩|J|⟨rfl,rfl⟩|J
  .refine .inl ⟨_,_,_,_,_,⟨F,U,om,om,om,T,.ab _ 0 nx ny w2 Z ?_ ?_ L om⟩,rfl⟩
   .rw[<-m,<-B];exact .cons M (.nil _ _)
   .exact C.ext' (by simp only[C.add];omega) (by simp only[C.add];omega)
  .right;subst m;subst B
   refine fC (JW F w2 Z (.inl J)) rfl rfl ?_;exact C.ext' (by simp only[C.add];omega) (by simp only[C.add];omega)
  .right
   refine fC (F6 F (k'+1) c Q R x y h l r M) rfl rfl ?_;exact C.ext' (by simp only[C.add];omega) (by simp only[C.add];omega)
  .right;subst m;subst B
   refine fC (JW F w2 Z (.inr J)) rfl rfl ?_;exact C.ext' (by simp only[C.add];omega) (by simp only[C.add];omega)
theorem Pk(H:Inv g p x y b1 b2 e1 e2 i j)(J:g.go x y u v)(Z:(u=1\/u= -1)/\(v=1\/v= -1)):(∃b1 b2 e1 e2 i',Inv g p (x+u) (y+v) b1 b2 e1 e2 i' j/\i'=i+1)\/je g p (g.at_ (x+u) (y+v)) (C.add ⟨j,i⟩ ⟨0,1⟩):=by
 obtain⟨F,hi,S,ex,ey,w,t⟩:=H;have I:=(wH F).2 Z
 have R:Walk g.E p (g.at_ (x+u) (y+v)) ⟨j,i+1⟩:=by
  have:=w.snoc (wK Z J);rwa[show C.add ⟨j,i⟩ ⟨0,1⟩=⟨j,i+1⟩from Wn (Int.add_zero _) rfl]at this
 have aa:=pV i (b1+e1);have ac:=pV i (b2+e2);cases t with
 |zero Q M=>
  subst Q;subst M;refine .inl ⟨u,0,0,v,1,⟨.inl ⟨Z.1,rfl,rfl,Z.2⟩,om,om,om,om,R,.a ⟨0,0⟩ x y w (Ew J rfl rfl om om) om om rfl om rfl⟩,rfl⟩
 |b c O P h k m B L Q M=>
  subst m;subst B;subst Q;have T:=congrArg C.s L;have U:=congrArg C.d L;simp only[C.add]at T U;rcases I with⟨rfl,rfl⟩|⟨rfl,rfl⟩|I
  .exact .inl ⟨_,_,_,_,_,⟨F,om,S,om,om,R,.ba c 0 O P h k (.cons J (.nil _ _)) (C.ext' (by simp only[C.add];omega) (by simp only[C.add];omega)) om M⟩,rfl⟩
  .exact .inl ⟨b1,b2,-e1,-e2,_,⟨F.neg,om,S,om,om,R,.ba c 0 O P h k (.cons J (.nil _ _)) (C.ext' (by simp only[C.add];omega) (by simp only[C.add];omega)) om M⟩,rfl⟩
  .right;rw[L];exact Pq F h k J I
 |a c O P h k m B L Q M=>
  subst m;subst B;rcases I with⟨rfl,rfl⟩|I
  .exact .inl ⟨_,_,_,_,_,⟨F,om,S,om,om,R,.a _ _ _ w J rfl rfl (Wn (Int.add_zero _).symm rfl) om M⟩,rfl⟩
  .right;rw[L];exact Pp F h k J I
 |ab c k O P h l r L Q M=>
  have T:=congrArg C.s L;have U:=congrArg C.d L;simp only[C.add]at T U;rcases r.last with⟨z,_⟩|⟨k',nx,ny,z,r',l',m,B⟩
  .omega
  obtain rfl:k'=k:=om;have w2:=(h.snoc (wK F.a l)).trans (r'.Q4 F.b);rcases I with⟨rfl,rfl⟩|⟨rfl,rfl⟩|I
  .refine .inl ⟨_,_,_,_,_,⟨F,om,S,om,om,R,.ba _ 0 nx ny w2 l' ?_ ?_ om M⟩,rfl⟩
   .rw[<-m,<-B];exact .cons J (.nil _ _)
   .exact C.ext' (by simp only[C.add];omega) (by simp only[C.add];omega)
  .right
   refine fC (F5 F (k'+1) c O P x y h l r J) rfl rfl ?_;exact C.ext' (by simp only[C.add];omega) (by simp only[C.add];omega)
  .right;subst m;subst B
   refine fC (Pq F w2 l' J I) rfl rfl ?_;exact C.ext' (by simp only[C.add];omega) (by simp only[C.add];omega)
 |ba c k O P h l r L Q M=>
  have T:=congrArg C.s L;have U:=congrArg C.d L;simp only[C.add]at T U;rcases I with⟨rfl,rfl⟩|I
  .refine .inl ⟨_,_,_,_,_,⟨F,om,S,om,om,R,.ba c (k+1) O P h l (r.snoc J) ?_ om M⟩,rfl⟩
   exact C.ext' (by simp only[C.add];omega) (by simp only[C.add];omega)
  .right
   rcases r.last with⟨z,_⟩|⟨k',nx,ny,z,r',l',m,B⟩
   .omega
   .obtain rfl:k'=k:=om
    subst m;subst B;have w2:=(h.snoc (lV F.b l)).trans (r'.Q5 F.a);refine fC (Pp F w2 l' J I) rfl rfl ?_;exact C.ext' (by simp only[C.add];omega) (by simp only[C.add];omega)
theorem Ng{p e:Nat}(h:Walk g.E p e c):(∃m z B F i j,Inv g p (g.X e) (g.Y e) m z B F i j/\c=⟨j,i⟩)\/je g p e c:=by
 induction h with
 |nil=>exact .inl ⟨1,0,0,1,0,0,⟨.inl ⟨.inl rfl,rfl,rfl,.inl rfl⟩,om,om,om,om,by rw[Jl p rfl rfl];exact .nil _,.zero rfl rfl⟩,rfl⟩
 | @snoc e t c d w Q k=>
  rcases k with⟨m,z,B,F,i,j,H,rfl⟩|T
  .obtain⟨_,P,U,R,rfl,rfl⟩:=Q
   obtain⟨Z,J,L⟩:=dV R;have S:g.go (g.X e) (g.Y e) (bL P) (bD P):=by have:=R;unfold fG at this;exact iE.1 this
   rw[J,L];rcases si U with⟨M,O⟩|⟨M,O⟩
   .rw[M]
    rcases CK H S O with⟨m,z,B,F,j',I,rfl⟩|T
    .exact .inl ⟨_,_,_,_,_,_,I,Wn rfl (Int.add_zero _)⟩
    .right;rwa[<-J,<-L,Jl _ rfl rfl]at T
   .rw[M]
    rcases Pk H S O with⟨m,z,B,F,u,I,rfl⟩|T
    .exact .inl ⟨_,_,_,_,_,_,I,Wn (Int.add_zero _) rfl⟩
    .right;rwa[<-J,<-L,Jl _ rfl rfl]at T
  .exact .inr (T.back (.single Q))
theorem Nh{p e:Nat}(h:Walk g.E p e c):c=g.cZ p e\/je g p e c:=by
 rcases Ng h with⟨m,z,B,F,i,j,H,rfl⟩|T
 .left;rw[fH];exact H.cZ.symm
 .exact .inr T
theorem oF{p e:Nat}(h:df g.E p e c)(O:c≠g.cZ p e):∃q m z,g.av q/\df g.E p q m/\df g.E q e z/\C.add m z=c/\m≠C.zero/\z≠C.zero:=by
 rcases Nh h.1 with rfl|⟨q,m,z,F,B,J,I,L,M⟩|⟨P,F,B⟩
 .exact absurd rfl O
 .refine⟨q,m,z,F,⟨B,λd k=>?_⟩,⟨J,λd k=>?_⟩,I,L,M⟩
  .have:=h.2 _ (k.trans J);rw[<-I]at this;exact(C.add_le_right _).1 this
  .have:=h.2 _ (B.trans k);rw[<-I]at this;exact(C.add_le_left _).1 this
 .exact absurd B (h.2 _ F)
end G
end FR
namespace FR
theorem pX{g:G}{a b:Nat}{c:C}(h:Walk g.E a b c)(I:c=C.zero):b=a:=by
 rcases h.inv with⟨e,_⟩|⟨m,d,e,J,L,u⟩
 .exact e
 .exfalso
  have M:=G.Rj J;obtain⟨_,k,_,_,_,F⟩:=L;rw[I]at u;have z:=congrArg C.s u;have B:=congrArg C.d u;obtain⟨O,P⟩:=M;rcases Nat.mod_two_eq_zero_or_one k with q|q
  .have:bu k=⟨1,0⟩:=by unfold bu;rw[if_neg om]
   rw[F,this]at z;simp only[C.add,C.zero]at z;omega
  .have:bu k=⟨0,1⟩:=by unfold bu;rw[if_pos q]
   rw[F,this]at B;simp only[C.add,C.zero]at B;omega
namespace G
variable {c:C}
variable {g:G}
def Mid(g:G)(a b k:Nat):Prop:=∃p q,Walk g.E a k p/\Walk g.E k b q/\C.add p q=g.cZ a b
def aK(g:G)(a b:Nat):Prop:=g.dL a b/\∀k,g.av k->k≠a->k≠b->¬g.Mid a b k
theorem PV{a b k:Nat}:g.Mid a b k↔g.Mid b a k:=by
 have m:∀a b,g.Mid a b k->g.Mid b a k:=by
  rintro a b ⟨p,q,z,B,F⟩;exact⟨q,p,Walk.rev (E:=g.E) (λ_ _ _ u=>kQ u) B,Walk.rev (E:=g.E) (λ_ _ _ u=>kQ u) z,by rw[C.add_comm,F,fH]⟩
 exact⟨m a b,m b a⟩
theorem gW{a b:Nat}:g.aK a b↔g.aK b a:=by
 have m:∀a b,g.aK a b->g.aK b a:=λa b⟨u,z⟩=>⟨Bc.1 u,λk I B F J=>z k I F B (PV.1 J)⟩
 exact⟨m a b,m b a⟩
def GE(g:G)(a b:Nat)(c:C):Prop:=g.av a/\g.av b/\a≠b/\g.aK a b/\c=g.cZ a b
theorem Wu{a b:Nat}(h:g.GE a b c):C.Nn c:=h.2.2.2.2▸VL g a b
theorem BN{a b:Nat}(h:g.GE a b c):g.GE b a c:=⟨h.2.1,h.1,Ne.symm h.2.2.1,gW.1 h.2.2.2.1,h.2.2.2.2.trans (fH g a b)⟩
theorem BO{a b:Nat}(h:Walk g.GE a b c):Walk g.E a b c:=by
 induction h with
 |nil=>exact .nil _
 |snoc _ he ih=>rw[he.2.2.2.2];exact ih.trans he.2.2.2.1.1
theorem sum_lt{k g c:C}(z:C.Nn k)(B:C.Nn g)(h:C.add k g=c)(F:g≠C.zero):(k.s+k.d).toNat<(c.s+c.d).toNat:=by
 obtain⟨I,J⟩:=z;obtain⟨L,M⟩:=B
 have:0<g.s+g.d:=by
  apply Zu;intro O;exact F (C.ext' (by simp only[C.zero];omega) (by simp only[C.zero];omega))
 have m:=congrArg C.s h;have u:=congrArg C.d h;simp only[C.add]at m u;omega
theorem yA:∀(n:Nat){a b:Nat}{c:C},(c.s+c.d).toNat<=n->g.av a->g.av b->df g.E a b c->Walk g.GE a b c:=by
 intro n
 induction n using Nat.strongRecOn with
 |_ n ih=>
  intro a b c hn U Z h
  have split:∀{q:Nat}{F I:C},g.av q->df g.E a q F->df g.E q b I->C.add F I=c->F≠C.zero->I≠C.zero->Walk g.GE a b c:=by
   intro q F I M m u e S T;have n1:=Rj m.1;have n2:=Rj u.1;have l1:=sum_lt n1 n2 e T;have l2:=sum_lt n2 n1 (c:=c) ((C.add_comm _ _).trans e) S;have w1:=ih _ (Zf l1 hn) (Zi _) U M m;have w2:=ih _ (Zf l2 hn) (Zi _) M Z u;rw[<-e];exact w1.trans w2
  by_cases L:c=g.cZ a b
  .by_cases J:a=b
   .subst J
    rw[L,Fh];exact .nil _
   .by_cases hd:g.aK a b
    .exact .single ⟨U,Z,J,hd,L⟩
    .have z:g.dL a b:=by unfold dL;rw[<-L];exact h.1
     have:∃k,g.av k/\k≠a/\k≠b/\g.Mid a b k:=by
      apply Zu;intro Q;exact hd ⟨z,λk m u B h4=>Q ⟨k,m,u,B,h4⟩⟩
     obtain⟨k,hk,O,P,p,q,m,u,B⟩:=this;rw[<-L]at B;refine split hk ⟨m,λd R=>?_⟩ ⟨u,λd R=>?_⟩ B (λe=>O (pX m e)) (λe=>P (pX u e).symm)
     .have:=h.2 _ (R.trans u);rw[<-B]at this;exact(C.add_le_right _).1 this
     .have:=h.2 _ (m.trans R);rw[<-B]at this;exact(C.add_le_left _).1 this
  .obtain⟨q,F,I,M,m,u,e,S,T⟩:=oF h L
   exact split M m u e S T
end G
end FR
