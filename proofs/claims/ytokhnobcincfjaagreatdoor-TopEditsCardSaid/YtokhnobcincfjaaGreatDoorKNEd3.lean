/- Lemmas of this claim: MathLevels2, MathLv3, MathAsk, MathSearch, MathSr, MathGSet, MathHeap2. -/
import Derived.Test.YtokhnobcincfjaaGreatDoorKNEd2
set_option linter.unusedVariables false
set_option linter.unusedSimpArgs false
set_option linter.unusedSectionVars false
namespace FR
open Classical
namespace LS
variable {c:C}{S:LS}{N a b top:Nat}{E:Nat->Nat->C->Prop}
noncomputable def first(g:FR.G):LS where
 lev:=λ_=>0
 eg:=λa b=>if g.GE a b (g.bV a b)then some (g.bV a b,-1)else none
theorem jb{g:FR.G}{m:Int}(h:(first g).eg a b=some (c,m)):g.GE a b c/\c=g.bV a b/\m= -1:=by
 unfold first at h
 simp only at h;split at h
 .rename_i q;injection h with h;injection h with k u;subst k;subst u;exact⟨q,rfl,rfl⟩
 .cases h
theorem CX{g:FR.G}(h:g.GE a b c):g.GE a b (g.bV a b):=⟨h.1,h.2.1,h.2.2.1,h.2.2.2.1,rfl⟩
theorem uW{g:FR.G}(h:g.GE a b c):(first g).eg a b=some (c,-1):=by
 unfold first
 simp only;rw[if_pos (CX h),h.2.2.2.2]
theorem xS{g:FR.G}(z:g.ok)(N:Nat)(I:g.n<=N):Inv g N 1 15 (first g) (λ_=>false):=by
 have u:∀{a b},(first g).eg a b≠none->g.GE a b (g.bV a b):=λ{a b}h=>by
  cases F:(first g).eg a b with
  |none=>exact absurd F h
  |some cm=>obtain⟨Q,R,_⟩:=jb (c:=cm.1) (m:=cm.2) F;rw[<-R];exact Q
 refine⟨I,by omega,λa b h=>?_,λa b=>?_,λa b c m h _=>?_,λa b c m h U=>?_,λa b c m h=>Walk.single (jb h).1,λ_=>Nat.zero_le _,λ_ _ _ _=>rfl,λa b _ h=>?_,λa b c m h=>?_,λa b c h=>by rw[uW h];simp,λs t c Z S M=>?_⟩
 .exact⟨(u h).1,(u h).2.1,(u h).2.2.1⟩
 .unfold first
  simp only;by_cases h:g.GE a b (g.bV a b)
  .rw[if_pos h,if_pos (CX (G.yR h)),G.dW]
  .rw[if_neg h,if_neg (λk=>h (CX (G.yR k)))]
 .exact⟨(jb h).2.2,(jb h).1⟩
 .have:=(jb h).2.2;omega
 .exact absurd h (by show(0:Nat)≠1;omega)
 .obtain⟨q,e,_⟩:=jb h
  have B:=G.Sa q;have J:=(q.1).1;have L:=(q.2.1).1;have x1:=G.jw z a;have x2:=G.jw z b;have y1:=G.iM J;have y2:=G.iM L;have w1:=z.2.1;have T:=z.2.2.2
  have k:c.s<=15/\c.d<=15:=by
   rw[e];unfold G.bV dh;split<;>(simp only;omega)
  obtain⟨O,P⟩:=B;exact⟨O,by omega,P,by omega,λ_ _=>by exact⟨by omega,by omega⟩⟩
 .refine .inr ⟨s,t,C.zero,c,C.zero,.nil _,?_,.nil _,rfl,rfl,?_⟩
  .exact Walk.mono (λa b c h=>⟨rfl,rfl,-1,uW h⟩) M
  .rw[C.zero_add,C.add_zero];exact C.le_refl _
theorem Inv.next{g:FR.G}{N top K:Nat}{S:LS}{z:Nat->Bool}(H:Inv g N top K S z):Inv g N (top+1) (2*K) S (λ_=>false):=by
 refine⟨H.nN,by omega,H.bG,H.symm,H.orig,H.sum,H.walk,λa=>Nat.le_succ_of_le (H.levs a),H.apart,λa b _ h=>?_,λa b c m h=>?_,H.keep,H.ud⟩
 .have:=H.levs a;omega
 .obtain⟨k,B,u,F,_⟩:=H.small a b c m h
  refine⟨k,?_,u,?_,λ_ _=>⟨?_,?_⟩⟩<;>omega
theorem MW{g:FR.G}{N top K:Nat}{R:RS}(H:Inv g N top K R.S R.near){n:Nat}(B:g.ak n):Inv g N top K (RS.step N top R n).S (RS.step N top R n).near:=by
 unfold RS.step;split
 .exact H
 .rename_i h
  split
  .exact H
  .have u:R.S.lev n=0:=by
    apply Classical.byContradiction;intro k;exact h (.inl k)
   have z:R.near n=false:=by
    cases k:R.near n with
    |false=>rfl
    |true=>exact absurd (.inr k) h
   exact Ms H u z B
theorem ql{g:FR.G}{N top K:Nat}:∀(l:List Nat)(R:RS),Inv g N top K R.S R.near->(∀n∈l,g.ak n)->Inv g N top K (l.foldl (RS.step N top) R).S (l.foldl (RS.step N top) R).near
 |[],_,H,_=>H
 |n::l,R,H,k=>ql l _ (MW H (k n (by simp))) (λm u=>k m (by simp[u]))
theorem Jz{R:RS}{n:Nat}(h:(RS.step N top R n).some_=false):RS.step N top R n=R:=by
 unfold RS.step at*;split
 .rfl
 .split
  .rfl
  .rename_i g k
   rw[if_neg g,if_neg k]at h;cases h
theorem xU:∀(l:List Nat)(R:RS),(l.foldl (RS.step N top) R).some_=false->l.foldl (RS.step N top) R=R
 |[],_,_=>rfl
 |n::l,R,h=>by
  have g:=xU l _ h;simp only[List.foldl_cons]at*;rw[g];rw[g]at h;exact Jz h
structure Fin (g:FR.G) (top:Nat) (S:LS):Prop where
 pos:0<top
 bG:∀a b,S.eg a b≠none->g.ak a/\g.ak b/\a≠b
 symm:∀a b,S.eg a b=S.eg b a
 orig:∀a b c m,S.eg a b=some (c,m)->m<0->m= -1/\g.GE a b c
 sum:∀a b c m,S.eg a b=some (c,m)->0<=m->∃k:Nat,m=k/\S.lev k<S.lev a/\S.lev k<S.lev b/\
  ∃c1 m1 c2 m2,S.eg a k=some (c1,m1)/\S.eg k b=some (c2,m2)/\c=C.add c1 c2
 walk:∀a b c m,S.eg a b=some (c,m)->Walk g.GE a b c
 levs:∀a,g.ak a->1<=S.lev a/\S.lev a<=top
 apart:∀a b,S.eg a b≠none->S.lev a=S.lev b->S.lev a=top
 small:∀a b c m,S.eg a b=some (c,m)->0<=c.s/\c.s<=2000/\0<=c.d/\c.d<=2000
 ud:∀s t c,g.ak s->g.ak t->Walk g.GE s t c->∃p q c1 c0 c2,
  Walk (λx y c=>S.lev x<S.lev y/\∃m,S.eg x y=some (c,m)) s p c1/\Walk (λx y c=>S.lev y=top/\∃m,S.eg x y=some (c,m)) p q c0/\
  Walk (λx y c=>S.lev x<S.lev y/\∃m,S.eg x y=some (c,m)) t q c2/\C.le (C.add (C.add c1 c0) c2) c
theorem Hw{g:FR.G}{N top K:Nat}{nr:Nat->Bool}(H:Inv g N top K S nr)(z:∀a,S.lev a<top)(nodes:List Nat)(hn:∀a,a∈nodes↔g.ak a)(hK:K<=1000):Fin g top (S.close nodes top):=by
 have J:∀a,g.ak a->(S.close nodes top).lev a=if S.lev a=0 then top else S.lev a:=λa L=>by
  unfold close;simp only;by_cases h:S.lev a=0
  .rw[if_pos ⟨(hn a).2 L,h⟩,if_pos h]
  .rw[if_neg (λk=>h k.2),if_neg h]
 have I:∀x y,S.eg x y≠none->S.lev x≠0->(S.lev y=0\/S.lev x<S.lev y)->(S.close nodes top).lev x<(S.close nodes top).lev y:=by
  intro x y P B F;obtain⟨hx,hy,_⟩:=H.bG x y P;rw[J x hx,J y hy,if_neg B];have:=z x;split<;>omega
 have Z:=H.pos;refine⟨H.pos,H.bG,H.symm,H.orig,?_,H.walk,?_,?_,?_,?_⟩
 .intro a b c m h hm
  obtain⟨k,e1,R,e3,e4,M,m1,O,m2,T,U,e7⟩:=H.sum a b c m h hm;exact⟨k,e1,I k a (by rw[H.symm,T];simp) R e3,I k b (by rw[U];simp) R e4,M,m1,O,m2,T,U,e7⟩
 .intro a L
  rw[J a L];have:=z a;split<;>omega
 .intro a b P Q
  obtain⟨L,hb,_⟩:=H.bG a b P;rw[J a L,J b hb]at Q;rw[J a L];have B:=z a;have F:=z b;split
  .rfl
  .rename_i u
   rw[if_neg u]at Q;split at Q
   .omega
   .exact absurd (H.apart a b P Q) u
 .intro a b c m h
  obtain⟨a1,a2,a3,a4,_⟩:=H.small a b c m h;refine⟨a1,?_,a3,?_⟩<;>omega
 .intro s t c hs ht hw
  have mono:∀{x y c},Walk S.Up x y c->Walk (λx y c=>(S.close nodes top).lev x<(S.close nodes top).lev y/\∃m,(S.close nodes top).eg x y=some (c,m)) x y c:=
   λh=>Walk.mono (λa b c⟨B,F,m,u⟩=>⟨I a b (by rw[u];simp) B F,m,u⟩) h
  rcases H.ud s t c hs ht hw with⟨m,M,O,B,F,u⟩|⟨p,q,M,c0,O,B,F,u,_,_,h4⟩
  .exact⟨m,m,M,C.zero,O,mono B,.nil _,mono F,by rw[C.add_zero];exact u⟩
  .refine⟨p,q,M,c0,O,mono B,Walk.mono (λa b c⟨q1,q2,m,q3⟩=>⟨?_,m,q3⟩) F,mono u,h4⟩
   rw[J b (H.bG a b (by rw[q3];simp)).2.1,if_pos q2]
theorem vV{g:FR.G}(nodes:List Nat)(I:∀n∈nodes,g.ak n):∀(k top K:Nat)(S:LS),Inv g N top K S (λ_=>false)->(∀a,S.lev a<top)->
 ∃z F,Inv g N (rounds N nodes k top S).2 z (rounds N nodes k top S).1 F/\(∀a,(rounds N nodes k top S).1.lev a<(rounds N nodes k top S).2)/\z<=2^k*K/\(rounds N nodes k top S).2<=top+k/\top<=(rounds N nodes k top S).2
 |0,top,K,S,H,u=>⟨K,_,H,u,by simp,by simp[rounds],by simp[rounds]⟩
 |k+1,top,K,S,H,u=>by
  have B:=ql nodes ⟨S,λ_=>false,false⟩ H I;unfold rounds;split
  .obtain⟨z,F,J,L,M,Q,R⟩:=vV nodes I k (top+1) (2*K) (RS.run N top nodes S).S B.next (λa=>Nat.lt_succ_of_le (B.levs a))
   refine⟨z,F,J,L,?_,by omega,by omega⟩;rw[Nat.pow_succ,Nat.mul_assoc];exact M
  .rename_i h
   have P:(RS.run N top nodes S).some_=false:=by cases q:(RS.run N top nodes S).some_ with|false=>rfl|true=>exact absurd q h
   have e:=xU nodes ⟨S,λ_=>false,false⟩ P;have O:(RS.run N top nodes S).S=S:=by unfold RS.run;rw[e]
   refine⟨K,_,B,?_,Nat.le_mul_of_pos_left _ (Nat.two_pow_pos _),by omega,by omega⟩;show∀a,(RS.run N top nodes S).S.lev a<top;rw[O];exact u
noncomputable def all(g:FR.G)(nodes:List Nat)(most:Nat):LS×Nat:=
 ((rounds g.n nodes (most-1) 1 (first g)).1.close nodes (rounds g.n nodes (most-1) 1 (first g)).2,(rounds g.n nodes (most-1) 1 (first g)).2)
theorem Fg{g:FR.G}(J:g.ok)(nodes:List Nat)(k:∀a,a∈nodes↔g.ak a){most:Nat}(O:1<=most)(P:most<=6):Fin g (all g nodes most).2 (all g nodes most).1/\1<=(all g nodes most).2/\(all g nodes most).2<=most:=by
 obtain⟨u,R,z,B,L,M,F⟩:=vV nodes (λn h=>(k n).1 h) (most-1) 1 15 (first g) (xS J g.n (Nat.le_refl _)) (λ_=>by show(0:Nat)<1;omega)
 have:u<=1000:=by
  have I:2^(most-1)<=2^5:=Nat.pow_le_pow_right (by omega) (by omega);have Q:2^(most-1)*15<=2^5*15:=Nat.mul_le_mul_right _ I;omega
 exact⟨Hw z B nodes k this,by exact F,by show(rounds g.n nodes (most-1) 1 (first g)).2<=most;omega⟩
inductive Fa (S:LS):Nat->Nat->List Nat->Prop
 |edge {a b:Nat} {c:C} {m:Int}:S.eg a b=some (c,m)->m<0->Fa S a b [a,b]
 |two {a b k:Nat} {c:C} {m:Int} {L M:List Nat}:S.eg a b=some (c,m)->m=k->Fa S a k L->Fa S k b M->Fa S a b (L++M.tail)
inductive LW (E:Nat->Nat->C->Prop):List Nat->C->Prop
 |one (a:Nat):LW E [a] C.zero
 |cons {a b:Nat} {l:List Nat} {e c:C}:E a b e->LW E (b::l) c->LW E (a::b::l) (C.add e c)
theorem LW.append:∀{l:List Nat}{x:Nat}{m:List Nat}{c d:C},LW E (l++[x]) c->LW E (x::m) d->LW E (l++x::m) (C.add c d)
 |[],x,m,c,d,h,k=>by
  cases h;rw[C.zero_add];exact k
 |[a],x,m,c,d,h,k=>by
  cases h with
  |cons g h=>rw[C.add_assoc];exact .cons g (LW.append (l:=[]) h k)
 |a::b::l,x,m,c,d,h,k=>by
  cases h with
  |cons g h=>rw[C.add_assoc];exact .cons g (LW.append (l:=b::l) h k)
theorem LW.walk:∀{l:List Nat}{a b:Nat}{c:C},LW E (a::l) c->(a::l).getLast?=some b->Walk E a b c
 |[],a,b,c,h,g=>by cases h;simp at g;subst g;exact .nil _
 |x::l,a,b,c,h,g=>by
  cases h with
  |cons k h=>exact Walk.cons k (LW.walk h (by simpa using g))
theorem Fa.ends{L:List Nat}(h:Fa S a b L):∃M,L=a::(M++[b]):=by
 induction h with
 |edge=>exact⟨[],rfl⟩
 |two _ _ _ _ ih1 ih2=>
  obtain⟨g,rfl⟩:=ih1;obtain⟨k,rfl⟩:=ih2;exact⟨g++_::k,by simp;rfl⟩
theorem Fa.JH{L M:List Nat}(h:Fa S a b L)(k:Fa S a b M):L=M:=by
 induction h generalizing M with
 |edge u B=>
  cases k with
  |edge=>rfl
  |two g z=>rw[u]at g;injection g with g;injection g with _ e;omega
 |two u B _ _ ih1 ih2=>
  cases k with
  |edge g z=>rw[u]at g;injection g with g;injection g with _ e;omega
  |two g z I J=>
   rw[u]at g;injection g with g;injection g with _ e
   have F:(_:Nat)=_:=Int.ofNat_inj.1 (B.symm.trans (e.trans z));subst F;rw[ih1 I,ih2 J]
theorem Fin.UL{g:FR.G}(H:Fin g top S):∀(n:Nat){a b:Nat}{c:C}{m:Int},S.lev a+S.lev b<=n->S.eg a b=some (c,m)->∃L,Fa S a b L/\LW g.GE L c/\L.length<=2^n+1:=by
 intro n
 induction n using Nat.strongRecOn with
 |_ n ih=>
  intro a b c m hn h;by_cases u:m<0
  .obtain⟨_,P⟩:=H.orig a b c m h u
   refine⟨[a,b],.edge h u,?_,?_⟩
   .have:=LW.cons P (.one b)
    rwa[C.add_zero]at this
   .have:=Nat.two_pow_pos n
    simp only[List.length_cons,List.length_nil];omega
  .obtain⟨k,F,e2,e3,c1,m1,c2,m2,I,J,O⟩:=H.sum a b c m h (by omega)
   have Q:2^n=2^(n-1)+2^(n-1):=by
    have:n=n-1+1:=by omega
    rw[this,Nat.pow_succ];simp;omega
   obtain⟨L,u1,U,R⟩:=ih (n-1) (by omega) (by omega) I;obtain⟨M,u2,Z,T⟩:=ih (n-1) (by omega) (by omega) J;obtain⟨z,rfl⟩:=u1.ends;obtain⟨B,rfl⟩:=u2.ends;refine⟨_,.two h F u1 u2,?_,?_⟩
   .rw[O]
    have:=LW.append (E:=g.GE) (l:=a::z) (x:=k) (m:=B++[b]) U Z;simpa using this
   .simp at R T⊢;omega
end LS
end FR
namespace FR
open Classical
structure FM (E:Nat->Nat->C->Prop) (fr N:Nat) (done hp:Nat->Option C) (k:Nat) (pend:Nat->C->Prop):Prop where
 dij:Al E fr done hp k pend
 frN:fr<N
 rngD:∀j,done j≠none->j<N
 rngH:∀j,hp j≠none->j<N
 c1:∀j c,done j=some c->c.s<=2000*((dG (λi=>(done i).isSome) N:Int)-1)/\c.d<=2000*((dG (λi=>(done i).isSome) N:Int)-1)
 c2:∀j c,hp j=some c->c.s<=2000*(dG (λi=>(done i).isSome) N:Int)/\c.d<=2000*(dG (λi=>(done i).isSome) N:Int)
 last:∀c,done k=some c->∀i d,done i=some d->C.le d c
namespace FM
variable {c:C}{b:Nat}{pend':Nat->C->Prop}
variable {E:Nat->Nat->C->Prop} {fr N:Nat} {done hp:Nat->Option C} {k:Nat} {pend:Nat->C->Prop}
theorem start(h:fr<N)(k:Nat):FM E fr N (λ_=>none) (upd (λ_=>none) fr (some C.zero)) k (λ_ _=>False) where
 dij:=Al.start fr k
 frN:=h
 rngD:=λj g=>absurd rfl g
 rngH:=λj g=>by
  unfold upd at g;split at g
  .rename_i e;rw[e];exact h
  .exact absurd rfl g
 c1:=λj c h=>by cases h
 c2:=λj c h=>by
  unfold upd at h;split at h
  .cases h;simp only[C.zero];exact⟨by omega,by omega⟩
  .cases h
 last:=λc h=>by cases h
theorem weaken(H:FM E fr N done hp k pend)(h:∀b e,pend b e->pend' b e):FM E fr N done hp k pend':=
 {H with dij:=⟨H.dij.i1,H.dij.i2,H.dij.i2',λa c b e x y=>(H.dij.i3 a c b e x y).imp_left λ⟨p,q⟩=>⟨p,h _ _ q⟩,H.dij.i4⟩}
theorem pop(M:∀a b c,E a b c->C.Nn c)(H:FM E fr N done hp k λ_ _=>False){t:Nat}(B:hp t=some c)(z:∀j d,hp j=some d->C.le c d):FM E fr N (upd done t (some c)) (upd hp t none) t (E t):=by
 have F:=H.rngH t (by rw[B];simp);have J:=(H.dij.i2 t c B).1;have u:=uN F J c;refine⟨H.dij.pop M B z,H.frN,?_,?_,?_,?_,?_⟩
 .intro j g
  unfold upd at g;split at g
  .rename_i e;rw[e];exact F
  .exact H.rngD j g
 .intro j g
  unfold upd at g;split at g
  .exact absurd rfl g
  .exact H.rngH j g
 .intro j d g
  rw[u];unfold upd at g;split at g
  .cases g
   have:=H.c2 _ _ B;omega
  .have:=H.c1 _ _ g
   omega
 .intro j d g
  rw[u];unfold upd at g;split at g
  .cases g
  .have:=H.c2 _ _ g
   omega
 .intro O L i d I
  rw[upd_same]at L;cases L;unfold upd at I;split at I
  .cases I;exact C.le_refl _
  .exact H.dij.i2' _ _ B _ _ I
theorem skip(H:FM E fr N done hp k pend)(B:done b≠none)(u:∀g z,pend g z->pend' g z\/g=b):FM E fr N done hp k pend':=
 {H with dij:=H.dij.skip B u}
theorem keep(H:FM E fr N done hp k pend){c e d:C}(I:done k=some c)(F:hp b=some d)(z:C.le d (C.add c e))(B:∀g u,pend g u->pend' g u\/(g=b/\u=e)):FM E fr N done hp k pend':=
 {H with dij:=H.dij.keep I F z B}
theorem push(J:∀a b c,E a b c->C.Nn c)(H:FM E fr N done hp k pend){c e:C}(F:done k=some c)(O:E k b e)(P:e.s<=2000/\e.d<=2000)(B:b<N)(M:done b=none)(L:∀d,hp b=some d->C.lt (C.add c e) d)(I:∀u z,pend u z->pend' u z\/(u=b/\z=e)):FM E fr N done (upd hp b (some (C.add c e))) k pend':=by
 refine⟨H.dij.push J F O M L (H.last _ F) I,H.frN,H.rngD,?_,H.c1,?_,H.last⟩
 .intro j g
  unfold upd at g;split at g
  .rename_i q;rw[q];exact B
  .exact H.rngH j g
 .intro j d g
  unfold upd at g;split at g
  .cases g
   have:=H.c1 _ _ F;simp only[C.add];omega
  .exact H.c2 _ _ g
theorem small(g:∀a b c,E a b c->C.Nn c)(H:FM E fr N done hp k pend)(I:N<=256){j:Nat}(h:done j=some c\/hp j=some c):0<=c.s/\c.s<=512000/\0<=c.d/\c.d<=512000:=by
 have z:=iN (λi=>(done i).isSome) N
 have u:C.Nn c:=by
  rcases h with h|h
  .exact(H.dij.i1 _ _ h).1.nn g
  .exact(H.dij.i2 _ _ h).2.nn g
 obtain⟨B,F⟩:=u;rcases h with h|h
 .have:=H.c1 _ _ h
  omega
 .have:=H.c2 _ _ h
  omega
end FM
namespace LS
variable {S:LS}{N n top x y:Nat}{T:Nat->Nat->Prop}
noncomputable def part(S:LS)(n top:Nat)(T:Nat->Nat->Prop):LS where
 lev:=upd S.lev n top
 eg:=λx y=>if T x y\/T y x then some (C.add (S.cost n x) (S.cost n y),(n:Int))else S.eg x y
theorem vH(h:T x y\/T y x):(S.part n top T).eg x y=some (C.add (S.cost n x) (S.cost n y),(n:Int)):=if_pos h
theorem Gm(h:¬(T x y\/T y x)):(S.part n top T).eg x y=S.eg x y:=if_neg h
theorem yo{T T':Nat->Nat->Prop}(h:(T x y\/T y x)↔(T' x y\/T' y x)):(S.part n top T).eg x y=(S.part n top T').eg x y:=by
 by_cases q:T x y\/T y x
 .rw[vH q,vH (h.1 q)]
 .rw[Gm q,Gm (λr=>q (h.2 r))]
theorem Mo(h:∀a b,T a b↔(a,b)∈S.more N n):S.part n top T=S.pass N n top:=by
 unfold part pass;congr 1;funext x y;simp only[h]
theorem Ji(h:∀a b,¬T a b):(S.part n top T).eg=S.eg:=by
 funext x y;show(if T x y\/T y x then _ else _)=_;rw[if_neg (λq=>q.elim (h _ _) (h _ _))]
theorem tH{R:RS}{n a:Nat}(h:a≠n):(RS.step N top R n).S.lev a=R.S.lev a:=by
 unfold RS.step;split
 .rfl
 .split
  .rfl
  .show upd R.S.lev n top a=_
   rw[upd_ne _ _ h]
theorem qm:∀(l:List Nat)(R:RS){a:Nat},a∉l->(l.foldl (RS.step N top) R).S.lev a=R.S.lev a
 |[],_,_,_=>rfl
 |n::l,R,a,h=>by
  rw[List.foldl_cons,qm l _ (λq=>h (by simp[q])),tH (λq=>h (by simp[q]))]
theorem rH:∀(l:List Nat)(R:RS),l.Nodup->l.foldl (RS.step N top) R=(l.filter λa=>decide (R.S.lev a=0)).foldl (RS.step N top) R
 |[],_,_=>rfl
 |n::l,R,h=>by
  rw[List.nodup_cons]at h;by_cases g:R.S.lev n=0
  .rw[List.filter_cons,if_pos (by simpa using g),List.foldl_cons,List.foldl_cons,rH l _ h.2]
   congr 1;apply List.filter_congr;intro a k;rw[tH];rintro rfl;exact h.1 k
  .rw[List.filter_cons,if_neg (by simpa using g),List.foldl_cons]
   have:RS.step N top R n=R:=by unfold RS.step;rw[if_pos (.inl g)]
   rw[this];exact rH l R h.2
theorem L6{n a b:Nat}{done:Nat->Option C}(k:∀c,done b=some c->bP (S.Lw n) a b c)(z:done b=none->∀c,¬Walk (S.Lw n) a b c):S.iJ n a b↔∀d,done b=some d->C.lt (C.add (S.cost n a) (S.cost n b)) d:=by
 unfold iJ;constructor
 .intro h d F
  apply Classical.byContradiction;intro I;exact h ⟨d,(k d F).1,I⟩
 .rintro h ⟨c,u,B⟩
  cases g:done b with
  |none=>exact z g c u
  |some d=>exact C.le_trans ((k d g).2 c u) B (h d g)
end LS
end FR
namespace Go.Proofs.YtokhnobcincfjaaGreatDoor
open FR
variable {g:G}{a:Nat}{P:Nat->Nat×Nat}
def mK(g:G)(a b:Nat)(P:Nat->Nat×Nat)(n:Nat):List Nat:=(List.range n).map λk=>g.bE a b (P k).1 (P k).2
theorem kK(g:G)(a b:Nat)(P:Nat->Nat×Nat)(n:Nat):mK g a b P (n+1)=mK g a b P n++[g.bE a b (P n).1 (P n).2]:=by simp[mK,List.range_succ]
theorem Nf(B:g.ok){a b:Nat}(z:b<g.n)(u:a<g.n)(Q:g.dz a b)(I:g.xg a b P):
 ∀k,k<=g.fI a b+g.fJ a b->LS.LW g.E (mK g a b P (k+1)) ⟨((P k).2:Nat),((P k).1:Nat)⟩
 |0,_=>by
  rw[kK,I.1];exact LS.LW.one _
 |k+1,h=>by
  have R:=Nf B z u Q I k (by omega);obtain⟨J,L,S,M,O⟩:=G.uz B z u Q I k (by omega);have Z:=I.2 k
  have st:∃e,g.E (g.bE a b (P k).1 (P k).2) (g.bE a b (P (k+1)).1 (P (k+1)).2) e/\(⟨((P (k+1)).2:Nat),((P (k+1)).1:Nat)⟩:C)=C.add ⟨((P k).2:Nat),((P k).1:Nat)⟩ e:=by
   generalize P (k+1)=p' at*;generalize P k=p at*;obtain⟨i0,j0⟩:=p;simp only at J L S M O;rcases G.Mf B z u Z J L M O (by omega)with⟨e,F,_⟩|⟨e,F,_⟩
   .rw[e]
    exact⟨⟨0,1⟩,G.DK B z u F.1 L F.2,by simp[C.add]⟩
   .rw[e]
    exact⟨⟨1,0⟩,G.DL B z u J F.1 F.2,by simp[C.add]⟩
  obtain⟨e,U,T⟩:=st;rw[T,kK,kK,List.append_assoc];rw[kK]at R;have:=LS.LW.append R (LS.LW.cons U (LS.LW.one _));rw[C.add_zero]at this;exact this
theorem yK(F:g.ok){a b:Nat}(B:b<g.n)(z:a<g.n)(L:g.dz a b)(u:g.xg a b P):∃M,mK g a b P (g.fI a b+g.fJ a b+1)=a::M/\LS.LW g.E (a::M) (g.bV a b)/\(a::M).getLast?=some b:=by
 have h:=Nf F B z L u (g.fI a b+g.fJ a b) (Nat.le_refl _);obtain⟨O,Q,R,_⟩:=G.uz F B z L u (g.fI a b+g.fJ a b) (Nat.le_refl _);have I:(P (g.fI a b+g.fJ a b)).1=g.fI a b:=by omega
 have J:(P (g.fI a b+g.fJ a b)).2=g.fJ a b:=by omega
 rw[I,J,<-G.lF]at h
 have k:mK g a b P (g.fI a b+g.fJ a b+1)=a::(mK g a b P (g.fI a b+g.fJ a b+1)).tail:=by
  unfold mK;rw[List.range_succ_eq_map];simp only[List.map_cons,List.tail_cons,u.1];rw[G.kZ]
 refine⟨_,k,k▸h,?_⟩;rw[<-k,kK,I,J,G.rF F B z];simp
theorem F8{E:Nat->Nat->C->Prop}:∀{W:List Nat}{c:C},LS.LW E W c->∃f:Nat->C,f 0=C.zero/\(∀i,i+1<W.length->∃e,E (W.getD i 0) (W.getD (i+1) 0) e/\f (i+1)=C.add (f i) e)/\f (W.length-1)=c/\0<W.length
 |_,_,.one a=>⟨λ_=>C.zero,rfl,λi k=>by simp at k,rfl,by simp⟩
 |_,_,.cons (a:=a) (b:=b) (l:=l) (e:=e) (c:=c) he h=>by
  obtain⟨f,z,B,F,L⟩:=F8 h;refine⟨λi=>match i with|0=>C.zero|i+1=>C.add e (f i),rfl,λi k=>?_,?_,by simp⟩
  .cases i with
   |zero=>exact⟨e,he,by simp only[z];rw[C.add_zero,C.zero_add]⟩
   |succ i=>
    obtain⟨u,I,J⟩:=B i (by simpa using k);refine⟨u,I,?_⟩;show C.add e (f (i+1))=C.add (C.add e (f i)) u;rw[J,C.add_assoc]
  .show(match (a::b::l).length-1 with|0=>C.zero|i+1=>C.add e (f i))=_
   have:(a::b::l).length-1=((b::l).length-1)+1:=by simp
   rw[this];simp only[F]
theorem OU(M:g.ok){W:List Nat}{c:C}(h:LS.LW g.E W c)(z:W.head?=some a)(Q:a<g.n)(L:g.b a=false):g.qY (λi=>(W.map λn:Nat=>(n:Int)).getD i 0) W.length=(c,0):=by
 obtain⟨f,B,F,I,J⟩:=F8 h
 have u:W.getD 0 0=a:=by
  cases W with
  |nil=>simp at z
  |cons x l=>simpa using z
 have k:=G.wO (g:=g) (f:=λi=>(W.map λn:Nat=>(n:Int)).getD i 0) (x:=λi=>W.getD i 0) (c:=f) (n:=W.length) B
  (λi O=>by simp[List.getD_eq_getElem?_getD,List.getElem?_map,List.getElem?_eq_getElem O]) (by simp only[u];exact⟨Q,L⟩) M F (W.length-1) (by omega)
 rw[show W.length-1+1=W.length by omega,I]at k;exact G.uA k J
def JX(g:G)(a b:Nat)(c:C):Prop:=a<g.n/\b<g.n/\g.b a=false/\g.b b=false/\g.dz a b/\c=g.bV a b
end Go.Proofs.YtokhnobcincfjaaGreatDoor
namespace FR
structure Hu (E:Nat->Nat->C->Prop) (src:Nat->C->Prop) (h:Nat->C) (lab hp:Nat->Option C) (back:Nat->Int) (k:Nat) (pend:Nat->C->Prop) (ps:Nat->C->Prop):Prop where
 reach:∀j c,lab j=some c->Reach E src j c
 key:∀j f,hp j=some f->∃c,lab j=some c/\f=C.add c (h j)
 closed:∀a c b e,lab a=some c->E a b e->(a=k/\pend b e)\/hp a≠none\/∃d,lab b=some d/\C.le d (C.add c e)
 srcs:∀s c,src s c->ps s c\/∃d,lab s=some d/\C.le d c
 back:∀j c,lab j=some c->(back j= -1/\src j c)\/∃(a:Nat)(d e:C),back j=a/\lab a=some d/\E a j e/\C.le (C.add d e) c
namespace Hu
variable {k':Nat}{pend' ps':Nat->C->Prop}
variable {E:Nat->Nat->C->Prop} {src:Nat->C->Prop} {h:Nat->C} {lab hp:Nat->Option C} {back:Nat->Int} {k:Nat} {pend ps:Nat->C->Prop}
theorem start(k:Nat)(back:Nat->Int):Hu E src h (λ_=>none) (λ_=>none) back k (λ_ _=>False) src where
 reach:=λ_ _ h=>by cases h
 key:=λ_ _ h=>by cases h
 closed:=λ_ _ _ _ h=>by cases h
 srcs:=λ_ _ h=>.inl h
 back:=λ_ _ h=>by cases h
theorem Qq(S:∀j t d,Walk E j t d->t=k->C.le (h j) d){hp:Nat->Option C}(H:Hu E src h lab hp back k' (λ_ _=>False) (λ_ _=>False)){s t:Nat}{B p:C}(T:src s B)(J:Walk E s t p):∀q,Walk E t k q->(∃j f,hp j=some f/\C.le f (C.add (C.add B p) q))\/(hp t=none/\∃d,lab t=some d/\C.le d (C.add B p)):=by
 have fin:∀t c q,Walk E t k q->(∃d,lab t=some d/\C.le d c)->(∃j f,hp j=some f/\C.le f (C.add c q))\/(hp t=none/\∃d,lab t=some d/\C.le d c):=by
  intro t c q z ⟨d,u,g⟩;cases L:hp t with
  |none=>exact .inr ⟨rfl,d,u,g⟩
  |some f=>
   obtain⟨Z,F,O⟩:=H.key t f L;rw[u]at F;injection F with F;subst F
   refine .inl ⟨t,f,L,?_⟩;rw[O];exact C.add_le_add g (S t k q z rfl)
 induction J with
 |nil=>
  intro q z;refine fin _ _ q z ?_;rcases H.srcs _ _ T with x|x
  .exact x.elim
  .rw[C.add_zero];exact x
 | @snoc b t c e J I U=>
  intro q z;rcases U (C.add e q) (Walk.cons I z)with⟨j,f,u,g⟩|⟨P,d,u,g⟩
  .refine .inl ⟨j,f,u,?_⟩
   rw[<-C.add_assoc,C.add_assoc B]at g;exact g
  .refine fin _ _ q z ?_
   rcases H.closed b d t e u I with x|x|⟨M,Q,R⟩
   .exact x.2.elim
   .exact absurd P x
   .refine⟨M,Q,C.le_trans R ?_⟩
    rw[<-C.add_assoc];exact C.add_le_add g (C.le_refl _)
theorem found(M:∀j t d,Walk E j t d->t=k->C.le (h j) d)(L:h k=C.zero)(H:Hu E src h lab hp back k' (λ_ _=>False) (λ_ _=>False)){f:C}(J:hp k=some f)(g:∀j u,hp j=some u->C.le f u):lab k=some f/\om E src k f:=by
 obtain⟨c,B,F⟩:=H.key k f J;rw[L,C.add_zero]at F;subst F;refine⟨B,H.reach k f B,?_⟩;rintro d ⟨s,Q,p,O,P,rfl⟩;rcases H.Qq M O P C.zero (.nil k)with⟨j,u,z,I⟩|⟨z,_⟩
 .rw[C.add_zero]at I
  exact C.le_trans (g j u z) I
 .rw[J]at z;cases z
theorem lost(z:∀j t d,Walk E j t d->t=k->C.le (h j) d)(H:Hu E src h lab hp back k' (λ_ _=>False) (λ_ _=>False))(u:∀j,hp j=none)(B:lab k=none):∀d,¬Reach E src k d:=by
 rintro d ⟨s,J,p,F,I,rfl⟩;rcases H.Qq z F I C.zero (.nil k)with⟨j,M,g,_⟩|⟨_,L,g,_⟩
 .rw[u j]at g;cases g
 .rw[B]at g;cases g
theorem pop{t:Nat}(H:Hu E src h lab hp back k (λ_ _=>False) (λ_ _=>False)):Hu E src h lab (upd hp t none) back t (E t) (λ_ _=>False) where
 reach:=H.reach
 key:=λj f g=>by
  unfold upd at g;split at g
  .cases g
  .exact H.key j f g
 closed:=λa c b e z u=>by
  by_cases q:a=t
  .subst q;exact .inl ⟨rfl,u⟩
  .rcases H.closed a c b e z u with x|x|x
   .exact x.2.elim
   .right;left;rw[upd_ne _ _ q];exact x
   .exact .inr (.inr x)
 srcs:=H.srcs
 back:=H.back
theorem keep(H:Hu E src h lab hp back k pend ps){b:Nat}{x d:C}(M:lab b=some d)(u:C.le d x)
 (B:∀g z,pend g z->pend' g z\/(g=b/\∀c,lab k=some c->C.le x (C.add c z)))(F:∀s c,ps s c->ps' s c\/(s=b/\C.le x c)):Hu E src h lab hp back k pend' ps' where
 reach:=H.reach
 key:=H.key
 closed:=λa c g e L P=>by
  rcases H.closed a c g e L P with⟨O,R⟩|q|q
  .rcases B g e R with r|⟨I,J⟩
   .exact .inl ⟨O,r⟩
   .subst O;subst I
    exact .inr (.inr ⟨d,M,C.le_trans u (J c L)⟩)
  .exact .inr (.inl q)
  .exact .inr (.inr q)
 srcs:=λs c Q=>by
  rcases H.srcs s c Q with q|q
  .rcases F s c q with r|⟨I,J⟩
   .exact .inl r
   .subst I;exact .inr ⟨d,M,C.le_trans u J⟩
  .exact .inr q
 back:=H.back
theorem put(H:Hu E src h lab hp back k pend ps){b:Nat}{x:C}{z:Int}(hr:Reach E src b x)(P:∀d,lab b=some d->C.lt x d)(ab:b≠k\/(∀B J,¬pend B J))
 (hz:(z= -1/\src b x)\/∃(a:Nat)(d e:C),z=a/\lab a=some d/\a≠b/\E a b e/\C.le (C.add d e) x)
 (S:∀B J,pend B J->pend' B J\/(B=b/\∀c,lab k=some c->C.le x (C.add c J)))(T:∀s c,ps s c->ps' s c\/(s=b/\C.le x c)):
 Hu E src h (upd lab b (some x)) (upd hp b (some (C.add x (h b)))) (upd back b z) k pend' ps' where
 reach:=λj c g=>by
  unfold upd at g;split at g
  .rename_i e;injection g with g;subst g;rw[e];exact hr
  .exact H.reach j c g
 key:=λj f g=>by
  by_cases e:j=b
  .subst e
   rw[upd_same]at g;injection g with g
   exact⟨x,upd_same _ _ _,g.symm⟩
  .rw[upd_ne _ _ e]at g⊢
   exact H.key j f g
 closed:=λa c B e R he=>by
  by_cases q:a=b
  .subst q
   right;left;rw[upd_same];simp
  .rw[upd_ne _ _ q]at R⊢
   have low:∀d y,lab B=some d->C.le d y->∃u,upd lab b (some x) B=some u/\C.le u y:=λd y L M=>by
    by_cases r:B=b
    .subst r;exact⟨x,upd_same _ _ _,C.le_trans (C.le_of_lt (P d L)) M⟩
    .exact⟨d,by rw[upd_ne _ _ r];exact L,M⟩
   rcases H.closed a c B e R he with⟨O,Q⟩|r|⟨d,F,I⟩
   .rcases S B e Q with r|⟨F,I⟩
    .exact .inl ⟨O,r⟩
    .subst O;subst F
     exact .inr (.inr ⟨x,upd_same _ _ _,I c R⟩)
   .exact .inr (.inl r)
   .exact .inr (.inr (low d _ F I))
 srcs:=λs c hs=>by
  have low:∀d,lab s=some d->C.le d c->∃u,upd lab b (some x) s=some u/\C.le u c:=λd L M=>by
   by_cases r:s=b
   .subst r;exact⟨x,upd_same _ _ _,C.le_trans (C.le_of_lt (P d L)) M⟩
   .exact⟨d,by rw[upd_ne _ _ r];exact L,M⟩
  rcases H.srcs s c hs with q|⟨d,O,Q⟩
  .rcases T s c q with r|⟨F,I⟩
   .exact .inl r
   .subst F;exact .inr ⟨x,upd_same _ _ _,I⟩
  .exact .inr (low d O Q)
 back:=λj c g=>by
  have low:∀(a:Nat)(d e y:C),lab a=some d->C.le (C.add d e) y->∃u,upd lab b (some x) a=some u/\C.le (C.add u e) y:=λa d e y L M=>by
   by_cases r:a=b
   .subst r;exact⟨x,upd_same _ _ _,C.le_trans (C.add_le_add (C.le_of_lt (P d L)) (C.le_refl _)) M⟩
   .exact⟨d,by rw[upd_ne _ _ r];exact L,M⟩
  by_cases e:j=b
  .subst e
   rw[upd_same]at g;injection g with g;subst g
   rw[upd_same];rcases hz with q|⟨a,d,e,O,Q,q3,U,Z⟩
   .exact .inl q
   .obtain⟨u,F,I⟩:=low a d e x Q Z
    exact .inr ⟨a,u,e,O,F,U,I⟩
  .rw[upd_ne _ _ e]at g⊢
   rcases H.back j c g with q|⟨a,d,J,O,Q,U,Z⟩
   .exact .inl q
   .obtain⟨u,F,I⟩:=low a d J c Q Z
    exact .inr ⟨a,u,J,O,F,U,I⟩
theorem done(H:Hu E src h lab hp back k pend ps)(g:∀b e,¬pend b e)(B:∀s c,¬ps s c):Hu E src h lab hp back k' (λ_ _=>False) (λ_ _=>False) where
 reach:=H.reach
 key:=H.key
 closed:=λa c b e u z=>by
  rcases H.closed a c b e u z with q|q|q
  .exact absurd q.2 (g b e)
  .exact .inr (.inl q)
  .exact .inr (.inr q)
 srcs:=λs c h=>by
  rcases H.srcs s c h with q|q
  .exact absurd q (B s c)
  .exact .inr q
 back:=H.back
end Hu
namespace LS
variable {c:C}{S:LS}{T top:Nat}{src:Nat->C->Prop}{fin:Nat->Option C}{mark:Nat->Prop}
def SE(S:LS)(top T:Nat)(mark:Nat->Prop)(fin:Nat->Option C)(a b:Nat)(e:C):Prop:=
 (a≠T/\b≠T/\(S.lev a<S.lev b\/S.lev b=top\/mark b)/\∃m,S.eg a b=some (e,m))\/(a≠T/\b=T/\fin a=some e)
def oJ(S:LS)(ends:Nat->Prop)(b:Nat):Prop:=∃t c,ends t/\Walk (λx y c=>S.lev x<S.lev y/\∃m,S.eg x y=some (c,m)) t b c
def Tz(g:FR.G)(src:Nat->C->Prop)(fin:Nat->Option C)(c:C):Prop:=∃s c0 t d e,src s c0/\g.ak s/\Walk g.GE s t d/\fin t=some e/\c=C.add (C.add c0 d) e
theorem EH{g:FR.G}(H:Fin g top S)(hT:g.n<=T)(u:∀s c,src s c->g.ak s)(h:Reach (S.SE top T mark fin) src T c):Tz g src fin c:=by
 obtain⟨s,F,p,I,z,rfl⟩:=h
 have L:∀{a b p},Walk (S.SE top T mark fin) a b p->a≠T->(b≠T->Walk g.GE a b p)/\(b=T->∃t d e,Walk g.GE a t d/\fin t=some e/\p=C.add d e):=by
  intro a b p z R
  induction z with
  |nil=>exact⟨λ_=>.nil _,λe=>absurd e R⟩
  | @snoc m b d e z U O=>
   rcases U with⟨M,B,_,k,hk⟩|⟨M,B,Z⟩
   .exact⟨λ_=>(O.1 M).trans (H.walk _ _ _ _ hk),λe=>absurd e B⟩
   .exact⟨λe=>absurd B e,λ_=>⟨m,d,e,O.1 M,Z,rfl⟩⟩
 have J:s≠T:=by have:=(u s F I).1;omega
 obtain⟨t,d,e,P,Q,rfl⟩:=(L z J).2 rfl;exact⟨s,F,t,d,e,I,u s F I,P,Q,(C.add_assoc _ _ _).symm⟩
theorem EN{g:FR.G}(H:Fin g top S)(hT:g.n<=T)(hm:∀b,oJ S (λt=>g.ak t/\fin t≠none) b->mark b)(h:Tz g src fin c):∃O,Reach (S.SE top T mark fin) src T O/\C.le O c:=by
 obtain⟨s,Q,t,d,e,hs,J,z,R,rfl⟩:=h
 have B:g.ak t:=by
  have:∀{a b c},Walk g.GE a b c->g.ak a->g.ak b:=λz ha=>z.keeps (P:=g.ak) (λa b c _ I=>I.2.1) ha;exact this z J
 obtain⟨p,q,U,d1,Z,h1,h2,h3,h4⟩:=H.ud s t d J B z
 have F:∀{x y c m},S.eg x y=some (c,m)->x≠T/\y≠T:=λ{x y c m}I=>by
  obtain⟨a,b,_⟩:=H.bG x y (by rw[I];simp);have:=a.1;have:=b.1;exact⟨by omega,by omega⟩
 have w1:Walk (S.SE top T mark fin) s p U:=Walk.mono (λa b c⟨L,m,u⟩=>.inl ⟨(F u).1,(F u).2,.inl L,m,u⟩) h1;have w2:Walk (S.SE top T mark fin) p q d1:=Walk.mono (λa b c⟨L,m,u⟩=>.inl ⟨(F u).1,(F u).2,.inr (.inl L),m,u⟩) h2
 have w3:Walk (S.SE top T mark fin) q t Z:=by
  have M:∀{b c},Walk (λx y c=>S.lev x<S.lev y/\∃m,S.eg x y=some (c,m)) t b c->Walk (S.SE top T mark fin) b t c:=by
   intro b c z
   induction z with
   |nil=>exact .nil _
   | @snoc m b d e z I ih=>
    obtain⟨L,k,u⟩:=I;rw[C.add_comm];refine Walk.cons (.inl ⟨(F u).2,(F u).1,.inr (.inr (hm m ⟨t,_,⟨B,by rw[R];simp⟩,z⟩)),k,by rw[H.symm];exact u⟩) ih
  exact M h3
 refine⟨_,⟨s,Q,_,hs,((w1.trans w2).trans w3).snoc (.inr ⟨by have:=B.1;omega,rfl,R⟩),rfl⟩,?_⟩;exact C.le_trans (C.add_le_add (C.le_refl Q) (C.add_le_add h4 (C.le_refl e))) (C.le_of_eq (C.add_assoc _ _ _).symm)
theorem Cv{g:FR.G}(H:Fin g top S)(u:g.n<=T)(k:∀s c,src s c->g.ak s)(M:∀b,oJ S (λt=>g.ak t/\fin t≠none) b->mark b):om (S.SE top T mark fin) src T c↔Tz g src fin c/\∀d,Tz g src fin d->C.le c d:=by
 constructor
 .rintro⟨I,z⟩
  refine⟨EH H u k I,λd J=>?_⟩;obtain⟨F,B,L⟩:=EN H u M J;exact C.le_trans (z F B) L
 .rintro⟨I,z⟩
  obtain⟨F,B,L⟩:=EN H u M I;have:=z F (EH H u k B);have e:=C.le_antisymm this L;subst e;exact⟨B,λd J=>z d (EH H u k J)⟩
end LS
end FR
namespace FR
structure SB (N T B M F:Nat) (lab:Nat->Option C):Prop where
 rng:∀j,lab j≠none->j<N\/j=T
 nn:∀j c,lab j=some c->C.Nn c
 bd:∀j c,lab j=some c->j<N->C.le c ⟨0,((B+M*bC lab N:Nat):Int)⟩
 bdT:∀j c,lab j=some c->¬j<N->C.le c ⟨0,((F+(B+M*N):Nat):Int)⟩
namespace SB
variable {c:C}
variable {N T B M F:Nat} {lab:Nat->Option C}
def K(N B M F:Nat):Nat:=2*(F+(B+M*(N+1)))
def me(N T B M F:Nat)(lab:Nat->Option C):Nat:=BF.meas (T+1) (K N B M F) lab
theorem start:SB N T B M F (λ_=>none):=⟨λ_ h=>absurd rfl h,λ_ _ h=>(nomatch h),λ_ _ h=>(nomatch h),λ_ _ h=>(nomatch h)⟩
theorem Rn(H:SB N T B M F lab){j:Nat}(h:lab j=some c):C.le c ⟨0,((F+(B+M*N):Nat):Int)⟩:=by
 by_cases g:j<N
 .refine C.le_trans (H.bd j c h g) (C.aK (Int.le_refl _) ?_)
  have:=Nat.mul_le_mul_left M (jB lab N);simp only;omega
 .exact H.bdT j c h g
theorem small(H:SB N T B M F lab){j:Nat}(h:lab j=some c):0<=c.s/\c.s<=2*((F+(B+M*N):Nat):Int)/\0<=c.d/\c.d<=2*((F+(B+M*N):Nat):Int):=by
 have g:=H.nn j c h;obtain⟨k,u⟩:=C.dZ g (b:=⟨0,((F+(B+M*N):Nat):Int)⟩) ⟨by simp,by simp only;omega⟩ (H.Rn h);obtain⟨z,I⟩:=g;simp only at k u;omega
theorem put(H:SB N T B M F lab)(ab:N<=T){b:Nat}(U:b<N\/b=T)(P:C.Nn c)(O:∀d,lab b=some d->C.lt c d)(S:b<N->lab b=none->C.le c ⟨0,((B+M*(bC lab N+1):Nat):Int)⟩)(R:¬b<N->C.le c ⟨0,((F+(B+M*N):Nat):Int)⟩):SB N T B M F (upd lab b (some c))/\me N T B M F (upd lab b (some c))<me N T B M F lab:=by
 have Q:=sO lab N b c;have Z:=Nat.mul_le_mul_left M Q
 have L:b<N->C.le c ⟨0,((B+M*bC (upd lab b (some c)) N:Nat):Int)⟩:=λk=>by
  cases z:lab b with
  |none=>rw[kg k z];exact S k z
  |some d=>exact C.le_trans (C.le_of_lt (O d z)) (C.le_trans (H.bd b _ z k) (C.aK (Int.le_refl _) (by simp only;omega)))
 have I:C.le c ⟨0,((F+(B+M*N):Nat):Int)⟩:=by
  by_cases k:b<N
  .refine C.le_trans (L k) (C.aK (Int.le_refl _) ?_)
   have:=Nat.mul_le_mul_left M (jB (upd lab b (some c)) N);simp only;omega
  .exact R k
 refine⟨⟨?_,?_,?_,?_⟩,?_⟩
 .intro j g
  unfold upd at g;split at g
  .rename_i e;rw[e];exact U
  .exact H.rng j g
 .intro j d g
  unfold upd at g;split at g
  .cases g;exact P
  .exact H.nn j d g
 .intro j d g u
  by_cases e:j=b
  .subst e;rw[upd_same]at g;cases g;exact L u
  .rw[upd_ne _ _ e]at g
   exact C.le_trans (H.bd j _ g u) (C.aK (Int.le_refl _) (by simp only;omega))
 .intro j d g u
  by_cases e:j=b
  .subst e;rw[upd_same]at g;cases g;exact I
  .rw[upd_ne _ _ e]at g
   exact H.bdT j _ g u
 .have J:c∈box (K N B M F):=by
   obtain⟨p1,p2⟩:=C.dZ P (b:=⟨0,((F+(B+M*N):Nat):Int)⟩) ⟨by simp,by simp only;omega⟩ I;have h3:M*N<=M*(N+1):=Nat.mul_le_mul_left _ (Nat.le_succ _);simp only at p1 p2;refine um P ?_ ?_<;>unfold K<;>omega
  unfold me BF.meas;apply qU
  .intro j _
   by_cases q:j=b
   .subst q
    rw[upd_same];cases z:lab j with
    |none=>exact Nat.le_succ_of_le (vS _ _)
    |some d=>exact Nat.le_of_lt (vT (O d z) J)
   .rw[upd_ne _ _ q];exact Nat.le_refl _
  .refine⟨b,by rcases U with h|h<;>omega,?_⟩
   rw[upd_same];cases z:lab b with
   |none=>exact Nat.lt_succ_of_le (vS _ _)
   |some d=>exact vT (O d z) J
end SB
theorem A9(L:Nat->Option C)(N b:Nat)(c:C):bC (upd L b (some c)) N<=bC L N+1:=by
 by_cases g:b<N
 .cases h:L b with
  |none=>rw[kg g h];exact Nat.le_refl _
  |some d=>unfold bC;rw[xO N (by rw[h];simp) c];exact Nat.le_succ _
 .have:bC (upd L b (some c)) N=bC L N:=by
   unfold bC dG;refine bD N λk u=>?_;show(if(upd L b (some c) k).isSome=true then 1 else 0)=if(L k).isSome=true then 1 else 0
   rw[upd_ne (j:=k) (k:=b) _ _ (by omega)]
  omega
end FR
namespace FR
namespace G
variable {g g':G}{nx ny:Int}{a b c k z:Nat}
def nX(g:G)(c z:Nat):Prop:=(g.X c:Int)-1<=g.X z/\(g.X z:Int)<=g.X c+1/\(g.Y c:Int)-1<=g.Y z/\(g.Y z:Int)<=g.Y c+1
def Pd(g:G)(c:Nat)(nx ny:Int)(z:Nat):Prop:=g.nX c z/\((g.Y z:Int)<ny\/((g.Y z:Int)=ny/\(g.X z:Int)<nx))
def PN(g g':G)(c:Nat)(nx ny:Int)(z:Nat):Prop:=z<g.n/\((g.Pd c nx ny z/\g'.ak z)\/(¬g.Pd c nx ny z/\g.ak z))
def PD(g g':G)(c:Nat)(nx ny:Int)(a b:Nat):Prop:=g.aF a b/\(g.Pd c nx ny a->g.ak a/\g'.ak a)/\(g.Pd c nx ny b->g.ak b/\g'.ak b)
theorem NC(h:g.PD g' c nx ny a b):g.PD g' c nx ny b a:=⟨fZ.1 h.1,h.2.2,h.2.1⟩
theorem uF:¬g.Pd c ((g.X c:Int)-1) ((g.Y c:Int)-1) z:=by
 rintro⟨⟨u,B,F,I⟩,J⟩;omega
theorem C9(h:nx=(g.X c:Int)+2):g.Pd c nx ny z↔g.Pd c ((g.X c:Int)-1) (ny+1) z:=by
 unfold Pd nX;omega
theorem JZ(h:ny=(g.Y c:Int)+2):g.Pd c nx ny z↔g.nX c z:=by
 unfold Pd nX;omega
theorem yV(u:g.ok)(B:z<g.n)(J:¬(0<=nx/\nx<g.w/\0<=ny/\ny<g.h)):g.Pd c (nx+1) ny z↔g.Pd c nx ny z:=by
 have F:=jw u z;have I:=iM B
 grind [Pd]
theorem EY(I:(g.X k:Int)=nx)(J:(g.Y k:Int)=ny)(F:g.nX c k):g.Pd c (nx+1) ny z↔g.Pd c nx ny z\/z=k:=by
 constructor
 .rintro⟨u,B⟩
  by_cases e:(g.X z:Int)=nx/\(g.Y z:Int)=ny
  .grind [fP]
  .exact .inl ⟨u,by omega⟩
 .rintro(⟨u,B⟩|rfl)
  .exact⟨u,by omega⟩
  .exact⟨F,by omega⟩
theorem J2(u:(g.X k:Int)=nx)(B:(g.Y k:Int)=ny):¬g.Pd c nx ny k:=by
 rintro⟨_,h⟩;omega
theorem yU(u:k<g.n)(F:(g.X k:Int)=nx)(I:(g.Y k:Int)=ny)(B:g.nX c k):((z=k/\g'.ak k)\/(z≠k/\g.PN g' c nx ny z))↔g.PN g' c (nx+1) ny z:=by
 grind [PN,EY,J2]
theorem NB(u:k<g.n)(J:(g.X k:Int)=nx)(L:(g.Y k:Int)=ny)(I:g.nX c k)(B:g.PN g' c (nx+1) ny a)(F:g.PN g' c (nx+1) ny b):(g.PD g' c nx ny a b/\((a≠k/\b≠k)\/(g'.ak k/\g.PN g' c nx ny k)))↔g.PD g' c (nx+1) ny a b:=by
 grind [J2,PN,PD,EY]
theorem QJ(u:But g g' (g.X c) (g.Y c))(h:ny=(g.Y c:Int)+2)(z:Nat):g.PN g' c nx ny z↔g'.ak z:=by
 unfold PN;rw[JZ h];have B:¬g.nX c z->(g'.ak z↔g.ak z):=λF=>uO u (by unfold nX at F;omega);constructor
 .grind
 .intro q
  refine⟨by have:=q.1;rw[u.n]at this;exact this,?_⟩
  grind
theorem JY(J:g.ok)(u:But g g' (g.X c) (g.Y c))(h:ny=(g.Y c:Int)+2)(F:g'.ak a)(B:g'.ak b)(I:¬g.uC a b (g.X c) (g.Y c)):g.PD g' c nx ny a b↔g'.aF a b:=by
 have L:¬g.nX c a:=by unfold nX uC at*;omega
 have M:¬g.nX c b:=by unfold nX uC at*;omega
 have e:=Dy J u (by have:=B.1;rw[u.n]at this;exact this) (by have:=F.1;rw[u.n]at this;exact this) I
 grind [PD,JZ]
end G
end FR
namespace FR
variable {hp:Int->Option C}{l:List It}
instance (a b:It):Decidable (It.lt a b):=by unfold It.lt;infer_instance
def ins(x:It):List It->List It
 |[]=>[x]
 |y::l=>if It.lt x y then x::y::l else y::ins x l
def D8(x:It)(st:List It×Bool):List It:=if st.2 then st.1 else st.1++[x]
def Ta(x:It)(l:List It):List It:=ins x (l.filter λy=>y.id≠x.id)
theorem zN(x:It):∀(l:List It)(y:It),y∈ins x l↔y=x\/y∈l
 |[],y=>by simp[ins]
 |z::l,y=>by
  unfold ins;split
  .simp
  .simp only[List.mem_cons,zN x l y]
   constructor
   .rintro(h|h|h)
    .exact .inr (.inl h)
    .exact .inl h
    .exact .inr (.inr h)
   .rintro(h|h|h)
    .exact .inr (.inl h)
    .exact .inl h
    .exact .inr (.inr h)
theorem vZ(x:It):∀(l:List It),l.Pairwise It.lt->(∀y∈l,y≠x)->(ins x l).Pairwise It.lt
 |[],_,_=>by simp[ins]
 |z::l,h,u=>by
  unfold ins;have B:=(List.pairwise_cons.1 h).1;have F:=(List.pairwise_cons.1 h).2;split
  .rename_i k
   refine List.pairwise_cons.2 ⟨?_,h⟩;intro y g;rcases List.mem_cons.1 g with rfl|g
   .exact k
   .exact It.lt_trans k (B y g)
  .rename_i k
   refine List.pairwise_cons.2 ⟨?_,vZ x l F (λy g=>u y (List.mem_cons_of_mem _ g))⟩;intro y g;rcases(zN x l y).1 g with rfl|g
   .rcases It.jR z y with q|q|q
    .exact q
    .exact absurd q (u z (List.mem_cons_self ..))
    .exact absurd q k
   .exact B y g
def RL(l:List It)(hp:Int->Option C):Prop:=l.Pairwise It.lt/\∀id d,hp id=some d↔(⟨d,id⟩:It)∈l
theorem RL.nil:RL [] (λ_=>none):=⟨List.Pairwise.nil,λg d=>by simp⟩
theorem RL.push(h:RL l hp)(x:It):RL (Ta x l) (λz=>if z=x.id then some x.c else hp z):=by
 refine⟨vZ x _ (h.1.filter _) ?_,?_⟩
 .grind
 .intro g d
  show(if g=x.id then some x.c else hp g)=some d↔_;unfold Ta;rw[zN,List.mem_filter];by_cases e:g=x.id
  .subst e
   rw[if_pos rfl];constructor
   .intro q;injection q with q;left;cases x;simp only at q;rw[q]
   .grind
  .rw[if_neg e,h.2 g d]
   grind
theorem RL.pop{x:It}(h:RL (x::l) hp):RL l (λz=>if z=x.id then none else hp z):=by
 refine⟨(List.pairwise_cons.1 h.1).2,?_⟩;intro k d;show(if k=x.id then none else hp k)=some d↔_;have B:hp x.id=some x.c:=(h.2 x.id x.c).2 (List.mem_cons_self ..);by_cases e:k=x.id
 .subst e
  rw[if_pos rfl];constructor
  .intro q;cases q
  .intro q
   have g:=(h.2 x.id d).2 (List.mem_cons_of_mem _ q);rw[B]at g;injection g with g
   have u:=(List.pairwise_cons.1 h.1).1 _ q;rw[<-g]at u;exact absurd u (It.lt_irrefl x)
 .rw[if_neg e,h.2 k d,List.mem_cons]
  grind
theorem RL.first{x:It}(h:RL (x::l) hp):hp x.id=some x.c/\∀g d,hp g=some d->It.le x ⟨d,g⟩:=by
 refine⟨(h.2 x.id x.c).2 (List.mem_cons_self ..),λg d k=>?_⟩;rcases List.mem_cons.1 ((h.2 g d).1 k)with q|q
 .rw[q];exact It.le_refl _
 .exact It.le_of_lt ((List.pairwise_cons.1 h.1).1 _ q)
theorem RL.empty(h:RL [] hp)(g:Int):hp g=none:=by
 cases e:hp g with
 |none=>rfl
 |some d=>have:=(h.2 g d).1 e;cases this
theorem RL.len(h:RL l hp){n:Nat}{c:Nat->It}(I:Holds n c hp)(z:sF n c):l.length=n:=by
 have k:((List.range n).map c).Nodup:=by
  rw[List.nodup_iff_pairwise_ne,List.pairwise_map];refine List.Pairwise.imp_of_mem ?_ (List.nodup_iff_pairwise_ne.1 List.nodup_range);intro a b B F g e;exact g (z a b (List.mem_range.1 B) (List.mem_range.1 F) (by rw[e]))
 have u:l.Nodup:=by
  rw[List.nodup_iff_pairwise_ne];exact h.1.imp (λ{a b}q(e:a=b)=>It.lt_irrefl b (by rw[e]at q;exact q))
 have hp1:((List.range n).map c).Perm l:=by
  rw[List.perm_ext_iff_of_nodup k u];intro a;rw[<-h.2 a.id a.c,I a.id a.c];simp only[List.mem_map,List.mem_range]
 have:=hp1.length_eq
 grind
theorem RL.ids(h:RL l hp){i j:Nat}(k:i<l.length)(u:j<l.length)(e:l[i].id=l[j].id):i=j:=by
 have g:=(h.2 l[i].id l[i].c).2 (List.getElem_mem k);have B:=(h.2 l[j].id l[j].c).2 (List.getElem_mem u);rw[e,B]at g;injection g with g
 have z:l[i]=l[j]:=by
  cases F:l[i];cases I:l[j]
  grind
 rcases Nat.lt_trichotomy i j with q|q|q
 .have:=List.pairwise_iff_getElem.1 h.1 i j k u q
  rw[z]at this;exact absurd this (It.lt_irrefl _)
 .exact q
 .have:=List.pairwise_iff_getElem.1 h.1 j i u k q
  rw[z]at this;exact absurd this (It.lt_irrefl _)
end FR
