/- Lemmas of this claim: MathAsk7, MathEdit. -/
import Derived.Test.YtokhnobcincfjaaGreatDoorKNEd37
import Derived.Test.YtokhnobcincfjaaGreatDoorKNEd28
set_option linter.unusedVariables false
set_option linter.unusedSimpArgs false
namespace Go.Proofs.YtokhnobcincfjaaGreatDoor
open FR
variable {c:C}{g g' g2:G}{x y:Int}{W:List Nat}{e:Nat}{f:Nat->Int×Bool}
def bX(g2 g:G):Prop:=g2.w=g.w/\g2.h=g.h/\∀c,c<g.n->g2.b c=g.b c
theorem bX.n(h:bX g2 g):g2.n=g.n:=by unfold G.n;rw[h.1,h.2.1]
theorem bX.refl(g:G):bX g g:=⟨rfl,rfl,λ_ _=>rfl⟩
theorem bX.symm(h:bX g2 g):bX g g2:=⟨h.1.symm,h.2.1.symm,λc k=>(h.2.2 c (by rw[<-h.n];exact k)).symm⟩
theorem bX.trans{a b c:G}(h:bX a b)(k:bX b c):bX a c:=⟨h.1.trans k.1,h.2.1.trans k.2.1,λx u=>(h.2.2 x (by rw[k.n];exact u)).trans (k.2.2 x u)⟩
theorem bX.E(h:bX g2 g):g2.E=g.E:=JM h.1 h.2.1 h.2.2
theorem bX.op(h:bX g2 g):g2.op=g.op:=Gl h.1 h.2.1 h.2.2
theorem bX.ask(h:bX g2 g)(k:cu g2 x y W c e):cu g x y W c e:=k.same h.1 h.2.1 h.2.2
theorem oV{b u:Nat->Bool}:∀{k:Nat},(∀c,c<k->b c=u c)->gB b k=gB u k
 |0,_=>rfl
 |k+1,h=>by rw[j6,j6,oV λc z=>h c (by omega),h k (by omega)]
theorem bX.cnt(h:bX g2 g):gB g2.b g2.n=gB g.b g.n:=by rw[h.n];exact oV h.2.2
theorem bX.cells(h:bX g2 g):∀{k:Nat},k<=g.n->cellsS g2 k=cellsS g k
 |0,_=>rfl
 |k+1,u=>by rw[ic,ic,bX.cells h (k:=k) (by omega),h.2.2 k (by omega),h.1]
theorem bX.print(h:bX g2 g):di g2=di g:=by
 unfold di;rw[h.1,h.2.1,h.cells (k:=g.h*g.w) (by unfold G.n;rw[Nat.mul_comm];exact Nat.le_refl _)]
theorem AQ{W T:List Nat}{c R:C}{e S:Nat}(h:cu g x y W c e)(k:cu g x y T R S):c=R/\e=S:=by
 by_cases B:eP g x y=0
 .obtain⟨a,b,rfl,rfl,_,_,_,_,hh⟩:=h.cells B
  obtain⟨U,Z,e1,e2,_,_,_,_,kk⟩:=k.cells B;obtain rfl:a=U:=Int.ofNat_inj.1 e1;obtain rfl:b=Z:=Int.ofNat_inj.1 e2;rcases hh with⟨F,u,_,P⟩|⟨F,u,_⟩<;>rcases kk with⟨I,z,_,Q⟩|⟨I,z,_⟩
  .exact⟨by rw[P,Q],by rw[u,z]⟩
  .exact absurd I.1 (F _)
  .exact absurd F.1 (I _)
  .exact⟨bP.unique F I,by rw[u,z]⟩
 .rcases h with⟨_,u,_,P⟩|⟨a,b,rfl,rfl,J,L,M,O,_⟩
  .rcases k with⟨_,z,_,Q⟩|⟨a,b,rfl,rfl,J,L,M,O,_⟩
   .exact⟨by rw[P,Q],by rw[u,z]⟩
   .exact absurd (gP (by rw[G.aN J,M];rfl) (by rw[G.aN L,O];rfl)) B
  .exact absurd (gP (by rw[G.aN J,M];rfl) (by rw[G.aN L,O];rfl)) B
def jY(g g':G):Prop:=g'.w=g.w/\g'.h=g.h/\∀c,c<g.n->g.b c=true->g'.b c=true
theorem jY.n(h:jY g g'):g'.n=g.n:=by unfold G.n;rw[h.1,h.2.1]
theorem jY.op(h:jY g g')(k:g'.op x y=true):g.op x y=true:=by
 unfold G.op at k⊢;rw[h.1,h.2.1]at k;simp only[Bool.and_eq_true,decide_eq_true_eq,Bool.not_eq_true']at k⊢;obtain⟨u,z⟩:=k;refine⟨u,?_⟩;cases B:g.b (y.toNat*g.w+x.toNat)with
 |false=>rfl
 |true=>
  rw[h.2.2 _ ?_ B]at z
  .exact z
  .obtain⟨F,I,J,L⟩:=u
   have:y.toNat*g.w+x.toNat<(y.toNat+1)*g.w:=by rw[Nat.add_mul];omega
   exact Nat.lt_of_lt_of_le this (by rw[G.n,Nat.mul_comm];exact Nat.mul_le_mul_left _ (by omega))
theorem jY.E(h:jY g g'){a b:Nat}(Q:g'.E a b c):g.E a b c:=by
 obtain⟨z,B,u,v,R,S,T,U,F,I,J,L,M,k⟩:=GL.1 Q;have O:∀c,g'.X c=g.X c:=λc=>by unfold G.X;rw[h.1]
 have P:∀c,g'.Y c=g.Y c:=λc=>by unfold G.Y;rw[h.1]
 simp only[O,P]at F I J L M k;rw[h.n]at z B;exact GL.2 ⟨z,B,u,v,R,S,T,U,h.op F,h.op I,h.op J,h.op L,M,k⟩
theorem jY.walk(h:jY g g'){a b:Nat}(k:Walk g'.E a b c):Walk g.E a b c:=by
 induction k with
 |nil=>exact .nil _
 |snoc _ he ih=>exact .snoc ih (h.E he)
theorem jY.ask(h:jY g g')(fx:g'.fault x=g.fault x)(fy:g'.fault y=g.fault y){W Z:List Nat}{c T:C}{e M:Nat}(k:cu g x y W c e)(U:cu g' x y Z T M):(M=0->e=0/\C.le c T)/\(e≠0->M=e):=by
 have R:eP g' x y=eP g x y:=by unfold eP;rw[fx,fy]
 by_cases B:eP g x y=0
 .obtain⟨a,b,rfl,rfl,_,_,_,_,hh⟩:=k.cells B
  obtain⟨a',b',O,P,_,_,_,_,kk⟩:=U.cells (R.trans B);obtain rfl:a=a':=Int.ofNat_inj.1 O;obtain rfl:b=b':=Int.ofNat_inj.1 P;rcases hh with⟨Q,u,_,h3⟩|⟨Q,u,_⟩<;>rcases kk with⟨S,z,_,k3⟩|⟨S,z,_⟩
  .exact⟨λq=>by omega,λ_=>by rw[u,z]⟩
  .exact absurd (h.walk S.1) (Q _)
  .exact⟨λq=>by omega,λq=>absurd u q⟩
  .exact⟨λ_=>⟨u,Q.2 _ (h.walk S.1)⟩,λq=>absurd u q⟩
 .rcases k with⟨_,u,_,h3⟩|⟨a,b,rfl,rfl,F,I,J,L,_⟩
  .rcases U with⟨_,z,_,k3⟩|⟨a,b,O,P,F,I,J,L,_⟩
   .rw[R]at z
    exact⟨λq=>absurd (z.symm.trans q) B,λ_=>by rw[u,z]⟩
   .exact absurd (R▸gP (by rw[O,G.aN F,J];rfl) (by rw[P,G.aN I,L];rfl)) B
  .exact absurd (gP (by rw[G.aN F,J];rfl) (by rw[G.aN I,L];rfl)) B
theorem jY.dX(h:jY g g')(hg:g.ok){f:Nat->Int}:∀{i:Nat}{d:C},g'.dX f i=.inr d->g.dX f i=.inr d
 |0,_,k=>k
 |i+1,d,k=>by
  obtain⟨z,Q,u,B⟩:=G.uB k
  have L:g.b z=false:=by
   cases q:g.b z with
   |false=>rfl
   |true=>rw[h.2.2 z (by rw[<-h.n];exact u) q]at B;cases B
  have S:g'.fault (f i)=0:=by rw[Q,G.aN u,B];rfl
  have T:g.fault (f i)=0:=by rw[Q,G.aN (by rw[<-h.n];exact u),L];rfl
  unfold G.dX at k⊢;cases F:g'.dX f i with
  |inl e=>rw[F]at k;cases k
  |inr c=>
   rw[F]at k;rw[jY.dX h hg F];simp only[S,T,ne_eq,not_true_eq_false,if_false]at k⊢;by_cases P:i=0
   .rw[if_pos P]at k⊢;exact k
   .rw[if_neg P]at k⊢
    cases I:g'.mP (f (i-1)).toNat (f i).toNat with
    |none=>rw[I]at k;cases k
    |some j=>
     rw[I]at k;obtain⟨R,O,U,_⟩:=G.gV I;obtain⟨m1,m2⟩:=G.nH (List.mem_of_getElem? O);obtain⟨M,rfl⟩:∃j,i=j+1:=⟨i-1,by omega⟩;obtain⟨y,hy,J,ab⟩:=G.uB F;simp only[Nat.add_sub_cancel]at*;have Z:g'.E (f M).toNat (f (M+1)).toNat (g'.Aj (f M).toNat j):=⟨by rw[hy];simpa using J,R,m1,m2,U.symm,by unfold G.Aj;rw[List.getD_eq_getElem?_getD,O];rfl⟩;obtain⟨j2,q1,q2⟩:=G.Ng (h.E Z);rw[q1];simp only[q2];exact k
theorem rO{c:Nat}{t:Bool}(h:g.b c=t):bS g c t=g:=by
 have:upd g.b c t=g.b:=by
  funext j;unfold upd;split
  .rename_i e;rw[e,h]
  .rfl
 unfold bS;rw[this]
def aM(f:Nat->Int×Bool)(g:G):Nat->G
 |0=>g
 |k+1=>bS (aM f g k) (f k).1.toNat (f k).2
def aP(f:Nat->Int×Bool)(g:G):Nat->Nat
 |0=>0
 |k+1=>aP f g k+(if(aM f g k).b (f k).1.toNat=(f k).2 then 0 else 1)
theorem kX(f:Nat->Int×Bool)(g:G):∀k,(aM f g k).w=g.w/\(aM f g k).h=g.h
 |0=>⟨rfl,rfl⟩
 |k+1=>kX f g k
theorem uf(f:Nat->Int×Bool)(g:G)(k:Nat):(aM f g k).n=g.n:=by
 unfold G.n;rw[(kX f g k).1,(kX f g k).2]
theorem Bg(h:g.ok)(k:Nat):(aM f g k).ok:=by
 obtain⟨u,z⟩:=kX f g k;obtain⟨B,F,I,J⟩:=h;exact⟨by rw[u];exact B,by rw[u];exact F,by rw[z];exact I,by rw[z];exact J⟩
theorem uT:∀{k:Nat},aP f g k=0->aM f g k=g
 |0,_=>rfl
 |k+1,h=>by
  have u:aP f g k=0:=by unfold aP at h;omega
  have z:(aM f g k).b (f k).1.toNat=(f k).2:=by
   unfold aP at h;split at h
   .assumption
   .omega
  show bS (aM f g k) _ _=g;rw[rO z];exact uT u
theorem qg(f:Nat->Int×Bool)(g:G):∀k,aP f g k<=k
 |0=>Nat.le_refl _
 |k+1=>by
  have:=qg f g k;unfold aP;split<;>omega
theorem bX.bS(h:bX g2 g)(c:Nat)(t:Bool):bX (bS g2 c t) (bS g c t):=by
 refine⟨h.1,h.2.1,λj k=>?_⟩;show upd g2.b c t j=upd g.b c t j;unfold upd;split
 .rfl
 .exact h.2.2 j k
theorem bX.edit(h:bX g2 g):∀{k:Nat},(∀j,j<k->0<=(f j).1/\(f j).1<(g.n:Nat))->bX (aM f g2 k) (aM f g k)/\aP f g2 k=aP f g k
 |0,_=>⟨h,rfl⟩
 |k+1,z=>by
  obtain⟨u,B⟩:=bX.edit h (k:=k) (λj F=>z j (by omega));refine⟨u.bS _ _,?_⟩;unfold aP;rw[B,u.2.2 _ (by rw[uf];have:=z k (by omega);omega)]
