/- Lemmas of this claim: MathWay, MathBF, Math3, MathGraph, MathReach, MathRepair, MathBd, MathLevels, MathSel, MathSpan. -/
import Derived.Test.YtokhnobcincfjaaGreatDoorKNEd1
set_option linter.unusedVariables false
set_option linter.unusedSimpArgs false
set_option linter.unusedSectionVars false
namespace FR
variable {c:C}{g:G}{i:Nat}{f:Nat->Int}
def G.fault(g:G)(x:Int):Nat:=if x<0\/(g.n:Int)<=x then 1 else if g.b x.toNat=true then 4 else 0
theorem G.rE{x:Int}(h:x<0\/(g.n:Int)<=x):g.fault x=1:=if_pos h
theorem G.aN{c:Nat}(h:c<g.n):g.fault (c:Nat)=if g.b c=true then 4 else 0:=by
 unfold G.fault;rw[if_neg (by omega)];rfl
theorem G.gN{x:Int}(h:g.fault x=0):∃c:Nat,x=c/\c<g.n/\g.b c=false:=by
 unfold G.fault at h;split at h
 .cases h
 .rename_i u
  split at h
  .cases h
  .rename_i k
   exact⟨x.toNat,by omega,by omega,by simpa using k⟩
def G.mP(g:G)(a b:Nat):Option Nat:=(g.moves a).findIdx? λd=>g.to a d==b
theorem G.M3{a d d':Nat}(J:d<8)(k:d'<8)(h:g.dN a d=true)(u:g.dN a d'=true)(e:g.to a d=g.to a d'):d=d':=by
 obtain⟨_,z,B⟩:=G.df h;obtain⟨_,L,M⟩:=G.df u;have F:=G.Bf J h rfl (x:=bu d) (y:=aZ d) z B;have I:=G.Bf k u rfl (x:=bu d) (y:=aZ d) (by rw[<-e];exact z) (by rw[<-e];exact B);rw[F,I]
theorem G.nH{a d:Nat}(h:d∈g.moves a):d<8/\g.dN a d=true:=by
 unfold G.moves at h;have:=List.mem_filter.1 h;exact⟨List.mem_range.1 this.1,this.2⟩
theorem G.BU(g:G)(a:Nat):(g.moves a).Nodup:=List.Pairwise.filter _ List.nodup_range
theorem G.sj{a b:Nat}(h:g.mP a b=none):∀(j d:Nat),(g.moves a)[j]? =some d->g.to a d≠b:=by
 intro j d k;have:=List.findIdx?_eq_none_iff.1 h d (List.mem_of_getElem? k);simpa using this
theorem G.gV{a b i:Nat}(h:g.mP a b=some i):∃d:Nat,(g.moves a)[i]? =some d/\g.to a d=b/\∀(j B:Nat),(g.moves a)[j]? =some B->(g.to a B=b↔j=i):=by
 obtain⟨F,z,M⟩:=List.findIdx?_eq_some_iff_getElem.1 h;simp at z;have k:(g.moves a)[i]? =some (g.moves a)[i]:=List.getElem?_eq_getElem F;refine⟨(g.moves a)[i],k,z,λj B u=>⟨λe=>?_,λe=>?_⟩⟩
 .have I:=G.nH (List.mem_of_getElem? u)
  have J:=G.nH (List.getElem_mem F);have L:=G.M3 I.1 J.1 I.2 J.2 (e.trans z.symm);rw[L,<-k]at u;exact(List.getElem?_inj (by exact(List.getElem?_eq_some_iff.1 (u.trans k)).1) (g.BU a)).1 u
 .subst e
  rw[k]at u;injection u with u
  rw[<-u];exact z
def G.Aj(g:G)(a i:Nat):C:=aW ((g.moves a).getD i 0)
theorem G.Ng{a b:Nat}{e:C}(h:g.E a b e):∃i,g.mP a b=some i/\g.Aj a i=e:=by
 obtain⟨R,d,B,F,z,O⟩:=h;have k:d∈g.moves a:=by unfold G.moves;exact List.mem_filter.2 ⟨List.mem_range.2 B,F⟩
 cases I:g.mP a b with
 |none=>
  obtain⟨j,P⟩:=List.getElem?_of_mem k;exact absurd z.symm (G.sj I j d P)
 |some i=>
  obtain⟨J,u,M,Q⟩:=G.gV I;have m:=G.nH (List.mem_of_getElem? u);have L:J=d:=G.M3 m.1 B m.2 F (M.trans z);refine⟨i,rfl,?_⟩;unfold G.Aj;rw[List.getD_eq_getElem?_getD,u,O,L];rfl
def G.dX(g:G)(f:Nat->Int):Nat->Nat ⊕ C
 |0=>.inr C.zero
 |i+1=>match G.dX g f i with
  |.inl e=>.inl e
  |.inr c=>if g.fault (f i)≠0 then .inl (g.fault (f i))else if i=0 then .inr c else
   match g.mP (f (i-1)).toNat (f i).toNat with
   |none=>.inl 7
   |some k=>.inr (C.add c (g.Aj (f (i-1)).toNat k))
theorem G.JG{i n e:Nat}(h:g.dX f i=.inl e)(u:i<=n):g.dX f n=.inl e:=by
 induction n with
 |zero=>obtain rfl:i=0:=by omega
        exact h
 |succ n k=>
  by_cases q:i=n+1
  .rw[<-q];exact h
  .have:=k (by omega)
   unfold G.dX;rw[this]
theorem G.uB(h:g.dX f (i+1)=.inr c):∃a:Nat,f i=a/\a<g.n/\g.b a=false:=by
 unfold G.dX at h;cases k:g.dX f i with
 |inl e=>rw[k]at h;simp at h
 |inr z=>
  rw[k]at h;simp only at h;split at h
  .cases h
  .rename_i u
   exact G.gN (by simpa using u)
def G.qY(g:G)(f:Nat->Int)(n:Nat):C×Nat:=match g.dX f n with
 |.inl e=>(C.zero,e)
 |.inr c=>if n=0 then(C.zero,7)else(c,0)
theorem G.mQ{i n e:Nat}(h:g.dX f i=.inl e)(k:i<=n):g.qY f n=(C.zero,e):=by
 unfold G.qY;rw[G.JG h k]
theorem G.uA{n:Nat}(h:g.dX f n=.inr c)(k:0<n):g.qY f n=(c,0):=by
 unfold G.qY;rw[h];simp only;rw[if_neg (by omega)]
theorem G.pG(h:g.dX f i=.inr c)(k:g.fault (f i)≠0):g.dX f (i+1)=.inl (g.fault (f i)):=by
 rw[G.dX,h];simp only;rw[if_pos k]
theorem G.pI(k:g.fault (f 0)=0):g.dX f 1=.inr C.zero:=by
 rw[G.dX,G.dX];simp[k]
theorem G.yL{i a b:Nat}(h:g.dX f (i+1)=.inr c)(u:g.fault (f (i+1))=0)(z:f i=a)(k:f (i+1)=b)(B:g.mP a b=none):g.dX f (i+2)=.inl 7:=by
 rw[k]at u;rw[G.dX,h];simp[u,z,k,B]
theorem G.sw{i a b k:Nat}(h:g.dX f (i+1)=.inr c)(z:g.fault (f (i+1))=0)(B:f i=a)(u:f (i+1)=b)(F:g.mP a b=some k):g.dX f (i+2)=.inr (C.add c (g.Aj a k)):=by
 rw[u]at z;rw[G.dX,h];simp[z,B,u,F]
theorem G.RY(g:G)(a k:Nat):0<=(g.Aj a k).s/\(g.Aj a k).s<=1/\0<=(g.Aj a k).d/\(g.Aj a k).d<=1:=by
 unfold G.Aj aW;split<;>simp
theorem G.Ab:∀{i:Nat}{c:C},g.dX f i=.inr c->0<=c.s/\c.s<=i/\0<=c.d/\c.d<=i
 |0,c,h=>by
  unfold G.dX at h;injection h with h;subst h;simp[C.zero]
 |i+1,c,h=>by
  unfold G.dX at h;cases u:g.dX f i with
  |inl e=>rw[u]at h;simp at h
  |inr z=>
   have B:=G.Ab u;rw[u]at h;simp only at h;split at h
   .cases h
   .split at h
    .injection h with h;subst h;omega
    .split at h
     .cases h
     .rename_i k _
      injection h with h;subst h
      have:=g.RY (f (i-1)).toNat k;simp only[C.add];omega
theorem G.wO{x:Nat->Nat}{c:Nat->C}{n:Nat}(h0:c 0=C.zero)(z:∀i,i<n->f i=x i)(u:x 0<g.n/\g.b (x 0)=false)(I:g.ok)
 (J:∀i,i+1<n->∃e,g.E (x i) (x (i+1)) e/\c (i+1)=C.add (c i) e):∀i,i<n->g.dX f (i+1)=.inr (c i)
 |0,h=>by
  rw[h0];refine G.pI ?_;rw[z 0 h,G.aN u.1,u.2];rfl
 |i+1,h=>by
  have O:=G.wO h0 z u I J i (by omega);obtain⟨e,B,L⟩:=J i h;obtain⟨k,M,F⟩:=G.Ng B;rw[L,<-F];refine G.sw O ?_ (z i (by omega)) (z (i+1) h) M;rw[z (i+1) h,G.aN (G.Qz B),(G.QA I B).2];rfl
def mR(back:Nat->Option Nat)(t:Nat)(l:List Nat):Prop:=l[0]? =some t/\∀i x y,l[i]? =some x->l[i+1]? =some y->back x=some y
theorem mR.one(back:Nat->Option Nat)(t:Nat):mR back t [t]:=⟨rfl,λi x y _ h=>by simp at h⟩
theorem mR.snoc{back:Nat->Option Nat}{t x y:Nat}{l:List Nat}(h:mR back t (l++[x]))(F:back x=some y):mR back t (l++[x]++[y]):=by
 refine⟨?_,?_⟩
 .rw[List.getElem?_append_left (by simp)];exact h.1
 .intro i u v z k
  by_cases q:i+1<(l++[x]).length
  .rw[List.getElem?_append_left (by omega)]at z
   rw[List.getElem?_append_left q]at k;exact h.2 i u v z k
  .have I:i+1=(l++[x]).length:=by
    have:=(List.getElem?_eq_some_iff.1 k).1;simp at this q⊢;omega
   rw[List.getElem?_append_left (by omega)]at z;rw[List.getElem?_append_right (by omega)]at k;have B:i=l.length:=by simp at I;omega
   subst B;simp at z k;subst z;subst k;exact F
namespace mV
variable {g:G} {fr:Nat} {done:Nat->Option C} {back:Nat->Option Nat}
theorem SC(H:mV g.E fr g.n done back):done fr=some C.zero:=by
 cases h:done fr with
 |none=>exact absurd (.nil fr) (H.out fr h C.zero)
 |some c=>rw[(H.in_ fr c h).unique (bP.self (λ_ _ _=>G.yP) fr)]
theorem lower(H:mV g.E fr g.n done back){x y:Nat}(I:back x=some y):∃c d,done x=some c/\done y=some d/\rk 512 d<rk 512 c:=by
 obtain⟨c,d,e,B,u,z,F⟩:=H.b1 x y I;refine⟨c,d,B,u,?_⟩;have k:=H.small _ _ u;refine vT ?_ (um ⟨k.1,k.2.2.1⟩ k.2.1 k.2.2.2);rw[F];refine C.jK (G.yP z) ?_;obtain⟨_,L,_,_,_,J⟩:=z;rw[J];unfold aW C.zero;split<;>simp
theorem way(U:g.ok)(H:mV g.E fr g.n done back)(O:g.b fr=false){t:Nat}{l:List Nat}{c:C}(R:done t=some c)(F:mR back t l)(Z:∃S,l=S++[fr]):g.qY (λi=>(l.reverse.map λn:Nat=>(n:Int)).getD i 0) l.length=(c,0):=by
 have hd:∀(i x:Nat),l[i]? =some x->∃c,done x=some c:=by
  intro i
  induction i with
  |zero=>intro x u;rw[F.1]at u;injection u with u;exact⟨c,u▸R⟩
  |succ i ih=>
   intro x u;have ab:=(List.getElem?_eq_some_iff.1 u).1;have hy:l[i]? =some l[i]:=List.getElem?_eq_getElem (by omega);obtain⟨_,d,_,B,_⟩:=H.lower (F.2 i _ _ hy u);exact⟨d,by assumption⟩
 have k:0<l.length:=(List.getElem?_eq_some_iff.1 F.1).1;let r:=l.reverse
 have L:∀i,i<l.length->r[i]? =l[l.length-1-i]?:=λi J=>by
  show l.reverse[i]? =_;rw[List.getElem?_reverse J]
 have ac:r.length=l.length:=by simp[r]
 have I:r[0]? =some fr:=by
  obtain⟨S,e⟩:=Z;rw[L 0 k,e];simp
 have P:r[l.length-1]? =some t:=by
  rw[L _ (by omega),show l.length-1-(l.length-1)=0 by omega];exact F.1
 have M:∀(i x:Nat),r[i]? =some x->r.getD i 0=x:=λi x h=>by rw[List.getD_eq_getElem?_getD,h];rfl
 have z:=G.wO (g:=g) (f:=λi=>(l.reverse.map λn:Nat=>(n:Int)).getD i 0) (x:=λi=>r.getD i 0) (c:=λi=>(done (r.getD i 0)).getD C.zero) (n:=l.length)
  (by simp only[M 0 fr I,H.SC];rfl)
  (λi J=>by
   have B:r[i]? =some (r.getD i 0):=by
    have:i<r.length:=by omega
    rw[List.getD_eq_getElem?_getD,List.getElem?_eq_getElem this];rfl
   show(r.map λn:Nat=>(n:Int)).getD i 0=_;rw[List.getD_eq_getElem?_getD,List.getElem?_map,B];rfl)
  (by simp only[M 0 fr I];exact⟨H.frN,O⟩) U
  (λi J=>by
   have B:r[i]? =some (r.getD i 0):=by
    have:i<r.length:=by omega
    rw[List.getD_eq_getElem?_getD,List.getElem?_eq_getElem this];rfl
   have Q:r[i+1]? =some (r.getD (i+1) 0):=by
    have:i+1<r.length:=by omega
    rw[List.getD_eq_getElem?_getD,List.getElem?_eq_getElem this];rfl
   generalize r.getD i 0=a at*;generalize r.getD (i+1) 0=b at*;rw[L i (by omega)]at B;rw[L (i+1) J]at Q;have T:=F.2 (l.length-1-(i+1)) b a Q (by rw[show l.length-1-(i+1)+1=l.length-1-i by omega];exact B);obtain⟨c1,d1,e,q1,q2,q3,q4⟩:=H.b1 b a T;exact⟨e,q3,by rw[q1,q2];exact q4⟩)
  (l.length-1) (by omega)
 rw[show l.length-1+1=l.length by omega]at z;simp only[M _ t P,R]at z;exact G.uA z k
end mV
end FR
namespace FR
variable {c:C}{j:Nat}{E:Nat->Nat->C->Prop}
def Reach(E:Nat->Nat->C->Prop)(src:Nat->C->Prop)(j:Nat)(c:C):Prop:=∃s c0 d,src s c0/\Walk E s j d/\c=C.add c0 d
theorem Reach.snoc{E:Nat->Nat->C->Prop}{src:Nat->C->Prop}{a b:Nat}{c e:C}(h:Reach E src a c)(z:E a b e):Reach E src b (C.add c e):=by
 obtain⟨s,g,d,k,u,rfl⟩:=h;exact⟨s,g,_,k,u.snoc z,C.add_assoc _ _ _⟩
theorem Reach.src{src:Nat->C->Prop}{s:Nat}(h:src s c):Reach E src s c:=⟨s,c,C.zero,h,.nil s,(C.add_zero c).symm⟩
def om(E:Nat->Nat->C->Prop)(src:Nat->C->Prop)(j:Nat)(c:C):Prop:=Reach E src j c/\∀d,Reach E src j d->C.le c d
theorem om.unique{src:Nat->C->Prop}{c d:C}(h:om E src j c)(k:om E src j d):c=d:=C.le_antisymm (h.2 _ k.1) (k.2 _ h.1)
theorem Reach.one{fr j:Nat}:Reach E (λs g=>s=fr/\g=C.zero) j c↔Walk E fr j c:=by
 constructor
 .rintro⟨s,g,d,⟨rfl,rfl⟩,h,rfl⟩
  rw[C.zero_add];exact h
 .intro h;exact⟨fr,C.zero,c,⟨rfl,rfl⟩,h,(C.zero_add c).symm⟩
theorem om.one{fr j:Nat}:om E (λs g=>s=fr/\g=C.zero) j c↔bP E fr j c:=by
 unfold om bP;simp only[Reach.one]
def bC(L:Nat->Option C)(N:Nat):Nat:=dG (λi=>(L i).isSome) N
theorem jB(L:Nat->Option C)(N:Nat):bC L N<=N:=iN _ _
theorem sO(L:Nat->Option C)(N b:Nat)(c:C):bC L N<=bC (upd L b (some c)) N:=by
 unfold bC;rw[Cw];exact sN _ _ _
theorem kg{L:Nat->Option C}{N b:Nat}(g:b<N)(h:L b=none)(c:C):bC (upd L b (some c)) N=bC L N+1:=uN g h c
structure BF (E:Nat->Nat->C->Prop) (src:Nat->C->Prop) (N B M:Nat) (L:Nat->Option C):Prop where
 rng:∀j,L j≠none->j<N
 reach:∀j c,L j=some c->Reach E src j c/\C.Nn c
 bd:∀j c,L j=some c->C.le c ⟨0,((B+M*bC L N:Nat):Int)⟩
namespace BF
variable {E:Nat->Nat->C->Prop} {src:Nat->C->Prop} {N B M:Nat} {L:Nat->Option C}
def K(N B M:Nat):Nat:=2*(B+M*(N+1))
def meas(N K:Nat)(L:Nat->Option C):Nat:=bB (λk=>match L k with|some c=>rk K c|none=>(K+1)*(K+1)+1) N
theorem start:BF E src N B M (λ_=>Option.none) where
 rng:=λ_ h=>absurd rfl h
 reach:=λ_ _ h=>by cases h
 bd:=λ_ _ h=>by cases h
theorem small(H:BF E src N B M L){j:Nat}{c:C}(h:L j=some c):0<=c.s/\c.s<=2*(B+M*N)/\0<=c.d/\c.d<=2*(B+M*N):=by
 have k:=H.bd _ _ h;have g:=(H.reach _ _ h).2;have F:M*bC L N<=M*N:=Nat.mul_le_mul_left _ (jB L N);obtain⟨u,z⟩:=C.dZ g (b:=⟨0,((B+M*bC L N:Nat):Int)⟩) ⟨by simp,by simp only;omega⟩ k;obtain⟨I,J⟩:=g;simp only at u z;have O:((M*bC L N:Nat):Int)<=((M*N:Nat):Int):=by omega
 have e:((M*N:Nat):Int)=(M:Int)*N:=by simp
 omega
theorem put(R:∀j c,Reach E src j c->C.Nn c)(H:BF E src N B M L){b:Nat}{c:C}(O:b<N)(Q:Reach E src b c)(I:∀d,L b=some d->C.lt c d)(P:L b=Option.none->C.le c ⟨0,((B+M*(bC L N+1):Nat):Int)⟩):BF E src N B M (upd L b (some c))/\meas N (K N B M) (upd L b (some c))<meas N (K N B M) L:=by
 have z:=sO L N b c;have J:=R _ _ Q
 have F:C.le c ⟨0,((B+M*bC (upd L b (some c)) N:Nat):Int)⟩:=by
  cases k:L b with
  |none=>rw[kg O k];exact P k
  |some d=>exact C.le_trans (C.le_of_lt (I d k)) (C.le_trans (H.bd _ _ k) (C.aK (Int.le_refl _) (by have:=Nat.mul_le_mul_left M z;simp only;omega)))
 refine⟨⟨?_,?_,?_⟩,?_⟩
 .intro j g
  unfold upd at g;split at g
  .rename_i e;rw[e];exact O
  .exact H.rng j g
 .intro j d g
  unfold upd at g;split at g
  .rename_i e;cases g;rw[e];exact⟨Q,J⟩
  .exact H.reach j d g
 .intro j d g
  by_cases e:j=b
  .subst e;rw[upd_same]at g;cases g;exact F
  .rw[upd_ne _ _ e]at g
   exact C.le_trans (H.bd _ _ g) (C.aK (Int.le_refl _) (by have:=Nat.mul_le_mul_left M z;simp only;omega))
 .have u:c∈box (K N B M):=by
   obtain⟨S,T⟩:=C.dZ J (b:=⟨0,((B+M*bC (upd L b (some c)) N:Nat):Int)⟩) ⟨by simp,by simp only;omega⟩ F;have U:M*bC (upd L b (some c)) N<=M*(N+1):=Nat.mul_le_mul_left _ (Nat.le_succ_of_le (jB _ N));simp only at S T;refine um J ?_ ?_<;>unfold K<;>omega
  apply qU
  .intro j _
   by_cases q:j=b
   .subst q
    rw[upd_same];cases k:L j with
    |none=>exact Nat.le_succ_of_le (vS _ _)
    |some d=>exact Nat.le_of_lt (vT (I d k) u)
   .rw[upd_ne _ _ q];exact Nat.le_refl _
  .refine⟨b,O,?_⟩
   rw[upd_same];cases k:L b with
   |none=>exact Nat.lt_succ_of_le (vS _ _)
   |some d=>exact vT (I d k) u
theorem fin(Z:∀j c,Reach E src j c->C.Nn c)(H:BF E src N B M L)(S:∀s g,src s g->∃d,L s=some d/\C.le d g)(R:∀a c b e,L a=some c->E a b e->∃d,L b=some d/\C.le d (C.add c e))(t:Nat):(∀c,L t=some c->om E src t c)/\(L t=Option.none->∀c,¬Reach E src t c):=by
 have F:∀s j d,Walk E s j d->∀g,src s g->∃u,L j=some u/\C.le u (C.add g d):=by
  intro s j d z
  induction z with
  |nil=>intro g h0;rw[C.add_zero];exact S _ _ h0
  |snoc T J U=>
   intro g h0;obtain⟨u,k,I⟩:=U g h0;obtain⟨O,P,Q⟩:=R _ _ _ _ k J;exact⟨O,P,C.le_trans Q (by rw[<-C.add_assoc];exact(C.add_le_right _).2 I)⟩
 refine⟨λc h=>⟨(H.reach _ _ h).1,?_⟩,?_⟩
 .rintro d ⟨s,g,u,h0,z,rfl⟩
  obtain⟨x,k,I⟩:=F _ _ _ z _ h0;rw[h]at k;cases k;exact I
 .rintro h c ⟨s,g,u,h0,z,rfl⟩
  obtain⟨x,k,_⟩:=F _ _ _ z _ h0;rw[h]at k;cases k
end BF
end FR
namespace FR
namespace G
variable {c d:C}{g:G}{b1 b2 e1 e2 i j mx my u v x x' y y':Int}{k p t:Nat}
def at_(g:G)(x y:Int):Nat:=g.cell x.toNat y.toNat
theorem Kj(h:g.op x y=true):g.at_ x y<g.n/\(g.X (g.at_ x y):Int)=x/\(g.Y (g.at_ x y):Int)=y:=by
 obtain⟨⟨z,B,F,I⟩,_⟩:=rX.1 h;unfold at_;rw[oN (by omega),oO (by omega)];exact⟨mY (by omega) (by omega),by omega,by omega⟩
theorem Fh(c:Nat)(z:(g.X c:Int)=x)(B:(g.Y c:Int)=y):g.at_ x y=c:=by grind [at_,fP]
structure V where
 x:Int
 y:Int
def V.unit(v:V):Prop:=(v.x=1/\v.y=0)\/(v.x= -1/\v.y=0)\/(v.x=0/\v.y=1)\/(v.x=0/\v.y= -1)
def go(g:G)(x y u v:Int):Prop:=g.op x y=true/\g.op (x+u) (y+v)=true/\g.op (x+u) y=true/\g.op x (y+v)=true
theorem gq(h:(u=1/\v=0)\/(u= -1/\v=0)\/(u=0/\v=1)\/(u=0/\v= -1))(z:g.op x y=true)(B:g.op (x+u) (y+v)=true):g.go x y u v:=by
 refine⟨z,B,?_,?_⟩
 .rcases h with⟨rfl,rfl⟩|⟨rfl,rfl⟩|⟨rfl,rfl⟩|⟨rfl,rfl⟩<;>simp only[Int.add_zero]at* <;>assumption
 .rcases h with⟨rfl,rfl⟩|⟨rfl,rfl⟩|⟨rfl,rfl⟩|⟨rfl,rfl⟩<;>simp only[Int.add_zero]at* <;>assumption
theorem Qd{d:Nat}(P:d<8)(Q:bu d=u)(R:aZ d=v)(h:g.go x y u v):g.E (g.at_ x y) (g.at_ (x+u) (y+v)) (aW d):=by
 obtain⟨z,L,M,O⟩:=h;obtain⟨F,I,J⟩:=Kj z
 have B:g.dN (g.at_ x y) d=true:=by
  unfold dN;rw[I,J,fu,Q,R];exact⟨z,L,M,O⟩
 obtain⟨_,S,T⟩:=df B;exact⟨F,d,P,B,Fh _ (by omega) (by omega),rfl⟩
theorem ku(k:(u=1/\v=0)\/(u= -1/\v=0)\/(u=0/\v=1)\/(u=0/\v= -1))(h:g.go x y u v):g.E (g.at_ x y) (g.at_ (x+u) (y+v)) ⟨1,0⟩:=by
 obtain⟨z,B,F⟩:=wG k;have:=Qd (jE u v) z B h;rwa[F]at this
theorem sU(k:(u=1\/u= -1)/\(v=1\/v= -1))(h:g.go x y u v):g.E (g.at_ x y) (g.at_ (x+u) (y+v)) ⟨0,1⟩:=by
 obtain⟨z,B,F⟩:=yF k.1 k.2;have:=Qd (jE u v) z B h;rwa[F]at this
def ak(g:G)(c:Nat):Prop:=c<g.n/\g.op (g.X c) (g.Y c)=true/\∃u v:Int,(u=1\/u= -1)/\(v=1\/v= -1)/\
 g.op (g.X c+u) (g.Y c+v)=false/\g.op (g.X c+u) (g.Y c)=true/\g.op (g.X c) (g.Y c+v)=true
theorem xP(h0:g.op x y=true)(I:u=1\/u= -1)(J:v=1\/v= -1)(L:g.op (x+u) (y+v)=false)(M:g.op (x+u) y=true)(O:g.op x (y+v)=true):g.ak (g.at_ x y):=by
 obtain⟨F,z,B⟩:=Kj h0;refine⟨F,by rw[z,B];exact h0,u,v,I,J,?_,?_,?_⟩<;>rw[z,B]<;>assumption
def Frame(b1 b2 e1 e2:Int):Prop:=((b1=1\/b1= -1)/\b2=0/\e1=0/\(e2=1\/e2= -1))\/(b1=0/\(b2=1\/b2= -1)/\(e1=1\/e1= -1)/\e2=0)
theorem Frame.b(h:Frame b1 b2 e1 e2):(b1=1/\b2=0)\/(b1= -1/\b2=0)\/(b1=0/\b2=1)\/(b1=0/\b2= -1):=by unfold Frame at h;omega
theorem Frame.e(h:Frame b1 b2 e1 e2):(e1=1/\e2=0)\/(e1= -1/\e2=0)\/(e1=0/\e2=1)\/(e1=0/\e2= -1):=by unfold Frame at h;omega
theorem Frame.a(h:Frame b1 b2 e1 e2):(b1+e1=1\/b1+e1= -1)/\(b2+e2=1\/b2+e2= -1):=by unfold Frame at h;omega
theorem Frame.neg(h:Frame b1 b2 e1 e2):Frame b1 b2 (-e1) (-e2):=by unfold Frame at*;omega
theorem iQ(h:Frame b1 b2 e1 e2):g.go x y (b1+e1) (b2+e2)↔g.op x y=true/\g.op (x+b1+e1) (y+b2+e2)=true/\g.op (x+b1) (y+b2)=true/\g.op (x+e1) (y+e2)=true:=by
 unfold go;rw[show x+(b1+e1)=x+b1+e1 by omega,show y+(b2+e2)=y+b2+e2 by omega];rcases h with⟨_,rfl,rfl,_⟩|⟨rfl,_,_,rfl⟩<;>simp only[Int.add_zero]<;>constructor<;>(rintro⟨z,B,F,I⟩;refine⟨z,B,?_,?_⟩<;>assumption)
theorem rC(h:Frame b1 b2 e1 e2)(h0:g.op x y=true)(F:g.op (x+b1+e1) (y+b2+e2)=false)(I:g.op (x+b1) (y+b2)=true)(J:g.op (x+e1) (y+e2)=true):g.ak (g.at_ x y):=by
 rcases h with⟨z,rfl,rfl,B⟩|⟨rfl,z,B,rfl⟩
 .simp only[Int.add_zero]at*;exact xP h0 z B F I J
 .simp only[Int.add_zero]at*;exact xP h0 B z F J I
theorem Frame.Rw(h:Frame b1 b2 e1 e2):Frame (-b1) (-b2) e1 e2:=by unfold Frame at*;omega
def iF(g:G)(p e:Nat)(c:C):Prop:=(∃q c1 c2,g.ak q/\Walk g.E p q c1/\Walk g.E q e c2/\C.add c1 c2=c/\c1≠C.zero/\c2≠C.zero)\/∃c',Walk g.E p e c'/\C.lt c' c
theorem iF.back{p e t:Nat}(h:iF g p e c)(k:Walk g.E e t d):iF g p t (C.add c d):=by
 rcases h with⟨q,M,U,B,F,I,O,P,Q⟩|⟨T,B,F⟩
 .refine .inl ⟨q,M,_,B,F,I.trans k,by rw[<-C.add_assoc,O],P,?_⟩
  intro z;have L:=k.nn λ_ _ _=>yP;have J:=I.nn λ_ _ _=>yP;apply Q;have R:=congrArg C.s z;have S:=congrArg C.d z;simp only[C.add,C.zero]at R S;have:=L.1;have:=L.2;have:=J.1;have:=J.2;exact C.ext' (by simp only[C.zero];omega) (by simp only[C.zero];omega)
 .exact .inr ⟨_,B.trans k,(C.add_lt_right _).2 F⟩
inductive xe (g:G) (u v:Int):Nat->Int->Int->Int->Int->Prop
 |nil (x y:Int):xe g u v 0 x y x y
 |cons {k:Nat} {x y x' y':Int}:g.go x y u v->xe g u v k (x+u) (y+v) x' y'->xe g u v (k+1) x y x' y'
theorem xe.snoc{g:G}{u v:Int}{k:Nat}{x y z B:Int}(h:xe g u v k x y z B)(l:g.go z B u v):xe g u v (k+1) x y (z+u) (B+v):=by
 induction h with
 |nil=>exact .cons l (.nil _ _)
 |cons h1 _ ih=>exact .cons h1 (ih l)
theorem xe.Nb(z:(u=1/\v=0)\/(u= -1/\v=0)\/(u=0/\v=1)\/(u=0/\v= -1))(h:xe g u v k x y x' y'):Walk g.E (g.at_ x y) (g.at_ x' y') ⟨k,0⟩:=by
 induction h with
 |nil=>exact .nil _
 |cons h1 _ ih=>
  have:=Walk.cons (ku z h1) ih;refine cast (congrArg _ (C.ext' ?_ ?_)) this<;>simp only[C.add]<;>omega
theorem xe.Nc(z:(u=1\/u= -1)/\(v=1\/v= -1))(h:xe g u v k x y x' y'):Walk g.E (g.at_ x y) (g.at_ x' y') ⟨0,k⟩:=by
 induction h with
 |nil=>exact .nil _
 |cons h1 _ ih=>
  have:=Walk.cons (sU z h1) ih;refine cast (congrArg _ (C.ext' ?_ ?_)) this<;>simp only[C.add]<;>omega
theorem iF.less{c d d':C}(h:Walk g.E p t (C.add c d'))(k:C.lt d' d):iF g p t (C.add c d):=.inr ⟨_,h,(C.add_lt_left _).2 k⟩
theorem iF.at{p q t:Nat}{c z B:C}(J:g.ak q)(h:Walk g.E p q z)(k:Walk g.E q t B)(e:c=C.add z B)(F:z≠C.zero)(I:B≠C.zero):iF g p t c:=
 .inl ⟨q,z,B,J,h,k,e.symm,F,I⟩
theorem gY(h:C.Nn c)(k:0<=d.s/\0<=d.d/\0<d.s+d.d):C.add c d≠C.zero:=by
 intro z;have B:=congrArg C.s z;have F:=congrArg C.d z;simp only[C.add,C.zero]at B F;have:=h.1;have:=h.2;omega
theorem Nt{a b:Nat}(h:Walk g.E a b c):C.Nn c:=h.nn λ_ _ _=>yP
theorem zZ(F:Frame b1 b2 e1 e2)(h:Walk g.E p (g.at_ x y) c)(z:g.go x y b1 b2)(B:g.go (x+b1) (y+b2) e1 e2):iF g p (g.at_ (x+b1+e1) (y+b2+e2)) (C.add c ⟨2,0⟩):=by
 cases L:g.op (x+e1) (y+e2)with
 |true=>
  have M:g.go x y (b1+e1) (b2+e2):=(iQ F).2 ⟨z.1,B.2.1,z.2.1,L⟩;have:=h.snoc (sU F.a M);rw[show x+(b1+e1)=x+b1+e1 by omega,show y+(b2+e2)=y+b2+e2 by omega]at this;exact .less this (by decide)
 |false=>
  have I:=ku F.b z;have J:=ku F.e B;refine .at (rC F.Rw B.1 ?_ ?_ B.2.1) (h.snoc I) (.single J) ?_ (gY (Nt h) (by decide)) (by decide)
  .rw[show x+b1+ -b1+e1=x+e1 by omega,show y+b2+ -b2+e2=y+e2 by omega];exact L
  .rw[show x+b1+ -b1=x by omega,show y+b2+ -b2=y by omega];exact z.1
  .rw[C.add_assoc];rfl
theorem EP(F:Frame b1 b2 e1 e2)(h:Walk g.E p (g.at_ x y) c):iF g p (g.at_ x y) (C.add c ⟨2,0⟩):=.less (d':=C.zero) (by rwa[C.add_zero]) (by decide)
theorem CQ(F:Frame b1 b2 e1 e2)(h:Walk g.E p (g.at_ x y) c)(B:g.go x y b1 b2)(I:g.go (x+b1) (y+b2) (-b1+e1) (-b2+e2)):iF g p (g.at_ (x+e1) (y+e2)) (C.add c ⟨1,1⟩):=by
 obtain⟨_,z,_,_⟩:=(iQ F.Rw).1 I;rw[show x+b1+ -b1+e1=x+e1 by omega,show y+b2+ -b2+e2=y+e2 by omega]at z;exact .less (h.snoc (ku F.e (gq F.e B.1 z))) (by decide)
theorem EO(h:Walk g.E p (g.at_ x y) c):iF g p (g.at_ x y) (C.add c ⟨0,2⟩):=.less (d':=C.zero) (by rwa[C.add_zero]) (by decide)
theorem GI(F:Frame b1 b2 e1 e2)(h:Walk g.E p (g.at_ x y) c)(z:g.go x y (b1+e1) (b2+e2)):iF g p (g.at_ (x+e1) (y+e2)) (C.add c ⟨1,1⟩):=by
 obtain⟨B,_,_,I⟩:=(iQ F).1 z;exact .less (h.snoc (ku F.e (gq F.e B I))) (by decide)
theorem Frame.swap(h:Frame b1 b2 e1 e2):Frame e1 e2 b1 b2:=by unfold Frame at*;omega
theorem zY(F:Frame b1 b2 e1 e2)(h:Walk g.E p (g.at_ x y) c)(L:g.go x y (b1+e1) (b2+e2))(M:g.go (x+(b1+e1)) (y+(b2+e2)) (b1-e1) (b2-e2)):iF g p (g.at_ (x+b1+b1) (y+b2+b2)) (C.add c ⟨0,2⟩):=by
 obtain⟨O,_,B,_⟩:=(iQ F).1 L;have z:g.go (x+(b1+e1)) (y+(b2+e2)) (b1+-e1) (b2+-e2):=M;obtain⟨_,I,_,_⟩:=(iQ F.neg).1 z;rw[show x+(b1+e1)+b1+ -e1=x+b1+b1 by omega,show y+(b2+e2)+b2+ -e2=y+b2+b2 by omega]at I;have P:=h.snoc (ku F.b (gq F.b O B));have J:=P.snoc (ku F.b (gq F.b B I));rw[C.add_assoc]at J;exact .less J (by decide)
theorem CP(F:Frame b1 b2 e1 e2):∀(k:Nat)(c:C)(x y B I:Int),Walk g.E p (g.at_ x y) c->g.go x y b1 b2->
 xe g (b1+e1) (b2+e2) k (x+b1) (y+b2) B I->g.go B I e1 e2->iF g p (g.at_ (B+e1) (I+e2)) (C.add c ⟨2,k⟩)
 |0,c,x,y,B,I,h,J,z,L=>by cases z;exact zZ F h J L
 |k+1,c,x,y,B,I,h,J,z,L=>by
  cases z with
  |cons z r=>
  obtain⟨R,S,u,M⟩:=(iQ F).1 z;cases O:g.op (x+e1) (y+e2)with
  |true=>
   have Q:g.go x y (b1+e1) (b2+e2):=(iQ F).2 ⟨J.1,M,R,O⟩;have U:=h.snoc (sU F.a Q)
   have P:g.go (x+(b1+e1)) (y+(b2+e2)) b1 b2:=gq F.b (by rw[show x+(b1+e1)=x+b1+e1 by omega,show y+(b2+e2)=y+b2+e2 by omega];exact M)
    (by rw[show x+(b1+e1)+b1=x+b1+b1+e1 by omega,show y+(b2+e2)+b2=y+b2+b2+e2 by omega];exact S)
   have T:xe g (b1+e1) (b2+e2) k (x+(b1+e1)+b1) (y+(b2+e2)+b2) B I:=by
    rw[show x+(b1+e1)+b1=x+b1+(b1+e1)by omega,show y+(b2+e2)+b2=y+b2+(b2+e2)by omega];exact r
   have:=CP F k _ _ _ _ _ U P T L;rwa[C.add_assoc,show C.add ⟨0,1⟩ ⟨2,(k:Int)⟩=⟨2,((k+1:Nat):Int)⟩from C.ext' rfl (by simp only[C.add];omega)]at this
  |false=>
   have Z:=(xe.Nc F.a (.cons z r)).snoc (ku F.e L);refine .at (rC F.Rw z.1 ?_ ?_ M) (h.snoc (ku F.b J)) Z ?_ (gY (Nt h) (by decide)) (gY ⟨by simp only;omega,by simp only;omega⟩ (by decide))
   .rw[show x+b1+ -b1+e1=x+e1 by omega,show y+b2+ -b2+e2=y+e2 by omega];exact O
   .rw[show x+b1+ -b1=x by omega,show y+b2+ -b2=y by omega];exact J.1
   .exact C.ext' (by simp only[C.add];omega) (by simp only[C.add];omega)
theorem CO(F:Frame b1 b2 e1 e2):∀(k:Nat)(c:C)(x y B I:Int),Walk g.E p (g.at_ x y) c->g.go x y (b1+e1) (b2+e2)->
 xe g b1 b2 k (x+(b1+e1)) (y+(b2+e2)) B I->g.go B I (b1-e1) (b2-e2)->iF g p (g.at_ (B+(b1-e1)) (I+(b2-e2))) (C.add c ⟨k,2⟩)
 |0,c,x,y,B,I,h,J,z,L=>by
  cases z;have:=zY F h J L;rw[show x+(b1+e1)+(b1-e1)=x+b1+b1 by omega,show y+(b2+e2)+(b2-e2)=y+b2+b2 by omega];exact this
 |k+1,c,x,y,B,I,h,J,z,L=>by
  cases z with
  |cons z r=>
  obtain⟨S,T,O,q4⟩:=(iQ F).1 J;have Q:g.op (x+b1+e1+b1) (y+b2+e2+b2)=true:=by have:=z.2.1;rwa[show x+(b1+e1)+b1=x+b1+e1+b1 by omega,show y+(b2+e2)+b2=y+b2+e2+b2 by omega]at this
  cases P:g.op (x+b1+b1) (y+b2+b2)with
  |true=>
   have Z:=h.snoc (ku F.b (gq F.b S O));have R:g.go (x+b1) (y+b2) (b1+e1) (b2+e2):=(iQ F).2 ⟨O,by rw[show x+b1+b1+e1=x+b1+e1+b1 by omega,show y+b2+b2+e2=y+b2+e2+b2 by omega];exact Q,P,T⟩
   have U:xe g b1 b2 k (x+b1+(b1+e1)) (y+b2+(b2+e2)) B I:=by
    rw[show x+b1+(b1+e1)=x+(b1+e1)+b1 by omega,show y+b2+(b2+e2)=y+(b2+e2)+b2 by omega];exact r
   have:=CO F k _ _ _ _ _ Z R U L;rwa[C.add_assoc,show C.add ⟨1,0⟩ ⟨(k:Int),2⟩=⟨((k+1:Nat):Int),2⟩from C.ext' (by simp only[C.add];omega) rfl]at this
  |false=>
   have M:g.go B I (b1+-e1) (b2+-e2):=L;have u:=(xe.Nb F.b (.cons z r)).snoc (sU F.neg.a M);refine .at (rC F.neg z.1 ?_ z.2.1 ?_) (h.snoc (sU F.a J)) u ?_ (gY (Nt h) (by decide)) (gY ⟨by simp only;omega,by simp only;omega⟩ (by decide))
   .rw[show x+(b1+e1)+b1+ -e1=x+b1+b1 by omega,show y+(b2+e2)+b2+ -e2=y+b2+b2 by omega];exact P
   .rw[show x+(b1+e1)+ -e1=x+b1 by omega,show y+(b2+e2)+ -e2=y+b2 by omega];exact O
   .exact C.ext' (by simp only[C.add];omega) (by simp only[C.add];omega)
theorem xe.last(h:xe g u v k x y x' y'):(k=0/\x'=x/\y'=y)\/∃j z B,k=j+1/\xe g u v j x y z B/\g.go z B u v/\x'=z+u/\y'=B+v:=by
 induction h with
 |nil=>exact .inl ⟨rfl,rfl,rfl⟩
 |cons F r M=>
  rcases M with⟨rfl,rfl,rfl⟩|⟨j,z,B,rfl,O,L,I,J⟩
  .exact .inr ⟨0,_,_,rfl,.nil _ _,F,rfl,rfl⟩
  .exact .inr ⟨j+1,z,B,rfl,.cons F O,L,I,J⟩
inductive TU (g:G) (p:Nat) (b1 b2 e1 e2 x y i j:Int) (c':C):Prop
 |zero (hi:i=0) (hj:j=0)
 |b (c:C) (mx my:Int) (h:Walk g.E p (g.at_ mx my) c) (k:g.go mx my b1 b2) (ex:x=mx+b1) (ey:y=my+b2) (ec:c'=C.add c ⟨1,0⟩) (hi:i=0) (hj:0<j)
 |a (c:C) (mx my:Int) (h:Walk g.E p (g.at_ mx my) c) (k:g.go mx my (b1+e1) (b2+e2)) (ex:x=mx+(b1+e1)) (ey:y=my+(b2+e2)) (ec:c'=C.add c ⟨0,1⟩) (hi:0<i) (hj:j=0)
 |ab (c:C) (k:Nat) (mx my:Int) (h:Walk g.E p (g.at_ mx my) c) (l:g.go mx my (b1+e1) (b2+e2)) (r:xe g b1 b2 (k+1) (mx+(b1+e1)) (my+(b2+e2)) x y) (ec:c'=C.add c ⟨((k+1:Nat):Int),1⟩) (hi:0<i) (hj:0<j)
 |ba (c:C) (k:Nat) (mx my:Int) (h:Walk g.E p (g.at_ mx my) c) (l:g.go mx my b1 b2) (r:xe g (b1+e1) (b2+e2) (k+1) (mx+b1) (my+b2) x y) (ec:c'=C.add c ⟨1,((k+1:Nat):Int)⟩) (hi:0<i) (hj:0<j)
structure Inv (g:G) (p:Nat) (x y:Int) (b1 b2 e1 e2 i j:Int):Prop where
 F:Frame b1 b2 e1 e2
 hi:0<=i
 hj:0<=j
 ex:x=g.X p+i*(b1+e1)+j*b1
 ey:y=g.Y p+i*(b2+e2)+j*b2
 w:Walk g.E p (g.at_ x y) ⟨j,i⟩
 t:TU g p b1 b2 e1 e2 x y i j ⟨j,i⟩
theorem sS(F:Frame b1 b2 e1 e2):((u=1/\v=0)\/(u= -1/\v=0)\/(u=0/\v=1)\/(u=0/\v= -1)->(u=b1/\v=b2)\/(u= -b1/\v= -b2)\/(u=e1/\v=e2)\/(u= -e1/\v= -e2))/\((u=1\/u= -1)/\(v=1\/v= -1)->(u=b1+e1/\v=b2+e2)\/(u=b1-e1/\v=b2-e2)\/(u= -b1+e1/\v= -b2+e2)\/(u= -b1-e1/\v= -b2-e2)):=by grind [Frame]
theorem Inv.bV(H:Inv g p x y b1 b2 e1 e2 i j):dh (x-g.X p) (y-g.Y p)=⟨j,i⟩:=by grind [dh,Frame,G,Inv]
theorem dQ{c z:C}(h:iF g p (g.at_ x y) c)(F:x'=x)(I:y'=y)(B:z=c):iF g p (g.at_ x' y') z:=by grind
theorem Bq{x y u v x' y' z B:Int}(h:g.go x y u v)(J:x'=x)(L:y'=y)(F:z=u)(I:B=v):g.go x' y' z B:=by grind
theorem R4{a b c d:Int}(h:a=c)(k:b=d):(⟨a,b⟩:C)=⟨c,d⟩:=by rw[h,k]
theorem lastB(F:Frame b1 b2 e1 e2)(h:Walk g.E p (g.at_ mx my) c)(k:g.go mx my b1 b2)(z:g.go (mx+b1) (my+b2) u v)(B:(u= -b1/\v= -b2)\/(u=e1/\v=e2)\/(u= -e1/\v= -e2)):iF g p (g.at_ (mx+b1+u) (my+b2+v)) (C.add (C.add c ⟨1,0⟩) ⟨1,0⟩):=by
 have e:C.add (C.add c ⟨1,0⟩) ⟨1,0⟩=C.add c ⟨2,0⟩:=by rw[C.add_assoc];rfl
 rw[e];rcases B with⟨rfl,rfl⟩|⟨rfl,rfl⟩|⟨rfl,rfl⟩
 .exact dQ (EP F h) (by omega) (by omega) rfl
 .exact zZ F h k z
 .exact zZ F.neg h k z
theorem Ls(F:Frame b1 b2 e1 e2)(h:Walk g.E p (g.at_ mx my) c)(k:g.go mx my b1 b2)(z:g.go (mx+b1) (my+b2) u v)(B:(u= -b1+e1/\v= -b2+e2)\/(u= -b1-e1/\v= -b2-e2)):iF g p (g.at_ (mx+b1+u) (my+b2+v)) (C.add (C.add c ⟨1,0⟩) ⟨0,1⟩):=by
 have e:C.add (C.add c ⟨1,0⟩) ⟨0,1⟩=C.add c ⟨1,1⟩:=by rw[C.add_assoc];rfl
 rw[e];rcases B with⟨rfl,rfl⟩|⟨rfl,rfl⟩
 .exact dQ (CQ F h k z) (by omega) (by omega) rfl
 .exact dQ (CQ F.neg h k z) (by omega) (by omega) rfl
theorem FZ(F:Frame b1 b2 e1 e2)(h:Walk g.E p (g.at_ mx my) c)(k:g.go mx my (b1+e1) (b2+e2))(z:(u= -b1/\v= -b2)\/(u= -e1/\v= -e2)):iF g p (g.at_ (mx+(b1+e1)+u) (my+(b2+e2)+v)) (C.add (C.add c ⟨0,1⟩) ⟨1,0⟩):=by
 have e:C.add (C.add c ⟨0,1⟩) ⟨1,0⟩=C.add c ⟨1,1⟩:=by rw[C.add_assoc];rfl
 rw[e];rcases z with⟨rfl,rfl⟩|⟨rfl,rfl⟩
 .exact dQ (GI F h k) (by omega) (by omega) rfl
 .exact dQ (GI F.swap h (Bq k rfl rfl (by omega) (by omega))) (by omega) (by omega) rfl
theorem Lr(F:Frame b1 b2 e1 e2)(h:Walk g.E p (g.at_ mx my) c)(k:g.go mx my (b1+e1) (b2+e2))(z:g.go (mx+(b1+e1)) (my+(b2+e2)) u v)(B:(u=b1-e1/\v=b2-e2)\/(u= -b1+e1/\v= -b2+e2)\/(u= -b1-e1/\v= -b2-e2)):iF g p (g.at_ (mx+(b1+e1)+u) (my+(b2+e2)+v)) (C.add (C.add c ⟨0,1⟩) ⟨0,1⟩):=by
 have e:C.add (C.add c ⟨0,1⟩) ⟨0,1⟩=C.add c ⟨0,2⟩:=by rw[C.add_assoc];rfl
 rw[e];rcases B with⟨rfl,rfl⟩|⟨rfl,rfl⟩|⟨rfl,rfl⟩
 .exact dQ (zY F h k z) (by omega) (by omega) rfl
 .exact dQ (zY F.swap h (Bq k rfl rfl (by omega) (by omega)) (Bq z (by omega) (by omega) (by omega) (by omega))) (by omega) (by omega) rfl
 .exact dQ (EO h) (by omega) (by omega) rfl
theorem nR(i b:Int):(i+1)*b=i*b+b:=by rw[Int.add_mul,Int.one_mul]
theorem zD(H:Inv g p x y b1 b2 e1 e2 i j)(O:g.go x y u v)(hu:(u=1/\v=0)\/(u= -1/\v=0)\/(u=0/\v=1)\/(u=0/\v= -1)):(∃b1 b2 e1 e2 j',Inv g p (x+u) (y+v) b1 b2 e1 e2 i j'/\j'=j+1)\/iF g p (g.at_ (x+u) (y+v)) (C.add ⟨j,i⟩ ⟨1,0⟩):=by
 obtain⟨F,Z,hj,ex,ey,w,t⟩:=H;have L:=(sS F).1 hu
 have U:Walk g.E p (g.at_ (x+u) (y+v)) ⟨j+1,i⟩:=by
  have:=w.snoc (ku hu O);rwa[show C.add ⟨j,i⟩ ⟨1,0⟩=⟨j+1,i⟩from R4 rfl (Int.add_zero _)]at this
 have ac:=nR j b1;have ad:=nR j b2;cases t with
 |zero M T=>
  subst M;subst T
  obtain⟨d1,d2,F'⟩:∃d1 d2,Frame u v d1 d2:=by
   rcases hu with⟨rfl,rfl⟩|⟨rfl,rfl⟩|⟨rfl,rfl⟩|⟨rfl,rfl⟩
   .exact⟨0,1,.inl ⟨.inl rfl,rfl,rfl,.inl rfl⟩⟩
   .exact⟨0,1,.inl ⟨.inr rfl,rfl,rfl,.inl rfl⟩⟩
   .exact⟨1,0,.inr ⟨rfl,.inl rfl,.inl rfl,rfl⟩⟩
   .exact⟨1,0,.inr ⟨rfl,.inr rfl,.inl rfl,rfl⟩⟩
  refine .inl ⟨u,v,d1,d2,1,⟨F',by omega,by omega,by omega,by omega,U,.b ⟨0,0⟩ x y w O rfl rfl rfl rfl (by omega)⟩,rfl⟩
 |b c R S h k B I J M T=>
  subst B;subst I;rcases L with⟨rfl,rfl⟩|L
  .exact .inl ⟨_,_,_,_,_,⟨F,Z,by omega,by omega,by omega,U,.b _ _ _ w O rfl rfl (R4 rfl (Int.add_zero _).symm) M (by omega)⟩,rfl⟩
  .right;rw[J];exact lastB F h k O L
 |a c R S h k B I J M T=>
  subst B;subst I;subst T;rcases L with⟨rfl,rfl⟩|L|⟨rfl,rfl⟩|L
  .refine .inl ⟨_,_,_,_,_,⟨F,Z,by omega,by omega,by omega,U,.ab c 0 R S h k (.cons O (.nil _ _)) ?_ M (by omega)⟩,rfl⟩
   have P:=congrArg C.s J;have Q:=congrArg C.d J;simp only[C.add]at P Q;exact C.ext' (by simp only[C.add];omega) (by simp only[C.add];omega)
  .right;rw[J];exact FZ F h k (.inl L)
  .refine .inl ⟨_,_,_,_,_,⟨F.swap,Z,by omega,by rw[Int.add_comm u b1];omega,by rw[Int.add_comm v b2];omega,U,.ab c 0 R S h (Bq k rfl rfl (by omega) (by omega)) ?_ ?_ M (by omega)⟩,rfl⟩
   .rw[Int.add_comm u b1,Int.add_comm v b2];exact .cons O (.nil _ _)
   .have P:=congrArg C.s J;have Q:=congrArg C.d J
    simp only[C.add]at P Q;exact C.ext' (by simp only[C.add];omega) (by simp only[C.add];omega)
  .right;rw[J];exact FZ F h k (.inr L)
 |ab c k R S h l r J M T=>
  rcases L with⟨rfl,rfl⟩|L
  .refine .inl ⟨_,_,_,_,_,⟨F,Z,by omega,by omega,by omega,U,.ab c (k+1) R S h l (r.snoc O) ?_ M (by omega)⟩,rfl⟩
   have P:=congrArg C.s J;have Q:=congrArg C.d J;simp only[C.add]at P Q;exact C.ext' (by simp only[C.add];omega) (by simp only[C.add];omega)
  .right
   rcases r.last with⟨z,_⟩|⟨k',nx,ny,z,r',l',B,I⟩
   .omega
   .obtain rfl:k'=k:=by omega
    subst B;subst I;have w2:=(h.snoc (sU F.a l)).trans (r'.Nb F.b);have:=lastB F w2 l' O L;refine dQ this rfl rfl ?_;have P:=congrArg C.s J;have Q:=congrArg C.d J;simp only[C.add]at P Q;exact C.ext' (by simp only[C.add];omega) (by simp only[C.add];omega)
 |ba c k R S h l r J M T=>
  have P:=congrArg C.s J;have Q:=congrArg C.d J;simp only[C.add]at P Q;rcases r.last with⟨z,_⟩|⟨k',nx,ny,z,r',l',B,I⟩
  .omega
  obtain rfl:k'=k:=by omega
  have w2:=(h.snoc (ku F.b l)).trans (r'.Nc F.a);rcases L with⟨rfl,rfl⟩|L|⟨rfl,rfl⟩|L
  .refine .inl ⟨_,_,_,_,_,⟨F,Z,by omega,by omega,by omega,U,.ab _ 0 nx ny w2 l' ?_ ?_ M (by omega)⟩,rfl⟩
   .rw[<-B,<-I];exact .cons O (.nil _ _)
   .exact C.ext' (by simp only[C.add];omega) (by simp only[C.add];omega)
  .right;subst B;subst I
   refine dQ (FZ F w2 l' (.inl L)) rfl rfl ?_;exact C.ext' (by simp only[C.add];omega) (by simp only[C.add];omega)
  .right
   refine dQ (CP F (k'+1) c R S x y h l r O) rfl rfl ?_;exact C.ext' (by simp only[C.add];omega) (by simp only[C.add];omega)
  .right;subst B;subst I
   refine dQ (FZ F w2 l' (.inr L)) rfl rfl ?_;exact C.ext' (by simp only[C.add];omega) (by simp only[C.add];omega)
theorem Li(H:Inv g p x y b1 b2 e1 e2 i j)(L:g.go x y u v)(hu:(u=1\/u= -1)/\(v=1\/v= -1)):(∃b1 b2 e1 e2 i',Inv g p (x+u) (y+v) b1 b2 e1 e2 i' j/\i'=i+1)\/iF g p (g.at_ (x+u) (y+v)) (C.add ⟨j,i⟩ ⟨0,1⟩):=by
 obtain⟨F,hi,T,ex,ey,w,t⟩:=H;have J:=(sS F).2 hu
 have S:Walk g.E p (g.at_ (x+u) (y+v)) ⟨j,i+1⟩:=by
  have:=w.snoc (sU hu L);rwa[show C.add ⟨j,i⟩ ⟨0,1⟩=⟨j,i+1⟩from R4 (Int.add_zero _) rfl]at this
 have ac:=nR i (b1+e1);have ad:=nR i (b2+e2);cases t with
 |zero R O=>
  subst R;subst O;refine .inl ⟨u,0,0,v,1,⟨.inl ⟨hu.1,rfl,rfl,hu.2⟩,by omega,by omega,by omega,by omega,S,.a ⟨0,0⟩ x y w (Bq L rfl rfl (by omega) (by omega)) (by omega) (by omega) rfl (by omega) rfl⟩,rfl⟩
 |b c P Q h k B I M R O=>
  subst B;subst I;subst R;have U:=congrArg C.s M;have Z:=congrArg C.d M;simp only[C.add]at U Z;rcases J with⟨rfl,rfl⟩|⟨rfl,rfl⟩|J
  .exact .inl ⟨_,_,_,_,_,⟨F,by omega,T,by omega,by omega,S,.ba c 0 P Q h k (.cons L (.nil _ _)) (C.ext' (by simp only[C.add];omega) (by simp only[C.add];omega)) (by omega) O⟩,rfl⟩
  .exact .inl ⟨b1,b2,-e1,-e2,_,⟨F.neg,by omega,T,by omega,by omega,S,.ba c 0 P Q h k (.cons L (.nil _ _)) (C.ext' (by simp only[C.add];omega) (by simp only[C.add];omega)) (by omega) O⟩,rfl⟩
  .right;rw[M];exact Ls F h k L J
 |a c P Q h k B I M R O=>
  subst B;subst I;rcases J with⟨rfl,rfl⟩|J
  .exact .inl ⟨_,_,_,_,_,⟨F,by omega,T,by omega,by omega,S,.a _ _ _ w L rfl rfl (R4 (Int.add_zero _).symm rfl) (by omega) O⟩,rfl⟩
  .right;rw[M];exact Lr F h k L J
 |ab c k P Q h l r M R O=>
  have U:=congrArg C.s M;have Z:=congrArg C.d M;simp only[C.add]at U Z;rcases r.last with⟨z,_⟩|⟨k',nx,ny,z,r',l',B,I⟩
  .omega
  obtain rfl:k'=k:=by omega
  have w2:=(h.snoc (sU F.a l)).trans (r'.Nb F.b);rcases J with⟨rfl,rfl⟩|⟨rfl,rfl⟩|J
  .refine .inl ⟨_,_,_,_,_,⟨F,by omega,T,by omega,by omega,S,.ba _ 0 nx ny w2 l' ?_ ?_ (by omega) O⟩,rfl⟩
   .rw[<-B,<-I];exact .cons L (.nil _ _)
   .exact C.ext' (by simp only[C.add];omega) (by simp only[C.add];omega)
  .right
   refine dQ (CO F (k'+1) c P Q x y h l r L) rfl rfl ?_;exact C.ext' (by simp only[C.add];omega) (by simp only[C.add];omega)
  .right;subst B;subst I
   refine dQ (Ls F w2 l' L J) rfl rfl ?_;exact C.ext' (by simp only[C.add];omega) (by simp only[C.add];omega)
 |ba c k P Q h l r M R O=>
  have U:=congrArg C.s M;have Z:=congrArg C.d M;simp only[C.add]at U Z;rcases J with⟨rfl,rfl⟩|J
  .refine .inl ⟨_,_,_,_,_,⟨F,by omega,T,by omega,by omega,S,.ba c (k+1) P Q h l (r.snoc L) ?_ (by omega) O⟩,rfl⟩
   exact C.ext' (by simp only[C.add];omega) (by simp only[C.add];omega)
  .right
   rcases r.last with⟨z,_⟩|⟨k',nx,ny,z,r',l',B,I⟩
   .omega
   .obtain rfl:k'=k:=by omega
    subst B;subst I;have w2:=(h.snoc (ku F.b l)).trans (r'.Nc F.a);refine dQ (Lr F w2 l' L J) rfl rfl ?_;exact C.ext' (by simp only[C.add];omega) (by simp only[C.add];omega)
theorem JC{p e:Nat}(h:Walk g.E p e c):(∃z B F I i j,Inv g p (g.X e) (g.Y e) z B F I i j/\c=⟨j,i⟩)\/iF g p e c:=by
 induction h with
 |nil=>exact .inl ⟨1,0,0,1,0,0,⟨.inl ⟨.inl rfl,rfl,rfl,.inl rfl⟩,by omega,by omega,by omega,by omega,by rw[Fh p rfl rfl];exact .nil _,.zero rfl rfl⟩,rfl⟩
 | @snoc e t c d w R u=>
  rcases u with⟨z,B,F,I,i,j,H,rfl⟩|T
  .obtain⟨_,Q,Z,S,rfl,rfl⟩:=R
   obtain⟨k,L,M⟩:=df S;have U:g.go (g.X e) (g.Y e) (bu Q) (aZ Q):=by have:=S;unfold dN at this;exact fu.1 this
   rw[L,M];rcases qb Z with⟨O,P⟩|⟨O,P⟩
   .rw[O]
    rcases zD H U P with⟨z,B,F,I,j',J,rfl⟩|T
    .exact .inl ⟨_,_,_,_,_,_,J,R4 rfl (Int.add_zero _)⟩
    .right;rwa[<-L,<-M,Fh _ rfl rfl]at T
   .rw[O]
    rcases Li H U P with⟨z,B,F,I,i',J,rfl⟩|T
    .exact .inl ⟨_,_,_,_,_,_,J,R4 (Int.add_zero _) rfl⟩
    .right;rwa[<-L,<-M,Fh _ rfl rfl]at T
  .exact .inr (T.back (.single R))
theorem JD{p e:Nat}(h:Walk g.E p e c):c=g.bV p e\/iF g p e c:=by
 rcases JC h with⟨z,B,F,I,i,j,H,rfl⟩|T
 .left;rw[dW];exact H.bV.symm
 .exact .inr T
theorem mg{p e:Nat}(h:bP g.E p e c)(P:c≠g.bV p e):∃q z B,g.ak q/\bP g.E p q z/\bP g.E q e B/\C.add z B=c/\z≠C.zero/\B≠C.zero:=by
 rcases JD h.1 with rfl|⟨q,z,B,I,F,L,J,M,O⟩|⟨Q,I,F⟩
 .exact absurd rfl P
 .refine⟨q,z,B,I,⟨F,λd k=>?_⟩,⟨L,λd k=>?_⟩,J,M,O⟩
  .have:=h.2 _ (k.trans L);rw[<-J]at this;exact(C.add_le_right _).1 this
  .have:=h.2 _ (F.trans k);rw[<-J]at this;exact(C.add_le_left _).1 this
 .exact absurd F (h.2 _ I)
end G
end FR
namespace FR
theorem nV{g:G}{a b:Nat}{c:C}(h:Walk g.E a b c)(h0:c=C.zero):b=a:=by
 rcases h.inv with⟨e,_⟩|⟨m,d,e,I,J,u⟩
 .exact e
 .exfalso
  have L:=G.Nt I;obtain⟨_,k,_,_,_,F⟩:=J;rw[h0]at u;have z:=congrArg C.s u;have B:=congrArg C.d u;obtain⟨M,O⟩:=L;rcases Nat.mod_two_eq_zero_or_one k with q|q
  .have:aW k=⟨1,0⟩:=by unfold aW;rw[if_neg (by omega)]
   rw[F,this]at z;simp only[C.add,C.zero]at z;omega
  .have:aW k=⟨0,1⟩:=by unfold aW;rw[if_pos q]
   rw[F,this]at B;simp only[C.add,C.zero]at B;omega
namespace G
variable {c:C}
variable {g:G}
def Mid(g:G)(a b k:Nat):Prop:=∃p q,Walk g.E a k p/\Walk g.E k b q/\C.add p q=g.bV a b
def aF(g:G)(a b:Nat):Prop:=g.dz a b/\∀k,g.ak k->k≠a->k≠b->¬g.Mid a b k
theorem LQ{a b k:Nat}:g.Mid a b k↔g.Mid b a k:=by
 have u:∀a b,g.Mid a b k->g.Mid b a k:=by
  rintro a b ⟨p,q,B,F,I⟩;exact⟨q,p,Walk.rev (E:=g.E) (λ_ _ _ z=>kN z) F,Walk.rev (E:=g.E) (λ_ _ _ z=>kN z) B,by rw[C.add_comm,I,dW]⟩
 exact⟨u a b,u b a⟩
theorem fZ{a b:Nat}:g.aF a b↔g.aF b a:=by
 have u:∀a b,g.aF a b->g.aF b a:=λa b⟨z,B⟩=>⟨x9.1 z,λk J F I L=>B k J I F (LQ.1 L)⟩
 exact⟨u a b,u b a⟩
def GE(g:G)(a b:Nat)(c:C):Prop:=g.ak a/\g.ak b/\a≠b/\g.aF a b/\c=g.bV a b
theorem Sa{a b:Nat}(h:g.GE a b c):C.Nn c:=h.2.2.2.2▸Rx g a b
theorem yR{a b:Nat}(h:g.GE a b c):g.GE b a c:=⟨h.2.1,h.1,Ne.symm h.2.2.1,fZ.1 h.2.2.2.1,h.2.2.2.2.trans (dW g a b)⟩
theorem yS{a b:Nat}(h:Walk g.GE a b c):Walk g.E a b c:=by
 induction h with
 |nil=>exact .nil _
 |snoc _ he ih=>rw[he.2.2.2.2];exact ih.trans he.2.2.2.1.1
theorem sum_lt{k g c:C}(B:C.Nn k)(F:C.Nn g)(h:C.add k g=c)(I:g≠C.zero):(k.s+k.d).toNat<(c.s+c.d).toNat:=by
 obtain⟨J,L⟩:=B;obtain⟨M,O⟩:=F
 have:0<g.s+g.d:=by
  apply Classical.byContradiction;intro P;exact I (C.ext' (by simp only[C.zero];omega) (by simp only[C.zero];omega))
 have u:=congrArg C.s h;have z:=congrArg C.d h;simp only[C.add]at u z;omega
theorem uP:∀(n:Nat){a b:Nat}{c:C},(c.s+c.d).toNat<=n->g.ak a->g.ak b->bP g.E a b c->Walk g.GE a b c:=by
 intro n
 induction n using Nat.strongRecOn with
 |_ n ih=>
  intro a b c hn Z hb h
  have split:∀{q:Nat}{I J:C},g.ak q->bP g.E a q I->bP g.E q b J->C.add I J=c->I≠C.zero->J≠C.zero->Walk g.GE a b c:=by
   intro q I J O u z e T U;have n1:=Nt u.1;have n2:=Nt z.1;have l1:=sum_lt n1 n2 e U;have l2:=sum_lt n2 n1 (c:=c) ((C.add_comm _ _).trans e) T;have w1:=ih _ (Nat.lt_of_lt_of_le l1 hn) (Nat.le_refl _) Z O u;have w2:=ih _ (Nat.lt_of_lt_of_le l2 hn) (Nat.le_refl _) O hb z;rw[<-e];exact w1.trans w2
  by_cases M:c=g.bV a b
  .by_cases L:a=b
   .subst L
    rw[M,Cg];exact .nil _
   .by_cases hd:g.aF a b
    .exact .single ⟨Z,hb,L,hd,M⟩
    .have B:g.dz a b:=by unfold dz;rw[<-M];exact h.1
     have:∃k,g.ak k/\k≠a/\k≠b/\g.Mid a b k:=by
      apply Classical.byContradiction;intro R;exact hd ⟨B,λk u z F h4=>R ⟨k,u,z,F,h4⟩⟩
     obtain⟨k,hk,P,Q,p,q,u,z,F⟩:=this;rw[<-M]at F;refine split hk ⟨u,λd S=>?_⟩ ⟨z,λd S=>?_⟩ F (λe=>P (nV u e)) (λe=>Q (nV z e).symm)
     .have:=h.2 _ (S.trans z);rw[<-F]at this;exact(C.add_le_right _).1 this
     .have:=h.2 _ (u.trans S);rw[<-F]at this;exact(C.add_le_left _).1 this
  .obtain⟨q,I,J,O,u,z,e,T,U⟩:=mg h M
   exact split O u z e T U
end G
end FR
namespace FR
namespace G
variable {i j p q:Nat}
variable {g:G} {a b:Nat}
def Bb(g:G)(a b i j:Nat):Prop:=i<g.fI a b/\g.may (g.fx a b i j) (g.fy a b i j) (g.qh a b)=true
def JI(g:G)(a b i j:Nat):Prop:=j<g.fJ a b/\g.may (g.fx a b i j) (g.fy a b i j) (g.fK a b)=true
def wZ(i' j' i j:Nat):Prop:=i'<i\/(i'=i/\j'<j)
def C8(g:G)(a b i j:Nat)(p q:Nat):Prop:=p<=g.fI a b/\q<=g.fJ a b/\((p=0/\q=0)\/(∃p',p=p'+1/\wZ p' q i j/\g.On a b p' q/\g.Bb a b p' q)\/(∃q',q=q'+1/\wZ p q' i j/\g.On a b p q'/\g.JI a b p q'))
theorem yl:g.C8 a b 0 0 p q↔(p=0/\q=0):=by
 constructor
 .rintro⟨_,_,h|⟨k,_,h,_⟩|⟨u,_,h,_⟩⟩
  .exact h
  .unfold wZ at h;omega
  .unfold wZ at h;omega
 .rintro⟨rfl,rfl⟩;exact⟨Nat.zero_le _,Nat.zero_le _,.inl ⟨rfl,rfl⟩⟩
theorem Ry(O:g.ok)(M:b<g.n)(L:a<g.n)(B:i<=g.fI a b)(F:j<=g.fJ a b):g.C8 a b i j i j↔g.On a b i j:=by
 rw[rW O M L B F];constructor
 .rintro⟨_,_,h|⟨I,k,_,u,z⟩|⟨J,k,_,u,z⟩⟩
  .exact .inl h
  .exact .inr (.inl ⟨I,k,u,z.2⟩)
  .exact .inr (.inr ⟨J,k,u,z.2⟩)
 .rintro(h|⟨I,k,u,z⟩|⟨J,k,u,z⟩)
  .exact⟨B,F,.inl h⟩
  .exact⟨B,F,.inr (.inl ⟨I,k,by unfold wZ;omega,u,by omega,z⟩)⟩
  .exact⟨B,F,.inr (.inr ⟨J,k,by unfold wZ;omega,u,by omega,z⟩)⟩
theorem Rz(h:¬g.On a b i j):g.C8 a b i (j+1) p q↔g.C8 a b i j p q:=by
 have u:∀z B,g.On a b z B->(wZ z B i (j+1)↔wZ z B i j):=by
  intro z B P;unfold wZ;constructor
  .intro Q
   by_cases e:z=i/\B=j
   .rw[e.1,e.2]at P;exact absurd P h
   .omega
  .omega
 unfold C8;constructor
 .rintro⟨F,I,O|⟨z,J,L,k,M⟩|⟨B,J,L,k,M⟩⟩
  .exact⟨F,I,.inl O⟩
  .exact⟨F,I,.inr (.inl ⟨z,J,(u _ _ k).1 L,k,M⟩)⟩
  .exact⟨F,I,.inr (.inr ⟨B,J,(u _ _ k).1 L,k,M⟩)⟩
 .rintro⟨F,I,O|⟨z,J,L,k,M⟩|⟨B,J,L,k,M⟩⟩
  .exact⟨F,I,.inl O⟩
  .exact⟨F,I,.inr (.inl ⟨z,J,(u _ _ k).2 L,k,M⟩)⟩
  .exact⟨F,I,.inr (.inr ⟨B,J,(u _ _ k).2 L,k,M⟩)⟩
theorem Mk(O:i<=g.fI a b)(P:j<=g.fJ a b)(h:g.On a b i j):g.C8 a b i (j+1) p q↔g.C8 a b i j p q\/(g.Bb a b i j/\p=i+1/\q=j)\/(g.JI a b i j/\p=i/\q=j+1):=by
 constructor
 .rintro⟨z,B,L|⟨I,k,M,F,u⟩|⟨J,k,M,F,u⟩⟩
  .exact .inl ⟨z,B,.inl L⟩
  .by_cases e:I=i/\q=j
   .obtain⟨rfl,rfl⟩:=e
    exact .inr (.inl ⟨u,k,rfl⟩)
   .exact .inl ⟨z,B,.inr (.inl ⟨I,k,by unfold wZ at*;omega,F,u⟩)⟩
  .by_cases e:p=i/\J=j
   .obtain⟨rfl,rfl⟩:=e
    exact .inr (.inr ⟨u,rfl,k⟩)
   .exact .inl ⟨z,B,.inr (.inr ⟨J,k,by unfold wZ at*;omega,F,u⟩)⟩
 .rintro(⟨z,B,L|⟨I,k,M,F,u⟩|⟨J,k,M,F,u⟩⟩|⟨x,rfl,rfl⟩|⟨x,rfl,rfl⟩)
  .exact⟨z,B,.inl L⟩
  .exact⟨z,B,.inr (.inl ⟨I,k,by unfold wZ at*;omega,F,u⟩)⟩
  .exact⟨z,B,.inr (.inr ⟨J,k,by unfold wZ at*;omega,F,u⟩)⟩
  .exact⟨x.1,P,.inr (.inl ⟨i,rfl,by unfold wZ;omega,h,x⟩)⟩
  .exact⟨O,x.1,.inr (.inr ⟨j,rfl,by unfold wZ;omega,h,x⟩)⟩
theorem Pb:g.C8 a b i (g.fJ a b+1) p q↔g.C8 a b (i+1) 0 p q:=by
 unfold C8;constructor
 .rintro⟨k,u,I|⟨J,z,M,B,F⟩|⟨L,z,M,B,F⟩⟩
  .exact⟨k,u,.inl I⟩
  .exact⟨k,u,.inr (.inl ⟨J,z,by unfold wZ at*;omega,B,F⟩)⟩
  .exact⟨k,u,.inr (.inr ⟨L,z,by unfold wZ at*;omega,B,F⟩)⟩
 .rintro⟨k,u,I|⟨J,z,M,B,F⟩|⟨L,z,M,B,F⟩⟩
  .exact⟨k,u,.inl I⟩
  .exact⟨k,u,.inr (.inl ⟨J,z,by unfold wZ at*;omega,B,F⟩)⟩
  .exact⟨k,u,.inr (.inr ⟨L,z,by unfold wZ at*;omega,B,F⟩)⟩
def Nk(g:G)(a b p q:Nat):Prop:=p<=g.fI a b/\q<=g.fJ a b/\g.On a b p q
theorem O9(O:g.ok)(M:b<g.n)(L:a<g.n):g.C8 a b (g.fI a b+1) 0 p q↔g.Nk a b p q:=by
 constructor
 .rintro⟨B,F,h⟩
  refine⟨B,F,(rW O M L B F).2 ?_⟩;rcases h with h|⟨I,k,_,u,z⟩|⟨J,k,_,u,z⟩
  .exact .inl h
  .exact .inr (.inl ⟨I,k,u,z.2⟩)
  .exact .inr (.inr ⟨J,k,u,z.2⟩)
 .rintro⟨B,F,h⟩
  refine⟨B,F,?_⟩;rcases(rW O M L B F).1 h with h|⟨I,k,u,z⟩|⟨J,k,u,z⟩
  .exact .inl h
  .exact .inr (.inl ⟨I,k,by unfold wZ;omega,u,by omega,z⟩)
  .exact .inr (.inr ⟨J,k,by unfold wZ;omega,u,by omega,z⟩)
def CV(g:G)(a b i j:Nat)(p q:Nat):Prop:=p<=g.fI a b/\q<=g.fJ a b/\((p=g.fI a b/\q=g.fJ a b)\/((i<=p\/(p+1=i/\j<=q))/\g.jX a b p q))
theorem G6:g.CV a b (g.fI a b+1) (g.fJ a b+1) p q↔(p=g.fI a b/\q=g.fJ a b):=by
 constructor
 .rintro⟨k,u,h|⟨h,_⟩⟩
  .exact h
  .omega
 .rintro⟨rfl,rfl⟩;exact⟨Nat.le_refl _,Nat.le_refl _,.inl ⟨rfl,rfl⟩⟩
theorem Kl(P:g.ok)(O:b<g.n)(M:a<g.n)(Q:i<=g.fI a b)(R:j<=g.fJ a b):g.CV a b (i+1) j p q↔g.CV a b (i+1) (j+1) p q\/(((g.Bb a b i j/\g.CV a b (i+1) (j+1) (i+1) j)\/(g.JI a b i j/\g.CV a b (i+1) (j+1) i (j+1)))/\p=i/\q=j):=by
 have F:=lY P O M Q R
 have T:g.Bb a b i j->(g.CV a b (i+1) (j+1) (i+1) j↔g.jX a b (i+1) j):=by
  intro Z;constructor
  .rintro⟨u,z,⟨J,L⟩|⟨_,h⟩⟩
   .rw[lY P O M u z];exact .inl ⟨J,L⟩
   .exact h
  .intro h;exact⟨Z.1,R,.inr ⟨.inl (Nat.le_refl _),h⟩⟩
 have U:g.JI a b i j->(g.CV a b (i+1) (j+1) i (j+1)↔g.jX a b i (j+1)):=by
  intro hs;constructor
  .rintro⟨u,z,⟨J,L⟩|⟨_,h⟩⟩
   .rw[lY P O M u z];exact .inl ⟨J,L⟩
   .exact h
  .intro h;exact⟨Q,hs.1,.inr ⟨.inr ⟨rfl,Nat.le_refl _⟩,h⟩⟩
 constructor
 .rintro⟨u,z,h|⟨h,I⟩⟩
  .exact .inl ⟨u,z,.inl h⟩
  .by_cases e:p=i/\q=j
   .obtain⟨rfl,rfl⟩:=e
    rcases F.1 I with x|⟨k,B,S⟩|⟨k,B,S⟩
    .exact .inl ⟨u,z,.inl x⟩
    .exact .inr ⟨.inl ⟨⟨k,B⟩,(T ⟨k,B⟩).2 S⟩,rfl,rfl⟩
    .exact .inr ⟨.inr ⟨⟨k,B⟩,(U ⟨k,B⟩).2 S⟩,rfl,rfl⟩
   .exact .inl ⟨u,z,.inr ⟨by omega,I⟩⟩
 .rintro(⟨u,z,h|⟨h,I⟩⟩|⟨h,rfl,rfl⟩)
  .exact⟨u,z,.inl h⟩
  .exact⟨u,z,.inr ⟨by omega,I⟩⟩
  .refine⟨Q,R,.inr ⟨.inr ⟨rfl,Nat.le_refl _⟩,F.2 ?_⟩⟩
   rcases h with⟨k,B⟩|⟨k,B⟩
   .exact .inr (.inl ⟨k.1,k.2,(T k).1 B⟩)
   .exact .inr (.inr ⟨k.1,k.2,(U k).1 B⟩)
theorem NR:g.CV a b (i+1) 0 p q↔g.CV a b i (g.fJ a b+1) p q:=by
 unfold CV;constructor
 .rintro⟨k,u,h|⟨h,z⟩⟩
  .exact⟨k,u,.inl h⟩
  .exact⟨k,u,.inr ⟨by omega,z⟩⟩
 .rintro⟨k,u,h|⟨h,z⟩⟩
  .exact⟨k,u,.inl h⟩
  .exact⟨k,u,.inr ⟨by omega,z⟩⟩
def PS(g:G)(a b p q:Nat):Prop:=p<=g.fI a b/\q<=g.fJ a b/\g.jX a b p q
theorem NQ(F:g.ok)(B:b<g.n)(z:a<g.n):g.CV a b 0 j p q↔g.PS a b p q:=by
 constructor
 .rintro⟨k,u,h|⟨_,h⟩⟩
  .exact⟨k,u,(lY F B z k u).2 (.inl h)⟩
  .exact⟨k,u,h⟩
 .rintro⟨k,u,h⟩
  exact⟨k,u,.inr ⟨.inl (Nat.zero_le _),h⟩⟩
theorem sQ(J:g.ok)(I:b<g.n)(F:a<g.n):g.fI a b<=15/\g.fJ a b<=15:=by
 obtain⟨k,u,z,B⟩:=J;have L:=jw ⟨k,u,z,B⟩ a;have M:=jw ⟨k,u,z,B⟩ b;have O:=iM F;have P:=iM I;unfold fI fJ DT DU;omega
def Ty(g:G)(a b:Nat)(p p':Nat×Nat):Prop:=(g.Bb a b p.1 p.2/\g.PS a b (p.1+1) p.2/\p'=(p.1+1,p.2))\/(¬(g.Bb a b p.1 p.2/\g.PS a b (p.1+1) p.2)/\p'=(p.1,p.2+1))
def xg(g:G)(a b:Nat)(P:Nat->Nat×Nat):Prop:=P 0=(0,0)/\∀k,g.Ty a b (P k) (P (k+1))
theorem ES(g:G)(a b:Nat):∃P,g.xg a b P:=by
 classical
 refine⟨λk=>Nat.rec (0,0) (λ_ p=>if g.Bb a b p.1 p.2/\g.PS a b (p.1+1) p.2 then(p.1+1,p.2)else(p.1,p.2+1)) k,rfl,λk=>?_⟩;simp only;split
 .rename_i h;exact .inl ⟨h.1,h.2,rfl⟩
 .rename_i h;exact .inr ⟨h,rfl⟩
theorem Mf(J:g.ok)(I:b<g.n)(F:a<g.n){O:Nat×Nat}(U:g.Ty a b (i,j) O)(Q:i<=g.fI a b)(L:j<=g.fJ a b)(R:g.On a b i j)(T:g.jX a b i j)(M:¬(i=g.fI a b/\j=g.fJ a b)):(O=(i+1,j)/\g.Bb a b i j/\g.On a b (i+1) j/\g.jX a b (i+1) j)\/(O=(i,j+1)/\g.JI a b i j/\g.On a b i (j+1)/\g.jX a b i (j+1)/\¬(g.Bb a b i j/\g.PS a b (i+1) j)):=by
 rcases U with⟨k,S,B⟩|⟨k,B⟩
 .exact .inl ⟨B,k,(rW J I F k.1 L).2 (.inr (.inl ⟨i,rfl,R,k.2⟩)),S.2.2⟩
 .rcases(lY J I F Q L).1 T with x|⟨u,z,P⟩|⟨u,z,P⟩
  .exact absurd x M
  .exact absurd ⟨⟨u,z⟩,u,L,P⟩ k
  .exact .inr ⟨B,⟨u,z⟩,(rW J I F Q u).2 (.inr (.inr ⟨j,rfl,R,z⟩)),P,k⟩
theorem uz(J:g.ok)(I:b<g.n)(F:a<g.n)(S:g.dz a b){P:Nat->Nat×Nat}(B:g.xg a b P):∀k,k<=g.fI a b+g.fJ a b->(P k).1<=g.fI a b/\(P k).2<=g.fJ a b/\(P k).1+(P k).2=k/\g.On a b (P k).1 (P k).2/\g.jX a b (P k).1 (P k).2
 |0,_=>by rw[B.1];exact⟨Nat.zero_le _,Nat.zero_le _,rfl,(rW J I F (Nat.zero_le _) (Nat.zero_le _)).2 (.inl ⟨rfl,rfl⟩),I6.1 S⟩
 |k+1,h=>by
  obtain⟨u,z,T,Q,R⟩:=uz J I F S B k (by omega);have U:=B.2 k;generalize P (k+1)=Z at*;generalize P k=p at*;obtain⟨i,j⟩:=p;simp only at u z T Q R;rcases Mf J I F U u z Q R (by omega)with⟨e,L,M,O⟩|⟨e,L,M,O,_⟩
  .rw[e];exact⟨L.1,z,by simp only;omega,M,O⟩
  .rw[e];exact⟨u,L.1,by simp only;omega,M,O⟩
end G
end FR
namespace FR
namespace G
variable {g g':G}{x y:Int}{k:Nat}
theorem SQ{a b:Nat}(i j:Nat)(O:i<=g.fI a b)(P:j<=g.fJ a b):((g.X a:Int)<=g.fx a b i j\/(g.X b:Int)<=g.fx a b i j)/\(g.fx a b i j<=g.X a\/g.fx a b i j<=g.X b)/\((g.Y a:Int)<=g.fy a b i j\/(g.Y b:Int)<=g.fy a b i j)/\(g.fy a b i j<=g.Y a\/g.fy a b i j<=g.Y b):=by
 obtain⟨z,B⟩:=g.KR a b;have H:=g.uU a b;unfold fx fy;unfold DT at z;unfold DU at B;generalize g.FJ a b=F at*;generalize g.FK a b=L at*;generalize g.FL a b=M at*;generalize g.FN a b=u at*;generalize g.fI a b=I at*;generalize g.fJ a b=J at*;rcases H.cases with⟨Q,R⟩|⟨e,h⟩|⟨e,h⟩|h
 .have:i=0:=by omega
  have:j=0:=by omega
  subst i;subst j;simp only[Int.natCast_zero,Int.zero_mul];omega
 .have:i=0:=by omega
  subst i;subst e;rcases h with⟨rfl,rfl⟩|⟨rfl,rfl⟩|⟨rfl,rfl⟩|⟨rfl,rfl⟩<;>simp only[Int.natCast_zero,Int.zero_mul]at* <;>omega
 .have:j=0:=by omega
  subst j;subst e;rcases h with⟨rfl,rfl⟩|⟨rfl,rfl⟩|⟨rfl,rfl⟩|⟨rfl,rfl⟩<;>simp only[Int.natCast_zero,Int.zero_mul]at* <;>omega
 .rcases h with⟨rfl,rfl,rfl,rfl⟩|⟨rfl,rfl,rfl,rfl⟩|⟨rfl,rfl,rfl,rfl⟩|⟨rfl,rfl,rfl,rfl⟩|⟨rfl,rfl,rfl,rfl⟩|⟨rfl,rfl,rfl,rfl⟩|⟨rfl,rfl,rfl,rfl⟩|⟨rfl,rfl,rfl,rfl⟩<;>omega
def uC(g:G)(a b:Nat)(x y:Int):Prop:=
 ((g.X a:Int)-1<=x\/(g.X b:Int)-1<=x)/\(x<=g.X a+1\/x<=g.X b+1)/\((g.Y a:Int)-1<=y\/(g.Y b:Int)-1<=y)/\(y<=g.Y a+1\/y<=g.Y b+1)
structure But (g g':G) (x y:Int):Prop where
 w:g'.w=g.w
 h:g'.h=g.h
 op:∀u v:Int,¬(u=x/\v=y)->g'.op u v=g.op u v
theorem But.symm(h:But g g' x y):But g' g x y:=⟨h.w.symm,h.h.symm,λu v k=>(h.op u v k).symm⟩
theorem But.X(h:But g g' x y)(c:Nat):g'.X c=g.X c:=by unfold G.X;rw[h.w]
theorem But.Y(h:But g g' x y)(c:Nat):g'.Y c=g.Y c:=by unfold G.Y;rw[h.w]
theorem But.n(h:But g g' x y):g'.n=g.n:=by unfold G.n;rw[h.w,h.h]
theorem But.ok(h:But g g' x y)(k:g.ok):g'.ok:=by unfold G.ok at*;rw[h.w,h.h];exact k
theorem But.bV(h:But g g' x y)(a b:Nat):g'.bV a b=g.bV a b:=by unfold G.bV;rw[h.X,h.X,h.Y,h.Y]
theorem But.to(h:But g g' x y)(a d:Nat):g'.to a d=g.to a d:=by unfold G.to G.Ai;rw[h.w]
theorem But.TZ(h:But g g' x y)(a b:Nat)(u v:Int):g'.uC a b u v↔g.uC a b u v:=by unfold uC;rw[h.X,h.X,h.Y,h.Y]
theorem NT{z:Nat}{t:Bool}(O:z<g.n):But g ⟨g.w,g.h,upd g.b z t⟩ (g.X z) (g.Y z):=by
 refine⟨rfl,rfl,λu v h=>?_⟩;unfold G.op;simp only;by_cases J:0<=u/\u<g.w/\0<=v/\v<g.h
 .rw[decide_eq_true J]
  simp only[Bool.true_and];congr 1;refine upd_ne _ _ ?_;intro e;apply h;obtain⟨p,L⟩:∃p:Nat,u=p:=⟨u.toNat,by omega⟩;obtain⟨q,M⟩:∃q:Nat,v=q:=⟨v.toNat,by omega⟩;subst L;subst M;simp only[Int.toNat_natCast]at e;have B:p<g.w:=by omega
  have F:=oN (g:=g) (y:=q) B;have I:=oO (g:=g) (y:=q) B;unfold cell at F I;rw[e]at F I;rw[F,I];exact⟨rfl,rfl⟩
 .rw[decide_eq_false J]
  simp
theorem uO(h:But g g' x y){c:Nat}(Q:¬((g.X c:Int)-1<=x/\x<=g.X c+1/\(g.Y c:Int)-1<=y/\y<=g.Y c+1)):g'.ak c↔g.ak c:=by
 have z:∀u v:Int,-1<=u->u<=1->-1<=v->v<=1->g'.op ((g.X c:Int)+u) ((g.Y c:Int)+v)=g.op ((g.X c:Int)+u) ((g.Y c:Int)+v):=λu v L M O P=>h.op _ _ (by omega);have B:=z 0 0 (by omega) (by omega) (by omega) (by omega);rw[Int.add_zero,Int.add_zero]at B;unfold ak;rw[h.n,h.X,h.Y,B];refine and_congr_right λ_=>and_congr_right λ_=>exists_congr λu=>exists_congr λv=>and_congr_right λR=>and_congr_right λS=>?_;have J:=z u v (by omega) (by omega) (by omega) (by omega);have F:=z u 0 (by omega) (by omega) (by omega) (by omega);have I:=z 0 v (by omega) (by omega) (by omega) (by omega);rw[Int.add_zero]at F I;rw[J,F,I]
theorem zO(I:g.ok){a b:Nat}(F:b<g.n)(B:a<g.n)(h:g.Mid a b k):((g.X a:Int)<=g.X k\/(g.X b:Int)<=g.X k)/\((g.X k:Int)<=g.X a\/(g.X k:Int)<=g.X b)/\((g.Y a:Int)<=g.Y k\/(g.Y b:Int)<=g.Y k)/\((g.Y k:Int)<=g.Y a\/(g.Y k:Int)<=g.Y b):=by
 obtain⟨i,j,u,z,rfl,_,_⟩:=(zP I F B).1 h;obtain⟨_,J,L⟩:=iq I F B u z;rw[J,L];exact SQ i j u z
theorem jr(M:g.ok)(h:But g g' x y){a b:Nat}(L:b<g.n)(J:a<g.n)(T:¬g.uC a b x y){p:C}(S:Walk g.E a k p):∀q,Walk g.E k b q->C.add p q=g.bV a b->Walk g'.E a k p:=by
 induction S with
 |nil=>intro _ _ _;exact .nil _
 | @snoc m k p e O B Z=>
  intro q F u;have U:Walk g'.E a m p:=Z (C.add e q) (Walk.cons B F) (by rw[<-C.add_assoc];exact u);have b1:=zO M L J ⟨p,C.add e q,O,Walk.cons B F,by rw[<-C.add_assoc];exact u⟩;have b2:=zO M L J ⟨C.add p e,q,O.snoc B,F,u⟩;refine U.snoc ?_;obtain⟨P,d,Q,z,I,R⟩:=B;obtain⟨_,x1,y1⟩:=df z;rw[<-I]at x1 y1;refine⟨by rw[h.n];exact P,d,Q,?_,by rw[h.to];exact I,R⟩;unfold dN at z⊢;rw[fu]at z⊢;rw[h.X,h.Y];obtain⟨o1,o2,o3,o4⟩:=z;unfold uC at T;refine⟨?_,?_,?_,?_⟩
  .rw[h.op _ _ (by omega)];exact o1
  .rw[h.op _ _ (by omega)];exact o2
  .rw[h.op _ _ (by omega)];exact o3
  .rw[h.op _ _ (by omega)];exact o4
theorem AU{a b:Nat}:g.uC a b x y↔g.uC b a x y:=by unfold uC;omega
theorem OW(M:g.ok)(h:But g g' x y){a b:Nat}(J:b<g.n)(I:a<g.n)(L:¬g.uC a b x y)(P:g.Mid a b k):g'.Mid a b k:=by
 obtain⟨p,q,B,F,z⟩:=P;refine⟨p,q,jr M h J I L B q F z,?_,by rw[h.bV];exact z⟩;have Q:=Walk.rev (E:=g.E) (λ_ _ _ u=>kN u) F;have R:=Walk.rev (E:=g.E) (λ_ _ _ u=>kN u) B;have S:=jr M h I J (λO=>L (AU.1 O)) Q p R (by rw[C.add_comm,z,dW]);exact Walk.rev (E:=g'.E) (λ_ _ _ u=>kN u) S
theorem LZ(F:g.ok)(h:But g g' x y){a b:Nat}(z:b<g.n)(u:a<g.n)(B:¬g.uC a b x y)(I:g.dz a b):g'.dz a b:=by
 unfold dz at*;rw[h.bV];exact jr F h z u B I C.zero (.nil b) (C.add_zero _)
theorem Dy(F:g.ok)(h:But g g' x y){a b:Nat}(z:b<g.n)(u:a<g.n)(B:¬g.uC a b x y):g'.aF a b↔g.aF a b:=by
 have J:∀{g g':G},g.ok->But g g' x y->b<g.n->a<g.n->¬g.uC a b x y->g.aF a b->g'.aF a b:=by
  rintro g g' F h z u B ⟨P,Q⟩;have M:=h.ok F;have L:¬g'.uC a b x y:=λO=>B ((h.TZ a b x y).1 O);refine⟨LZ F h z u B P,λk R T U S=>?_⟩;have I:=OW M h.symm (by rw[h.n];exact z) (by rw[h.n];exact u) L S;have Z:=zO F z u I;refine Q k ((uO h ?_).1 R) T U I;unfold uC at B;omega
 exact⟨J (h.ok F) h.symm (by rw[h.n];exact z) (by rw[h.n];exact u) (λO=>B ((h.TZ a b x y).1 O)),J F h z u B⟩
end G
end FR
namespace FR
variable {E:Nat->Nat->C->Prop}
theorem Fp(P:Nat->Prop):∃f:Nat->Bool,∀u,f u=true↔P u:=⟨λu=>@decide (P u) (Classical.propDecidable _),λu=>by simp⟩
def QH(E:Nat->Nat->C->Prop)(fr:Nat)(c:C)(f:Nat->Bool):Prop:=∀u,f u=true↔∃d,bP E fr u d/\C.lt d c
theorem Fx{p q:Nat->Bool}{n m:Nat}(h:∀k,p k=true->q k=true)(z:m<n)(g:p m=false)(u:q m=true):dG p n+1<=dG q n:=by
 unfold dG;refine qU n (λk _=>?_) ⟨m,z,by rw[g,u];decide⟩;cases B:p k with
 |false=>simp
 |true=>rw[h k B];simp
theorem Og(T:∀a b c,E a b c->C.Nn c)(hz:∀a b c,E a b c->c≠C.zero){M N:Nat}(U:∀a b c,E a b c->C.le c ⟨0,(M:Int)⟩)(Z:∀a b c,E a b c->b<N){fr:Nat}(hf:fr<N):∀(k:Nat){t:Nat}{c:C}(f:Nat->Bool),QH E fr c f->bP E fr t c->dG f N<=k->C.le c ⟨0,((M*k:Nat):Int)⟩:=by
 intro k
 induction k using Nat.strongRecOn with
 |_ k ih=>
  intro t c f B h hk;rcases h.1.inv with⟨_,e⟩|⟨m,d,e,R,I,L⟩
  .rw[e];exact C.yc ⟨Int.le_refl 0,by simp only;omega⟩
  .have O:bP E fr m d:=⟨R,λd' P=>by
    have:=h.2 _ (P.snoc I);rw[L]at this;exact(C.add_le_right _).1 this⟩
   have F:C.lt d c:=by rw[L];exact C.jK (T _ _ _ I) (hz _ _ _ I)
   have hm:m<N:=by
    rcases R.inv with⟨e,_⟩|⟨_,_,_,_,he,_⟩
    .rw[e];exact hf
    .exact Z _ _ _ he
   obtain⟨z,g⟩:=Fp (λu=>∃x,bP E fr u x/\C.lt x d)
   have hc:dG z N+1<=dG f N:=by
    refine Fx (m:=m) (λu hu=>?_) hm ?_ ?_
    .obtain⟨x,Q,J⟩:=(g u).1 hu
     exact(B u).2 ⟨x,Q,C.lt_trans J F⟩
    .cases hq:z m with
     |false=>rfl
     |true=>
      obtain⟨x,Q,J⟩:=(g m).1 hq;rw[O.unique Q]at J;exact absurd J (C.lt_irrefl _)
    .exact(B m).2 ⟨d,O,F⟩
   have hi:=ih (dG z N) (by omega) z g O (Nat.le_refl _);rw[L];refine C.le_trans (C.add_le_add hi (U _ _ _ I)) (C.aK (by simp[C.add]) ?_);simp only[C.add];have S:M*(dG z N+1)<=M*k:=Nat.mul_le_mul_left M (by omega);rw[Nat.mul_succ]at S;omega
theorem DC(k:∀a b c,E a b c->C.Nn c)(L:∀a b c,E a b c->c≠C.zero){M N:Nat}(F:∀a b c,E a b c->C.le c ⟨0,(M:Int)⟩)(I:∀a b c,E a b c->b<N){fr:Nat}(J:fr<N){t:Nat}{c:C}(h:bP E fr t c):0<=c.s/\c.s<=2*(M*N:Nat)/\0<=c.d/\c.d<=2*(M*N:Nat):=by
 obtain⟨f,g⟩:=Fp (λu=>∃x,bP E fr u x/\C.lt x c);have B:=Og k L F I J N f g h (iN _ _);have z:=h.1.nn k;have:=C.dZ z ⟨Int.le_refl 0,by simp only;omega⟩ B;simp only at this;obtain⟨a,b⟩:=z;omega
theorem G.DD{g:G}(z:g.ok){a t:Nat}{c:C}(u:a<g.n)(h:bP g.E a t c):0<=c.s/\c.s<=512/\0<=c.d/\c.d<=512:=by
 have B:=G.bR z
 have:=DC (M:=1) (N:=g.n) (λ_ _ _=>G.yP) (λ_ _ c k=>by
  obtain⟨_,d,_,_,_,e⟩:=k;rw[e];unfold aW C.zero;split<;>simp) (λ_ _ c k=>by
  obtain⟨_,d,_,_,_,e⟩:=k;rw[e];unfold aW;split<;>decide) (λ_ _ _=>G.Qz) u h
 omega
end FR
namespace FR
open Classical
structure LS where
 lev:Nat->Nat
 eg:Nat->Nat->Option (C×Int)
namespace LS
def Lf(S:LS)(x y:Nat)(c:C):Prop:=S.lev x=0/\S.lev y=0/\∃m,S.eg x y=some (c,m)
def Lw(S:LS)(n x y:Nat)(c:C):Prop:=S.Lf x y c/\x≠n/\y≠n
def cost(S:LS)(x y:Nat):C:=match S.eg x y with|some (c,_)=>c|none=>C.zero
def iJ(S:LS)(n a b:Nat):Prop:=¬∃c,Walk (S.Lw n) a b c/\C.le c (C.add (S.cost n a) (S.cost n b))
noncomputable def nb(S:LS)(N n:Nat):List Nat:=(List.range N).filter λt=>decide ((S.eg n t).isSome=true/\S.lev t=0)
def bW:List Nat->List (Nat×Nat)
 |[]=>[]
 |a::l=>l.map (λb=>(a,b))++bW l
noncomputable def more(S:LS)(N n:Nat):List (Nat×Nat):=(bW (S.nb N n)).filter λp=>decide (S.iJ n p.1 p.2)
noncomputable def pass(S:LS)(N n top:Nat):LS where
 lev:=upd S.lev n top
 eg:=λx y=>if(x,y)∈S.more N n\/(y,x)∈S.more N n then some (C.add (S.cost n x) (S.cost n y),(n:Int))else S.eg x y
end LS
structure RS where
 S:LS
 near:Nat->Bool
 some_:Bool
namespace RS
noncomputable def step(N top:Nat)(R:RS)(n:Nat):RS:=
 if R.S.lev n≠0\/R.near n=true then R
 else if(R.S.nb N n).length<(R.S.more N n).length then R
 else⟨R.S.pass N n top,λt=>R.near t||decide (t∈R.S.nb N n),true⟩
noncomputable def run(N top:Nat)(nodes:List Nat)(S:LS):RS:=nodes.foldl (step N top) ⟨S,λ_=>false,false⟩
end RS
namespace LS
variable {S:LS}{N:Nat}
noncomputable def rounds(N:Nat)(nodes:List Nat):Nat->Nat->LS->LS×Nat
 |0,top,S=>(S,top)
 |k+1,top,S=>if(RS.run N top nodes S).some_=true then rounds N nodes k (top+1) (RS.run N top nodes S).S else((RS.run N top nodes S).S,top)
def close(S:LS)(nodes:List Nat)(top:Nat):LS where
 lev:=λn=>if n∈nodes/\S.lev n=0 then top else S.lev n
 eg:=S.eg
theorem lC{N n t:Nat}:t∈S.nb N n↔t<N/\(S.eg n t).isSome=true/\S.lev t=0:=by
 unfold nb;simp
theorem xZ(S:LS)(N n:Nat):(S.nb N n).Pairwise (· < ·):=List.Pairwise.filter _ List.pairwise_lt_range
theorem o9:∀{l:List Nat},l.Pairwise (· < ·)->∀{a b:Nat},(a,b)∈bW l↔a∈l/\b∈l/\a<b
 |[],_,a,b=>by simp[bW]
 |x::l,h,a,b=>by
  rw[List.pairwise_cons]at h;unfold bW;rw[List.mem_append,o9 h.2];constructor
  .rintro(q|⟨z,k,B⟩)
   .rw[List.mem_map]at q
    obtain⟨y,F,e⟩:=q;injection e with I J
    subst I;subst J;exact⟨by simp,by simp[F],h.1 _ F⟩
   .exact⟨by simp[z],by simp[k],B⟩
  .rintro⟨z,k,B⟩
   rcases List.mem_cons.1 z with u|u
   .rcases List.mem_cons.1 k with g|g
    .omega
    .exact .inl (List.mem_map.2 ⟨b,g,by rw[u]⟩)
   .rcases List.mem_cons.1 k with g|g
    .have:=h.1 a u;omega
    .exact .inr ⟨u,g,B⟩
theorem BS{N n a b:Nat}:(a,b)∈S.more N n↔a∈S.nb N n/\b∈S.nb N n/\a<b/\S.iJ n a b:=by
 unfold more;rw[List.mem_filter,o9 (xZ S N n)];simp[and_assoc]
theorem gy(z:∀x y,S.eg x y=S.eg y x){n a b:Nat}:S.iJ n a b↔S.iJ n b a:=by
 have g:∀a b,S.iJ n a b->S.iJ n b a:=by
  rintro a b h ⟨c,k,u⟩;refine h ⟨c,Walk.rev (E:=S.Lw n) (λx y c⟨⟨B,F,m,I⟩,J,L⟩=>⟨⟨F,B,m,by rw[z];exact I⟩,L,J⟩) k,?_⟩;rw[C.add_comm];exact u
 exact⟨g a b,g b a⟩
theorem nu{x y:Nat}{c:C}{m:Int}(h:S.eg x y=some (c,m)):S.cost x y=c:=by unfold cost;rw[h]
theorem dP(B:∀x y,S.eg x y=S.eg y x){N n top x y:Nat}:(S.pass N n top).eg x y=if x∈S.nb N n/\y∈S.nb N n/\x≠y/\S.iJ n x y then some (C.add (S.cost n x) (S.cost n y),(n:Int))else S.eg x y:=by
 unfold pass;simp only[BS];by_cases h:x∈S.nb N n/\y∈S.nb N n/\x≠y/\S.iJ n x y
 .rw[if_pos h]
  obtain⟨g,k,z,u⟩:=h;rcases Nat.lt_or_gt_of_ne z with q|q
  .rw[if_pos (.inl ⟨g,k,q,u⟩)]
  .rw[if_pos (.inr ⟨k,g,q,(gy B).1 u⟩)]
 .rw[if_neg h,if_neg]
  rintro(⟨g,k,z,u⟩|⟨g,k,z,u⟩)
  .exact h ⟨g,k,by omega,u⟩
  .exact h ⟨k,g,by omega,(gy B).1 u⟩
def Up(S:LS)(x y:Nat)(c:C):Prop:=S.lev x≠0/\(S.lev y=0\/S.lev x<S.lev y)/\∃m,S.eg x y=some (c,m)
def UD(S:LS)(s t:Nat)(c:C):Prop:=
 (∃m c1 c2,Walk S.Up s m c1/\Walk S.Up t m c2/\C.le (C.add c1 c2) c)\/
 ∃p q c1 c0 c2,Walk S.Up s p c1/\Walk S.Lf p q c0/\Walk S.Up t q c2/\S.lev p=0/\S.lev q=0/\C.le (C.add (C.add c1 c0) c2) c
structure Inv (g:FR.G) (N top K:Nat) (S:LS) (nr:Nat->Bool):Prop where
 nN:g.n<=N
 pos:0<top
 bG:∀a b,S.eg a b≠none->g.ak a/\g.ak b/\a≠b
 symm:∀a b,S.eg a b=S.eg b a
 orig:∀a b c m,S.eg a b=some (c,m)->m<0->m= -1/\g.GE a b c
 sum:∀a b c m,S.eg a b=some (c,m)->0<=m->∃k:Nat,m=k/\S.lev k≠0/\(S.lev a=0\/S.lev k<S.lev a)/\(S.lev b=0\/S.lev k<S.lev b)/\
  ∃c1 m1 c2 m2,S.eg a k=some (c1,m1)/\S.eg k b=some (c2,m2)/\c=C.add c1 c2
 walk:∀a b c m,S.eg a b=some (c,m)->Walk g.GE a b c
 levs:∀a,S.lev a<=top
 apart:∀a b,S.eg a b≠none->S.lev a=S.lev b->S.lev a=0
 near:∀a b,S.eg a b≠none->S.lev a=top->S.lev b=0->nr b=true
 small:∀a b c m,S.eg a b=some (c,m)->0<=c.s/\c.s<=2*K/\0<=c.d/\c.d<=2*K/\(S.lev a=0->nr a=false->c.s<=K/\c.d<=K)
 keep:∀a b c,g.GE a b c->S.eg a b≠none
 ud:∀s t c,g.ak s->g.ak t->Walk g.GE s t c->S.UD s t c
theorem zJ(z:∀x y,S.eg x y=S.eg y x):∀x y c,S.Lf x y c->S.Lf y x c:=λx y c⟨g,k,m,u⟩=>⟨k,g,m,by rw[z];exact u⟩
section pass
variable {c:C}{x y:Nat}
variable {g:FR.G} {N top K:Nat} {S:LS} {near:Nat->Bool} (H:Inv g N top K S near) {n:Nat} (h0:S.lev n=0)
include H h0
theorem Qp(h:S.Lf n x c):x∈S.nb N n:=by
 obtain⟨_,k,m,g⟩:=h;refine lC.2 ⟨Nat.lt_of_lt_of_le ?_ H.nN,by rw[g];rfl,k⟩;exact(H.bG n x (by rw[g];simp)).2.1.1
theorem kY:S.eg x x=none:=by
 cases h:S.eg x x with
 |none=>rfl
 |some _=>exact absurd rfl (H.bG x x (by rw[h];simp)).2.2
theorem vK:(S.pass N n top).eg n y=S.eg n y:=by
 rw[dP H.symm,if_neg];rintro⟨g,_⟩;have:=(lC.1 g).2.1;rw[kY H h0]at this;cases this
theorem Gn(h:S.Lf x y c)(u:x≠n)(z:y≠n):∃k,(S.pass N n top).Lf x y k/\C.le k c:=by
 have B:(S.pass N n top).lev x=0:=by show upd S.lev n top x=0;rw[upd_ne _ _ u];exact h.1
 have F:(S.pass N n top).lev y=0:=by show upd S.lev n top y=0;rw[upd_ne _ _ z];exact h.2.1
 have e:=dP (S:=S) H.symm (N:=N) (n:=n) (top:=top) (x:=x) (y:=y);by_cases g:x∈S.nb N n/\y∈S.nb N n/\x≠y/\S.iJ n x y
 .rw[if_pos g]at e
  refine⟨_,⟨B,F,_,e⟩,?_⟩;rcases C.le_total c (C.add (S.cost n x) (S.cost n y))with q|q
  .exact absurd ⟨c,Walk.single ⟨h,u,z⟩,q⟩ g.2.2.2
  .exact q
 .rw[if_neg g]at e
  obtain⟨_,_,m,I⟩:=h;exact⟨c,⟨B,F,m,by rw[e];exact I⟩,C.le_refl _⟩
theorem Jj(h:Walk (S.Lw n) x y c):∃g,Walk (S.pass N n top).Lf x y g/\C.le g c:=by
 induction h with
 |nil=>exact⟨_,.nil _,C.le_refl _⟩
 |snoc _ he ih=>
  obtain⟨F,k,u⟩:=ih;obtain⟨I,z,B⟩:=Gn H h0 he.1 he.2.1 he.2.2;exact⟨_,k.snoc z,C.add_le_add u B⟩
theorem Mt{F I:C}(L:S.Lf n x F)(M:S.Lf n y I)(B:x≠y):∃g,Walk (S.pass N n top).Lf x y g/\C.le g (C.add F I):=by
 have U:=Qp H h0 L;have Z:=Qp H h0 M;obtain⟨_,R,mx,k⟩:=L;obtain⟨_,T,my,u⟩:=M;have xn:x≠n:=by rintro rfl;rw[kY H h0]at k;cases k
 have yn:y≠n:=by rintro rfl;rw[kY H h0]at u;cases u
 by_cases z:S.iJ n x y
 .have e:=dP (S:=S) H.symm (N:=N) (n:=n) (top:=top) (x:=x) (y:=y)
  rw[if_pos ⟨U,Z,B,z⟩,nu k,nu u]at e;refine⟨_,Walk.single ⟨?_,?_,_,e⟩,C.le_refl _⟩
  .show upd S.lev n top x=0;rw[upd_ne _ _ xn];exact R
  .show upd S.lev n top y=0;rw[upd_ne _ _ yn];exact T
 .unfold iJ at z
  obtain⟨c,O,J⟩:=Classical.not_not.1 z;rw[nu k,nu u]at J;obtain⟨g,P,Q⟩:=Jj H h0 O;exact⟨g,P,C.le_trans Q J⟩
theorem vJ{a b:Nat}(h:Walk S.Lf a b c)(ha:a≠n):(b≠n->∃Q,Walk (S.pass N n top).Lf a b Q/\C.le Q c)/\(b=n->∃x g e,Walk (S.pass N n top).Lf a x g/\x≠n/\S.Lf x n e/\C.le (C.add g e) c):=by
 induction h with
 |nil=>exact⟨λ_=>⟨_,.nil _,C.le_refl _⟩,λe=>absurd e ha⟩
 | @snoc m b d e hw F R=>
  have P:C.Nn e:=by
   obtain⟨_,_,k,u⟩:=F;have:=H.small _ _ _ _ u;exact⟨this.1,this.2.2.1⟩
  by_cases M:m=n
  .subst M
   obtain⟨x,g,e1,z,O,J,L⟩:=R.2 rfl
   have B:b≠m:=by
    rintro rfl;obtain⟨_,_,k,u⟩:=F;rw[kY H h0]at u;cases u
   refine⟨λ_=>?_,λe=>absurd e B⟩;by_cases I:x=b
   .subst I
    refine⟨g,z,C.le_trans (C.le_trans (C.iA ?_) L) (C.iA P)⟩;obtain⟨_,_,k,u⟩:=J;have:=H.small _ _ _ _ u;exact⟨this.1,this.2.2.1⟩
   .obtain⟨T,U,Z⟩:=Mt H h0 (zJ H.symm _ _ _ J) F I
    refine⟨_,z.trans U,?_⟩;refine C.le_trans (C.add_le_add (C.le_refl g) Z) ?_;rw[<-C.add_assoc];exact C.add_le_add L (C.le_refl _)
  .obtain⟨g,z,O⟩:=R.1 M
   refine⟨λB=>?_,λB=>?_⟩
   .obtain⟨T,J,L⟩:=Gn H h0 F M B
    exact⟨_,z.snoc J,C.add_le_add O L⟩
   .subst B
    exact⟨m,g,e,z,M,F,C.add_le_add O (C.le_refl _)⟩
theorem uo(g:∀y,S.eg n y≠none->S.lev y≠top)(h:Walk S.Up x y c):Walk (S.pass N n top).Up x y c:=by
 refine Walk.mono (λa b c⟨k,F,m,u⟩=>?_) h;have I:a≠n:=by rintro rfl;exact k h0
 have e:(S.pass N n top).eg a b=some (c,m):=by
  rw[dP H.symm,if_neg]
  .exact u
  .rintro⟨q,_⟩;exact k (lC.1 q).2.2
 have B:(S.pass N n top).lev a=S.lev a:=upd_ne _ _ I;refine⟨by rw[B];exact k,?_,m,e⟩;rw[B];by_cases z:b=n
 .subst z
  right;show S.lev a<upd S.lev b top b;rw[upd_same];have L:=H.levs a;have:S.lev a≠top:=g a (by rw[H.symm,u];simp);omega
 .have J:(S.pass N n top).lev b=S.lev b:=upd_ne _ _ z
  rw[J];exact F
theorem PQ{a b:Nat}(h:Walk S.Lf a b c):C.Nn c:=by
 refine h.nn λa b c⟨_,_,m,g⟩=>?_;have:=H.small _ _ _ _ g;exact⟨this.1,this.2.2.1⟩
theorem Qw{e:C}(k:∀y,S.eg n y≠none->S.lev y≠top)(h:S.Lf x n e):(S.pass N n top).Up n x e/\(S.pass N n top).lev x=0:=by
 obtain⟨z,F,m,g⟩:=h;have B:x≠n:=by rintro rfl;rw[kY H h0]at g;cases g
 have u:(S.pass N n top).lev x=0:=by show upd S.lev n top x=0;rw[upd_ne _ _ B];exact z
 refine⟨⟨?_,.inl u,m,by rw[vK H h0,H.symm];exact g⟩,u⟩;show upd S.lev n top n≠0;rw[upd_same];have:=H.pos;omega
theorem Ph{s t:Nat}(g:∀y,S.eg n y≠none->S.lev y≠top)(h:S.UD s t c):(S.pass N n top).UD s t c:=by
 rcases h with⟨m,u,z,R,J,T⟩|⟨p,q,u,d,z,R,J,T,lp,lq,P⟩
 .exact .inl ⟨m,u,z,uo H h0 g R,uo H h0 g J,T⟩
 .have u1:=uo H h0 g R
  have u2:=uo H h0 g T;by_cases Q:p=n
  .subst Q
   by_cases F:q=p
   .subst F
    refine .inl ⟨_,u,z,u1,u2,C.le_trans (C.add_le_add ?_ (C.le_refl _)) P⟩;exact C.iA (PQ H h0 J)
   .obtain⟨x,L,e,M,Z,k3,k4⟩:=(vJ H h0 (Walk.rev (E:=S.Lf) (zJ H.symm) J) F).2 rfl
    obtain⟨k5,k6⟩:=Qw H h0 g k3;have I:(S.pass N p top).lev q=0:=by show upd S.lev p top q=0;rw[upd_ne _ _ F];exact lq
    have U:∀x y,(S.pass N p top).eg x y=(S.pass N p top).eg y x:=λx y=>by
     rw[dP H.symm,dP H.symm,H.symm x y,C.add_comm];by_cases B:x∈S.nb N p/\y∈S.nb N p/\x≠y/\S.iJ p x y
     .rw[if_pos B,if_pos ⟨B.2.1,B.1,Ne.symm B.2.2.1,(gy H.symm).1 B.2.2.2⟩]
     .rw[if_neg B,if_neg (λk=>B ⟨k.2.1,k.1,Ne.symm k.2.2.1,(gy H.symm).1 k.2.2.2⟩)]
    refine .inr ⟨x,q,C.add u e,L,z,u1.snoc k5,Walk.rev (E:=(S.pass N p top).Lf) (zJ U) M,u2,k6,I,?_⟩;refine C.le_trans (C.add_le_add ?_ (C.le_refl _)) P;rw[C.add_assoc,C.add_comm e];exact C.add_le_add (C.le_refl _) k4
  .have O:(S.pass N n top).lev p=0:=by show upd S.lev n top p=0;rw[upd_ne _ _ Q];exact lp
   by_cases F:q=n
   .subst F
    obtain⟨x,L,e,M,Z,k3,k4⟩:=(vJ H h0 J Q).2 rfl;obtain⟨k5,k6⟩:=Qw H h0 g k3;refine .inr ⟨p,x,u,L,C.add z e,u1,M,u2.snoc k5,O,k6,?_⟩;refine C.le_trans ?_ P;rw[C.add_comm z,<-C.add_assoc,C.add_assoc u];exact C.add_le_add (C.add_le_add (C.le_refl _) k4) (C.le_refl _)
   .obtain⟨L,M,Z⟩:=(vJ H h0 J Q).1 F
    have I:(S.pass N n top).lev q=0:=by show upd S.lev n top q=0;rw[upd_ne _ _ F];exact lq
    exact .inr ⟨p,q,u,L,z,u1,M,u2,O,I,C.le_trans (C.add_le_add (C.add_le_add (C.le_refl _) Z) (C.le_refl _)) P⟩
theorem Ms(hn:near n=false)(hc:g.ak n):Inv g N top K (S.pass N n top) (λt=>near t||decide (t∈S.nb N n)):=by
 have O:∀y,S.eg n y≠none->S.lev y≠top:=λy hy z=>by
  have:=H.near y n (by rw[H.symm];exact hy) z h0;rw[hn]at this;cases this
 have B:∀x,x∈S.nb N n->∃c m,S.eg n x=some (c,m)/\S.lev x=0/\x≠n/\c.s<=K/\c.d<=K/\0<=c.s/\0<=c.d/\S.cost n x=c:=by
  intro x hx;obtain⟨h1,h2,h3⟩:=lC.1 hx;cases I:S.eg n x with
  |none=>rw[I]at h2;cases h2
  |some cm=>
   obtain⟨c,m⟩:=cm;obtain⟨a1,a2,a3,a4,a5⟩:=H.small _ _ _ _ I;obtain⟨a6,a7⟩:=a5 h0 hn;exact⟨c,m,rfl,h3,(by rintro rfl;rw[kY H h0]at I;cases I),a6,a7,a1,a3,nu I⟩
 have P:∀x,(S.pass N n top).lev x=upd S.lev n top x:=λ_=>rfl;have ag:=H.pos
 have old:∀a b c m,(S.pass N n top).eg a b=some (c,m)->(S.eg a b=some (c,m)/\(¬(a∈S.nb N n/\b∈S.nb N n/\a≠b/\S.iJ n a b)))\/(a∈S.nb N n/\b∈S.nb N n/\a≠b/\S.iJ n a b/\c=C.add (S.cost n a) (S.cost n b)/\m=n):=by
  intro a b c m h;rw[dP H.symm]at h;split at h
  .rename_i q
   injection h with h
   injection h with U F
   exact .inr ⟨q.1,q.2.1,q.2.2.1,q.2.2.2,U.symm,F.symm⟩
  .rename_i q
   exact .inl ⟨h,q⟩
 have R:∀a b,(S.pass N n top).eg a b≠none->S.eg a b≠none\/(a∈S.nb N n/\b∈S.nb N n/\a≠b):=by
  intro a b h;cases I:(S.pass N n top).eg a b with
  |none=>exact absurd I h
  |some cm=>
   rcases old a b cm.1 cm.2 I with q|q
   .exact .inl (by rw[q.1];simp)
   .exact .inr ⟨q.1,q.2.1,q.2.2.1⟩
 refine⟨H.nN,H.pos,?_,?_,?_,?_,?_,?_,?_,?_,?_,?_,λs t c hs ht hw=>Ph H h0 O (H.ud s t c hs ht hw)⟩
 .intro a b h
  rcases R a b h with q|⟨T,Z,q3⟩
  .exact H.bG a b q
  .obtain⟨J,Q,U,_⟩:=B a T
   obtain⟨c2,m2,F,_⟩:=B b Z;exact⟨(H.bG n a (by rw[U];simp)).2.1,(H.bG n b (by rw[F];simp)).2.1,q3⟩
 .intro x y
  rw[dP H.symm,dP H.symm,H.symm x y,C.add_comm];by_cases u:x∈S.nb N n/\y∈S.nb N n/\x≠y/\S.iJ n x y
  .rw[if_pos u,if_pos ⟨u.2.1,u.1,Ne.symm u.2.2.1,(gy H.symm).1 u.2.2.2⟩]
  .rw[if_neg u,if_neg (λk=>u ⟨k.2.1,k.1,Ne.symm k.2.2.1,(gy H.symm).1 k.2.2.2⟩)]
 .intro a b c m h hm
  rcases old a b c m h with⟨q,_⟩|⟨_,_,_,_,_,q⟩
  .exact H.orig a b c m q hm
  .omega
 .intro a b c m h hm
  rcases old a b c m h with⟨q,_⟩|⟨T,Z,q3,q4,q5,q6⟩
  .obtain⟨k,U,F,e3,e4,J,Q,c2,m2,e5,e6,e7⟩:=H.sum a b c m q hm
   have kn:k≠n:=by rintro rfl;exact F h0
   have ka:k∉S.nb N n:=λu=>F (lC.1 u).2.2;have lk:(S.pass N n top).lev k=S.lev k:=upd_ne _ _ kn
   have up:∀a J Q,S.eg a k=some (J,Q)->(S.lev a=0\/S.lev k<S.lev a)->((S.pass N n top).lev a=0\/(S.pass N n top).lev k<(S.pass N n top).lev a):=by
    intro a J Q I z;rw[lk,P];by_cases e:a=n
    .subst e
     rw[upd_same];right;have:=H.levs k;have:=O k (by rw[I];simp);omega
    .rw[upd_ne _ _ e];exact z
   refine⟨k,U,by rw[lk];exact F,up a J Q e5 e3,up b c2 m2 (by rw[H.symm];exact e6) e4,J,Q,c2,m2,?_,?_,e7⟩
   .rw[dP H.symm,if_neg (λu=>ka u.2.1)];exact e5
   .rw[dP H.symm,if_neg (λu=>ka u.1)];exact e6
  .obtain⟨J,Q,U,l1,n1,_,_,_,_,k1⟩:=B a T
   obtain⟨c2,m2,F,l2,n2,_,_,_,_,k2⟩:=B b Z;refine⟨n,q6,by rw[P,upd_same];omega,.inl (by rw[P,upd_ne _ _ n1];exact l1),.inl (by rw[P,upd_ne _ _ n2];exact l2),J,Q,c2,m2,?_,?_,by rw[q5,k1,k2]⟩
   .rw[dP H.symm,if_neg (λu=>(B n u.2.1).elim λ_ q=>q.elim λ_ q=>q.2.2.1 rfl),H.symm];exact U
   .rw[vK H h0];exact F
 .intro a b c m h
  rcases old a b c m h with⟨q,_⟩|⟨T,Z,q3,q4,q5,q6⟩
  .exact H.walk a b c m q
  .obtain⟨J,Q,U,l1,n1,_,_,_,_,k1⟩:=B a T
   obtain⟨c2,m2,F,l2,n2,_,_,_,_,k2⟩:=B b Z;rw[q5,k1,k2];exact(H.walk a n J Q (by rw[H.symm];exact U)).trans (H.walk n b c2 m2 F)
 .intro a
  rw[P];by_cases e:a=n
  .subst e;rw[upd_same];exact Nat.le_refl _
  .rw[upd_ne _ _ e];exact H.levs a
 .intro a b h z
  rw[P,P]at z;rw[P];have ac:∀y,(S.pass N n top).eg n y≠none->y≠n->S.lev y≠top:=λy hy _=>O y (by rw[vK H h0]at hy;exact hy)
  have ad:(S.pass N n top).eg b a≠none:=by
   rw[dP H.symm];rw[dP H.symm]at h;by_cases u:a∈S.nb N n/\b∈S.nb N n/\a≠b/\S.iJ n a b
   .rw[if_pos ⟨u.2.1,u.1,Ne.symm u.2.2.1,(gy H.symm).1 u.2.2.2⟩];simp
   .rw[if_neg u]at h
    rw[if_neg (λk=>u ⟨k.2.1,k.1,Ne.symm k.2.2.1,(gy H.symm).1 k.2.2.2⟩),H.symm];exact h
  by_cases L:a=n
  .by_cases eb:b=n
   .subst L;subst eb
    rw[vK H h0,kY H h0]at h;exact absurd rfl h
   .subst L
    rw[upd_same,upd_ne _ _ eb]at z;exact absurd z.symm (ac b h eb)
  .by_cases eb:b=n
   .subst eb
    rw[upd_same,upd_ne _ _ L]at z;exact absurd z (ac a ad L)
   .rw[upd_ne _ _ L,upd_ne _ _ eb]at z
    rw[upd_ne _ _ L];rcases R a b h with q|⟨T,Z,_⟩
    .exact H.apart a b q z
    .exact(lC.1 T).2.2
 .intro a b h z M
  rw[P]at z M;show(near b||decide (b∈S.nb N n))=true;have eb:b≠n:=by rintro rfl;rw[upd_same]at M;omega
  rw[upd_ne _ _ eb]at M;by_cases L:a=n
  .subst L
   rw[vK H h0]at h
   have:b∈S.nb N a:=by
    refine lC.2 ⟨Nat.lt_of_lt_of_le (H.bG a b h).2.1.1 H.nN,?_,M⟩;cases I:S.eg a b with
    |none=>exact absurd I h
    |some _=>rfl
   simp[this]
  .rw[upd_ne _ _ L]at z
   rcases R a b h with q|⟨T,Z,_⟩
   .rw[H.near a b q z M];rfl
   .simp[Z]
 .intro a b c m h
  rcases old a b c m h with⟨q,hq⟩|⟨T,Z,q3,q4,q5,q6⟩
  .obtain⟨a1,a2,a3,a4,a5⟩:=H.small a b c m q
   refine⟨a1,a2,a3,a4,λz ab=>?_⟩;simp only[Bool.or_eq_false_iff]at ab;have L:a≠n:=by rintro rfl;rw[P,upd_same]at z;omega
   rw[P,upd_ne _ _ L]at z;exact a5 z ab.1
  .obtain⟨J,Q,U,l1,n1,s1,s2,s3,s4,k1⟩:=B a T
   obtain⟨c2,m2,F,l2,n2,t1,t2,t3,t4,k2⟩:=B b Z;rw[q5,k1,k2];simp only[C.add];refine⟨by omega,by omega,by omega,by omega,λ_ ab=>?_⟩;simp[T]at ab
 .intro a b c h
  rw[dP H.symm];split
  .simp
  .exact H.keep a b c h
end pass
end LS
end FR
namespace FR
namespace G
variable {g:G} {a b:Nat}
theorem yj(z:g.ok)(u:b<g.n)(k:a<g.n):0<=(g.bV a b).s/\(g.bV a b).s<=15/\0<=(g.bV a b).d/\(g.bV a b).d<=15:=by
 obtain⟨B,F⟩:=sQ z u k;rw[lF];simp only;omega
end G
end FR
namespace FR
theorem C.Ql{s d:Int}(z:0<=s):C.le ⟨s,d⟩ ⟨0,s+d⟩:=by
 by_cases h:s=0
 .subst h;rw[Int.zero_add];exact C.le_refl _
 .refine C.le_of_lt ?_
  unfold C.lt Pos;simp only;have u:0<s*s:=jS (by omega) (by omega);refine .inr (.inr ⟨by omega,by omega,?_⟩);have g:(0-s)*(0-s)=s*s:=by rw[Int.zero_sub,Int.neg_mul_neg]
  have k:s+d-d=s:=by omega
  rw[g,k];omega
namespace G
variable {g:G}
end G
end FR
