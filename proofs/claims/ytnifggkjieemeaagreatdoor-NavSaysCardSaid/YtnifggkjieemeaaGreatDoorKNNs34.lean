/- Lemmas of this claim: Sr1, Sr2, Sr3, Sr4, Sr5, Sr6, AppN. -/
import Derived.Test.YtnifggkjieemeaaGreatDoorKNNs26
set_option linter.unusedVariables false
set_option linter.unusedSimpArgs false
set_option maxHeartbeats 6400000
set_option maxRecDepth 100000
open Go.Proofs.Tryz
namespace Go.Proofs.YtnifggkjieemeaaGreatDoor
open Go.Lib (hid)
open Go.RowKit Go.Sort FR Go.Lib
variable {g:G}{f:Int->Option C}{S:LS}{L inn:List Ed}{T:List Int}{gk n:Nat}{mk:Nat->Bool}
theorem aL.drop1{w:World}{B g n m:Nat}{u:List Int}{z:Int}(h:aL w B (.slice (some ⟨g,0,none⟩) (n+1) m) (u++[z]))(U:u.length=n):aL w B (.slice (some ⟨g,0,none⟩) n m) u:=by
 obtain⟨h1,M⟩:=h;rcases M with⟨e,_⟩|⟨T,I,F,e,O,Q,P,R,Z,L⟩
 .cases e
 .injection e with k S J
  injection k with k;injection k with k
  subst k;subst J;refine⟨rS,.inr ⟨g,m,F,by rw[U],O,Q,by simp at P;omega,R,Z,?_⟩⟩;have:=congrArg (List.take u.length) L;rw[List.take_take]at this;simp at this⊢;exact this
theorem jh{M:Array Oper}{I:List Oper}{o:Oper}{a:Act}{Q:Exit->Act->World->Prop}(w:World)(Z:o.guard=none)(s x:Operand)(ho:o.op=.call {callee:=.builtin .append,args:=#[s,x],argTypes:=#[51,51]})(A:Option Addr)(n:Nat)(O ys:List Int)(hs:a.eval s=.slice A n n)(hn:O.length=n)(h0:0<n)(hI:Ints w A n (λk=>O.getD k 0))(ad:Addr)(m c:Nat)(hx:a.eval x=.slice (some ad) m c)(hm:ys.length=m)(aa:0<m)(hc:∀k z,ys[k]? =some z->w.cell? (ad.add k)=some (rI z))(hl:n+m<1099511627776)(h:∀P w',aL w' w.heap.size P (O++ys)->Below w.heap.size w w'->wpList prog M Q I (a.put o.dst P) w'):wpList prog M Q (o::I) a w:=by
 obtain⟨i0,hi,L,S,T⟩:=info_parts oJ;refine wpList_append_grows w Z s x 51 ho 3 i0 (rI 0) 1 8 underlying51 hi L S T rfl rD A n n (O.map (Value.int .i64)) hs ?_ (by rw[Zr];omega) ?_ ad m c (ys.map (Value.int .i64)) hx (by rw[Zr];omega) ?_ ?_ om ?_ ?_ ?_
 .intro e
  obtain⟨R,U,_⟩:=hI h0;rw[U]at e;cases e
 .intro b hb j u B
  rw[Zy]at B;cases F:O[j]? with
  |none=>rw[F]at B;cases B
  |some z=>
   rw[F]at B;simp at B;subst B;obtain⟨R,U,_,J⟩:=hI h0;have e2:=Option.some.inj (hb.symm.trans U);subst e2;have g:=(Zb.1 F).1;have:=J j (hn▸g);simp only[Zk,F,Option.getD_some]at this;exact this
 .intro j u B
  rw[Zy]at B;cases F:ys[j]? with
  |none=>rw[F]at B;cases B
  |some z=>rw[F]at B;simp at B;subst B;exact hc j z F
 .intro u B
  rw[List.mem_map]at B;obtain⟨z,_,rfl⟩:=B;rfl
 .unfold maxLen;omega
 .omega
 .intro P w' h1 h2
  refine h P w' ?_ ?_
  .unfold aL
   rw[Zp,hm,hn,List.map_append];exact h1
  .exact(Below.refl w.heap.size w).grown h2 (Zi _) (λk hk=>nomatch hk)
def mkV(mk:Nat->Bool)(j:Nat):Option Value:=if mk j=true then some (.bool true)else none
theorem SX(mk:Nat->Bool)(k:Nat):FR.upd (mkV mk) k (some (.bool true))=mkV (FR.upd mk k true):=by
 funext j;unfold FR.upd mkV;by_cases h:j=k<;>simp[h]
theorem PX:(λ_=>none:Int->Option Value)=eQ (mkV λ_=>false):=(lY (λ_=>rfl)).symm
structure BQ (g:G) (S:LS) (inn:List Ed) (mk:Nat->Bool) (T:List Int) (n:Nat) (L:List Ed) (j:Nat) (gk:Nat):Prop where
 cor:∀a,mk a=true->g.av a
 ends:∀e∈inn,∀t:Nat,e.to_=t->g.av t->mk t=true\/(t:Int)∈T
 up:∀a b c m,mk a=true->S.eg a b=some (c,m)->S.lev a<S.lev b->mk b=true\/(b:Int)∈T\/(a=n/\∃(i:Nat)(x:Ed),j<=i/\L[i]? =some x/\x.to_=(b:Nat))
 me:T.length+(L.length-j)+300*(257-eO mk 257)<=gk
 len:T.length<=gk
 dn:(∀a,mk a=true->Uc g S inn a)/\(∀t:Nat,(t:Int)∈T->g.av t->Uc g S inn t)/\∀x∈L,mk n=true/\∃(t:Nat)(c:C)(m:Int),x.to_=(t:Nat)/\S.eg n t=some (c,m)
theorem BQ.fin{fin:Nat->Option C}(I:BQ g S inn mk [] n L L.length gk)(J:∀t,fin t≠none->∃e∈inn,e.to_=(t:Nat)):∀b,LS.qG S (λt=>g.av t/\fin t≠none) b->mk b=true:=by
 rintro b ⟨t,c,⟨B,F⟩,u⟩;obtain⟨e,k,M⟩:=J t F;have z:mk t=true:=(I.ends e k t M B).resolve_right rS
 induction u with
 |nil=>exact z
 | @snoc x b d e u k O=>
  obtain⟨P,m,Q⟩:=k;rcases I.up x b _ m O Q P with r|r|⟨_,i,y,U,R,_⟩
  .exact r
  .simp at r
  .have:=(Zb.1 R).1;omega
theorem BQ.start(u:∀e∈inn,e.to_∈T)(k:∀z∈T,∃e∈inn,e.to_=z)(n:Nat):BQ g S inn (λ_=>false) T n [] 0 (T.length+300*257):=
 ⟨λ_ h=>(by cases h),λe F t m _=>.inr (by rw[<-m];exact u e F),λ_ _ _ _ h=>(by cases h),by rw[Aq];simp,om,λ_ h=>(by cases h),λt m B=>⟨t,_,k _ m,B,.nil t⟩,λ_ h=>(by simp at h)⟩
theorem BQ.skip{z:Int}(I:BQ g S inn mk (T++[z]) n L L.length gk)(F:∀t:Nat,z=t->g.av t->mk t=true)(H:I4 g S):BQ g S inn mk T n L L.length (gk-1)/\0<gk:=by
 have J:=I.me;simp only[Zp,List.length_singleton]at J;refine⟨⟨I.cor,λe u t B k=>?_,λa b c m M u O=>?_,om,om,I.dn.1,λt B k=>I.dn.2.1 t (List.mem_append_left _ B) k,I.dn.2.2⟩,om⟩
 .rcases I.ends e u t B k with q|q
  .exact .inl q
  .rcases Zl.1 q with q|q
   .exact .inr q
   .exact .inl (F t (List.mem_singleton.1 q).symm k)
 .rcases I.up a b c m M u O with q|q|q
  .exact .inl q
  .rcases Zl.1 q with q|q
   .exact .inr (.inl q)
   .exact .inl (F b (List.mem_singleton.1 q).symm (H a b (by rw[u];simp)).2.1)
  .exact .inr (.inr q)
theorem BQ.mark{x n gk:Nat}(B:g.ok)(u:I4 g S)(I:BQ g S inn mk (T++[(x:Int)]) n L L.length gk)(J:g.av x)(U:mk x=false):BQ g S inn (FR.upd mk x true) T x (dZ S g.n x) 0 (gk-1)/\0<gk:=by
 have hn:=G.bA B;have M:=I.me;have h2:eO (FR.upd mk x true) 257=eO mk 257+1:=rW (by have:=J.1;omega) U;have h3:=jX (FR.upd mk x true) 257;have h4:=dS S g.n x;have O:=I.len;simp only[Zp,List.length_singleton]at M O
 have keep:∀a,mk a=true->FR.upd mk x true a=true:=λa k=>by
  by_cases e:a=x
  .rw[e];exact upd_same _ _ _
  .rw[upd_ne _ _ e];exact k
 refine⟨⟨λa k=>?_,λe z t F u=>?_,λa b c m k z R=>?_,om,om,λa k=>?_,λt F u=>I.dn.2.1 t (List.mem_append_left _ F) u,λy Z=>?_⟩,om⟩
 .by_cases e:a=x
  .rw[e];exact J
  .rw[upd_ne _ _ e]at k;exact I.cor a k
 .rcases I.ends e z t F u with q|q
  .exact .inl (keep t q)
  .rcases Zl.1 q with q|q
   .exact .inr q
   .have:t=x:=by simp at q;omega
    subst this;exact .inl (upd_same _ _ _)
 .by_cases e:a=x
  .subst e
   have P:=(u a b (by rw[z];simp)).2.1;have:(⟨(b:Nat),c,m⟩:Ed)∈dZ S g.n a:=eH.2 ⟨b,P.1,rfl,z⟩;obtain⟨i,Q⟩:=Zo this;exact .inr (.inr ⟨rfl,i,_,Zw _,Q,rfl⟩)
  .rw[upd_ne _ _ e]at k
   rcases I.up a b c m k z R with q|q|⟨_,i,y,r1,r2,_⟩
   .exact .inl (keep b q)
   .rcases Zl.1 q with q|q
    .exact .inr (.inl q)
    .have:b=x:=by simp at q;omega
     subst this;exact .inl (upd_same _ _ _)
   .have:=(Zb.1 r2).1;omega
 .by_cases e:a=x
  .rw[e];exact I.dn.2.1 x rS J
  .rw[upd_ne _ _ e]at k;exact I.dn.1 a k
 .obtain⟨t,_,q1,q2⟩:=eH.1 Z
  exact⟨upd_same _ _ _,t,_,_,q1,q2⟩
theorem BQ.next{T T':List Int}{n gk j:Nat}(I:BQ g S inn mk T n L j gk){e:Ed}(k:L[j]? =some e)(B:(T'=T++[e.to_]/\∀b:Nat,e.to_=b->S.lev n<S.lev b)\/(T'=T/\∀b:Nat,e.to_=b->¬S.lev n<S.lev b)):BQ g S inn mk T' n L (j+1) gk:=by
 have hj:=(Zb.1 k).1;have h1:=I.me;have h5:=I.len
 have sub:∀z∈T,z∈T':=λz Z=>by
  rcases B with⟨rfl,_⟩|⟨rfl,_⟩
  .exact List.mem_append_left _ Z
  .exact Z
 have U:T'.length<=T.length+1:=by
  rcases B with⟨rfl,_⟩|⟨rfl,_⟩
  .simp
  .omega
 refine⟨I.cor,λe k t J F=>(I.ends e k t J F).imp_right (sub _),λa b c m ha M R=>?_,om,om,I.dn.1,λt J F=>?_,I.dn.2.2⟩;rcases I.up a b c m ha M R with q|q|⟨q,i,y,r1,u,Q⟩
 .exact .inl q
 .exact .inr (.inl (sub _ q))
 .by_cases e1:i=j
  .subst e1
   rw[k]at u;injection u with u;subst u
   rcases B with⟨rfl,_⟩|⟨rfl,O⟩
   .exact .inr (.inl (List.mem_append_right _ (by rw[Q];simp)))
   .subst q;exact absurd R (O b Q)
  .exact .inr (.inr ⟨q,i,y,om,u,Q⟩)
 .rcases B with⟨rfl,P⟩|⟨rfl,_⟩
  .rcases Zl.1 J with q|q
   .exact I.dn.2.1 t q F
   .have q:e.to_=(t:Nat):=(List.mem_singleton.1 q).symm
    obtain⟨k1,t',c,m,k2,k3⟩:=I.dn.2.2 e (Ze k);obtain rfl:t'=t:=om;exact(I.dn.1 n k1).up (P t' q) k3
  .exact I.dn.2.1 t J F
structure qD (inn:List Ed) (k:Nat) (f:Int->Option C):Prop where
 some_:∀z c,f z=some c->∃e∈inn,e.to_=z/\e.c=c
 least:∀(i:Nat)(e:Ed),i<k->inn[i]? =some e->∃c,f e.to_=some c/\C.le c e.c
theorem qD.start(inn:List Ed):qD inn 0 (λ_=>none):=⟨λ_ _ h=>(by cases h),λi e h=>om⟩
def QZ(f:Int->Option C)(z:Int)(c:C):Int->Option C:=λy=>if y=z then some c else f y
def Ih(f:Int->Option C)(z:Int)(c:C):Bool:=match f z with|none=>true|some d=>decide (C.cmp c d<0)
def VQ(f:Int->Option C)(z:Int)(c:C)(t:Bool):Int->Option C:=if t=true then QZ f z c else f
def nZ(f:Int->Option C)(z:Int):Option Value:=(f z).map oD
theorem OX(f:Int->Option C)(z:Int)(c:C):aN (nZ f) z (some (oD c))=nZ (QZ f z c):=by
 funext y;unfold aN nZ QZ;split<;>rfl
theorem qD.step{k:Nat}(h:qD inn k f){e:Ed}(J:inn[k]? =some e):qD inn (k+1) (VQ f e.to_ e.c (Ih f e.to_ e.c)):=by
 have Q:=Ze J;cases u:Ih f e.to_ e.c with
 |false=>
  unfold VQ;rw[if_neg rS];refine⟨h.some_,λi x P m=>?_⟩;by_cases F:i=k
  .subst F
   rw[J]at m;injection m with m;subst m
   unfold Ih at u;cases M:f e.to_ with
   |none=>rw[M]at u;cases u
   |some d=>
    rw[M]at u;simp at u;exact⟨d,rfl,C.yo.1 u⟩
  .exact h.least i x om m
 |true=>
  unfold VQ;rw[if_pos rfl];refine⟨λz c B=>?_,λi x P m=>?_⟩
  .unfold QZ at B
   split at B
   .rename_i q;injection B with B;exact⟨e,Q,q.symm,B⟩
   .exact h.some_ z c B
  .unfold QZ
   by_cases I:x.to_=e.to_
   .rw[if_pos I]
    refine⟨_,rfl,?_⟩;by_cases F:i=k
    .subst F
     rw[J]at m;injection m with m;subst m
     exact C.le_refl _
    .obtain⟨c,O,R⟩:=h.least i x om m
     rw[I]at O;unfold Ih at u;rw[O]at u;simp at u;exact C.le_trans (C.le_of_lt (C.dP.1 u)) R
   .rw[if_neg I]
    by_cases F:i=k
    .subst F
     rw[J]at m;injection m with m;subst m
     exact absurd rfl I
    .exact h.least i x om m
theorem FL{out:List Ed}:∀s c,lM g out s c->g.av s:=λ_ _ h=>h.1
theorem Gx{tp:Nat}{mark:Nat->Bool}{out inn:List Ed}(H:LS.Fin g tp S)(z:g.ok)(I:qD inn inn.length f)(Z:∀b,LS.qG S (λt=>g.av t/\f (t:Nat)≠none) b->mark b=true){c:C}(R:vT (Dr S tp mark (λt=>f (t:Nat))) (lM g out) 256 c):uj g out inn c true:=by
 obtain⟨P,Q⟩:=(LS.FE H (G.bA z) FL Z).1 R;refine⟨(λh=>nomatch h),λ_=>⟨?_,?_⟩⟩
 .obtain⟨s,k,t,d,e,m,_,F,u,rfl⟩:=P
  obtain⟨x,L,B,rfl⟩:=I.some_ _ _ u;exact⟨t,C.add k d,x,⟨s,k,d,m,F,rfl⟩,L,B,rfl⟩
 .rintro x ⟨t,c1,e,⟨s,k,d,m,F,rfl⟩,U,B,rfl⟩
  obtain⟨i,J⟩:=Zo U;obtain⟨O,M,T⟩:=I.least i e (Zb.1 J).1 J;rw[B]at M;exact C.le_trans (Q _ ⟨s,k,t,d,O,m,m.1,F,M,rfl⟩) (C.add_le_add (C.le_refl _) T)
theorem KY{tp:Nat}{mark:Nat->Bool}{out inn:List Ed}(H:LS.Fin g tp S)(k:g.ok)(M:qD inn inn.length f)(O:∀b,LS.qG S (λt=>g.av t/\f (t:Nat)≠none) b->mark b=true)(I:∀d,¬FR.Reach (Dr S tp mark (λt=>f (t:Nat))) (lM g out) 256 d):uj g out inn C.zero false:=by
 refine⟨λ_=>⟨rfl,?_⟩,(λh=>nomatch h)⟩;rintro x ⟨t,U,e,⟨s,F,d,u,Q,rfl⟩,J,P,rfl⟩;obtain⟨i,m⟩:=Zo J;obtain⟨B,z,Z⟩:=M.least i e (Zb.1 m).1 m;rw[P]at z;obtain⟨y,R,_⟩:=LS.IV (src:=lM g out) (fin:=λt=>f (t:Nat)) H (G.bA k) O ⟨s,F,t,d,B,u,u.1,Q,z,rfl⟩;exact I y R
def Vk(lab:Nat->Option C)(bk:Nat->Int)(j:Nat):Option Value:=(lab j).map λ_=>rI (bk j)
theorem RH(lab:Nat->Option C)(bk:Nat->Int)(k:Nat)(c:C)(z:Int):FR.upd (Vk lab bk) k (some (rI z))=Vk (FR.upd lab k (some c)) (FR.upd bk k z):=by
 funext j;unfold FR.upd Vk;split<;>simp_all
structure qh (W w:World) (x l mk me mc mb q:Nat) (gv:Value) (Sh:List Nat) (mkM enM:Int->Option Value) (lab hp:Nat->Option C) (bk:Nat->Int):Prop where
 hx:w.heap[x]? =some (.cells #[vP l,gv,.map (some mk),.map (some me),.map (some mc),.map (some mb),vP q] 246 (0,0))
 mapK:∃n,MapAt iK w mk mkM n
 mapE:∃n,MapAt iK w me enM n
 mapC:∃n,MapAt iK w mc (eQ (eP lab)) n
 mapB:∃n,MapAt iK w mb (eQ (Vk lab bk)) n
 heap:bU w Sh q (bJ hp 257) (rJ hp)
 ne:x≠mc/\x≠mb/\mk≠mc/\mk≠mb/\me≠mc/\me≠mb/\mc≠mb
 dis:x∉Sh/\mk∉Sh/\me∉Sh/\mc∉Sh/\mb∉Sh
 own:W.heap.size<=mc/\W.heap.size<=mb/\∀k∈Sh,W.heap.size<=k
 bel:Below W.heap.size W w
section
variable {hp2:Nat->Option C}
variable {W w w':World} {x l mk me mc mb q:Nat} {gv:Value} {Sh:List Nat} {mkM enM:Int->Option Value} {lab hp:Nat->Option C} {bk:Nat->Int}
theorem qh.below(h:qh W w x l mk me mc mb q gv Sh mkM enM lab hp bk)(g:Below w.heap.size w w'):qh W w' x l mk me mc mb q gv Sh mkM enM lab hp bk:=by
 obtain⟨k,⟨O,m⟩,⟨P,u⟩,⟨Q,z⟩,⟨R,B⟩,M,F,I,J,L⟩:=h;exact⟨(g.block x (Za.1 k).1).trans k,⟨O,m.below g⟩,⟨P,u.below g⟩,⟨Q,z.below g⟩,⟨R,B.below g⟩,M.below g,F,I,J,ae L (g.mono (Zi _))⟩
theorem qh.qp(h:qh W w x l mk me mc mb q gv Sh mkM enM lab hp bk):x<w.heap.size/\mk<w.heap.size/\me<w.heap.size/\mc<w.heap.size/\mb<w.heap.size/\∀k∈Sh,k<w.heap.size:=by
 obtain⟨F,⟨O,g⟩,⟨P,m⟩,⟨Q,u⟩,⟨R,z⟩,B,I,J,L,M⟩:=h;exact⟨(Za.1 F).1,g.lt,m.lt,u.lt,z.lt,B.lt⟩
theorem qh.cells(h:qh W w x l mk me mc mb q gv Sh mkM enM lab hp bk):w.cell? ⟨x,0,none⟩=some (vP l)/\w.cell? ⟨x,1,none⟩=some gv/\w.cell? ⟨x,2,none⟩=some (.map (some mk))/\w.cell? ⟨x,3,none⟩=some (.map (some me))/\w.cell? ⟨x,4,none⟩=some (.map (some mc))/\w.cell? ⟨x,5,none⟩=some (.map (some mb))/\w.cell? ⟨x,6,none⟩=some (vP q):=by
 have:=h.hx;simp[World.cell?,this]
theorem qh.pushed{u:Value}{e:Ending}(h:qh W w x l mk me mc mb q gv Sh mkM enM lab hp bk)(hD:rO w Sh q (bJ hp2 257) (rJ hp2) u e w'):∃z,qh W w' x l mk me mc mb q gv z mkM enM lab hp2 bk/\(∀k∈z,k∈Sh\/w.heap.size<=k)/\Kept Sh w w':=by
 obtain⟨_,z,S,B,m⟩:=hD;obtain⟨Q,l2,l3,l4,l5,_⟩:=h.qp;obtain⟨hx,⟨n1,T⟩,⟨n2,U⟩,⟨n3,Z⟩,⟨n4,h4⟩,hh,h5,⟨J,L,M,O,P⟩,⟨o1,o2,R⟩,F⟩:=h
 have g:∀k,k∉Sh->k<w.heap.size->k∉z:=λk I hl hm=>by
  rcases B k hm with r|r
  .exact I r
  .omega
 refine⟨z,⟨(m.block x Q J).trans hx,⟨n1,T.kept m L⟩,⟨n2,U.kept m M⟩,⟨n3,Z.kept m O⟩,⟨n4,h4.kept m P⟩,S,h5,⟨g _ J Q,g _ L l2,g _ M l3,g _ O l4,g _ P l5⟩,⟨o1,o2,λk I=>?_⟩,Kept.below F m F.size R⟩,B,m⟩;rcases B k I with r|r
 .exact R k r
 .exact Zg F.size r
theorem qh.popped(h:qh W w x l mk me mc mb q gv Sh mkM enM lab hp bk)(Q:bU w' Sh q (bJ hp2 257) (rJ hp2))(g:Kept Sh w w'):qh W w' x l mk me mc mb q gv Sh mkM enM lab hp2 bk:=by
 obtain⟨S,l2,l3,l4,l5,_⟩:=h.qp;obtain⟨R,⟨T,J⟩,⟨U,L⟩,⟨Z,M⟩,⟨n4,O⟩,hh,P,⟨k,m,u,z,B⟩,⟨o1,o2,I⟩,F⟩:=h;exact⟨(g.block x S k).trans R,⟨T,J.kept g m⟩,⟨U,L.kept g u⟩,⟨Z,M.kept g z⟩,⟨n4,O.kept g B⟩,Q,P,⟨k,m,u,z,B⟩,⟨o1,o2,I⟩,Kept.below F g F.size I⟩
theorem qh.laid{w1 w2:World}{b L M:Nat}{cs cd z:Int}(h:qh W w x l mk me mc mb q gv Sh mkM enM lab hp bk)(F:MapAt iK w1 mc (aN (eQ (eP lab)) ((b:Nat):Int) (some (.agg #[rI cs,rI cd]))) L)(g:Kept [mc] w w1)(I:MapAt iK w2 mb (aN (eQ (Vk lab bk)) ((b:Nat):Int) (some (rI z))) M)(m:Kept [mb] w1 w2):qh W w2 x l mk me mc mb q gv Sh mkM enM (FR.upd lab b (some ⟨cs,cd⟩)) hp (FR.upd bk b z):=by
 rw[lZ,show(some (Value.agg #[rI cs,rI cd]):Option Value)=some (oD ⟨cs,cd⟩)from rfl,pG]at F;rw[lZ,RH lab bk b ⟨cs,cd⟩ z]at I;obtain⟨l1,l2,l3,l4,l5,_⟩:=h.qp;have aa:=g.size;obtain⟨hx,⟨L,h1⟩,⟨M,h2⟩,⟨n3,h3⟩,⟨n4,h4⟩,hh,⟨Q,R,S,T,U,Z,e7⟩,⟨d1,d2,d3,O,P⟩,⟨o1,o2,o3⟩,J⟩:=h;refine⟨(m.block x om (by simpa using R)).trans ((g.block x l1 (by simpa using Q)).trans hx),⟨L,(h1.kept g (by simpa using S)).kept m (by simpa using T)⟩,⟨M,(h2.kept g (by simpa using U)).kept m (by simpa using Z)⟩,⟨_,F.kept m (by simpa using e7)⟩,⟨_,I⟩,?_,⟨Q,R,S,T,U,Z,e7⟩,⟨d1,d2,d3,O,P⟩,⟨o1,o2,o3⟩,?_⟩
 .refine(hh.kept g λk u B=>?_).kept m λk u B=>?_
  .simp at B;subst B;exact O u
  .simp at B;subst B;exact P u
 .refine Kept.below (Kept.below J g J.size ?_) m (by have:=J.size;omega) ?_
  .intro k u;simp at u;subst u;exact o1
  .intro k u;simp at u;subst u;exact o2
end
variable {g:G}{S:LS}{L inn:List Ed}{T:List Int}{gk j mm n x:Nat}{mk:Nat->Bool}{A:Option Addr}{tv:Value}{W w w':World}
def mE(W:World)(gf:Nat)(gc:Array Value)(g:G)(h:Nat->C):Prop:=
 (∀(args:Array Value)(w:World),(callFunc gf args).run prog w=.ok (.enter gf args) w)/\∀w,Below W.heap.size W w->∀n:Nat,g.av n->Calls prog gf (#[rI (n:Nat)]++gc) w λe w'=>e=.returned (.agg #[rI (h n).s,rI (h n).d])/\Below w.heap.size w w'
structure Dq (W w:World) (mm:Nat) (mk:Nat->Bool) (tv:Value) (T:List Int):Prop where
 map:∃n,MapAt iK w mm (eQ (mkV mk)) n
 own:aL w W.heap.size tv T
 ne:tv.ownBlock≠some mm
 at_:W.heap.size<=mm
 bel:Below W.heap.size W w
theorem Dq.below(h:Dq W w mm mk tv T)(k:Below w.heap.size w w'):Dq W w' mm mk tv T:=by
 obtain⟨⟨n,m⟩,u,z,B,F⟩:=h;exact⟨⟨n,m.below k⟩,u.below (B':=0) k,z,B,ae F (k.mono (Zi _))⟩
theorem Dq.push{tv m:Value}{T T':List Int}(h:Dq W w mm mk tv T)(Q:aL w' W.heap.size m T')(k:w.grownBy w' tv.ownBlock)(u:m.ownBlock=tv.ownBlock\/m.ownBlock=some w.heap.size):Dq W w' mm mk m T':=by
 obtain⟨⟨n,z⟩,J,B,M,F⟩:=h;have U:=z.lt;have O:Kept tv.ownBlock.toList w w':=⟨k.os,k.tape,k.output,k.size,λq R P=>k.block q R (λe=>P (by rw[<-e];simp))⟩;refine⟨⟨n,z.kept O λI=>B (by rw[Zv]at I;exact I)⟩,Q,λe=>?_,M,below_grown F F.size J k⟩;rcases u with q|q
 .exact B (by rw[<-q];exact e)
 .rw[q]at e;injection e with e;omega
theorem Dq.drop{mm g n m:Nat}{z:Int}(h:Dq W w mm mk (.slice (some ⟨g,0,none⟩) (n+1) m) (T++[z]))(k:T.length=n):Dq W w mm mk (.slice (some ⟨g,0,none⟩) n m) T:=
 ⟨h.map,h.own.drop1 k,h.ne,h.at_,h.bel⟩
theorem Dq.mark{t:Nat}(h:Dq W w mm mk tv T)(F:MapAt iK w' mm (aN (eQ (mkV mk)) ((t:Nat):Int) (some (.bool true))) n)(m:Kept [mm] w w'):Dq W w' mm (FR.upd mk t true) tv T:=by
 rw[lZ,SX]at F;obtain⟨_,I,u,z,B⟩:=h;refine⟨⟨n,F⟩,?_,u,z,Kept.below B m B.size (λk m=>by simp at m;subst m;exact z)⟩;refine World.ownsRow.kept (row:=some mm) I ⟨m.os,m.tape,m.output,m.size,λk J M=>m.block k J (by simpa using λe=>M (by rw[e]))⟩ ?_;cases O:tv.ownBlock with
 |none=>exact .inl rfl
 |some q=>exact .inr (by rw[<-O];exact u)
def Ya(w:World)(g:G)(S:LS)(inn:List Ed)(e:Ending)(w':World):Prop:=∃mm mk,e=.returned (.map (some mm))/\(∃n,MapAt iK w' mm (eQ (mkV mk)) n)/\w.heap.size<=mm/\Below w.heap.size w w'/\
 (∀f:Nat->Option C,(∀t,f t≠none->∃e∈inn,e.to_=(t:Nat))->∀b,LS.qG S (λt=>g.av t/\f t≠none) b->mk b=true)/\∀b,mk b=true->Uc g S inn b
theorem PW(h:MapAt iK w mm (eQ (mkV mk)) n)(z:Int)(u:Bool)(B:(0<=z/\mk z.toNat=true)↔u=true):∀w',Below w.heap.size w w'->(Instr.lookup 225 (.map (some mm)) (rI z) false).run prog w'=.ok (.bool u) w':=λw' F=>by
 have:=((h.below F).look (aF underlying3) underlying225 (uB w') z).2
 have e:((eQ (mkV mk) z).getD (.bool false))=.bool u:=by
  unfold eQ mkV;by_cases k:0<=z
  .rw[if_pos k]
   by_cases m:mk z.toNat=true
   .rw[if_pos m,B.1 ⟨k,m⟩];rfl
   .rw[if_neg m]
    cases u with
    |false=>rfl
    |true=>exact absurd (B.2 rfl).2 m
  .rw[if_neg k]
   cases u with
   |false=>rfl
   |true=>exact absurd (B.2 rfl).1 k
 rw[e]at this;exact this
def Ww(W:World)(mm:Nat)(g:G)(S:LS)(inn:List Ed)(gk:Nat)(tv:Value)(wr:World):Prop:=∃mk T n L,Dq W wr mm mk tv T/\BQ g S inn mk T n L L.length gk
def NJ(W:World)(mm:Nat)(g:G)(S:LS)(inn:List Ed)(mk:Nat->Bool)(x:Nat)(A:Option Addr)(L:List Ed)(gk j:Nat)(tv:Value)(wr:World):Prop:=
 ∃T,Dq W wr mm mk tv T/\BQ g S inn mk T x L j gk/\bP wr A L/\(0<L.length->∀ad,A=some ad->tv.ownBlock≠some ad.block)
theorem NJ.push{tv B:Value}{e:Ed}(Q:Dq W w mm mk tv T)(P:BQ g S inn mk T x L j gk)(J:bP w A L)(I:0<L.length->∀k,A=some k->tv.ownBlock≠some k.block)(R:L[j]? =some e)(F:∀b:Nat,e.to_=b->S.lev x<S.lev b)(ho:aL w' W.heap.size B (T++[e.to_]))(m:w.grownBy w' tv.ownBlock)(u:B.ownBlock=tv.ownBlock\/B.ownBlock=some w.heap.size):NJ W mm g S inn mk x A L gk (j+1) B w':=by
 have U:Kept tv.ownBlock.toList w w':=⟨m.os,m.tape,m.output,m.size,λq hq hn=>m.block q hq (λe=>hn (by rw[<-e];simp))⟩;refine⟨_,Q.push ho m u,P.next R (.inl ⟨rfl,F⟩),λz=>?_,λz k e=>?_⟩
 .exact(J.kept (T:=tv.ownBlock.toList) U (λk e M=>I z k e (by rw[Zv]at M;exact M))) z
 .rcases u with q|q
  .rw[q];exact I z k e
  .rw[q]
   obtain⟨g',O,Z,_⟩:=J z;rw[O]at e;injection e with e;subst e
   simp;omega
theorem NJ.skip{x gk j t:Nat}{e:Ed}(F:Dq W w mm mk tv T)(B:BQ g S inn mk T x L j gk)(z:bP w A L)(u:0<L.length->∀m,A=some m->tv.ownBlock≠some m.block)(I:L[j]? =some e)(M:e.to_=(t:Nat))(k:¬S.lev x<S.lev t):NJ W mm g S inn mk x A L gk (j+1) tv w:=
 ⟨_,F,B.next I (.inr ⟨rfl,λb J=>by obtain rfl:t=b:=om
                                   exact k⟩),z,u⟩
theorem NJ.below(h:NJ W mm g S inn mk x A L gk j tv w)(k:Below w.heap.size w w'):NJ W mm g S inn mk x A L gk j tv w':=by
 obtain⟨T,m,u,z,B⟩:=h;exact⟨T,m.below k,u,z.below k,B⟩
theorem QI(w:World)(b ml me nl:Nat)(Sb:List Nat)(top:Int)(g:G)(S:LS)(bl:g.ok)(hc:I4 g S)(h:dF w b ml me Sb top (bN g S) nl (eZ g S))(A0:Option Addr)(n0 m0:Nat)(inn:List Ed)(hI:uk w A0 inn)(ca:inn.length=n0)(cy:n0<=1000):Calls prog 144 #[vP b,.slice A0 n0 m0] w (Ya w g S inn):=by
 have hn:=G.bA bl;have ao:=@run_makeMap prog;have H:=hid h;have Hc:=hid (rN hc bl);have HI:=hid hI;have Hn:=hid (rN hn ca);clear h hc bl hI hn ca;go_enter func144,ntmps144;go_upto_region 2 with(fail);refine aB ?_;intro W1 bd;have bt:Below w.heap.size w W1:=by rw[bd];exact be
 have a9:MapAt iK W1 w.heap.size (λ_=>none) 0:=by rw[bd];exact MapAt.made w
 obtain⟨mm,cr⟩:=rX w.heap.size;rw[cr]at a9⊢;have bz:Dq w W1 mm (λ_=>false) (.slice none 0 0) []:=⟨⟨0,by rw[<-PX];exact a9⟩,aL.nil _ _,λe=>(nomatch e),om,bt⟩;clear bd ao a9 bt;go_wp2_with fail;go_loopw [6,21] (λtv kv wr=>∃i:Nat,kv=rI i/\i<=n0/\Dq w wr mm (λ_=>false) tv ((inn.take i).map Ed.to_)) (λ_ kv _=>n0-(intOf kv).toNat)
 case atStart=>exact⟨0,rfl,om,bz⟩
 case round=>
  obtain⟨i,rfl,hi,F⟩:=hrel;clear bz;by_cases R:i<n0
  .obtain⟨e,he⟩:∃e,inn[i]? =some e:=⟨inn[i]'(by rw[Hn.out.2];exact R),Zc _⟩
   obtain⟨gb,ob,hA,a1,a2,a3,a4⟩:=(HI.out.below F.bel).get he;have bj:=λwx=>Vx (m:=m0) hA R wx
   have aq:(inn.take (i+1)).map Ed.to_=(inn.take i).map Ed.to_++[e.to_]:=by
    obtain⟨q1,q2⟩:=Zb.1 he;rw[Zt q1,List.map_append,q2];rfl
   have b6:((inn.take i).map Ed.to_).length<=1000:=by rw[Zr,List.length_take];omega
   obtain⟨T,hT⟩:=rX ((inn.take i).map Ed.to_);rw[hT]at F aq b6;obtain⟨x,hx⟩:=rX e.to_;rw[hx]at a1 aq;obtain⟨xs,ck⟩:=rX e.c.s;obtain⟨xd,ci⟩:=rX e.c.d;obtain⟨xm,cj⟩:=rX e.mid;rw[ck]at a2;rw[ci]at a3;rw[cj]at a4;have cm:=hid aq;have P:=hid F;have cG:=F.bel.size;clear hA he hx ck ci cj aq hT F;go_upto_region 6 with(fail);refine aB ?_;intro W2 bg;have a5:Below wr.heap.size wr W2:=by rw[bg];exact be
   have o0:W2.cell? ⟨wr.heap.size,0,none⟩=some (rI x):=by rw[bg];go_simp
   obtain⟨b8,b2⟩:=rX wr.heap.size;have aE:=hid (P.out.below a5);have cF:=a5.size;rw[b2]at o0⊢;clear bg a5 P a1 a2 a3 a4 bj b2;go_wp2_with (at_builtin;(refine dI _ rfl _ _ rfl w.heap.size _ T x rfl (aE.out.own.alloc _) ⟨W2.heap.size,0,none⟩ rfl (dh _ _ _) om so ?_);intro v' w9 M J ac)
   have u:=(aE.out.below (ah br)).push M J ac;rw[<-cm.out]at u;have u:=hid u;clear M J ac aE o0;go_wp2;go_roundw
   case rel=>refine rR ?_;exact⟨i+1,by go_num,om,u.out⟩
   case measure=>exact rM
  .obtain rfl:i=n0:=om
   rw[List.take_of_length_le (by rw[Hn.out.2];exact Zi _)]at F;have a8:=BQ.start (g:=g) (S:=S) (inn:=inn) (T:=inn.map Ed.to_) (λe he=>List.mem_map_of_mem he) (λz hz=>by obtain⟨e,h1,h2⟩:=List.mem_map.1 hz;exact⟨e,h1,h2⟩) 0;obtain⟨G0,a7⟩:=rX ((inn.map Ed.to_).length+300*257);have bw:G0<=80000:=by rw[<-a7,Zr,Hn.out.2];omega
   rw[a7]at a8;have cd:Ww w mm g S inn G0 u6 wr:=⟨_,_,0,[],F,a8⟩;clear F a8 a7;go_wp2_with fail;go_loopg [6] G0 (λgk tv wr=>gk<=80000/\Ww w mm g S inn gk tv wr)
   case atStart=>exact⟨bw,cd⟩
   case round=>
    obtain⟨cw,mk,T,n,L,F,hM⟩:=hrel;clear cd;by_cases bc:T.length=0
    .have hT:T=[]:=List.length_eq_zero_iff.1 bc
     subst hT
     obtain⟨A6,m6,ar⟩:∃A m,u6=.slice A 0 m:=by
      obtain⟨A,m,e,_⟩:=F.own.ints;exact⟨A,m,e⟩
     subst ar;obtain⟨nm,ao⟩:=F.map;have u:Ya w g S inn (.returned (.map (some mm))) wr:=⟨mm,mk,rfl,⟨nm,ao⟩,F.at_,F.bel,λf hf=>BQ.fin hM hf,hM.dn.1⟩;have u:=hid u;clear F hM ao;go_wp2;go_ret;exact u.out
    .obtain⟨T',z,co⟩:∃T' z,T=T'++[z]:=⟨T.dropLast,T.getLast (by rintro rfl;exact bc rfl),(List.dropLast_concat_getLast _).symm⟩
     subst co;obtain⟨g6,m6,ar,cq⟩:=F.own.addr rS;obtain⟨k,hk⟩:=rX T'.length;have hl:(T'++[z]).length=k+1:=by simp[hk]
     rw[hl]at ar cq;subst ar;have c6:wr.cell? ⟨g6,k,none⟩=some (rI z):=F.own.cell (by rw[<-hk];simp);have cx:k<=80000:=by have:=hM.len;rw[hl]at this;omega
     have bx:=F.drop hk;have cn:=hM;have P:=hid (rN bx hk);have HM:=hid hM;have cA:k<m6:=om;have cB:k<=m6:=om;have bi:=F.bel;clear F hM bx cn hk hl bc;by_cases U:∃t:Nat,z=t/\g.av t
     .obtain⟨t,rfl,am⟩:=U
      have B:=gq (g:=g) (S:=S) am;obtain⟨lt,R⟩:=rX (S.lev t);rw[R]at B;have cV:=hid (jN wr b ml me nl Sb top (bN g S) (eZ g S) (H.out.below bi) (t:Nat) _ B);have cE:=hid (λw'(hb:Below w.heap.size w w')=>wO w' b ml me nl Sb top (bN g S) (eZ g S) (H.out.below hb) (t:Nat) _ B (dZ S g.n t) (fM am) (by have:=dS S g.n t;have:=Hn.out.1;omega));have a6:=hid (rN am R);obtain⟨nM,ab⟩:=P.out.1.map;obtain⟨mt,bk⟩:=rX (mk t);have cp:=PW ab ((t:Nat):Int) mt (by rw[<-bk];simp) wr br;have bv:=hid bk;have ab:=hid ab;clear B am R bk;go_wp2_with fail;(with_reducible refine cV.out.mono ?_);rintro e w' ⟨rfl,rfl⟩;clear cV;cases mt with
      |true=>
       obtain⟨Q,aa⟩:=HM.out.skip (λt' ht hc=>by obtain rfl:t=t':=om
                                                exact bv.out) Hc.out.1
       have u:gk-1<=80000/\Ww w mm g S inn (gk-1) (.slice (some ⟨g6,0,none⟩) k m6) wr:=⟨om,_,_,n,L,P.out.1,Q⟩;have u:=hid u;clear Q HM P ab;go_wp2;go_roundg (gk-1)
       case measure=>omega
       case rel=>exact u.out
      |false=>
       obtain⟨Q,aa⟩:=HM.out.mark Hc.out.2 Hc.out.1 a6.out.1 bv.out;have bq:=hid Q;clear Q HM;go_wp2_with (refine bV rfl _ _ _ rfl (aF underlying3) underlying225 ab.out rfl ((t:Nat):Int) rfl (.bool true) rfl ?_;intro w4 b9 b5);have bb:=P.out.1.mark b9 b5;have aS:=hid (rN bb P.out.2);have b0:=bb.bel;clear bb P b9 b5 ab cp c6 bi;go_wp2_with fail;(with_reducible refine(cE.out _ b0).mono ?_);rintro e w5 ⟨vE,rfl,ba,b1⟩;obtain⟨A1,m1,rfl,O⟩:=ba.yI
       have hA1:0<(dZ S g.n t).length->∀ad,A1=some ad->(Value.slice (some ⟨g6,0,none⟩) k m6).ownBlock≠some ad.block:=λaa ad e hm=>by
        obtain⟨g',e1,_,_⟩:=O aa;rw[e1]at e;injection e with e;subst e
        have R:=(World.ownsRow.lt ba g' (by rw[e1];rfl)).1;have Z:=(World.ownsRow.lt aS.out.1.own g6 rfl).2;injection hm with hm
        simp only at hm;omega
       obtain⟨bo,ay⟩:=rX (FR.upd mk t true);obtain⟨LE,al⟩:=rX (dZ S g.n t);have a0:=aS.out.1.below b1;have ag:=bq.out;rw[ay]at a0 ag;rw[al]at ag O hA1⊢;obtain⟨nL,ap⟩:=rX LE.length;have cl:nL<=256:=by have:=dS S g.n t;rw[al,ap]at this;exact Zg this Hn.out.1
       have b4:NJ w mm g S inn bo t A1 LE (gk-1) 0 (.slice (some ⟨g6,0,none⟩) k m6) w5:=⟨T',a0,ag,O,hA1⟩;rw[ap];have HL:=hid (rN al ap);clear ba O hA1 ay al ap aS a0 bq ag cE b1 b0;go_wp2_with fail;go_loopw [6,68] (λtv kv wr=>∃j:Nat,kv=rI j/\j<=nL/\NJ w mm g S inn bo t A1 LE (gk-1) j tv wr) (λ_ kv _=>nL-(intOf kv).toNat)
       case atStart=>exact⟨0,rfl,om,b4⟩
       case round=>
        obtain⟨j,rfl,hj,T,F,hM,O,hA1⟩:=hrel;clear b4;by_cases b7:j<nL
        .obtain⟨e,he⟩:∃e,LE[j]? =some e:=⟨LE[j]'(by rw[HL.out.2];exact b7),Zc _⟩
         obtain⟨t2,cD,ce,bm⟩:=eH.1 (by rw[HL.out.1];exact Ze he:e∈dZ S g.n t);obtain⟨gb,hA,a1,a2,a3,a4⟩:=O.get he;have bj:=λwx=>gZ (m:=m1) hA b7 wx;obtain⟨xt,⟨xs,xd⟩,xm⟩:=e;simp only at a1 a2 a3 a4 ce bm;subst ce;have ax:=(Hc.out.1 t t2 (by rw[bm];simp)).2.1;have B:=gq (g:=g) (S:=S) ax;obtain⟨cs,Z⟩:=rX (S.lev t2);rw[Z]at B;have P:=hid (rN F (rN hM (rN O hA1)));have He:=hid (rN he Z);have cv:T.length<=80000:=by have:=hM.len;omega
         have b3:=F.bel;clear hA he bm ax Z F hM O hA1;go_upto_region 18 with(fail);refine aB ?_;intro W6 bh;have ai:Below wr.heap.size wr W6:=by rw[bh];exact be
         have o0:W6.cell? ⟨wr.heap.size,0,none⟩=some (rI (t2:Nat)):=by rw[bh];go_simp
         obtain⟨ct,aw⟩:=rX wr.heap.size;have bp:=ae b3 ai;have I:=hid (rN (P.out.1.below ai) (rN P.out.2.1 (rN (P.out.2.2.1.below ai) P.out.2.2.2)));have cV:=hid (jN W6 b ml me nl Sb top (bN g S) (eZ g S) (H.out.below bp) (t2:Nat) _ B);rw[aw]at o0⊢;have cC:=bp.size;clear bh ai P a1 a2 a3 a4 bj aw B b3;go_wp2_with fail;(with_reducible refine cV.out.mono ?_);rintro e w' ⟨rfl,rfl⟩;clear cV;by_cases cg:lt<cs
         .go_wp2_with (at_builtin;(refine dI _ rfl _ _ rfl w.heap.size _ T ((t2:Nat):Int) rfl (I.out.1.own.alloc _) ⟨W6.heap.size,0,none⟩ rfl (dh _ _ _) om so ?_);intro v' w9 M J ac)
          have hd:=ah (Below.refl W6.heap.size W6) (o:=.cells #[rI (t2:Nat)] 3);have ch:S.lev t<S.lev t2:=by rw[a6.out.2,He.out.2];exact cg
          have u:=NJ.push (I.out.1.below hd) I.out.2.1 (I.out.2.2.1.below hd) I.out.2.2.2 He.out.1 (λq hq=>(Int.ofNat_inj.1 hq)▸ch) M J ac;have u:=hid u;clear M J ac I o0 hd;go_wp2;go_roundw
          case rel=>refine rR ?_;exact⟨j+1,by go_num,om,u.out⟩
          case measure=>exact rM
         .have u:=NJ.skip I.out.1 I.out.2.1 I.out.2.2.1 I.out.2.2.2 He.out.1 rfl (by rw[a6.out.2,He.out.2];exact cg)
          have u:=hid u;clear I o0;go_wp2;go_roundw
          case rel=>refine rR ?_;exact⟨j+1,by go_num,om,u.out.below (be)⟩
          case measure=>exact rM
        .obtain rfl:j=nL:=om
         have u:gk-1<=80000/\Ww w mm g S inn (gk-1) u6 wr:=⟨om,bo,T,t,LE,F,by rw[HL.out.2];exact hM⟩;have u:=hid u;clear F hM O hA1;go_wp2;go_roundg (gk-1)
         case measure=>omega
         case rel=>exact u.out
     .have cb:¬(0<=z/\g.av z.toNat):=λ⟨h1,h2⟩=>U ⟨z.toNat,om,h2⟩
      have cV:=hid (wQ wr b ml me nl Sb top (bN g S) (eZ g S) (H.out.below bi) z (pJ cb));obtain⟨Q,aa⟩:=HM.out.skip (λt ht hc=>absurd ⟨t,ht,hc⟩ U) Hc.out.1;have u:gk-1<=80000/\Ww w mm g S inn (gk-1) (.slice (some ⟨g6,0,none⟩) k m6) wr:=⟨om,_,_,n,L,P.out.1,Q⟩;have u:=hid u;clear Q HM U cb P;go_wp2_with fail;(with_reducible refine cV.out.mono ?_);rintro e w' ⟨rfl,rfl⟩;clear cV;go_wp2;go_roundg (gk-1)
      case measure=>omega
      case rel=>exact u.out
def WG(W w:World)(x l mk me mc mb q:Nat)(gv:Value)(Sh:List Nat)(mkM enM:Int->Option Value)(lab hp:Nat->Option C)(bk:Nat->Int)(e:Ending)(w':World):Prop:=
 e=.returned (.tuple #[])/\∃S',qh W w' x l mk me mc mb q gv S' mkM enM lab hp bk/\(∀k∈S',k∈Sh\/w.heap.size<=k)/\Kept (mc::mb::Sh) w w'
theorem WG.out{x l mk me mc mb q:Nat}{gv:Value}{Sh:List Nat}{mkM enM:Int->Option Value}{lab hp:Nat->Option C}{bk:Nat->Int}{e:Ending}(h:WG W w x l mk me mc mb q gv Sh mkM enM lab hp bk e w'):∃k,qh W w' x l mk me mc mb q gv k mkM enM lab hp bk/\Kept (mc::mb::Sh) w w'/\∀b,b<w.heap.size->b∉mc::mb::Sh->b∉mc::mb::k:=by
 obtain⟨_,k,z,B,F⟩:=h;refine⟨k,z,F,λb I m u=>?_⟩;simp only[Zd,not_or]at m u;rcases u with r|r|r
 .exact m.1 r
 .exact m.2.1 r
 .rcases B b r with r|r
  .exact m.2.2 r
  .omega
theorem Dh(W w:World)(x l mk me mc mb q gf:Nat)(gc:Array Value)(Sh:List Nat)(mkM enM:Int->Option Value)(lab hp:Nat->Option C)(bk:Nat->Int)(g:G)(h:Nat->C)(cN:g.ok)(hS:qh W w x l mk me mc mb q (.func (.func gf) #[] gc) Sh mkM enM lab hp bk)(hg:mE W gf gc g h)(a8:h 256=C.zero)(a6:∀j,g.av j->0<=(h j).s/\(h j).s<=1000/\0<=(h j).d/\(h j).d<=1000)(b:Nat)(hb:g.av b\/b=256)(bi:Int)(cJ:bi=(b:Nat))(z cs cd:Int)(hc:0<=cs/\cs<=20000000/\0<=cd/\cd<=20000000)(tb:Bool)(cB:lower? lab b ⟨cs,cd⟩=tb)(bg:∀d,lab b=some d->0<=d.s/\d.s<=20000000/\0<=d.d/\d.d<=20000000)(m:tb=true->lower? hp b (C.add ⟨cs,cd⟩ (h b))=true):Calls prog 148 #[vP x,rI bi,rI z,.agg #[rI cs,rI cd]] w (WG W w x l mk me mc mb q (.func (.func gf) #[] gc) Sh mkM enM (pushed lab b ⟨cs,cd⟩ tb) (pushed hp b (C.add ⟨cs,cd⟩ (h b)) tb) (if tb=true then FR.upd bk b z else bk)):=by
 subst cJ;have hn:=G.bA cN;have bt:b<257:=hb.elim (λr=>by have:=r.1;omega) (λr=>om);obtain⟨k0,k1,_,_,k4,k5,k6⟩:=hS.cells;obtain⟨l1,l2,l3,l4,l5,l6⟩:=hS.qp;obtain⟨nC,ao⟩:=hS.mapC;have b3:=hid ao;have HS:=hid hS;have Hg:=hid hg;have cF:=hid a6;have cb:=hid m;have a7:=hid a8;have ca:=hid bg;have Hb:=hid hb;have cr:=hid l6;have ce:=hid cB;have bb:aT cs/\aT cd:=by unfold aT;omega
 clear ao hS hg a6 m a8 bg hb l6 cB;go_enter func148,ntmps148;go_upto_region 1 with(fail);refine aB ?_;intro W1 a3;have Q:Below w.heap.size w W1:=by rw[a3];exact be
 have L:W1.cell? ⟨w.heap.size,0,none⟩=some (rI cs):=by rw[a3];go_simp
 have T:W1.cell? ⟨w.heap.size,1,none⟩=some (rI cd):=by rw[a3];go_simp
 obtain⟨F,cI⟩:=rX w.heap.size;have k0:=af Q k0;have k1:=af Q k1;have k4:=af Q k4;have k5:=af Q k5;have k6:=af Q k6;have b4:=hid (HS.out.below Q);have al:=b3.out.below Q;rw[cI]at L T⊢;have cU:F<W1.heap.size:=ZF _ _ L;clear a3 b3
 obtain⟨vs,vd,is,cM,bc,bd⟩:∃vs vd is,(Instr.lookup 242 (.map (some mc)) (rI ((b:Nat):Int)) true).run prog W1=.ok (.tuple #[.agg #[rI vs,rI vd],.bool is]) W1/\(is=true->lab b=some ⟨vs,vd⟩)/\(is=false->lab b=none):=by
  cases ct:lab b with
  |none=>exact⟨0,0,false,jl al (by rw[fF];unfold eP;rw[ct];rfl),(λh=>nomatch h),λ_=>rfl⟩
  |some d=>exact⟨d.s,d.d,true,j5 al (by rw[fF];unfold eP;rw[ct];rfl),λ_=>rfl,(λh=>nomatch h)⟩
 have b9:=hid (rN bc bd);clear bc bd al;go_upto_region 2 with(fail);refine aB ?_;intro W2 a4;have I:Below W1.heap.size W1 W2:=by rw[a4];exact be
 have d0:W2.cell? ⟨W1.heap.size,0,none⟩=some (rI vs):=by rw[a4];go_simp
 have d1:W2.cell? ⟨W1.heap.size,1,none⟩=some (rI vd):=by rw[a4];go_simp
 obtain⟨b8,ck⟩:=rX W1.heap.size;have k0:=af I k0;have k1:=af I k1;have k4:=af I k4;have k5:=af I k5;have k6:=af I k6;have L:=af I L;have T:=af I T;have b5:=hid (b4.out.below I);have b1:=ae Q I;rw[ck]at d0 d1⊢;clear a4 Q I b4 cM ck;go_cut [26] (λs wx=>s=.bool (!tb)/\Below W2.heap.size W2 wx)
 case first=>
  cases is with
  |false=>
   have e:=ce.out;unfold lower? at e;rw[b9.out.2 rfl]at e;subst e;go_wp2;go_meet
   case rel=>exact⟨rfl,be⟩
  |true=>
   have e:=ce.out;have O:=b9.out.1 rfl;unfold lower? at e;rw[O]at e;have cm:=ca.out _ O;simp only at e cm;have ax:aT vs/\aT vd:=by unfold aT;omega
   have cC:=hid (rZ cs cd vs vd W2 bb.1 bb.2 ax.1 ax.2);rw[e]at cC;clear O cm ax e;go_wp2_with fail;(with_reducible refine cC.out.mono ?_);rintro e w3 ⟨rfl,cH⟩;go_wp2;go_meet
   case rel=>exact⟨rfl,cH⟩
 case rest=>
  obtain⟨rfl,M⟩:=hcut;have k0:=af M k0;have k1:=af M k1;have k4:=af M k4;have k5:=af M k5;have k6:=af M k6;have L:=af M L;have T:=af M T;have bl:=hid (b5.out.below M);have bj:=ae b1 M;clear b5 b1 M d0 d1;cases tb with
  |false=>
   go_wp2;go_end0;exact⟨rfl,Sh,bl.out,λk hk=>.inl hk,Kept.of_below bj⟩
  |true=>
   have Z:=bl.out.below (aj (Below.refl wc.heap.size wc));obtain⟨nC,ao⟩:=Z.mapC;obtain⟨nB,ch⟩:=Z.mapB;have cy:=Z.ne;have ba:=Z.dis;have cv:=Z.qp;have a0:=hid (rN cy (rN ba cv));have b6:=hid Z;clear Z bl cy ba cv;obtain⟨w4,u4,cV,cO,cw,cn,ac⟩:=ao.entry (aF underlying3) underlying242 jr ((b:Nat):Int);obtain⟨w5,cQ,bw,ad⟩:=cw.lay (mt:=242) (aF (P:=prog) underlying3) cn (.agg #[rI cs,rI cd]);have a1:=ac.trans ad;obtain⟨w6,u6,cW,cR,cx,co,ag⟩:=(ch.kept a1 (by simpa using a0.out.1.2.2.2.2.2.2.symm)).entry (aF underlying3) underlying129 sO ((b:Nat):Int);obtain⟨S,cS,bx,ai⟩:=cx.lay (mt:=129) (aF (P:=prog) underlying3) co (rI z);have bp:=ag.trans ai;have O:=aj (Below.refl wc.heap.size wc);have aw:F∉[mc]:=so;have ar:F∉[mb]:=so;have aE:x∉[mc]:=by simpa using a0.out.1.1
   have ay:x∉[mb]:=by simpa using a0.out.1.2.1
   have q0:wc.drew.cell? ⟨x,4,none⟩=some (.map (some mc))/\wc.drew.cell? ⟨x,5,none⟩=some (.map (some mb))/\wc.drew.cell? ⟨F,0,none⟩=some (rI cs)/\wc.drew.cell? ⟨F,1,none⟩=some (rI cd):=⟨af O k4,af O k5,af O L,af O T⟩;have q4:w4.cell? ⟨x,4,none⟩=some (.map (some mc))/\w4.cell? ⟨x,5,none⟩=some (.map (some mb))/\w4.cell? ⟨F,0,none⟩=some (rI cs)/\w4.cell? ⟨F,1,none⟩=some (rI cd):=⟨aZ ac aE q0.1,aZ ac aE q0.2.1,aZ ac aw q0.2.2.1,aZ ac aw q0.2.2.2⟩;have q5:w5.cell? ⟨x,4,none⟩=some (.map (some mc))/\w5.cell? ⟨x,5,none⟩=some (.map (some mb))/\w5.cell? ⟨F,0,none⟩=some (rI cs)/\w5.cell? ⟨F,1,none⟩=some (rI cd):=⟨aZ ad aE q4.1,aZ ad aE q4.2.1,aZ ad aw q4.2.2.1,aZ ad aw q4.2.2.2⟩;have q6:w6.cell? ⟨x,4,none⟩=some (.map (some mc))/\w6.cell? ⟨x,5,none⟩=some (.map (some mb))/\w6.cell? ⟨F,0,none⟩=some (rI cs)/\w6.cell? ⟨F,1,none⟩=some (rI cd):=⟨aZ ag ay q5.1,aZ ag ay q5.2.1,aZ ag ar q5.2.2.1,aZ ag ar q5.2.2.2⟩
   have q7:S.cell? ⟨x,4,none⟩=some (.map (some mc))/\S.cell? ⟨x,5,none⟩=some (.map (some mb))/\S.cell? ⟨F,0,none⟩=some (rI cs)/\S.cell? ⟨F,1,none⟩=some (rI cd):=⟨aZ ai ay q6.1,aZ ai ay q6.2.1,aZ ai ar q6.2.2.1,aZ ai ar q6.2.2.2⟩;rw[Q0]at bw bx;have a2:=b6.out.laid bw a1 bx bp;have cg:Kept (mc::mb::Sh) w S:=((Kept.of_below (ae bj O)).trans (a1.wid rS)).trans (bp.wid rS);have k1:=a2.cells.2.1;have k6:=a2.cells.2.2.2.2.2.2;have am:=hid (rN a2 cg);clear cw cn ac bw ad cx co ag bx ai a2 cg a1 bp O aw ar aE ay ao ch b6 bj L T k0;go_upto_region 3 with(fail)
   go_region_held3 (λw'=>w'.cell? ⟨x,4,none⟩=some (.map (some mc))/\w'.cell? ⟨x,5,none⟩=some (.map (some mb))/\w'.cell? ⟨F,0,none⟩=some (rI cs)/\w'.cell? ⟨F,1,none⟩=some (rI cd))
    (first
     |exact q0
     |exact q4
     |exact q5
     |exact q6
     |exact q7)
    (fail)
   obtain⟨_,_,L,T⟩:=q7;clear cO cQ cR cS q0 q4 q5 q6 k4 k5;obtain⟨⟨hs,O⟩,bv⟩:=rX (h b);have Hh:=hid bv;have hh:=bv;clear bv;obtain⟨tn,cD⟩:∃t,(((b:Nat):Int)!= 256)=t:=⟨_,rfl⟩;go_upto_if 45 with(fail)
   refine aB ?_;intro W8 aa;have aS:Below S.heap.size S W8:=by rw[aa];exact be
   have e0:W8.cell? ⟨S.heap.size,0,none⟩=some (rI 0):=by rw[aa];go_simp
   have e1:W8.cell? ⟨S.heap.size,1,none⟩=some (rI 0):=by rw[aa];go_simp
   have f0:W8.frozen? ⟨S.heap.size,0,none⟩=false:=by rw[aa];go_simp
   have f1:W8.frozen? ⟨S.heap.size,1,none⟩=false:=by rw[aa];go_simp
   have k1:=af aS k1;have bo:=hid cD;clear aa cD;obtain⟨B,cj⟩:=rX S.heap.size;rw[cj]at e0 e1 f0 f1⊢;go_cut [] (λwx=>wx.cell? ⟨B,0,none⟩=some (rI hs)/\wx.cell? ⟨B,1,none⟩=some (rI O)/\Below S.heap.size S wx)
   case first=>
    cases tn with
    |false=>
     have hz:(⟨hs,O⟩:C)=C.zero:=by
      have hb:b=256:=by have:=bne_eq_false_iff_eq.1 bo.out;omega
      rw[<-hh,hb];exact a7.out
     injection hz with bz b0
     subst bz;subst b0;clear hh Hh k1 f0 f1;go_wp2;go_meet
     case rel=>exact⟨e0,e1,aS⟩
    |true=>
     have cl:b≠256:=by have:=bne_iff_ne.1 bo.out;omega
     have cL:=Hg.out.1;have cG:=Hg.out.2 W8 (ae am.out.1.bel aS) b (Hb.out.resolve_right cl);rw[hh]at cG;simp only at cG;have cG:=hid cG;clear hh cl;go_wp2_with fail;(with_reducible refine cG.out.mono ?_);rintro e w9 ⟨rfl,aq⟩;have bh:B<W8.heap.size:=ZF _ _ e0;have e0:=af aq e0;have e1:=af aq e1;have f0:=(aq.frozen (p:=⟨B,0,none⟩) bh).trans f0;have f1:=(aq.frozen (p:=⟨B,1,none⟩) bh).trans f1;have cE:=ae aS aq;clear cG cL k1;go_wp2;go_meet
     case rel=>
      refine⟨?_,?_,(cE.setCell so _).setCell so _⟩
      .go_simp
      .go_simp
   case rest=>
    obtain⟨e0,e1,ab⟩:=hcut;have bm:=hid (am.out.1.below ab);have L:=af ab L;have T:=af ab T;have k6:=af ab k6
    have a6:0<=hs/\hs<=1000/\0<=O/\O<=1000:=by
     rcases Hb.out with r|r
     .have:=cF.out b r;rw[hh]at this;exact this
     .have hz:=a7.out
      rw[<-r,hh]at hz;injection hz with bz b0
      subst bz;subst b0;omega
    have bq:=am.out.2.trans (Kept.of_below ab);have m:=cb.out rfl;rw[hh]at m;have m:lower? hp b ⟨cs+hs,cd+O⟩=true:=m;have cA:=hid (λw=>pE cs cd hs O w (by unfold aT;omega) (by unfold aT;omega) (by unfold aT;omega) (by unfold aT;omega));have cP:=hid (λw' h'=>uN w' Sh q 257 hp b (cs+hs) (cd+O) true h' bt om ⟨by unfold aT;simp only;omega,by unfold aT;simp only;omega⟩ m);have cT:x∉Sh:=a0.out.2.1.1;have a9:F∉Sh:=λhm=>by have:=cr.out _ hm;omega
    have ap:B∉Sh:=λhm=>by have:=cr.out _ hm;have:=bq.size;have:=am.out.2.size;omega
    have b2:=hid bq;clear am k1 f0 f1 ab a6 m bq hh bo;go_upto_region 7 with(fail)
    go_region_held3 (λw'=>w'.cell? ⟨x,6,none⟩=some (vP q)/\w'.cell? ⟨F,0,none⟩=some (rI cs)/\w'.cell? ⟨F,1,none⟩=some (rI cd)/\w'.cell? ⟨B,0,none⟩=some (rI hs)/\w'.cell? ⟨B,1,none⟩=some (rI O))
     (first
      |exact⟨k6,L,T,e0,e1⟩
      |exact U
      |exact ci)
     ((first
      |(go_at_call 97
        refine(cA.out _).mono ?_;rintro e wA ⟨rfl,J⟩;have U:wA.cell? ⟨x,6,none⟩=some (vP q)/\wA.cell? ⟨F,0,none⟩=some (rI cs)/\wA.cell? ⟨F,1,none⟩=some (rI cd)/\wA.cell? ⟨B,0,none⟩=some (rI hs)/\wA.cell? ⟨B,1,none⟩=some (rI O):=⟨af (w:=wc.drew) J k6,af (w:=wc.drew) J L,af (w:=wc.drew) J T,af (w:=wc.drew) J e0,af (w:=wc.drew) J e1⟩)
      |(go_at_call 191
        refine(cP.out _ ((bm.out.below (aj br)).below J).heap).mono ?_;rintro e wh ⟨rfl,S1,cp,cq,R⟩;have ci:wh.cell? ⟨x,6,none⟩=some (vP q)/\wh.cell? ⟨F,0,none⟩=some (rI cs)/\wh.cell? ⟨F,1,none⟩=some (rI cd)/\wh.cell? ⟨B,0,none⟩=some (rI hs)/\wh.cell? ⟨B,1,none⟩=some (rI O):=⟨aZ R cT U.1,aZ R a9 U.2.1,aZ R a9 U.2.2.1,aZ R ap U.2.2.2.1,aZ R ap U.2.2.2.2⟩)))
    all_goals
     have a5:=aj (Below.refl wc.heap.size wc);obtain⟨S2,r1,r2,r3⟩:=qh.pushed ((bm.out.below a5).below J) (u:=.bool true) (e:=.returned (.bool true)) (⟨rfl,S1,cp,cq,R⟩:rO wA Sh q _ _ _ _ wh)
     have hF:WG W w x l mk me mc mb q (.func (.func gf) #[] gc) Sh mkM enM (pushed lab b ⟨cs,cd⟩ true) (pushed hp b (C.add ⟨cs,cd⟩ (h b)) true) (if true=true then FR.upd bk b z else bk) (.returned (.tuple #[])) wh:=by
      refine⟨rfl,S2,?_,λk hk=>?_,?_⟩
      .rw[Hh.out];exact r1
      .rcases r2 k hk with r|r
       .exact .inl r
       .right
        have:=b2.out.size;have:=a5.size;have:=J.size;omega
      .exact((b2.out.trans (Kept.of_below a5)).trans (Kept.of_below J)).trans (r3.wid (by simp;intro k hk;exact .inr (.inr hk)))
     have hF:=hid hF;clear cA cP bm e0 e1 L T k6 r1 r2 r3 cp cq R a5 J U ci;go_wp2;go_end0;exact hF.out
abbrev zQ(f:Int->Option C):Nat->Option C:=λt=>f (t:Nat)
def Ru(V0:Cb)(W:World)(x l mk me mc mb q:Nat)(gv:Value)(g:G)(tp:Nat)(S:LS)(mkB:Nat->Bool)(f:Int->Option C)(out:List Ed)(h:Nat->C)(n:Nat)(cs cd:Int)(b4:Nat)(L:List Ed)(A:Option Addr)(LA:List Ed)(gk:Nat)(j:Nat)(wr:World):Prop:=
 ∃Sh lab hp bk,qh W wr x l mk me mc mb q gv Sh (eQ (mkV mkB)) (nZ f) lab hp bk/\Gu V0 g tp S mkB (zQ f) out h lab hp bk n (iq S tp mkB n L j) (λ_ _=>False) gk/\lab n=some ⟨cs,cd⟩/\
  wr.cell? ⟨b4,0,none⟩=some (rI cs)/\wr.cell? ⟨b4,1,none⟩=some (rI cd)/\b4∉mc::mb::Sh/\bP wr A LA/\(0<LA.length->∀ad,A=some ad->ad.block∉mc::mb::Sh)
def Yd(V0:Cb)(W w:World)(x l mk me mc mb q:Nat)(gv:Value)(g:G)(tp:Nat)(S:LS)(mkB:Nat->Bool)(f:Int->Option C)(out:List Ed)(h:Nat->C)(n:Nat)(gk:Nat)(e:Ending)(w':World):Prop:=
 e=.returned (.tuple #[])/\∃Sh lab hp bk,qh W w' x l mk me mc mb q gv Sh (eQ (mkV mkB)) (nZ f) lab hp bk/\Gu V0 g tp S mkB (zQ f) out h lab hp bk n (λ_ _=>False) (λ_ _=>False) gk
theorem bP.iC{T:List Nat}(h:bP w A L)(z:Kept T w w')(u:0<L.length->∀k,A=some k->k.block∉T):bP w' A L:=λm=>by
 exact(h.kept (T:=T) z (u m)) m
section
variable {V0:Cb} {W w w':World} {x l mk me mc mb q:Nat} {gv:Value} {g:G} {tp:Nat} {S:LS} {mkB:Nat->Bool} {f:Int->Option C} {out:List Ed} {h:Nat->C} {n:Nat} {cs cd:Int} {b4:Nat} {L:List Ed} {A:Option Addr} {LA:List Ed} {gk j:Nat}
theorem Ru.reach{Sh:List Nat}{k hp2:Nat->Option C}{m:Nat->Int}{e:Ending}(hR:WG W w x l mk me mc mb q gv Sh (eQ (mkV mkB)) (nZ f) k hp2 m e w')(I:Gu V0 g tp S mkB (zQ f) out h k hp2 m n (iq S tp mkB n L j) (λ_ _=>False) gk)(F:k n=some ⟨cs,cd⟩)(J:w.cell? ⟨b4,0,none⟩=some (rI cs))(T:w.cell? ⟨b4,1,none⟩=some (rI cd))(B:b4∉mc::mb::Sh)(Q:bP w A LA)(P:0<LA.length->∀u,A=some u->u.block∉mc::mb::Sh):Ru V0 W x l mk me mc mb q gv g tp S mkB f out h n cs cd b4 L A LA gk j w':=by
 obtain⟨R,Z,z,O⟩:=hR.out;have lb:=ZF _ _ J;refine⟨R,k,hp2,m,Z,I,F,aZ z B J,aZ z B T,O _ lb B,Q.iC z P,λhp u e=>?_⟩;obtain⟨U,M,hl,_⟩:=Q hp;rw[M]at e;injection e with e;subst e
 exact O U hl (P hp _ M)
end
variable {W:List Nat}{a m n:Nat}
theorem tC{lab:Nat->Option C}{b n:Nat}{c:C}{g:Bool}(h:n≠b):pushed lab b c g n=lab n:=by
 unfold pushed;split
 .exact FR.upd_ne _ _ h
 .rfl
theorem JJ{w:World}{me n:Nat}{f:Int->Option C}(h:MapAt iK w me (nZ f) n)(z:Int):∃(k g:Int)(is:Bool),(is=true->f z=some ⟨k,g⟩)/\(is=false->f z=none/\k=0/\g=0)/\∀w',Below w.heap.size w w'->(Instr.lookup 242 (.map (some me)) (rI z) true).run prog w'=.ok (.tuple #[.agg #[rI k,rI g],.bool is]) w':=by
 cases B:f z with
 |none=>exact⟨0,0,false,(λh=>nomatch h),λ_=>⟨rfl,rfl,rfl⟩,λw' u=>jl (h.below u) (by unfold nZ;rw[B];rfl)⟩
 |some d=>exact⟨d.s,d.d,true,λ_=>rfl,(λh=>nomatch h),λw' u=>j5 (h.below u) (by unfold nZ;rw[B];rfl)⟩
theorem QJ(V0:Cb)(W w:World)(x l bg bd nl mk me mc mb q gf:Nat)(gc:Array Value)(Sh Sb:List Nat)(f:Int->Option C)(mkB:Nat->Bool)(lab hp:Nat->Option C)(bk:Nat->Int)(g:G)(tp:Nat)(S:LS)(out:List Ed)(h:Nat->C)(n gk:Nat)(G0:NW g tp S out (zQ f) h)(cG:dF W l bg bd Sb (tp:Nat) (bN g S) nl (eZ g S))(P:qh W w x l mk me mc mb q (.func (.func gf) #[] gc) Sh (eQ (mkV mkB)) (nZ f) lab hp bk)(hg:mE W gf gc g h)(hn:g.av n)(cs cd:Int)(M:lab n=some ⟨cs,cd⟩)(I:Gu V0 g tp S mkB (zQ f) out h lab hp bk n (Dr S tp mkB (zQ f) n) (λ_ _=>False) gk):Calls prog 151 #[vP x,rI (n:Nat)] w (Yd V0 W w x l mk me mc mb q (.func (.func gf) #[] gc) g tp S mkB f out h n gk):=by
 have dj:=G.bA G0.ok;have dn:=hn.1;obtain⟨k0,_,k2,k3,k4,_,_⟩:=P.cells;obtain⟨l1,l2,l3,l4,l5,l6⟩:=P.qp;obtain⟨nC,cH⟩:=P.mapC;obtain⟨nE,cI⟩:=P.mapE;have bw:=I.small G0.ok M;simp only at bw
 have cP:(Instr.lookup 242 (.map (some mc)) (rI ((n:Nat):Int)) false).run prog w=.ok (.agg #[rI cs,rI cd]) w:=by
  have:=(cH.look (aF underlying3) underlying242 (jr w) ((n:Nat):Int)).2;rw[fF]at this;unfold eP at this;rw[M]at this;exact this
 obtain⟨ds,dd,is,b8,b9,ap⟩:=JJ cI (n:Nat);have cl:=hid (rN b8 b9);have bz:=hid ap;have HS:=hid P;have F:=hid (rN G0 (rN cG (rN hg hn)));have Q:=hid (rN I M);have dg:=hid l6;clear cH cI P G0 cG hg hn I M b8 b9 ap l6;go_enter func151,ntmps151;go_upto_region 1 with(fail);refine aB ?_;intro W1 bm;have ar:Below w.heap.size w W1:=by rw[bm];exact be
 have c0:W1.cell? ⟨w.heap.size,0,none⟩=some (rI cs):=by rw[bm];go_simp
 have c1:W1.cell? ⟨w.heap.size,1,none⟩=some (rI cd):=by rw[bm];go_simp
 obtain⟨b4,c8⟩:=rX w.heap.size;have k0:=af ar k0;have k2:=af ar k2;have k3:=af ar k3;have cv:=hid (HS.out.below ar);have ap:=bz.out W1 ar
 have b3:b4∉mc::mb::Sh:=λhm=>by
  simp only[Zd]at hm;rcases hm with r|r|r
  .omega
  .omega
  .have:=dg.out _ r;omega
 rw[c8]at c0 c1⊢;clear bm cP HS bz;go_upto_region 2 with(fail);refine aB ?_;intro W2 bo;have aw:Below W1.heap.size W1 W2:=by rw[bo];exact be
 have d0:W2.cell? ⟨W1.heap.size,0,none⟩=some (rI ds):=by rw[bo];go_simp
 have d1:W2.cell? ⟨W1.heap.size,1,none⟩=some (rI dd):=by rw[bo];go_simp
 obtain⟨b5,am⟩:=rX W1.heap.size;have k0:=af aw k0;have k2:=af aw k2;have c0:=af aw c0;have c1:=af aw c1;have ay:=hid (cv.out.below aw);rw[am]at d0 d1⊢;clear bo aw cv ap am k3 ar;go_upto_if 30 with(fail)
 go_cut [] (λwx=>Ru V0 W x l mk me mc mb q (.func (.func gf) #[] gc) g tp S mkB f out h n cs cd b4 (dZ S g.n n) none [] gk 0 wx)
 case first=>
  cases is with
  |false=>
   have O:Ru V0 W x l mk me mc mb q (.func (.func gf) #[] gc) g tp S mkB f out h n cs cd b4 (dZ S g.n n) none [] gk 0 W2:=by
    refine⟨Sh,lab,hp,bk,ay.out,Q.out.1.weak (λb e B=>?_) (λ_ _ h=>h),Q.out.2,c0,c1,b3,(λh=>absurd h rS),(λh=>absurd h rS)⟩;rcases iq.first (g:=g) (λy c m hy=>(F.out.1.fn.dw _ _ (by rw[hy];simp)).2.1.1) B with r|⟨_,r⟩
    .exact r
    .have:=(cl.out.2 rfl).1
     rw[show zQ f n=f (n:Nat)from rfl,this]at r;cases r
   have O:=hid O;clear ay c0 c1 d0 d1 k0 k2;go_wp2;go_meet
   case rel=>exact O.out
  |true=>
   have a6:=cl.out.1 rfl;have co:=F.out.1.fok n _ a6;simp only at co;have cA:=hid (λw=>pE cs cd ds dd w (by unfold aT;omega) (by unfold aT;omega) (by unfold aT;omega) (by unfold aT;omega));obtain⟨tb,Z⟩:∃t,lower? lab 256 ⟨cs+ds,cd+dd⟩=t:=⟨_,rfl⟩;have ab:C.add ⟨cs,cd⟩ ⟨ds,dd⟩=⟨cs+ds,cd+dd⟩:=rfl;have cR:=hid (λw' h'=>Dh W w' x l mk me mc mb q gf gc Sh (eQ (mkV mkB)) (nZ f) lab hp bk g h F.out.1.ok h' F.out.2.2.1 F.out.1.hT F.out.1.hok 256 (.inr rfl) 256 rfl (n:Nat) (cs+ds) (cd+dd) om tb Z (λd hd=>by have:=Q.out.1.small F.out.1.ok hd;omega) (λh1=>Q.out.1.low Z h1))
   have J:Gu V0 g tp S mkB (zQ f) out h (pushed lab 256 ⟨cs+ds,cd+dd⟩ tb) (pushed hp 256 (C.add ⟨cs+ds,cd+dd⟩ (h 256)) tb) (if tb=true then FR.upd bk 256 (n:Nat)else bk) n (iq S tp mkB n (dZ S g.n n) 0) (λ_ _=>False) gk:=by
    refine Q.out.1.step F.out.1 (.inr rfl) (.inl om) ⟨⟨cs,cd⟩,⟨ds,dd⟩,Q.out.2,om,.inr ⟨om,rfl,a6⟩,ab.symm⟩ (λb e B=>?_) (λ_ _ h=>h.elim) Z;rcases iq.first (g:=g) (λy c m hy=>(F.out.1.fn.dw _ _ (by rw[hy];simp)).2.1.1) B with r|⟨r1,r2⟩
    .exact .inl r
    .refine .inr ⟨r1,λc hc=>?_⟩
     rw[Q.out.2]at hc;injection hc with hc;subst hc
     rw[show zQ f n=f (n:Nat)from rfl,a6]at r2;injection r2 with r2;subst r2
     exact C.le_refl _
   have ai:pushed lab 256 ⟨cs+ds,cd+dd⟩ tb n=some ⟨cs,cd⟩:=by rw[tC om];exact Q.out.2
   have J:=hid (rN J ai);have dp:=hid (rN co a6);clear ai Z a6 co ab;go_wp2_with fail;(with_reducible refine(cA.out _).mono ?_);rintro e w3 ⟨rfl,bp⟩;have c0:=af bp c0;have c1:=af bp c1;have cw:=hid (ay.out.below bp);clear ay bp d0 d1 cA k0 k2;go_wp2_with fail;(with_reducible refine(cR.out _ cw.out).mono ?_);rintro e w4 hR;have O:=Ru.reach hR J.out.1 J.out.2 c0 c1 b3 (A:=none) (LA:=[]) (λh=>absurd h rS) (λh=>absurd h rS);have O:=hid O;obtain⟨rfl,_⟩:=hR;clear cw c0 c1 cR J;go_wp2;go_meet
   case rel=>exact O.out
 case rest=>
  obtain⟨cF,c2,hp2,c6,P,hI,M,e0,e1,ao,_,_⟩:=hcut;obtain⟨k0,_,k2,_,_,_,_⟩:=P.cells;have cY:=hid P.qp.2.2.2.2.2;obtain⟨_,_,_,dk,dl,_⟩:=P.qp;have a9:=gq (g:=g) (S:=S) F.out.2.2.2;have cV:=hid (jN wc l bg bd nl Sb (tp:Nat) (bN g S) (eZ g S) (F.out.2.1.below P.bel) (n:Nat) _ a9);have cE:=hid (wO wc l bg bd nl Sb (tp:Nat) (bN g S) (eZ g S) (F.out.2.1.below P.bel) (n:Nat) _ a9 (dZ S g.n n) (fM F.out.2.2.2) (by have:=dS S g.n n;omega));obtain⟨ln,a7⟩:=rX (S.lev n);rw[a7]at cV;have cB:=hid a7;have HS:=hid P;have ch:=hid (rN hI M);clear ay c0 c1 d0 d1 a9 a7 P hI M cl Q;go_wp2_with fail;(with_reducible refine cV.out.mono ?_);rintro e w' ⟨rfl,rfl⟩;clear cV;go_wp2_with fail;(with_reducible refine cE.out.mono ?_);rintro e w5 ⟨vE,rfl,cn,am⟩;obtain⟨A1,m1,rfl,T⟩:=cn.yI
  have hA1:0<(dZ S g.n n).length->∀ad,A1=some ad->ad.block∉mc::mb::cF:=λcQ ad e hm=>by
   obtain⟨g',e1,_,_⟩:=T cQ;rw[e1]at e;injection e with e;subst e
   have cp:=(World.ownsRow.lt cn g' (by rw[e1];rfl)).1;simp only[Zd]at hm;rcases hm with r|r|r
   .omega
   .omega
   .have:=cY.out _ r;omega
  obtain⟨L,hL⟩:=rX (dZ S g.n n);have ci:=ch.out.1;rw[hL]at T hA1 ci⊢;have cN:Ru V0 W x l mk me mc mb q (.func (.func gf) #[] gc) g tp S mkB f out h n cs cd b4 L A1 L gk 0 w5:=⟨cF,c2,hp2,c6,HS.out.below am,ci,ch.out.2,af am e0,af am e1,ao,T,hA1⟩;obtain⟨nL,bq⟩:=rX L.length;have c5:nL<=256:=by have:=dS S g.n n;rw[hL,bq]at this;omega
  rw[bq];have HL:=hid (rN hL bq);clear cn T hA1 hL bq HS ch ci e0 e1 cE am k0 k2 ao cY dk dl;go_wp2_with fail;go_loopw [57] (λkv wr=>∃j:Nat,j<=nL/\kv=rI j/\Ru V0 W x l mk me mc mb q (.func (.func gf) #[] gc) g tp S mkB f out h n cs cd b4 L A1 L gk j wr) (λkv _=>nL-(intOf kv).toNat)
  case atStart=>exact⟨0,om,rfl,cN⟩
  case round=>
   obtain⟨j,hj,rfl,Sj,R,bv,aE,P,hI,M,e0,e1,ao,T,hA1⟩:=hrel;clear cN;by_cases cO:j<nL
   .obtain⟨y,hy⟩:∃y,L[j]? =some y:=⟨L[j]'(by rw[HL.out.2];exact cO),Zc _⟩
    obtain⟨t,dq,cS,bb⟩:=eH.1 (by rw[HL.out.1];exact Ze hy:y∈dZ S g.n n);obtain⟨gb,hA,a1,a2,a3,a4⟩:=T.get hy;have de:=λwx=>gZ (m:=m1) hA cO wx;obtain⟨xt,⟨xs,xd⟩,xm⟩:=y;simp only at a1 a2 a3 a4 cS bb;subst cS;have b6:=F.out.1.fn.dw n t (by rw[bb];simp);have ba:=F.out.1.fn.small _ _ _ _ bb;simp only at ba;obtain⟨k0,_,k2,_,_,_,_⟩:=P.cells;obtain⟨nK,cJ⟩:=P.mapK;have ce:=PW cJ ((t:Nat):Int) (mkB t) rS;have cD:=hid ce;have Hy:=hid (rN hy (rN bb (rN b6 ba)));have Q:=hid (rN hI M);have HS:=hid P;have cg:=hid (rN T hA1);clear hA hy bb b6 ba P hI M T hA1 cJ ce;go_upto_region 9 with(fail);refine aB ?_;intro W6 aS;have aa:Below wr.heap.size wr W6:=by rw[aS];exact be
    have o0:W6.cell? ⟨wr.heap.size,0,none⟩=some (rI (t:Nat)):=by rw[aS];go_simp
    have o1:W6.cell? ⟨wr.heap.size,1,none⟩=some (rI xs):=by rw[aS];go_simp
    have o2:W6.cell? ⟨wr.heap.size,2,none⟩=some (rI xd):=by rw[aS];go_simp
    obtain⟨k,b2⟩:=rX wr.heap.size
    have c9:k∉mc::mb::Sj:=λhm=>by
     obtain⟨_,_,_,q4,q5,q6⟩:=HS.out.qp;simp only[Zd]at hm;rcases hm with r|r|r
     .omega
     .omega
     .have:=q6 _ r;omega
    have k0:=af aa k0;have k2:=af aa k2;have e0:=af aa e0;have e1:=af aa e1;have bi:=hid (HS.out.below aa);have cq:=hid (cg.out.1.below aa);have hA1:=hid cg.out.2;have cb:∀w',Below W6.heap.size W6 w'->(Instr.lookup 225 (.map (some mk)) (rI ((t:Nat):Int)) false).run prog w'=.ok (.bool (mkB t)) w':=λw' hb=>cD.out w' (ae aa hb);have b0:=hid cb;rw[b2]at o0 o1 o2⊢;have ca:=gq (g:=g) (S:=S) Hy.out.2.2.1.2.1;have cV:=hid (λw' hb=>jN w' l bg bd nl Sb (tp:Nat) (bN g S) (eZ g S) ((F.out.2.1.below bi.out.bel).below hb) (t:Nat) _ ca);have cT:=hid (λw' hb=>UC w' l bg bd nl Sb (tp:Nat) (bN g S) (eZ g S) ((F.out.2.1.below bi.out.bel).below hb));obtain⟨lt,a8⟩:=rX (S.lev t);rw[a8]at cV;have cC:=hid a8;clear aS aa HS cg a1 a2 a3 a4 de b2 cD cb ca a8;have u:=aj (Below.refl W6.heap.size W6);have q6:W6.drew.cell? ⟨x,0,none⟩=some (vP l)/\W6.drew.cell? ⟨k,0,none⟩=some (rI (t:Nat)):=⟨af u k0,af u o0⟩
    go_region_held3 (λw'=>w'.cell? ⟨x,0,none⟩=some (vP l)/\w'.cell? ⟨k,0,none⟩=some (rI (t:Nat)))
     (first
      |exact⟨k0,o0⟩
      |exact q6)
     (first
      |(go_at_call 147
        refine(cV.out _ u).mono ?_;rintro e wV ⟨rfl,rfl⟩))
    have k0:=af u k0;have k2:=af u k2;have e0:=af u e0;have e1:=af u e1;have o0:=af u o0;have o1:=af u o1;have o2:=af u o2;have cx:=hid (bi.out.below u);have cr:=hid (cq.out.below u);have cT:=hid (λw' hb=>cT.out w' (ae u hb));have b1:Hid (∀w',Below W6.drew.heap.size W6.drew w'->(Instr.lookup 225 (.map (some mk)) (rI ((t:Nat):Int)) false).run prog w'=.ok (.bool (mkB t)) w'):=hid (λw' hb=>b0.out w' (ae u hb));clear q6 bi cq b0 cV u;generalize W6.drew=W7 at*;obtain⟨tk,cU⟩:∃tk,(decide (ln<lt)||decide (lt=tp)||mkB t)=tk:=⟨_,rfl⟩;have bl:=hid cU;clear cU;have cm:=hid (λd os=>(cT.out (grow (redrawn W7 d) os) (ZC W7 d os)).mono (R':=λe w'=>e=.returned (rI (tp:Nat))/\Below (grow (redrawn W7 d) os).heap.size (grow (redrawn W7 d) os) w') (by rintro e w' ⟨h1,rfl⟩;exact⟨h1,br⟩));have cW:=ZE k0;have cX:=ZE k2;have c4:=ZE o0
    have aq:∀d os,(Instr.lookup 225 (.map (some mk)) (rI ((t:Nat):Int)) false).run prog (grow (redrawn W7 d) os)=.ok (.bool (mkB t)) (grow (redrawn W7 d) os):=λd os=>b1.out _ (ZC W7 d os);have cj:=Below.refl W7.heap.size W7;go_upto_region 10 with(fail);go_cut [91] (λs wx=>s=.bool tk/\Below W7.heap.size W7 wx)
    case first=>
     by_cases cp:ln<lt
     .have db:decide (((ln:Nat):Int)<((lt:Nat):Int))=true:=so
      have ht:tk=true:=by rw[<-bl.out];simp[cp]
      subst ht;clear cW cX c4 aq;go_quiet (fail);go_wp2;go_meet
      case rel=>exact⟨rfl,be⟩
     .have db:decide (((ln:Nat):Int)<((lt:Nat):Int))=false:=so
      by_cases bc:lt=tp
      .have da:(((lt:Nat):Int)==((tp:Nat):Int))=true:=by rw[bc];simp
       have ht:tk=true:=by rw[<-bl.out];simp[bc]
       subst ht;clear aq bc;refine qb cj cm.out λW9 ck c7=>?_;go_wp2;go_meet
       case rel=>exact⟨rfl,ck⟩
      .have da:(((lt:Nat):Int)==((tp:Nat):Int))=false:=so
       have ht:mkB t=tk:=by rw[<-bl.out];simp[cp,bc]
       rw[ht]at aq;clear bc ht;refine qb cj cm.out λW9 ck c7=>?_;go_wp2;go_meet
       case rel=>exact⟨rfl,ck⟩
    case rest=>
     obtain⟨rfl,B⟩:=hcut;have bj:=hid (cx.out.below B);have bh:=hid (cr.out.below B);have e0:=af B e0;have e1:=af B e1;have o0:=af B o0;have o1:=af B o1;have o2:=af B o2;clear cx cr b1 cT cm k0 k2 cW cX c4 aq cj B
     have b7:(S.lev n<S.lev t\/S.lev t=tp\/mkB t=true)↔tk=true:=by
      rw[<-bl.out,cB.out,cC.out];simp[or_assoc]
     have bx:=hid b7;clear b7;cases tk with
     |false=>
      have O:Ru V0 W x l mk me mc mb q (.func (.func gf) #[] gc) g tp S mkB f out h n cs cd b4 L A1 L gk (j+1) wc:=
       ⟨Sj,R,bv,aE,bj.out,Q.out.1.weak (λb e hb=>iq.skip Hy.out.1 rfl (λhh=>nomatch (bx.out.1 hh)) b e hb) (λ_ _ h=>h),Q.out.2,e0,e1,ao,bh.out,hA1.out⟩
      have O:=hid O;clear bj bh e0 e1 o0 o1 o2 ao;go_wp2;go_roundw
      case rel=>refine rR ?_;exact⟨j+1,om,by go_num,O.out⟩
      case measure=>exact rM
     |true=>
      have bw:=Q.out.1.small F.out.1.ok Q.out.2;simp only at bw;have ba:=Hy.out.2.2.2;have cA:=hid (λw=>pE cs cd xs xd w (by unfold aT;omega) (by unfold aT;omega) (by unfold aT;omega) (by unfold aT;omega));obtain⟨tb,Z⟩:∃z,lower? R t ⟨cs+xs,cd+xd⟩=z:=⟨_,rfl⟩;have ab:C.add ⟨cs,cd⟩ ⟨xs,xd⟩=⟨cs+xs,cd+xd⟩:=rfl;have cR:=hid (λw' h'=>Dh W w' x l mk me mc mb q gf gc Sj (eQ (mkV mkB)) (nZ f) R bv aE g h F.out.1.ok h' F.out.2.2.1 F.out.1.hT F.out.1.hok t (.inl Hy.out.2.2.1.2.1) (t:Nat) rfl (n:Nat) (cs+xs) (cd+xd) om tb Z (λd hd=>by have:=Q.out.1.small F.out.1.ok hd;omega) (λh1=>Q.out.1.low Z h1));have bt:n≠t:=Hy.out.2.2.1.2.2
      have J:Gu V0 g tp S mkB (zQ f) out h (pushed R t ⟨cs+xs,cd+xd⟩ tb) (pushed bv t (C.add ⟨cs+xs,cd+xd⟩ (h t)) tb) (if tb=true then FR.upd aE t (n:Nat)else aE) n (iq S tp mkB n L (j+1)) (λ_ _=>False) gk:=by
       refine Q.out.1.step F.out.1 (.inl Hy.out.2.2.1.2.1) (.inl (Ne.symm bt)) ⟨⟨cs,cd⟩,⟨xs,xd⟩,Q.out.2,bt,.inl ⟨om,om,bx.out.2 rfl,xm,Hy.out.2.1⟩,ab.symm⟩ (λb e B=>?_) (λ_ _ h=>h.elim) Z;rcases iq.next Hy.out.1 rfl b e B with r|⟨r1,r2⟩
       .exact .inl r
       .refine .inr ⟨r1,λc hc=>?_⟩
        rw[Q.out.2]at hc;injection hc with hc;subst hc
        rw[r2];exact C.le_refl _
      have ai:pushed R t ⟨cs+xs,cd+xd⟩ tb n=some ⟨cs,cd⟩:=by rw[tC bt];exact Q.out.2
      have J:=hid (rN J ai);have ag:=aj (Below.refl wc.heap.size wc);have a0:=hid ao;have a5:=hid c9;have al:wc.drew.cell? ⟨b4,0,none⟩=some (rI cs)/\wc.drew.cell? ⟨b4,1,none⟩=some (rI cd)/\wc.drew.cell? ⟨k,0,none⟩=some (rI (t:Nat))/\wc.drew.cell? ⟨k,1,none⟩=some (rI xs)/\wc.drew.cell? ⟨k,2,none⟩=some (rI xd):=⟨af ag e0,af ag e1,af ag o0,af ag o1,af ag o2⟩;have cy:=hid (bj.out.below ag);have ct:=hid (bh.out.below ag);clear ai Z ab bw ba bt e0 e1 o0 o1 o2 bj bh;go_upto_region 11 with(fail)
      go_region_held3 (λw'=>w'.cell? ⟨b4,0,none⟩=some (rI cs)/\w'.cell? ⟨b4,1,none⟩=some (rI cd)/\w'.cell? ⟨k,0,none⟩=some (rI (t:Nat))/\w'.cell? ⟨k,1,none⟩=some (rI xs)/\w'.cell? ⟨k,2,none⟩=some (rI xd))
       (first
        |exact al
        |exact U
        |exact cM)
       ((first
        |(go_at_call 97
          refine(cA.out _).mono ?_;rintro e wA ⟨rfl,ac⟩;have U:wA.cell? ⟨b4,0,none⟩=some (rI cs)/\wA.cell? ⟨b4,1,none⟩=some (rI cd)/\wA.cell? ⟨k,0,none⟩=some (rI (t:Nat))/\wA.cell? ⟨k,1,none⟩=some (rI xs)/\wA.cell? ⟨k,2,none⟩=some (rI xd):=⟨af ac al.1,af ac al.2.1,af ac al.2.2.1,af ac al.2.2.2.1,af ac al.2.2.2.2⟩)
        |(go_at_call 148
          refine(cR.out _ (cy.out.below ac)).mono ?_;rintro e wh cL;have O:=Ru.reach cL J.out.1 J.out.2 U.1 U.2.1 a0.out (ct.out.below ac) hA1.out;have O:=hid O;obtain⟨rfl,S1,_,_,ax⟩:=cL;have cM:wh.cell? ⟨b4,0,none⟩=some (rI cs)/\wh.cell? ⟨b4,1,none⟩=some (rI cd)/\wh.cell? ⟨k,0,none⟩=some (rI (t:Nat))/\wh.cell? ⟨k,1,none⟩=some (rI xs)/\wh.cell? ⟨k,2,none⟩=some (rI xd):=⟨aZ ax a0.out U.1,aZ ax a0.out U.2.1,aZ ax a5.out U.2.2.1,aZ ax a5.out U.2.2.2.1,aZ ax a5.out U.2.2.2.2⟩)))
      all_goals
       clear cA cR cy ct J ax ac U cM al ag;go_wp2;go_roundw
       case rel=>refine rR ?_;exact⟨j+1,om,by go_num,O.out⟩
       case measure=>exact rM
   .obtain rfl:j=nL:=om
    have O:Yd V0 W w x l mk me mc mb q (.func (.func gf) #[] gc) g tp S mkB f out h n gk (.returned (.tuple #[])) wr:=⟨rfl,Sj,R,bv,aE,P,hI.weak (λb e hb=>iq.over b e (by rw[HL.out.2];exact hb)) (λ_ _ h=>h)⟩;have O:=hid O;clear P hI M e0 e1 ao T hA1;go_wp2;go_end0;exact O.out
abbrev cK(W:List Nat):List Int:=W.map λn:Nat=>(n:Int)
def Ye(w:World)(S:LS)(bk:Nat->Int)(g:G)(fin:Nat->Option C)(out:List Ed)(cT:C)(e:Ending)(w':World):Prop:=
 ∃A m Wy,e=.returned (.slice A Wy.length m)/\Wy.length<=m/\Ints w' A Wy.length (λk=>(cK Wy).getD k 0)/\(∀ad,A=some ad->w.heap.size<=ad.block)/\Wy.length<=2000000/\(Jg g fin out cT Wy/\∃P,KI bk (bk 256) P/\Nk S P.reverse Wy)/\Below w.heap.size w w'
def XT(w:World)(S:LS)(g:G)(fin:Nat->Option C)(out:List Ed)(cT:C)(P:List Nat)(lv:Value)(i:Nat)(wr:World):Prop:=
 ∃gl m Wy n,lv=.slice (some ⟨gl,0,none⟩) n m/\Wy.length=n/\0<n/\n<=m/\Ints wr (some ⟨gl,0,none⟩) n (λk=>(cK Wy).getD k 0)/\w.heap.size<=gl/\n<=1+i*4200/\(NZ S g fin out cT P i Wy/\Nk S (P.take i) Wy)/\Below w.heap.size w wr
theorem Nk.next{S:LS}{P W L:List Nat}{j a b:Nat}(h:Nk S (P.take (j+1)) W)(g:P[j]? =some a)(k:P[j+1]? =some b)(u:LS.Jf S a b L):Nk S (P.take (j+1+1)) (W++L.tail):=by
 obtain⟨z,B⟩:=Zb.1 k;obtain⟨F,I⟩:=Zb.1 g;rw[Zt z,B];refine .snoc h ?_ u;rw[Zt F,I];simp
theorem BC{g n m:Nat}(u:1<n)(z:n<=m)(w:World):(Instr.sliceAt 51 (.slice (some ⟨g,0,none⟩) n m) (some (rI 1)) none none).run prog w=.ok (.slice (some ⟨g,1,none⟩) (n-1) (m-1)) w:=by
 have k:¬m=1:=om;unfold Instr.sliceAt;go_simp;intro q;omega
theorem bS(W:List Nat):(cK W).length=W.length:=Zr _
theorem oL{k a:Nat}(h:W[k]? =some a):(cK W)[k]? =some ((a:Nat):Int):=by rw[Zy,h];rfl
theorem A8{k a:Nat}(h:W[k]? =some a):(cK W).getD k 0=((a:Nat):Int):=by rw[Zk,oL h];rfl
theorem Xq(W w:World)(x l ct cs nl mk me mc mb q:Nat)(gv:Value)(Sh Sb:List Nat)(mkM enM:Int->Option Value)(mark:Nat->Bool)(fin:Nat->Option C)(lab hp hp0:Nat->Option C)(bk:Nat->Int)(g:G)(tp:Nat)(S:LS)(out:List Ed)(h:Nat->C)(k gk:Nat)(cV:tp<=6)(G0:NW g tp S out fin h)(b9:dF W l ct cs Sb (tp:Nat) (bN g S) nl (eZ g S))(hS:qh W w x l mk me mc mb q gv Sh mkM enM lab hp0 bk)(I:xB g tp S mark fin out h lab hp bk k (λ_ _=>False) (λ_ _=>False) gk)(cT:C)(hT:lab 256=some cT):Calls prog 150 #[vP x] w (Ye w S bk g fin out cT):=by
 have cJ:=G.bA G0.ok;obtain⟨k0,_,_,_,_,k5,_⟩:=hS.cells;obtain⟨nB,ca⟩:=hS.mapB;obtain⟨cy,bc⟩:=Rk.start G0 I hT
 have bl:∀w',Below w.heap.size w w'->∀a:Nat,lab a≠none->(Instr.lookup 129 (.map (some mb)) (rI ((a:Nat):Int)) false).run prog w'=.ok (rI (bk a)) w':=λw' hb a ha=>by
  have:=((ca.below hb).look (aF underlying3) underlying129 (sO w') ((a:Nat):Int)).2;rw[fF]at this;unfold Vk at this;cases hl:lab a with
  |none=>exact absurd hl ha
  |some c=>rw[hl]at this;exact this
 have a4:=bl w br 256 (by rw[hT];simp);have a4:(Instr.lookup 129 (.map (some mb)) (rI 256) false).run prog w=.ok (rI (bk 256)) w:=a4;obtain⟨z0,bv⟩:=rX (bk 256);rw[bv]at a4 bc;have a0:∀R,KI bk z0 R->KI bk z0 ([]++R):=λR hR=>hR;replace a0:=hid a0;have cx:=hid bv;have cv:=hid bl;have HS:=hid hS;have HG:=hid (rN G0 (rN b9 I));clear ca bl hS G0 b9 I hT bv;go_enter func150,ntmps150;go_wp2_with fail;clear a4
 go_loopg [3,4] cy (λgk uv nv wr=>∃(L:List Nat)(n:Int),nv=rI n/\aL wr w.heap.size uv (cK L)/\Rk S g fin out lab cT L n gk/\Hid (∀R,KI bk n R->KI bk z0 (L++R))/\Below w.heap.size w wr)
 case atStart=>exact⟨[],z0,rfl,aL.nil _ _,bc,a0,br⟩
 case round=>
  obtain⟨L,n,rfl,hO,hC,a1,hB⟩:=hrel;clear bc a0;have k0:=af hB k0;have k5:=af hB k5;have HO:=hid hO;by_cases cm:0<=n
  .obtain⟨a,rfl⟩:=Zj cm
   obtain⟨cA,ck,ab⟩:=Rk.step HG.out.1 HG.out.2.2 hC
   have a7:lab a≠none:=by
    obtain⟨p,e,d,t,_,_,h3⟩:=hC;rcases h3 with⟨a',e1,_,h4,_⟩|⟨e1,_⟩
    .obtain rfl:a=a':=om
     rw[h4];simp
    .omega
   have bg:L.length<=258:=by
    obtain⟨p,e,d,t,_,_,h3⟩:=hC;rcases h3 with⟨_,_,_,_,_,_,_,h8⟩|⟨e1,_⟩
    .omega
    .omega
   have cH:(cK L).length<1099511627776:=by rw[Zr];omega
   have ay:=hid ab;have cw:=hid a7;have ba:cK (L++[a])=cK L++[((a:Nat):Int)]:=rS;have b3:=hid ba;have cS:=hB.size;clear hC hO ab a7 ba;go_upto_region 4 with(at_builtin;(refine bH _ rfl _ _ rfl w.heap.size _ (cK L) ((a:Nat):Int) rfl (HO.out.alloc _) ⟨wr.heap.size,0,none⟩ rfl (dh _ _ _) cH so ?_);intro v' w9 u ar);have aE:Below w.heap.size w w9:=below_grown (ah hB) so (HO.out.alloc _) ar;rw[<-b3.out]at u;have bz:=hid u;have a5:=cv.out w9 aE a cw.out;have k0:=HG.out;have k5:w9.cell? ⟨x,5,none⟩=some (.map (some mb)):=(HS.out.below aE).cells.2.2.2.2.2.1;obtain⟨za,cr⟩:=rX (bk a);have ab:=ay.out;have am:∀R,KI bk (bk a) R->KI bk z0 ((L++[a])++R):=λR hR=>by rw[List.append_assoc];exact a1.out _ (.cons hR)
   rw[cr]at a5 ab am;have ay:=hid ab;replace am:=hid am;clear ar u HO cr ab k0 a1;go_wp2;go_roundg cA
   case measure=>omega
   case rel=>refine rR ?_;exact⟨L++[a],za,rfl,bz.out,ay.out,am,aE⟩
  .obtain⟨s,P,U,a3⟩:=NZ.start (S:=S) (g:=g) (by omega:n<0) hC
   have bg:L.length<=258:=by
    obtain⟨p,e,d,t,_,_,h3⟩:=hC;rcases h3 with⟨a',e1,_⟩|⟨_,_,_,_,_,_,_,_,h8⟩
    .omega
    .exact h8
   have ax:(cK L).reverse=cK (s::P):=by rw[<-U];exact List.map_reverse.symm
   have cb:(s::P).length<=258:=by rw[<-U,List.length_reverse];exact bg
   have cR:=EI wr w.heap.size _ _ hO (by rw[bS];omega) hB.size;rw[ax]at cR;have cR:=hid cR
   have al:KI bk (bk 256) (s::P).reverse:=by
    have:=a1.out [] (.nil om);rw[List.append_nil,<-cx.out]at this;rw[<-U,List.reverse_reverse];exact this
   obtain⟨Q,hQ⟩:=rX (s::P);have cd:0<Q.length:=by rw[<-hQ];simp
   have a3:NZ S g fin out cT Q 1 [s]:=by rw[<-hQ];exact a3
   have ce:Q[0]? =some s:=by rw[<-hQ];rfl
   rw[hQ]at cR cb al
   have b7:Nk S (Q.take 1) [s]:=by
    have e1:Q.take 1=[s]:=by rw[<-hQ];simp
    rw[e1];exact .one s
   have b0:=hid (rN (rN a3 b7) ce);have bx:=hid al;clear hC hO HO U ax bg a3 b7 hQ ce al a1;go_wp2_with fail;(with_reducible refine cR.out.mono ?_);rintro e w2 ⟨rfl,ac,b6⟩;have bw:Below w.heap.size w w2:=hB.trans b6;obtain⟨B,mu,rfl,cl⟩:=ac.addr (by rw[bS];exact cd);rw[bS]at cl⊢;obtain⟨nP,bq⟩:=rX Q.length;have cF:w.heap.size<=B:=(World.ownsRow.lt ac B rfl).1;have aq:=λ(k:Nat)(a:Nat)(hk:Q[k]? =some a)=>ac.cell (oL hk);have aa:=hid (rN aq bq)
   have cp:XT w S g fin out cT Q (.slice (some ⟨B,0,none⟩) 1 mu) 1 w2:=by
    refine⟨B,mu,[s],1,rfl,rfl,om,om,λ_=>⟨_,rfl,(World.ownsRow.lt ac B rfl).2,λk hk=>?_⟩,cF,om,b0.out.1,bw⟩;obtain rfl:k=0:=om;have:=ac.cell (oL b0.out.2);rw[Addr.add_lit];exact this
   have k0:=(HS.out.below bw).cells.1;rw[bq]at cl cd cb⊢;clear aq ac bq cR b6 hB k5;go_wp2_with fail;obtain⟨wz,rfl⟩:∃wz:World,wz=w2:=⟨_,rfl⟩
   go_loopw [5,6] (λlv iv wr=>∃(j:Nat)(xi:Int),iv=rI xi/\xi=(j:Int)+1/\j+1<=nP/\XT w S g fin out cT Q lv (j+1) wr/\Below wz.heap.size wz wr) (λ_ iv _=>nP-(intOf iv).toNat)
   case atStart=>exact⟨0,1,rfl,rfl,om,cp,br⟩
   case round=>
    obtain⟨j,xi,rfl,bt,hj,cD,ai⟩:=hrel;clear cp;obtain⟨gl,ml,Wy,n1,rfl,F,cI,cL,a2,cE,cQ,ag,aS⟩:=cD;by_cases ck:j+1<nP
    .obtain⟨a,ha⟩:∃a,Q[j]? =some a:=⟨_,Zc (by rw[aa.out.2];omega)⟩
     obtain⟨b,hb⟩:∃b,Q[j+1]? =some b:=⟨_,Zc (by rw[aa.out.2];omega)⟩;obtain⟨c,m,bm,aw⟩:=ag.1.step om (x:=a) (by simpa using ha) hb;obtain⟨ap,ch,_⟩:=HG.out.1.fn.dw a b (by rw[bm];simp);have a7:=HG.out.1.fn.levs a ap;have cG:=HG.out.1.fn.levs b ch;obtain⟨J,u1,u2,u3,u4⟩:=PL l ct cs nl Sb g S tp (tp:Nat) HG.out.1.ok HG.out.1.fn 12 a b c m om om bm
     have b8:J.length<=4097/\2<=J.length:=by
      have cP:2^12=4096:=rD;obtain⟨M,hM⟩:=u1.ends;refine⟨om,?_⟩;rw[hM];simp
     have co:=rN (aw J u1 u2) (ag.2.next ha hb u1);have hd:=aj (Below.refl wr.heap.size wr);have cU:=hid (u4 wr.drew (HG.out.2.1.below (ae HS.out.bel (ae aS hd))));have c1:wr.cell? ⟨B,j,none⟩=some (rI (a:Nat)):=af ai (aa.out.1 j a ha);have c2:wr.cell? ⟨B,j+1,none⟩=some (rI (b:Nat)):=af ai (aa.out.1 (j+1) b hb);have k0:=af ai k0;have q0:wr.drew.cell? ⟨x,0,none⟩=some (vP l)/\wr.drew.cell? ⟨B,j,none⟩=some (rI (a:Nat))/\wr.drew.cell? ⟨B,j+1,none⟩=some (rI (b:Nat)):=⟨af hd k0,af hd c1,af hd c2⟩;have cN:IntKind.i64.wrap (xi-1)=((j:Nat):Int):=by rw[IntWalk.i64_in _ om];omega
     have ci:∀wx,(Instr.indexAt 51 (.slice (some ⟨B,0,none⟩) nP mu) (rI ((j:Nat):Int))).run prog wx=.ok (.pointer (some ⟨B,j,none⟩)) wx:=λwx=>by
      have:=aP (A:=some ⟨B,0,none⟩) (m:=mu) rfl (show j<nP by omega) wx;rw[Addr.add_lit,Zx]at this;exact this
     have cj:∀wx,(Instr.indexAt 51 (.slice (some ⟨B,0,none⟩) nP mu) (rI xi)).run prog wx=.ok (.pointer (some ⟨B,j+1,none⟩)) wx:=λwx=>by
      have:=aP (A:=some ⟨B,0,none⟩) (m:=mu) rfl ck wx;rw[Addr.add_lit,Zx,show((j+1:Nat):Int)=xi by omega]at this;exact this
     have cO:xi<(nP:Int):=om;have cW:IntKind.i64.wrap (xi+1)=xi+1:=IntWalk.i64_in _ om;have b5:=hid bt;have Hn:=hid (rN co (rN b8 F));have Z:=hid a2;clear ha hb bm aw ap ch a7 cG u1 u2 u3 u4 b8 co bt F a2 ag k0 c1 c2;go_upto_region 11 with(fail)
     go_region_held3 (λw'=>w'.cell? ⟨x,0,none⟩=some (vP l)/\w'.cell? ⟨B,j,none⟩=some (rI (a:Nat))/\w'.cell? ⟨B,j+1,none⟩=some (rI (b:Nat)))
      (first
       |exact q0
       |exact q1)
      (first
       |(go_at_call 195
         refine cU.out.mono ?_;rintro e w5 ⟨vU,rfl,bh,ao⟩;have q1:w5.cell? ⟨x,0,none⟩=some (vP l)/\w5.cell? ⟨B,j,none⟩=some (rI (a:Nat))/\w5.cell? ⟨B,j+1,none⟩=some (rI (b:Nat)):=⟨af ao q0.1,af ao q0.2.1,af ao q0.2.2⟩))
     have O:=ae hd ao;have bb:=hid (rN (ae aS O) (ae ai O));obtain⟨g2,mU,rfl,bp⟩:=bh.addr (by rw[Zr];have:=Hn.out.2.1.2;omega);rw[Zr]at bp⊢;obtain⟨nU,a8⟩:=rX J.length
     have ap:∀(k:Nat)(z:Int),(cK J.tail)[k]? =some z->w5.cell? ((⟨g2,1,none⟩:Addr).add k)=some (rI z):=λk z hz=>by
      rw[Addr.add_lit];refine bh.cell (k:=1+k) ?_;rw[Zy,List.getElem?_tail]at hz;rw[Zy,Nat.add_comm];exact hz
     have b1:=hid (rN ap a8);have Z:=hid (Z.out.below O);have cB:1<nU:=by have:=Hn.out.2.1.2;omega
     rw[a8]at bp⊢;have bi:(cK J.tail).length=nU-1:=by rw[Zr,List.length_tail,a8]
     have cn:n1+(nU-1)<1099511627776:=by have:=Hn.out.2.1.1;omega
     have F:(cK Wy).length=n1:=by rw[bS];exact Hn.out.2.2
     clear ap bh a8 q0 q1 cU hd ao O aS ai ci cj cN cO;have a6:=aj (Below.refl w5.heap.size w5);have Z:=hid (Z.out.below a6);have b2:=hid (λk z hz=>af a6 (b1.out.1 k z hz));have cM:=BC (g:=g2) cB bp;go_upto_region 12 with(fail);go_still_tail 8,kr;change wpList _ _ _ _ _ w5.drew;go_wp2_with (at_builtin;(refine jh _ rfl _ _ rfl (some ⟨gl,0,none⟩) n1 (cK Wy) (cK J.tail) rfl F cI Z.out ⟨g2,1,none⟩ (nU-1) _ rfl bi om b2.out cn ?_);intro v' w9 u a5)
     have T:(cK (Wy++J.tail)).length=n1+(nU-1):=by rw[bS,Zp,<-bS Wy,F,<-bS J.tail,bi]
     have a9:cK Wy++cK J.tail=cK (Wy++J.tail):=rS;rw[a9]at u;obtain⟨g9,m9,rfl,bo⟩:=u.addr (by rw[T];omega);have h9:=(World.ownsRow.lt u g9 rfl).1;have bj:=ae a6 a5
     have bd:Ints w9 (some ⟨g9,0,none⟩) (cK (Wy++J.tail)).length (λk=>(cK (Wy++J.tail)).getD k 0):=by
      obtain⟨A',m',e1,e2⟩:=u.ints;injection e1 with e1 _ _
      rw[e1];exact e2
     rw[T]at bo bd⊢
     have hF:XT w S g fin out cT Q (.slice (some ⟨g9,0,none⟩) (n1+(nU-1)) m9) (j+1+1) w9:=by
      refine⟨g9,m9,Wy++J.tail,_,rfl,by rw[<-T,bS],om,bo,bd,?_,?_,Hn.out.1,ae bb.out.1 bj⟩
      .have:=bb.out.1.size;have:=a6.size;omega
      .have:=Hn.out.2.1.1;rw[b1.out.2]at this;omega
     have hF:=hid (rN hF (ae bb.out.2 bj));clear u a5 T a9 bd bo h9 bj bi cn F Z b2 cM;have cq:xi+1=((j+1:Nat):Int)+1:=by have:=b5.out;omega
     have b4:=hid cq;clear cq;go_wp2;go_roundw
     case rel=>refine rR ?_;exact⟨j+1,_,rfl,b4.out,om,hF.out.1,hF.out.2⟩
     case measure=>have:=b5.out;simp[intOf];omega
    .obtain rfl:nP=j+1:=om
     have hF:Ye w S bk g fin out cT (.returned (.slice (some ⟨gl,0,none⟩) n1 ml)) wr:=by
      have cg:NZ S g fin out cT Q Q.length Wy:=by rw[aa.out.2];exact ag.1
      have cC:Nk S Q Wy:=by
       have:=ag.2;rwa[List.take_of_length_le (by rw[aa.out.2];exact Zi _)]at this
      subst F;exact⟨_,ml,Wy,rfl,cL,a2,(λad e=>by injection e with e;rw[<-e];exact cE),om,⟨cg.fin,Q.reverse,bx.out,by rw[List.reverse_reverse];exact cC⟩,aS⟩
     have hF:=hid hF;have cX:¬xi<((j+1:Nat):Int):=om;clear bt F a2 ag;go_wp2;go_ret;exact hF.out
theorem xz(w:World)(ty:TypeId)(B:Nat)(v:Value)(L ys:List Int)(I:aL w B v L)(h0:0<L.length)(ad:Addr)(m c:Nat)(hm:ys.length=m)(hc:∀k z,ys[k]? =some z->w.cell? (ad.add k)=some (rI z))(hl:L.length+m<1099511627776)(hB:B<=w.heap.size):∃U w',(Builtin.append_ #[51,51] ty #[v,.slice (some ad) m c]).run prog w=.ok U w'/\aL w' B U (L++ys)/\w.grownBy w' v.ownBlock/\∀k,U.ownBlock=some k->v.ownBlock=some k\/w.heap.size<=k:=by
 obtain⟨i0,hi,S,M,T⟩:=info_parts oJ;have hn:(ys.map (Value.int .i64)).length=m*i0.size:=by rw[Zr,hm,M,Nat.mul_one]
 have F:∀(j:Nat)(u:Value),(ys.map (Value.int .i64))[j]? =some u->w.cell? (ad.add j)=some u:=λj u hu=>by
  rw[Zy]at hu;obtain⟨z,hz,rfl⟩:=Option.map_eq_some_iff.1 hu;exact hc j z hz
 have O:∀u∈ys.map (Value.int .i64),u.oneCell'=true:=λu hu=>by
  obtain⟨z,_,rfl⟩:=List.mem_map.1 hu;rfl
 obtain⟨U,w',hr,h2,h3,_⟩:=run_append_own (P:=prog) w B 51 ty 3 i0 (rI 0) 1 8 underlying51 hi S M T rfl rD v L.length (L.map (Value.int .i64)) I ad m c (ys.map (Value.int .i64)) (by rw[Zr];omega) F O (by unfold maxLen;omega) om hB;refine⟨U,w',hr,?_,h3,?_⟩
 .unfold aL
  rw[Zp,hm,List.map_append];exact h2
 .intro k Z
  rcases I.2 with⟨_,hz⟩|⟨g,Q,aa,rfl,ag,hg,al,ai,ab,ac⟩
  .omega
  .by_cases R:L.length+m<=Q
   .have J:=run_append_room (P:=prog) w 51 ty 3 i0 underlying51 hi g L.length Q aa hg ad m c (ys.map (Value.int .i64)) hn F O R (by rw[hn,M,ab];omega)
    rw[hr]at J;injection J with e1 e2
    rw[e1]at Z;exact .inl Z
   .have J:=run_append_grow (P:=prog) w 51 ty 3 i0 (rI 0) underlying51 hi S ⟨g,0,none⟩ L.length Q (L.map (Value.int .i64)) (by rw[Zr,M,Nat.mul_one]) (World.ownsRow.cells I (g:=g) rfl) ad m c (ys.map (Value.int .i64)) hn F om om (growslice_fits om (by rw[T];omega))
    rw[hr]at J;injection J with e1 e2
    rw[e1]at Z;simp[Value.ownBlock]at Z;exact .inr om
theorem qf{F:Array Oper}{g:List Oper}{o:Oper}{a:Act}{Q:Exit->Act->World->Prop}(w:World)(L:o.guard=none)(s x:Operand)(ho:o.op=.call {callee:=.builtin .append,args:=#[s,x],argTypes:=#[51,51]})(B:Nat)(v:Value)(J ys:List Int)(hs:a.eval s=v)(u:aL w B v J)(M:0<J.length)(ad:Addr)(m c:Nat)(hx:a.eval x=.slice (some ad) m c)(hm:ys.length=m)(U:∀k z,ys[k]? =some z->w.cell? (ad.add k)=some (rI z))(Z:J.length+m<1099511627776)(S:B<=w.heap.size)(h:∀I w',aL w' B I (J++ys)->w.grownBy w' v.ownBlock->(∀k,I.ownBlock=some k->v.ownBlock=some k\/w.heap.size<=k)->wpList prog F Q g (a.put o.dst I) w'):wpList prog F Q (o::g) a w:=by
 refine wpList_plain L λK T=>?_;obtain⟨I,w',hr,O,P,R⟩:=xz w o.type B v J ys u M ad m c hm U Z S;unfold Oper.wp execOp;simp only[ho,resolve,invoke,builtin,Sem.run_bind,Sem.run_pure,Result.andThen_ok,List.map_toArray,List.map_cons,List.map_nil,hs,hx,hr];exact T _ _ (h I w' O P R)
theorem IJ{ad:Addr}(g:0<n)(k:n<=m)(w:World):(Instr.sliceAt 51 (.slice (some ad) n m) none (some (rI (n:Nat))) (some (rI (n:Nat)))).run prog w=.ok (.slice (some ad) n n) w:=by
 unfold Instr.sliceAt;go_simp
theorem IP{g n m:Nat}(F:0<n)(z:n<=m):∃o,(1<n->o=1)/\∀w,(Instr.sliceAt 51 (.slice (some ⟨g,0,none⟩) n m) (some (rI 1)) none none).run prog w=.ok (.slice (some ⟨g,o,none⟩) (n-1) (m-1)) w:=by
 by_cases u:1<n
 .exact⟨1,λ_=>rfl,λw=>BC u z w⟩
 .obtain rfl:n=1:=om
  by_cases k:m=1
  .subst k
   refine⟨0,λh=>absurd h om,λw=>?_⟩;unfold Instr.sliceAt;go_simp
  .refine⟨1,λh=>absurd h om,λw=>?_⟩
   have B:¬m=1:=k;unfold Instr.sliceAt;go_simp;try (intro q;omega)
end Go.Proofs.YtnifggkjieemeaaGreatDoor
