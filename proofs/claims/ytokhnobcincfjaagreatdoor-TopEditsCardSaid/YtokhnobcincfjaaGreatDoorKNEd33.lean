/- Lemmas of this claim: EdsO, Sr1, Sr2, Sr3, Sr4. -/
import Derived.Test.YtokhnobcincfjaaGreatDoorKNEd25
set_option linter.unusedVariables false
set_option linter.unusedSimpArgs false
set_option maxHeartbeats 3200000
set_option maxRecDepth 100000
namespace Go.Proofs.YtokhnobcincfjaaGreatDoor
open Go.Lib (hid)
open Go.RowKit Go.Sort FR
variable {L:List Ed}{A:Option Addr}{w:World}
def oH(w:World)(A:Option Addr)(L:List Ed):Prop:=0<L.length->∃g o,A=some ⟨g,o,none⟩/\g<w.heap.size/\∀j v,(dw L)[j]? =some v->w.cell? ⟨g,o+j,none⟩=some v
theorem bQ.o(h:bQ w A L):oH w A L:=λB=>by
 obtain⟨g,k,u,z⟩:=h B;exact⟨g,0,k,u,λj v F=>by rw[Nat.zero_add];exact z j v F⟩
theorem oH.kept{w w':World}{T:List Nat}(h:oH w A L)(B:Kept T w w')(J:0<L.length->∀k,A=some k->k.block∉T):oH w' A L:=λF=>by
 obtain⟨g,o,u,z,I⟩:=h F;refine⟨g,o,u,Nat.lt_of_lt_of_le z B.size,λj v O=>?_⟩;have M:=J F _ u;have e:w'.cell? ⟨g,o+j,none⟩=w.cell? ⟨g,o+j,none⟩:=World.cell?_of_block (B.block g z M);rw[e];exact I j v O
theorem oH.below{w w':World}(h:oH w A L)(g:Below w.heap.size w w'):oH w' A L:=h.kept (T:=[]) (.of_below g) (λ_ _ _=>by simp)
theorem oH.get(h:oH w A L){j:Nat}{e:Ed}(u:L[j]? =some e):∃g o,A=some ⟨g,o,none⟩/\w.cell? ⟨g,o+j*4,none⟩=some (.int .i64 e.to_)/\w.cell? ⟨g,o+j*4+1,none⟩=some (.int .i64 e.c.s)/\w.cell? ⟨g,o+j*4+2,none⟩=some (.int .i64 e.c.d)/\w.cell? ⟨g,o+j*4+3,none⟩=some (.int .i64 e.mid):=by
 have B:0<L.length:=Nat.lt_of_le_of_lt (Nat.zero_le _) (List.getElem?_eq_some_iff.1 u).1;obtain⟨g,o,z,_,k⟩:=h B;obtain⟨a,b,c,d⟩:=tY L j e u;exact⟨g,o,z,k _ _ a,k _ _ b,k _ _ c,k _ _ d⟩
theorem Ri{b o n m k:Nat}(h:A=some ⟨b,o,none⟩)(u:k<n)(g:World):(Instr.indexAt 119 (.slice A n m) (.int .i64 (k:Nat))).run Tryz.prog g=.ok (.pointer (some ⟨b,o+k*4,none⟩)) g:=by
 subst h;have q:(k:Int)<(n:Int):=by omega
 go_simp
theorem oH.apart(h:oH w A L){T:List Nat}(z:∀k,k∈T->w.heap.size<=k):0<L.length->∀g,A=some g->g.block∉T:=λhp g e F=>by
 obtain⟨I,J,u,B,_⟩:=h hp;rw[u]at e;injection e with e;subst e
 have:=z _ F;simp only at this;omega
end Go.Proofs.YtokhnobcincfjaaGreatDoor
namespace Go.Proofs.YtokhnobcincfjaaGreatDoor
open Go.Lib (hid)
open Go.RowKit Go.Sort FR Go.Lib
variable {g:G}{f:Int->Option C}{S:LS}{L inn:List Ed}{T:List Int}{gk n:Nat}{mk:Nat->Bool}
theorem aI.drop1{w:World}{B g n m:Nat}{u:List Int}{z:Int}(h:aI w B (.slice (some ⟨g,0,none⟩) (n+1) m) (u++[z]))(U:u.length=n):aI w B (.slice (some ⟨g,0,none⟩) n m) u:=by
 obtain⟨h1,M⟩:=h;rcases M with⟨e,_⟩|⟨T,I,F,e,O,Q,P,R,Z,L⟩
 .cases e
 .injection e with k S J
  injection k with k;injection k with k
  subst k;subst J;refine⟨by simp,.inr ⟨g,m,F,by rw[U],O,Q,by simp at P;omega,R,Z,?_⟩⟩;have:=congrArg (List.take u.length) L;rw[List.take_take]at this;simp at this⊢;exact this
theorem iI{M:Array Oper}{I:List Oper}{o:Oper}{a:Act}{Q:Exit->Act->World->Prop}(w:World)(g:o.guard=none)(s x:Operand)(ho:o.op=.call {callee:=.builtin .append,args:=#[s,x],argTypes:=#[22,22]})(A:Option Addr)(n:Nat)(P O:List Int)(hs:a.eval s=.slice A n n)(hn:P.length=n)(h0:0<n)(hI:Ints w A n (λk=>P.getD k 0))(ad:Addr)(m c:Nat)(hx:a.eval x=.slice (some ad) m c)(hm:O.length=m)(ac:0<m)(hc:∀k z,O[k]? =some z->w.cell? (ad.add k)=some (.int .i64 z))(hl:n+m<1099511627776)(h:∀R w',aI w' w.heap.size R (P++O)->Below w.heap.size w w'->wpList Tryz.prog M Q I (a.put o.dst R) w'):wpList Tryz.prog M Q (o::I) a w:=by
 obtain⟨i0,hi,S,T,ab⟩:=info_parts mD;refine wpList_append_grows w g s x 22 ho 3 i0 (.int .i64 0) 1 8 Tryz.underlying22 hi S T ab rfl (by decide) A n n (P.map (Value.int .i64)) hs ?_ (by rw[List.length_map];omega) ?_ ad m c (O.map (Value.int .i64)) hx (by rw[List.length_map];omega) ?_ ?_ (by omega) ?_ ?_ ?_
 .intro e
  obtain⟨U,Z,_⟩:=hI h0;rw[Z]at e;cases e
 .intro b hb j u B
  rw[List.getElem?_map]at B;cases F:P[j]? with
  |none=>rw[F]at B;cases B
  |some z=>
   rw[F]at B;simp at B;subst B;obtain⟨U,Z,_,J⟩:=hI h0;have e2:=Option.some.inj (hb.symm.trans Z);subst e2;have L:=(List.getElem?_eq_some_iff.1 F).1;have:=J j (hn▸L);simp only[List.getD_eq_getElem?_getD,F,Option.getD_some]at this;exact this
 .intro j u B
  rw[List.getElem?_map]at B;cases F:O[j]? with
  |none=>rw[F]at B;cases B
  |some z=>rw[F]at B;simp at B;subst B;exact hc j z F
 .intro u B
  rw[List.mem_map]at B;obtain⟨z,_,rfl⟩:=B;rfl
 .unfold maxLen;omega
 .omega
 .intro R w' h1 h2
  refine h R w' ?_ ?_
  .unfold aI
   rw[List.length_append,hm,hn,List.map_append];exact h1
  .exact(Below.refl w.heap.size w).grown h2 (Nat.le_refl _) (λk hk=>nomatch hk)
def mkV(mk:Nat->Bool)(j:Nat):Option Value:=if mk j=true then some (.bool true)else none
theorem OX(mk:Nat->Bool)(k:Nat):FR.upd (mkV mk) k (some (.bool true))=mkV (FR.upd mk k true):=by
 funext j;unfold FR.upd mkV;by_cases h:j=k<;>simp[h]
theorem LV:(λ_=>none:Int->Option Value)=eD (mkV λ_=>false):=(nA (λ_=>rfl)).symm
structure xc (g:G) (S:LS) (inn:List Ed) (mk:Nat->Bool) (T:List Int) (n:Nat) (L:List Ed) (j:Nat) (gk:Nat):Prop where
 cor:∀a,mk a=true->g.ak a
 ends:∀e∈inn,∀t:Nat,e.to_=t->g.ak t->mk t=true\/(t:Int)∈T
 up:∀a b c m,mk a=true->S.eg a b=some (c,m)->S.lev a<S.lev b->mk b=true\/(b:Int)∈T\/(a=n/\∃(i:Nat)(x:Ed),j<=i/\L[i]? =some x/\x.to_=(b:Nat))
 me:T.length+(L.length-j)+300*(257-dG mk 257)<=gk
 len:T.length<=gk
 dn:(∀a,mk a=true->PY g S inn a)/\(∀t:Nat,(t:Int)∈T->g.ak t->PY g S inn t)/\∀x∈L,mk n=true/\∃(t:Nat)(c:C)(m:Int),x.to_=(t:Nat)/\S.eg n t=some (c,m)
theorem xc.fin{fin:Nat->Option C}(I:xc g S inn mk [] n L L.length gk)(J:∀t,fin t≠none->∃e∈inn,e.to_=(t:Nat)):∀b,LS.oJ S (λt=>g.ak t/\fin t≠none) b->mk b=true:=by
 rintro b ⟨t,c,⟨B,F⟩,u⟩;obtain⟨e,k,M⟩:=J t F;have z:mk t=true:=(I.ends e k t M B).resolve_right (by simp)
 induction u with
 |nil=>exact z
 | @snoc x b d e u k O=>
  obtain⟨P,m,Q⟩:=k;rcases I.up x b _ m O Q P with r|r|⟨_,i,y,U,R,_⟩
  .exact r
  .simp at r
  .have:=(List.getElem?_eq_some_iff.1 R).1;omega
theorem xc.start(B:∀e∈inn,e.to_∈T)(k:∀z∈T,∃e∈inn,e.to_=z)(n:Nat):xc g S inn (λ_=>false) T n [] 0 (T.length+300*257):=
 ⟨λ_ h=>(by cases h),λe I t u _=>.inr (by rw[<-u];exact B e I),λ_ _ _ _ h=>(by cases h),by rw[xM];simp,by omega,λ_ h=>(by cases h),λt u F=>⟨t,_,k _ u,F,.nil t⟩,λ_ h=>(by simp at h)⟩
theorem xc.skip{z:Int}(I:xc g S inn mk (T++[z]) n L L.length gk)(F:∀t:Nat,z=t->g.ak t->mk t=true)(H:Nw g S):xc g S inn mk T n L L.length (gk-1)/\0<gk:=by
 have J:=I.me;simp only[List.length_append,List.length_singleton]at J;refine⟨⟨I.cor,λe u t B k=>?_,λa b c m M u O=>?_,by omega,by omega,I.dn.1,λt B k=>I.dn.2.1 t (List.mem_append_left _ B) k,I.dn.2.2⟩,by omega⟩
 .rcases I.ends e u t B k with q|q
  .exact .inl q
  .rcases List.mem_append.1 q with q|q
   .exact .inr q
   .exact .inl (F t (List.mem_singleton.1 q).symm k)
 .rcases I.up a b c m M u O with q|q|q
  .exact .inl q
  .rcases List.mem_append.1 q with q|q
   .exact .inr (.inl q)
   .exact .inl (F b (List.mem_singleton.1 q).symm (H a b (by rw[u];simp)).2.1)
  .exact .inr (.inr q)
theorem xc.mark{x n gk:Nat}(B:g.ok)(u:Nw g S)(I:xc g S inn mk (T++[(x:Int)]) n L L.length gk)(J:g.ak x)(U:mk x=false):xc g S inn (FR.upd mk x true) T x (gz S g.n x) 0 (gk-1)/\0<gk:=by
 have hn:=G.bR B;have M:=I.me;have h2:dG (FR.upd mk x true) 257=dG mk 257+1:=p8 (by have:=J.1;omega) U;have h3:=iN (FR.upd mk x true) 257;have h4:=fq S g.n x;have O:=I.len;simp only[List.length_append,List.length_singleton]at M O
 have keep:∀a,mk a=true->FR.upd mk x true a=true:=λa k=>by
  by_cases e:a=x
  .rw[e];exact upd_same _ _ _
  .rw[upd_ne _ _ e];exact k
 refine⟨⟨λa k=>?_,λe z t F u=>?_,λa b c m k z R=>?_,by omega,by omega,λa k=>?_,λt F u=>I.dn.2.1 t (List.mem_append_left _ F) u,λy Z=>?_⟩,by omega⟩
 .by_cases e:a=x
  .rw[e];exact J
  .rw[upd_ne _ _ e]at k;exact I.cor a k
 .rcases I.ends e z t F u with q|q
  .exact .inl (keep t q)
  .rcases List.mem_append.1 q with q|q
   .exact .inr q
   .have:t=x:=by simp at q;omega
    subst this;exact .inl (upd_same _ _ _)
 .by_cases e:a=x
  .subst e
   have P:=(u a b (by rw[z];simp)).2.1;have:(⟨(b:Nat),c,m⟩:Ed)∈gz S g.n a:=fw.2 ⟨b,P.1,rfl,z⟩;obtain⟨i,Q⟩:=List.getElem?_of_mem this;exact .inr (.inr ⟨rfl,i,_,Nat.zero_le _,Q,rfl⟩)
  .rw[upd_ne _ _ e]at k
   rcases I.up a b c m k z R with q|q|⟨_,i,y,r1,r2,_⟩
   .exact .inl (keep b q)
   .rcases List.mem_append.1 q with q|q
    .exact .inr (.inl q)
    .have:b=x:=by simp at q;omega
     subst this;exact .inl (upd_same _ _ _)
   .have:=(List.getElem?_eq_some_iff.1 r2).1;omega
 .by_cases e:a=x
  .rw[e];exact I.dn.2.1 x (by simp) J
  .rw[upd_ne _ _ e]at k;exact I.dn.1 a k
 .obtain⟨t,_,q1,q2⟩:=fw.1 Z
  exact⟨upd_same _ _ _,t,_,_,q1,q2⟩
theorem xc.next{g:G}{S:LS}{inn:List Ed}{mk:Nat->Bool}{T T':List Int}{n gk j:Nat}{L:List Ed}(I:xc g S inn mk T n L j gk){e:Ed}(k:L[j]? =some e)(B:(T'=T++[e.to_]/\∀b:Nat,e.to_=b->S.lev n<S.lev b)\/(T'=T/\∀b:Nat,e.to_=b->¬S.lev n<S.lev b)):xc g S inn mk T' n L (j+1) gk:=by
 have hj:=(List.getElem?_eq_some_iff.1 k).1;have h1:=I.me;have h5:=I.len
 have sub:∀z∈T,z∈T':=λz Z=>by
  rcases B with⟨rfl,_⟩|⟨rfl,_⟩
  .exact List.mem_append_left _ Z
  .exact Z
 have U:T'.length<=T.length+1:=by
  rcases B with⟨rfl,_⟩|⟨rfl,_⟩
  .simp
  .omega
 refine⟨I.cor,λe k t J F=>(I.ends e k t J F).imp_right (sub _),λa b c m ha M R=>?_,by omega,by omega,I.dn.1,λt J F=>?_,I.dn.2.2⟩;rcases I.up a b c m ha M R with q|q|⟨q,i,y,r1,u,Q⟩
 .exact .inl q
 .exact .inr (.inl (sub _ q))
 .by_cases e1:i=j
  .subst e1
   rw[k]at u;injection u with u;subst u
   rcases B with⟨rfl,_⟩|⟨rfl,O⟩
   .exact .inr (.inl (List.mem_append_right _ (by rw[Q];simp)))
   .subst q;exact absurd R (O b Q)
  .exact .inr (.inr ⟨q,i,y,by omega,u,Q⟩)
 .rcases B with⟨rfl,P⟩|⟨rfl,_⟩
  .rcases List.mem_append.1 J with q|q
   .exact I.dn.2.1 t q F
   .have q:e.to_=(t:Nat):=(List.mem_singleton.1 q).symm
    obtain⟨k1,t',c,m,k2,k3⟩:=I.dn.2.2 e (List.mem_of_getElem? k);obtain rfl:t'=t:=by omega
    exact(I.dn.1 n k1).up (P t' q) k3
  .exact I.dn.2.1 t J F
theorem xc.done(I:xc g S inn mk T n L L.length gk)(h:T=[]):T=[]:=h
structure jM (inn:List Ed) (k:Nat) (f:Int->Option C):Prop where
 some_:∀z c,f z=some c->∃e∈inn,e.to_=z/\e.c=c
 least:∀(i:Nat)(e:Ed),i<k->inn[i]? =some e->∃c,f e.to_=some c/\C.le c e.c
theorem jM.start(inn:List Ed):jM inn 0 (λ_=>none):=⟨λ_ _ h=>(by cases h),λi e h=>by omega⟩
def M8(f:Int->Option C)(z:Int)(c:C):Int->Option C:=λy=>if y=z then some c else f y
def Eb(f:Int->Option C)(z:Int)(c:C):Bool:=match f z with|none=>true|some d=>decide (C.cmp c d<0)
def RD(f:Int->Option C)(z:Int)(c:C)(t:Bool):Int->Option C:=if t=true then M8 f z c else f
def lQ(f:Int->Option C)(z:Int):Option Value:=(f z).map oo
theorem KU(f:Int->Option C)(z:Int)(c:C):aL (lQ f) z (some (oo c))=lQ (M8 f z c):=by
 funext y;unfold aL lQ M8;split<;>rfl
theorem jM.step{k:Nat}(h:jM inn k f){e:Ed}(M:inn[k]? =some e):jM inn (k+1) (RD f e.to_ e.c (Eb f e.to_ e.c)):=by
 have R:=List.mem_of_getElem? M;cases B:Eb f e.to_ e.c with
 |false=>
  unfold RD;rw[if_neg (by simp)];refine⟨h.some_,λi x Q u=>?_⟩;by_cases I:i=k
  .subst I
   rw[M]at u;injection u with u;subst u
   unfold Eb at B;cases O:f e.to_ with
   |none=>rw[O]at B;cases B
   |some d=>
    rw[O]at B;simp at B;exact⟨d,rfl,C.uL.1 B⟩
  .exact h.least i x (by omega) u
 |true=>
  unfold RD;rw[if_pos rfl];refine⟨λz c F=>?_,λi x Q u=>?_⟩
  .unfold M8 at F
   split at F
   .rename_i q;injection F with F;exact⟨e,R,q.symm,F⟩
   .exact h.some_ z c F
  .unfold M8
   by_cases J:x.to_=e.to_
   .rw[if_pos J]
    refine⟨_,rfl,?_⟩;by_cases I:i=k
    .subst I
     rw[M]at u;injection u with u;subst u
     exact C.le_refl _
    .obtain⟨c,P,U⟩:=h.least i x (by omega) u
     rw[J]at P;unfold Eb at B;rw[P]at B;simp at B;exact C.le_trans (C.le_of_lt (C.fo.1 B)) U
   .rw[if_neg J]
    by_cases I:i=k
    .subst I
     rw[M]at u;injection u with u;subst u
     exact absurd rfl J
    .exact h.least i x (by omega) u
theorem Cy{out:List Ed}:∀s c,jZ g out s c->g.ak s:=λ_ _ h=>h.1
theorem Dj{tp:Nat}{mark:Nat->Bool}{out inn:List Ed}(H:LS.Fin g tp S)(B:g.ok)(J:jM inn inn.length f)(L:∀b,LS.oJ S (λt=>g.ak t/\f (t:Nat)≠none) b->mark b=true){c:C}(U:om (Ah S tp mark (λt=>f (t:Nat))) (jZ g out) 256 c):oG g out inn c true:=by
 obtain⟨Q,R⟩:=(LS.Cv H (G.bR B) Cy L).1 U;refine⟨(λh=>nomatch h),λ_=>⟨?_,?_⟩⟩
 .obtain⟨s,k,t,d,e,u,_,I,z,rfl⟩:=Q
  obtain⟨x,T,F,rfl⟩:=J.some_ _ _ z;exact⟨t,C.add k d,x,⟨s,k,d,u,I,rfl⟩,T,F,rfl⟩
 .rintro x ⟨t,c1,e,⟨s,k,d,u,I,rfl⟩,Z,F,rfl⟩
  obtain⟨i,M⟩:=List.getElem?_of_mem Z;obtain⟨P,O,q2⟩:=J.least i e (List.getElem?_eq_some_iff.1 M).1 M;rw[F]at O;exact C.le_trans (R _ ⟨s,k,t,d,P,u,u.1,I,O,rfl⟩) (C.add_le_add (C.le_refl _) q2)
theorem GZ{tp:Nat}{mark:Nat->Bool}{out inn:List Ed}(H:LS.Fin g tp S)(k:g.ok)(O:jM inn inn.length f)(P:∀b,LS.oJ S (λt=>g.ak t/\f (t:Nat)≠none) b->mark b=true)(J:∀d,¬FR.Reach (Ah S tp mark (λt=>f (t:Nat))) (jZ g out) 256 d):oG g out inn C.zero false:=by
 refine⟨λ_=>⟨rfl,?_⟩,(λh=>nomatch h)⟩;rintro x ⟨t,Z,e,⟨s,I,d,z,R,rfl⟩,M,Q,rfl⟩;obtain⟨i,u⟩:=List.getElem?_of_mem M;obtain⟨F,B,L⟩:=O.least i e (List.getElem?_eq_some_iff.1 u).1 u;rw[Q]at B;obtain⟨y,U,_⟩:=LS.EN (src:=jZ g out) (fin:=λt=>f (t:Nat)) H (G.bR k) P ⟨s,I,t,d,F,z,z.1,R,B,rfl⟩;exact J y U
def QX(lab:Nat->Option C)(bk:Nat->Int)(j:Nat):Option Value:=(lab j).map λ_=>.int .i64 (bk j)
theorem NP(lab:Nat->Option C)(bk:Nat->Int)(k:Nat)(c:C)(z:Int):FR.upd (QX lab bk) k (some (.int .i64 z))=QX (FR.upd lab k (some c)) (FR.upd bk k z):=by
 funext j;unfold FR.upd QX;split<;>simp_all
structure oh (W w:World) (x l mk me mc mb q:Nat) (gv:Value) (Sh:List Nat) (mkM enM:Int->Option Value) (lab hp:Nat->Option C) (bk:Nat->Int):Prop where
 hx:w.heap[x]? =some (.cells #[.pointer (some ⟨l,0,none⟩),gv,.map (some mk),.map (some me),.map (some mc),.map (some mb),.pointer (some ⟨q,0,none⟩)] 250 (0,0))
 mapK:∃n,MapAt iK w mk mkM n
 mapE:∃n,MapAt iK w me enM n
 mapC:∃n,MapAt iK w mc (eD (fH lab)) n
 mapB:∃n,MapAt iK w mb (eD (QX lab bk)) n
 heap:bf w Sh q (bC hp 257) (pM hp)
 ne:x≠mc/\x≠mb/\mk≠mc/\mk≠mb/\me≠mc/\me≠mb/\mc≠mb
 dis:x∉Sh/\mk∉Sh/\me∉Sh/\mc∉Sh/\mb∉Sh
 own:W.heap.size<=mc/\W.heap.size<=mb/\∀k∈Sh,W.heap.size<=k
 bel:Below W.heap.size W w
section
variable {hp2:Nat->Option C}
variable {W w w':World} {x l mk me mc mb q:Nat} {gv:Value} {Sh:List Nat} {mkM enM:Int->Option Value} {lab hp:Nat->Option C} {bk:Nat->Int}
theorem oh.below(h:oh W w x l mk me mc mb q gv Sh mkM enM lab hp bk)(g:Below w.heap.size w w'):oh W w' x l mk me mc mb q gv Sh mkM enM lab hp bk:=by
 obtain⟨k,⟨P,u⟩,⟨Q,z⟩,⟨R,B⟩,⟨S,F⟩,O,I,J,L,M⟩:=h;exact⟨(g.block x (Array.getElem?_eq_some_iff.1 k).1).trans k,⟨P,u.below g⟩,⟨Q,z.below g⟩,⟨R,B.below g⟩,⟨S,F.below g⟩,O.below g,I,J,L,aa M (g.mono (Nat.le_refl _))⟩
theorem oh.q9(h:oh W w x l mk me mc mb q gv Sh mkM enM lab hp bk):x<w.heap.size/\mk<w.heap.size/\me<w.heap.size/\mc<w.heap.size/\mb<w.heap.size/\∀k∈Sh,k<w.heap.size:=by
 obtain⟨I,⟨P,g⟩,⟨Q,u⟩,⟨R,z⟩,⟨S,B⟩,F,J,L,M,O⟩:=h;exact⟨(Array.getElem?_eq_some_iff.1 I).1,g.lt,u.lt,z.lt,B.lt,F.lt⟩
theorem oh.cells(h:oh W w x l mk me mc mb q gv Sh mkM enM lab hp bk):w.cell? ⟨x,0,none⟩=some (.pointer (some ⟨l,0,none⟩))/\w.cell? ⟨x,1,none⟩=some gv/\w.cell? ⟨x,2,none⟩=some (.map (some mk))/\w.cell? ⟨x,3,none⟩=some (.map (some me))/\w.cell? ⟨x,4,none⟩=some (.map (some mc))/\w.cell? ⟨x,5,none⟩=some (.map (some mb))/\w.cell? ⟨x,6,none⟩=some (.pointer (some ⟨q,0,none⟩)):=by
 have:=h.hx;simp[World.cell?,this]
theorem oh.pushed{u:Value}{e:Ending}(h:oh W w x l mk me mc mb q gv Sh mkM enM lab hp bk)(hD:pO w Sh q (bC hp2 257) (pM hp2) u e w'):∃B,oh W w' x l mk me mc mb q gv B mkM enM lab hp2 bk/\(∀k∈B,k∈Sh\/w.heap.size<=k)/\Kept Sh w w':=by
 obtain⟨_,B,T,F,z⟩:=hD;obtain⟨R,l2,l3,l4,l5,_⟩:=h.q9;obtain⟨hx,⟨n1,U⟩,⟨n2,Z⟩,⟨n3,h3⟩,⟨n4,h4⟩,hh,h5,⟨L,M,O,P,Q⟩,⟨o1,o2,S⟩,I⟩:=h
 have g:∀k,k∉Sh->k<w.heap.size->k∉B:=λk J hl hm=>by
  rcases F k hm with r|r
  .exact J r
  .omega
 refine⟨B,⟨(z.block x R L).trans hx,⟨n1,U.kept z M⟩,⟨n2,Z.kept z O⟩,⟨n3,h3.kept z P⟩,⟨n4,h4.kept z Q⟩,T,h5,⟨g _ L R,g _ M l2,g _ O l3,g _ P l4,g _ Q l5⟩,⟨o1,o2,λk J=>?_⟩,Kept.below I z I.size S⟩,F,z⟩;rcases F k J with r|r
 .exact S k r
 .exact Nat.le_trans I.size r
theorem oh.popped(h:oh W w x l mk me mc mb q gv Sh mkM enM lab hp bk)(R:bf w' Sh q (bC hp2 257) (pM hp2))(g:Kept Sh w w'):oh W w' x l mk me mc mb q gv Sh mkM enM lab hp2 bk:=by
 obtain⟨T,l2,l3,l4,l5,_⟩:=h.q9;obtain⟨S,⟨U,L⟩,⟨Z,M⟩,⟨n3,O⟩,⟨n4,P⟩,hh,Q,⟨k,u,z,B,F⟩,⟨o1,o2,J⟩,I⟩:=h;exact⟨(g.block x T k).trans S,⟨U,L.kept g u⟩,⟨Z,M.kept g z⟩,⟨n3,O.kept g B⟩,⟨n4,P.kept g F⟩,R,Q,⟨k,u,z,B,F⟩,⟨o1,o2,J⟩,Kept.below I g I.size J⟩
theorem oh.laid{w1 w2:World}{b O P:Nat}{cs F z:Int}(h:oh W w x l mk me mc mb q gv Sh mkM enM lab hp bk)(J:MapAt iK w1 mc (aL (eD (fH lab)) ((b:Nat):Int) (some (.agg #[.int .i64 cs,.int .i64 F]))) O)(g:Kept [mc] w w1)(L:MapAt iK w2 mb (aL (eD (QX lab bk)) ((b:Nat):Int) (some (.int .i64 z))) P)(u:Kept [mb] w1 w2):oh W w2 x l mk me mc mb q gv Sh mkM enM (FR.upd lab b (some ⟨cs,F⟩)) hp (FR.upd bk b z):=by
 rw[qD,show(some (Value.agg #[.int .i64 cs,.int .i64 F]):Option Value)=some (oo ⟨cs,F⟩)from rfl,xR]at J;rw[qD,NP lab bk b ⟨cs,F⟩ z]at L;obtain⟨l1,l2,l3,l4,l5,_⟩:=h.q9;have ab:=g.size;obtain⟨hx,⟨O,h1⟩,⟨P,h2⟩,⟨n3,h3⟩,⟨n4,h4⟩,hh,⟨S,T,U,Z,e5,e6,e7⟩,⟨d1,d2,d3,Q,R⟩,⟨o1,o2,o3⟩,M⟩:=h;refine⟨(u.block x (by omega) (by simpa using T)).trans ((g.block x l1 (by simpa using S)).trans hx),⟨O,(h1.kept g (by simpa using U)).kept u (by simpa using Z)⟩,⟨P,(h2.kept g (by simpa using e5)).kept u (by simpa using e6)⟩,⟨_,J.kept u (by simpa using e7)⟩,⟨_,L⟩,?_,⟨S,T,U,Z,e5,e6,e7⟩,⟨d1,d2,d3,Q,R⟩,⟨o1,o2,o3⟩,?_⟩
 .refine(hh.kept g λk B I=>?_).kept u λk B I=>?_
  .simp at I;subst I;exact Q B
  .simp at I;subst I;exact R B
 .refine Kept.below (Kept.below M g M.size ?_) u (by have:=M.size;omega) ?_
  .intro k B;simp at B;subst B;exact o1
  .intro k B;simp at B;subst B;exact o2
end
variable {g:G}{S:LS}{L inn:List Ed}{T:List Int}{gk j mm n x:Nat}{mk:Nat->Bool}{A:Option Addr}{tv:Value}{W w w':World}
def kQ(W:World)(gf:Nat)(gc:Array Value)(g:G)(h:Nat->C):Prop:=
 (∀(args:Array Value)(w:World),(callFunc gf args).run Tryz.prog w=.ok (.enter gf args) w)/\∀w,Below W.heap.size W w->∀n:Nat,g.ak n->Calls Tryz.prog gf (#[.int .i64 (n:Nat)]++gc) w λe w'=>e=.returned (.agg #[.int .i64 (h n).s,.int .i64 (h n).d])/\Below w.heap.size w w'
structure Ad (W w:World) (mm:Nat) (mk:Nat->Bool) (tv:Value) (T:List Int):Prop where
 map:∃n,MapAt iK w mm (eD (mkV mk)) n
 own:aI w W.heap.size tv T
 ne:tv.ownBlock≠some mm
 at_:W.heap.size<=mm
 bel:Below W.heap.size W w
theorem Ad.below(h:Ad W w mm mk tv T)(k:Below w.heap.size w w'):Ad W w' mm mk tv T:=by
 obtain⟨⟨n,u⟩,z,B,F,I⟩:=h;exact⟨⟨n,u.below k⟩,z.below (B':=0) k,B,F,aa I (k.mono (Nat.le_refl _))⟩
theorem Ad.push{tv u:Value}{T T':List Int}(h:Ad W w mm mk tv T)(R:aI w' W.heap.size u T')(k:w.grownBy w' tv.ownBlock)(z:u.ownBlock=tv.ownBlock\/u.ownBlock=some w.heap.size):Ad W w' mm mk u T':=by
 obtain⟨⟨n,B⟩,M,F,O,I⟩:=h;have Z:=B.lt;have P:Kept tv.ownBlock.toList w w':=⟨k.os,k.tape,k.output,k.size,λq U Q=>k.block q U (λe=>Q (by rw[<-e];simp))⟩;refine⟨⟨n,B.kept P λJ=>F (by rw[Option.mem_toList]at J;exact J)⟩,R,λe=>?_,O,below_grown I I.size M k⟩;rcases z with q|q
 .exact F (by rw[<-q];exact e)
 .rw[q]at e;injection e with e;omega
theorem Ad.drop{mm g n m:Nat}{z:Int}(h:Ad W w mm mk (.slice (some ⟨g,0,none⟩) (n+1) m) (T++[z]))(k:T.length=n):Ad W w mm mk (.slice (some ⟨g,0,none⟩) n m) T:=
 ⟨h.map,h.own.drop1 k,h.ne,h.at_,h.bel⟩
theorem Ad.mark{t:Nat}(h:Ad W w mm mk tv T)(I:MapAt iK w' mm (aL (eD (mkV mk)) ((t:Nat):Int) (some (.bool true))) n)(u:Kept [mm] w w'):Ad W w' mm (FR.upd mk t true) tv T:=by
 rw[qD,OX]at I;obtain⟨_,J,z,B,F⟩:=h;refine⟨⟨n,I⟩,?_,z,B,Kept.below F u F.size (λk u=>by simp at u;subst u;exact B)⟩;refine World.ownsRow.kept (row:=some mm) J ⟨u.os,u.tape,u.output,u.size,λk M O=>u.block k M (by simpa using λe=>O (by rw[e]))⟩ ?_;cases P:tv.ownBlock with
 |none=>exact .inl rfl
 |some q=>exact .inr (by rw[<-P];exact z)
def Uh(w:World)(g:G)(S:LS)(inn:List Ed)(e:Ending)(w':World):Prop:=∃mm mk,e=.returned (.map (some mm))/\(∃n,MapAt iK w' mm (eD (mkV mk)) n)/\w.heap.size<=mm/\Below w.heap.size w w'/\
 (∀f:Nat->Option C,(∀t,f t≠none->∃e∈inn,e.to_=(t:Nat))->∀b,LS.oJ S (λt=>g.ak t/\f t≠none) b->mk b=true)/\∀b,mk b=true->PY g S inn b
theorem LU(h:MapAt iK w mm (eD (mkV mk)) n)(z:Int)(u:Bool)(F:(0<=z/\mk z.toNat=true)↔u=true):∀w',Below w.heap.size w w'->(Instr.lookup 244 (.map (some mm)) (.int .i64 z) false).run Tryz.prog w'=.ok (.bool u) w':=λw' I=>by
 have:=((h.below I).look (aG Tryz.underlying3) Tryz.underlying244 (rA w') z).2
 have e:((eD (mkV mk) z).getD (.bool false))=.bool u:=by
  unfold eD mkV;by_cases k:0<=z
  .rw[if_pos k]
   by_cases B:mk z.toNat=true
   .rw[if_pos B,F.1 ⟨k,B⟩];rfl
   .rw[if_neg B]
    cases u with
    |false=>rfl
    |true=>exact absurd (F.2 rfl).2 B
  .rw[if_neg k]
   cases u with
   |false=>rfl
   |true=>exact absurd (F.2 rfl).1 k
 rw[e]at this;exact this
def Si(W:World)(mm:Nat)(g:G)(S:LS)(inn:List Ed)(gk:Nat)(tv:Value)(wr:World):Prop:=∃mk T n L,Ad W wr mm mk tv T/\xc g S inn mk T n L L.length gk
def JW(W:World)(mm:Nat)(g:G)(S:LS)(inn:List Ed)(mk:Nat->Bool)(x:Nat)(A:Option Addr)(L:List Ed)(gk j:Nat)(tv:Value)(wr:World):Prop:=
 ∃T,Ad W wr mm mk tv T/\xc g S inn mk T x L j gk/\bQ wr A L/\(0<L.length->∀ad,A=some ad->tv.ownBlock≠some ad.block)
theorem JW.push{tv F:Value}{e:Ed}(R:Ad W w mm mk tv T)(Q:xc g S inn mk T x L j gk)(M:bQ w A L)(J:0<L.length->∀k,A=some k->tv.ownBlock≠some k.block)(U:L[j]? =some e)(I:∀b:Nat,e.to_=b->S.lev x<S.lev b)(ho:aI w' W.heap.size F (T++[e.to_]))(u:w.grownBy w' tv.ownBlock)(z:F.ownBlock=tv.ownBlock\/F.ownBlock=some w.heap.size):JW W mm g S inn mk x A L gk (j+1) F w':=by
 have Z:Kept tv.ownBlock.toList w w':=⟨u.os,u.tape,u.output,u.size,λq hq hn=>u.block q hq (λe=>hn (by rw[<-e];simp))⟩;refine⟨_,R.push ho u z,Q.next U (.inl ⟨rfl,I⟩),λB=>?_,λB k e=>?_⟩
 .exact(M.kept (T:=tv.ownBlock.toList) Z (λk e O=>J B k e (by rw[Option.mem_toList]at O;exact O))) B
 .rcases z with q|q
  .rw[q];exact J B k e
  .rw[q]
   obtain⟨g',P,ab,_⟩:=M B;rw[P]at e;injection e with e;subst e
   simp;omega
theorem JW.skip{x gk j t:Nat}{e:Ed}(I:Ad W w mm mk tv T)(F:xc g S inn mk T x L j gk)(B:bQ w A L)(z:0<L.length->∀u,A=some u->tv.ownBlock≠some u.block)(J:L[j]? =some e)(O:e.to_=(t:Nat))(k:¬S.lev x<S.lev t):JW W mm g S inn mk x A L gk (j+1) tv w:=
 ⟨_,I,F.next J (.inr ⟨rfl,λb M=>by obtain rfl:t=b:=by omega
                                   exact k⟩),B,z⟩
theorem JW.below(h:JW W mm g S inn mk x A L gk j tv w)(k:Below w.heap.size w w'):JW W mm g S inn mk x A L gk j tv w':=by
 obtain⟨T,u,z,B,F⟩:=h;exact⟨T,u.below k,z,B.below k,F⟩
theorem MO(w:World)(b ml me nl:Nat)(Sb:List Nat)(top:Int)(g:G)(S:LS)(bk:g.ok)(hc:Nw g S)(h:cz w b ml me Sb top (bH g S) nl (gK g S))(A0:Option Addr)(n0 m0:Nat)(inn:List Ed)(hI:oH w A0 inn)(ca:inn.length=n0)(cy:n0<=1000):Calls Tryz.prog 144 #[.pointer (some ⟨b,0,none⟩),.slice A0 n0 m0] w (Uh w g S inn):=by
 have hn:=G.bR bk;have ao:=@run_makeMap Tryz.prog;have H:=hid h;have Hc:=hid (And.intro hc bk);have HI:=hid hI;have Hn:=hid (And.intro hn ca);clear h hc bk hI hn ca;go_enter Tryz.func144,Tryz.ntmps144;go_upto_region 2 with(fail);refine au ?_;intro W1 bd;have br:Below w.heap.size w W1:=by rw[bd];(repeat' (first|exact Below.refl _ _|assumption|apply aj|apply ah|apply af|(refine aa ?_ (by assumption))))
 have a9:MapAt iK W1 w.heap.size (λ_=>none) 0:=by rw[bd];exact MapAt.made w
 obtain⟨mm,cr⟩:∃mo,w.heap.size=mo:=⟨_,rfl⟩;rw[cr]at a9⊢;have bx:Ad w W1 mm (λ_=>false) (.slice none 0 0) []:=⟨⟨0,by rw[<-LV];exact a9⟩,aI.nil _ _,λe=>(nomatch e),by omega,br⟩;clear bd ao a9 br;go_wp2_with fail;go_loopw [6,21] (λtv kv wr=>∃i:Nat,kv=.int .i64 i/\i<=n0/\Ad w wr mm (λ_=>false) tv ((inn.take i).map Ed.to_)) (λ_ kv _=>n0-(intOf kv).toNat)
 case atStart=>exact⟨0,rfl,by omega,bx⟩
 case round=>
  obtain⟨i,rfl,hi,F⟩:=hrel;clear bx;by_cases R:i<n0
  .obtain⟨e,he⟩:∃e,inn[i]? =some e:=⟨inn[i]'(by rw[Hn.out.2];exact R),List.getElem?_eq_getElem _⟩
   obtain⟨gb,ob,hA,a1,a2,a3,a4⟩:=(HI.out.below F.bel).get he;have bi:=λwx=>Ri (m:=m0) hA R wx
   have aq:(inn.take (i+1)).map Ed.to_=(inn.take i).map Ed.to_++[e.to_]:=by
    obtain⟨q1,q2⟩:=List.getElem?_eq_some_iff.1 he;rw[List.take_succ_eq_append_getElem q1,List.map_append,q2];rfl
   have b6:((inn.take i).map Ed.to_).length<=1000:=by rw[List.length_map,List.length_take];omega
   obtain⟨T,hT⟩:∃T,(inn.take i).map Ed.to_=T:=⟨_,rfl⟩;rw[hT]at F aq b6;obtain⟨x,hx⟩:∃x,e.to_=x:=⟨_,rfl⟩;rw[hx]at a1 aq;obtain⟨xs,ck⟩:∃x,e.c.s=x:=⟨_,rfl⟩;obtain⟨xd,ci⟩:∃x,e.c.d=x:=⟨_,rfl⟩;obtain⟨xm,cj⟩:∃x,e.mid=x:=⟨_,rfl⟩;rw[ck]at a2;rw[ci]at a3;rw[cj]at a4;have cm:=hid aq;have P:=hid F;have cG:=F.bel.size;clear hA he hx ck ci cj aq hT F;go_upto_region 6 with(fail);refine au ?_;intro W2 be;have a5:Below wr.heap.size wr W2:=by rw[be];(repeat' (first|exact Below.refl _ _|assumption|apply aj|apply ah|apply af|(refine aa ?_ (by assumption))))
   have o0:W2.cell? ⟨wr.heap.size,0,none⟩=some (.int .i64 x):=by rw[be];go_simp
   obtain⟨b8,b2⟩:∃z,wr.heap.size=z:=⟨_,rfl⟩;have aE:=hid (P.out.below a5);have cF:=a5.size;rw[b2]at o0⊢;clear be a5 P a1 a2 a3 a4 bi b2;go_wp2_with (at_builtin;(refine dR _ rfl _ _ rfl w.heap.size _ T x rfl (aE.out.own.alloc _) ⟨W2.heap.size,0,none⟩ rfl (dm _ _ _) (by omega) (by simp;omega) ?_);intro v' w9 M J ag)
   have u:=(aE.out.below (af (Below.refl _ _))).push M J ag;rw[<-cm.out]at u;have u:=hid u;clear M J ag aE o0;go_wp2;go_roundw
   case rel=>first|exact⟨i+1,by go_num,by omega,u.out⟩|((repeat apply Exists.intro);exact⟨⟨i+1,by go_num,by omega,u.out⟩,rfl⟩)
   case measure=>simp[intOf];omega
  .obtain rfl:i=n0:=by omega
   rw[List.take_of_length_le (by rw[Hn.out.2];exact Nat.le_refl _)]at F;have a8:=xc.start (g:=g) (S:=S) (inn:=inn) (T:=inn.map Ed.to_) (λe he=>List.mem_map_of_mem he) (λz hz=>by obtain⟨e,h1,h2⟩:=List.mem_map.1 hz;exact⟨e,h1,h2⟩) 0;obtain⟨G0,a7⟩:∃z,(inn.map Ed.to_).length+300*257=z:=⟨_,rfl⟩;have bv:G0<=80000:=by rw[<-a7,List.length_map,Hn.out.2];omega
   rw[a7]at a8;have cd:Si w mm g S inn G0 u6 wr:=⟨_,_,0,[],F,a8⟩;clear F a8 a7;go_wp2_with fail;go_loopg [6] G0 (λgk tv wr=>gk<=80000/\Si w mm g S inn gk tv wr)
   case atStart=>exact⟨bv,cd⟩
   case round=>
    obtain⟨cw,mk,T,n,L,F,hM⟩:=hrel;clear cd;by_cases bc:T.length=0
    .have hT:T=[]:=List.length_eq_zero_iff.1 bc
     subst hT
     obtain⟨A6,m6,ar⟩:∃A m,u6=.slice A 0 m:=by
      obtain⟨A,m,e,_⟩:=F.own.ints;exact⟨A,m,e⟩
     subst ar;obtain⟨nm,ao⟩:=F.map;have u:Uh w g S inn (.returned (.map (some mm))) wr:=⟨mm,mk,rfl,⟨nm,ao⟩,F.at_,F.bel,λf hf=>xc.fin hM hf,hM.dn.1⟩;have u:=hid u;clear F hM ao;go_wp2;go_ret;exact u.out
    .obtain⟨T',z,co⟩:∃T' z,T=T'++[z]:=⟨T.dropLast,T.getLast (by rintro rfl;exact bc rfl),(List.dropLast_concat_getLast _).symm⟩
     subst co;obtain⟨g6,m6,ar,cq⟩:=F.own.addr (by simp);obtain⟨k,hk⟩:∃k,T'.length=k:=⟨_,rfl⟩;have hl:(T'++[z]).length=k+1:=by simp[hk]
     rw[hl]at ar cq;subst ar;have c6:wr.cell? ⟨g6,k,none⟩=some (.int .i64 z):=F.own.cell (by rw[<-hk];simp);have cx:k<=80000:=by have:=hM.len;rw[hl]at this;omega
     have bw:=F.drop hk;have cn:=hM;have P:=hid (And.intro bw hk);have HM:=hid hM;have cA:k<m6:=by omega
     have cB:k<=m6:=by omega
     have bh:=F.bel;clear F hM bw cn hk hl bc;by_cases U:∃t:Nat,z=t/\g.ak t
     .obtain⟨t,rfl,an⟩:=U
      have B:=fQ (g:=g) (S:=S) an;obtain⟨lt,R⟩:∃q,S.lev t=q:=⟨_,rfl⟩;rw[R]at B;have cV:=hid (jf wr b ml me nl Sb top (bH g S) (gK g S) (H.out.below bh) (t:Nat) _ B);have cE:=hid (λw'(hb:Below w.heap.size w w')=>sW w' b ml me nl Sb top (bH g S) (gK g S) (H.out.below hb) (t:Nat) _ B (gz S g.n t) (ja an) (by have:=fq S g.n t;have:=Hn.out.1;omega));have a6:=hid (And.intro an R);obtain⟨nM,ac⟩:=P.out.1.map;obtain⟨mt,bj⟩:∃q,mk t=q:=⟨_,rfl⟩;have cp:=LU ac ((t:Nat):Int) mt (by rw[<-bj];simp) wr (Below.refl _ _);have bt:=hid bj;have ac:=hid ac;clear B an R bj;go_wp2_with fail;(with_reducible refine cV.out.mono ?_);rintro e w' ⟨rfl,rfl⟩;clear cV;cases mt with
      |true=>
       obtain⟨Q,ab⟩:=HM.out.skip (λt' ht hc=>by obtain rfl:t=t':=by omega
                                                exact bt.out) Hc.out.1
       have u:gk-1<=80000/\Si w mm g S inn (gk-1) (.slice (some ⟨g6,0,none⟩) k m6) wr:=⟨by omega,_,_,n,L,P.out.1,Q⟩;have u:=hid u;clear Q HM P ac;go_wp2;go_roundg (gk-1)
       case measure=>omega
       case rel=>exact u.out
      |false=>
       obtain⟨Q,ab⟩:=HM.out.mark Hc.out.2 Hc.out.1 a6.out.1 bt.out;have bq:=hid Q;clear Q HM;go_wp2_with (refine dJ rfl _ _ _ rfl (aG Tryz.underlying3) Tryz.underlying244 ac.out rfl ((t:Nat):Int) rfl (.bool true) rfl ?_;intro w4 b9 b5);have bb:=P.out.1.mark b9 b5;have aS:=hid (And.intro bb P.out.2);have b0:=bb.bel;clear bb P b9 b5 ac cp c6 bh;go_wp2_with fail;(with_reducible refine(cE.out _ b0).mono ?_);rintro e w5 ⟨vE,rfl,ba,b1⟩;obtain⟨A1,m1,rfl,O⟩:=ba.Ag
       have hA1:0<(gz S g.n t).length->∀ad,A1=some ad->(Value.slice (some ⟨g6,0,none⟩) k m6).ownBlock≠some ad.block:=λab ad e hm=>by
        obtain⟨g',e1,_,_⟩:=O ab;rw[e1]at e;injection e with e;subst e
        have R:=(World.ownsRow.lt ba g' (by rw[e1];rfl)).1;have Z:=(World.ownsRow.lt aS.out.1.own g6 rfl).2;injection hm with hm
        simp only at hm;omega
       obtain⟨bo,ay⟩:∃q,FR.upd mk t true=q:=⟨_,rfl⟩;obtain⟨LE,am⟩:∃q,gz S g.n t=q:=⟨_,rfl⟩;have a0:=aS.out.1.below b1;have ai:=bq.out;rw[ay]at a0 ai;rw[am]at ai O hA1⊢;obtain⟨nL,ap⟩:∃q,LE.length=q:=⟨_,rfl⟩;have cl:nL<=256:=by have:=fq S g.n t;rw[am,ap]at this;exact Nat.le_trans this Hn.out.1
       have b4:JW w mm g S inn bo t A1 LE (gk-1) 0 (.slice (some ⟨g6,0,none⟩) k m6) w5:=⟨T',a0,ai,O,hA1⟩;rw[ap];have HL:=hid (And.intro am ap);clear ba O hA1 ay am ap aS a0 bq ai cE b1 b0;go_wp2_with fail;go_loopw [6,68] (λtv kv wr=>∃j:Nat,kv=.int .i64 j/\j<=nL/\JW w mm g S inn bo t A1 LE (gk-1) j tv wr) (λ_ kv _=>nL-(intOf kv).toNat)
       case atStart=>exact⟨0,rfl,by omega,b4⟩
       case round=>
        obtain⟨j,rfl,hj,T,F,hM,O,hA1⟩:=hrel;clear b4;by_cases b7:j<nL
        .obtain⟨e,he⟩:∃e,LE[j]? =some e:=⟨LE[j]'(by rw[HL.out.2];exact b7),List.getElem?_eq_getElem _⟩
         obtain⟨t2,cD,ce,bm⟩:=fw.1 (by rw[HL.out.1];exact List.mem_of_getElem? he:e∈gz S g.n t);obtain⟨gb,hA,a1,a2,a3,a4⟩:=O.get he;have bi:=λwx=>jy (m:=m1) hA b7 wx;obtain⟨xt,⟨xs,xd⟩,xm⟩:=e;simp only at a1 a2 a3 a4 ce bm;subst ce;have ax:=(Hc.out.1 t t2 (by rw[bm];simp)).2.1;have B:=fQ (g:=g) (S:=S) ax;obtain⟨cs,Z⟩:∃q,S.lev t2=q:=⟨_,rfl⟩;rw[Z]at B;have P:=hid (And.intro F (And.intro hM (And.intro O hA1)));have He:=hid (And.intro he Z);have cv:T.length<=80000:=by have:=hM.len;omega
         have b3:=F.bel;clear hA he bm ax Z F hM O hA1;go_upto_region 18 with(fail);refine au ?_;intro W6 bg;have al:Below wr.heap.size wr W6:=by rw[bg];(repeat' (first|exact Below.refl _ _|assumption|apply aj|apply ah|apply af|(refine aa ?_ (by assumption))))
         have o0:W6.cell? ⟨wr.heap.size,0,none⟩=some (.int .i64 (t2:Nat)):=by rw[bg];go_simp
         obtain⟨ct,aw⟩:∃q,wr.heap.size=q:=⟨_,rfl⟩;have bp:=aa b3 al;have I:=hid (And.intro (P.out.1.below al) (And.intro P.out.2.1 (And.intro (P.out.2.2.1.below al) P.out.2.2.2)));have cV:=hid (jf W6 b ml me nl Sb top (bH g S) (gK g S) (H.out.below bp) (t2:Nat) _ B);rw[aw]at o0⊢;have cC:=bp.size;clear bg al P a1 a2 a3 a4 bi aw B b3;go_wp2_with fail;(with_reducible refine cV.out.mono ?_);rintro e w' ⟨rfl,rfl⟩;clear cV;by_cases cg:lt<cs
         .go_wp2_with (at_builtin;(refine dR _ rfl _ _ rfl w.heap.size _ T ((t2:Nat):Int) rfl (I.out.1.own.alloc _) ⟨W6.heap.size,0,none⟩ rfl (dm _ _ _) (by omega) (by simp;omega) ?_);intro v' w9 M J ag)
          have hd:=af (Below.refl W6.heap.size W6) (o:=.cells #[.int .i64 (t2:Nat)] 3);have ch:S.lev t<S.lev t2:=by rw[a6.out.2,He.out.2];exact cg
          have u:=JW.push (I.out.1.below hd) I.out.2.1 (I.out.2.2.1.below hd) I.out.2.2.2 He.out.1 (λq hq=>(Int.ofNat_inj.1 hq)▸ch) M J ag;have u:=hid u;clear M J ag I o0 hd;go_wp2;go_roundw
          case rel=>first|exact⟨j+1,by go_num,by omega,u.out⟩|((repeat apply Exists.intro);exact⟨⟨j+1,by go_num,by omega,u.out⟩,rfl⟩)
          case measure=>simp[intOf];omega
         .have u:=JW.skip I.out.1 I.out.2.1 I.out.2.2.1 I.out.2.2.2 He.out.1 rfl (by rw[a6.out.2,He.out.2];exact cg)
          have u:=hid u;clear I o0;go_wp2;go_roundw
          case rel=>first|exact⟨j+1,by go_num,by omega,u.out.below (by(repeat' (first|exact Below.refl _ _|assumption|apply aj|apply ah|apply af|(refine aa ?_ (by assumption)))))⟩|((repeat apply Exists.intro);exact⟨⟨j+1,by go_num,by omega,u.out.below (by(repeat' (first|exact Below.refl _ _|assumption|apply aj|apply ah|apply af|(refine aa ?_ (by assumption)))))⟩,rfl⟩)
          case measure=>simp[intOf];omega
        .obtain rfl:j=nL:=by omega
         have u:gk-1<=80000/\Si w mm g S inn (gk-1) u6 wr:=⟨by omega,bo,T,t,LE,F,by rw[HL.out.2];exact hM⟩;have u:=hid u;clear F hM O hA1;go_wp2;go_roundg (gk-1)
         case measure=>omega
         case rel=>exact u.out
     .have cb:¬(0<=z/\g.ak z.toNat):=λ⟨h1,h2⟩=>U ⟨z.toNat,by omega,h2⟩
      have cV:=hid (sZ wr b ml me nl Sb top (bH g S) (gK g S) (H.out.below bh) z (rT cb));obtain⟨Q,ab⟩:=HM.out.skip (λt ht hc=>absurd ⟨t,ht,hc⟩ U) Hc.out.1;have u:gk-1<=80000/\Si w mm g S inn (gk-1) (.slice (some ⟨g6,0,none⟩) k m6) wr:=⟨by omega,_,_,n,L,P.out.1,Q⟩;have u:=hid u;clear Q HM U cb P;go_wp2_with fail;(with_reducible refine cV.out.mono ?_);rintro e w' ⟨rfl,rfl⟩;clear cV;go_wp2;go_roundg (gk-1)
      case measure=>omega
      case rel=>exact u.out
def Sn(W w:World)(x l mk me mc mb q:Nat)(gv:Value)(Sh:List Nat)(mkM enM:Int->Option Value)(lab hp:Nat->Option C)(bk:Nat->Int)(e:Ending)(w':World):Prop:=
 e=.returned (.tuple #[])/\∃S',oh W w' x l mk me mc mb q gv S' mkM enM lab hp bk/\(∀k∈S',k∈Sh\/w.heap.size<=k)/\Kept (mc::mb::Sh) w w'
theorem Sn.out{x l mk me mc mb q:Nat}{gv:Value}{Sh:List Nat}{mkM enM:Int->Option Value}{lab hp:Nat->Option C}{bk:Nat->Int}{e:Ending}(h:Sn W w x l mk me mc mb q gv Sh mkM enM lab hp bk e w'):∃k,oh W w' x l mk me mc mb q gv k mkM enM lab hp bk/\Kept (mc::mb::Sh) w w'/\∀b,b<w.heap.size->b∉mc::mb::Sh->b∉mc::mb::k:=by
 obtain⟨_,k,B,F,I⟩:=h;refine⟨k,B,I,λb J u z=>?_⟩;simp only[List.mem_cons,not_or]at u z;rcases z with r|r|r
 .exact u.1 r
 .exact u.2.1 r
 .rcases F b r with r|r
  .exact u.2.2 r
  .omega
theorem zX(W w:World)(x l mk me mc mb q gf:Nat)(gc:Array Value)(Sh:List Nat)(mkM enM:Int->Option Value)(lab hp:Nat->Option C)(bk:Nat->Int)(g:G)(h:Nat->C)(cN:g.ok)(hS:oh W w x l mk me mc mb q (.func (.func gf) #[] gc) Sh mkM enM lab hp bk)(hg:kQ W gf gc g h)(a8:h 256=C.zero)(a6:∀j,g.ak j->0<=(h j).s/\(h j).s<=1000/\0<=(h j).d/\(h j).d<=1000)(b:Nat)(hb:g.ak b\/b=256)(bi:Int)(cJ:bi=(b:Nat))(z cs I:Int)(hc:0<=cs/\cs<=20000000/\0<=I/\I<=20000000)(tb:Bool)(cB:lower? lab b ⟨cs,I⟩=tb)(be:∀d,lab b=some d->0<=d.s/\d.s<=20000000/\0<=d.d/\d.d<=20000000)(B:tb=true->lower? hp b (C.add ⟨cs,I⟩ (h b))=true):Calls Tryz.prog 148 #[.pointer (some ⟨x,0,none⟩),.int .i64 bi,.int .i64 z,.agg #[.int .i64 cs,.int .i64 I]] w (Sn W w x l mk me mc mb q (.func (.func gf) #[] gc) Sh mkM enM (pushed lab b ⟨cs,I⟩ tb) (pushed hp b (C.add ⟨cs,I⟩ (h b)) tb) (if tb=true then FR.upd bk b z else bk)):=by
 subst cJ;have hn:=G.bR cN;have br:b<257:=hb.elim (λr=>by have:=r.1;omega) (λr=>by omega);obtain⟨k0,k1,_,_,k4,k5,k6⟩:=hS.cells;obtain⟨l1,l2,l3,l4,l5,l6⟩:=hS.q9;obtain⟨nC,ao⟩:=hS.mapC;have b3:=hid ao;have HS:=hid hS;have Hg:=hid hg;have cF:=hid a6;have cb:=hid B;have a7:=hid a8;have ca:=hid be;have Hb:=hid hb;have cr:=hid l6;have ce:=hid cB;have bb:aV cs/\aV I:=by unfold aV;omega
 clear ao hS hg a6 B a8 be hb l6 cB;go_enter Tryz.func148,Tryz.ntmps148;go_upto_region 1 with(fail);refine au ?_;intro W1 a3;have U:Below w.heap.size w W1:=by rw[a3];(repeat' (first|exact Below.refl _ _|assumption|apply aj|apply ah|apply af|(refine aa ?_ (by assumption))))
 have T:W1.cell? ⟨w.heap.size,0,none⟩=some (.int .i64 cs):=by rw[a3];go_simp
 have c1:W1.cell? ⟨w.heap.size,1,none⟩=some (.int .i64 I):=by rw[a3];go_simp
 obtain⟨J,cI⟩:∃z,w.heap.size=z:=⟨_,rfl⟩;have k0:=ae U k0;have k1:=ae U k1;have k4:=ae U k4;have k5:=ae U k5;have k6:=ae U k6;have b4:=hid (HS.out.below U);have am:=b3.out.below U;rw[cI]at T c1⊢;have cU:J<W1.heap.size:=World.block_lt_of_cell? _ _ T;clear a3 b3
 obtain⟨vs,vd,is,cM,bc,bd⟩:∃vs vd is,(Instr.lookup 246 (.map (some mc)) (.int .i64 ((b:Nat):Int)) true).run Tryz.prog W1=.ok (.tuple #[.agg #[.int .i64 vs,.int .i64 vd],.bool is]) W1/\(is=true->lab b=some ⟨vs,vd⟩)/\(is=false->lab b=none):=by
  cases ct:lab b with
  |none=>exact⟨0,0,false,iO am (by rw[fM];unfold fH;rw[ct];rfl),(λh=>nomatch h),λ_=>rfl⟩
  |some d=>exact⟨d.s,d.d,true,jD am (by rw[fM];unfold fH;rw[ct];rfl),λ_=>rfl,(λh=>nomatch h)⟩
 have b9:=hid (And.intro bc bd);clear bc bd am;go_upto_region 2 with(fail);refine au ?_;intro W2 a4;have M:Below W1.heap.size W1 W2:=by rw[a4];(repeat' (first|exact Below.refl _ _|assumption|apply aj|apply ah|apply af|(refine aa ?_ (by assumption))))
 have d0:W2.cell? ⟨W1.heap.size,0,none⟩=some (.int .i64 vs):=by rw[a4];go_simp
 have d1:W2.cell? ⟨W1.heap.size,1,none⟩=some (.int .i64 vd):=by rw[a4];go_simp
 obtain⟨b8,ck⟩:∃z,W1.heap.size=z:=⟨_,rfl⟩;have k0:=ae M k0;have k1:=ae M k1;have k4:=ae M k4;have k5:=ae M k5;have k6:=ae M k6;have T:=ae M T;have c1:=ae M c1;have b5:=hid (b4.out.below M);have b1:=aa U M;rw[ck]at d0 d1⊢;clear a4 U M b4 cM ck;go_cut [26] (λs wx=>s=.bool (!tb)/\Below W2.heap.size W2 wx)
 case first=>
  cases is with
  |false=>
   have e:=ce.out;unfold lower? at e;rw[b9.out.2 rfl]at e;subst e;go_wp2;go_meet
   case rel=>exact⟨rfl,by(repeat' (first|exact Below.refl _ _|assumption|apply aj|apply ah|apply af|(refine aa ?_ (by assumption))))⟩
  |true=>
   have e:=ce.out;have R:=b9.out.1 rfl;unfold lower? at e;rw[R]at e;have cm:=ca.out _ R;simp only at e cm;have ax:aV vs/\aV vd:=by unfold aV;omega
   have cC:=hid (qa cs I vs vd W2 bb.1 bb.2 ax.1 ax.2);rw[e]at cC;clear R cm ax e;go_wp2_with fail;(with_reducible refine cC.out.mono ?_);rintro e w3 ⟨rfl,cH⟩;go_wp2;go_meet
   case rel=>exact⟨rfl,cH⟩
 case rest=>
  obtain⟨rfl,Q⟩:=hcut;have k0:=ae Q k0;have k1:=ae Q k1;have k4:=ae Q k4;have k5:=ae Q k5;have k6:=ae Q k6;have T:=ae Q T;have c1:=ae Q c1;have bj:=hid (b5.out.below Q);have bh:=aa b1 Q;clear b5 b1 Q d0 d1;cases tb with
  |false=>
   go_wp2;go_end0;exact⟨rfl,Sh,bj.out,λk hk=>.inl hk,Kept.of_below bh⟩
  |true=>
   have S:=bj.out.below (ah (Below.refl wc.heap.size wc));obtain⟨nC,ao⟩:=S.mapC;obtain⟨nB,ch⟩:=S.mapB;have cy:=S.ne;have ba:=S.dis;have cv:=S.q9;have a0:=hid (And.intro cy (And.intro ba cv));have b6:=hid S;clear S bj cy ba cv;obtain⟨w4,u4,cV,cO,cw,cn,ad⟩:=ao.entry (aG Tryz.underlying3) Tryz.underlying246 kr ((b:Nat):Int);obtain⟨w5,cQ,bv,ag⟩:=cw.lay (mt:=246) (aG (P:=Tryz.prog) Tryz.underlying3) cn (.agg #[.int .i64 cs,.int .i64 I]);have a1:=ad.trans ag;obtain⟨w6,u6,cW,cR,cx,co,ai⟩:=(ch.kept a1 (by simpa using a0.out.1.2.2.2.2.2.2.symm)).entry (aG Tryz.underlying3) Tryz.underlying142 qy ((b:Nat):Int);obtain⟨w7,cS,bw,al⟩:=cx.lay (mt:=142) (aG (P:=Tryz.prog) Tryz.underlying3) co (.int .i64 z);have bp:=ai.trans al;have R:=ah (Below.refl wc.heap.size wc);have aw:J∉[mc]:=by simp;omega
   have ar:J∉[mb]:=by simp;omega
   have aE:x∉[mc]:=by simpa using a0.out.1.1
   have ay:x∉[mb]:=by simpa using a0.out.1.2.1
   have q0:wc.drew.cell? ⟨x,4,none⟩=some (.map (some mc))/\wc.drew.cell? ⟨x,5,none⟩=some (.map (some mb))/\wc.drew.cell? ⟨J,0,none⟩=some (.int .i64 cs)/\wc.drew.cell? ⟨J,1,none⟩=some (.int .i64 I):=⟨ae R k4,ae R k5,ae R T,ae R c1⟩;have q4:w4.cell? ⟨x,4,none⟩=some (.map (some mc))/\w4.cell? ⟨x,5,none⟩=some (.map (some mb))/\w4.cell? ⟨J,0,none⟩=some (.int .i64 cs)/\w4.cell? ⟨J,1,none⟩=some (.int .i64 I):=⟨aT ad aE q0.1,aT ad aE q0.2.1,aT ad aw q0.2.2.1,aT ad aw q0.2.2.2⟩;have q5:w5.cell? ⟨x,4,none⟩=some (.map (some mc))/\w5.cell? ⟨x,5,none⟩=some (.map (some mb))/\w5.cell? ⟨J,0,none⟩=some (.int .i64 cs)/\w5.cell? ⟨J,1,none⟩=some (.int .i64 I):=⟨aT ag aE q4.1,aT ag aE q4.2.1,aT ag aw q4.2.2.1,aT ag aw q4.2.2.2⟩;have q6:w6.cell? ⟨x,4,none⟩=some (.map (some mc))/\w6.cell? ⟨x,5,none⟩=some (.map (some mb))/\w6.cell? ⟨J,0,none⟩=some (.int .i64 cs)/\w6.cell? ⟨J,1,none⟩=some (.int .i64 I):=⟨aT ai ay q5.1,aT ai ay q5.2.1,aT ai ar q5.2.2.1,aT ai ar q5.2.2.2⟩
   have q7:w7.cell? ⟨x,4,none⟩=some (.map (some mc))/\w7.cell? ⟨x,5,none⟩=some (.map (some mb))/\w7.cell? ⟨J,0,none⟩=some (.int .i64 cs)/\w7.cell? ⟨J,1,none⟩=some (.int .i64 I):=⟨aT al ay q6.1,aT al ay q6.2.1,aT al ar q6.2.2.1,aT al ar q6.2.2.2⟩;rw[M9]at bv bw;have a2:=b6.out.laid bv a1 bw bp;have cg:Kept (mc::mb::Sh) w w7:=((Kept.of_below (aa bh R)).trans (a1.wid (by simp))).trans (bp.wid (by simp));have k1:=a2.cells.2.1;have k6:=a2.cells.2.2.2.2.2.2;have an:=hid (And.intro a2 cg);clear cw cn ad bv ag cx co ai bw al a2 cg a1 bp R aw ar aE ay ao ch b6 bh T c1 k0;go_upto_region 3 with(fail)
   go_region_held3 (λw'=>w'.cell? ⟨x,4,none⟩=some (.map (some mc))/\w'.cell? ⟨x,5,none⟩=some (.map (some mb))/\w'.cell? ⟨J,0,none⟩=some (.int .i64 cs)/\w'.cell? ⟨J,1,none⟩=some (.int .i64 I))
    (first
     |exact q0
     |exact q4
     |exact q5
     |exact q6
     |exact q7)
    (fail)
   obtain⟨_,_,T,c1⟩:=q7;clear cO cQ cR cS q0 q4 q5 q6 k4 k5;obtain⟨⟨hs,R⟩,bt⟩:∃c,h b=c:=⟨_,rfl⟩;have Hh:=hid bt;have hh:=bt;clear bt;obtain⟨tn,cD⟩:∃t,(((b:Nat):Int)!= 256)=t:=⟨_,rfl⟩;go_upto_if 45 with(fail)
   refine au ?_;intro W8 ab;have aS:Below w7.heap.size w7 W8:=by rw[ab];(repeat' (first|exact Below.refl _ _|assumption|apply aj|apply ah|apply af|(refine aa ?_ (by assumption))))
   have e0:W8.cell? ⟨w7.heap.size,0,none⟩=some (.int .i64 0):=by rw[ab];go_simp
   have e1:W8.cell? ⟨w7.heap.size,1,none⟩=some (.int .i64 0):=by rw[ab];go_simp
   have f0:W8.frozen? ⟨w7.heap.size,0,none⟩=false:=by rw[ab];go_simp
   have f1:W8.frozen? ⟨w7.heap.size,1,none⟩=false:=by rw[ab];go_simp
   have k1:=ae aS k1;have bo:=hid cD;clear ab cD;obtain⟨F,cj⟩:∃q,w7.heap.size=q:=⟨_,rfl⟩;rw[cj]at e0 e1 f0 f1⊢;go_cut [] (λwx=>wx.cell? ⟨F,0,none⟩=some (.int .i64 hs)/\wx.cell? ⟨F,1,none⟩=some (.int .i64 R)/\Below w7.heap.size w7 wx)
   case first=>
    cases tn with
    |false=>
     have hz:(⟨hs,R⟩:C)=C.zero:=by
      have hb:b=256:=by have:=bne_eq_false_iff_eq.1 bo.out;omega
      rw[<-hh,hb];exact a7.out
     injection hz with bx b0
     subst bx;subst b0;clear hh Hh k1 f0 f1;go_wp2;go_meet
     case rel=>exact⟨e0,e1,aS⟩
    |true=>
     have cl:b≠256:=by have:=bne_iff_ne.1 bo.out;omega
     have cL:=Hg.out.1;have cG:=Hg.out.2 W8 (aa an.out.1.bel aS) b (Hb.out.resolve_right cl);rw[hh]at cG;simp only at cG;have cG:=hid cG;clear hh cl;go_wp2_with fail;(with_reducible refine cG.out.mono ?_);rintro e w9 ⟨rfl,aq⟩;have bg:F<W8.heap.size:=World.block_lt_of_cell? _ _ e0;have e0:=ae aq e0;have e1:=ae aq e1;have f0:=(aq.frozen (p:=⟨F,0,none⟩) bg).trans f0;have f1:=(aq.frozen (p:=⟨F,1,none⟩) bg).trans f1;have cE:=aa aS aq;clear cG cL k1;go_wp2;go_meet
     case rel=>
      refine⟨?_,?_,(cE.setCell (by simp;omega) _).setCell (by simp;omega) _⟩
      .go_simp
      .go_simp
   case rest=>
    obtain⟨e0,e1,ac⟩:=hcut;have bm:=hid (an.out.1.below ac);have T:=ae ac T;have c1:=ae ac c1;have k6:=ae ac k6
    have a6:0<=hs/\hs<=1000/\0<=R/\R<=1000:=by
     rcases Hb.out with r|r
     .have:=cF.out b r;rw[hh]at this;exact this
     .have hz:=a7.out
      rw[<-r,hh]at hz;injection hz with bx b0
      subst bx;subst b0;omega
    have bq:=an.out.2.trans (Kept.of_below ac);have B:=cb.out rfl;rw[hh]at B;have B:lower? hp b ⟨cs+hs,I+R⟩=true:=B;have cA:=hid (λw=>ng cs I hs R w (by unfold aV;omega) (by unfold aV;omega) (by unfold aV;omega) (by unfold aV;omega));have cP:=hid (λw' h'=>rP w' Sh q 257 hp b (cs+hs) (I+R) true h' br (by omega) ⟨by unfold aV;simp only;omega,by unfold aV;simp only;omega⟩ B);have cT:x∉Sh:=a0.out.2.1.1;have a9:J∉Sh:=λhm=>by have:=cr.out _ hm;omega
    have ap:F∉Sh:=λhm=>by have:=cr.out _ hm;have:=bq.size;have:=an.out.2.size;omega
    have b2:=hid bq;clear an k1 f0 f1 ac a6 B bq hh bo;go_upto_region 7 with(fail)
    go_region_held3 (λw'=>w'.cell? ⟨x,6,none⟩=some (.pointer (some ⟨q,0,none⟩))/\w'.cell? ⟨J,0,none⟩=some (.int .i64 cs)/\w'.cell? ⟨J,1,none⟩=some (.int .i64 I)/\w'.cell? ⟨F,0,none⟩=some (.int .i64 hs)/\w'.cell? ⟨F,1,none⟩=some (.int .i64 R))
     (first
      |exact⟨k6,T,c1,e0,e1⟩
      |exact L
      |exact ci)
     ((first
      |(go_at_call 94
        refine(cA.out _).mono ?_;rintro e wA ⟨rfl,O⟩;have L:wA.cell? ⟨x,6,none⟩=some (.pointer (some ⟨q,0,none⟩))/\wA.cell? ⟨J,0,none⟩=some (.int .i64 cs)/\wA.cell? ⟨J,1,none⟩=some (.int .i64 I)/\wA.cell? ⟨F,0,none⟩=some (.int .i64 hs)/\wA.cell? ⟨F,1,none⟩=some (.int .i64 R):=⟨ae (w:=wc.drew) O k6,ae (w:=wc.drew) O T,ae (w:=wc.drew) O c1,ae (w:=wc.drew) O e0,ae (w:=wc.drew) O e1⟩)
      |(go_at_call 197
        refine(cP.out _ ((bm.out.below (ah (Below.refl _ _))).below O).heap).mono ?_;rintro e wh ⟨rfl,S1,cp,cq,Z⟩;have ci:wh.cell? ⟨x,6,none⟩=some (.pointer (some ⟨q,0,none⟩))/\wh.cell? ⟨J,0,none⟩=some (.int .i64 cs)/\wh.cell? ⟨J,1,none⟩=some (.int .i64 I)/\wh.cell? ⟨F,0,none⟩=some (.int .i64 hs)/\wh.cell? ⟨F,1,none⟩=some (.int .i64 R):=⟨aT Z cT L.1,aT Z a9 L.2.1,aT Z a9 L.2.2.1,aT Z ap L.2.2.2.1,aT Z ap L.2.2.2.2⟩)))
    all_goals
     have a5:=ah (Below.refl wc.heap.size wc);obtain⟨S2,r1,r2,r3⟩:=oh.pushed ((bm.out.below a5).below O) (u:=.bool true) (e:=.returned (.bool true)) (⟨rfl,S1,cp,cq,Z⟩:pO wA Sh q _ _ _ _ wh)
     have hF:Sn W w x l mk me mc mb q (.func (.func gf) #[] gc) Sh mkM enM (pushed lab b ⟨cs,I⟩ true) (pushed hp b (C.add ⟨cs,I⟩ (h b)) true) (if true=true then FR.upd bk b z else bk) (.returned (.tuple #[])) wh:=by
      refine⟨rfl,S2,?_,λk hk=>?_,?_⟩
      .rw[Hh.out];exact r1
      .rcases r2 k hk with r|r
       .exact .inl r
       .right
        have:=b2.out.size;have:=a5.size;have:=O.size;omega
      .exact((b2.out.trans (Kept.of_below a5)).trans (Kept.of_below O)).trans (r3.wid (by simp;intro k hk;exact .inr (.inr hk)))
     have hF:=hid hF;clear cA cP bm e0 e1 T c1 k6 r1 r2 r3 cp cq Z a5 O L ci;go_wp2;go_end0;exact hF.out
end Go.Proofs.YtokhnobcincfjaaGreatDoor
