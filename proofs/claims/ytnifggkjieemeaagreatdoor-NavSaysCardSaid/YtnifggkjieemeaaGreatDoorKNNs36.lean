/- Lemmas of this claim: MathAsk2, MathAsk3, MathAsk4, MathAsk5, MathAsk6, MathEmb, HntA, SrG, MathEmb2, MathDeg. -/
import Derived.Test.YtnifggkjieemeaaGreatDoorSr7
set_option linter.unusedVariables false
set_option linter.unusedSimpArgs false
namespace Go.Proofs.YtnifggkjieemeaaGreatDoor
section
open FR
variable {c:C}{g:G}{x y:Int}{W:List Nat}{a b e:Nat}
theorem jZ(k:g.ok){c:Nat}(h:g.av c):g.b c=false:=by
 have:=G.sW k h.1;rw[h.2.1]at this;simpa using this.symm
theorem WW(k:g.ok)(h:g.GE a b c):NL g a b c:=⟨h.1.1,h.2.1.1,jZ k h.1,jZ k h.2.1,h.2.2.2.1.1,h.2.2.2.2⟩
theorem Td(h:NL g a b c):Walk g.E a b c:=by
 obtain⟨_,_,_,_,h,rfl⟩:=h;exact h
theorem PO{E F:Nat->Nat->C->Prop}(k:∀a b c,E a b c->F a b c):∀{W:List Nat}{c:C},LS.LW E W c->LS.LW F W c
 |_,_,.one a=>.one a
 |_,_,.cons he h=>.cons (k _ _ _ he) (PO k h)
theorem yT:∀{W:List Nat}{a b:Nat}{c:C},LS.LW (NL g) (a::W) c->(a::W).getLast?=some b->Walk g.E a b c
 |[],a,b,c,h,k=>by cases h;simp at k;subst k;exact .nil _
 |x::l,a,b,c,h,k=>by
  cases h with
  |cons m h=>exact(Td m).trans (yT h (by simpa using k))
theorem LY(x:Nat)(W:List Nat)(y:Nat):(x::(W++[y])).getLast?=some y:=by
 rw[show x::(W++[y])=(x::W)++[y]from rfl,List.getLast?_append];rfl
theorem Aj{x y:Nat}{b:C}(h:uj g (xw g x) (xw g y) b true)(z:¬g.dL x y):df g.E x y b:=by
 have m:=QX (h.2 rfl).1;obtain⟨d,k⟩:=df.exist (λ_ _ _ u=>G.Dw u) m;have B:KP g (xw g x) (xw g y) d:=Cq.2 (G2.yj k z);obtain rfl:b=d:=C.le_antisymm ((h.2 rfl).2 _ B) (k.2 _ m);exact k
theorem KZ{x y:Nat}{b:C}(h:uj g (xw g x) (xw g y) b false)(u:¬g.dL x y)(c:C):¬Walk g.E x y c:=λz=>by
 obtain⟨d,k⟩:=df.exist (λ_ _ _ m=>G.Dw m) z;exact(h.1 rfl).2 _ (Cq.2 (G2.yj k u))
theorem QS(k:g.ok){x y:Nat}(hx:x<g.n)(hy:y<g.n)(fx:g.b x=false)(fy:g.b y=false){B:C}{m:List Nat}{f:Int->Option C}(U:uj g (xw g x) (xw g y) B true)(Z:qD (xw g y) (xw g y).length f)(hW:Jg g (zQ f) (xw g x) B m)(hn:¬g.dL x y):LS.LW (NL g) (x::(m++[y])) B:=by
 obtain⟨s,t,d,u,e,P,F,Q,R,S,T⟩:=hW;obtain⟨M,q2,rfl⟩:=Co.1 P;obtain⟨e',I,J,rfl⟩:=Z.some_ _ _ (show f (t:Nat)=some e from S);obtain⟨z,O,_,r2,rfl⟩:=kK.1 I;obtain rfl:z=t:=Int.ofNat_inj.1 J;have l1:LS.LW (NL g) m u:=PO (λ_ _ _=>WW k) R;have n1:NL g x s (g.cZ x s):=⟨hx,M.1,fx,jZ k M,q2.1,rfl⟩;have n2:NL g z y (g.cZ y z):=⟨O.1,hy,jZ k O,fy,G.Bc.1 r2.1,G.fH ..⟩
 have l2:LS.LW (NL g) (m++[y]) (C.add u (g.cZ y z)):=by
  have:=CS l1 Q (LS.LW.cons n2 (LS.LW.one y));rwa[C.add_zero]at this
 have L:LS.LW (NL g) (x::(m++[y])) (C.add (g.cZ x s) (C.add u (g.cZ y z))):=by
  cases m with
  |nil=>simp at F
  |cons w l=>
   simp at F;subst F;exact LS.LW.cons n1 l2
 have hw:Walk g.E x y (C.add (g.cZ x s) (C.add u (g.cZ y z))):=yT L (LY ..);have e:C.add (g.cZ x s) (C.add u (g.cZ y z))=B:=C.le_antisymm T ((Aj U hn).2 _ hw);rw[<-e];exact L
def jg(g:G)(x y:Int)(W:List Nat)(c:C)(e:Nat):Prop:=
 (iH g x y≠0/\e=iH g x y/\W=[]/\c=C.zero)\/
 ∃a b:Nat,x=(a:Nat)/\y=(b:Nat)/\a<g.n/\b<g.n/\g.b a=false/\g.b b=false/\
  (((∀d,¬Walk g.E a b d)/\e=5/\W=[]/\c=C.zero)\/(df g.E a b c/\e=0/\LS.LW g.E W c/\W.head?=some a/\W.getLast?=some b))
theorem uI(k:g.fault x=0)(m:g.fault y=0):iH g x y=0:=by
 unfold iH;rw[if_neg (by simp[k]),m]
theorem jg.cells(h:jg g x y W c e)(k:iH g x y=0):∃a b:Nat,x=(a:Nat)/\y=(b:Nat)/\a<g.n/\b<g.n/\g.b a=false/\g.b b=false/\(((∀d,¬Walk g.E a b d)/\e=5/\W=[]/\c=C.zero)\/(df g.E a b c/\e=0/\LS.LW g.E W c/\W.head?=some a/\W.getLast?=some b)):=by
 rcases h with⟨h,_⟩|h
 .exact absurd k h
 .exact h
theorem jg.ok(h:jg g x y W c e)(L:e=0):∃a b:Nat,x=(a:Nat)/\y=(b:Nat)/\a<g.n/\b<g.n/\g.b a=false/\g.b b=false/\df g.E a b c/\LS.LW g.E W c/\W.head?=some a/\W.getLast?=some b:=by
 rcases h with⟨k,m,_⟩|⟨a,b,k,m,z,B,F,I,u|⟨u,_,J⟩⟩
 .exact absurd (m.symm.trans L) k
 .omega
 .exact⟨a,b,k,m,z,B,F,I,u,J⟩
theorem PM:∀{W:List Nat}{c:C},LS.LW g.E W c->(W.length:Int)=c.s+c.d+1
 |_,_,.one a=>by simp[C.zero]
 |_,_,.cons (l:=l) (b:=b) he h=>by
  have k:=PM h;obtain⟨_,d,_,_,_,e⟩:=he;rw[e];simp only[List.length_cons]at k⊢;unfold bu C.add;split<;>simp only<;>omega
theorem jg.len(k:g.ok)(h:jg g x y W c e)(z:e=0):W.length<=1025/\0<W.length/\0<=c.s/\c.s<=512/\0<=c.d/\c.d<=512:=by
 obtain⟨a,b,_,_,m,_,_,_,u,B,M,_⟩:=h.ok z;have:=PM B;obtain⟨F,I,J,L⟩:=G.qO k m u;refine⟨om,om,F,I,J,L⟩
theorem jg.zero(h:jg g x y W c e)(z:e≠0):W=[]/\c=C.zero:=by
 rcases h with⟨_,_,k,m⟩|⟨_,_,_,_,_,_,_,_,⟨_,_,k,m⟩|⟨_,u,_⟩⟩
 .exact⟨k,m⟩
 .exact⟨k,m⟩
 .exact absurd u z
theorem jg.vK(k:g.ok)(h:jg g x y W c e)(z:e=0):g.vK (λi=>(cK W).getD i 0) W.length=(c,0):=by
 obtain⟨a,b,_,_,m,_,u,_,I,F,B,_⟩:=h.ok z;exact SQ k F B m u
theorem DW(k:(g.X a:Int)=g.X b)(m:(g.Y a:Int)=g.Y b):a=b:=by
 rw[<-G.gM g a,<-G.gM g b,Int.ofNat_inj.1 k,Int.ofNat_inj.1 m]
end
section
open Go.RowKit Go.Sort FR Go.Lib
variable {g:G}{S:LS}{tp:Nat}{fin:Nat->Option C}
theorem K6{f:FuncId}{m:Func}{c:Code}(B:Tryz.prog.funcs[f]? =some m)(k:(m.name== "runtime.NumGoroutine")=false)(z:m.body=some c)(args:Array Value)(w:World):(callFunc f args).run Tryz.prog w=.ok (.enter f args) w:=by
 have u:m.name≠ "runtime.NumGoroutine":=by simpa using k
 simp[callFunc,B,u,z]
def uU(g:G)(x:Nat)(n:Nat):C:=if n=256 then C.zero else g.cZ n x
theorem Ff(g:G)(x:Nat):uU g x 256=C.zero:=if_pos rfl
theorem Kb(k:g.ok)(x:Nat){n:Nat}(m:n<g.n):uU g x n=g.cZ n x:=if_neg (by have:=G.bA k;omega)
theorem Im(k:g.ok){x:Nat}(u:x<g.n):∀j,g.av j->0<=(uU g x j).s/\(uU g x j).s<=1000/\0<=(uU g x j).d/\(uU g x j).d<=1000:=λj m=>by
 rw[Kb k x m.1];have:=G.Bf k u m.1;omega
theorem QH(H:LS.Fin g tp S){mark:Nat->Bool}{a b:Nat}{p:C}(B:Walk (Dr S tp mark fin) a b p)(I:a≠256):(b≠256->Walk g.GE a b p)/\(b=256->∃t d e,Walk g.GE a t d/\fin t=some e/\p=C.add d e):=by
 induction B with
 |nil=>exact⟨λ_=>.nil _,λe=>absurd e I⟩
 | @snoc m b d e B J F=>
  rcases J with⟨z,u,_,k,M⟩|⟨z,u,L⟩
  .exact⟨λ_=>(F.1 z).trans (H.walk _ _ _ _ M),λe=>absurd e u⟩
  .exact⟨λe=>absurd u e,λ_=>⟨m,d,e,F.1 z,L,rfl⟩⟩
theorem QF{mark:Nat->Bool}{b:Nat}{p:C}(u:Walk (Dr S tp mark fin) 256 b p):p=C.zero/\b=256:=by
 induction u with
 |nil=>exact⟨rfl,rfl⟩
 | @snoc m b d e u B z=>
  rcases B with⟨k,_⟩|⟨k,_⟩
  .exact absurd z.2 k
  .exact absurd z.2 k
theorem Vw(P:g.ok)(H:LS.Fin g tp S){inn:List Ed}{x:Nat}(O:∀e∈inn,∀t:Nat,e.to_=t->C.le (g.cZ t x) e.c)(m:Nat->Bool)(f:Int->Option C)(M:qD inn inn.length f):∀j t d,Walk (Dr S tp m (zQ f)) j t d->t=256->C.le (uU g x j) d:=by
 intro j t d u Q;by_cases k:j=256
 .subst k
  rw[Ff,(QF u).1];exact C.le_refl _
 .obtain⟨z,T,e,B,F,rfl⟩:=(QH H u k).2 Q
  obtain⟨y,R,I,rfl⟩:=M.some_ _ _ F;have J:=O y R z I;have L:uU g x j=g.cZ j x:=if_neg k;rw[L];exact C.le_trans (G.Kg g j z x) (C.add_le_add (G.Io (G.BO B)) J)
end
section
open FR
theorem Fg(x y g k:Int)(m:x.natAbs=g.natAbs)(u:y.natAbs=k.natAbs):dD x y=dD g k:=by unfold dD;rw[m,u]
open Classical in
noncomputable def GK(g:G)(a:Nat):Nat:=((az g).filter λb=>decide (g.GE a b (g.cZ a b))).length
noncomputable def OG(g:G):Nat:=((az g).map (GK g)).sum
end
section
open FR
theorem Jv{g:G}{E:Int->Option (List Ed)}(h:bZ g (λ_ _=>True) E){c:Nat}{L:List Ed}(F:E (c:Nat)=some L):L.length=GK g c:=by
 obtain⟨T,Q⟩:=h.2 c L F;obtain⟨J,e,z⟩:=(h.1 (c:Nat)).1 (by rw[F];simp);obtain rfl:c=J:=Int.ofNat_inj.1 e;have nd:(az g).Nodup:=(gN g).imp (λh=>Nat.ne_of_lt h);unfold GK
 have S:L.Perm (((az g).filter λb=>@decide (g.GE c b (g.cZ c b)) (Classical.propDecidable _)).map λy:Nat=>(⟨(y:Nat),g.cZ c y,-1⟩:Ed)):=by
  have R:L.Nodup:=by
   refine List.pairwise_iff_getElem.2 (λi j O P B e=>?_);have:=T i j _ _ B (Zc O) (Zc P);rw[e]at this;omega
  refine(List.perm_ext_iff_of_nodup R ?_).2 (λe=>?_)
  .exact List.Pairwise.map _ (λa b k e=>k (by injection e with e;exact Int.ofNat_inj.1 e)) (nd.filter _)
  .rw[Q e,List.mem_map]
   constructor
   .rintro⟨y,u,m,_,M,rfl⟩
    refine⟨y,?_,rfl⟩;rw[List.mem_filter];exact⟨dm.2 u,by simp only[decide_eq_true_eq];exact⟨z,u,λe=>m e.symm,M,rfl⟩⟩
   .rintro⟨y,I,rfl⟩
    rw[List.mem_filter]at I;obtain⟨u,m⟩:=I;simp only[decide_eq_true_eq]at m;obtain⟨_,U,Z,k4,_⟩:=m;exact⟨y,U,λe=>Z e.symm,trivial,k4,rfl⟩
 rw[S.length_eq,Zr]
