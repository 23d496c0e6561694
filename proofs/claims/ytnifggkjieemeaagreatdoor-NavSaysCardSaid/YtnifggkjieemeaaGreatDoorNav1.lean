/- Lemmas of this claim: Nav1. -/
import Derived.Test.YtnifggkjieemeaaGreatDoorKNNs26
import Derived.Test.YtnifggkjieemeaaGreatDoorKNNs30
set_option linter.unusedVariables false
set_option linter.unusedSimpArgs false
set_option maxHeartbeats 1600000
set_option maxRecDepth 100000
open Go.Proofs.Tryz
namespace Go.Proofs.YtnifggkjieemeaaGreatDoor
open Go.Lib (hid)
open Go.RowKit Go.Sort FR Go.Lib
variable {g:G}{v:Int}{T:List Nat}{s:Nat}{w w':World}
structure Apart (s pg pt ptg rb rp rm:Nat) (S:List Nat):Prop where
 nd:[s,pg,pt,ptg,rb,rp,rm].Nodup
 out:∀k∈S,k∉[s,pg,pt,ptg,rb,rp,rm]
theorem KT{F I q t p1 b p u:Nat}{S:List Nat}{E:Int->Option (List Ed)}(h:aJ w b p u S g v E)(m:∀k,k∈b::p::u::S->I<=k)(hq:q<F)(hp1:F<=p1)(Q:p1<t)(ht:t<I):Apart w.heap.size q t p1 b p u S:=by
 obtain⟨J,L,B,M,O,h6,h7,h8⟩:=h;have l1:b<w.heap.size:=(Za.1 J).1;have l2:=L.lt;have l3:=B.lt;have R:=B.qp;have P:u∉S:=by obtain⟨_,_,_,_,_,_,h,_⟩:=B;exact h
 have g1:=m b rS;have g2:=m p rS;have g3:=m u rS;refine⟨so,λk z=>?_⟩;have g4:=m k (by simp[z]);have l5:=R k z;have U:k≠b:=λe=>M (e▸z);have Z:k≠p:=λe=>O (e▸z);have T:k≠u:=λe=>P (e▸z);simp;omega
def fT(w:World)(s:Nat)(g:G)(v:Int)(most:Nat)(T:List Nat):Prop:=
 ∃pg pt rb rp rm lb lm le S E Sb nl,w.heap[s]? =some (.cells #[vP pg,vP pt,vP rb,vP lb,rI (most:Nat)] 93 (0,0))/\1<=most/\most<=6/\
  aC w pg g v/\aJ w rb rp rm S g v E/\bZ g (λ_ _=>True) E/\dF w lb lm le Sb ((LS.all g (az g) most).2:Nat) (bN g (LS.all g (az g) most).1) nl (eZ g (LS.all g (az g) most).1)/\∃ptg,fQ w pt ptg g v/\Apart s pg pt ptg rb rp rm S/\
  T=s::pg::pt::ptg::rb::rp::rm::(S++lb::lm::le::Sb)
def gH(w:World)(s:Nat)(g:G)(v:Int)(most:Nat):Prop:=∃T,fT w s g v most T
def Gs(B:Nat)(w:World)(s:Nat)(g:G)(v:Int)(most:Nat):Prop:=∃T,fT w s g v most T/\∀k∈T,B<=k
theorem fT.kept{X:List Nat}{most:Nat}(h:fT w s g v most T)(z:Kept X w w')(m:∀k∈T,k∉X):fT w' s g v most T:=by
 obtain⟨J,L,F,P,O,lb,lm,le,S,E,Q,nl,I,R,U,Z,⟨M,r2,r3,r4⟩,h6,h7,B,h8,h9,rfl⟩:=h;refine⟨J,L,F,P,O,lb,lm,le,S,E,Q,nl,(z.block s (Za.1 I).1 (m s rS)).trans I,R,U,Z.kept z (m J rS),?_,h6,h7.kept z (λk u=>m k ?_),B,h8.kept z (m L rS) (m B rS),h9,rfl⟩
 .exact⟨(z.block F (Za.1 M).1 (m F rS)).trans M,r2.kept z (m P rS),r3.kept z (λk u=>m k (by simp[u])) (m O rS),r4⟩
 .simp only[Zd,Zl]at u⊢
  simp only[u,or_true]
theorem fT.below{most:Nat}(h:fT w s g v most T)(k:Below w.heap.size w w'):fT w' s g v most T:=h.kept (X:=[]) (.of_below k) (λ_ _=>rS)
theorem fT.lt{most:Nat}(h:fT w s g v most T):∀k∈T,k<w.heap.size:=by
 obtain⟨pg,pt,rb,rp,rm,lb,lm,le,S,E,Q,nl,F,R,U,I,⟨O,P,B,r4⟩,Z,⟨J,L,z,_⟩,M,u,h9,rfl⟩:=h;intro k m;simp only[Zd,Zl]at m;rcases m with rfl|rfl|rfl|rfl|rfl|rfl|rfl|m|rfl|rfl|rfl|m
 .exact(Za.1 F).1
 .exact I.lt
 .exact u.lt.1
 .exact u.lt.2
 .exact(Za.1 O).1
 .exact P.lt
 .exact B.lt
 .exact B.qp k m
 .exact(Za.1 J).1
 .exact L.lt
 .exact z.lt
 .exact z.qp k m
theorem gH.below{most:Nat}(h:gH w s g v most)(k:Below w.heap.size w w'):gH w' s g v most:=by
 obtain⟨T,h⟩:=h;exact⟨T,h.below k⟩
theorem gH.most{most:Nat}(h:gH w s g v most):1<=most/\most<=6:=by
 obtain⟨_,_,_,_,_,_,_,_,_,_,_,_,_,_,k,m,_⟩:=h;exact⟨k,m⟩
def WI(w:World)(g:G)(v:Int)(most:Nat)(e:Ending)(w':World):Prop:=∃s,e=.returned (.tuple #[vP s,.nilIface])/\Gs w.heap.size w' s g v most/\Below w.heap.size w w'
def NT(w:World)(q:Nat)(g:G)(v:Int)(most:Nat)(e:Ending)(w':World):Prop:=∃s T,e=.returned (.tuple #[vP s,.nilIface])/\fT w' s g v most T/\(∀k∈T,k=q\/w.heap.size<=k)/\Below w.heap.size w w'
theorem NT.fr{m w w':World}{q:Nat}{most:Nat}{e:Ending}(h:NT w q g v most e w')(u:Below m.heap.size m w)(L:m.heap.size<=q):WI m g v most e w':=by
 obtain⟨s,T,z,B,F,I⟩:=h;refine⟨s,z,⟨T,B,λk J=>?_⟩,ae u I⟩;have:=u.size;rcases F k J with r|r<;>omega
theorem wZ(w:World)(q:Nat)(g:G)(v most:Int)(h:aC w q g v)(F:most<1\/6<most):Calls prog 30 #[vP q,rI most] w (Rt w (.tuple #[.pointer none,.iface 54 (rI 1)])):=by
 have J:=hid (QU w q g v h);replace F:=hid F;go_enter func30,ntmps30;go_wp2_with fail;refine J.out.mono ?_;rintro e M ⟨t,P,rfl,_,_,f,_,_,_,k⟩;have I:=hid (Ez M q g v (h.below k h.lt));clear h J;go_wp2_with fail;refine I.out.mono ?_;rintro e Q ⟨b,p,O,S,E,rfl,_,_,_,m⟩;have u:=ae k m;clear I k m;go_wp2_with fail;refine(Mk _ b most F.out).mono ?_
 rintro e R ⟨rfl,B⟩;have z:=ae (ah u) B;go_wp2_with fail;go_ret2;exact⟨rfl,z⟩
theorem yX(w:World)(q:Nat)(g:G)(v:Int)(most:Nat)(h:aC w q g v)(h1:1<=most)(h2:most<=6):Calls prog 30 #[vP q,rI (most:Nat)] w (NT w q g v most):=by
 have cT:=hid (FW w q g v h);go_enter func30,ntmps30;go_wp2_with fail;refine cT.out.mono ?_;rintro e w1 ⟨t,p1,rfl,hp1,ao,am,P⟩;have cG:=hid (Ez w1 q g v (h.below P h.lt));have m:=hid (rN am (rN hp1 ao));replace h:=hid h;clear cT am hp1 ao;go_wp2_with fail;refine cG.out.mono ?_;rintro e w2 ⟨b,p,mb,S,E,rfl,z,O,ab,T⟩;have Q:=ae P T
 have M:=KT z ab h.out.lt m.out.2.1 m.out.2.2 m.out.1.lt.1;have al:=hid (m.out.1.below T);obtain⟨s,hs⟩:=rX w2.heap.size;rw[hs]at M;replace M:=hid M;have R:=hid (rN (rN m.out.2.1 (rN m.out.2.2 P.size)) ab);clear ab m;have cL:=hid (EU (w2.alloc (.cells #[vP q,vP t,vP b,.pointer none,rI (most:Nat)] 93)) b p mb S g v E most (z.below (ah br)) O h1 h2)
 have I:(w2.alloc (.cells #[vP q,vP t,vP b,.pointer none,rI (most:Nat)] 93)).heap[s]? =some (.cells #[vP q,vP t,vP b,.pointer none,rI (most:Nat)] 93 (0,0)):=by
  rw[<-hs];exact heap_alloc_new _ _
 replace I:=hid I;replace z:=hid z;replace O:=hid O;clear cG P T;go_wp2_with fail;refine cL.out.mono ?_;rintro e w4 ⟨bl,ml,me,Sb,nl,rfl,ai,B,aa⟩
 have J:=(aa.block s (by rw[<-hs];simp)).trans I.out
 have F:∀k∈bl::ml::me::Sb,w.heap.size<=k:=λk L=>by
  have h8:=B k L;have h9:=Q.size;simp at h8;omega
 have ag:=hid (rN R.out.1 (rN R.out.2 F));clear R F;have k3:w4.cell? ⟨s,3,none⟩=some (.pointer none):=by rw[Lib.cell_of_heap J];rfl
 have f3:w4.frozen? ⟨s,3,none⟩=false:=Lib.frozen_of_heap J 3;have B4:=ae (ah (Below.refl w2.heap.size w2)) aa;have B5:=B4.setCell (p:=⟨s,3,none⟩) (by rw[hs];exact Zi _) (vP bl);have ad:=ae Q B5;have ac:=aI w4 s 3 _ _ (vP bl) J
 have Z:=ai.kept ((Kept.refl [s] w4).setCell (p:=⟨s,3,none⟩) (u:=vP bl) (.inl rS)) (λk L=>by
  have:=B k L;simp at this;simp;omega)
 have U:=z.out.below B5;have ap:=hid (al.out.below B5);clear al;replace ac:=hid ac;replace Z:=hid Z;replace U:=hid U;replace J:=hid J;have aq:=Q.size;clear ai B aa B4 B5;go_wp2_with fail;go_ret2
 refine⟨s,_,rfl,⟨q,t,b,p,mb,bl,ml,me,S,E,Sb,nl,ac.out,h1,h2,h.out.below ad h.out.lt,U.out,O.out,Z.out,p1,ap.out,M.out,rfl⟩,λk L=>?_,ad⟩;obtain⟨⟨f1,f2,f3⟩,f4,f5⟩:=ag.out;simp only[Zd,Zl]at L;rcases L with rfl|rfl|rfl|rfl|rfl|rfl|rfl|L|rfl|rfl|rfl|L
 .right;omega
 .left;rfl
 .right;omega
 .right;omega
 .right;exact Zg f3 (f4 _ rS)
 .right;exact Zg f3 (f4 _ rS)
 .right;exact Zg f3 (f4 _ rS)
 .right;exact Zg f3 (f4 k (by simp[L]))
 .right;exact f5 _ rS
 .right;exact f5 _ rS
 .right;exact f5 _ rS
 .right;exact f5 k (by simp[L])
def NC(w:World)(l:List UInt8)(most:Int)(e:Ending)(w':World):Prop:=
 (∃k:Nat,0<k/\e=.returned (.tuple #[.pointer none,.iface 54 (rI (k:Nat))])/\Below w.heap.size w w'/\((bK l=.bad k)\/((∃a b R,bK l=.ok a b R)/\(most<1\/6<most)/\k=1)))\/
 ∃a b R m s,bK l=.ok a b R/\most=((m:Nat):Int)/\1<=m/\m<=6/\e=.returned (.tuple #[vP s,.nilIface])/\Gs w.heap.size w' s (eT a b R (b*a)) (iN (fq a R) (b*a)) m/\Below w.heap.size w w'
theorem SY(w:World)(g:xu w)(l:List UInt8)(most:Int):Calls prog 10 #[.string (bs l),rI most] w (NC w l most):=by
 have S:=hid (Nc w l g);go_enter func10,ntmps10;go_wp2_with fail;refine S.out.mono ?_
 rintro e Q (⟨k,z,U,rfl,u⟩|⟨a,b,R,p,z,rfl,Z,I,u⟩)
 .replace z:=hid z
  go_wp2_with fail;go_ret2;exact .inl ⟨k,U,rfl,u,.inl z.out⟩
 .replace z:=hid z
  by_cases F:most<1\/6<most
  .have J:=hid (wZ Q p _ _ most I F)
   replace F:=hid F;clear I;go_wp2_with fail;refine J.out.mono ?_;rintro e T ⟨rfl,B⟩;go_wp2_with fail;go_ret2
   exact .inl ⟨1,rD,rfl,ae u B,.inr ⟨⟨a,b,R,z.out⟩,F.out,rfl⟩⟩
  .obtain⟨m,rfl⟩:=Zj (show 0<=most by omega)
   have O:1<=m:=om;have P:m<=6:=om;have J:=hid (yX Q p _ _ m I O P);clear I F;go_wp2_with fail;refine J.out.mono ?_;intro e T M;obtain⟨s,rfl,L,B⟩:=M.fr u Z;replace L:=hid L;clear M;go_wp2_with fail;go_ret2;exact .inr ⟨a,b,R,m,s,z.out,rfl,O,P,rfl,L.out,B⟩
