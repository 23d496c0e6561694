/- Lemmas of this claim: Nav1. -/
import Derived.Test.YtokhnobcincfjaaGreatDoorKNEd25
import Derived.Test.YtokhnobcincfjaaGreatDoorKNEd30
set_option linter.unusedVariables false
set_option linter.unusedSimpArgs false
set_option maxHeartbeats 1600000
set_option maxRecDepth 100000
namespace Go.Proofs.YtokhnobcincfjaaGreatDoor
open Go.Lib (hid)
open Go.RowKit Go.Sort FR Go.Lib
variable {g:G}{v:Int}{T:List Nat}{B s:Nat}{w w':World}
structure Apart (s pg pt ptg rb rp rm:Nat) (S:List Nat):Prop where
 nd:[s,pg,pt,ptg,rb,rp,rm].Nodup
 out:∀k∈S,k∉[s,pg,pt,ptg,rb,rp,rm]
theorem GR{J L q t p1 b p z:Nat}{S:List Nat}{E:Int->Option (List Ed)}(h:aD w b p z S g v E)(u:∀k,k∈b::p::z::S->L<=k)(hq:q<J)(hp1:J<=p1)(U:p1<t)(ht:t<L):Apart w.heap.size q t p1 b p z S:=by
 obtain⟨M,O,I,P,Q,h6,h7,h8⟩:=h;have l1:b<w.heap.size:=(Array.getElem?_eq_some_iff.1 M).1;have l2:=O.lt;have l3:=I.lt;have Z:=I.q9;have R:z∉S:=by obtain⟨_,_,_,_,_,_,h,_⟩:=I;exact h
 have g1:=u b (by simp);have g2:=u p (by simp);have g3:=u z (by simp);refine⟨by simp;omega,λk F=>?_⟩;have g4:=u k (by simp[F]);have l5:=Z k F;have B:k≠b:=λe=>P (e▸F);have T:k≠p:=λe=>Q (e▸F);have e3:k≠z:=λe=>R (e▸F);simp;omega
def fU(w:World)(s:Nat)(g:G)(v:Int)(most:Nat)(T:List Nat):Prop:=
 ∃pg pt rb rp rm lb lm le S E Sb nl,w.heap[s]? =some (.cells #[.pointer (some ⟨pg,0,none⟩),.pointer (some ⟨pt,0,none⟩),.pointer (some ⟨rb,0,none⟩),.pointer (some ⟨lb,0,none⟩),.int .i64 (most:Nat)] 114 (0,0))/\1<=most/\most<=6/\
  az w pg g v/\aD w rb rp rm S g v E/\bI g (λ_ _=>True) E/\cz w lb lm le Sb ((LS.all g (av g) most).2:Nat) (bH g (LS.all g (av g) most).1) nl (gK g (LS.all g (av g) most).1)/\∃ptg,eH w pt ptg g v/\Apart s pg pt ptg rb rp rm S/\
  T=s::pg::pt::ptg::rb::rp::rm::(S++lb::lm::le::Sb)
def fT(w:World)(s:Nat)(g:G)(v:Int)(most:Nat):Prop:=∃T,fU w s g v most T
def iE(B:Nat)(w:World)(s:Nat)(g:G)(v:Int)(most:Nat):Prop:=∃T,fU w s g v most T/\∀k∈T,B<=k
theorem iE.RO{most:Nat}(h:iE B w s g v most):fT w s g v most:=by
 obtain⟨T,h,_⟩:=h;exact⟨T,h⟩
theorem iE.mono{B B':Nat}{most:Nat}(h:iE B w s g v most)(u:B'<=B):iE B' w s g v most:=by
 obtain⟨T,h,z⟩:=h;exact⟨T,h,λk F=>Nat.le_trans u (z k F)⟩
theorem fU.kept{X:List Nat}{most:Nat}(h:fU w s g v most T)(F:Kept X w w')(u:∀k∈T,k∉X):fU w' s g v most T:=by
 obtain⟨M,O,J,R,Q,lb,lm,le,S,E,U,nl,L,Z,B,h4,⟨P,r2,r3,r4⟩,h6,h7,I,h8,h9,rfl⟩:=h;refine⟨M,O,J,R,Q,lb,lm,le,S,E,U,nl,(F.block s (Array.getElem?_eq_some_iff.1 L).1 (u s (by simp))).trans L,Z,B,h4.kept F (u M (by simp)),?_,h6,h7.kept F (λk z=>u k ?_),I,h8.kept F (u O (by simp)) (u I (by simp)),h9,rfl⟩
 .exact⟨(F.block J (Array.getElem?_eq_some_iff.1 P).1 (u J (by simp))).trans P,r2.kept F (u R (by simp)),r3.kept F (λk z=>u k (by simp[z])) (u Q (by simp)),r4⟩
 .simp only[List.mem_cons,List.mem_append]at z⊢
  simp only[z,or_true]
theorem fU.below{most:Nat}(h:fU w s g v most T)(k:Below w.heap.size w w'):fU w' s g v most T:=h.kept (X:=[]) (.of_below k) (λ_ _=>by simp)
theorem fU.lt{most:Nat}(h:fU w s g v most T):∀k∈T,k<w.heap.size:=by
 obtain⟨pg,pt,rb,rp,rm,lb,lm,le,S,E,U,nl,J,Z,B,L,⟨Q,R,I,r4⟩,h6,⟨M,O,F,_⟩,P,z,h9,rfl⟩:=h;intro k u;simp only[List.mem_cons,List.mem_append]at u;rcases u with rfl|rfl|rfl|rfl|rfl|rfl|rfl|u|rfl|rfl|rfl|u
 .exact(Array.getElem?_eq_some_iff.1 J).1
 .exact L.lt
 .exact z.lt.1
 .exact z.lt.2
 .exact(Array.getElem?_eq_some_iff.1 Q).1
 .exact R.lt
 .exact I.lt
 .exact I.q9 k u
 .exact(Array.getElem?_eq_some_iff.1 M).1
 .exact O.lt
 .exact F.lt
 .exact F.q9 k u
theorem fT.below{most:Nat}(h:fT w s g v most)(k:Below w.heap.size w w'):fT w' s g v most:=by
 obtain⟨T,h⟩:=h;exact⟨T,h.below k⟩
theorem iE.below{most:Nat}(h:iE B w s g v most)(u:Below w.heap.size w w'):iE B w' s g v most:=by
 obtain⟨T,h,k⟩:=h;exact⟨T,h.below u,k⟩
theorem fT.ok{most:Nat}(h:fT w s g v most):g.ok:=by
 obtain⟨_,_,_,_,_,_,_,_,_,_,_,_,_,_,_,_,h,_⟩:=h;exact h.1
theorem fT.most{most:Nat}(h:fT w s g v most):1<=most/\most<=6:=by
 obtain⟨_,_,_,_,_,_,_,_,_,_,_,_,_,_,k,u,_⟩:=h;exact⟨k,u⟩
def P6(w:World)(g:G)(v:Int)(most:Nat)(e:Ending)(w':World):Prop:=∃s,e=.returned (.tuple #[.pointer (some ⟨s,0,none⟩),.nilIface])/\iE w.heap.size w' s g v most/\Below w.heap.size w w'
def J5(w:World)(q:Nat)(g:G)(v:Int)(most:Nat)(e:Ending)(w':World):Prop:=∃s T,e=.returned (.tuple #[.pointer (some ⟨s,0,none⟩),.nilIface])/\fU w' s g v most T/\(∀k∈T,k=q\/w.heap.size<=k)/\Below w.heap.size w w'
theorem J5.fr{u w w':World}{q:Nat}{most:Nat}{e:Ending}(h:J5 w q g v most e w')(z:Below u.heap.size u w)(O:u.heap.size<=q):P6 u g v most e w':=by
 obtain⟨s,T,F,I,J,L⟩:=h;refine⟨s,F,⟨T,I,λk M=>?_⟩,aa z L⟩;have:=z.size;rcases J k M with r|r<;>omega
theorem Ca(w:World)(q:Nat)(g:G)(v most:Int)(h:az w q g v)(J:most<1\/6<most):Calls Tryz.prog 44 #[.pointer (some ⟨q,0,none⟩),.int .i64 most] w λe O=>e=.returned (.tuple #[.pointer none,.iface 45 (.int .i64 1)])/\Below w.heap.size w O:=by
 have M:=hid (MZ w q g v h);replace J:=hid J;go_enter Tryz.func44,Tryz.ntmps44;go_wp2_with fail;refine M.out.mono ?_;rintro e P ⟨t,R,rfl,_,_,f,_,_,_,k⟩;have L:=hid (Bu P q g v (h.below k h.lt));clear h M;go_wp2_with fail;refine L.out.mono ?_;rintro e U ⟨b,p,Q,S,E,rfl,_,_,_,u⟩;have z:=aa k u;clear L k u;go_wp2_with fail;refine(IY _ b most J.out).mono ?_
 rintro e Z ⟨rfl,I⟩;have F:=aa (af z) I;go_wp2_with fail;go_ret2;exact⟨rfl,F⟩
theorem vD(w:World)(q:Nat)(g:G)(v:Int)(most:Nat)(h:az w q g v)(h1:1<=most)(h2:most<=6):Calls Tryz.prog 44 #[.pointer (some ⟨q,0,none⟩),.int .i64 (most:Nat)] w (J5 w q g v most):=by
 have cT:=hid (CG w q g v h);go_enter Tryz.func44,Tryz.ntmps44;go_wp2_with fail;refine cT.out.mono ?_;rintro e w1 ⟨t,p1,rfl,hp1,ap,ao,R⟩;have cG:=hid (Bu w1 q g v (h.below R h.lt));have z:=hid (And.intro ao (And.intro hp1 ap));replace h:=hid h;clear cT ao hp1 ap;go_wp2_with fail;refine cG.out.mono ?_;rintro e w2 ⟨b,p,mb,S,E,rfl,F,Q,ad,ab⟩;have U:=aa R ab
 have P:=GR F ad h.out.lt z.out.2.1 z.out.2.2 z.out.1.lt.1;have an:=hid (z.out.1.below ab);obtain⟨s,hs⟩:∃s,w2.heap.size=s:=⟨_,rfl⟩;rw[hs]at P;replace P:=hid P;have Z:=hid (And.intro (And.intro z.out.2.1 (And.intro z.out.2.2 R.size)) ad);clear ad z;have cL:=hid (BQ (w2.alloc (.cells #[.pointer (some ⟨q,0,none⟩),.pointer (some ⟨t,0,none⟩),.pointer (some ⟨b,0,none⟩),.pointer none,.int .i64 (most:Nat)] 114)) b p mb S g v E most (F.below (af (Below.refl _ _))) Q h1 h2)
 have L:(w2.alloc (.cells #[.pointer (some ⟨q,0,none⟩),.pointer (some ⟨t,0,none⟩),.pointer (some ⟨b,0,none⟩),.pointer none,.int .i64 (most:Nat)] 114)).heap[s]? =some (.cells #[.pointer (some ⟨q,0,none⟩),.pointer (some ⟨t,0,none⟩),.pointer (some ⟨b,0,none⟩),.pointer none,.int .i64 (most:Nat)] 114 (0,0)):=by
  rw[<-hs];exact heap_alloc_new _ _
 replace L:=hid L;replace F:=hid F;replace Q:=hid Q;clear cG R ab;go_wp2_with fail;refine cL.out.mono ?_;rintro e w4 ⟨bl,ml,me,Sb,nl,rfl,am,I,ac⟩
 have M:=(ac.block s (by rw[<-hs];simp)).trans L.out
 have J:∀k∈bl::ml::me::Sb,w.heap.size<=k:=λk O=>by
  have h8:=I k O;have h9:=U.size;simp at h8;omega
 have al:=hid (And.intro Z.out.1 (And.intro Z.out.2 J));clear Z J;have k3:w4.cell? ⟨s,3,none⟩=some (.pointer none):=by rw[Lib.cell_of_heap M];rfl
 have f3:w4.frozen? ⟨s,3,none⟩=false:=Lib.frozen_of_heap M 3;have B4:=aa (af (Below.refl w2.heap.size w2)) ac;have B5:=B4.setCell (p:=⟨s,3,none⟩) (by rw[hs];exact Nat.le_refl _) (.pointer (some ⟨bl,0,none⟩));have ai:=aa U B5;have ag:=aH w4 s 3 _ _ (.pointer (some ⟨bl,0,none⟩)) M
 have T:=am.kept ((Kept.refl [s] w4).setCell (p:=⟨s,3,none⟩) (u:=.pointer (some ⟨bl,0,none⟩)) (.inl (by simp))) (λk O=>by
  have:=I k O;simp at this;simp;omega)
 have B:=F.out.below B5;have aq:=hid (an.out.below B5);clear an;replace ag:=hid ag;replace T:=hid T;replace B:=hid B;replace M:=hid M;have ar:=U.size;clear am I ac B4 B5;go_wp2_with fail;go_ret2
 refine⟨s,_,rfl,⟨q,t,b,p,mb,bl,ml,me,S,E,Sb,nl,ag.out,h1,h2,h.out.below ai h.out.lt,B.out,Q.out,T.out,p1,aq.out,P.out,rfl⟩,λk O=>?_,ai⟩;obtain⟨⟨f1,f2,f3⟩,f4,f5⟩:=al.out;simp only[List.mem_cons,List.mem_append]at O;rcases O with rfl|rfl|rfl|rfl|rfl|rfl|rfl|O|rfl|rfl|rfl|O
 .right;omega
 .left;rfl
 .right;omega
 .right;omega
 .right;exact Nat.le_trans f3 (f4 _ (by simp))
 .right;exact Nat.le_trans f3 (f4 _ (by simp))
 .right;exact Nat.le_trans f3 (f4 _ (by simp))
 .right;exact Nat.le_trans f3 (f4 k (by simp[O]))
 .right;exact f5 _ (by simp)
 .right;exact f5 _ (by simp)
 .right;exact f5 _ (by simp)
 .right;exact f5 k (by simp[O])
def Sg(w:World)(l:List UInt8)(most:Int)(e:Ending)(w':World):Prop:=
 (∃k:Nat,0<k/\e=.returned (.tuple #[.pointer none,.iface 45 (.int .i64 (k:Nat))])/\Below w.heap.size w w'/\((bZ l=.bad k)\/((∃a b R,bZ l=.ok a b R)/\(most<1\/6<most)/\k=1)))\/
 ∃a b R m s,bZ l=.ok a b R/\most=((m:Nat):Int)/\1<=m/\m<=6/\e=.returned (.tuple #[.pointer (some ⟨s,0,none⟩),.nilIface])/\iE w.heap.size w' s (eU a b R (b*a)) (gB (gI a R) (b*a)) m/\Below w.heap.size w w'
theorem Gd(w:World)(B:pQ w)(l:List UInt8)(most:Int):Calls Tryz.prog 17 #[.string (bs l),.int .i64 most] w (Sg w l most):=by
 have U:=hid (JA w l B);go_enter Tryz.func17,Tryz.ntmps17;go_wp2_with fail;refine U.out.mono ?_
 rintro e S (⟨k,z,Z,rfl,u⟩|⟨a,b,R,p,z,rfl,g,J,u⟩)
 .replace z:=hid z
  go_wp2_with fail;go_ret2;exact .inl ⟨k,Z,rfl,u,.inl z.out⟩
 .replace z:=hid z
  by_cases I:most<1\/6<most
  .have L:=hid (Ca S p _ _ most J I)
   replace I:=hid I;clear J;go_wp2_with fail;refine L.out.mono ?_;rintro e T ⟨rfl,F⟩;go_wp2_with fail;go_ret2
   exact .inl ⟨1,by decide,rfl,aa u F,.inr ⟨⟨a,b,R,z.out⟩,I.out,rfl⟩⟩
  .obtain⟨m,rfl⟩:=Int.eq_ofNat_of_zero_le (show 0<=most by omega)
   have P:1<=m:=by omega
   have Q:m<=6:=by omega
   have L:=hid (vD S p _ _ m J P Q);clear J I;go_wp2_with fail;refine L.out.mono ?_;intro e T O;obtain⟨s,rfl,M,F⟩:=O.fr u g;replace M:=hid M;clear O;go_wp2_with fail;go_ret2;exact .inr ⟨a,b,R,m,s,z.out,rfl,P,Q,rfl,M.out,F⟩
