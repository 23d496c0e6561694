/- Lemmas of this claim: DetW, Nav3, Nav4, Stats. -/
import Derived.Test.YtokhnobcincfjaaGreatDoorNav2
import Derived.Test.YtokhnobcincfjaaGreatDoorKNEd42
set_option linter.unusedVariables false
set_option linter.unusedSimpArgs false
set_option maxHeartbeats 12800000
set_option maxRecDepth 100000
namespace Go.Proofs.YtokhnobcincfjaaGreatDoor
open Go.Lib (hid)
open Go.RowKit Go.Sort FR Go.Lib
variable {g:G}{W W':List Nat}{B a b:Nat}{T:TypeId}{w:World}
theorem O1{p q r:Nat×Nat}(h:g.Ty a b p q)(k:g.Ty a b p r):q=r:=by
 rcases h with⟨u,J,z⟩|⟨u,z⟩<;>rcases k with⟨F,L,I⟩|⟨F,I⟩
 .rw[z,I]
 .exact absurd ⟨u,J⟩ F
 .exact absurd ⟨F,L⟩ u
 .rw[z,I]
theorem CS{P Q:Nat->Nat×Nat}(h:g.xg a b P)(k:g.xg a b Q):P=Q:=by
 funext n
 induction n with
 |zero=>rw[h.1,k.1]
 |succ n z=>
  have u:=h.2 n;have F:=k.2 n;rw[z]at u;exact O1 u F
inductive JQ (g:G):List Nat->List Nat->Prop
 |one (a:Nat):JQ g [a] [a]
 |snoc {T W M:List Nat} {z y:Nat} {P:Nat->Nat×Nat}:JQ g T W->T.getLast?=some z->g.xg z y P->mK g z y P (g.fI z y+g.fJ z y+1)=z::M->JQ g (T++[y]) (W++M)
theorem JQ.len{P W:List Nat}(h:JQ g P W):P≠[]:=by cases h<;>simp
theorem JQ.JH{P W W':List Nat}(h:JQ g P W)(k:JQ g P W'):W=W':=by
 induction h generalizing W' with
 |one a=>
  generalize u:[a]=P at k;cases k with
  |one b=>rfl
  | @snoc P _ _ _ y _ L _ _ _=>
   exfalso;have I:=congrArg List.length u;have J:=L.len;cases P with
   |nil=>exact J rfl
   |cons=>simp at I
 | @snoc P W M z y Q S I J U Z=>
  generalize u:P++[y]=R at k;cases k with
  |one b=>
   exfalso;have T:=congrArg List.length u;have q3:=S.len;cases P with
   |nil=>exact q3 rfl
   |cons=>simp at T
  | @snoc P' W1 M' z' y' Q' L F B O=>
   obtain⟨rfl,e⟩:=List.append_inj' u rfl;simp only[List.cons.injEq,and_true]at e;subst e;rw[I]at F;injection F with F;subst F
   obtain rfl:=CS J B;rw[U]at O;rw[Z L,(List.cons.inj O).2]
def NK(g:G)(most a b:Nat)(W:List Nat):Prop:=
 (g.dz a b/\∃P,g.xg a b P/\W=mK g a b P (g.fI a b+g.fJ a b+1))\/
 (¬g.dz a b/\∃Wy,kM g (LS.all g (av g) most).2 (LS.all g (av g) most).1 (rV g b) (tO g a) (tO g b) Wy/\JQ g (a::(Wy++[b])) W)
theorem NK.JH{most a b:Nat}(h:NK g most a b W)(k:NK g most a b W'):W=W':=by
 rcases h with⟨u,P,z,F⟩|⟨u,P,z,F⟩<;>rcases k with⟨I,Q,J,L⟩|⟨I,Q,J,L⟩
 .rw[F,L,CS z J]
 .exact absurd u I
 .exact absurd I u
 .obtain rfl:=z.JH J
  exact F.JH L
def wY(g:G)(most:Nat)(x y:Int)(W:List Nat)(c:C)(er:Nat):Prop:=cu g x y W c er/\(er=0->∃a b:Nat,x=a/\y=b/\NK g most a b W)
theorem wY.JH{most:Nat}{x y:Int}{c z:C}{e F:Nat}(h:wY g most x y W c e)(k:wY g most x y W' z F):W=W'/\c=z/\e=F:=by
 obtain⟨rfl,rfl⟩:=AQ h.1 k.1;refine⟨?_,rfl,rfl⟩;by_cases u:e=0
 .obtain⟨a,b,rfl,rfl,O⟩:=h.2 u
  obtain⟨I,J,L,M,P⟩:=k.2 u;obtain rfl:a=I:=Int.ofNat_inj.1 L;obtain rfl:b=J:=Int.ofNat_inj.1 M;exact O.JH P
 .rw[(h.1.zero u).1,(k.1.zero u).1]
def PT(w:World)(A:Option Addr):Prop:=∀ad,A=some ad->ad.block<w.heap.size/\∀o,w.frozen? ⟨ad.block,o,none⟩=false
theorem PT.kept{S:List Nat}{w w':World}{A:Option Addr}(h:PT w A)(u:Kept S w w')(z:∀k,A=some k->k.block∉S):PT w' A:=λk e=>
 ⟨Nat.lt_of_lt_of_le (h k e).1 u.size,λo=>(World.frozen?_of_block (w:=w) (a:=⟨k.block,o,none⟩) (u.block _ (h k e).1 (z k e))).trans ((h k e).2 o)⟩
theorem aI.Qh{v:Value}{u:List Int}(h:aI w B v u):∃A m,v=.slice A u.length m/\Ints w A u.length (λk=>u.getD k 0)/\(∀z,A=some z->B<=z.block)/\PT w A:=by
 obtain⟨A,m,rfl,O,P⟩:=h.Lh;refine⟨A,m,rfl,O,P,λz e=>?_⟩;rcases h.2 with⟨F,_⟩|⟨g,L,M,I,_,J,_⟩
 .injection F with F;rw[F]at e;cases e
 .injection I with I;rw[I]at e;injection e with e;subst e
  exact⟨(Array.getElem?_eq_some_iff.1 J).1,λo=>Lib.frozen_of_heap J o⟩
def Dg(w:World)(g:G)(most:Nat)(x y:Int)(e:Ending)(w':World):Prop:=
 ∃(W:List Nat)(c:C)(er:Nat),wY g most x y W c er/\Below w.heap.size w w'/\
  ((er≠0/\e=.returned (.tuple #[.slice none 0 0,.iface 45 (.int .i64 (er:Nat))]))\/
   (er=0/\∃A m,e=.returned (.tuple #[.slice A W.length m,.nilIface])/\Ints w' A W.length (λk=>(bJ W).getD k 0)/\(∀ad,A=some ad->w.heap.size<=ad.block)/\PT w' A))
theorem CU(g:G)(a b:Nat)(P:Nat->Nat×Nat)(n:Nat):bJ (mK g a b P n)=lU g a b P n:=by simp[bJ,mK,lU]
theorem mM(g:G)(a b:Nat)(P:Nat->Nat×Nat)(n:Nat):(mK g a b P n).length=n:=by simp[mK]
theorem IK{W M:List Nat}{z y:Nat}(u:W.getLast?=some z)(k:(z::M).getLast?=some y):(W++M).getLast?=some y:=by
 cases M with
 |nil=>simp at k;subst k;simpa using u
 |cons x l=>rw[List.getLast?_append];rw[List.getLast?_cons_cons]at k;rw[k];rfl
def pX(g:G)(a:Nat)(T:List Nat)(cT:C)(k:Nat)(Wk:List Nat):Prop:=
 ∃(z:Nat)(ck c2:C),((a::T)[k]? =some z/\JQ g ((a::T).take (k+1)) Wk)/\Wk.head?=some a/\Wk.getLast?=some z/\LS.LW g.E Wk ck/\LS.LW (JX g) (z::T.drop k) c2/\C.add ck c2=cT/\Wk.length<=1+k*300
theorem pX.start{T:List Nat}{k:C}(h:LS.LW (JX g) (a::T) k):pX g a T k 0 [a]:=
 ⟨a,C.zero,k,⟨rfl,.one a⟩,rfl,rfl,.one a,by simpa using h,C.zero_add ..,by simp⟩
theorem pX.next{g:G}(F:g.ok){a:Nat}{T:List Nat}{B:C}{k u:Nat}{I:List Nat}(h:pX g a T B k I)(Q:T[k]? =some u):∃z,I.getLast?=some z/\z<g.n/\u<g.n/\g.b z=false/\g.b u=false/\g.dz z u/\∀P,g.xg z u P->∃M,mK g z u P (g.fI z u+g.fJ z u+1)=z::M/\pX g a T B (k+1) (I++M):=by
 obtain⟨z,ck,c2,h1,h2,O,h4,J,h6,h7⟩:=h;obtain⟨q1,q2⟩:=List.getElem?_eq_some_iff.1 Q;rw[List.drop_eq_getElem_cons q1,q2]at J;cases J with
 |cons he J=>
  obtain⟨R,S,n3,n4,n5,rfl⟩:=he;refine⟨z,O,R,S,n3,n4,n5,λP hP=>?_⟩;obtain⟨M,L,e2,e3⟩:=yK F S R n5 hP;obtain⟨f1,f2⟩:=G.sQ F S R;have hl:=mM g z u P (g.fI z u+g.fJ z u+1);rw[L]at hl;simp only[List.length_cons]at hl;refine⟨M,L,u,_,_,⟨by simpa using Q,?_⟩,?_,IK O e3,zL h4 O e2,J,by rw[C.add_assoc,h6],?_⟩
  .have e4:(a::T).take (k+1+1)=(a::T).take (k+1)++[u]:=by
    have e5:(a::T)[k+1]? =some u:=by simpa using Q
    obtain⟨U,Z⟩:=List.getElem?_eq_some_iff.1 e5;rw[List.take_succ_eq_append_getElem U,Z]
   rw[e4];refine .snoc h1.2 ?_ hP L;obtain⟨U,Z⟩:=List.getElem?_eq_some_iff.1 h1.1;rw[List.take_succ_eq_append_getElem U,Z];simp
  .cases I with
   |nil=>simp at h2
   |cons x l=>simpa using h2
  .rw[List.length_append];omega
theorem pX.fin{W T:List Nat}{F:C}{k:List Nat}(h:pX g a T F T.length k)(P:T=W++[b]):LS.LW g.E k F/\k.head?=some a/\k.getLast?=some b/\JQ g (a::T) k:=by
 obtain⟨z,R,Q,u,L,M,O,I,J,S⟩:=h;rw[List.drop_length]at I;cases I;rw[C.add_zero]at J;subst J
 have:z=b:=by
  subst P;have e:(a::(W++[b]))[(W++[b]).length]? =some b:=by simp
  rw[e]at u;exact(Option.some.inj u.1).symm
 subst this;refine⟨O,L,M,?_⟩;have:=u.2;rwa[List.take_of_length_le (by simp)]at this
def QP(W8:World)(g:G)(a:Nat)(T:List Nat)(cT:C)(gT:Nat)(k:Nat)(sl:Value)(wr:World):Prop:=
 ∃Wk,pX g a T cT k Wk/\aI wr W8.heap.size sl (bJ Wk)/\sl.ownBlock≠some gT/\gT<wr.heap.size/\(∀(j z:Nat),T[j]? =some z->wr.cell? ⟨gT,j,none⟩=some (.int .i64 (z:Nat)))/\Below W8.heap.size W8 wr
theorem SY{E:Int->Option (List Ed)}(h:bI g (λ_ _=>True) E):∀z:Int,E z≠none↔∃c:Nat,z=c/\g.ak c:=h.1
theorem Rv(w:World)(s:Nat)(g:G)(v:Int)(most:Nat)(h:fT w s g v most)(x y:Int):Calls Tryz.prog 46 #[.pointer (some ⟨s,0,none⟩),.int .i64 x,.int .i64 y] w (Dg w g most x y):=by
 obtain⟨_,pg,pt,rb,rp,rm,lb,lm,le,S,E,Sb,nl,hs,m1,m2,hG,a5,cI,cJ,_⟩:=h;have O:w.cell? ⟨s,0,none⟩=some (.pointer (some ⟨pg,0,none⟩)):=by rw[Lib.cell_of_heap hs];rfl
 have aS:w.cell? ⟨s,2,none⟩=some (.pointer (some ⟨rb,0,none⟩)):=by rw[Lib.cell_of_heap hs];rfl
 have Z:w.cell? ⟨s,3,none⟩=some (.pointer (some ⟨lb,0,none⟩)):=by rw[Lib.cell_of_heap hs];rfl
 have ac:=hid hG.1;have Q:=hid hG;have ab:=hid a5;have ci:=hid cI;have R:=hid cJ;clear hs hG a5 cI cJ;go_enter Tryz.func46,Tryz.ntmps46;go_upto_region 1 with(fail);refine au ?_;intro W hW;have HW:Below w.heap.size w W:=by rw[hW];(repeat' (first|exact Below.refl _ _|assumption|apply aj|apply ah|apply af|(refine aa ?_ (by assumption))))
 obtain⟨b3,J⟩:∃z,w.heap.size=z:=⟨_,rfl⟩;have k3:W.cell? ⟨b3,0,none⟩=some (.pointer (some ⟨s,0,none⟩)):=by rw[hW,<-J];go_simp
 rw[J];replace O:=ae HW O;replace aS:=ae HW aS;replace Z:=ae HW Z;replace Q:=hid (Q.out.below HW Q.out.lt);replace ab:=hid (ab.out.below HW);replace R:=hid (R.out.below HW);replace HW:=hid HW;clear hW J;by_cases h0:eP g x y=0
 case neg=>
  obtain⟨fz,b8⟩:∃z,eP g x y=z:=⟨_,rfl⟩;have co:fz≠0:=by rw[<-b8];exact h0
  have cN:=hid (xz W pg g v x y fz Q.out b8 co);have hA:wY g most x y [] C.zero fz:=⟨.inl ⟨h0,b8.symm,rfl,rfl⟩,λq=>absurd q co⟩;replace hA:=hid hA;clear h0 b8;go_wp2_with fail;refine cN.out.mono ?_;rintro e w2 ⟨rfl,F⟩;go_wp2_with fail;go_ret2;exact⟨[],C.zero,fz,hA.out,aa HW.out F,.inl ⟨co,rfl⟩⟩
 obtain⟨f1,f2⟩:=Ip h0;obtain⟨a,rfl,ha,fa⟩:=G.gN f1;obtain⟨b,rfl,hb,fb⟩:=G.gN f2;clear h0 f1 f2;have u:=hid (And.intro ha (And.intro hb (And.intro fa fb)));clear ha hb fa fb;obtain⟨t,ht⟩:∃t:Bool,t=true↔g.dz a b:=⟨@decide (g.dz a b) (Classical.propDecidable _),by simp⟩;have cN:=hid (qN W pg g v a b t Q.out u.out.1 u.out.2.1 u.out.2.2.1 u.out.2.2.2 ht);replace ht:=hid ht;go_wp2_with fail;refine cN.out.mono ?_;rintro e w2 ⟨rfl,F⟩;have bt:=hid (aa HW.out F);replace k3:=ae F k3;replace O:=ae F O;replace aS:=ae F aS;replace Z:=ae F Z;replace Q:=hid (Q.out.below F Q.out.lt);replace ab:=hid (ab.out.below F)
 replace R:=hid (R.out.below F);clear cN HW F;cases t with
 |true=>
  have hn:g.dz a b:=ht.out.1 rfl;have cW:=hid (qO w2 pg g v a b Q.out u.out.1 u.out.2.1 u.out.2.2.1 u.out.2.2.2 hn);replace hn:=hid hn;go_wp2_with fail;refine cW.out.mono ?_;rintro e w3 ⟨P,hP,v',rfl,hO,J⟩;obtain⟨A,mm,rfl,hI,hf,hz⟩:=hO.Qh;obtain⟨M,e1,e2,e3⟩:=yK ac.out u.out.2.1 u.out.1 hn.out hP
  have hA:wY g most (a:Nat) (b:Nat) (mK g a b P (g.fI a b+g.fJ a b+1)) (g.bV a b) 0:=
   ⟨.inr ⟨a,b,rfl,rfl,u.out.1,u.out.2.1,u.out.2.2.1,u.out.2.2.2,.inr ⟨G.x8.1 hn.out,rfl,by rw[e1];exact e2,by rw[e1];rfl,by rw[e1];exact e3⟩⟩,λ_=>⟨a,b,rfl,rfl,.inl ⟨hn.out,P,hP,rfl⟩⟩⟩
  have cq:(mK g a b P (g.fI a b+g.fJ a b+1)).length=(lU g a b P (g.fI a b+g.fJ a b+1)).length:=by rw[mM,tK]
  have hF:Dg w g most (a:Nat) (b:Nat) (.returned (.tuple #[.slice A (lU g a b P (g.fI a b+g.fJ a b+1)).length mm,.nilIface])) w3:=
   ⟨_,_,0,hA,aa bt.out J,.inr ⟨rfl,A,mm,by rw[cq],by rw[cq,CU];exact hI,λad e=>Nat.le_trans bt.out.size (hf ad e),hz⟩⟩
  replace hF:=hid hF;clear hA hI hf hz hO hP e1 e2 e3 J cW cq;go_wp2_with fail;go_ret2;exact hF.out
 |false=>
  have hn:¬g.dz a b:=λk=>by have:=ht.out.2 k;cases this
  replace hn:=hid hn;have a9:=ac.out;have ea:=G.bR a9;obtain⟨eo,bi⟩:∃L,L=tO g a:=⟨_,rfl⟩;obtain⟨ei,bh⟩:∃L,L=tO g b:=⟨_,rfl⟩;have c8:eo.length<=256:=by rw[bi];exact Nat.le_trans (zf _ _ _ _) (eQ a9)
  have c7:ei.length<=256:=by rw[bh];exact Nat.le_trans (zf _ _ _ _) (eQ a9)
  have dg:uD eo:=by rw[bi];exact KN a9 u.out.1
  have de:uD ei:=by rw[bh];exact KN a9 u.out.2.1
  have dd:∀e∈ei,∀t:Nat,e.to_=t->C.le (g.bV t b) e.c:=by rw[bh];exact Oh
  have He:=hid (And.intro bi bh);have HO:=hid (And.intro dg (And.intro de dd))
  have cC:Calls Tryz.prog 85 #[.pointer (some ⟨rb,0,none⟩),.int .i64 (a:Nat)] w2 (sH w2 eo):=by
   rw[bi];exact qo w2 rb rp rm S g v a E ab.out (SY ci.out) u.out.1 u.out.2.2.1
  replace cC:=hid cC;clear bi bh dg de dd a9;go_wp2_with fail;refine cC.out.mono ?_;rintro e w3 ⟨vO,rfl,hO,J⟩;obtain⟨AO,mO,rfl,cH⟩:=hO.Ag;have cA:=hid (aa bt.out J);replace k3:=ae J k3;replace O:=ae J O;replace aS:=ae J aS;replace Z:=ae J Z;replace Q:=hid (Q.out.below J Q.out.lt);replace ab:=hid (ab.out.below J)
  replace R:=hid (R.out.below J);have a4:=hid cH.o
  have cC:Calls Tryz.prog 85 #[.pointer (some ⟨rb,0,none⟩),.int .i64 (b:Nat)] w3 (sH w3 ei):=by
   rw[He.out.2];exact qo w3 rb rp rm S g v b E ab.out (SY ci.out) u.out.2.1 u.out.2.2.2
  replace cC:=hid cC;clear hO cH J bt;go_wp2_with fail;refine cC.out.mono ?_;rintro e w4 ⟨vI,rfl,hI,an⟩;obtain⟨AI,mI,rfl,cG⟩:=hI.Ag;have cB:=hid (aa cA.out an);replace k3:=ae an k3;replace O:=ae an O;replace Z:=ae an Z;replace Q:=hid (Q.out.below an Q.out.lt);replace R:=hid (R.out.below an);replace a4:=hid (a4.out.below an)
  have bv:=hid cG.o;have cP:=hid (aU w4 pg g v b Q.out u.out.2.1);clear hI cG an cA cC ab ci aS;go_wp2_with fail;refine cP.out.mono ?_;rintro e w5 ⟨rfl,ao⟩
  go_upto_region 13 with(fail);refine au ?_;intro W6 b5;have cQ:Below w5.heap.size w5 W6:=by rw[b5];(repeat' (first|exact Below.refl _ _|assumption|apply aj|apply ah|apply af|(refine aa ?_ (by assumption))))
  have kx:W6.cell? ⟨w5.heap.size,0,none⟩=some (.int .i64 (g.X b:Nat)):=by rw[b5];go_simp
  have ky:W6.cell? ⟨w5.heap.size+1,0,none⟩=some (.int .i64 (g.Y b:Nat)):=by rw[b5];go_simp
  obtain⟨bx,cV⟩:∃z,w5.heap.size=z:=⟨_,rfl⟩;obtain⟨cF,cX⟩:∃z,bx+1=z:=⟨_,rfl⟩;have ag:=aa ao cQ;rw[cV]at kx ky⊢;rw[cX]at ky⊢;replace kx:=hid kx;replace ky:=hid ky;have al:=hid (aa cB.out ag);replace k3:=ae ag k3;replace O:=ae ag O;replace Z:=ae ag Z;replace Q:=hid (Q.out.below ag Q.out.lt);replace R:=hid (R.out.below ag);replace a4:=hid (a4.out.below ag);replace bv:=hid (bv.out.below ag);clear b5 ao cQ cV cX ag cB cP;obtain⟨HF,_,dk⟩:=LS.Fg ac.out (av g) (λn=>bn) (most:=most) m1 m2;obtain⟨Sv,cl⟩:∃S,(LS.all g (av g) most).1=S:=⟨_,rfl⟩;obtain⟨tp,a2⟩:∃tp,(LS.all g (av g) most).2=tp:=⟨_,rfl⟩;have cD:=hid (And.intro cl a2);rw[cl,a2]at HF R;rw[a2]at dk;have ch:tp<=6:=by omega
  obtain⟨no,aq⟩:∃z,eo.length=z:=⟨_,rfl⟩;obtain⟨ni,cv⟩:∃z,ei.length=z:=⟨_,rfl⟩;rw[aq]at c8⊢;rw[cv]at c7⊢
  have cS:=hid (PG W6 lb lm le nl Sb tp g Sv ac.out HF ch R.out AO no mO eo a4.out aq (by omega) HO.out.1 AI ni mI ei bv.out cv (by omega) HO.out.2.1
   88 #[.pointer (some ⟨b3,0,none⟩),.pointer (some ⟨bx,0,none⟩),.pointer (some ⟨cF,0,none⟩)] (rV g b)
   (KY W6 b3 bx cF s pg g v b u.out.2.1 k3 O kx.out ky.out Q.out) (Ep ac.out u.out.2.1) (Ce g b) (λd2 f hf=>Rh ac.out HF HO.out.2.2 d2 f hf))
  clear HF dk cl a2 ch aq cv c8 c7 R a4 bv kx ky;go_wp2_with fail;(with_reducible refine cS.out.mono ?_);rintro e w7 ⟨vw,⟨cs,cd⟩,fd,rfl,U,aq,a8,a3⟩;rw[show oo ⟨cs,cd⟩=.agg #[.int .i64 cs,.int .i64 cd]from rfl];have cR:=a8;replace al:=hid (aa al.out a8);replace k3:=ae a8 k3;replace O:=ae a8 O;replace Q:=hid (Q.out.below a8 Q.out.lt);replace U:=hid U;replace aq:=hid aq;replace a3:=hid a3;clear cS a8 cR Z;go_upto_region 14 with(fail);refine au ?_;intro W8 cm;have ax:Below w7.heap.size w7 W8:=by rw[cm];(repeat' (first|exact Below.refl _ _|assumption|apply aj|apply ah|apply af|(refine aa ?_ (by assumption))))
  replace al:=hid (aa al.out ax);replace k3:=ae ax k3;replace O:=ae ax O;replace Q:=hid (Q.out.below ax Q.out.lt);cases fd with
  |false=>
   have hv:=aq.out rfl;subst hv
   have hA:wY g most (a:Nat) (b:Nat) [] C.zero 5:=by
    refine⟨?_,λq=>nomatch q⟩;have F:=U.out;rw[He.out.1,He.out.2]at F;exact .inr ⟨a,b,rfl,rfl,u.out.1,u.out.2.1,u.out.2.2.1,u.out.2.2.2,.inl ⟨G5 F hn.out,rfl,rfl,rfl⟩⟩
   replace hA:=hid hA;clear cm ax;go_wp2_with fail;go_ret2
   exact⟨[],C.zero,5,hA.out,al.out,.inl ⟨by decide,rfl⟩⟩
  |true=>
   obtain⟨AW,mW,Wy,f,rfl,cn,am,cL,cM,ba,a0,bb⟩:=a3.out rfl;have bb:Hid (kM g (LS.all g (av g) most).2 (LS.all g (av g) most).1 (rV g b) (tO g a) (tO g b) Wy):=hid (by rw[cD.out.1,cD.out.2,<-He.out.1,<-He.out.2];exact bb);replace am:=am.below ax;have F:=U.out;rw[He.out.1,He.out.2]at F;rw[He.out.2]at ba;rw[He.out.1]at a0;have b0:=MX ac.out u.out.1 u.out.2.1 u.out.2.2.1 u.out.2.2.2 F ba a0 hn.out;have hD:=hid (xI F hn.out)
   have bc:0<Wy.length:=by
    obtain⟨_,_,_,_,_,_,h,_⟩:=a0;cases Wy with
    |nil=>simp at h
    |cons=>simp
   obtain⟨n1,aE⟩:∃z,Wy.length=z:=⟨_,rfl⟩;rw[aE]at am bc cM cn⊢;obtain⟨ad,rfl,_⟩:=am bc;replace b0:=hid b0;replace am:=hid am;replace aE:=hid aE;clear cm ax F ba a0 cL U aq a3 He HO;go_upto_region 17 with(fail);refine au ?_;intro W9 b6;have cT:Below W8.heap.size W8 W9:=by rw[b6];(repeat' (first|exact Below.refl _ _|assumption|apply aj|apply ah|apply af|(refine aa ?_ (by assumption))))
   have hO:aI W9 W8.heap.size (.slice (some ⟨W8.heap.size,0,none⟩) 1 1) (bJ [a]):=by
    rw[b6];refine⟨rfl,.inr ⟨W8.heap.size,1,#[.int .i64 (a:Nat)],rfl,Nat.le_refl _,?_,by simp,by decide,rfl,rfl⟩⟩;exact heap_alloc_new W8 (.cells #[.int .i64 (a:Nat)] 3 (0,0))
   have bg:=af cT (o:=.cells #[.int .i64 (b:Nat)] 3);have d0:W8.heap.size<W9.heap.size:=by rw[b6];simp
   have a6:=hid (am.out.below bg)
   have b7:∀(k:Nat)(z:Int),[((b:Nat):Int)][k]? =some z->(W9.alloc (.cells #[.int .i64 (b:Nat)] 3)).cell? ((⟨W9.heap.size,0,none⟩:Addr).add k)=some (.int .i64 z):=by
    intro k z hz;cases k with
    |zero=>
     simp at hz;subst hz;rw[Addr.add_lit];exact dm _ _ _
    |succ k=>simp at hz
   replace hO:=hid (aI.below (B':=0) hO (af (Below.refl _ _) (o:=.cells #[.int .i64 (b:Nat)] 3)));clear b6 cT;have cw:(bJ Wy).length=n1:=by rw[bF];exact aE.out
   have dj:=EF (ad:=ad) bc cn;obtain⟨T,hT⟩:∃T,Wy++[b]=T:=⟨_,rfl⟩;have bd:bJ Wy++[((b:Nat):Int)]=bJ T:=by rw[<-hT];simp
   have a7:(bJ T).length=n1+1:=by rw[<-bd,List.length_append,cw];rfl
   rw[hT]at b0;obtain⟨nT,da⟩:∃z,(bJ T).length=z:=⟨_,rfl⟩;have HT:=hid (And.intro hT (And.intro da (And.intro bd a7)));replace b7:=hid b7;replace aE:=aE.out;clear bd a7 hT da
   go_wp2_with
    (first
     |(at_builtin;(refine iI _ rfl _ _ rfl (some ad) n1 (bJ Wy) [((b:Nat):Int)] rfl cw bc a6.out ⟨W9.heap.size,0,none⟩ 1 _ rfl rfl (by decide) b7.out (by omega) ?_);intro v' d3 I be
       rw[HT.out.2.2.1]at I;obtain⟨gT,mT,dl,dy⟩:=I.addr (by rw[HT.out.2.2.2];omega);rw[HT.out.2.1]at dl dy;subst dl;replace I:=hid I))
   have ay:=World.ownsRow.lt I.out gT rfl
   have bq:QP W8 g a T ⟨cs,cd⟩ gT 0 (.slice (some ⟨W8.heap.size,0,none⟩) 1 1) d3:=by
    refine⟨[a],pX.start b0.out,aI.below (B':=0) hO.out be,?_,ay.2,λj z hz=>I.out.cell (mF hz),aa bg be⟩;intro e;simp[Value.ownBlock]at e;have:=ay.1;simp at this;omega
   replace bq:=hid bq
   have cp:∀(k:Nat),k<nT->∀wx,(Instr.indexAt 22 (.slice (some ⟨gT,0,none⟩) nT mT) (.int .i64 ((k:Nat):Int))).run Tryz.prog wx=.ok (.pointer (some ⟨gT,k,none⟩)) wx:=λk hk wx=>by
    have:=aX (A:=some ⟨gT,0,none⟩) (m:=mT) rfl hk wx;rw[Addr.add_lit,Nat.zero_add]at this;exact this
   replace cp:=hid cp;have a7:=HT.out.2.2.2;rw[HT.out.2.1]at a7;have d4:nT<=2000001:=by omega
   have d6:=hid a7;clear a7 cM cn aE bc;clear I be hO b7 a6 d0 bg dj cw ay am;go_loopw [18,107] (λsl iv wr=>∃(k:Nat),k<=nT/\iv=.int .i64 (k:Nat)/\QP W8 g a T ⟨cs,cd⟩ gT k sl wr) (λ_ iv _=>nT-(intOf iv).toNat)
   case atStart=>exact⟨0,Nat.zero_le _,rfl,bq.out⟩
   case round=>
    obtain⟨k,hk,rfl,Wk,aw,ar,cr,ay,b4,hB⟩:=hrel;by_cases dx:k<nT
    .obtain⟨z',ca⟩:∃z',T[k]? =some z':=⟨_,List.getElem?_eq_getElem (by have:=HT.out.2.1;rw[bF]at this;omega)⟩
     obtain⟨z,hl,cx,cy,dn,dp,dr,br⟩:=aw.next ac.out ca
     have cg:0<(bJ Wk).length:=by
      rw[bF];cases Wk with
      |nil=>simp at hl
      |cons=>simp
     obtain⟨gk,mk,rfl,dT⟩:=ar.addr cg;obtain⟨nk,bm⟩:∃z,(bJ Wk).length=z:=⟨_,rfl⟩;obtain⟨jk,c5⟩:∃j,nk=j+1:=⟨nk-1,by omega⟩
     have bk:(bJ Wk)[jk]? =some ((z:Nat):Int):=by
      refine mF ?_;rw[List.getLast?_eq_getElem?]at hl;rw[bF]at bm;rw[show jk=Wk.length-1 by omega];exact hl
     have cY:=ar.cell bk;have eb:=World.ownsRow.lt ar gk rfl;have c1:gk≠gT:=λe=>cr (by rw[e];rfl);rw[bm]at dT⊢
     have ec:nk<=1+k*300:=by
      obtain⟨_,_,_,_,_,_,_,_,_,h⟩:=aw;rw[bF]at bm;omega
     have d7:=aa al.out hB;have hd:=ah (Below.refl wr.heap.size wr);have dt:=ae hB k3;have ds:=ae hB O;have a5:=Q.out.below hB Q.out.lt;have cW:=hid (qO wr.drew pg g v z z' (a5.below hd a5.lt) cx cy dn dp dr);have ct:=b4 k z' ca;have c2:=cp.out k dx;have q0:wr.drew.cell? ⟨b3,0,none⟩=some (.pointer (some ⟨s,0,none⟩))/\wr.drew.cell? ⟨s,0,none⟩=some (.pointer (some ⟨pg,0,none⟩))/\wr.drew.cell? ⟨gk,jk,none⟩=some (.int .i64 (z:Nat)):=⟨ae hd dt,ae hd ds,ae hd cY⟩;have d1:IntKind.i64.wrap ((nk:Int)-1)=(nk:Int)-1:=IntWalk.i64_in _ (by omega);have d5:1<=nk:=by omega
     have ap:∀wx,(Instr.indexAt 22 (.slice (some ⟨gk,0,none⟩) nk mk) (.int .i64 ((jk:Nat):Int))).run Tryz.prog wx=.ok (.pointer (some ⟨gk,jk,none⟩)) wx:=λwx=>by
      have:=aX (A:=some ⟨gk,0,none⟩) (m:=mk) rfl (show jk<nk by omega) wx;rw[Addr.add_lit,Nat.zero_add]at this;exact this
     obtain⟨Ak,bw⟩:∃A,some (⟨gk,0,none⟩:Addr)=A:=⟨_,rfl⟩;rw[bw]at ap⊢;replace bw:=hid bw
     have c4:∀wx,(Instr.indexAt 22 (.slice Ak nk mk) (.int .i64 ((nk:Int)-1))).run Tryz.prog wx=.ok (.pointer (some ⟨gk,jk,none⟩)) wx:=λwx=>by
      have:=ap wx;rwa[show((jk:Nat):Int)=(nk:Int)-1 by omega]at this
     replace ap:=hid ap;have H1:=hid (And.intro aw (And.intro ar (And.intro b4 (And.intro br (And.intro bm c5)))));have H2:=hid (And.intro hB ay);have cE:=hid (And.intro cx cy);replace hk:=hid hk;replace ca:=hid ca;clear bq aw ar b4 br bm c5 bk cY hB ay a5 hl cg dt ds cx cy dn dp dr cr;go_upto_region 20 with(fail)
     go_region_held3 (λw'=>w'.cell? ⟨b3,0,none⟩=some (.pointer (some ⟨s,0,none⟩))/\w'.cell? ⟨s,0,none⟩=some (.pointer (some ⟨pg,0,none⟩))/\w'.cell? ⟨gk,jk,none⟩=some (.int .i64 (z:Nat)))
      (first
       |exact q0
       |exact q1)
      (first
       |(go_at_call 84
         refine cW.out.mono ?_;rintro e w5 ⟨P,hP,vU,rfl,b2,ao⟩;have q1:w5.cell? ⟨b3,0,none⟩=some (.pointer (some ⟨s,0,none⟩))/\w5.cell? ⟨s,0,none⟩=some (.pointer (some ⟨pg,0,none⟩))/\w5.cell? ⟨gk,jk,none⟩=some (.int .i64 (z:Nat)):=⟨ae ao q0.1,ae ao q0.2.1,ae ao q0.2.2⟩))
     obtain⟨M,hM,ck⟩:=H1.out.2.2.2.1 P hP;rw[<-CU,hM]at b2;obtain⟨gm,mm,rfl,c9⟩:=b2.addr (by rw[bF];simp);obtain⟨nM,b9⟩:∃q,(bJ (z::M)).length=q:=⟨_,rfl⟩;rw[b9]at c9⊢;have d8:(bJ M).length+1=nM:=by rw[<-b9,bF,bF];rfl
     have d9:nM<=1000:=by
      have:=mM g z z' P (g.fI z z'+g.fJ z z'+1);rw[hM]at this;rw[bF]at b9;obtain⟨f1,f2⟩:=G.sQ ac.out cE.out.2 cE.out.1;omega
     obtain⟨o,ho,dj⟩:=EJ (g:=gm) (n:=nM) (m:=mm) (by omega) c9
     have b1:∀(j:Nat)(y:Int),(bJ M)[j]? =some y->w5.cell? ((⟨gm,o,none⟩:Addr).add j)=some (.int .i64 y):=by
      intro j y hy;have h1:1<nM:=by have:=(List.getElem?_eq_some_iff.1 hy).1;omega
      rw[ho h1,Addr.add_lit,Nat.add_comm];exact b2.cell (k:=j+1) (by simpa using hy)
     replace b1:=hid b1;have a1:=aa hd ao;have cj:=hid (aa H2.out.1 a1);have dv:=bw.out;have cb:=hid (aI.below (B':=0) H1.out.2.1 a1);have du:(bJ M).length=nM-1:=by omega
     have bo:=H1.out.2.2.2.2.1;have ce:=hid (λj x hx=>ae a1 (H1.out.2.2.1 j x hx));have bj:gT<w5.heap.size:=Nat.lt_of_lt_of_le H2.out.2 a1.size;replace ck:=hid ck;clear c4 ap q0 q1 b2 hP hM b9 ao hd d1 cW ct c2;subst dv;have cU:=cj.out.size;have dc:(bJ Wk).length+(nM-1)<1099511627776:=by omega
     have db:0<(bJ Wk).length:=by omega
     have B:=cb.out;rw[bo]at B;replace B:=hid B;replace bo:=hid bo;go_upto_region 23 with(fail);go_wp2_with (at_builtin;(refine nZ w5 rfl _ _ rfl W8.heap.size (.slice (some ⟨gk,0,none⟩) nk mk) (bJ Wk) (bJ M) rfl B.out db ⟨gm,o,none⟩ (nM-1) _ rfl du b1.out dc cU ?_);intro v' w9 bp ai cO)
     have hF:QP W8 g a T ⟨cs,cd⟩ gT (k+1) v' w9:=by
      refine⟨Wk++M,ck.out,by rw[show bJ (Wk++M)=bJ Wk++bJ M by simp];exact bp,λe=>?_,Nat.lt_of_lt_of_le bj ai.size,λj x hx=>?_,below_grown cj.out cU B.out ai⟩
      .rcases cO gT e with h|h
       .exact c1 (by simpa[Value.ownBlock]using h)
       .omega
      .exact(World.cell?_of_block (ai.block gT bj (λe=>c1 (by simpa[Value.ownBlock]using e.symm)))).trans (ce.out j x hx)
     replace hF:=hid hF;clear bp ai cO ce bj B cb cj b1;go_wp2;go_roundw
     case rel=>first|exact⟨k+1,by omega,by go_num,hF.out⟩|((repeat apply Exists.intro);exact⟨⟨k+1,by omega,by go_num,hF.out⟩,rfl⟩)
     case measure=>simp[intOf];omega
    .obtain rfl:k=nT:=by omega
     obtain⟨A,mA,rfl,a6,c0,dq⟩:=ar.Qh;have c6:k=T.length:=by rw[<-HT.out.2.1,bF]
     rw[c6]at aw;obtain⟨e1,e2,e3,e4⟩:=aw.fin HT.out.1.symm;rw[<-HT.out.1]at e4;have hA:wY g most (a:Nat) (b:Nat) Wk ⟨cs,cd⟩ 0:=⟨.inr ⟨a,b,rfl,rfl,u.out.1,u.out.2.1,u.out.2.2.1,u.out.2.2.2,.inr ⟨hD.out,rfl,e1,e2,e3⟩⟩,λ_=>⟨a,b,rfl,rfl,.inr ⟨hn.out,Wy,bb.out,e4⟩⟩⟩
     have hF:Dg w g most (a:Nat) (b:Nat) (.returned (.tuple #[.slice A (bJ Wk).length mA,.nilIface])) wr:=
      ⟨Wk,⟨cs,cd⟩,0,hA,aa al.out hB,.inr ⟨rfl,A,mA,by rw[bF],by rw[bF]at a6;exact a6,λad e=>Nat.le_trans al.out.size (c0 ad e),dq⟩⟩
     replace hF:=hid hF;clear hA e1 e2 e3 e4 c6 aw a6 c0 dq ar hB b4 ay cr bq;go_wp2;go_ret2;exact hF.out
def TE(w:World)(g:G)(most:Nat)(x y:Int)(e:Ending)(w':World):Prop:=
 ∃(W:List Nat)(c:C)(er:Nat)(A:Option Addr)(m:Nat),wY g most x y W c er/\e=.returned (.agg #[.slice A W.length m,.int .i64 c.s,.int .i64 c.d,.int .i64 (er:Nat)])/\Ints w' A W.length (λk=>(bJ W).getD k 0)/\((∀ad,A=some ad->w.heap.size<=ad.block)/\PT w' A)/\Below w.heap.size w w'
def TD(w:World)(g:G)(x y:Int)(e:Ending)(w':World):Prop:=
 ∃(W:List Nat)(c:C)(er:Nat)(A:Option Addr)(m:Nat),cu g x y W c er/\e=.returned (.agg #[.slice A W.length m,.int .i64 c.s,.int .i64 c.d,.int .i64 (er:Nat)])/\Ints w' A W.length (λk=>(bJ W).getD k 0)/\(∀ad,A=some ad->w.heap.size<=ad.block)/\Below w.heap.size w w'
theorem qQ{u0 u1 u2 u3:Value}(k u z F:Value)(h:w.heap[b]? =some (.cells #[u0,u1,u2,u3] T (0,0))):((((w.setCell ⟨b,0,none⟩ k).setCell ⟨b,1,none⟩ u).setCell ⟨b,2,none⟩ z).setCell ⟨b,3,none⟩ F).heap[b]? =some (.cells #[k,u,z,F] T (0,0)):=
 aH _ b 3 _ _ F (aH _ b 2 _ _ z (aH _ b 1 _ _ u (aH _ b 0 _ _ k h)))
theorem cK{k u z F:Value}(h:w.heap[b]? =some (.cells #[k,u,z,F] T (0,0))):w.cell? ⟨b,0,none⟩=some k/\w.cell? ⟨b,1,none⟩=some u/\w.cell? ⟨b,2,none⟩=some z/\w.cell? ⟨b,3,none⟩=some F:=by
 refine⟨?_,?_,?_,?_⟩<;>(rw[Lib.cell_of_heap h];rfl)
theorem OY(w:World)(s:Nat)(g:G)(v:Int)(most:Nat)(h:fT w s g v most)(x y:Int):Calls Tryz.prog 19 #[.pointer (some ⟨s,0,none⟩),.int .i64 x,.int .i64 y] w (TE w g most x y):=by
 have hS:=hid h;obtain⟨_,pg,pt,rb,rp,rm,lb,lm,le,S,E,Sb,nl,hs,m1,m2,hG,_⟩:=h;have Q:w.cell? ⟨s,0,none⟩=some (.pointer (some ⟨pg,0,none⟩)):=by rw[Lib.cell_of_heap hs];rfl
 replace hG:=hid hG;clear hs;go_enter Tryz.func19,Tryz.ntmps19;go_upto_region 1 with(fail);refine au ?_;intro W hW;have HW:Below w.heap.size w W:=by rw[hW];(repeat' (first|exact Below.refl _ _|assumption|apply aj|apply ah|apply af|(refine aa ?_ (by assumption))))
 obtain⟨k,P⟩:∃z,w.heap.size=z:=⟨_,rfl⟩;have q6:W.heap[k]? =some (.cells #[.slice none 0 0,.int .i64 0,.int .i64 0,.int .i64 0] 47 (0,0)):=by rw[hW,<-P];exact heap_alloc_new _ _
 rw[P];have F:w.heap.size<=k:=Nat.le_of_eq P;have T:k<W.heap.size:=by rw[hW,<-P];simp
 clear hW;replace Q:=ae HW Q;have cW:=hid (Rv W s g v most (hS.out.below HW) x y);replace q6:=hid q6;go_wp2_with fail;refine cW.out.mono ?_
 rintro e w2 ⟨Wy,c,er,M,u,(⟨h0,rfl⟩|⟨h0,A,m,rfl,hI,hf⟩)⟩
 .have I:=(u.block k T).trans q6.out
  obtain⟨z0,z1,z2,z3⟩:=cK I;have f0:w2.frozen? ⟨k,0,none⟩=false:=Lib.frozen_of_heap I 0;have f1:w2.frozen? ⟨k,1,none⟩=false:=Lib.frozen_of_heap I 1;have f2:w2.frozen? ⟨k,2,none⟩=false:=Lib.frozen_of_heap I 2;have f3:w2.frozen? ⟨k,3,none⟩=false:=Lib.frozen_of_heap I 3;obtain⟨rfl,rfl⟩:=M.1.zero h0;replace I:=hid I;replace M:=hid M;have ao:=AP (er:Nat);go_wp2_with fail;have e4:=cK (qQ (.slice none 0 0) (.int .i64 0) (.int .i64 0) (.int .i64 (er:Nat)) I.out);refine bodyPost_ret (v:=.agg #[.slice none 0 0,.int .i64 0,.int .i64 0,.int .i64 (er:Nat)]) (by simp[results,Tryz.results19,go_sem,e4]) rfl ?_;exact⟨[],C.zero,er,none,0,M.out,rfl,λh=>absurd h (by simp),⟨λU e=>(nomatch e),λU e=>(nomatch e)⟩,((((aa HW u).setCell (p:=⟨k,0,none⟩) F _).setCell (p:=⟨k,1,none⟩) F _).setCell (p:=⟨k,2,none⟩) F _).setCell (p:=⟨k,3,none⟩) F _⟩
 .subst h0
  obtain⟨l1,l2,_⟩:=M.1.len hG.out.1 rfl;have ab:=M.1.qY hG.out.1 rfl;have ac:=hG.out.below (aa HW u) hG.out.lt;replace Q:=ae u Q;obtain⟨n,hn⟩:∃z,Wy.length=z:=⟨_,rfl⟩;rw[hn]at ab hI⊢;have cF:=hid (Io w2 pg g v A n m _ ac hI (by omega));rw[ab]at cF;have I:=(u.block k T).trans q6.out;replace I:=hid I;replace M:=hid M;replace hI:=hid hI;replace hf:=hid hf;replace hn:=hid hn;have ag:=Nat.lt_of_lt_of_le T u.size;have ai:=hid (aa HW u);clear ab ac l1 l2 u cW;obtain⟨B,Z⟩:=c;go_wp2_with fail;refine cF.out.mono ?_;rintro e w3 ⟨rfl,am⟩
  rw[show Kz (⟨B,Z⟩,0)=.tuple #[.agg #[.int .i64 B,.int .i64 Z],.nilIface]from rfl];go_upto_region 6 with(fail);refine au ?_;intro J O;have an:Below w3.heap.size w3 J:=by rw[O];(repeat' (first|exact Below.refl _ _|assumption|apply aj|apply ah|apply af|(refine aa ?_ (by assumption))))
  have c0:J.cell? ⟨w3.heap.size,0,none⟩=some (.int .i64 B):=by rw[O];go_simp
  have c1:J.cell? ⟨w3.heap.size,1,none⟩=some (.int .i64 Z):=by rw[O];go_simp
  have L:=aa am an;have R:=(L.block k ag).trans I.out;obtain⟨z0,z1,z2,z3⟩:=cK R;have f0:J.frozen? ⟨k,0,none⟩=false:=Lib.frozen_of_heap R 0;have f1:J.frozen? ⟨k,1,none⟩=false:=Lib.frozen_of_heap R 1;have f2:J.frozen? ⟨k,2,none⟩=false:=Lib.frozen_of_heap R 2;have f3:J.frozen? ⟨k,3,none⟩=false:=Lib.frozen_of_heap R 3;replace R:=hid R;clear O;go_wp2_with fail;have e4:=cK (qQ (.slice A n m) (.int .i64 B) (.int .i64 Z) (.int .i64 0) R.out);refine bodyPost_ret (v:=.agg #[.slice A n m,.int .i64 B,.int .i64 Z,.int .i64 0]) (by simp[results,Tryz.results19,go_sem,e4]) rfl ?_;have HB:=(((((aa ai.out L).setCell (p:=⟨k,0,none⟩) F (.slice A n m)).setCell (p:=⟨k,1,none⟩) F (.int .i64 B)).setCell (p:=⟨k,2,none⟩) F (.int .i64 Z)).setCell (p:=⟨k,3,none⟩) F (.int .i64 0));refine⟨Wy,⟨B,Z⟩,0,A,m,M.out,by rw[hn.out];rfl,?_,⟨λU e=>by have:=hf.out.1 U e;have:=HW.size;omega,?_⟩,HB⟩
  .have al:=hI.out.below L
   rw[hn.out];refine al.qA (((((Kept.refl [k] J).setCell (p:=⟨k,0,none⟩) (.inl (by simp))).setCell (p:=⟨k,1,none⟩) (.inl (by simp))).setCell (p:=⟨k,2,none⟩) (.inl (by simp))).setCell (p:=⟨k,3,none⟩) (.inl (by simp))) (λ_ U e=>?_);have:=hf.out.1 U e;simp;omega
  .refine(hf.out.2.kept (.of_below (S:=[]) L) (λ_ _=>by simp)).kept (((((Kept.refl [k] J).setCell (p:=⟨k,0,none⟩) (.inl (by simp))).setCell (p:=⟨k,1,none⟩) (.inl (by simp))).setCell (p:=⟨k,2,none⟩) (.inl (by simp))).setCell (p:=⟨k,3,none⟩) (.inl (by simp))) (λU e=>?_)
   have:=hf.out.1 U e;simp;omega
theorem Eh(w:World)(s:Nat)(g:G)(v:Int)(most:Nat)(h:fT w s g v most)(x y:Int):Calls Tryz.prog 19 #[.pointer (some ⟨s,0,none⟩),.int .i64 x,.int .i64 y] w (TD w g x y):=
 (OY w s g v most h x y).mono λ_ _⟨W,c,k,A,m,u,z,F,I,J⟩=>⟨W,c,k,A,m,u.1,z,F,I.1,J⟩
def jF(g:G)(k:Nat):Nat:=gB (λc=>!g.b c) k
theorem KV(g:G)(k:Nat):jF g k<=k:=by
 unfold jF gB;exact Nat.le_trans (List.length_filter_le _ _) (by simp)
theorem DY(g:G)(k:Nat):jF g (k+1)=jF g k+(if(!g.b k)=true then 1 else 0):=by unfold jF;rw[j6]
noncomputable def addN(g:G)(most:Nat):Nat:=bB (sK (gK g (LS.all g (av g) most).1)) g.n
noncomputable def tN(g:G)(k:Nat):Nat:=(((av g).take k).map (Dw g)).sum
theorem Fz(k:g.ok)(a:Nat):Dw g a<=256:=by
 unfold Dw;refine Nat.le_trans (List.length_filter_le _ _) ?_;rw[Dr];exact eQ k
theorem xQ{k:Nat}(h:k<(aA g).length):tN g (k+1)=tN g k+Dw g (cf g k):=by
 unfold tN;have:=SN h;obtain⟨u,z⟩:=List.getElem?_eq_some_iff.1 this;rw[List.take_succ_eq_append_getElem u,z,List.map_append,List.sum_append];simp
theorem y8(u:g.ok):∀{k:Nat},k<=(aA g).length->tN g k<=256*k
 |0,_=>by simp[tN]
 |k+1,h=>by
  have:=y8 u (k:=k) (by omega);have:=Fz u (cf g k);rw[xQ (by omega)];omega
theorem KG(g:G):tN g (aA g).length=Od g:=by unfold tN Od;rw[<-Dr,List.take_length]
def Sy(w:World)(g:G)(v:Int)(most:Nat)(e:Ending)(w':World):Prop:=
 ∃n fr nd ed ad tp:Nat,e=.returned (.agg #[.int .i64 (n:Nat),.int .i64 (fr:Nat),.int .i64 (nd:Nat),.int .i64 (ed:Nat),.int .i64 (ad:Nat),.int .i64 (tp:Nat),.int .i64 v])/\
  (n=g.n/\fr=jF g g.n/\nd=(av g).length/\ed=Od g/2/\ad=addN g most/\tp=(LS.all g (av g) most).2)/\Below w.heap.size w w'
theorem bN{k u z F I J L:Value}(h:w.heap[b]? =some (.cells #[k,u,z,F,I,J,L] T (0,0))):w.cell? ⟨b,0,none⟩=some k/\w.cell? ⟨b,1,none⟩=some u/\w.cell? ⟨b,2,none⟩=some z/\w.cell? ⟨b,3,none⟩=some F/\w.cell? ⟨b,4,none⟩=some I/\w.cell? ⟨b,5,none⟩=some J/\w.cell? ⟨b,6,none⟩=some L:=by
 refine⟨?_,?_,?_,?_,?_,?_,?_⟩<;>(rw[Lib.cell_of_heap h];rfl)
theorem gF{w X:World}(h:Below B w X)(u:B<=b)(k:Nat)(x:Value):Below B w (X.setCell ⟨b,k,none⟩ x):=h.setCell (p:=⟨b,k,none⟩) u x
theorem xH{w X:World}(h:Below B w X)(k:B<=b)(u z F I J L M:Value):Below B w (((((((X.setCell ⟨b,0,none⟩ u).setCell ⟨b,1,none⟩ z).setCell ⟨b,2,none⟩ F).setCell ⟨b,3,none⟩ I).setCell ⟨b,4,none⟩ J).setCell ⟨b,5,none⟩ L).setCell ⟨b,6,none⟩ M):=
 gF (gF (gF (gF (gF (gF (gF h k 0 u) k 1 z) k 2 F) k 3 I) k 4 J) k 5 L) k 6 M
theorem yD{u0 u1 u2 u3 u4 u5 u6:Value}(k u z F I J L:Value)(h:w.heap[b]? =some (.cells #[u0,u1,u2,u3,u4,u5,u6] T (0,0))):(((((((w.setCell ⟨b,0,none⟩ k).setCell ⟨b,1,none⟩ u).setCell ⟨b,2,none⟩ z).setCell ⟨b,3,none⟩ F).setCell ⟨b,4,none⟩ I).setCell ⟨b,5,none⟩ J).setCell ⟨b,6,none⟩ L).heap[b]? =some (.cells #[k,u,z,F,I,J,L] T (0,0)):=
 aH _ b 6 _ _ L (aH _ b 5 _ _ J (aH _ b 4 _ _ I (aH _ b 3 _ _ F (aH _ b 2 _ _ z (aH _ b 1 _ _ u (aH _ b 0 _ _ k h))))))
theorem Cb(w:World)(s:Nat)(g:G)(v:Int)(most:Nat)(h:fT w s g v most):Calls Tryz.prog 20 #[.pointer (some ⟨s,0,none⟩)] w (Sy w g v most):=by
 obtain⟨_,pg,pt,rb,rp,rm,lb,lm,le,S,E,Sb,nl,hs,m1,m2,hG,cj,bh,a4,_⟩:=h;have bc:=hG.1;have bv:=G.bR bc;obtain⟨HF,_,cH⟩:=LS.Fg bc (av g) (λn=>bn) (most:=most) m1 m2;have Z:w.cell? ⟨s,0,none⟩=some (.pointer (some ⟨pg,0,none⟩)):=by rw[Lib.cell_of_heap hs];rfl
 have ac:w.cell? ⟨s,2,none⟩=some (.pointer (some ⟨rb,0,none⟩)):=by rw[Lib.cell_of_heap hs];rfl
 have bd:w.cell? ⟨s,3,none⟩=some (.pointer (some ⟨lb,0,none⟩)):=by rw[Lib.cell_of_heap hs];rfl
 have hD:=Di HF;have b0:(av g).length=(aA g).length:=Dr g;obtain⟨D,a3⟩:∃D,addN g most=D:=⟨_,rfl⟩;have cw:=hid a3;unfold addN at a3;rw[a3]at hD;obtain⟨tp,ar⟩:∃tp,(LS.all g (av g) most).2=tp:=⟨_,rfl⟩;rw[ar]at a4;have cC:=hid ar;obtain⟨Sv,ck⟩:∃S,(LS.all g (av g) most).1=S:=⟨_,rfl⟩;rw[ck]at hD a4;have HG:=hid hG;have aE:=hid cj;have ca:=hid a4;have a2:=hid bc;obtain⟨nn,ag⟩:∃z,g.n=z:=⟨_,rfl⟩;have R:=λJ(hb:Below w.heap.size w J)=>jc J pg g v (HG.out.below hb HG.out.lt);rw[ag]at R;replace R:=hid R;have cA:=hid (λJ(hb:Below w.heap.size w J)=>OO J lb lm le nl Sb (tp:Nat) _ _ g.n D (ca.out.below hb) (Ol bv) Oj bv hD);have cT:=hid (λJ(hb:Below w.heap.size w J)=>Qo J lb lm le nl Sb (tp:Nat) _ _ (ca.out.below hb));have cV:=hid (λJ(hb:Below w.heap.size w J)=>Bz J pg g v (HG.out.below hb HG.out.lt));have hE:=λc(hc:g.ak c)=>(bh.1 (c:Nat)).2 ⟨c,rfl,hc⟩;have HE:=hid hE;have b7:=hid bh;replace ag:=hid ag;replace b0:=hid b0;have M:=hid (And.intro Z (And.intro ac bd));clear hs hG cj bh a4 bc HF cH hD a3 ar ck hE;go_enter Tryz.func20,Tryz.ntmps20
 go_upto_region 1 with(fail);refine au ?_;intro W hW;have HW:Below w.heap.size w W:=by rw[hW];(repeat' (first|exact Below.refl _ _|assumption|apply aj|apply ah|apply af|(refine aa ?_ (by assumption))))
 have Z:=ae HW M.out.1;have bd:=ae HW M.out.2.2;have ao:W.heap[w.heap.size]? =some (.cells #[.int .i64 0,.int .i64 0,.int .i64 0,.int .i64 0,.int .i64 0,.int .i64 0,.int .i64 0] 50 (0,0)):=by rw[hW];exact heap_alloc_new _ _
 have ac:=ae HW M.out.2.1;obtain⟨b2,bj⟩:∃z,w.heap.size=z:=⟨_,rfl⟩;have co:b2<W.heap.size:=by rw[<-bj];exact(Array.getElem?_eq_some_iff.1 ao).1
 rw[bj]at ao;replace ao:=hid ao;replace M:=hid (And.intro Z (And.intro ac bd));replace HG:=hid (HG.out.below HW HG.out.lt);replace aE:=hid (aE.out.below HW);replace R:=hid (λJ(hb:Below W.heap.size W J)=>R.out J (aa HW hb));replace cA:=hid (λJ(hb:Below W.heap.size W J)=>cA.out J (aa HW hb));replace cT:=hid (λJ(hb:Below W.heap.size W J)=>cT.out J (aa HW hb));replace cV:=hid (λJ(hb:Below W.heap.size W J)=>cV.out J (aa HW hb));rw[bj];replace HW:=hid HW;clear hW ac Z bd;have a0:Below W.heap.size W W:=Below.refl _ _;have u:Below W.heap.size W W.drew:=ah a0;have kS:W.drew.cell? ⟨s,0,none⟩=some (.pointer (some ⟨pg,0,none⟩))/\W.drew.cell? ⟨s,3,none⟩=some (.pointer (some ⟨lb,0,none⟩)):=⟨ae u M.out.1,ae u M.out.2.2⟩;go_cut [3] (λsv wx=>∃O,sv=.pointer (some ⟨O,0,none⟩)/\W.heap.size<=O/\wx.heap[O]? =some (.cells #[.int .i64 (nn:Nat),.int .i64 0,.int .i64 0,.int .i64 0,.int .i64 (D:Nat),.int .i64 (tp:Nat),.int .i64 v] 50 (0,0))/\Below W.heap.size W wx)
 case first=>
  have ct:W.heap.size<=W.heap.size:=Nat.le_refl _;have cQ:s<W.heap.size:=World.block_lt_of_cell? (a:=⟨s,0,none⟩) W M.out.1;have cI:=hid (λ(X:World)(k j:Nat)(x:Value)=>World.cell?_setCell_other (w:=X) (a:=⟨W.heap.size,k,none⟩) (b:=⟨s,j,none⟩) (v:=x) (by intro e;injection e with e1;omega))
  go_region_held3 (λJ=>J.cell? ⟨s,0,none⟩=some (.pointer (some ⟨pg,0,none⟩))/\J.cell? ⟨s,3,none⟩=some (.pointer (some ⟨lb,0,none⟩)))
   (first
    |with_reducible exact kS
    |(simp only[cI.out];exact kS)
    |(simp only[b1.out];exact kS)
    |with_reducible exact⟨ae (af u) M.out.1,ae (af u) M.out.2.2⟩)
   (first
    |(go_at_call 48
      with_reducible refine(R.out _ (u)).mono ?_
      rintro e B ⟨rfl,I⟩;have u:Below W.heap.size W B:=aa (u) I;have kS:B.cell? ⟨s,0,none⟩=some (.pointer (some ⟨pg,0,none⟩))/\B.cell? ⟨s,3,none⟩=some (.pointer (some ⟨lb,0,none⟩)):=⟨ae u M.out.1,ae u M.out.2.2⟩;have ai:W.heap.size<=B.heap.size:=u.size;have b1:=hid (λ(X:World)(k j:Nat)(x:Value)=>World.cell?_setCell_other (w:=X) (a:=⟨B.heap.size,k,none⟩) (b:=⟨s,j,none⟩) (v:=x) (by intro e;injection e with e1;omega)))
    |(go_at_call 48
      with_reducible refine(R.out _ (af u)).mono ?_
      rintro e B ⟨rfl,I⟩;have F:B.heap[W.heap.size]? =some (.cells #[.int .i64 0,.int .i64 0,.int .i64 0,.int .i64 0,.int .i64 0,.int .i64 0,.int .i64 0] 50 (0,0)):=(I.block _ (by simp)).trans (heap_alloc_new _ _);have zz:=bN F;obtain⟨z0,z1,z2,z3,z4,z5,z6⟩:=zz;have y0:=Lib.frozen_of_heap F 0;have y1:=Lib.frozen_of_heap F 1;have y2:=Lib.frozen_of_heap F 2;have y3:=Lib.frozen_of_heap F 3;have y4:=Lib.frozen_of_heap F 4;have y5:=Lib.frozen_of_heap F 5;have y6:=Lib.frozen_of_heap F 6;have u:Below W.heap.size W B:=aa (af u) I;have kS:B.cell? ⟨s,0,none⟩=some (.pointer (some ⟨pg,0,none⟩))/\B.cell? ⟨s,3,none⟩=some (.pointer (some ⟨lb,0,none⟩)):=⟨ae u M.out.1,ae u M.out.2.2⟩;have ai:W.heap.size<=B.heap.size:=u.size;have b1:=hid (λ(X:World)(k j:Nat)(x:Value)=>World.cell?_setCell_other (w:=X) (a:=⟨B.heap.size,k,none⟩) (b:=⟨s,j,none⟩) (v:=x) (by intro e;injection e with e1;omega)))
    |(go_at_call 48
      with_reducible refine(R.out _ (ah (af a0))).mono ?_
      rintro e B ⟨rfl,I⟩;have F:B.heap[W.heap.size]? =some (.cells #[.int .i64 0,.int .i64 0,.int .i64 0,.int .i64 0,.int .i64 0,.int .i64 0,.int .i64 0] 50 (0,0)):=(I.block W.heap.size (by simp)).trans (heap_alloc_new W _);have zz:=bN F;obtain⟨z0,z1,z2,z3,z4,z5,z6⟩:=zz;have y0:=Lib.frozen_of_heap F 0;have y1:=Lib.frozen_of_heap F 1;have y2:=Lib.frozen_of_heap F 2;have y3:=Lib.frozen_of_heap F 3;have y4:=Lib.frozen_of_heap F 4;have y5:=Lib.frozen_of_heap F 5;have y6:=Lib.frozen_of_heap F 6;have u:Below W.heap.size W B:=aa (ah (af a0)) I;have kS:B.cell? ⟨s,0,none⟩=some (.pointer (some ⟨pg,0,none⟩))/\B.cell? ⟨s,3,none⟩=some (.pointer (some ⟨lb,0,none⟩)):=⟨ae u M.out.1,ae u M.out.2.2⟩;have ai:W.heap.size<=B.heap.size:=u.size;have b1:=hid (λ(X:World)(k j:Nat)(x:Value)=>World.cell?_setCell_other (w:=X) (a:=⟨B.heap.size,k,none⟩) (b:=⟨s,j,none⟩) (v:=x) (by intro e;injection e with e1;omega)))
    |(go_at_call 49
      with_reducible refine(cA.out _ (u)).mono ?_
      rintro e wN ⟨rfl,I⟩;have F:wN.heap[W.heap.size]? =some (.cells #[.int .i64 0,.int .i64 0,.int .i64 0,.int .i64 0,.int .i64 0,.int .i64 0,.int .i64 0] 50 (0,0)):=(I.block _ (Array.getElem?_eq_some_iff.1 F).1).trans F;have zz:=bN F;obtain⟨z0,z1,z2,z3,z4,z5,z6⟩:=zz;have y0:=Lib.frozen_of_heap F 0;have y1:=Lib.frozen_of_heap F 1;have y2:=Lib.frozen_of_heap F 2;have y3:=Lib.frozen_of_heap F 3;have y4:=Lib.frozen_of_heap F 4;have y5:=Lib.frozen_of_heap F 5;have y6:=Lib.frozen_of_heap F 6;have u:Below W.heap.size W wN:=aa (u) I;have kS:wN.cell? ⟨s,0,none⟩=some (.pointer (some ⟨pg,0,none⟩))/\wN.cell? ⟨s,3,none⟩=some (.pointer (some ⟨lb,0,none⟩)):=⟨ae u M.out.1,ae u M.out.2.2⟩)
    |(go_at_call 49
      with_reducible refine(cA.out _ (u)).mono ?_
      rintro e wN ⟨rfl,I⟩;have u:Below W.heap.size W wN:=aa (u) I;have kS:wN.cell? ⟨s,0,none⟩=some (.pointer (some ⟨pg,0,none⟩))/\wN.cell? ⟨s,3,none⟩=some (.pointer (some ⟨lb,0,none⟩)):=⟨ae u M.out.1,ae u M.out.2.2⟩)
    |(go_at_call 49
      with_reducible refine(cA.out _ (af u)).mono ?_
      rintro e wN ⟨rfl,I⟩;have F:wN.heap[B.heap.size]? =some (.cells #[.int .i64 0,.int .i64 0,.int .i64 0,.int .i64 0,.int .i64 0,.int .i64 0,.int .i64 0] 50 (0,0)):=(I.block _ (by simp)).trans (heap_alloc_new _ _);have zz:=bN F;obtain⟨z0,z1,z2,z3,z4,z5,z6⟩:=zz;have y0:=Lib.frozen_of_heap F 0;have y1:=Lib.frozen_of_heap F 1;have y2:=Lib.frozen_of_heap F 2;have y3:=Lib.frozen_of_heap F 3;have y4:=Lib.frozen_of_heap F 4;have y5:=Lib.frozen_of_heap F 5;have y6:=Lib.frozen_of_heap F 6;have u:Below W.heap.size W wN:=aa (af u) I;have kS:wN.cell? ⟨s,0,none⟩=some (.pointer (some ⟨pg,0,none⟩))/\wN.cell? ⟨s,3,none⟩=some (.pointer (some ⟨lb,0,none⟩)):=⟨ae u M.out.1,ae u M.out.2.2⟩)
    |(go_at_call 50
      with_reducible refine(cT.out _ (u)).mono ?_
      rintro e wT ⟨rfl,rfl⟩)
    |(go_at_call 50
      with_reducible refine(cT.out _ (af u)).mono ?_
      rintro e wT ⟨rfl,rfl⟩)
    |(go_at_call 51
      with_reducible refine(cV.out _ (u)).mono ?_
      rintro e wT ⟨rfl,rfl⟩)
    |(go_at_call 51
      with_reducible refine(cV.out _ (af u)).mono ?_
      rintro e wT ⟨rfl,rfl⟩))
  all_goals
   go_wp2;go_meet
   case rel=>first
    |(with_reducible refine⟨_,rfl,?_,heap_alloc_new _ _,af u⟩
      exact u.size)
    |(with_reducible refine⟨_,rfl,?_,yD _ _ _ _ _ _ _ F,xH u ?_ _ _ _ _ _ _ _⟩
      .first|exact ct|exact ai
      .first|exact ct|exact ai)
 case rest=>
  obtain⟨O,rfl,a7,Q,HB⟩:=hcut;have Z:=ae HB M.out.1;have Q:=hid Q;have HB:=hid HB;have cO:nn<=256:=by rw[<-ag.out];exact bv
  have cP:O≠b2:=by omega
  clear u kS cA cT cV a0;go_wp2_with fail;refine(R.out _ HB.out).mono ?_;rintro e w2 ⟨rfl,bk⟩;have b4:=hid (aa HB.out bk);replace Q:=hid ((bk.block O (Array.getElem?_eq_some_iff.1 Q.out).1).trans Q.out);clear bk HB R;go_wp2_with fail;go_loopw [37] (λiv wr=>∃(k:Nat),k<=nn/\iv=.int .i64 (k:Nat)/\wr.heap[O]? =some (.cells #[.int .i64 (nn:Nat),.int .i64 (jF g k:Nat),.int .i64 0,.int .i64 0,.int .i64 (D:Nat),.int .i64 (tp:Nat),.int .i64 v] 50 (0,0))/\Below W.heap.size W wr) (λiv _=>nn-(intOf iv).toNat)
  case atStart=>exact⟨0,Nat.zero_le _,rfl,Q.out,b4.out⟩
  case round=>
   clear Q b4;obtain⟨k,hk,rfl,Q,hB⟩:=hrel;have Z:=ae hB M.out.1;by_cases ab:k<nn
   .obtain⟨t,ht⟩:∃t,(!g.b k)=t:=⟨_,rfl⟩
    have cF:=dC wr pg g v k (HG.out.below hB HG.out.lt) (by rw[ag.out];exact ab);rw[ht]at cF;replace cF:=hid cF;obtain⟨fr,T⟩:∃z,jF g k=z:=⟨_,rfl⟩;have cr:jF g (k+1)=fr+(if t=true then 1 else 0):=by rw[DY,T,ht]
    have cM:fr<=256:=by rw[<-T];exact Nat.le_trans (KV g k) (by omega)
    rw[T]at Q;have HX:=hid Q;have P:=hid hB;have a1:=hid cr;clear Q hB cr T ht;go_wp2_with fail;refine cF.out.mono ?_;rintro e w3 ⟨rfl,bm⟩;have am:=(bm.block O (Array.getElem?_eq_some_iff.1 HX.out).1).trans HX.out;have aw:=hid (aa P.out bm);clear bm cF HX P Z
    cases t with
    |false=>
     have hF:w3.heap[O]? =some (.cells #[.int .i64 (nn:Nat),.int .i64 (jF g (k+1):Nat),.int .i64 0,.int .i64 0,.int .i64 (D:Nat),.int .i64 (tp:Nat),.int .i64 v] 50 (0,0)):=by
      rw[a1.out];exact am
     replace hF:=hid hF;clear am a1;go_wp2;go_roundw
     case rel=>first|exact⟨k+1,by omega,by go_num,hF.out,aw.out⟩|((repeat apply Exists.intro);exact⟨⟨k+1,by omega,by go_num,hF.out,aw.out⟩,rfl⟩)
     case measure=>simp[intOf];omega
    |true=>
     obtain⟨_,z1,_⟩:=bN am;have y1:=Lib.frozen_of_heap am 1;have cb:=hid am;clear am;go_upto_region 8 with(fail);refine au ?_;intro W4 bi
     have hF:W4.heap[O]? =some (.cells #[.int .i64 (nn:Nat),.int .i64 (jF g (k+1):Nat),.int .i64 0,.int .i64 0,.int .i64 (D:Nat),.int .i64 (tp:Nat),.int .i64 v] 50 (0,0)):=by
      rw[bi,a1.out];exact aH w3 O 1 _ _ _ cb.out
     have ax:Below W.heap.size W W4:=by rw[bi];exact gF aw.out a7 1 _
     replace hF:=hid hF;replace ax:=hid ax;clear cb a1 z1 y1 bi aw;go_wp2;go_roundw
     case rel=>first|exact⟨k+1,by omega,by go_num,hF.out,ax.out⟩|((repeat apply Exists.intro);exact⟨⟨k+1,by omega,by go_num,hF.out,ax.out⟩,rfl⟩)
     case measure=>simp[intOf];omega
   .obtain rfl:nn=k:=by omega
    have cs:jF g nn=jF g g.n:=by rw[ag.out]
    obtain⟨fr,T⟩:∃z,jF g nn=z:=⟨_,rfl⟩;rw[T]at Q;have cy:=hid (T.symm.trans cs);have ac:=ae hB M.out.2.1;have cN:=hid (jG wr rb rp rm S g v E (aE.out.below hB) b7.out.1);have HX:=hid Q;have P:=hid hB;clear Q hB T cs Z ab;go_wp2_with fail;refine cN.out.mono ?_;rintro e w5 ⟨A,mm,rfl,_,hI,ch,bo⟩;have cl:=hid ((bo.block O (Array.getElem?_eq_some_iff.1 HX.out).1).trans HX.out)
    have b5:=hid (aa P.out bo);have cg:∀ad,A=some ad->ad.block≠O:=λad e=>by have:=(ch ad e).1;have:=(Array.getElem?_eq_some_iff.1 HX.out).1;omega
    obtain⟨n2,bb⟩:∃z,(aA g).length=z:=⟨_,rfl⟩;rw[bb]at hI⊢;have cG:n2<=256:=by rw[<-bb];exact eQ a2.out
    have al:=hid bb;have HI:=hid hI;have cv:=hid cg;clear bo hI ch cg bb HX P cN ac;go_wp2_with fail;go_loopw [61] (λiv wr=>∃(i:Nat),i<=n2/\iv=.int .i64 (i:Nat)/\wr.heap[O]? =some (.cells #[.int .i64 (nn:Nat),.int .i64 (fr:Nat),.int .i64 (i:Nat),.int .i64 (tN g i:Nat),.int .i64 (D:Nat),.int .i64 (tp:Nat),.int .i64 v] 50 (0,0))/\Below W.heap.size W wr/\Ints wr A n2 (λk=>(aA g).getD k 0)) (λiv _=>n2-(intOf iv).toNat)
    case atStart=>exact⟨0,Nat.zero_le _,rfl,by simpa[tN]using cl.out,b5.out,HI.out⟩
    case round=>
     clear cl b5 HI;obtain⟨i,hi,rfl,Q,hB,hI⟩:=hrel;by_cases ab:i<n2
     .obtain⟨cp,bp⟩:=dS (g:=g) (i:=i) (by rw[al.out];exact ab)
      obtain⟨ad,ci,_,hc⟩:=hI (by omega);have br:=hc i ab;simp only[cp]at br;obtain⟨c,bq⟩:∃z,cf g i=z:=⟨_,rfl⟩;rw[bq]at br bp;have cD:=λwx=>aX (A:=A) (m:=mm) ci ab wx;obtain⟨L,hL⟩:∃L,E (c:Nat)=some L:=Option.ne_none_iff_exists'.1 (HE.out c bp);have ap:=Oe b7.out hL;have aq:=xQ (g:=g) (k:=i) (by rw[al.out];exact ab);rw[bq,<-ap]at aq;have bw:L.length<=256:=by rw[ap];exact Fz a2.out c
      have cE:=hid (DZ wr rb rp rm S g v E (aE.out.below hB) (c:Nat) L hL (by omega));obtain⟨dk,bt⟩:∃z,tN g i=z:=⟨_,rfl⟩
      have cJ:dk<=65536:=by
       rw[<-bt];have:=y8 a2.out (k:=i) (by rw[al.out];omega);omega
      rw[bt]at Q aq;obtain⟨ln,bx⟩:∃z,L.length=z:=⟨_,rfl⟩;rw[bx]at aq bw;have ac:=ae hB M.out.2.1;have HX:=hid Q;have P:=hid hB;have ce:=hid aq;have b9:=hid hI;have cB:=hid bx;clear Q hB aq hI hc cp bp bq ci hL ap bt bx Z;go_wp2_with fail;refine cE.out.mono ?_;rintro e w6 ⟨A2,m2,rfl,_,_,a8⟩;rw[cB.out];have an:=(a8.block O (Array.getElem?_eq_some_iff.1 HX.out).1).trans HX.out
      have b6:=hid (aa P.out a8);have b8:=hid (b9.out.below a8);obtain⟨_,_,z2,z3,_⟩:=bN an;have y2:=Lib.frozen_of_heap an 2;have y3:=Lib.frozen_of_heap an 3;have cd:=hid an;clear an a8 HX P b9 cE ac cD br;go_upto_region 15 with(fail);refine au ?_;intro W7 a5
      have hF:W7.heap[O]? =some (.cells #[.int .i64 (nn:Nat),.int .i64 (fr:Nat),.int .i64 (i+1:Nat),.int .i64 (tN g (i+1):Nat),.int .i64 (D:Nat),.int .i64 (tp:Nat),.int .i64 v] 50 (0,0)):=by
       rw[a5,ce.out];exact aH _ O 3 _ _ _ (aH w6 O 2 _ _ _ cd.out)
      have ay:Below W.heap.size W W7:=by rw[a5];exact gF (gF b6.out a7 2 _) a7 3 _
      have aS:Ints W7 A n2 (λk=>(aA g).getD k 0):=by
       rw[a5];exact b8.out.qA (((Kept.refl [O] w6).setCell (p:=⟨O,2,none⟩) (.inl (by simp))).setCell (p:=⟨O,3,none⟩) (.inl (by simp))) (λ_ ad e=>by simp;exact cv.out ad e)
      replace hF:=hid hF;replace ay:=hid ay;replace aS:=hid aS;clear cd ce z2 z3 y2 y3 a5 b6 b8;go_wp2;go_roundw
      case rel=>first|exact⟨i+1,by omega,by go_num,hF.out,ay.out,aS.out⟩|((repeat apply Exists.intro);exact⟨⟨i+1,by omega,by go_num,hF.out,ay.out,aS.out⟩,rfl⟩)
      case measure=>simp[intOf];omega
     .obtain rfl:n2=i:=by omega
      obtain⟨ed,a9⟩:∃z,tN g n2=z:=⟨_,rfl⟩;have cq:ed=Od g:=by rw[<-a9,<-al.out];exact KG g
      have cL:ed<=65536:=by
       rw[<-a9];have:=y8 a2.out (k:=n2) (by rw[al.out];omega);omega
      rw[a9]at Q;obtain⟨z0,z1,z2,z3,z4,z5,z6⟩:=bN Q;have y3:=Lib.frozen_of_heap Q 3;have cn:=(hB.block b2 co).trans ao.out;obtain⟨eh,ba⟩:∃z,ed/2=z:=⟨_,rfl⟩;have Hq:=hid (show((ed:Nat):Int)/2=((eh:Nat):Int)by rw[<-ba];simp);replace ba:=hid ba;have HX:=hid Q;have P:=hid hB;have bg:=hid cn;have cx:=hid cq;clear Q hB hI a9 cq cn Z ab;go_upto_region 17 with(fail);refine au ?_;intro W8 a6
      have cm:W8.heap[O]? =some (.cells #[.int .i64 (nn:Nat),.int .i64 (fr:Nat),.int .i64 (n2:Nat),.int .i64 (eh:Nat),.int .i64 (D:Nat),.int .i64 (tp:Nat),.int .i64 v] 50 (0,0)):=by
       rw[a6,<-Hq.out];exact aH wr O 3 _ _ _ HX.out
      have U:W8.heap[b2]? =some (.cells #[.int .i64 0,.int .i64 0,.int .i64 0,.int .i64 0,.int .i64 0,.int .i64 0,.int .i64 0] 50 (0,0)):=by
       rw[a6];exact(((Kept.refl [O] wr).setCell (p:=⟨O,3,none⟩) (.inl (by simp))).block b2 (Array.getElem?_eq_some_iff.1 bg.out).1 (by simp;omega)).trans bg.out
      have be:Below W.heap.size W W8:=by rw[a6];exact gF P.out a7 3 _
      replace be:=hid (aa HW.out be);obtain⟨z0,z1,z2,z3,z4,z5,z6⟩:=bN cm;obtain⟨u0,u1,u2,u3,u4,u5,u6⟩:=bN U;have y0:=Lib.frozen_of_heap U 0;have y1:=Lib.frozen_of_heap U 1;have y2:=Lib.frozen_of_heap U 2;have y3:=Lib.frozen_of_heap U 3;have y4:=Lib.frozen_of_heap U 4;have y5:=Lib.frozen_of_heap U 5;have y6:=Lib.frozen_of_heap U 6;have e7:=hid (bN (yD (.int .i64 (nn:Nat)) (.int .i64 (fr:Nat)) (.int .i64 (n2:Nat)) (.int .i64 (eh:Nat)) (.int .i64 (D:Nat)) (.int .i64 (tp:Nat)) (.int .i64 v) U));clear cm U a6 HX bg P;go_wp2_with fail;have e7:=e7.out
      refine bodyPost_ret (v:=.agg #[.int .i64 (nn:Nat),.int .i64 (fr:Nat),.int .i64 (n2:Nat),.int .i64 (eh:Nat),.int .i64 (D:Nat),.int .i64 (tp:Nat),.int .i64 v]) (by simp[results,Tryz.results20,go_sem,e7]) rfl ?_;exact⟨nn,fr,n2,eh,D,tp,rfl,⟨ag.out.symm,cy.out,by rw[b0.out,al.out],by rw[<-ba.out,cx.out],cw.out.symm,cC.out.symm⟩,xH be.out (by omega) _ _ _ _ _ _ _⟩
