/- Lemmas of this claim: MathAsk7, MathEdit, MathServe, Nav2, DetW, Nav3, Nav4, Stats. -/
import Derived.Test.YtnifggkjieemeaaGreatDoorKNNs36
import Derived.Test.YtnifggkjieemeaaGreatDoorNav1
set_option linter.unusedVariables false
set_option linter.unusedSimpArgs false
set_option maxHeartbeats 12800000
set_option maxRecDepth 100000
open Go.Proofs.Tryz
namespace Go.Proofs.YtnifggkjieemeaaGreatDoor
open Go.Lib (hid)
open FR
variable {c:C}
theorem uM{g:G}{c:Nat}{t:Bool}(h:g.b c=t):dN g c t=g:=by
 have:upd g.b c t=g.b:=by
  funext j;unfold upd;split
  .rename_i e;rw[e,h]
  .rfl
 unfold dN;rw[this]
def aV(f:Nat->Int×Bool)(g:G):Nat->G
 |0=>g
 |k+1=>dN (aV f g k) (f k).1.toNat (f k).2
def aW(f:Nat->Int×Bool)(g:G):Nat->Nat
 |0=>0
 |k+1=>aW f g k+(if(aV f g k).b (f k).1.toNat=(f k).2 then 0 else 1)
theorem qR(f:Nat->Int×Bool)(g:G):∀k,(aV f g k).w=g.w/\(aV f g k).h=g.h
 |0=>⟨rfl,rfl⟩
 |k+1=>qR f g k
theorem JC(f:Nat->Int×Bool)(g:G)(k:Nat):(aV f g k).n=g.n:=by
 unfold G.n;rw[(qR f g k).1,(qR f g k).2]
theorem yH{f:Nat->Int×Bool}{g:G}:∀{k:Nat},aW f g k=0->aV f g k=g
 |0,_=>rfl
 |k+1,h=>by
  have m:aW f g k=0:=by unfold aW at h;omega
  have u:(aV f g k).b (f k).1.toNat=(f k).2:=by
   unfold aW at h;split at h
   .assumption
   .omega
  show dN (aV f g k) _ _=g;rw[uM u];exact yH m
theorem oH(f:Nat->Int×Bool)(g:G):∀k,aW f g k<=k
 |0=>Zi _
 |k+1=>by
  have:=oH f g k;unfold aW;split<;>omega
def O1:G:=⟨3,2,λ_=>false⟩
def f32(_:Nat):Int×Bool:=(1,true)
def Gg:G:=aV f32 O1 1
theorem n32:aW f32 O1 1=1:=by decide+kernel
def p32(c:Nat):Nat:=if c=3 then 1 else if c=4 then 2 else if c=5 then 3 else if c=2 then 4 else 0
def q32(k:Nat):Nat:=if k=1 then 3 else if k=2 then 4 else if k=3 then 5 else if k=4 then 2 else 0
def WS(a d:Nat):Bool:=!Gg.fG a d||((decide (a<6/\a≠1)&&decide (Gg.to a d<6/\Gg.to a d≠1))&&(decide (p32 (Gg.to a d)<=p32 a+1/\p32 a<=p32 (Gg.to a d)+1)&&decide (p32 (Gg.to a d)≠p32 a)))&&(decide ((bu d).s=1)&&decide ((bu d).d=0))
theorem e32{a b:Nat}(h:Gg.E a b c):(a<6/\a≠1)/\(b<6/\b≠1)/\c=⟨1,0⟩/\(p32 b=p32 a+1\/p32 a=p32 b+1):=by
 obtain⟨B,d,F,I,rfl,rfl⟩:=h;have g:∀a,a<6->∀d,d<8->WS a d=true:=by decide+kernel
 have h:=g a B d F;unfold WS at h;rw[I]at h;simp only[Bool.not_true,Bool.false_or,Bool.and_eq_true,decide_eq_true_eq]at h;obtain⟨⟨⟨k,m⟩,J,L⟩,u,z⟩:=h;exact⟨k,m,C.ext' u z,om⟩
theorem Xg:∀a,a<6->a≠1->q32 (p32 a)=a:=by decide+kernel
theorem w32{a b:Nat}(h:Walk Gg.E a b c):(p32 b:Int)<=p32 a+c.s/\c.d=0/\0<=c.s:=by
 induction h with
 |nil=>simp[C.zero]
 |snoc h e k=>
  obtain⟨_,_,rfl,g⟩:=e32 e;simp only[C.add];omega
theorem OH:df Gg.E 0 2 ⟨4,0⟩:=by
 have k:Gg.E 0 3 ⟨1,0⟩:=⟨by decide+kernel,4,rD,by decide+kernel,by decide+kernel,by decide+kernel⟩;have m:Gg.E 3 4 ⟨1,0⟩:=⟨by decide+kernel,2,rD,by decide+kernel,by decide+kernel,by decide+kernel⟩;have u:Gg.E 4 5 ⟨1,0⟩:=⟨by decide+kernel,2,rD,by decide+kernel,by decide+kernel,by decide+kernel⟩;have z:Gg.E 5 2 ⟨1,0⟩:=⟨by decide+kernel,0,rD,by decide+kernel,by decide+kernel,by decide+kernel⟩;refine⟨((((Walk.nil 0).snoc k).snoc m).snoc u).snoc z,λd g=>?_⟩;obtain⟨B,F,_⟩:=w32 g;have I:((p32 2:Nat):Int)=4:=rfl;have J:((p32 0:Nat):Int)=0:=rfl;exact C.aM (by simp only;omega) (by simp only;omega)
theorem X4{W:List Nat}(h:LS.LW Gg.E W c):∀{a b k:Nat},W.head?=some a->W.getLast?=some b->a<6->a≠1->p32 b=p32 a+k->c.s=k->W=(List.range (k+1)).map λi=>q32 (p32 a+i):=by
 induction h with
 |one x=>
  intro a b k m g u z M B;simp at m g;subst m;subst g;obtain rfl:k=0:=om;simp[Xg _ u z]
 |cons e h Q=>
  rename_i x y l T I;intro a b k m g u z M B;simp at m;subst m;obtain⟨_,⟨R,S⟩,rfl,U⟩:=e32 e;rw[List.getLast?_cons_cons]at g;obtain⟨Z,_,O⟩:=w32 (LS.LW.walk h g);replace B:(1:Int)+I.s=(k:Nat):=B;obtain⟨j,rfl⟩:∃j,k=j+1:=⟨k-1,om⟩;have F:p32 y=p32 x+1:=om;have J:p32 b=p32 y+j:=om;have L:I.s=(j:Nat):=om;rw[Q rfl g R S J L,F,List.range_succ_eq_map (n:=j+1),List.map_cons,List.map_map];have P:q32 (p32 x+0)=x:=Xg _ u z;rw[P];congr 1;apply List.map_congr_left;intro i _;show q32 (p32 x+1+i)=q32 (p32 x+(i+1));rw[Nat.add_assoc,Nat.add_comm 1 i]
theorem WN{W:List Nat}{g:Nat}(h:jg Gg 0 2 W c g):g=0/\c=⟨4,0⟩/\W=[0,3,4,5,2]:=by
 rcases h with⟨h,_⟩|⟨a,b,P,Q,J,L,M,O,I⟩
 .exact absurd (by decide+kernel) h
 .obtain rfl:a=0:=om
  obtain rfl:b=2:=om;rcases I with⟨h,_⟩|⟨m,u,z,B,F⟩
  .exact absurd OH.1 (h _)
  .obtain rfl:c=⟨4,0⟩:=df.unique m OH
   exact⟨u,rfl,X4 z (k:=4) B F rD rD rfl rfl⟩
open Go.RowKit Go.Sort Go.Lib
variable {cT:C}{g:G}{B a b:Nat}{T:TypeId}{w:World}
theorem O3(I:World)(b3 B T s q:Nat)(g:G)(v:Int)(y:Nat)(hy:y<g.n)(U:I.cell? ⟨b3,0,none⟩=some (vP s))(Z:I.cell? ⟨s,0,none⟩=some (vP q))(L:I.cell? ⟨B,0,none⟩=some (rI (g.X y:Nat)))(M:I.cell? ⟨T,0,none⟩=some (rI (g.Y y:Nat)))(P:aC I q g v):mE I 91 #[vP b3,vP B,vP T] g (uU g y):=by
 refine⟨K6 func91 kr rfl,λw J n S=>?_⟩;show Calls prog _ #[rI (n:Nat),vP b3,vP B,vP T] w _;have h:=P.below J P.lt;have k:=h.1;have ab:=G.bA k;have l1:=G.ji k n;have l2:=G.ji k y;have l3:=G.iJ S.1;have l4:=G.iJ hy;obtain⟨o1,o2,o3,o4⟩:=k;obtain⟨z,hz⟩:=rX (uU g y n);have Q:dD ((g.X n:Nat)-(g.X y:Nat)) ((g.Y n:Nat)-(g.Y y:Nat))=z:=by rw[<-hz,Kb h.1 y S.1];rfl
 have R:=λw=>qL (g.X n:Nat) (g.Y n:Nat) (g.X y:Nat) (g.Y y:Nat) w om om om om;rw[Q]at R;replace R:=hid R;have U:=af J U;have Z:=af J Z;have L:=af J L;have M:=af J M;rw[hz];obtain⟨xs,xd⟩:=z;have Hn:=hid S.1;clear hz Q J P S l1 l2 l3 l4 hy;go_enter func91,ntmps91;go_upto_region 1 with(fail);refine aB ?_;intro W m;have F:Below w.heap.size w W:=by rw[m];exact be
 have q0:W.cell? ⟨w.heap.size,0,none⟩=some (rI 0):=by rw[m];go_simp
 have q1:W.cell? ⟨w.heap.size,1,none⟩=some (rI 0):=by rw[m];go_simp
 have f0:W.frozen? ⟨w.heap.size,0,none⟩=false:=by rw[m];go_simp
 have f1:W.frozen? ⟨w.heap.size,1,none⟩=false:=by rw[m];go_simp
 have hs:w.heap.size<W.heap.size:=by rw[m];simp
 have U:=af F U;have Z:=af F Z;have L:=af F L;have M:=af F M;have P:=h.below F h.lt;clear m h;go_wp2_with fail;refine(aU W q g v n P Hn.out).mono ?_;rintro e w2 ⟨rfl,u⟩;have L:=af u L;have M:=af u M;go_wp2_with fail;refine(R.out w2).mono ?_;rintro e w3 ⟨rfl,aa⟩;have O:=ae u aa;have q0:=af O q0;have q1:=af O q1
 have f0:=(O.frozen (p:=⟨w.heap.size,0,none⟩) hs).trans f0;have f1:=(O.frozen (p:=⟨w.heap.size,1,none⟩) hs).trans f1;go_wp2_with fail;have e5:=dJ (x:=rI xs) (y:=rI xd) q0 q1
 refine bodyPost_ret (v:=.agg #[rI xs,rI xd]) (by simp[results,results91,go_sem,e5]) rfl ?_;exact⟨rfl,((ae F O).setCell rS _).setCell rS _⟩
inductive Wl (g:G):List Nat->List Nat->Prop
 |one (a:Nat):Wl g [a] [a]
 |snoc {T W M:List Nat} {z y:Nat} {P:Nat->Nat×Nat}:Wl g T W->T.getLast?=some z->g.DK z y P->oZ g z y P (g.fI z y+g.fJ z y+1)=z::M->Wl g (T++[y]) (W++M)
def XR(g:G)(most a b:Nat)(W:List Nat):Prop:=
 (g.dL a b/\∃P,g.DK a b P/\W=oZ g a b P (g.fI a b+g.fJ a b+1))\/
 (¬g.dL a b/\∃Wy,xA g (LS.all g (az g) most).2 (LS.all g (az g) most).1 (uU g b) (xw g a) (xw g b) Wy/\Wl g (a::(Wy++[b])) W)
def Gi(g:G)(most:Nat)(x y:Int)(W:List Nat)(c:C)(er:Nat):Prop:=jg g x y W c er/\(er=0->∃a b:Nat,x=a/\y=b/\XR g most a b W)
def UR(w:World)(A:Option Addr):Prop:=∀ad,A=some ad->ad.block<w.heap.size/\∀o,w.frozen? ⟨ad.block,o,none⟩=false
theorem UR.kept{S:List Nat}{w w':World}{A:Option Addr}(h:UR w A)(m:Kept S w w')(u:∀k,A=some k->k.block∉S):UR w' A:=λk e=>
 ⟨Zf (h k e).1 m.size,λo=>(World.frozen?_of_block (w:=w) (a:=⟨k.block,o,none⟩) (m.block _ (h k e).1 (u k e))).trans ((h k e).2 o)⟩
theorem aL.Uw{v:Value}{u:List Int}(h:aL w B v u):∃A m,v=.slice A u.length m/\Ints w A u.length (λk=>u.getD k 0)/\(∀z,A=some z->B<=z.block)/\UR w A:=by
 obtain⟨A,m,rfl,O,P⟩:=h.JR;refine⟨A,m,rfl,O,P,λz e=>?_⟩;rcases h.2 with⟨F,_⟩|⟨g,L,M,I,_,J,_⟩
 .injection F with F;rw[F]at e;cases e
 .injection I with I;rw[I]at e;injection e with e;subst e
  exact⟨(Za.1 J).1,λo=>Lib.frozen_of_heap J o⟩
def Gv(w:World)(g:G)(most:Nat)(x y:Int)(e:Ending)(w':World):Prop:=
 ∃(W:List Nat)(c:C)(er:Nat),Gi g most x y W c er/\Below w.heap.size w w'/\
  ((er≠0/\e=.returned (.tuple #[.slice none 0 0,.iface 54 (rI (er:Nat))]))\/
   (er=0/\∃A m,e=.returned (.tuple #[.slice A W.length m,.nilIface])/\Ints w' A W.length (λk=>(cK W).getD k 0)/\(∀ad,A=some ad->w.heap.size<=ad.block)/\UR w' A))
theorem Ga(g:G)(a b:Nat)(P:Nat->Nat×Nat)(n:Nat):cK (oZ g a b P n)=og g a b P n:=by simp[cK,oZ,og]
theorem o6(g:G)(a b:Nat)(P:Nat->Nat×Nat)(n:Nat):(oZ g a b P n).length=n:=by simp[oZ]
theorem LZ{W M:List Nat}{z y:Nat}(m:W.getLast?=some z)(k:(z::M).getLast?=some y):(W++M).getLast?=some y:=by
 cases M with
 |nil=>simp at k;subst k;simpa using m
 |cons x l=>rw[List.getLast?_append];rw[List.getLast?_cons_cons]at k;rw[k];rfl
def rT(g:G)(a:Nat)(T:List Nat)(cT:C)(k:Nat)(Wk:List Nat):Prop:=
 ∃(z:Nat)(ck c2:C),((a::T)[k]? =some z/\Wl g ((a::T).take (k+1)) Wk)/\Wk.head?=some a/\Wk.getLast?=some z/\LS.LW g.E Wk ck/\LS.LW (NL g) (z::T.drop k) c2/\C.add ck c2=cT/\Wk.length<=1+k*300
theorem rT.start{T:List Nat}(h:LS.LW (NL g) (a::T) cT):rT g a T cT 0 [a]:=
 ⟨a,C.zero,cT,⟨rfl,.one a⟩,rfl,rfl,.one a,by simpa using h,C.zero_add ..,rS⟩
theorem rT.next(u:g.ok){T:List Nat}{k m:Nat}{F:List Nat}(h:rT g a T cT k F)(O:T[k]? =some m):∃z,F.getLast?=some z/\z<g.n/\m<g.n/\g.b z=false/\g.b m=false/\g.dL z m/\∀P,g.DK z m P->∃M,oZ g z m P (g.fI z m+g.fJ z m+1)=z::M/\rT g a T cT (k+1) (F++M):=by
 obtain⟨z,ck,c2,Z,B,L,h4,I,h6,h7⟩:=h;obtain⟨q1,q2⟩:=Zb.1 O;rw[List.drop_eq_getElem_cons q1,q2]at I;cases I with
 |cons he I=>
  obtain⟨Q,R,n3,n4,n5,rfl⟩:=he;refine⟨z,L,Q,R,n3,n4,n5,λP hP=>?_⟩;obtain⟨M,J,e2,e3⟩:=BI u R Q n5 hP;obtain⟨f1,f2⟩:=G.wG u R Q;have hl:=o6 g z m P (g.fI z m+g.fJ z m+1);rw[J]at hl;simp only[List.length_cons]at hl;refine⟨M,J,m,_,_,⟨by simpa using O,?_⟩,?_,LZ L e3,CS h4 L e2,I,by rw[C.add_assoc,h6],?_⟩
  .have e4:(a::T).take (k+1+1)=(a::T).take (k+1)++[m]:=by
    have e5:(a::T)[k+1]? =some m:=by simpa using O
    obtain⟨S,U⟩:=Zb.1 e5;rw[Zt S,U]
   rw[e4];refine .snoc Z.2 ?_ hP J;obtain⟨S,U⟩:=Zb.1 Z.1;rw[Zt S,U];simp
  .cases F with
   |nil=>simp at B
   |cons x l=>simpa using B
  .rw[Zp];omega
theorem rT.fin{W T:List Nat}{k:List Nat}(h:rT g a T cT T.length k)(M:T=W++[b]):LS.LW g.E k cT/\k.head?=some a/\k.getLast?=some b/\Wl g (a::T) k:=by
 obtain⟨z,P,O,m,I,J,L,u,F,Q⟩:=h;rw[List.drop_length]at u;cases u;rw[C.add_zero]at F;subst F
 have:z=b:=by
  subst M;have e:(a::(W++[b]))[(W++[b]).length]? =some b:=rS;rw[e]at m;exact(Option.some.inj m.1).symm
 subst this;refine⟨L,I,J,?_⟩;have:=m.2;rwa[List.take_of_length_le rS]at this
def U9(W8:World)(g:G)(a:Nat)(T:List Nat)(cT:C)(gT:Nat)(k:Nat)(sl:Value)(wr:World):Prop:=
 ∃Wk,rT g a T cT k Wk/\aL wr W8.heap.size sl (cK Wk)/\sl.ownBlock≠some gT/\gT<wr.heap.size/\(∀(j z:Nat),T[j]? =some z->wr.cell? ⟨gT,j,none⟩=some (rI (z:Nat)))/\Below W8.heap.size W8 wr
theorem WX{E:Int->Option (List Ed)}(h:bZ g (λ_ _=>True) E):∀z:Int,E z≠none↔∃c:Nat,z=c/\g.av c:=h.1
theorem VJ(w:World)(s:Nat)(g:G)(v:Int)(most:Nat)(h:gH w s g v most)(x y:Int):Calls prog 43 #[vP s,rI x,rI y] w (Gv w g most x y):=by
 obtain⟨_,pg,pt,rb,rp,rm,lb,lm,le,S,E,Sb,nl,hs,m1,m2,hG,a5,cI,cJ,_⟩:=h;have O:w.cell? ⟨s,0,none⟩=some (vP pg):=by rw[Lib.cell_of_heap hs];rfl
 have aS:w.cell? ⟨s,2,none⟩=some (vP rb):=by rw[Lib.cell_of_heap hs];rfl
 have Z:w.cell? ⟨s,3,none⟩=some (vP lb):=by rw[Lib.cell_of_heap hs];rfl
 have ab:=hid hG.1;have Q:=hid hG;have aa:=hid a5;have ci:=hid cI;have R:=hid cJ;clear hs hG a5 cI cJ;go_enter func43,ntmps43;go_upto_region 1 with(fail);refine aB ?_;intro W hW;have HW:Below w.heap.size w W:=by rw[hW];exact be
 obtain⟨b3,J⟩:=rX w.heap.size;have k3:W.cell? ⟨b3,0,none⟩=some (vP s):=by rw[hW,<-J];go_simp
 rw[J];replace O:=af HW O;replace aS:=af HW aS;replace Z:=af HW Z;replace Q:=hid (Q.out.below HW Q.out.lt);replace aa:=hid (aa.out.below HW);replace R:=hid (R.out.below HW);replace HW:=hid HW;clear hW J;by_cases h0:iH g x y=0
 case neg=>
  obtain⟨fz,b8⟩:=rX (iH g x y);have co:fz≠0:=by rw[<-b8];exact h0
  have cN:=hid (zZ W pg g v x y fz Q.out b8 co);have hA:Gi g most x y [] C.zero fz:=⟨.inl ⟨h0,b8.symm,rfl,rfl⟩,λq=>absurd q co⟩;replace hA:=hid hA;clear h0 b8;go_wp2_with fail;refine cN.out.mono ?_;rintro e w2 ⟨rfl,F⟩;go_wp2_with fail;go_ret2;exact⟨[],C.zero,fz,hA.out,ae HW.out F,.inl ⟨co,rfl⟩⟩
 obtain⟨f1,f2⟩:=LB h0;obtain⟨a,rfl,ha,fa⟩:=G.iP f1;obtain⟨b,rfl,hb,fb⟩:=G.iP f2;clear h0 f1 f2;have u:=hid (rN ha (rN hb (rN fa fb)));clear ha hb fa fb;obtain⟨t,ht⟩:∃t:Bool,t=true↔g.dL a b:=⟨@decide (g.dL a b) (Classical.propDecidable _),rS⟩;have cN:=hid (tH W pg g v a b t Q.out u.out.1 u.out.2.1 u.out.2.2.1 u.out.2.2.2 ht);replace ht:=hid ht;go_wp2_with fail;refine cN.out.mono ?_;rintro e w2 ⟨rfl,F⟩;have bv:=hid (ae HW.out F);replace k3:=af F k3;replace O:=af F O;replace aS:=af F aS;replace Z:=af F Z;replace Q:=hid (Q.out.below F Q.out.lt);replace aa:=hid (aa.out.below F)
 replace R:=hid (R.out.below F);clear cN HW F;cases t with
 |true=>
  have hn:g.dL a b:=ht.out.1 rfl;have cW:=hid (tJ w2 pg g v a b Q.out u.out.1 u.out.2.1 u.out.2.2.1 u.out.2.2.2 hn);replace hn:=hid hn;go_wp2_with fail;refine cW.out.mono ?_;rintro e w3 ⟨P,hP,v',rfl,hO,J⟩;obtain⟨A,mm,rfl,hI,hf,hz⟩:=hO.Uw;obtain⟨M,e1,e2,e3⟩:=BI ab.out u.out.2.1 u.out.1 hn.out hP
  have hA:Gi g most (a:Nat) (b:Nat) (oZ g a b P (g.fI a b+g.fJ a b+1)) (g.cZ a b) 0:=
   ⟨.inr ⟨a,b,rfl,rfl,u.out.1,u.out.2.1,u.out.2.2.1,u.out.2.2.2,.inr ⟨G.Bb.1 hn.out,rfl,by rw[e1];exact e2,by rw[e1];rfl,by rw[e1];exact e3⟩⟩,λ_=>⟨a,b,rfl,rfl,.inl ⟨hn.out,P,hP,rfl⟩⟩⟩
  have cq:(oZ g a b P (g.fI a b+g.fJ a b+1)).length=(og g a b P (g.fI a b+g.fJ a b+1)).length:=by rw[o6,xh]
  have hF:Gv w g most (a:Nat) (b:Nat) (.returned (.tuple #[.slice A (og g a b P (g.fI a b+g.fJ a b+1)).length mm,.nilIface])) w3:=
   ⟨_,_,0,hA,ae bv.out J,.inr ⟨rfl,A,mm,by rw[cq],by rw[cq,Ga];exact hI,λad e=>Zg bv.out.size (hf ad e),hz⟩⟩
  replace hF:=hid hF;clear hA hI hf hz hO hP e1 e2 e3 J cW cq;go_wp2_with fail;go_ret2;exact hF.out
 |false=>
  have hn:¬g.dL a b:=λk=>by have:=ht.out.2 k;cases this
  replace hn:=hid hn;have a9:=ab.out;have eb:=G.bA a9;obtain⟨eo,bj⟩:∃L,L=xw g a:=⟨_,rfl⟩;obtain⟨ei,bi⟩:∃L,L=xw g b:=⟨_,rfl⟩;have c8:eo.length<=256:=by rw[bj];exact Zg (xD _ _ _ _) (bM a9)
  have c7:ei.length<=256:=by rw[bi];exact Zg (xD _ _ _ _) (bM a9)
  have dj:xU eo:=by rw[bj];exact OO a9 u.out.1
  have dg:xU ei:=by rw[bi];exact OO a9 u.out.2.1
  have de:∀e∈ei,∀t:Nat,e.to_=t->C.le (g.cZ t b) e.c:=by rw[bi];exact R5
  have He:=hid (rN bj bi);have HO:=hid (rN dj (rN dg de))
  have cC:Calls prog 89 #[vP rb,rI (a:Nat)] w2 (vV w2 eo):=by
   rw[bj];exact sK w2 rb rp rm S g v a E aa.out (WX ci.out) u.out.1 u.out.2.2.1
  replace cC:=hid cC;clear bj bi dj dg de a9;go_wp2_with fail;refine cC.out.mono ?_;rintro e w3 ⟨vO,rfl,hO,J⟩;obtain⟨AO,mO,rfl,cH⟩:=hO.yI;have cA:=hid (ae bv.out J);replace k3:=af J k3;replace O:=af J O;replace aS:=af J aS;replace Z:=af J Z;replace Q:=hid (Q.out.below J Q.out.lt);replace aa:=hid (aa.out.below J)
  replace R:=hid (R.out.below J);have a4:=hid cH.o
  have cC:Calls prog 89 #[vP rb,rI (b:Nat)] w3 (vV w3 ei):=by
   rw[He.out.2];exact sK w3 rb rp rm S g v b E aa.out (WX ci.out) u.out.2.1 u.out.2.2.2
  replace cC:=hid cC;clear hO cH J bv;go_wp2_with fail;refine cC.out.mono ?_;rintro e w4 ⟨vI,rfl,hI,am⟩;obtain⟨AI,mI,rfl,cG⟩:=hI.yI;have cB:=hid (ae cA.out am);replace k3:=af am k3;replace O:=af am O;replace Z:=af am Z;replace Q:=hid (Q.out.below am Q.out.lt);replace R:=hid (R.out.below am);replace a4:=hid (a4.out.below am)
  have bw:=hid cG.o;have cP:=hid (aU w4 pg g v b Q.out u.out.2.1);clear hI cG am cA cC aa ci aS;go_wp2_with fail;refine cP.out.mono ?_;rintro e w5 ⟨rfl,ao⟩
  go_upto_region 13 with(fail);refine aB ?_;intro W6 b5;have cQ:Below w5.heap.size w5 W6:=by rw[b5];exact be
  have kx:W6.cell? ⟨w5.heap.size,0,none⟩=some (rI (g.X b:Nat)):=by rw[b5];go_simp
  have ky:W6.cell? ⟨w5.heap.size+1,0,none⟩=some (rI (g.Y b:Nat)):=by rw[b5];go_simp
  obtain⟨bx,cV⟩:=rX w5.heap.size;obtain⟨cF,cX⟩:=rX (bx+1);have ac:=ae ao cQ;rw[cV]at kx ky⊢;rw[cX]at ky⊢;replace kx:=hid kx;replace ky:=hid ky;have ai:=hid (ae cB.out ac);replace k3:=af ac k3;replace O:=af ac O;replace Z:=af ac Z;replace Q:=hid (Q.out.below ac Q.out.lt);replace R:=hid (R.out.below ac);replace a4:=hid (a4.out.below ac);replace bw:=hid (bw.out.below ac);clear b5 ao cQ cV cX ac cB cP;obtain⟨HF,_,dl⟩:=LS.Ce ab.out (az g) (λn=>dm) (most:=most) m1 m2;obtain⟨Sv,cl⟩:=rX ((LS.all g (az g) most).1);obtain⟨tp,a2⟩:=rX ((LS.all g (az g) most).2);have cD:=hid (rN cl a2);rw[cl,a2]at HF R;rw[a2]at dl;have ch:tp<=6:=om;obtain⟨no,aq⟩:=rX eo.length;obtain⟨ni,cv⟩:=rX ei.length;rw[aq]at c8⊢;rw[cv]at c7⊢
  have cS:=hid (TN W6 lb lm le nl Sb tp g Sv ab.out HF ch R.out AO no mO eo a4.out aq om HO.out.1 AI ni mI ei bw.out cv om HO.out.2.1
   91 #[vP b3,vP bx,vP cF] (uU g b)
   (O3 W6 b3 bx cF s pg g v b u.out.2.1 k3 O kx.out ky.out Q.out) (Im ab.out u.out.2.1) (Ff g b) (λd3 f hf=>Vw ab.out HF HO.out.2.2 d3 f hf))
  clear HF dl cl a2 ch aq cv c8 c7 R a4 bw kx ky;go_wp2_with fail;(with_reducible refine cS.out.mono ?_);rintro e w7 ⟨vw,⟨cs,cd⟩,fd,rfl,U,aq,a8,a3⟩;rw[show oD ⟨cs,cd⟩=.agg #[rI cs,rI cd]from rfl];have cR:=a8;replace ai:=hid (ae ai.out a8);replace k3:=af a8 k3;replace O:=af a8 O;replace Q:=hid (Q.out.below a8 Q.out.lt);replace U:=hid U;replace aq:=hid aq;replace a3:=hid a3;clear cS a8 cR Z;go_upto_region 14 with(fail);refine aB ?_;intro W8 cm;have ax:Below w7.heap.size w7 W8:=by rw[cm];exact be
  replace ai:=hid (ae ai.out ax);replace k3:=af ax k3;replace O:=af ax O;replace Q:=hid (Q.out.below ax Q.out.lt);cases fd with
  |false=>
   have hv:=aq.out rfl;subst hv
   have hA:Gi g most (a:Nat) (b:Nat) [] C.zero 5:=by
    refine⟨?_,λq=>nomatch q⟩;have F:=U.out;rw[He.out.1,He.out.2]at F;exact .inr ⟨a,b,rfl,rfl,u.out.1,u.out.2.1,u.out.2.2.1,u.out.2.2.2,.inl ⟨KZ F hn.out,rfl,rfl,rfl⟩⟩
   replace hA:=hid hA;clear cm ax;go_wp2_with fail;go_ret2
   exact⟨[],C.zero,5,hA.out,ai.out,.inl ⟨rD,rfl⟩⟩
  |true=>
   obtain⟨AW,mW,Wy,f,rfl,cn,al,cL,cM,ba,a0,bb⟩:=a3.out rfl;have bb:Hid (xA g (LS.all g (az g) most).2 (LS.all g (az g) most).1 (uU g b) (xw g a) (xw g b) Wy):=hid (by rw[cD.out.1,cD.out.2,<-He.out.1,<-He.out.2];exact bb);replace al:=al.below ax;have F:=U.out;rw[He.out.1,He.out.2]at F;rw[He.out.2]at ba;rw[He.out.1]at a0;have b0:=QS ab.out u.out.1 u.out.2.1 u.out.2.2.1 u.out.2.2.2 F ba a0 hn.out;have hD:=hid (Aj F hn.out)
   have bc:0<Wy.length:=by
    obtain⟨_,_,_,_,_,_,h,_⟩:=a0;cases Wy with
    |nil=>simp at h
    |cons=>simp
   obtain⟨n1,aE⟩:=rX Wy.length;rw[aE]at al bc cM cn⊢;obtain⟨ad,rfl,_⟩:=al bc;replace b0:=hid b0;replace al:=hid al;replace aE:=hid aE;clear cm ax F ba a0 cL U aq a3 He HO;go_upto_region 17 with(fail);refine aB ?_;intro W9 b6;have cT:Below W8.heap.size W8 W9:=by rw[b6];exact be
   have hO:aL W9 W8.heap.size (.slice (some ⟨W8.heap.size,0,none⟩) 1 1) (cK [a]):=by
    rw[b6];refine⟨rfl,.inr ⟨W8.heap.size,1,#[rI (a:Nat)],rfl,Zi _,?_,rS,rD,rfl,rfl⟩⟩;exact heap_alloc_new W8 (.cells #[rI (a:Nat)] 3 (0,0))
   have bh:=ah cT (o:=.cells #[rI (b:Nat)] 3);have d1:W8.heap.size<W9.heap.size:=by rw[b6];simp
   have a6:=hid (al.out.below bh)
   have b7:∀(k:Nat)(z:Int),[((b:Nat):Int)][k]? =some z->(W9.alloc (.cells #[rI (b:Nat)] 3)).cell? ((⟨W9.heap.size,0,none⟩:Addr).add k)=some (rI z):=by
    intro k z hz;cases k with
    |zero=>
     simp at hz;subst hz;rw[Addr.add_lit];exact dh _ _ _
    |succ k=>simp at hz
   replace hO:=hid (aL.below (B':=0) hO (ah br (o:=.cells #[rI (b:Nat)] 3)));clear b6 cT;have cw:(cK Wy).length=n1:=by rw[bS];exact aE.out
   have dk:=IJ (ad:=ad) bc cn;obtain⟨T,hT⟩:=rX (Wy++[b]);have bd:cK Wy++[((b:Nat):Int)]=cK T:=by rw[<-hT];simp
   have a7:(cK T).length=n1+1:=by rw[<-bd,Zp,cw];rfl
   rw[hT]at b0;obtain⟨nT,da⟩:=rX ((cK T).length);have HT:=hid (rN hT (rN da (rN bd a7)));replace b7:=hid b7;replace aE:=aE.out;clear bd a7 hT da
   go_wp2_with
    (first
     |(at_builtin;(refine jh _ rfl _ _ rfl (some ad) n1 (cK Wy) [((b:Nat):Int)] rfl cw bc a6.out ⟨W9.heap.size,0,none⟩ 1 _ rfl rfl rD b7.out om ?_);intro v' d4 I bg
       rw[HT.out.2.2.1]at I;obtain⟨gT,mT,dn,dT⟩:=I.addr (by rw[HT.out.2.2.2];omega);rw[HT.out.2.1]at dn dT;subst dn;replace I:=hid I))
   have ay:=World.ownsRow.lt I.out gT rfl
   have bq:U9 W8 g a T ⟨cs,cd⟩ gT 0 (.slice (some ⟨W8.heap.size,0,none⟩) 1 1) d4:=by
    refine⟨[a],rT.start b0.out,aL.below (B':=0) hO.out bg,?_,ay.2,λj z hz=>I.out.cell (oL hz),ae bh bg⟩;intro e;simp[Value.ownBlock]at e;have:=ay.1;simp at this;omega
   replace bq:=hid bq
   have cp:∀(k:Nat),k<nT->∀wx,(Instr.indexAt 51 (.slice (some ⟨gT,0,none⟩) nT mT) (rI ((k:Nat):Int))).run prog wx=.ok (.pointer (some ⟨gT,k,none⟩)) wx:=λk hk wx=>by
    have:=aP (A:=some ⟨gT,0,none⟩) (m:=mT) rfl hk wx;rw[Addr.add_lit,Zx]at this;exact this
   replace cp:=hid cp;have a7:=HT.out.2.2.2;rw[HT.out.2.1]at a7;have d5:nT<=2000001:=om;have d7:=hid a7;clear a7 cM cn aE bc;clear I bg hO b7 a6 d1 bh dk cw ay al;go_loopw [18,107] (λsl iv wr=>∃(k:Nat),k<=nT/\iv=rI (k:Nat)/\U9 W8 g a T ⟨cs,cd⟩ gT k sl wr) (λ_ iv _=>nT-(intOf iv).toNat)
   case atStart=>exact⟨0,Zw _,rfl,bq.out⟩
   case round=>
    obtain⟨k,hk,rfl,Wk,aw,ar,cr,ay,b4,hB⟩:=hrel;by_cases dy:k<nT
    .obtain⟨z',ca⟩:∃z',T[k]? =some z':=⟨_,Zc (by have:=HT.out.2.1;rw[bS]at this;omega)⟩
     obtain⟨z,hl,cx,cy,dp,dq,ds,bt⟩:=aw.next ab.out ca
     have cg:0<(cK Wk).length:=by
      rw[bS];cases Wk with
      |nil=>simp at hl
      |cons=>simp
     obtain⟨gk,mk,rfl,d0⟩:=ar.addr cg;obtain⟨nk,bm⟩:=rX ((cK Wk).length);obtain⟨jk,c5⟩:∃j,nk=j+1:=⟨nk-1,om⟩
     have bl:(cK Wk)[jk]? =some ((z:Nat):Int):=by
      refine oL ?_;rw[List.getLast?_eq_getElem?]at hl;rw[bS]at bm;rw[show jk=Wk.length-1 by omega];exact hl
     have cY:=ar.cell bl;have ec:=World.ownsRow.lt ar gk rfl;have c1:gk≠gT:=λe=>cr (by rw[e];rfl);rw[bm]at d0⊢
     have ed:nk<=1+k*300:=by
      obtain⟨_,_,_,_,_,_,_,_,_,h⟩:=aw;rw[bS]at bm;omega
     have d8:=ae ai.out hB;have hd:=aj (Below.refl wr.heap.size wr);have du:=af hB k3;have dt:=af hB O;have a5:=Q.out.below hB Q.out.lt;have cW:=hid (tJ wr.drew pg g v z z' (a5.below hd a5.lt) cx cy dp dq ds);have ct:=b4 k z' ca;have c2:=cp.out k dy;have q0:wr.drew.cell? ⟨b3,0,none⟩=some (vP s)/\wr.drew.cell? ⟨s,0,none⟩=some (vP pg)/\wr.drew.cell? ⟨gk,jk,none⟩=some (rI (z:Nat)):=⟨af hd du,af hd dt,af hd cY⟩;have d2:IntKind.i64.wrap ((nk:Int)-1)=(nk:Int)-1:=IntWalk.i64_in _ om;have d6:1<=nk:=om
     have ap:∀wx,(Instr.indexAt 51 (.slice (some ⟨gk,0,none⟩) nk mk) (rI ((jk:Nat):Int))).run prog wx=.ok (.pointer (some ⟨gk,jk,none⟩)) wx:=λwx=>by
      have:=aP (A:=some ⟨gk,0,none⟩) (m:=mk) rfl (show jk<nk by omega) wx;rw[Addr.add_lit,Zx]at this;exact this
     obtain⟨Ak,bz⟩:∃A,some (⟨gk,0,none⟩:Addr)=A:=⟨_,rfl⟩;rw[bz]at ap⊢;replace bz:=hid bz
     have c4:∀wx,(Instr.indexAt 51 (.slice Ak nk mk) (rI ((nk:Int)-1))).run prog wx=.ok (.pointer (some ⟨gk,jk,none⟩)) wx:=λwx=>by
      have:=ap wx;rwa[show((jk:Nat):Int)=(nk:Int)-1 by omega]at this
     replace ap:=hid ap;have H1:=hid (rN aw (rN ar (rN b4 (rN bt (rN bm c5)))));have H2:=hid (rN hB ay);have cE:=hid (rN cx cy);replace hk:=hid hk;replace ca:=hid ca;clear bq aw ar b4 bt bm c5 bl cY hB ay a5 hl cg du dt cx cy dp dq ds cr;go_upto_region 20 with(fail)
     go_region_held3 (λw'=>w'.cell? ⟨b3,0,none⟩=some (vP s)/\w'.cell? ⟨s,0,none⟩=some (vP pg)/\w'.cell? ⟨gk,jk,none⟩=some (rI (z:Nat)))
      (first
       |exact q0
       |exact q1)
      (first
       |(go_at_call 88
         refine cW.out.mono ?_;rintro e w5 ⟨P,hP,vU,rfl,b2,ao⟩;have q1:w5.cell? ⟨b3,0,none⟩=some (vP s)/\w5.cell? ⟨s,0,none⟩=some (vP pg)/\w5.cell? ⟨gk,jk,none⟩=some (rI (z:Nat)):=⟨af ao q0.1,af ao q0.2.1,af ao q0.2.2⟩))
     obtain⟨M,hM,ck⟩:=H1.out.2.2.2.1 P hP;rw[<-Ga,hM]at b2;obtain⟨gm,mm,rfl,c9⟩:=b2.addr (by rw[bS];simp);obtain⟨nM,b9⟩:=rX ((cK (z::M)).length);rw[b9]at c9⊢;have d9:(cK M).length+1=nM:=by rw[<-b9,bS,bS];rfl
     have ea:nM<=1000:=by
      have:=o6 g z z' P (g.fI z z'+g.fJ z z'+1);rw[hM]at this;rw[bS]at b9;obtain⟨f1,f2⟩:=G.wG ab.out cE.out.2 cE.out.1;omega
     obtain⟨o,ho,dk⟩:=IP (g:=gm) (n:=nM) (m:=mm) om c9
     have b1:∀(j:Nat)(y:Int),(cK M)[j]? =some y->w5.cell? ((⟨gm,o,none⟩:Addr).add j)=some (rI y):=by
      intro j y hy;have h1:1<nM:=by have:=(Zb.1 hy).1;omega
      rw[ho h1,Addr.add_lit,Nat.add_comm];exact b2.cell (k:=j+1) (by simpa using hy)
     replace b1:=hid b1;have a1:=ae hd ao;have cj:=hid (ae H2.out.1 a1);have dx:=bz.out;have cb:=hid (aL.below (B':=0) H1.out.2.1 a1);have dv:(cK M).length=nM-1:=om;have bo:=H1.out.2.2.2.2.1;have ce:=hid (λj x hx=>af a1 (H1.out.2.2.1 j x hx));have bk:gT<w5.heap.size:=Zf H2.out.2 a1.size;replace ck:=hid ck;clear c4 ap q0 q1 b2 hP hM b9 ao hd d2 cW ct c2;subst dx;have cU:=cj.out.size;have dd:(cK Wk).length+(nM-1)<1099511627776:=om;have db:0<(cK Wk).length:=om;have B:=cb.out;rw[bo]at B;replace B:=hid B;replace bo:=hid bo;go_upto_region 23 with(fail);go_wp2_with (at_builtin;(refine qf w5 rfl _ _ rfl W8.heap.size (.slice (some ⟨gk,0,none⟩) nk mk) (cK Wk) (cK M) rfl B.out db ⟨gm,o,none⟩ (nM-1) _ rfl dv b1.out dd cU ?_);intro v' w9 bp ag cO)
     have hF:U9 W8 g a T ⟨cs,cd⟩ gT (k+1) v' w9:=by
      refine⟨Wk++M,ck.out,by rw[show cK (Wk++M)=cK Wk++cK M by simp];exact bp,λe=>?_,Zf bk ag.size,λj x hx=>?_,below_grown cj.out cU B.out ag⟩
      .rcases cO gT e with h|h
       .exact c1 (by simpa[Value.ownBlock]using h)
       .omega
      .exact(World.cell?_of_block (ag.block gT bk (λe=>c1 (by simpa[Value.ownBlock]using e.symm)))).trans (ce.out j x hx)
     replace hF:=hid hF;clear bp ag cO ce bk B cb cj b1;go_wp2;go_roundw
     case rel=>refine rR ?_;exact⟨k+1,om,by go_num,hF.out⟩
     case measure=>exact rM
    .obtain rfl:k=nT:=om
     obtain⟨A,mA,rfl,a6,c0,dr⟩:=ar.Uw;have c6:k=T.length:=by rw[<-HT.out.2.1,bS]
     rw[c6]at aw;obtain⟨e1,e2,e3,e4⟩:=aw.fin HT.out.1.symm;rw[<-HT.out.1]at e4;have hA:Gi g most (a:Nat) (b:Nat) Wk ⟨cs,cd⟩ 0:=⟨.inr ⟨a,b,rfl,rfl,u.out.1,u.out.2.1,u.out.2.2.1,u.out.2.2.2,.inr ⟨hD.out,rfl,e1,e2,e3⟩⟩,λ_=>⟨a,b,rfl,rfl,.inr ⟨hn.out,Wy,bb.out,e4⟩⟩⟩
     have hF:Gv w g most (a:Nat) (b:Nat) (.returned (.tuple #[.slice A (cK Wk).length mA,.nilIface])) wr:=
      ⟨Wk,⟨cs,cd⟩,0,hA,ae ai.out hB,.inr ⟨rfl,A,mA,by rw[bS],by rw[bS]at a6;exact a6,λad e=>Zg ai.out.size (c0 ad e),dr⟩⟩
     replace hF:=hid hF;clear hA e1 e2 e3 e4 c6 aw a6 c0 dr ar hB b4 ay cr bq;go_wp2;go_ret2;exact hF.out
def XD(w:World)(g:G)(most:Nat)(x y:Int)(e:Ending)(w':World):Prop:=
 ∃(W:List Nat)(c:C)(er:Nat)(A:Option Addr)(m:Nat),Gi g most x y W c er/\e=.returned (.agg #[.slice A W.length m,rI c.s,rI c.d,rI (er:Nat)])/\Ints w' A W.length (λk=>(cK W).getD k 0)/\((∀ad,A=some ad->w.heap.size<=ad.block)/\UR w' A)/\Below w.heap.size w w'
def XC(w:World)(g:G)(x y:Int)(e:Ending)(w':World):Prop:=
 ∃(W:List Nat)(c:C)(er:Nat)(A:Option Addr)(m:Nat),jg g x y W c er/\e=.returned (.agg #[.slice A W.length m,rI c.s,rI c.d,rI (er:Nat)])/\Ints w' A W.length (λk=>(cK W).getD k 0)/\(∀ad,A=some ad->w.heap.size<=ad.block)/\Below w.heap.size w w'
theorem FI{u0 u1 u2 u3:Value}(k m u z:Value)(h:w.heap[b]? =some (.cells #[u0,u1,u2,u3] T (0,0))):((((w.setCell ⟨b,0,none⟩ k).setCell ⟨b,1,none⟩ m).setCell ⟨b,2,none⟩ u).setCell ⟨b,3,none⟩ z).heap[b]? =some (.cells #[k,m,u,z] T (0,0)):=
 aI _ b 3 _ _ z (aI _ b 2 _ _ u (aI _ b 1 _ _ m (aI _ b 0 _ _ k h)))
theorem mK{k m u z:Value}(h:w.heap[b]? =some (.cells #[k,m,u,z] T (0,0))):w.cell? ⟨b,0,none⟩=some k/\w.cell? ⟨b,1,none⟩=some m/\w.cell? ⟨b,2,none⟩=some u/\w.cell? ⟨b,3,none⟩=some z:=by
 refine⟨?_,?_,?_,?_⟩<;>(rw[Lib.cell_of_heap h];rfl)
theorem J9(w:World)(s:Nat)(g:G)(v:Int)(most:Nat)(h:gH w s g v most)(x y:Int):Calls prog 15 #[vP s,rI x,rI y] w (XD w g most x y):=by
 have hS:=hid h;obtain⟨_,pg,pt,rb,rp,rm,lb,lm,le,S,E,Sb,nl,hs,m1,m2,hG,_⟩:=h;have Q:w.cell? ⟨s,0,none⟩=some (vP pg):=by rw[Lib.cell_of_heap hs];rfl
 replace hG:=hid hG;clear hs;go_enter func15,ntmps15;go_upto_region 1 with(fail);refine aB ?_;intro W hW;have HW:Below w.heap.size w W:=by rw[hW];exact be
 obtain⟨k,P⟩:=rX w.heap.size;have q6:W.heap[k]? =some (.cells #[.slice none 0 0,rI 0,rI 0,rI 0] 56 (0,0)):=by rw[hW,<-P];exact heap_alloc_new _ _
 rw[P];have F:w.heap.size<=k:=Nat.le_of_eq P;have T:k<W.heap.size:=by rw[hW,<-P];simp
 clear hW;replace Q:=af HW Q;have cW:=hid (VJ W s g v most (hS.out.below HW) x y);replace q6:=hid q6;go_wp2_with fail;refine cW.out.mono ?_
 rintro e w2 ⟨Wy,c,er,M,u,(⟨h0,rfl⟩|⟨h0,A,m,rfl,hI,hf⟩)⟩
 .have I:=(u.block k T).trans q6.out
  obtain⟨z0,z1,z2,z3⟩:=mK I;have f0:w2.frozen? ⟨k,0,none⟩=false:=Lib.frozen_of_heap I 0;have f1:w2.frozen? ⟨k,1,none⟩=false:=Lib.frozen_of_heap I 1;have f2:w2.frozen? ⟨k,2,none⟩=false:=Lib.frozen_of_heap I 2;have f3:w2.frozen? ⟨k,3,none⟩=false:=Lib.frozen_of_heap I 3;obtain⟨rfl,rfl⟩:=M.1.zero h0;replace I:=hid I;replace M:=hid M;have ao:=DT (er:Nat);go_wp2_with fail;have e4:=mK (FI (.slice none 0 0) (rI 0) (rI 0) (rI (er:Nat)) I.out);refine bodyPost_ret (v:=.agg #[.slice none 0 0,rI 0,rI 0,rI (er:Nat)]) (by simp[results,results15,go_sem,e4]) rfl ?_;exact⟨[],C.zero,er,none,0,M.out,rfl,λh=>absurd h rS,⟨λU e=>(nomatch e),λU e=>(nomatch e)⟩,((((ae HW u).setCell (p:=⟨k,0,none⟩) F _).setCell (p:=⟨k,1,none⟩) F _).setCell (p:=⟨k,2,none⟩) F _).setCell (p:=⟨k,3,none⟩) F _⟩
 .subst h0
  obtain⟨l1,l2,_⟩:=M.1.len hG.out.1 rfl;have aa:=M.1.vK hG.out.1 rfl;have ab:=hG.out.below (ae HW u) hG.out.lt;replace Q:=af u Q;obtain⟨n,hn⟩:=rX Wy.length;rw[hn]at aa hI⊢;have cF:=hid (Lv w2 pg g v A n m _ ab hI om);rw[aa]at cF;have I:=(u.block k T).trans q6.out;replace I:=hid I;replace M:=hid M;replace hI:=hid hI;replace hf:=hid hf;replace hn:=hid hn;have ac:=Zf T u.size;have ag:=hid (ae HW u);clear aa ab l1 l2 u cW;obtain⟨B,Z⟩:=c;go_wp2_with fail;refine cF.out.mono ?_;rintro e w3 ⟨rfl,al⟩
  rw[show Oz (⟨B,Z⟩,0)=.tuple #[.agg #[rI B,rI Z],.nilIface]from rfl];go_upto_region 6 with(fail);refine aB ?_;intro J O;have am:Below w3.heap.size w3 J:=by rw[O];exact be
  have c0:J.cell? ⟨w3.heap.size,0,none⟩=some (rI B):=by rw[O];go_simp
  have c1:J.cell? ⟨w3.heap.size,1,none⟩=some (rI Z):=by rw[O];go_simp
  have L:=ae al am;have R:=(L.block k ac).trans I.out;obtain⟨z0,z1,z2,z3⟩:=mK R;have f0:J.frozen? ⟨k,0,none⟩=false:=Lib.frozen_of_heap R 0;have f1:J.frozen? ⟨k,1,none⟩=false:=Lib.frozen_of_heap R 1;have f2:J.frozen? ⟨k,2,none⟩=false:=Lib.frozen_of_heap R 2;have f3:J.frozen? ⟨k,3,none⟩=false:=Lib.frozen_of_heap R 3;replace R:=hid R;clear O;go_wp2_with fail;have e4:=mK (FI (.slice A n m) (rI B) (rI Z) (rI 0) R.out);refine bodyPost_ret (v:=.agg #[.slice A n m,rI B,rI Z,rI 0]) (by simp[results,results15,go_sem,e4]) rfl ?_;have HB:=(((((ae ag.out L).setCell (p:=⟨k,0,none⟩) F (.slice A n m)).setCell (p:=⟨k,1,none⟩) F (rI B)).setCell (p:=⟨k,2,none⟩) F (rI Z)).setCell (p:=⟨k,3,none⟩) F (rI 0));refine⟨Wy,⟨B,Z⟩,0,A,m,M.out,by rw[hn.out];rfl,?_,⟨λU e=>by have:=hf.out.1 U e;have:=HW.size;omega,?_⟩,HB⟩
  .have ai:=hI.out.below L
   rw[hn.out];refine ai.iC (((((Kept.refl [k] J).setCell (p:=⟨k,0,none⟩) (.inl rS)).setCell (p:=⟨k,1,none⟩) (.inl rS)).setCell (p:=⟨k,2,none⟩) (.inl rS)).setCell (p:=⟨k,3,none⟩) (.inl rS)) (λ_ U e=>?_);have:=hf.out.1 U e;simp;omega
  .refine(hf.out.2.kept (.of_below (S:=[]) L) (λ_ _=>rS)).kept (((((Kept.refl [k] J).setCell (p:=⟨k,0,none⟩) (.inl rS)).setCell (p:=⟨k,1,none⟩) (.inl rS)).setCell (p:=⟨k,2,none⟩) (.inl rS)).setCell (p:=⟨k,3,none⟩) (.inl rS)) (λU e=>?_)
   have:=hf.out.1 U e;simp;omega
theorem PZ(w:World)(s:Nat)(g:G)(v:Int)(most:Nat)(h:gH w s g v most)(x y:Int):Calls prog 15 #[vP s,rI x,rI y] w (XC w g x y):=
 (J9 w s g v most h x y).mono λ_ _⟨W,c,k,A,m,u,z,F,I,J⟩=>⟨W,c,k,A,m,u.1,z,F,I.1,J⟩
def gF(g:G)(k:Nat):Nat:=iN (λc=>!g.b c) k
theorem Et(g:G)(k:Nat):gF g k<=k:=by
 unfold gF iN;exact Zg (List.length_filter_le _ _) rS
theorem yL(g:G)(k:Nat):gF g (k+1)=gF g k+(if(!g.b k)=true then 1 else 0):=by unfold gF;rw[lN]
noncomputable def addN(g:G)(most:Nat):Nat:=bC (iU (eZ g (LS.all g (az g) most).1)) g.n
noncomputable def nY(g:G)(k:Nat):Nat:=(((az g).take k).map (GK g)).sum
theorem Cm(k:g.ok)(a:Nat):GK g a<=256:=by
 unfold GK;refine Zg (List.length_filter_le _ _) ?_;rw[yw];exact bM k
theorem uD{k:Nat}(h:k<(aA g).length):nY g (k+1)=nY g k+GK g (cf g k):=by
 unfold nY;have:=Uq h;obtain⟨m,u⟩:=Zb.1 this;rw[Zt m,u,List.map_append,List.sum_append];simp
theorem sj(m:g.ok):∀{k:Nat},k<=(aA g).length->nY g k<=256*k
 |0,_=>by simp[nY]
 |k+1,h=>by
  have:=sj m (k:=k) om;have:=Cm m (cf g k);rw[uD om];omega
theorem Ei(g:G):nY g (aA g).length=OG g:=by unfold nY OG;rw[<-yw,List.take_length]
def Uh(w:World)(g:G)(v:Int)(most:Nat)(e:Ending)(w':World):Prop:=
 ∃n fr nd ed ad tp:Nat,e=.returned (.agg #[rI (n:Nat),rI (fr:Nat),rI (nd:Nat),rI (ed:Nat),rI (ad:Nat),rI (tp:Nat),rI v])/\
  (n=g.n/\fr=gF g g.n/\nd=(az g).length/\ed=OG g/2/\ad=addN g most/\tp=(LS.all g (az g) most).2)/\Below w.heap.size w w'
theorem QL(k:g.ok){most:Nat}(u:1<=most)(z:most<=6):(LS.all g (az g) most).2<=most:=by
 obtain⟨_,_,m⟩:=LS.Ce k (az g) (λn=>dm) (most:=most) u z;omega
theorem aR{k m u z F I J:Value}(h:w.heap[b]? =some (.cells #[k,m,u,z,F,I,J] T (0,0))):w.cell? ⟨b,0,none⟩=some k/\w.cell? ⟨b,1,none⟩=some m/\w.cell? ⟨b,2,none⟩=some u/\w.cell? ⟨b,3,none⟩=some z/\w.cell? ⟨b,4,none⟩=some F/\w.cell? ⟨b,5,none⟩=some I/\w.cell? ⟨b,6,none⟩=some J:=by
 refine⟨?_,?_,?_,?_,?_,?_,?_⟩<;>(rw[Lib.cell_of_heap h];rfl)
theorem dO{w X:World}(h:Below B w X)(m:B<=b)(k:Nat)(x:Value):Below B w (X.setCell ⟨b,k,none⟩ x):=h.setCell (p:=⟨b,k,none⟩) m x
theorem uy{w X:World}(h:Below B w X)(k:B<=b)(m u z F I J L:Value):Below B w (((((((X.setCell ⟨b,0,none⟩ m).setCell ⟨b,1,none⟩ u).setCell ⟨b,2,none⟩ z).setCell ⟨b,3,none⟩ F).setCell ⟨b,4,none⟩ I).setCell ⟨b,5,none⟩ J).setCell ⟨b,6,none⟩ L):=
 dO (dO (dO (dO (dO (dO (dO h k 0 m) k 1 u) k 2 z) k 3 F) k 4 I) k 5 J) k 6 L
theorem ve{u0 u1 u2 u3 u4 u5 u6:Value}(k m u z F I J:Value)(h:w.heap[b]? =some (.cells #[u0,u1,u2,u3,u4,u5,u6] T (0,0))):(((((((w.setCell ⟨b,0,none⟩ k).setCell ⟨b,1,none⟩ m).setCell ⟨b,2,none⟩ u).setCell ⟨b,3,none⟩ z).setCell ⟨b,4,none⟩ F).setCell ⟨b,5,none⟩ I).setCell ⟨b,6,none⟩ J).heap[b]? =some (.cells #[k,m,u,z,F,I,J] T (0,0)):=
 aI _ b 6 _ _ J (aI _ b 5 _ _ I (aI _ b 4 _ _ F (aI _ b 3 _ _ z (aI _ b 2 _ _ u (aI _ b 1 _ _ m (aI _ b 0 _ _ k h))))))
theorem P8(w:World)(s:Nat)(g:G)(v:Int)(most:Nat)(h:gH w s g v most):Calls prog 22 #[vP s] w (Uh w g v most):=by
 obtain⟨_,pg,pt,rb,rp,rm,lb,lm,le,S,E,Sb,nl,hs,m1,m2,hG,cj,bi,a4,_⟩:=h;have bc:=hG.1;have bw:=G.bA bc;obtain⟨HF,_,cH⟩:=LS.Ce bc (az g) (λn=>dm) (most:=most) m1 m2;have Z:w.cell? ⟨s,0,none⟩=some (vP pg):=by rw[Lib.cell_of_heap hs];rfl
 have ab:w.cell? ⟨s,2,none⟩=some (vP rb):=by rw[Lib.cell_of_heap hs];rfl
 have bd:w.cell? ⟨s,3,none⟩=some (vP lb):=by rw[Lib.cell_of_heap hs];rfl
 have hD:=Gw HF;have b0:(az g).length=(aA g).length:=yw g;obtain⟨D,a3⟩:=rX (addN g most);have cw:=hid a3;unfold addN at a3;rw[a3]at hD;obtain⟨tp,ar⟩:=rX ((LS.all g (az g) most).2);rw[ar]at a4;have cC:=hid ar;obtain⟨Sv,ck⟩:=rX ((LS.all g (az g) most).1);rw[ck]at hD a4;have HG:=hid hG;have aE:=hid cj;have ca:=hid a4;have a2:=hid bc;obtain⟨nn,ac⟩:=rX g.n;have R:=λJ(hb:Below w.heap.size w J)=>jK J pg g v (HG.out.below hb HG.out.lt);rw[ac]at R;replace R:=hid R;have cA:=hid (λJ(hb:Below w.heap.size w J)=>SI J lb lm le nl Sb (tp:Nat) _ _ g.n D (ca.out.below hb) (JE bw) JD bw hD);have cT:=hid (λJ(hb:Below w.heap.size w J)=>UC J lb lm le nl Sb (tp:Nat) _ _ (ca.out.below hb));have cV:=hid (λJ(hb:Below w.heap.size w J)=>EB J pg g v (HG.out.below hb HG.out.lt));have hE:=λc(hc:g.av c)=>(bi.1 (c:Nat)).2 ⟨c,rfl,hc⟩;have HE:=hid hE;have b7:=hid bi;replace ac:=hid ac;replace b0:=hid b0;have M:=hid (rN Z (rN ab bd));clear hs hG cj bi a4 bc HF cH hD a3 ar ck hE;go_enter func22,ntmps22
 go_upto_region 1 with(fail);refine aB ?_;intro W hW;have HW:Below w.heap.size w W:=by rw[hW];exact be
 have Z:=af HW M.out.1;have bd:=af HW M.out.2.2;have ao:W.heap[w.heap.size]? =some (.cells #[rI 0,rI 0,rI 0,rI 0,rI 0,rI 0,rI 0] 64 (0,0)):=by rw[hW];exact heap_alloc_new _ _
 have ab:=af HW M.out.2.1;obtain⟨b2,bk⟩:=rX w.heap.size;have co:b2<W.heap.size:=by rw[<-bk];exact(Za.1 ao).1
 rw[bk]at ao;replace ao:=hid ao;replace M:=hid (rN Z (rN ab bd));replace HG:=hid (HG.out.below HW HG.out.lt);replace aE:=hid (aE.out.below HW);replace R:=hid (λJ(hb:Below W.heap.size W J)=>R.out J (ae HW hb));replace cA:=hid (λJ(hb:Below W.heap.size W J)=>cA.out J (ae HW hb));replace cT:=hid (λJ(hb:Below W.heap.size W J)=>cT.out J (ae HW hb));replace cV:=hid (λJ(hb:Below W.heap.size W J)=>cV.out J (ae HW hb));rw[bk];replace HW:=hid HW;clear hW ab Z bd;have a0:Below W.heap.size W W:=br;have u:Below W.heap.size W W.drew:=aj a0;have kS:W.drew.cell? ⟨s,0,none⟩=some (vP pg)/\W.drew.cell? ⟨s,3,none⟩=some (vP lb):=⟨af u M.out.1,af u M.out.2.2⟩;go_cut [3] (λsv wx=>∃O,sv=vP O/\W.heap.size<=O/\wx.heap[O]? =some (.cells #[rI (nn:Nat),rI 0,rI 0,rI 0,rI (D:Nat),rI (tp:Nat),rI v] 64 (0,0))/\Below W.heap.size W wx)
 case first=>
  have ct:W.heap.size<=W.heap.size:=Zi _;have cQ:s<W.heap.size:=ZF (a:=⟨s,0,none⟩) W M.out.1;have cI:=hid (λ(X:World)(k j:Nat)(x:Value)=>World.cell?_setCell_other (w:=X) (a:=⟨W.heap.size,k,none⟩) (b:=⟨s,j,none⟩) (v:=x) (by intro e;injection e with e1;omega))
  go_region_held3 (λJ=>J.cell? ⟨s,0,none⟩=some (vP pg)/\J.cell? ⟨s,3,none⟩=some (vP lb))
   (first
    |with_reducible exact kS
    |(simp only[cI.out];exact kS)
    |(simp only[b1.out];exact kS)
    |with_reducible exact⟨af (ah u) M.out.1,af (ah u) M.out.2.2⟩)
   (first
    |(go_at_call 51
      with_reducible refine(R.out _ (u)).mono ?_
      rintro e B ⟨rfl,I⟩;have u:Below W.heap.size W B:=ae (u) I;have kS:B.cell? ⟨s,0,none⟩=some (vP pg)/\B.cell? ⟨s,3,none⟩=some (vP lb):=⟨af u M.out.1,af u M.out.2.2⟩;have ag:W.heap.size<=B.heap.size:=u.size;have b1:=hid (λ(X:World)(k j:Nat)(x:Value)=>World.cell?_setCell_other (w:=X) (a:=⟨B.heap.size,k,none⟩) (b:=⟨s,j,none⟩) (v:=x) (by intro e;injection e with e1;omega)))
    |(go_at_call 51
      with_reducible refine(R.out _ (ah u)).mono ?_
      rintro e B ⟨rfl,I⟩;have F:B.heap[W.heap.size]? =some (.cells #[rI 0,rI 0,rI 0,rI 0,rI 0,rI 0,rI 0] 64 (0,0)):=(I.block _ rS).trans (heap_alloc_new _ _);have zz:=aR F;obtain⟨z0,z1,z2,z3,z4,z5,z6⟩:=zz;have y0:=Lib.frozen_of_heap F 0;have y1:=Lib.frozen_of_heap F 1;have y2:=Lib.frozen_of_heap F 2;have y3:=Lib.frozen_of_heap F 3;have y4:=Lib.frozen_of_heap F 4;have y5:=Lib.frozen_of_heap F 5;have y6:=Lib.frozen_of_heap F 6;have u:Below W.heap.size W B:=ae (ah u) I;have kS:B.cell? ⟨s,0,none⟩=some (vP pg)/\B.cell? ⟨s,3,none⟩=some (vP lb):=⟨af u M.out.1,af u M.out.2.2⟩;have ag:W.heap.size<=B.heap.size:=u.size;have b1:=hid (λ(X:World)(k j:Nat)(x:Value)=>World.cell?_setCell_other (w:=X) (a:=⟨B.heap.size,k,none⟩) (b:=⟨s,j,none⟩) (v:=x) (by intro e;injection e with e1;omega)))
    |(go_at_call 51
      with_reducible refine(R.out _ (aj (ah a0))).mono ?_
      rintro e B ⟨rfl,I⟩;have F:B.heap[W.heap.size]? =some (.cells #[rI 0,rI 0,rI 0,rI 0,rI 0,rI 0,rI 0] 64 (0,0)):=(I.block W.heap.size rS).trans (heap_alloc_new W _);have zz:=aR F;obtain⟨z0,z1,z2,z3,z4,z5,z6⟩:=zz;have y0:=Lib.frozen_of_heap F 0;have y1:=Lib.frozen_of_heap F 1;have y2:=Lib.frozen_of_heap F 2;have y3:=Lib.frozen_of_heap F 3;have y4:=Lib.frozen_of_heap F 4;have y5:=Lib.frozen_of_heap F 5;have y6:=Lib.frozen_of_heap F 6;have u:Below W.heap.size W B:=ae (aj (ah a0)) I;have kS:B.cell? ⟨s,0,none⟩=some (vP pg)/\B.cell? ⟨s,3,none⟩=some (vP lb):=⟨af u M.out.1,af u M.out.2.2⟩;have ag:W.heap.size<=B.heap.size:=u.size;have b1:=hid (λ(X:World)(k j:Nat)(x:Value)=>World.cell?_setCell_other (w:=X) (a:=⟨B.heap.size,k,none⟩) (b:=⟨s,j,none⟩) (v:=x) (by intro e;injection e with e1;omega)))
    |(go_at_call 52
      with_reducible refine(cA.out _ (u)).mono ?_
      rintro e wN ⟨rfl,I⟩;have F:wN.heap[W.heap.size]? =some (.cells #[rI 0,rI 0,rI 0,rI 0,rI 0,rI 0,rI 0] 64 (0,0)):=(I.block _ (Za.1 F).1).trans F;have zz:=aR F;obtain⟨z0,z1,z2,z3,z4,z5,z6⟩:=zz;have y0:=Lib.frozen_of_heap F 0;have y1:=Lib.frozen_of_heap F 1;have y2:=Lib.frozen_of_heap F 2;have y3:=Lib.frozen_of_heap F 3;have y4:=Lib.frozen_of_heap F 4;have y5:=Lib.frozen_of_heap F 5;have y6:=Lib.frozen_of_heap F 6;have u:Below W.heap.size W wN:=ae (u) I;have kS:wN.cell? ⟨s,0,none⟩=some (vP pg)/\wN.cell? ⟨s,3,none⟩=some (vP lb):=⟨af u M.out.1,af u M.out.2.2⟩)
    |(go_at_call 52
      with_reducible refine(cA.out _ (u)).mono ?_
      rintro e wN ⟨rfl,I⟩;have u:Below W.heap.size W wN:=ae (u) I;have kS:wN.cell? ⟨s,0,none⟩=some (vP pg)/\wN.cell? ⟨s,3,none⟩=some (vP lb):=⟨af u M.out.1,af u M.out.2.2⟩)
    |(go_at_call 52
      with_reducible refine(cA.out _ (ah u)).mono ?_
      rintro e wN ⟨rfl,I⟩;have F:wN.heap[B.heap.size]? =some (.cells #[rI 0,rI 0,rI 0,rI 0,rI 0,rI 0,rI 0] 64 (0,0)):=(I.block _ rS).trans (heap_alloc_new _ _);have zz:=aR F;obtain⟨z0,z1,z2,z3,z4,z5,z6⟩:=zz;have y0:=Lib.frozen_of_heap F 0;have y1:=Lib.frozen_of_heap F 1;have y2:=Lib.frozen_of_heap F 2;have y3:=Lib.frozen_of_heap F 3;have y4:=Lib.frozen_of_heap F 4;have y5:=Lib.frozen_of_heap F 5;have y6:=Lib.frozen_of_heap F 6;have u:Below W.heap.size W wN:=ae (ah u) I;have kS:wN.cell? ⟨s,0,none⟩=some (vP pg)/\wN.cell? ⟨s,3,none⟩=some (vP lb):=⟨af u M.out.1,af u M.out.2.2⟩)
    |(go_at_call 53
      with_reducible refine(cT.out _ (u)).mono ?_
      rintro e wT ⟨rfl,rfl⟩)
    |(go_at_call 53
      with_reducible refine(cT.out _ (ah u)).mono ?_
      rintro e wT ⟨rfl,rfl⟩)
    |(go_at_call 54
      with_reducible refine(cV.out _ (u)).mono ?_
      rintro e wT ⟨rfl,rfl⟩)
    |(go_at_call 54
      with_reducible refine(cV.out _ (ah u)).mono ?_
      rintro e wT ⟨rfl,rfl⟩))
  all_goals
   go_wp2;go_meet
   case rel=>first
    |(with_reducible refine⟨_,rfl,?_,heap_alloc_new _ _,ah u⟩
      exact u.size)
    |(with_reducible refine⟨_,rfl,?_,ve _ _ _ _ _ _ _ F,uy u ?_ _ _ _ _ _ _ _⟩
      .first|exact ct|exact ag
      .first|exact ct|exact ag)
 case rest=>
  obtain⟨O,rfl,a7,Q,HB⟩:=hcut;have Z:=af HB M.out.1;have Q:=hid Q;have HB:=hid HB;have cO:nn<=256:=by rw[<-ac.out];exact bw
  have cP:O≠b2:=om;clear u kS cA cT cV a0;go_wp2_with fail;refine(R.out _ HB.out).mono ?_;rintro e w2 ⟨rfl,bl⟩;have b4:=hid (ae HB.out bl);replace Q:=hid ((bl.block O (Za.1 Q.out).1).trans Q.out);clear bl HB R;go_wp2_with fail;go_loopw [37] (λiv wr=>∃(k:Nat),k<=nn/\iv=rI (k:Nat)/\wr.heap[O]? =some (.cells #[rI (nn:Nat),rI (gF g k:Nat),rI 0,rI 0,rI (D:Nat),rI (tp:Nat),rI v] 64 (0,0))/\Below W.heap.size W wr) (λiv _=>nn-(intOf iv).toNat)
  case atStart=>exact⟨0,Zw _,rfl,Q.out,b4.out⟩
  case round=>
   clear Q b4;obtain⟨k,hk,rfl,Q,hB⟩:=hrel;have Z:=af hB M.out.1;by_cases aa:k<nn
   .obtain⟨t,ht⟩:=rX ((!g.b k))
    have cF:=dQ wr pg g v k (HG.out.below hB HG.out.lt) (by rw[ac.out];exact aa);rw[ht]at cF;replace cF:=hid cF;obtain⟨fr,T⟩:=rX (gF g k);have cr:gF g (k+1)=fr+(if t=true then 1 else 0):=by rw[yL,T,ht]
    have cM:fr<=256:=by rw[<-T];exact Zg (Et g k) om
    rw[T]at Q;have HX:=hid Q;have P:=hid hB;have a1:=hid cr;clear Q hB cr T ht;go_wp2_with fail;refine cF.out.mono ?_;rintro e w3 ⟨rfl,bm⟩;have al:=(bm.block O (Za.1 HX.out).1).trans HX.out;have aw:=hid (ae P.out bm);clear bm cF HX P Z
    cases t with
    |false=>
     have hF:w3.heap[O]? =some (.cells #[rI (nn:Nat),rI (gF g (k+1):Nat),rI 0,rI 0,rI (D:Nat),rI (tp:Nat),rI v] 64 (0,0)):=by
      rw[a1.out];exact al
     replace hF:=hid hF;clear al a1;go_wp2;go_roundw
     case rel=>refine rR ?_;exact⟨k+1,om,by go_num,hF.out,aw.out⟩
     case measure=>exact rM
    |true=>
     obtain⟨_,z1,_⟩:=aR al;have y1:=Lib.frozen_of_heap al 1;have cb:=hid al;clear al;go_upto_region 8 with(fail);refine aB ?_;intro W4 bj
     have hF:W4.heap[O]? =some (.cells #[rI (nn:Nat),rI (gF g (k+1):Nat),rI 0,rI 0,rI (D:Nat),rI (tp:Nat),rI v] 64 (0,0)):=by
      rw[bj,a1.out];exact aI w3 O 1 _ _ _ cb.out
     have ax:Below W.heap.size W W4:=by rw[bj];exact dO aw.out a7 1 _
     replace hF:=hid hF;replace ax:=hid ax;clear cb a1 z1 y1 bj aw;go_wp2;go_roundw
     case rel=>refine rR ?_;exact⟨k+1,om,by go_num,hF.out,ax.out⟩
     case measure=>exact rM
   .obtain rfl:nn=k:=om
    have cs:gF g nn=gF g g.n:=by rw[ac.out]
    obtain⟨fr,T⟩:=rX (gF g nn);rw[T]at Q;have cy:=hid (T.symm.trans cs);have ab:=af hB M.out.2.1;have cN:=hid (kC wr rb rp rm S g v E (aE.out.below hB) b7.out.1);have HX:=hid Q;have P:=hid hB;clear Q hB T cs Z aa;go_wp2_with fail;refine cN.out.mono ?_;rintro e w5 ⟨A,mm,rfl,_,hI,ch,bo⟩;have cl:=hid ((bo.block O (Za.1 HX.out).1).trans HX.out)
    have b5:=hid (ae P.out bo);have cg:∀ad,A=some ad->ad.block≠O:=λad e=>by have:=(ch ad e).1;have:=(Za.1 HX.out).1;omega
    obtain⟨n2,bb⟩:=rX ((aA g).length);rw[bb]at hI⊢;have cG:n2<=256:=by rw[<-bb];exact bM a2.out
    have ai:=hid bb;have HI:=hid hI;have cv:=hid cg;clear bo hI ch cg bb HX P cN ab;go_wp2_with fail;go_loopw [61] (λiv wr=>∃(i:Nat),i<=n2/\iv=rI (i:Nat)/\wr.heap[O]? =some (.cells #[rI (nn:Nat),rI (fr:Nat),rI (i:Nat),rI (nY g i:Nat),rI (D:Nat),rI (tp:Nat),rI v] 64 (0,0))/\Below W.heap.size W wr/\Ints wr A n2 (λk=>(aA g).getD k 0)) (λiv _=>n2-(intOf iv).toNat)
    case atStart=>exact⟨0,Zw _,rfl,by simpa[nY]using cl.out,b5.out,HI.out⟩
    case round=>
     clear cl b5 HI;obtain⟨i,hi,rfl,Q,hB,hI⟩:=hrel;by_cases aa:i<n2
     .obtain⟨cp,bp⟩:=bW (g:=g) (i:=i) (by rw[ai.out];exact aa)
      obtain⟨ad,ci,_,hc⟩:=hI om;have bt:=hc i aa;simp only[cp]at bt;obtain⟨c,bq⟩:=rX (cf g i);rw[bq]at bt bp;have cD:=λwx=>aP (A:=A) (m:=mm) ci aa wx;obtain⟨L,hL⟩:∃L,E (c:Nat)=some L:=Option.ne_none_iff_exists'.1 (HE.out c bp);have ap:=Jv b7.out hL;have aq:=uD (g:=g) (k:=i) (by rw[ai.out];exact aa);rw[bq,<-ap]at aq;have bx:L.length<=256:=by rw[ap];exact Cm a2.out c
      have cE:=hid (Ha wr rb rp rm S g v E (aE.out.below hB) (c:Nat) L hL om);obtain⟨dk,bv⟩:=rX (nY g i)
      have cJ:dk<=65536:=by
       rw[<-bv];have:=sj a2.out (k:=i) (by rw[ai.out];omega);omega
      rw[bv]at Q aq;obtain⟨ln,bz⟩:=rX L.length;rw[bz]at aq bx;have ab:=af hB M.out.2.1;have HX:=hid Q;have P:=hid hB;have ce:=hid aq;have b9:=hid hI;have cB:=hid bz;clear Q hB aq hI hc cp bp bq ci hL ap bv bz Z;go_wp2_with fail;refine cE.out.mono ?_;rintro e w6 ⟨A2,m2,rfl,_,_,a8⟩;rw[cB.out];have am:=(a8.block O (Za.1 HX.out).1).trans HX.out
      have b6:=hid (ae P.out a8);have b8:=hid (b9.out.below a8);obtain⟨_,_,z2,z3,_⟩:=aR am;have y2:=Lib.frozen_of_heap am 2;have y3:=Lib.frozen_of_heap am 3;have cd:=hid am;clear am a8 HX P b9 cE ab cD bt;go_upto_region 15 with(fail);refine aB ?_;intro W7 a5
      have hF:W7.heap[O]? =some (.cells #[rI (nn:Nat),rI (fr:Nat),rI (i+1:Nat),rI (nY g (i+1):Nat),rI (D:Nat),rI (tp:Nat),rI v] 64 (0,0)):=by
       rw[a5,ce.out];exact aI _ O 3 _ _ _ (aI w6 O 2 _ _ _ cd.out)
      have ay:Below W.heap.size W W7:=by rw[a5];exact dO (dO b6.out a7 2 _) a7 3 _
      have aS:Ints W7 A n2 (λk=>(aA g).getD k 0):=by
       rw[a5];exact b8.out.iC (((Kept.refl [O] w6).setCell (p:=⟨O,2,none⟩) (.inl rS)).setCell (p:=⟨O,3,none⟩) (.inl rS)) (λ_ ad e=>by simp;exact cv.out ad e)
      replace hF:=hid hF;replace ay:=hid ay;replace aS:=hid aS;clear cd ce z2 z3 y2 y3 a5 b6 b8;go_wp2;go_roundw
      case rel=>refine rR ?_;exact⟨i+1,om,by go_num,hF.out,ay.out,aS.out⟩
      case measure=>exact rM
     .obtain rfl:n2=i:=om
      obtain⟨ed,a9⟩:=rX (nY g n2);have cq:ed=OG g:=by rw[<-a9,<-ai.out];exact Ei g
      have cL:ed<=65536:=by
       rw[<-a9];have:=sj a2.out (k:=n2) (by rw[ai.out];omega);omega
      rw[a9]at Q;obtain⟨z0,z1,z2,z3,z4,z5,z6⟩:=aR Q;have y3:=Lib.frozen_of_heap Q 3;have cn:=(hB.block b2 co).trans ao.out;obtain⟨eh,ba⟩:=rX (ed/2);have Hq:=hid (show((ed:Nat):Int)/2=((eh:Nat):Int)by rw[<-ba];simp);replace ba:=hid ba;have HX:=hid Q;have P:=hid hB;have bh:=hid cn;have cx:=hid cq;clear Q hB hI a9 cq cn Z aa;go_upto_region 17 with(fail);refine aB ?_;intro W8 a6
      have cm:W8.heap[O]? =some (.cells #[rI (nn:Nat),rI (fr:Nat),rI (n2:Nat),rI (eh:Nat),rI (D:Nat),rI (tp:Nat),rI v] 64 (0,0)):=by
       rw[a6,<-Hq.out];exact aI wr O 3 _ _ _ HX.out
      have U:W8.heap[b2]? =some (.cells #[rI 0,rI 0,rI 0,rI 0,rI 0,rI 0,rI 0] 64 (0,0)):=by
       rw[a6];exact(((Kept.refl [O] wr).setCell (p:=⟨O,3,none⟩) (.inl rS)).block b2 (Za.1 bh.out).1 so).trans bh.out
      have bg:Below W.heap.size W W8:=by rw[a6];exact dO P.out a7 3 _
      replace bg:=hid (ae HW.out bg);obtain⟨z0,z1,z2,z3,z4,z5,z6⟩:=aR cm;obtain⟨u0,u1,u2,u3,u4,u5,u6⟩:=aR U;have y0:=Lib.frozen_of_heap U 0;have y1:=Lib.frozen_of_heap U 1;have y2:=Lib.frozen_of_heap U 2;have y3:=Lib.frozen_of_heap U 3;have y4:=Lib.frozen_of_heap U 4;have y5:=Lib.frozen_of_heap U 5;have y6:=Lib.frozen_of_heap U 6;have e7:=hid (aR (ve (rI (nn:Nat)) (rI (fr:Nat)) (rI (n2:Nat)) (rI (eh:Nat)) (rI (D:Nat)) (rI (tp:Nat)) (rI v) U));clear cm U a6 HX bh P;go_wp2_with fail;have e7:=e7.out
      refine bodyPost_ret (v:=.agg #[rI (nn:Nat),rI (fr:Nat),rI (n2:Nat),rI (eh:Nat),rI (D:Nat),rI (tp:Nat),rI v]) (by simp[results,results22,go_sem,e7]) rfl ?_;exact⟨nn,fr,n2,eh,D,tp,rfl,⟨ac.out.symm,cy.out,by rw[b0.out,ai.out],by rw[<-ba.out,cx.out],cw.out.symm,cC.out.symm⟩,uy bg.out om _ _ _ _ _ _ _⟩
