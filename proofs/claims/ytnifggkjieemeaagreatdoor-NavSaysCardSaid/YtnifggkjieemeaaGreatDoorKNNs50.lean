/- Lemmas of this claim: RLv7a, RLv7b. -/
import Derived.Test.YtnifggkjieemeaaGreatDoorKNNs26
import Derived.Deep.CutBlock
set_option linter.unusedVariables false
set_option linter.unusedSimpArgs false
set_option maxHeartbeats 6400000
set_option maxRecDepth 1000000
open Go.Proofs.Tryz
namespace Go.Proofs.YtnifggkjieemeaaGreatDoor
open Go.Lib (hid)
open Go.RowKit Go.Sort FR Go.Lib
variable {Q:Exit->Act->World->Prop}{M:List Ed}{F:List Int}{mc mi:Nat}{L:Nat->Option C}{v11 v12:Value}{W w w':World}
theorem zf:∀l:List Nat,(LS.bF l).length<=l.length*l.length
 |[]=>by simp[LS.bF]
 |a::l=>by
  have:=zf l;unfold LS.bF;rw[Zp,Zr,List.length_cons,Nat.add_mul,Nat.mul_add];omega
def Nq(W w:World)(mc mi:Nat)(L:Nat->Option C)(F:List Int)(M:List Ed)(v11 v12:Value):Prop:=
 aL w W.heap.size v11 F/\bf w W.heap.size v12 M/\ApartL v11 v12/\kU w w mc mi L/\(∀q,v11.ownBlock=some q->q≠mc/\q≠mi)/\(∀q,v12.ownBlock=some q->q≠mc/\q≠mi)/\Below W.heap.size W w
theorem kU.self{T:List Nat}(h:kU W w mc mi L)(k:Kept T w w')(g:mc∉T/\mi∉T):kU w' w' mc mi L:=by
 obtain⟨⟨z,m⟩,⟨B,u⟩,_⟩:=h;exact⟨⟨z,m.kept k g.1⟩,⟨B,u.kept k g.2⟩,Kept.refl _ _⟩
theorem mZ{v:Value}(h:w.grownBy w' v.ownBlock):Kept v.ownBlock.toList w w':=⟨h.os,h.tape,h.output,h.size,λq k g=>h.block q k (λe=>g (by rw[<-e];simp))⟩
theorem Nq.below(h:Nq W w mc mi L F M v11 v12)(g:Below w.heap.size w w'):Nq W w' mc mi L F M v11 v12:=by
 obtain⟨k,m,u,z,B,I,J⟩:=h;exact⟨aL.below (B':=W.heap.size) k g,m.kept (T:=[]) (.of_below g) (λ_ _=>rS),u,z.self (T:=[]) (.of_below g) rS,B,I,ae J g⟩
theorem Nq.int{F B:List Int}{v11 v12 u:Value}(h:Nq W w mc mi L F M v11 v12)(Z:aL w' W.heap.size u B)(R:w.grownBy w' v11.ownBlock)(m:u.ownBlock=v11.ownBlock\/u.ownBlock=some w.heap.size):Nq W w' mc mi L B M u v12:=by
 obtain⟨T,I,J,O,z,U,P⟩:=h;have S:=mZ R;have Q:=O.lt;refine⟨Z,I.kept S (λq k g=>?_),J.grown m (λq k=>I.lt k),O.self S ⟨λg=>?_,λg=>?_⟩,λq k=>?_,U,below_grown P P.size T R⟩
 .rw[Zv]at g
  exact J q g k
 .rw[Zv]at g
  exact(z _ g).1 rfl
 .rw[Zv]at g
  exact(z _ g).2 rfl
 .rcases m with e|e
  .exact z q (by rw[<-e];exact k)
  .rw[e]at k;injection k with k;omega
theorem Nq.edge{M O:List Ed}{v11 v12 z:Value}(h:Nq W w mc mi L F M v11 v12)(Q:bf w' W.heap.size z O)(I:w.grownBy w' v12.ownBlock)(m:z.ownBlock=v12.ownBlock\/z.ownBlock=some w.heap.size):Nq W w' mc mi L F O v11 z:=by
 obtain⟨P,U,R,S,Z,B,T⟩:=h;have J:=mZ I;have hl:=S.lt;refine⟨World.ownsRow.kept (row:=v12.ownBlock) P I ?_,Q,(R.symm.grown m (λq g=>(World.ownsRow.lt P q g).2)).symm,S.self J ⟨λu=>?_,λu=>?_⟩,Z,λq g=>?_,T.grown I T.size (λk J=>(World.ownsRow.lt U k J).1)⟩
 .cases hv:v11.ownBlock with
  |none=>exact .inl rfl
  |some q=>exact .inr (λe=>R q hv e.symm)
 .rw[Zv]at u
  exact(B _ u).1 rfl
 .rw[Zv]at u
  exact(B _ u).2 rfl
 .rcases m with e|e
  .exact B q (by rw[<-e];exact g)
  .rw[e]at g;injection g with g;omega
def Rs(W w:World)(b ml me mn:Nat)(tp:Nat)(g:G)(R:RS):Prop:=
 ∃Sb c nl,oo w b ml me Sb (tp:Nat) (ic g R.S) nl (eZ g R.S)/\MapAt iK w mn (kL R.near) c/\mn∉Sb/\Kept [mn,ml,me] W w
theorem Rs.below{b m me u:Nat}{tp:Nat}{g:G}{R:RS}(h:Rs W w b m me u tp g R)(k:Below w.heap.size w w'):Rs W w' b m me u tp g R:=by
 obtain⟨z,c,P,B,I,J,O⟩:=h;exact⟨z,c,P,B.below k,I.below k,J,O.trans (.of_below k)⟩
def Jc(w:World)(b ml me:Nat)(tp:Nat)(g:G)(S:LS)(e:Ending)(w':World):Prop:=
 e=.returned (.bool (RS.run g.n tp (az g) S).some_)/\∃Sb nl,oo w' b ml me Sb (tp:Nat) (ic g (RS.run g.n tp (az g) S).S) nl (eZ g (RS.run g.n tp (az g) S).S)/\Kept [ml,me] w w'
theorem Rs.fin{z W w:World}{b J me O:Nat}{tp:Nat}{g:G}{S:LS}{i:Nat}(h:Rs W w b J me O tp g (oP g S tp i))(T:(aA g).length<=i)(m:Below z.heap.size z W)(L:z.heap.size<=O):Jc z b J me tp g S (.returned (.bool (oP g S tp i).some_)) w:=by
 obtain⟨P,c,Z,R,F,_,u⟩:=h;rw[V8 T]at*;refine⟨rfl,P,Z,R,⟨u.os.trans m.os,u.tape.trans m.tape,u.output.trans m.output,Zg m.size u.size,λk I U=>?_⟩⟩;refine(u.block k (Zf I m.size) ?_).trans (m.block k I);intro B;rcases Zd.1 B with e|e
 .omega
 .exact U e
def ku(k:Nat):Code->Option Code
 |.block j c=>if j=k then some (.block j c)else ku k c
 |.seq a b=>match ku k a with
  |some c=>some c
  |none=>ku k b
 |.loop c=>ku k c
 |.scope c=>ku k c
 |.cond _ a b=>match ku k a with
  |some c=>some c
  |none=>ku k b
 |_=>none
noncomputable def Xh(k:Nat):Code:=((f111.body.bind (ku k)).getD .skip)
theorem Ty(w0:World)(b ml me nl:Nat)(Sb:List Nat)(tp:Nat)(g:G)(R:RS)(bh:g.ok)(bm:I4 g R.S)(bt:NU R.S)(en:oo w0 b ml me Sb (tp:Nat) (ic g R.S) nl (eZ g R.S))(A:Option Addr)(n0 m0:Nat)(em:Ints w0 A n0 (λk=>(aA g).getD k 0))(d5:(aA g).length=n0)(n:Nat)(A1:Option Addr)(nE m1:Nat)(el:bP w0 A1 (rH R.S g.n n))(bg:(rH R.S g.n n).length=nE){s2 s3 s4 s5 s6 s7 eL ib id ie ih ii gd gf gg gh gi gj gl gm gn gp gr gs gu gv gw gx gA gC gE gO gR gS gT g0 g1 g2 g3 g4 g5 g6 g7 g8 g9 hd he hf hg hh hi hk hl hm ho hp hr hs hv hw hz hC hD hE hG hH hI hJ hK hM hN hO hR hT hU hV hW ij im io ip ir it iu iv ix iy iz iL iS i0 i1 i2 eM eN eR eS eV eW eX eY e0 e3 e4 e5 e6 e7 e8 e9 fa fb fc fd ff fg fh fi fj fk fl fm fn fp fs ft fv fz fL fN fR fS fW fX fY f0 f1 f2 f3 f4 f5 f6 f7 f8 f9 ga gc bw bx bz b0 b5 b6 b7 b8 b9 ca cb cd ce cg ch ci cj ck cl cm cn co cp cq cr cs ct cw cx cy cB cD cE cF cG cH cI cJ cL cM cN cO cQ cR cS cT cU cV cW cX cY c0 c1 c2 c4 c5 c6 c7 c8 c9 da db dd de dg dj dk dl dn dp dq dr ds dt du dv dx dy:Value}(hQ:∀(u11 u12 u13 u14 u15 u16 u17 u18 u84 u85 u86 u87 u88 u89 u90 u91 u92 u93 u94 u95 u96 u97 u98 u99 u100 u101 u102 u103 u104 u105 u106 u107 u108 u109 u110 u111 u112 u113 u114 u115 u116 u117 u118 u119 u120 u121 u122 u123 u124 u125 u126 u127 u128 u129 u130 u131 u132 u133 u134 u135 u136 u137 u138 u139 u140 u141 u142 u143 u144 u145 u146 u147 u148 u149 u150 u151 u152:Value)(w':World),aL w' w0.heap.size u11 ((R.S.more g.n n).map λp=>((p.1:Nat):Int))/\bf w' w0.heap.size u12 ((R.S.more g.n n).map (Mo R.S n))/\Below w0.heap.size w0 w'->Q .normal ⟨#[vP b,.slice A n0 m0,s2,s3,s4,s5,s6,s7,rI (n:Nat),.slice A1 nE m1,eL,u11,u12,u13,u14,u15,u16,u17,u18,gd,gf,gg,gh,gi,gj,gl,gm,gn,gp,gr,gs,gu,gv,gw,gx,gA,gC,gE,gO,gR,gS,gT,g0,g1,g2,g3,g4,g5,g6,g7,g8,g9,hd,he,hf,hg,hh,hi,hk,hl,hm,ho,hp,hr,hs,hv,hw,hz,hC,hD,hE,hG,hH,hI,hJ,hK,hM,hN,hO,hR,hT,hU,hV,hW,u84,u85,u86,u87,u88,u89,u90,u91,u92,u93,u94,u95,u96,u97,u98,u99,u100,u101,u102,u103,u104,u105,u106,u107,u108,u109,u110,u111,u112,u113,u114,u115,u116,u117,u118,u119,u120,u121,u122,u123,u124,u125,u126,u127,u128,u129,u130,u131,u132,u133,u134,u135,u136,u137,u138,u139,u140,u141,u142,u143,u144,u145,u146,u147,u148,u149,u150,u151,u152,bw,bx,bz,b0,b5,b6,b7,b8,b9,ca,cb,cd,ce,cg,ch,ci,cj,ck,cl,cm,cn,co,cp,cq,cr,cs,ct,cw,cx,cy,cB,cD,cE,cF,cG,cH,cI,cJ,cL,cM,cN,cO,cQ,cR,cS,cT,cU,cV,cW,cX,cY,c0,c1,c2,c4,c5,c6,c7,c8,c9,da,db,dd,de,dg,dj,dk,dl,dn,dp,dq,dr,ds,dt,du,dv,dx,dy],[]⟩ w'):Code.wp prog (Xh 4) Q ⟨#[vP b,.slice A n0 m0,s2,s3,s4,s5,s6,s7,rI (n:Nat),.slice A1 nE m1,eL,.slice none 0 0,.slice none 0 0,rI 0,ib,id,ie,ih,ii,gd,gf,gg,gh,gi,gj,gl,gm,gn,gp,gr,gs,gu,gv,gw,gx,gA,gC,gE,gO,gR,gS,gT,g0,g1,g2,g3,g4,g5,g6,g7,g8,g9,hd,he,hf,hg,hh,hi,hk,hl,hm,ho,hp,hr,hs,hv,hw,hz,hC,hD,hE,hG,hH,hI,hJ,hK,hM,hN,hO,hR,hT,hU,hV,hW,ij,im,io,ip,ir,it,iu,iv,ix,iy,iz,iL,iS,i0,i1,i2,eM,eN,eR,eS,eV,eW,eX,eY,e0,e3,e4,e5,e6,e7,e8,e9,fa,fb,fc,fd,ff,fg,fh,fi,fj,fk,fl,fm,fn,fp,fs,ft,fv,fz,fL,fN,fR,fS,fW,fX,fY,f0,f1,f2,f3,f4,f5,f6,f7,f8,f9,ga,gc,bw,bx,bz,b0,b5,b6,b7,b8,b9,ca,cb,cd,ce,cg,ch,ci,cj,ck,cl,cm,cn,co,cp,cq,cr,cs,ct,cw,cx,cy,cB,cD,cE,cF,cG,cH,cI,cJ,cL,cM,cN,cO,cQ,cR,cS,cT,cU,cV,cW,cX,cY,c0,c1,c2,c4,c5,c6,c7,c8,c9,da,db,dd,de,dg,dj,dk,dl,dn,dp,dq,dr,ds,dt,du,dv,dx,dy],[]⟩ w0:=by
 conv=>arg 2;whnf
 have hn:=G.bA bh;have ia:n0<=256:=by rw[<-d5];exact bM bh
 have al:nE<=256:=by rw[<-bg];exact Zg (sP R.S g.n n) hn
 have d6:(R.S.nb g.n n).length=nE:=by rw[<-bg,pI]
 have ab:=LS.pQ R.S g.n n;obtain⟨nb,ay⟩:=rX (R.S.nb g.n n);rw[ay]at d6 ab;have dT:=hid el;have J:=hid (rN bg (rN ay (rN d6 (rN ab (rN bm bt)))));have HL:=hid (rN en trivial);have h7:Below w0.heap.size w0 w0:=br;have hY:=hid bh;have Hn:=hid (rN hn d5);have HQ:=hid hQ;clear el bg ay d6 ab bm bt bh hn d5 en hQ;go_wp2_with fail;obtain⟨U,rfl⟩:∃U:World,U=w0:=⟨_,rfl⟩
 go_loopw [11,12,13] (λa0 a4 kv wr=>∃(a:Nat)(P:List (Nat×Nat)),kv=rI a/\a<=nE/\LS.bF nb=P++LS.bF (nb.drop a)/\aL wr U.heap.size a0 ((aX R.S n P).map λp=>((p.1:Nat):Int))/\bf wr U.heap.size a4 ((aX R.S n P).map (Mo R.S n))/\ApartL a0 a4/\Below U.heap.size U wr) (λ_ _ kv _=>nE-(intOf kv).toNat)
 case atStart=>exact⟨0,[],rfl,om,rfl,aL.nil _ _,bf.nil _ _,λq hq=>(nomatch hq),br⟩
 case round=>
  obtain⟨a,P,rfl,ha,hP,eo,ep,et,hB⟩:=hrel;have HP:=hid hP;have HO:=hid (rN eo (rN ep et));clear hP eo ep et;by_cases bp:a<nE
  .obtain⟨x,hx⟩:∃x,(rH R.S g.n n)[a]? =some x:=⟨_,Zc (by rw[J.out.1];exact bp)⟩
   obtain⟨t,jj,eJ,d8,d9,ea,eb⟩:=qU hx;obtain⟨gb,hA,_⟩:=dT.out.get hx
   have bd:∀w',Below U.heap.size U w'->w'.cell? ⟨gb,a*4,none⟩=some (rI x.to_)/\w'.cell? ⟨gb,a*4+1,none⟩=some (rI x.c.s)/\w'.cell? ⟨gb,a*4+2,none⟩=some (rI x.c.d):=λw' hb=>by
    obtain⟨h5,I,q1,q2,q3,_⟩:=(dT.out.below hb).get hx;rw[hA]at I;injection I with I;injection I with I
    subst I;exact⟨q1,q2,q3⟩
   have i5:=λwx=>gZ (m:=m1) hA bp wx;have aw:=J.out.2.2.2.2.2 _ _ _ _ d8;have bi:=J.out.2.2.2.2.1 n t (by rw[d8];simp);obtain⟨xt,⟨xs,xd⟩,xm⟩:=x;simp only at eJ aw eb bd;subst eJ;rw[J.out.2.1]at ea;obtain⟨a1,a2,a3⟩:=bd wr hB;have HA:=hid hA;have hX:=hid bd;have Ht:=hid (rN ea (rN eb (rN aw (rN bi d9))));have d0:=ae h7 hB;have cP:=hid (VS wr b ml me nl Sb (tp:Nat) g R.S hY.out J.out.2.2.2.2.1 J.out.2.2.2.2.2 (HL.out.1.below d0) A n0 m0 (em.below d0) Hn.out.2 t n bi.2.1 d9 (Ne.symm bi.2.2));clear hx d8 d9 ea eb aw bi bd hA;go_wp2_with fail;(with_reducible refine cP.out.mono ?_);rintro e w5 ⟨mc,mi,L,rfl,bj,ew,ey,ez,i6,i7,i8,ba⟩;have a5:=hid (rN (aL.below (B':=U.heap.size) HO.out.1 ba) (rN (HO.out.2.1.kept (T:=[]) (.of_below ba) (λ_ _=>rS)) HO.out.2.2));have h6:=ae hB ba;have eu:(∀q,u11.ownBlock=some q->q<wr.heap.size)/\(∀q,u12.ownBlock=some q->q<wr.heap.size):=⟨λq hq=>(World.ownsRow.lt HO.out.1 q hq).2,λq hq=>HO.out.2.1.lt hq⟩
   have ac:=hid (rN bj (rN ew (rN ey ez)));have er:=Bo HP.out Ht.out.1;have jk:IntKind.i64.wrap ((a:Int)+1)=((a+1:Nat):Int):=by rw[IntWalk.i64_in _ om];omega
   clear bj ew ey ez HP HO a1 a2 a3 ba cP d0;go_wp2_with fail;obtain⟨wv,rfl⟩:∃wv:World,wv=w5:=⟨_,rfl⟩
   have eI:Nq U wv mc mi L ((aX R.S n P).map λp=>((p.1:Nat):Int)) ((aX R.S n P).map (Mo R.S n)) u11 u12:=by
    refine⟨a5.out.1,a5.out.2.1,a5.out.2.2,ac.out.1,λq hq=>?_,λq hq=>?_,h6⟩
    .have:=eu.1 q hq;omega
    .have:=eu.2 q hq;omega
   clear a5;go_loopw [11,12,16] (λa0 a4 kv wr=>∃(j:Nat)(P:List (Nat×Nat)),kv=rI ((a+1+j:Nat):Int)/\a+1+j<=nE/\LS.bF nb=P++((((nb.drop (a+1)).drop j).map λb=>(t,b))++LS.bF (nb.drop (a+1)))/\Nq U wr mc mi L ((aX R.S n P).map λp=>((p.1:Nat):Int)) ((aX R.S n P).map (Mo R.S n)) a0 a4) (λ_ _ kv _=>nE-(intOf kv).toNat)
   case atStart=>exact⟨0,P,rfl,om,er,eI⟩
   case round=>
    obtain⟨j,P,rfl,hj,hP,hS⟩:=hrel;clear er eI;have HP:=hid hP;have HS:=hid hS;clear hP hS;obtain⟨bb,d2⟩:=rX (a+1+j);rw[d2]at hj⊢;have Z:=hid d2;clear d2;by_cases bq:bb<nE
    .obtain⟨y,hy⟩:∃y,(rH R.S g.n n)[bb]? =some y:=⟨_,Zc (by rw[J.out.1];exact bq)⟩
     obtain⟨F,r1,r2,r3,r4,r5,r6⟩:=qU hy;have d1:=HS.out.2.2.2.2.2.2;obtain⟨h5,I,b1,b2,b3,b4⟩:=(dT.out.below d1).get hy;have i3:=λwx=>gZ (m:=m1) I bq wx;rw[HA.out]at I;injection I with I;injection I with I
     subst I;have d7:=J.out.2.2.2.2.2 _ _ _ _ r3;obtain⟨yt,⟨ys,yd⟩,ym⟩:=y;simp only at b1 b2 b3 b4 r2 d7 r6;subst r2;rw[J.out.2.1,<-Z.out]at r5;have Hq:=hid (rN r5 r6);obtain⟨a1,a2,a3⟩:=hX.out wr d1;have aw:=Ht.out.2.2.1;have hZ:=hid (rN aw d7);have cA:=hid (λw=>tK xs xd ys yd w (by unfold aT;omega) (by unfold aT;omega) (by unfold aT;omega) (by unfold aT;omega));have jo:gb<wr.heap.size:=ZF _ _ a1;have ee:=λo=>aD (o:=o) a2;have ef:=λo=>aD (o:=o) a3;have eg:=λo=>aD (o:=o) b2;have eh:=λo=>aD (o:=o) b3;have n1:=World.new_ne wr _ a2;clear hy r3 r4 r5 r6 aw d7 d1 b4;go_upto_region 23 with(fail);go_cut [17]from 104 to 152 (λs wx=>∃D,s=vP D/\wr.heap.size<=D/\wx.cell? ⟨D,0,none⟩=some (rI (xs+ys))/\wx.cell? ⟨D,1,none⟩=some (rI (xd+yd))/\Below wr.heap.size wr wx)
     case first=>
      go_region_held3 (λw'=>w'.cell? ⟨gb,a*4+1,none⟩=some (rI xs)/\w'.cell? ⟨gb,a*4+2,none⟩=some (rI xd)/\w'.cell? ⟨gb,bb*4+1,none⟩=some (rI ys)/\w'.cell? ⟨gb,bb*4+2,none⟩=some (rI yd))
       (first
        |(go_keep;done)
        |(go_split_ands
          exact⟨af B au,af B au,af B au,af B au⟩)
        |(go_split_ands
          exact⟨gQ (by have:=B.size;simp;simp at this;omega) au,gQ (by have:=B.size;simp;simp at this;omega) au,gQ (by have:=B.size;simp;simp at this;omega) au,gQ (by have:=B.size;simp;simp at this;omega) au⟩)
        |(go_split_ands
          refine⟨?_,?_,?_,?_⟩<;>(go_keep;done)))
       (first
        |(go_at_call 85
          refine(cA.out _).mono ?_;rintro e wP ⟨rfl,B⟩;obtain⟨ev,eA⟩:=Og B))
      .have a8:=hid B
       clear ev eA B ee ef eg eh;go_wp2;go_meet
       case rel=>exact⟨_,rfl,a8.out.size,by go_simp,by go_simp,ah (ae (aj br) a8.out)⟩
      .have a8:=hid B
       have q1:wP.cell? ⟨wr.heap.size,0,none⟩=some (rI 0):=af B (by go_simp);have q2:wP.cell? ⟨wr.heap.size,1,none⟩=some (rI 0):=af B (by go_simp);have Q:=hid (tX (x:=rI (xs+ys)) (y:=rI (xd+yd)) q1 q2);clear ev eA B q1 q2 ee ef eg eh;go_wp2;go_meet
       case rel=>exact⟨_,rfl,Zi _,Q.out.1,Q.out.2,((ae (aj (ah br)) a8.out).setCell rS _).setCell rS _⟩
     case rest=>
      obtain⟨D,rfl,i4,M,aq,bc⟩:=hcut;obtain⟨wd,rfl⟩:∃z:World,z=wc:=⟨_,rfl⟩;have a6:=hid (HS.out.below bc);have a1:=af bc a1;have b1:=af bc b1;have lD:D<wd.heap.size:=ZF _ _ M;have bo:=a6.out.2.2.2.1.is F wd br;obtain⟨vs,vd,ed,eK,eC⟩:=a6.out.2.2.2.1.cost F;have eE:=eC wd br;obtain⟨tb,ax⟩:=rX ((L F).isSome);rw[ax]at bo
      have ao:aT vs/\aT vd:=by
       cases hL:L F with
       |none=>obtain⟨rfl,rfl⟩:=eK hL;exact⟨by unfold aT;omega,by unfold aT;omega⟩
       |some c=>
        have h:=ac.out.2.2.2 F c hL;rw[ed c hL]at h;simp only at h;unfold aT;omega
      have ag:aT (xs+ys)/\aT (xd+yd):=by have:=hZ.out;unfold aT;omega
      obtain⟨tt,ec⟩:∃z,(!tb||decide (C.cmp ⟨xs+ys,xd+yd⟩ ⟨vs,vd⟩<0))=z:=⟨_,rfl⟩;have aa:=LS.Fa (S:=R.S) (n:=n) (a:=t) (b:=F) (done:=L) (λc hc=>ac.out.2.1 F c hc) (λhn c=>ac.out.2.2.1 F hn c);rw[Ht.out.2.1,Hq.out.2]at aa
      have eF:(tt=true->R.S.iI n t F)/\(tt=false->¬R.S.iI n t F):=by
       rw[aa,<-ec];cases hL:L F with
       |none=>rw[hL]at ax;subst ax;simp
       |some d=>
        rw[hL]at ax;subst ax;rw[ed d hL];simp only[Option.isSome_some,Bool.not_true,Bool.false_or,decide_eq_true_eq,decide_eq_false_iff_not];exact⟨λh d' d4=>by injection d4 with d4;rw[<-d4];exact C.dP.1 h,λh h2=>h (C.dP.2 (h2 _ rfl))⟩
      have a9:=hid eF;have ej:=hid ec;have ek:∀q,u11.ownBlock=some q->q≠D:=λq hq=>by have:=(World.ownsRow.lt HS.out.1 q hq).2;omega
      have bv:=zt HP.out Hq.out.1;have ad:=hid bv
      have i9:(aX R.S n P).length<=70000:=by
       have h1:=List.length_filter_le (λp:Nat×Nat=>@decide (R.S.iI n p.1 p.2) (Classical.propDecidable _)) P;have h2:=zf nb;rw[HP.out,Zp,J.out.2.2.1]at h2;have h3:nE*nE<=256*256:=Nat.mul_le_mul al al;have h4:(aX R.S n P).length<=P.length:=h1;omega
      have am:IntKind.i64.wrap ((bb:Int)+1)=((a+1+(j+1):Nat):Int):=by rw[IntWalk.i64_in _ om];have:=Z.out;omega
      clear bc eC eK ed ax ec aa eF bv HS HP a2 a3 b2 b3 cA ee ef eg eh n1;go_upto_region 25 with(fail);go_cut [137]from 104 to 152 (λs wx=>s=.bool tt/\Below wd.heap.size wd wx)
      case first=>
       cases tb with
       |false=>
        have ht:tt=true:=by rw[<-ej.out];rfl
        subst ht;go_wp2;go_meet
        case rel=>exact⟨rfl,be⟩
       |true=>
        have cC:=ry (xs+ys) (xd+yd) vs vd;obtain⟨cv,d3⟩:∃cv,C.cmp ⟨xs+ys,xd+yd⟩ ⟨vs,vd⟩=cv:=⟨_,rfl⟩;have ht:tt=decide (cv<0):=by rw[<-ej.out,d3];rfl
        rw[d3]at cC;have cC:=hid (λw=>cC w ag.1 ag.2 ao.1 ao.2);have h0:=hid ht;clear d3 ht ag ao;go_wp2_with fail;(with_reducible refine(cC.out _).mono ?_);rintro e w8 ⟨rfl,h9⟩;go_wp2;go_meet
        case rel=>exact⟨by rw[h0.out],h9⟩
      case rest=>
       obtain⟨rfl,ar⟩:=hcut;obtain⟨we,rfl⟩:∃z:World,z=wc:=⟨_,rfl⟩;have ap:=hid (a6.out.below ar);have a1:=af ar a1;have b1:=af ar b1;have M:=af ar M;have aq:=af ar aq;have jn:D<we.heap.size:=ZF _ _ M;clear a6 bo eE ao ag ar lD;cases tt with
       |false=>
        have e1:aX R.S n (P++[(t,F)])=aX R.S n P:=by unfold aX;rw[List.filter_append];simp[a9.out.2 rfl]
        have hF:=ap.out;rw[<-e1]at hF;have HF:=hid hF;clear hF e1 a9 ap a1 b1 M aq;go_wp2;go_roundw
        case rel=>first|exact⟨j+1,_,by simp[am],by have:=Z.out;omega,ad.out,HF.out⟩|((repeat apply Exists.intro);exact⟨⟨j+1,_,by simp[am],by have:=Z.out;omega,ad.out,HF.out⟩,rfl⟩)
        case measure=>simp[intOf];have:=Z.out;omega
       |true=>
        have e1:aX R.S n (P++[(t,F)])=aX R.S n P++[(t,F)]:=by unfold aX;rw[List.filter_append];simp[a9.out.1 rfl]
        have ei:=hid e1;clear e1 a9
        go_wp2_with (first
         |(at_builtin
           refine dI _ rfl _ _ rfl U.heap.size u11 ((aX R.S n P).map λp=>((p.1:Nat):Int)) ((t:Nat):Int) rfl (ap.out.1.alloc _) ⟨we.heap.size,0,none⟩ rfl (dh _ _ _) (by rw[Zr];omega) (by have:=ap.out.2.2.2.2.2.2.size;simp;omega) ?_;intro a0 wf aE O bk;have a7:=hid ((ap.out.below (ah br)).int aE O bk);have M:=aH (mZ O) (by rw[Zv];exactλe=>ek D e rfl) (aD M);have aq:=aH (mZ O) (by rw[Zv];exactλe=>ek D e rfl) (aD aq))
         |(at_builtin
           refine vM _ rfl _ _ rfl U.heap.size u12 ((aX R.S n P).map (Mo R.S n)) ⟨(F:Nat),⟨xs+ys,xd+yd⟩,(n:Nat)⟩ rfl (a7.out.2.1.kept (T:=[]) (.of_below (ah br)) (λ_ _=>rS)) ⟨wf.heap.size,0,none⟩ rfl (λj u hu=>by rw[Addr.add_lit,Zx];exact dH (alloc_at wf _ rfl) j u hu) (by rw[Zr];omega) (by have:=a7.out.2.2.2.2.2.2.size;simp;omega) ?_;intro a4 wg aS ai bl))
        have hF:=a7.out.below (ah (o:=Obj.cells #[rI (F:Nat),rI (xs+ys),rI (xd+yd),rI (n:Nat)] 192 (0,0)) br);have hF:=hF.edge aS ai bl;have e2:(⟨(F:Nat),⟨xs+ys,xd+yd⟩,(n:Nat)⟩:Ed)=Mo R.S n (t,F):=by unfold Mo;simp only;rw[Ht.out.2.1,Hq.out.2];rfl
        rw[e2,<-List.map_singleton (f:=Mo R.S n),<-List.map_append,<-ei.out]at hF;rw[show((aX R.S n P).map λp=>((p.1:Nat):Int))++[((t:Nat):Int)]=(aX R.S n (P++[(t,F)])).map λp=>((p.1:Nat):Int)by rw[ei.out,List.map_append];rfl]at hF;have HF:=hid hF;clear hF e2 a7 ap aS ai bl aE O bk M aq a1 b1;go_wp2;go_roundw
        case rel=>first|exact⟨j+1,_,by simp[am],by have:=Z.out;omega,ad.out,HF.out⟩|((repeat apply Exists.intro);exact⟨⟨j+1,_,by simp[am],by have:=Z.out;omega,ad.out,HF.out⟩,rfl⟩)
        case measure=>simp[intOf];have:=Z.out;omega
    .have es:=Km HP.out (by rw[J.out.2.2.1];have:=Z.out;omega)
     have hF:aL wr U.heap.size u11 ((aX R.S n P).map λp=>((p.1:Nat):Int))/\bf wr U.heap.size u12 ((aX R.S n P).map (Mo R.S n))/\ApartL u11 u12/\Below U.heap.size U wr:=⟨HS.out.1,HS.out.2.1,HS.out.2.2.1,HS.out.2.2.2.2.2.2⟩;have HF:=hid (rN es hF);clear es hF HS HP;go_wp2;go_roundw
     case rel=>first|exact⟨a+1,_,by go_num,om,HF.out⟩|((repeat apply Exists.intro);exact⟨⟨a+1,_,by go_num,om,HF.out⟩,rfl⟩)
     case measure=>exact rM
  .obtain rfl:a=nE:=om
   have h8:=Kl HP.out (by rw[J.out.2.2.1];exact Zi _)
   have hF:aL wr U.heap.size u11 ((R.S.more g.n n).map λp=>((p.1:Nat):Int))/\bf wr U.heap.size u12 ((R.S.more g.n n).map (Mo R.S n))/\Below U.heap.size U wr:=by
    have e:aX R.S n P=R.S.more g.n n:=by rw[h8,<-J.out.2.1,wW]
    rw[<-e];exact⟨HO.out.1,HO.out.2.1,hB⟩
   have HF:=hid hF;clear hF HO HP hB;go_wp2;apply HQ.out;exact HF.out
theorem Tz(w0 wB:World)(b ml me nl mn:Nat)(Sb:List Nat)(tp:Nat)(g:G)(R:RS)(eN:g.ok)(bp:I4 g R.S)(n:Nat)(F:Option Addr)(lm d4:Nat)(a7:Option Addr)(d5:Nat)(eC:(R.S.more g.n n).length=lm)(iz:lm<=70000)(bk:Ints wB F lm (λk=>((R.S.more g.n n).map λp=>((p.1:Nat):Int)).getD k 0))(bh:bP wB a7 ((R.S.more g.n n).map (Mo R.S n)))(aw:∀ad,F=some ad->ad.block∉[mn,ml,me])(ar:∀ad,a7=some ad->ad.block∉[mn,ml,me])(el:Kept [mn,ml] wB w0)(eK:mn<w0.heap.size)(iL:mn≠me)(en:oo w0 b ml me Sb (tp:Nat) (ic g (R.S.part n tp (TK (R.S.more g.n n) 0))) nl (eZ g (R.S.part n tp (TK (R.S.more g.n n) 0))))(eE:mn∉Sb){s1 s2 s3 s4 s5 s6 s7 s9 eV eW eX eY e0 e8 fa fm iy gj gC gE gO gR gS gT g0 g1 g2 g3 g4 g5 g6 g7 g8 g9 ha hc hd he hf hg hh hi hj hl ho hp hr hs ht hu hv hw hx hy hA hB hC hD hE hF hG hH hI hJ hM hN hO hR hS hT hV hX hY hZ h0 h1 h2 h3 h4 h5 h6 h7 h8 h9 ia ib id ie ih ii ij im io ip ir bv bw bx bz b0 b1 b2 b3 b4 b5 b6 b7 b8 b9 ca cb cd ce cg ch ci cj ck cl cm cn co cp cq cr cs ct cv cw cx cy cA cB cC cD cE cF cG cH cI cJ cL cM cN cO cP cQ cR cS cT cU cV cW cX c0 c1 c2 c4 c5 c6 c7 c8 c9 da db dd de dg dj dk dl dn dp dq e9 fb fc fd ff fg fh fi fj fk fl fn fp fs ft fv fz fL fN fR fS fW fX fY f1 f2 f3 f4 f5 f6 f7 f8 f9 ga gb gc gd gf gg gh gi gl gm gn gp gr gs gu gv gw gA dr:Value}(hQ:∀(u20 u21 u179 u180 u181 u182 u183 u184 u185 u186 u187 u188 u189 u190 u191 u192 u193 u194 u195 u196 u197 u198 u199 u200 u201 u202 u203 u204 u205 u206 u207 u208 u209 u210 u211 u212 u213 u214 u215 u216 u217 u218 u219 u220 u221 u222 u223 u224 u225 u226 u227 u228 u229:Value)(J:World),(∃Sc ai,oo J b ml me Sc (tp:Nat) (ic g (R.S.part n tp (TK (R.S.more g.n n) lm))) ai (eZ g (R.S.part n tp (TK (R.S.more g.n n) lm)))/\mn∉Sc/\Kept [me] w0 J)->Q .normal ⟨#[vP b,s1,s2,s3,s4,s5,s6,s7,rI (n:Nat),s9,eV,.slice F lm d4,.slice a7 lm d5,eW,eX,eY,e0,e8,fa,fm,u20,u21,gj,gC,gE,gO,gR,gS,gT,g0,g1,g2,g3,g4,g5,g6,g7,g8,g9,ha,hc,hd,he,hf,hg,hh,hi,hj,hl,ho,hp,hr,hs,ht,hu,hv,hw,hx,hy,hA,hB,hC,hD,hE,hF,hG,hH,hI,hJ,hM,hN,hO,hR,hS,hT,hV,hX,hY,hZ,h0,h1,h2,h3,h4,h5,h6,h7,h8,h9,ia,ib,id,ie,ih,ii,ij,im,io,ip,ir,bv,bw,bx,bz,b0,b1,b2,b3,b4,b5,b6,b7,b8,b9,ca,cb,cd,ce,cg,ch,ci,cj,ck,cl,cm,cn,co,cp,cq,cr,cs,ct,cv,cw,cx,cy,cA,cB,cC,cD,cE,cF,cG,cH,cI,cJ,cL,cM,cN,cO,cP,cQ,cR,cS,cT,cU,cV,cW,cX,c0,c1,c2,c4,c5,c6,c7,c8,c9,da,db,dd,de,dg,dj,dk,dl,dn,dp,dq,u179,u180,u181,u182,u183,u184,u185,u186,u187,u188,u189,u190,u191,u192,u193,u194,u195,u196,u197,u198,u199,u200,u201,u202,u203,u204,u205,u206,u207,u208,u209,u210,u211,u212,u213,u214,u215,u216,u217,u218,u219,u220,u221,u222,u223,u224,u225,u226,u227,u228,u229,dr],[]⟩ J):Code.wp prog (Xh 10) Q ⟨#[vP b,s1,s2,s3,s4,s5,s6,s7,rI (n:Nat),s9,eV,.slice F lm d4,.slice a7 lm d5,eW,eX,eY,e0,e8,fa,fm,rI 0,iy,gj,gC,gE,gO,gR,gS,gT,g0,g1,g2,g3,g4,g5,g6,g7,g8,g9,ha,hc,hd,he,hf,hg,hh,hi,hj,hl,ho,hp,hr,hs,ht,hu,hv,hw,hx,hy,hA,hB,hC,hD,hE,hF,hG,hH,hI,hJ,hM,hN,hO,hR,hS,hT,hV,hX,hY,hZ,h0,h1,h2,h3,h4,h5,h6,h7,h8,h9,ia,ib,id,ie,ih,ii,ij,im,io,ip,ir,bv,bw,bx,bz,b0,b1,b2,b3,b4,b5,b6,b7,b8,b9,ca,cb,cd,ce,cg,ch,ci,cj,ck,cl,cm,cn,co,cp,cq,cr,cs,ct,cv,cw,cx,cy,cA,cB,cC,cD,cE,cF,cG,cH,cI,cJ,cL,cM,cN,cO,cP,cQ,cR,cS,cT,cU,cV,cW,cX,c0,c1,c2,c4,c5,c6,c7,c8,c9,da,db,dd,de,dg,dj,dk,dl,dn,dp,dq,e9,fb,fc,fd,ff,fg,fh,fi,fj,fk,fl,fn,fp,fs,ft,fv,fz,fL,fN,fR,fS,fW,fX,fY,f1,f2,f3,f4,f5,f6,f7,f8,f9,ga,gb,gc,gd,gf,gg,gh,gi,gl,gm,gn,gp,gr,gs,gu,gv,gw,gA,dr],[]⟩ w0:=by
 conv=>arg 2;whnf
 have hn:=G.bA eN;have Hn:=hid (rN hn trivial);have eg:=hid (rN True.intro (rN True.intro (rN True.intro (rN True.intro (rN bp True.intro)))));have it:=hid eC;have ds:=hid (rN bk aw);have ea:=hid (rN bh ar);have ed:=hid (rN eK el);have HQ:=hid hQ;have ec:∃Sc ai,oo w0 b ml me Sc (tp:Nat) (ic g (R.S.part n tp (TK (R.S.more g.n n) 0))) ai (eZ g (R.S.part n tp (TK (R.S.more g.n n) 0)))/\mn∉Sc/\Kept [me] w0 w0:=⟨Sb,nl,en,eE,Kept.refl _ _⟩;clear hn bp eC bk bh aw ar eK el hQ en eE eN;go_wp2_with fail;obtain⟨wD,rfl⟩:∃z:World,z=w0:=⟨_,rfl⟩
 go_loopw [20] (λkv wr=>∃k:Nat,kv=rI k/\k<=lm/\∃Sc ai,oo wr b ml me Sc (tp:Nat) (ic g (R.S.part n tp (TK (R.S.more g.n n) k))) ai (eZ g (R.S.part n tp (TK (R.S.more g.n n) k)))/\mn∉Sc/\Kept [me] wD wr) (λkv _=>lm-(intOf kv).toNat)
 case atStart=>exact⟨0,rfl,om,ec⟩
 case round=>
  obtain⟨k,rfl,hk,Sc,ai,hL,bt,hK⟩:=hrel;clear ec;have HL:=hid (rN hL (rN bt hK));clear hL bt hK;by_cases bg:k<lm
  .obtain⟨⟨U,O⟩,aE⟩:∃p,(R.S.more g.n n)[k]? =some p:=⟨_,Zc (by rw[it.out];exact bg)⟩
   have eJ:=LS.yU.1 (Ze aE);obtain⟨na,eS,bq,_⟩:=eJ;have dT:g.av U:=(eg.out.2.2.2.2.1 n U (by have:=(LS.jO.1 na).2.1;intro h;rw[h]at this;cases this)).2.1;have ew:g.av O:=(eg.out.2.2.2.2.1 n O (by have:=(LS.jO.1 eS).2.1;intro h;rw[h]at this;cases this)).2.1;obtain⟨⟨xs,xd⟩,d0⟩:=rX (C.add (R.S.cost n U) (R.S.cost n O));have ax:Kept [mn,ml,me] wB wr:=(ed.out.2.wid (by intro z hz;simp at hz;rcases hz with rfl|rfl<;>simp)).trans (HL.out.2.2.wid rS);have bb:=ds.out.1.kept ax ds.out.2;have ek:=ea.out.1.kept ax ea.out.2;have eR:((R.S.more g.n n).map (Mo R.S n))[k]? =some ⟨(O:Nat),⟨xs,xd⟩,(n:Nat)⟩:=by rw[Zy,aE,Option.map_some];unfold Mo;simp only;rw[d0]
   obtain⟨gx,hA12,a1,a2,a3,a4⟩:=ek.get eR;have d2:=λwx=>gZ (m:=d5) hA12 bg wx;simp only at a1 a2 a3 a4;obtain⟨Z,ba⟩:=bb.addr om;have ee:=hid (show Z.block∉[mn,ml,me]from ds.out.2 Z ba);rw[ba]at bb;have iu:=λwx=>aP (m:=d4) ba bg wx;have d1:=bb.cell br bg;rw[show((R.S.more g.n n).map λp=>((p.1:Nat):Int)).getD k 0=((U:Nat):Int)by rw[Zk,Zy,aE];rfl]at d1;obtain⟨P,hP⟩:=rX (R.S.part n tp (TK (R.S.more g.n n) k));have ay:=HL.out.1;rw[hP]at ay;obtain⟨A5,m5,bi,aS⟩:=ay.look (fM dT);have ez:=dS P g.n U;have cY:=hid (λJ(hb:Below wr.heap.size wr J)=>Xj J A5 m5 (dZ P g.n U) ⟨(O:Nat),⟨xs,xd⟩,(n:Nat)⟩ (bi.below hb) (kM _ _ _) (by have:=Hn.out.1;omega));obtain⟨n5,eL⟩:=rX ((dZ P g.n U).length);rw[eL]at cY aS;simp only at cY;have k1:wr.cell? ⟨b,1,none⟩=some (.map (some me)):=by simp[World.cell?,ay.1]
   have ab:=hid (rN dT (rN ew (rN aE (rN d0 (rN bq hP)))));have dt:=hid ay;have ef:=hid aS;clear na eS dT ew aE d0 bq hP ay bi aS eL ez hA12 ba eR ax bb ek;go_upto_region 39 with(fail);refine aB ?_;intro W hW;have HW:Below wr.heap.size wr W:=by rw[hW];exact be
   have x0:W.cell? ⟨wr.heap.size,0,none⟩=some (rI (O:Nat)):=by rw[hW];go_simp
   have x1:W.cell? ⟨wr.heap.size,1,none⟩=some (rI xs):=by rw[hW];go_simp
   have x2:W.cell? ⟨wr.heap.size,2,none⟩=some (rI xd):=by rw[hW];go_simp
   have x3:W.cell? ⟨wr.heap.size,3,none⟩=some (rI (n:Nat)):=by rw[hW];go_simp
   obtain⟨u,bm⟩:=rX wr.heap.size;have I:me≠u:=by have:=dt.out.qp.2.2.1;omega
   have iS:mn<wr.heap.size:=by have:=ed.out.1;have:=HL.out.2.2.size;omega
   have bo:b≠me:=dt.out.2.2.2.2.2.2.1;have bl:Z.block≠me:=by have:=ee.out;simp at this;exact this.2.2
   have f0:W.cell? (Z.add k)=some (rI (U:Nat)):=af HW d1;have k1:=af HW k1;rw[bm]at x0 x1 x2 x3⊢;have iv:(Instr.lookup 124 (.map (some me)) (rI (U:Nat)) false).run prog W.drew=.ok (.slice A5 n5 m5) W.drew:=ef.out _ (aj HW);have eb:=hid (dt.out.below HW);obtain⟨V,N,e1,e2,e3,e4,e5,e6,e7⟩:=eb.out.2.2.1;have HE:=hid (rN e1 (rN e2 (rN e3 (rN e4 (rN e5 (rN e6 e7))))));clear hW bm a1 a2 a3 a4 d2 d1 e1 e2 e3 e4 e5 e6 e7
   go_region_held3 (λJ=>J.cell? ⟨b,1,none⟩=some (.map (some me))/\J.cell? (Z.add k)=some (rI (U:Nat))/\J.cell? ⟨u,0,none⟩=some (rI (O:Nat))/\J.cell? ⟨u,1,none⟩=some (rI xs)/\J.cell? ⟨u,2,none⟩=some (rI xd)/\J.cell? ⟨u,3,none⟩=some (rI (n:Nat)))
    (first
     |exact⟨k1,f0,x0,x1,x2,x3⟩
     |exact al
     |exact et)
    ((first
     |(go_at_call 162
       refine(cY.out _ (aj HW)).mono ?_;rintro e wI ⟨vE,rfl,dv,ac⟩
       have al:wI.cell? ⟨b,1,none⟩=some (.map (some me))/\wI.cell? (Z.add k)=some (rI (U:Nat))/\wI.cell? ⟨u,0,none⟩=some (rI (O:Nat))/\wI.cell? ⟨u,1,none⟩=some (rI xs)/\wI.cell? ⟨u,2,none⟩=some (rI xd)/\wI.cell? ⟨u,3,none⟩=some (rI (n:Nat)):=
        ⟨af (w:=W.drew) ac k1,af (w:=W.drew) ac f0,af (w:=W.drew) ac x0,af (w:=W.drew) ac x1,af (w:=W.drew) ac x2,af (w:=W.drew) ac x3⟩
       have eo:MapAt iK wI me V N:=(HE.out.1.below (aj br)).below ac;obtain⟨B,hU,er,L⟩:=eo.store (P:=prog) (aF underlying3) underlying124 ((U:Nat):Int) vE;have hU:(Instr.mapUpdate 124 (.map (some me)) (rI (U:Nat)) vE).run prog wI=.ok () B:=hU
       have et:B.cell? ⟨b,1,none⟩=some (.map (some me))/\B.cell? (Z.add k)=some (rI (U:Nat))/\B.cell? ⟨u,0,none⟩=some (rI (O:Nat))/\B.cell? ⟨u,1,none⟩=some (rI xs)/\B.cell? ⟨u,2,none⟩=some (rI xd)/\B.cell? ⟨u,3,none⟩=some (rI (n:Nat)):=
        ⟨aH L (by simpa using bo) al.1,aH L (by rw[add_block];simpa using bl) al.2.1,aH L (by simpa using Ne.symm I) al.2.2.1,aH L (by simpa using Ne.symm I) al.2.2.2.1,aH L (by simpa using Ne.symm I) al.2.2.2.2.1,aH L (by simpa using Ne.symm I) al.2.2.2.2.2⟩)))
   all_goals
    have ap:Below W.heap.size W wI:=ae (aj br) ac;have eh:=cz.fresh (w:=W) HE.out.1 HE.out.2.1 HE.out.2.2.1 HE.out.2.2.2.1 HE.out.2.2.2.2.1 HE.out.2.2.2.2.2.1 HE.out.2.2.2.2.2.2 ap dv er L
    have a5:∀q,q∈vE.ownBlock.toList->W.heap.size<=q:=λq hq=>by
     rw[Zv]at hq;exact(World.ownsRow.lt dv q hq).1
    have bc:=eb.out.put eh (λq hq=>by
     rcases Zl.1 hq with r|r
     .exact .inr (a5 q r)
     .exact .inl r) ((Kept.of_below ap).trans (L.wid rS))
    have ey:Kept [me] W B:=(Kept.of_below ap).trans L
    have eF:mn∉vE.ownBlock.toList++Sc:=λhm=>by
     rcases Zl.1 hm with r|r
     .have:=a5 _ r;have:=HW.size;omega
     .exact HL.out.2.1 r
    obtain⟨d3,du,d6,d7,d8,d9⟩:=et
    have ej:bT (eZ g P) ((U:Nat):Int) (some (qa (dZ P g.n U) ⟨(O:Nat),⟨xs,xd⟩,(n:Nat)⟩)) ((O:Nat):Int)=some (dZ P g.n O):=by
     have:=ab.out.2.2.2.2.1;unfold bT;rw[if_neg om,fM ab.out.2.1]
    obtain⟨A6,m6,bj,a0⟩:=bc.look ej;have eA:=dS P g.n O;have a9:=hid (λJ(hb:Below B.heap.size B J)=>Xj J A6 m6 (dZ P g.n O) ⟨(U:Nat),⟨xs,xd⟩,(n:Nat)⟩ (bj.below hb) (kM _ _ _) (by have:=Hn.out.1;omega));obtain⟨n6,eM⟩:=rX ((dZ P g.n O).length);rw[eM]at a9 a0;simp only at a9;have a8:=hid (rN bc (rN ey eF));have ix:(Instr.lookup 124 (.map (some me)) (rI (O:Nat)) false).run prog B.drew=.ok (.slice A6 n6 m6) B.drew:=a0 _ (aj br);obtain⟨V2,N2,e1,e2,e3,e4,e5,e6,e7⟩:=bc.2.2.1;have aa:=hid (rN e1 (rN e2 (rN e3 (rN e4 (rN e5 (rN e6 e7))))));clear iv k1 f0 x0 x1 x2 x3 dv er L eo hU al eh a5 bc ey eF ej bj a0 eM eA e1 e2 e3 e4 e5 e6 e7 ac ap HE cY;go_upto_region 40 with(fail)
    go_region_held3 (λJ=>J.cell? ⟨b,1,none⟩=some (.map (some me))/\J.cell? (Z.add k)=some (rI (U:Nat))/\J.cell? ⟨u,0,none⟩=some (rI (O:Nat))/\J.cell? ⟨u,1,none⟩=some (rI xs)/\J.cell? ⟨u,2,none⟩=some (rI xd)/\J.cell? ⟨u,3,none⟩=some (rI (n:Nat)))
     (first
      |exact⟨d3,du,d6,d7,d8,d9⟩
      |exact am
      |exact eu)
     ((first
      |(go_at_call 162
        refine(a9.out _ (aj br)).mono ?_;rintro e wJ ⟨vF,rfl,dx,ag⟩
        have am:wJ.cell? ⟨b,1,none⟩=some (.map (some me))/\wJ.cell? (Z.add k)=some (rI (U:Nat))/\wJ.cell? ⟨u,0,none⟩=some (rI (O:Nat))/\wJ.cell? ⟨u,1,none⟩=some (rI xs)/\wJ.cell? ⟨u,2,none⟩=some (rI xd)/\wJ.cell? ⟨u,3,none⟩=some (rI (n:Nat)):=
         ⟨af (w:=B.drew) ag d3,af (w:=B.drew) ag du,af (w:=B.drew) ag d6,af (w:=B.drew) ag d7,af (w:=B.drew) ag d8,af (w:=B.drew) ag d9⟩
        have ep:MapAt iK wJ me V2 N2:=(aa.out.1.below (aj br)).below ag;obtain⟨wV,dy,es,M⟩:=ep.store (P:=prog) (aF underlying3) underlying124 ((O:Nat):Int) vF;have dy:(Instr.mapUpdate 124 (.map (some me)) (rI (O:Nat)) vF).run prog wJ=.ok () wV:=dy
        have eu:wV.cell? ⟨b,1,none⟩=some (.map (some me))/\wV.cell? (Z.add k)=some (rI (U:Nat))/\wV.cell? ⟨u,0,none⟩=some (rI (O:Nat))/\wV.cell? ⟨u,1,none⟩=some (rI xs)/\wV.cell? ⟨u,2,none⟩=some (rI xd)/\wV.cell? ⟨u,3,none⟩=some (rI (n:Nat)):=
         ⟨aH M (by simpa using bo) am.1,aH M (by rw[add_block];simpa using bl) am.2.1,aH M (by simpa using Ne.symm I) am.2.2.1,aH M (by simpa using Ne.symm I) am.2.2.2.1,aH M (by simpa using Ne.symm I) am.2.2.2.2.1,aH M (by simpa using Ne.symm I) am.2.2.2.2.2⟩)))
    all_goals
     have aq:Below B.heap.size B wJ:=ae (aj br) ag;have ei:=cz.fresh (w:=B) aa.out.1 aa.out.2.1 aa.out.2.2.1 aa.out.2.2.2.1 aa.out.2.2.2.2.1 aa.out.2.2.2.2.2.1 aa.out.2.2.2.2.2.2 aq dx es M
     have ao:∀q,q∈vF.ownBlock.toList->B.heap.size<=q:=λq hq=>by
      rw[Zv]at hq;exact(World.ownsRow.lt dx q hq).1
     have bd:=a8.out.1.put ei (λq hq=>by
      rcases Zl.1 hq with r|r
      .exact .inr (ao q r)
      .exact .inl r) ((Kept.of_below aq).trans (M.wid rS))
     have a6:=Fu (g:=g) (S:=R.S) (n:=n) (top:=tp) (a:=U) (b:=O) (T:=TK (R.S.more g.n n) k) ab.out.1 ab.out.2.1 (by have:=ab.out.2.2.2.2.1;omega);rw[ab.out.2.2.2.1,ab.out.2.2.2.2.2,Rw ab.out.2.2.1]at a6;rw[a6]at bd;have ev:ic g P=ic g (R.S.part n tp (TK (R.S.more g.n n) (k+1))):=by rw[<-ab.out.2.2.2.2.2];rfl
     rw[ev]at bd
     have eI:mn∉vF.ownBlock.toList++(vE.ownBlock.toList++Sc):=λhm=>by
      rcases Zl.1 hm with r|r
      .have:=ao _ r;have:=HW.size;have:=a8.out.2.1.size;omega
      .exact a8.out.2.2 r
     have em:Kept [me] wD wV:=((HL.out.2.2.trans (.of_below HW)).trans a8.out.2.1).trans ((Kept.of_below aq).trans M);have HF:=hid (rN bd (rN eI em));clear dx es M ep dy am eu ei ao bd a6 ev eI em ix d3 du d6 d7 d8 d9 ag aq aa a9;go_wp2;go_roundw
     case rel=>first|exact⟨k+1,by go_num,om,_,_,HF.out⟩|((repeat apply Exists.intro);exact⟨⟨k+1,by go_num,om,_,_,HF.out⟩,rfl⟩)
     case measure=>exact rM
  .obtain rfl:k=lm:=om
   have HF:=hid (show∃Sc ai,oo wr b ml me Sc (tp:Nat) (ic g (R.S.part n tp (TK (R.S.more g.n n) k))) ai (eZ g (R.S.part n tp (TK (R.S.more g.n n) k)))/\mn∉Sc/\Kept [me] wD wr from⟨Sc,ai,HL.out⟩);clear HL;go_wp2;apply HQ.out;exact HF.out
