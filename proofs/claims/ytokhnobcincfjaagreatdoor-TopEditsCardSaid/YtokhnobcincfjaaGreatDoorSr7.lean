/- Lemmas of this claim: Sr7. -/
import Derived.Test.YtokhnobcincfjaaGreatDoorKNEd35
set_option linter.unusedVariables false
set_option linter.unusedSimpArgs false
set_option maxHeartbeats 6400000
set_option maxRecDepth 100000
namespace Go.Proofs.YtokhnobcincfjaaGreatDoor
open Go.Lib (hid)
open Go.RowKit Go.Sort FR Go.Lib
variable {g:G}{enM mkM:Int->Option Value}{inn out:List Ed}{h:Nat->C}{hp lab:Nat->Option C}{W w:World}
theorem kQ.below{W k:World}{z:Nat}{u:Array Value}(B:kQ W z u g h)(F:Below W.heap.size W k):kQ k z u g h:=⟨B.1,λw J n I=>B.2 w (aa F J) n I⟩
theorem oh.Ra{W w w':World}{x l I me T S q n:Nat}{Q:Value}{J:List Nat}{mkM enM z:Int->Option Value}{L:Nat->Int}(h:oh W w x l I me T S q Q J mkM enM lab hp L)(h1:x≠me)(h2:I≠me)(h3:W.heap.size<=me)(F:MapAt iK w' me z n)(B:Kept [me] w w'):oh W w' x l I me T S q Q J mkM z lab hp L:=by
 obtain⟨l1,l2,l3,l4,l5,_⟩:=h.q9;obtain⟨hx,⟨n1,g1⟩,_,⟨n3,g3⟩,⟨n4,g4⟩,hh,⟨e1,e2,e3,e4,O,P,e7⟩,⟨U,Z,M,g,d5⟩,⟨o1,o2,o3⟩,R⟩:=h;refine⟨(B.block x l1 (by simpa using h1)).trans hx,⟨n1,g1.kept B (by simpa using h2)⟩,⟨n,F⟩,⟨n3,g3.kept B (by simpa using O.symm)⟩,⟨n4,g4.kept B (by simpa using P.symm)⟩,?_,⟨e1,e2,e3,e4,O,P,e7⟩,⟨U,Z,M,g,d5⟩,⟨o1,o2,o3⟩,?_⟩
 .exact hh.kept B λk u F=>by simp at F;subst F;exact M u
 .refine Kept.below R B R.size ?_
  intro k u;simp at u;subst u;exact h3
def EZ(g:G)(out:List Ed)(k:Nat)(s:Nat)(c:C):Prop:=g.ak s/\∃(i:Nat)(e:Ed),k<=i/\out[i]? =some e/\e.to_=(s:Nat)/\e.c=c
theorem EZ.of{s:Nat}{c:C}(h:jZ g out s c):EZ g out 0 s c:=by
 obtain⟨B,i,e,_,k,u,z⟩:=h;exact⟨B,i,e,Nat.zero_le _,k,u,z⟩
theorem EZ.next{g:G}{out:List Ed}{k:Nat}{e:Ed}(J:out[k]? =some e)(s:Nat)(c:C)(h:EZ g out k s c):EZ g out (k+1) s c\/(e.to_=(s:Nat)/\g.ak s/\e.c=c):=by
 obtain⟨F,i,x,L,u,z,B⟩:=h;by_cases I:i=k
 .subst I
  rw[J]at u;injection u with u;subst u
  exact .inr ⟨z,F,B⟩
 .exact .inl ⟨F,i,x,by omega,u,z,B⟩
theorem EZ.over(s:Nat)(c:C):¬EZ g out out.length s c:=by
 rintro⟨_,i,x,u,k,_⟩;have:=(List.getElem?_eq_some_iff.1 k).1;omega
def Ux(w:World)(g:G)(out inn:List Ed)(e:Ending)(w':World):Prop:=
 ∃v c fd,e=.returned (.tuple #[v,oo c,.bool fd])/\oG g out inn c fd/\(fd=false->v=.slice none 0 0)/\Below w.heap.size w w'/\
  (fd=true->∃A m Wy f,v=.slice A Wy.length m/\Wy.length<=m/\Ints w' A Wy.length (λk=>(bJ Wy).getD k 0)/\(∀ad,A=some ad->w.heap.size<=ad.block)/\Wy.length<=2000000/\jM inn inn.length f/\Az g (wD f) out c Wy)
def kM(g:G)(tp:Nat)(S:LS)(h:Nat->C)(out inn:List Ed)(Wy:List Nat):Prop:=
 ∃(mkB:Nat->Bool)(f:Int->Option C)(i:Nat)(V:tL)(d:C)(P:List Nat),(∀b,mkB b=true↔PY g S inn b)/\jM inn inn.length f/\oL (Ah S tp mkB (wD f)) (jZ g out) h i V/\lW V.hp 256 d/\CW V.bk (V.bk 256) P/\Ap S P.reverse Wy
theorem jM.one{f u:Int->Option C}(h:jM inn inn.length f)(k:jM inn inn.length u):f=u:=by
 have B:∀{f u:Int->Option C},jM inn inn.length f->jM inn inn.length u->∀{z c},f z=some c->∃F,u z=some F/\C.le F c:=by
  intro f u h k z c O;obtain⟨e,M,rfl,rfl⟩:=h.some_ z c O;obtain⟨i,L⟩:=List.getElem?_of_mem M;exact k.least i e (List.getElem?_eq_some_iff.1 L).1 L
 funext z;cases I:f z with
 |none=>
  cases J:u z with
  |none=>rfl
  |some c=>obtain⟨F,q,_⟩:=B k h J;rw[I]at q;cases q
 |some c=>
  obtain⟨F,q,P⟩:=B h k I;obtain⟨R,r,Q⟩:=B k h q;rw[I]at r;injection r with r;subst r
  rw[q,C.le_antisymm Q P]
theorem kM.JH{tp:Nat}{S:LS}{u z:List Nat}(H:kM g tp S h out inn u)(K:kM g tp S h out inn z):u=z:=by
 obtain⟨mk,f,i,V,d,P,F,I,J,L,M,O⟩:=H;obtain⟨k,f',i',V',B,P',Q,R,T,U,Z,k6⟩:=K;obtain rfl:=I.one R;obtain rfl:mk=k:=funext λb=>Bool.eq_iff_iff.2 ((F b).trans (Q b).symm);obtain rfl:=J.fin (Cx S tp _ _) T (.inr ⟨d,L⟩) (.inr ⟨B,U⟩);obtain rfl:=M.one Z;exact O.JH k6
def R7(w:World)(g:G)(tp:Nat)(S:LS)(h:Nat->C)(out inn:List Ed)(e:Ending)(w':World):Prop:=
 ∃v c fd,e=.returned (.tuple #[v,oo c,.bool fd])/\oG g out inn c fd/\(fd=false->v=.slice none 0 0)/\Below w.heap.size w w'/\
  (fd=true->∃A m Wy f,v=.slice A Wy.length m/\Wy.length<=m/\Ints w' A Wy.length (λk=>(bJ Wy).getD k 0)/\(∀ad,A=some ad->w.heap.size<=ad.block)/\Wy.length<=2000000/\jM inn inn.length f/\Az g (wD f) out c Wy/\kM g tp S h out inn Wy)
theorem R7.to{tp:Nat}{S:LS}{e:Ending}{w':World}(H:R7 w g tp S h out inn e w'):Ux w g out inn e w':=by
 obtain⟨v,c,u,z,B,F,I,J⟩:=H;exact⟨v,c,u,z,B,F,I,λq=>by obtain⟨A,m,k,f,L,M,O,P,Q,R,T,_⟩:=J q;exact⟨A,m,k,f,L,M,O,P,Q,R,T⟩⟩
def Tt(W:World)(x l mk me mc mb q:Nat)(gv:Value)(Sh:List Nat)(mkB:Nat->Bool)(inn:List Ed)(k:Nat)(wr:World):Prop:=
 ∃f,jM inn k f/\oh W wr x l mk me mc mb q gv Sh (eD (mkV mkB)) (lQ f) (λ_=>none) (λ_=>none) (λ_=>0)
def Tu(W:World)(x l mk me mc mb q:Nat)(gv:Value)(g:G)(tp:Nat)(S:LS)(mkB:Nat->Bool)(f:Int->Option C)(out:List Ed)(h:Nat->C)(gk k:Nat)(wr:World):Prop:=
 ∃Sh lab hp bk,oh W wr x l mk me mc mb q gv Sh (eD (mkV mkB)) (lQ f) lab hp bk/\De g tp S mkB (wD f) out h lab hp bk 0 (λ_ _=>False) (EZ g out k) gk
def TF(W:World)(x l mk me mc mb q:Nat)(gv:Value)(g:G)(tp:Nat)(S:LS)(mkB:Nat->Bool)(f:Int->Option C)(out:List Ed)(h:Nat->C)(gk:Nat)(wr:World):Prop:=
 ∃Sh lab hp bk k,oh W wr x l mk me mc mb q gv Sh (eD (mkV mkB)) (lQ f) lab hp bk/\Su g tp S mkB (wD f) out h lab hp bk k (λ_ _=>False) (λ_ _=>False) gk
theorem KZ{x l I me k F q:Nat}{B:Value}{u:List Nat}{z:Nat->Int}(h:oh W w x l I me k F q B u mkM enM lab hp z):w.cell? ⟨x,4,none⟩=some (.map (some k)):=h.cells.2.2.2.2.1
theorem PG(w:World)(l bc bb nl:Nat)(Sb:List Nat)(tp:Nat)(g:G)(S:LS)(cB:g.ok)(H:LS.Fin g tp S)(eg:tp<=6)(cX:cz w l bc bb Sb (tp:Nat) (bH g S) nl (gK g S))(A1:Option Addr)(n1 m1:Nat)(out:List Ed)(cQ:oH w A1 out)(dr:out.length=n1)(c6:n1<=1000)(ho:uD out)(A2:Option Addr)(n2 m2:Nat)(inn:List Ed)(cT:oH w A2 inn)(dt:inn.length=n2)(d5:n2<=1000)(hi:uD inn)(gf:Nat)(gc:Array Value)(h:Nat->C)(hg:kQ w gf gc g h)(dx:∀j,g.ak j->0<=(h j).s/\(h j).s<=1000/\0<=(h j).d/\(h j).d<=1000)(b9:h 256=C.zero)(hh:∀(B:Nat->Bool)(f:Int->Option C),jM inn inn.length f->∀j t d,Walk (Ah S tp B (wD f)) j t d->t=256->C.le (h j) d):Calls Tryz.prog 87 #[.pointer (some ⟨l,0,none⟩),.slice A1 n1 m1,.slice A2 n2 m2,.func (.func gf) #[] gc] w (R7 w g tp S h out inn):=by
 have hn:=G.bR cB;have ed:=@run_makeMap Tryz.prog;have U:=hid (And.intro cB (And.intro H (And.intro dx (And.intro b9 hh))));have HO:=hid (And.intro ho hi);have Hn:=hid (And.intro dr dt);have cF:=hid cX;have cm:=hid cQ;have bw:=hid cT;have cJ:=hid hg;clear cB H dx b9 hh ho hi dr dt cX cQ cT hg;go_enter Tryz.func87,Tryz.ntmps87;go_upto_region 1 with(fail);refine au ?_;intro O b3;have Z:Below w.heap.size w O:=by rw[b3];(repeat' (first|exact Below.refl _ _|assumption|apply aj|apply ah|apply af|(refine aa ?_ (by assumption))))
 have cD:O.heap[w.heap.size]? =some (.cells #[.int .i64 0,.int .i64 0] 44 (0,0)):=by rw[b3];exact heap_alloc_new _ _
 have ef:O.heap.size=w.heap.size+1:=by rw[b3];simp
 obtain⟨r9,bv⟩:∃z,w.heap.size=z:=⟨_,rfl⟩;rw[bv]at cD ef⊢;have dT:=hid cD;have HL:=hid (cF.out.below Z);have cm:=hid (cm.out.below Z);have bw:=hid (bw.out.below Z);have Hg:=hid (cJ.out.below Z);have cM:=hid (MO O l bc bb nl Sb (tp:Nat) g S U.out.1 (λa b d4=>U.out.2.1.bG a b d4) HL.out A2 n2 m2 inn bw.out Hn.out.2 d5);have Z:=hid (And.intro Z bv);clear b3 cD cF cJ bv;go_wp2_with fail;(with_reducible refine cM.out.mono ?_);rintro e w1 ⟨mk,B,rfl,⟨nK,cv⟩,ec,bh,al⟩;have co:=hid al.1
 have cL:Hid (∀b,B b=true↔PY g S inn b):=hid (λb=>⟨al.2 b,λ⟨t,c,⟨e,he,ht⟩,hc,hw⟩=>al.1 (λt=>@ite _ (∃e∈inn,e.to_=(t:Nat)) (Classical.propDecidable _) (some C.zero) none) (λt ht=>by
  apply Classical.byContradiction;intro hn;exact ht (if_neg hn)) b ⟨t,c,⟨hc,by rw[if_pos ⟨e,he,ht⟩];simp⟩,hw⟩⟩)
 have ap:=cv.lt;have cG:=hid cv;have q1:MapAt iK (w1.alloc (.map #[] 0)) w1.heap.size (λ_=>none) 0:=MapAt.made w1;have q2:MapAt iK ((w1.alloc (.map #[] 0)).alloc (.map #[] 0)) (w1.alloc (.map #[] 0)).heap.size (λ_=>none) 0:=MapAt.made _;have q3:MapAt iK (((w1.alloc (.map #[] 0)).alloc (.map #[] 0)).alloc (.map #[] 0)) ((w1.alloc (.map #[] 0)).alloc (.map #[] 0)).heap.size (λ_=>none) 0:=MapAt.made _;have z1:(w1.alloc (.map #[] 0)).heap.size=w1.heap.size+1:=by simp
 have z2:((w1.alloc (.map #[] 0)).alloc (.map #[] 0)).heap.size=w1.heap.size+1+1:=by simp
 rw[z1]at q2;rw[z2]at q3;have q1:=(q1.below (af (Below.refl _ _) (o:=.map #[] 0))).below (af (Below.refl _ _) (o:=.map #[] 0));have q2:=q2.below (af (Below.refl _ _) (o:=.map #[] 0));have ao:Below w1.heap.size w1 (((w1.alloc (.map #[] 0)).alloc (.map #[] 0)).alloc (.map #[] 0)):=af (af (af (Below.refl _ _)));have Hq:=hid (And.intro q1 (And.intro q2 (And.intro q3 ao)));have c6:=bh.size;clear cv al q1 q2 q3 z1 z2 ao cM;go_wp2_with fail;(with_reducible refine(FU _).mono ?_);rintro e w4 ⟨q,S0,rfl,hH,ac,bi⟩;have ca:∀k∈S0,w1.heap.size+3<=k:=λk hk=>by have:=ac k hk;simp at this;omega
 have b2:∀k∈S0,k<w4.heap.size:=hH.lt;have g1:=Hq.out.1.below bi;have g2:=Hq.out.2.1.below bi;have g3:=Hq.out.2.2.1.below bi;have am:=aa Hq.out.2.2.2 bi;have d9:=g3.lt;have HH:=hid (And.intro hH (And.intro ca (And.intro b2 (And.intro g1 (And.intro g2 (And.intro g3 am))))));clear hH ac ca b2 g1 g2 g3 am bi Hq;go_upto_region 2 with(fail);refine au ?_;intro W5 cx;obtain⟨x,hx⟩:∃z,w4.heap.size=z:=⟨_,rfl⟩;obtain⟨me,bt⟩:∃z,w1.heap.size=z:=⟨_,rfl⟩;obtain⟨mc,b8⟩:∃z,me+1=z:=⟨_,rfl⟩;obtain⟨mb,b7⟩:∃z,mc+1=z:=⟨_,rfl⟩
 have c4:oh O W5 x l mk me mc mb q (.func (.func gf) #[] gc) S0 (eD (mkV B)) (lQ (λ_=>none)) (λ_=>none) (λ_=>none) (λ_=>0):=by
  obtain⟨hH,ac,b2,g1,g2,g3,am⟩:=HH.out;have a8:Below w4.heap.size w4 W5:=by rw[cx];(repeat' (first|exact Below.refl _ _|assumption|apply aj|apply ah|apply af|(refine aa ?_ (by assumption))))
  rw[bt]at g1 g2 g3 ac;rw[b8]at g2 g3;rw[b7]at g3;refine⟨?_,⟨nK,(cG.out.below am).below a8⟩,⟨0,?_⟩,⟨0,?_⟩,⟨0,?_⟩,?_,⟨by omega,by omega,by omega,by omega,by omega,by omega,by omega⟩,⟨λhm=>?_,λhm=>?_,λhm=>?_,λhm=>?_,λhm=>?_⟩,⟨by omega,by omega,λk hk=>?_⟩,aa (aa bh am) a8⟩
  .rw[cx,<-hx,<-bt,<-b7,<-b8,<-bt]
   exact heap_alloc_new _ _
  .exact g1.below a8
  .rw[<-show(λ_=>none:Int->Option Value)=eD (fH λ_=>none)from(nA (λ_=>rfl)).symm]
   exact g2.below a8
  .rw[<-show(λ_=>none:Int->Option Value)=eD (QX (λ_=>none) (λ_=>0))from(nA (λ_=>rfl)).symm]
   exact g3.below a8
  .rw[mZ,<-BC]
   exact hH.below a8
  .have:=b2 _ hm;omega
  .have:=ac _ hm;omega
  .have:=ac _ hm;omega
  .have:=ac _ hm;omega
  .have:=ac _ hm;omega
  .have:=ac _ hk;omega
 have cl:x≠me/\mk≠me/\O.heap.size<=me/\r9≠x:=by omega
 rw[bt,hx];rw[b8,b7];have cO:Tt O x l mk me mc mb q (.func (.func gf) #[] gc) S0 B inn 0 W5:=⟨_,jM.start inn,c4⟩;have a0:=hid cl;clear cx c4 HH cG hx bt b8 b7 cl d9 ap ec bh c6 ed;go_wp2_with fail;go_loopw [36] (λkv wr=>∃k:Nat,kv=.int .i64 k/\k<=n2/\Tt O x l mk me mc mb q (.func (.func gf) #[] gc) S0 B inn k wr) (λkv _=>n2-(intOf kv).toNat)
 case atStart=>exact⟨0,rfl,by omega,cO⟩
 case round=>
  obtain⟨k,rfl,hk,f,L,R⟩:=hrel;clear cO;by_cases bq:k<n2
  .obtain⟨e,he⟩:∃e,inn[k]? =some e:=⟨inn[k]'(by rw[Hn.out.2];exact bq),List.getElem?_eq_getElem _⟩
   obtain⟨gb,ob,hA,a1,a2,a3,a4⟩:=(bw.out.below R.bel).get he;have cA:=λwx=>Ri (m:=m2) hA bq wx;have ag:=HO.out.2 e (List.mem_of_getElem? he);obtain⟨nE,bd⟩:=R.mapE;have ax:=L.step he;obtain⟨xt,⟨xs,xd⟩,xm⟩:=e;simp only at a1 a2 a3 a4 ag ax;obtain⟨ds,dd,is,bo,ci,ap⟩:=FO bd xt
   have db:is=true->0<=ds/\ds<=1048576/\0<=dd/\dd<=1048576:=λq=>by
    obtain⟨y,hy,_,e2⟩:=L.some_ _ _ (bo q);have:=HO.out.2 y hy;rw[e2]at this;exact this
   have cn:=hid (And.intro bo (And.intro ci db));have HF:=hid (And.intro ax ag);have HS:=hid R;have k3:=R.cells.2.2.2.1;have eb:=R.q9;have b1:=hid ap;have eh:=R.q9.1;have d8:=R.q9.2.2.1;clear hA he L ax ag bd bo ci db ap R eb;go_upto_region 5 with(fail);refine au ?_;intro F Q;have ar:Below wr.heap.size wr F:=by rw[Q];(repeat' (first|exact Below.refl _ _|assumption|apply aj|apply ah|apply af|(refine aa ?_ (by assumption))))
   have o0:F.cell? ⟨wr.heap.size,0,none⟩=some (.int .i64 xt):=by rw[Q];go_simp
   have o1:F.cell? ⟨wr.heap.size,1,none⟩=some (.int .i64 xs):=by rw[Q];go_simp
   have o2:F.cell? ⟨wr.heap.size,2,none⟩=some (.int .i64 xd):=by rw[Q];go_simp
   have o3:F.cell? ⟨wr.heap.size,3,none⟩=some (.int .i64 xm):=by rw[Q];go_simp
   obtain⟨I,ao⟩:∃z,wr.heap.size=z:=⟨_,rfl⟩;have k3:=ae ar k3;have J:=hid (HS.out.below ar);have aS:Hid (∀T,Below F.heap.size F T->(Instr.lookup 246 (.map (some me)) (.int .i64 xt) true).run Tryz.prog T=.ok (.tuple #[.agg #[.int .i64 ds,.int .i64 dd],.bool is]) T):=hid (λT hb=>b1.out T (aa ar hb));rw[ao]at o0 o1 o2 o3⊢;have c8:I≠me:=by omega
   clear Q ar HS a1 a2 a3 a4 cA ao b1 eh d8;go_cut [14,15] (λs t wx=>s=.pointer (some ⟨F.heap.size,0,none⟩)/\t=.bool is/\wx.cell? ⟨F.heap.size,0,none⟩=some (.int .i64 ds)/\wx.cell? ⟨F.heap.size,1,none⟩=some (.int .i64 dd)/\Below F.heap.size F wx)
   case first=>
    have hd:=ah (Below.refl F.heap.size F);have da:=af hd (o:=.cells #[.int .i64 0,.int .i64 0] 44);have q0:F.drew.cell? ⟨x,3,none⟩=some (.map (some me))/\F.drew.cell? ⟨I,0,none⟩=some (.int .i64 xt):=⟨ae hd k3,ae hd o0⟩;have q1:(F.drew.alloc (.cells #[.int .i64 0,.int .i64 0] 44)).cell? ⟨x,3,none⟩=some (.map (some me))/\(F.drew.alloc (.cells #[.int .i64 0,.int .i64 0] 44)).cell? ⟨I,0,none⟩=some (.int .i64 xt):=⟨ae da k3,ae da o0⟩;have ei:=aS.out _ hd;have ej:=aS.out _ (ah (af (Below.refl F.heap.size F) (o:=.cells #[.int .i64 0,.int .i64 0] 44)));clear aS J
    go_region_held3 (λT=>T.cell? ⟨x,3,none⟩=some (.map (some me))/\T.cell? ⟨I,0,none⟩=some (.int .i64 xt))
     (first
      |exact q0
      |exact q1
      |go_keep)
     (fail)
    all_goals
     have d6:Below F.heap.size F (F.alloc (.cells #[.int .i64 ds,.int .i64 dd] 44)).drew:=ah (af (Below.refl _ _));have d0:(F.alloc (.cells #[.int .i64 ds,.int .i64 dd] 44)).drew.cell? ⟨F.heap.size,0,none⟩=some (.int .i64 ds):=by go_simp
     have d1:(F.alloc (.cells #[.int .i64 ds,.int .i64 dd] 44)).drew.cell? ⟨F.heap.size,1,none⟩=some (.int .i64 dd):=by go_simp
     go_wp2;go_meet
     case rel=>exact⟨rfl,rfl,d0,d1,d6⟩
   case rest=>
    obtain⟨rfl,rfl,d0,d1,M⟩:=hcut;obtain⟨eo,ce⟩:∃z,F.heap.size=z:=⟨_,rfl⟩;have k3:=ae M k3;have o0:=ae M o0;have o1:=ae M o1;have o2:=ae M o2;have cH:=hid (J.out.below M);rw[ce]at d0 d1⊢;have de:aV xs/\aV xd:=by have:=HF.out.2;unfold aV;omega
    obtain⟨tb,aE⟩:∃z,Eb f xt ⟨xs,xd⟩=z:=⟨_,rfl⟩;have cp:=hid aE;have ea:I<wc.heap.size:=World.block_lt_of_cell? _ _ o0;clear aS J M ce aE;go_upto_region 6 with(fail);go_cut [57] (λs wx=>s=.bool tb/\Below wc.heap.size wc wx)
    case first=>
     cases is with
     |false=>
      have e:=cp.out;unfold Eb at e;rw[(cn.out.2.1 rfl).1]at e;subst e;go_wp2;go_meet
      case rel=>exact⟨rfl,by(repeat' (first|exact Below.refl _ _|assumption|apply aj|apply ah|apply af|(refine aa ?_ (by assumption))))⟩
     |true=>
      have e:=cp.out;have hd:=cn.out.1 rfl;unfold Eb at e;rw[hd]at e;have d7:=cn.out.2.2 rfl;simp only at e;have bm:aV ds/\aV dd:=by unfold aV;omega
      have cC:=hid (qa xs xd ds dd wc de.1 de.2 bm.1 bm.2);rw[e]at cC;clear hd d7 bm e;go_wp2_with fail;(with_reducible refine cC.out.mono ?_);rintro e w9 ⟨rfl,a9⟩;go_wp2;go_meet
      case rel=>exact⟨rfl,a9⟩
    case rest=>
     obtain⟨rfl,M⟩:=hcut;have b0:=hid (cH.out.below M);have k3:=ae M k3;have o0:=ae M o0;have o1:=ae M o1;have o2:=ae M o2;have ax:=HF.out.1;rw[cp.out]at ax;have bx:=hid ax;clear cH M d0 d1 ax ea;cases tb with
     |false=>
      have hE:Tt O x l mk me mc mb q (.func (.func gf) #[] gc) S0 B inn (k+1) wc:=⟨f,bx.out,b0.out⟩;have hE:=hid hE;clear b0 k3 o0 o1 o2 bx;go_wp2;go_roundw
      case rel=>first|exact⟨k+1,by go_num,by omega,hE.out⟩|((repeat apply Exists.intro);exact⟨⟨k+1,by go_num,by omega,hE.out⟩,rfl⟩)
      case measure=>simp[intOf];omega
     |true=>
      have bj:=ah (Below.refl wc.heap.size wc);have cw:=b0.out.below bj;obtain⟨nE,bd⟩:=cw.mapE;obtain⟨w7,ee,dq,ba⟩:=bd.store (aG Tryz.underlying3) Tryz.underlying246 xt (.agg #[.int .i64 xs,.int .i64 xd]);have br:=dq;rw[show(some (Value.agg #[.int .i64 xs,.int .i64 xd]):Option Value)=some (oo ⟨xs,xd⟩)from rfl,KU]at br;have hE:Tt O x l mk me mc mb q (.func (.func gf) #[] gc) S0 B inn (k+1) w7:=⟨_,bx.out,cw.Ra a0.out.1 a0.out.2.1 a0.out.2.2.1 br ba⟩;have hE:=hid hE;have dy:x∉[me]:=by simpa using a0.out.1
      have b4:I∉[me]:=by simpa using c8
      have q0:wc.drew.cell? ⟨x,3,none⟩=some (.map (some me))/\wc.drew.cell? ⟨I,0,none⟩=some (.int .i64 xt)/\wc.drew.cell? ⟨I,1,none⟩=some (.int .i64 xs)/\wc.drew.cell? ⟨I,2,none⟩=some (.int .i64 xd):=⟨ae bj k3,ae bj o0,ae bj o1,ae bj o2⟩;have q7:w7.cell? ⟨x,3,none⟩=some (.map (some me))/\w7.cell? ⟨I,0,none⟩=some (.int .i64 xt)/\w7.cell? ⟨I,1,none⟩=some (.int .i64 xs)/\w7.cell? ⟨I,2,none⟩=some (.int .i64 xd):=⟨aT ba dy q0.1,aT ba b4 q0.2.1,aT ba b4 q0.2.2.1,aT ba b4 q0.2.2.2⟩;clear dq br ba dy b4 bd cw b0 k3 o0 o1 o2 bx;go_upto_region 7 with(fail)
      go_region_held3 (λT=>T.cell? ⟨x,3,none⟩=some (.map (some me))/\T.cell? ⟨I,0,none⟩=some (.int .i64 xt)/\T.cell? ⟨I,1,none⟩=some (.int .i64 xs)/\T.cell? ⟨I,2,none⟩=some (.int .i64 xd))
       (first
        |exact q0
        |exact q7)
       (fail)
      clear q0 q7 ee;go_wp2;go_roundw
      case rel=>first|exact⟨k+1,by go_num,by omega,hE.out⟩|((repeat apply Exists.intro);exact⟨⟨k+1,by go_num,by omega,hE.out⟩,rfl⟩)
      case measure=>simp[intOf];omega
  .obtain rfl:k=n2:=by omega
   have cq:jM inn inn.length f:=by rw[Hn.out.2];exact L
   have cr:J8 g tp S out (wD f) h:=⟨U.out.1,U.out.2.1,HO.out.1,λt e he=>by
    obtain⟨y,hy,_,e2⟩:=cq.some_ _ _ he;have:=HO.out.2 y hy;rw[e2]at this;exact this,U.out.2.2.1,U.out.2.2.2.1⟩
   have ct:De g tp S B (wD f) out h (λ_=>none) (λ_=>none) (λ_=>0) 0 (λ_ _=>False) (EZ g out 0) (2*SB.me g.n 256 2100000 4000 2100000 (λ_=>none)):=(De.start U.out.1 cr 0).weak (λ_ _ h=>h) (λs c h=>EZ.of h);obtain⟨aw,ch⟩:∃z,2*SB.me g.n 256 2100000 4000 2100000 (λ_=>none)=z:=⟨_,rfl⟩;rw[ch]at ct;have c0:Tu O x l mk me mc mb q (.func (.func gf) #[] gc) g tp S B f out h aw 0 wr:=⟨_,_,_,_,R,ct⟩;have HF:=hid (And.intro cq cr);clear L cq cr ct R ch;go_wp2_with fail;go_loopw [69] (λkv wr=>∃k:Nat,kv=.int .i64 k/\k<=n1/\Tu O x l mk me mc mb q (.func (.func gf) #[] gc) g tp S B f out h aw k wr) (λkv _=>n1-(intOf kv).toNat)
   case atStart=>exact⟨0,rfl,by omega,c0⟩
   case round=>
    obtain⟨k,rfl,hk,Sh,ab,hp,bk,R,hI⟩:=hrel;clear c0;by_cases bq:k<n1
    .obtain⟨e,he⟩:∃e,out[k]? =some e:=⟨out[k]'(by rw[Hn.out.1];exact bq),List.getElem?_eq_getElem _⟩
     obtain⟨gb,ob,hA,a1,a2,a3,a4⟩:=(cm.out.below R.bel).get he;have cA:=λwx=>Ri (m:=m1) hA bq wx;have ag:=HO.out.1 e (List.mem_of_getElem? he);obtain⟨xt,⟨xs,xd⟩,xm⟩:=e;simp only at a1 a2 a3 a4 ag;have He:=hid (And.intro he ag);have HS:=hid R;have HI:=hid hI;clear hA he ag R hI;go_upto_region 12 with(fail);refine au ?_;intro F Q;have ar:Below wr.heap.size wr F:=by rw[Q];(repeat' (first|exact Below.refl _ _|assumption|apply aj|apply ah|apply af|(refine aa ?_ (by assumption))))
     have o0:F.cell? ⟨wr.heap.size,0,none⟩=some (.int .i64 xt):=by rw[Q];go_simp
     have o1:F.cell? ⟨wr.heap.size,1,none⟩=some (.int .i64 xs):=by rw[Q];go_simp
     have o2:F.cell? ⟨wr.heap.size,2,none⟩=some (.int .i64 xd):=by rw[Q];go_simp
     obtain⟨ep,cg⟩:∃z,wr.heap.size=z:=⟨_,rfl⟩;have J:=hid (HS.out.below ar);rw[cg]at o0 o1 o2⊢;clear Q ar HS a1 a2 a3 a4 cA cg;by_cases a6:∃t:Nat,xt=t/\g.ak t
     .obtain⟨t,rfl,b6⟩:=a6
      have cj:=fQ (g:=g) (S:=S) b6;have cV:=hid (jf F l bc bb nl Sb (tp:Nat) (bH g S) (gK g S) (HL.out.below J.out.bel) (t:Nat) _ cj);obtain⟨tb,aE⟩:∃z,lower? ab t ⟨xs,xd⟩=z:=⟨_,rfl⟩;have ag:=He.out.2;have cR:=hid (zX O F x l mk me mc mb q gf gc Sh (eD (mkV B)) (lQ f) ab hp bk g h U.out.1 J.out Hg.out U.out.2.2.2.1 U.out.2.2.1 t (.inl b6) (t:Nat) rfl (-1) xs xd (by omega) tb aE (λd hd=>by have:=HI.out.small U.out.1 hd;omega) (λh1=>HI.out.low aE h1))
      have an:De g tp S B (wD f) out h (pushed ab t ⟨xs,xd⟩ tb) (pushed hp t (C.add ⟨xs,xd⟩ (h t)) tb) (if tb=true then FR.upd bk t (-1)else bk) 0 (λ_ _=>False) (EZ g out (k+1)) aw:=by
       refine HI.out.step HF.out.2 (.inl b6) (.inr (λ_ _ h=>h)) ⟨b6,k,_,(List.getElem?_eq_some_iff.1 He.out.1).1,He.out.1,rfl,rfl⟩ (λ_ _ h=>h.elim) (λs c hs=>?_) aE;rcases EZ.next He.out.1 s c hs with r|⟨r1,_,r3⟩
       .exact .inl r
       .refine .inr ⟨by simp only at r1;omega,?_⟩
        rw[<-r3];exact C.le_refl _
      have cE:=hid an;clear cj aE ag an HI;go_wp2_with fail;(with_reducible refine cV.out.mono ?_);rintro e T ⟨rfl,rfl⟩;clear cV;go_wp2_with fail;(with_reducible refine cR.out.mono ?_);rintro e w7 hR;obtain⟨S7,c2,_⟩:=hR.out;obtain⟨rfl,_⟩:=hR;have L:Tu O x l mk me mc mb q (.func (.func gf) #[] gc) g tp S B f out h aw (k+1) w7:=⟨_,_,_,_,c2,cE.out⟩;have L:=hid L;clear c2 cE J o0 o1 o2 cR;go_wp2;go_roundw
      case rel=>first|exact⟨k+1,by go_num,by omega,L.out⟩|((repeat apply Exists.intro);exact⟨⟨k+1,by go_num,by omega,L.out⟩,rfl⟩)
      case measure=>simp[intOf];omega
     .have du:¬(0<=xt/\g.ak xt.toNat):=λ⟨h1,h2⟩=>a6 ⟨xt.toNat,by omega,h2⟩
      have cV:=hid (sZ F l bc bb nl Sb (tp:Nat) (bH g S) (gK g S) (HL.out.below J.out.bel) xt (rT du))
      have L:Tu O x l mk me mc mb q (.func (.func gf) #[] gc) g tp S B f out h aw (k+1) F:=⟨_,_,_,_,J.out,HI.out.weak (λ_ _ h=>h) (λs c hs=>by
       rcases EZ.next He.out.1 s c hs with r|⟨r1,r2,_⟩
       .exact r
       .exact absurd ⟨s,r1,r2⟩ a6)⟩
      have L:=hid L;clear a6 du J HI;go_wp2_with fail;(with_reducible refine cV.out.mono ?_);rintro e T ⟨rfl,rfl⟩;clear cV o0 o1 o2;go_wp2;go_roundw
      case rel=>first|exact⟨k+1,by go_num,by omega,L.out⟩|((repeat apply Exists.intro);exact⟨⟨k+1,by go_num,by omega,L.out⟩,rfl⟩)
      case measure=>simp[intOf];omega
    .obtain rfl:k=n1:=by omega
     have cU:TF O x l mk me mc mb q (.func (.func gf) #[] gc) g tp S B f out h aw wr:=⟨_,_,_,_,0,R,De.run (hI.weak (λ_ _ h=>h) (λs c hs=>EZ.over s c (by rw[Hn.out.1];exact hs)))⟩;clear R hI;go_wp2_with fail;go_loopg [] aw (λgk wr=>TF O x l mk me mc mb q (.func (.func gf) #[] gc) g tp S B f out h gk wr)
     case atStart=>exact cU
     case round=>
      obtain⟨Sh,ab,hp,bk,kk,R,hI⟩:=hrel;clear cU;have k6:=R.cells.2.2.2.2.2.2
      have hm:∀b,LS.oJ S (λt=>g.ak t/\f (t:Nat)≠none) b->B b=true:=co.out (wD f) (λt ht=>by
       cases dc:f (t:Nat)with
       |none=>exact absurd dc ht
       |some c=>
        obtain⟨y,hy,h1,_⟩:=HF.out.1.some_ _ _ dc;exact⟨y,hy,h1⟩)
      have ck:∀u,Below O.heap.size O u->u.cell? ⟨r9,0,none⟩=some (.int .i64 0)/\u.cell? ⟨r9,1,none⟩=some (.int .i64 0)/\u.frozen? ⟨r9,0,none⟩=false/\u.frozen? ⟨r9,1,none⟩=false:=λu hu=>by
       have:=(hu.block r9 (by omega)).trans dT.out;simp[World.cell?,World.frozen?,this]
      have dv:∀u(p v:Value),Below O.heap.size O u->Below w.heap.size w ((u.setCell ⟨r9,0,none⟩ p).setCell ⟨r9,1,none⟩ v):=λu p v hu=>((aa Z.out.1 hu).setCell (p:=⟨r9,0,none⟩) (by have:=Z.out.2;simp;omega) p).setCell (p:=⟨r9,1,none⟩) (by have:=Z.out.2;simp;omega) v;have Hm:=hid (And.intro hm (And.intro ck dv));clear hm ck dv;by_cases h0:bC hp 257=0
      .have hH:=R.heap
       rw[h0]at hH;have ay:∀j,hp j=none:=xN h0 (hI.hpr U.out.1)
       have bp:ab 256=none:=by
        cases hl:ab 256 with
        |none=>rfl
        |some c=>exact absurd (ay 256) (hI.tin (by rw[hl];simp))
       have hB:=GZ U.out.2.1 U.out.1 HF.out.1 Hm.out.1 (λd=>Hu.lost (k:=256) (U.out.2.2.2.2 B f HF.out.1) hI.hu ay bp d);have HB:=hid (And.intro hB R.bel);clear ay bp hB hI;go_wp2_with fail;(with_reducible refine(qw _ Sh q (pM hp) hH).mono ?_);rintro e w6 ⟨rfl,c7⟩;have em:=aa HB.out.2 c7;clear hH R k6 c7;go_upto_region 18 with(fail);refine au ?_;intro W7 be;have a7:Below O.heap.size O W7:=by rw[be];(repeat' (first|exact Below.refl _ _|assumption|apply aj|apply ah|apply af|(refine aa ?_ (by assumption))))
       obtain⟨r0,r1,f0,f1⟩:=Hm.out.2.1 W7 a7;have L:R7 w g tp S h out inn (.returned (.tuple #[.slice none 0 0,.agg #[.int .i64 0,.int .i64 0],.bool false])) ((W7.setCell ⟨r9,0,none⟩ (.int .i64 0)).setCell ⟨r9,1,none⟩ (.int .i64 0)):=⟨_,C.zero,false,rfl,HB.out.1,λ_=>rfl,Hm.out.2.2 _ _ _ a7,(λh=>nomatch h)⟩;have L:=hid L;clear be;go_wp2;have e2:=dF (x:=.int .i64 0) (y:=.int .i64 0) r0 r1;refine bodyPost_ret (v:=.tuple #[.slice none 0 0,.agg #[.int .i64 0,.int .i64 0],.bool false]) (by simp[results,Tryz.results87,go_sem,e2]) rfl ?_;exact L.out
      .have HI:=hid hI
       have HS:=hid R;have cP:=hid (BB wr Sh q 257 hp R.heap (hI.hpr U.out.1) (by omega) h0);clear R hI h0;go_wp2_with fail;(with_reducible refine cP.out.mono ?_);rintro e w6 ⟨k2,ds,dd,dg,dj,rfl,dk,dl⟩;have J:=hid (HS.out.popped dk dl);have Hk:=hid (And.intro dg dj);clear cP dg dj dk dl HS k6;go_upto_region 17 with(fail);refine au ?_;intro W7 be;have cI:Below w6.heap.size w6 W7:=by rw[be];(repeat' (first|exact Below.refl _ _|assumption|apply aj|apply ah|apply af|(refine aa ?_ (by assumption))))
       have aq:=hid (J.out.below cI);clear be cI J;by_cases ai:k2=256
       .subst ai
        obtain⟨hl,hR⟩:=Hu.found (k:=256) (U.out.2.2.2.2 B f HF.out.1) U.out.2.2.2.1 HI.out.hu Hk.out.1 (λj d hd=>It.Tc (Hk.out.2 j d hd));have hB:=Dj U.out.2.1 U.out.1 HF.out.1 Hm.out.1 hR;have hd:=ah (Below.refl W7.heap.size W7);have cW:=hid (Tq O W7.drew x l bc bb nl mk me mc mb q (.func (.func gf) #[] gc) Sh Sb (eD (mkV B)) (lQ f) B (wD f) ab hp _ bk g tp S out h kk gk eg HF.out.2 HL.out (aq.out.below hd) HI.out.totX ⟨ds,dd⟩ hl)
        have a5:=hid (show∀Wy,(∃P,CW bk (bk 256) P/\Ap S P.reverse Wy)->kM g tp S h out inn Wy from λWy⟨P,q1,q2⟩=>by
         obtain⟨i,q3⟩:=HI.out.run;exact⟨B,f,i,⟨ab,hp,bk⟩,_,P,cL.out,HF.out.1,q3,Hk.out,q1,q2⟩)
        obtain⟨nC,cY⟩:=aq.out.mapC
        have ap:∀T,Below W7.heap.size W7 T->(Instr.lookup 246 (.map (some mc)) (.int .i64 256) false).run Tryz.prog T=.ok (.agg #[.int .i64 ds,.int .i64 dd]) T:=λT hb=>by
         have:=((cY.below hb).look (aG Tryz.underlying3) Tryz.underlying246 (kr T) ((256:Nat):Int)).2;rw[fM]at this;unfold fH at this;rw[hl]at this;exact this
        have dn:=ap _ hd;have b1:=hid ap;have k4:=KZ aq.out;have q0:=ae hd k4;have a7:=aq.out.bel;have HB:=hid hB;clear hl hR hB cY ap aq HI Hk k4;go_upto_region 20 with(fail)
        go_region_held3 (λT=>T.cell? ⟨x,4,none⟩=some (.map (some mc)))
         (first
          |exact q0
          |exact q1
          |exact q2 _ _)
         (first
          |(go_at_call 150
            refine cW.out.mono ?_;rintro e w9 ⟨A,m,Wy,rfl,d3,c5,cy,d2,⟨cb,bg⟩,a9⟩;have bg:=a5.out _ bg;have q1:=ae a9 q0;have dp:=b1.out w9 (aa hd a9);have cN:=aa a7 (aa hd a9);obtain⟨r0,r1,f0,f1⟩:=Hm.out.2.1 w9 cN
            have q2:∀p v:Value,((w9.setCell ⟨r9,0,none⟩ p).setCell ⟨r9,1,none⟩ v).cell? ⟨x,4,none⟩=some (.map (some mc)):=λp v=>
             ((World.cell?_setCell_other (w:=w9.setCell ⟨r9,0,none⟩ p) (a:=⟨r9,1,none⟩) (b:=⟨x,4,none⟩) (v:=v) (by simp)).trans (World.cell?_setCell_other (w:=w9) (a:=⟨r9,0,none⟩) (b:=⟨x,4,none⟩) (v:=p) (by simp))).trans q1))
        all_goals
         have L:R7 w g tp S h out inn (.returned (.tuple #[.slice A Wy.length m,.agg #[.int .i64 ds,.int .i64 dd],.bool true])) ((w9.setCell ⟨r9,0,none⟩ (.int .i64 ds)).setCell ⟨r9,1,none⟩ (.int .i64 dd)):=by
          refine⟨_,⟨ds,dd⟩,true,rfl,HB.out,(λh=>nomatch h),Hm.out.2.2 _ _ _ cN,λ_=>⟨A,m,Wy,f,rfl,d3,?_,?_,d2,HF.out.1,cb,bg⟩⟩
          .refine Ints.kept (S:=[r9]) c5 ((Kept.refl _ _).setCell (.inl (by simp)) |>.setCell (.inl (by simp))) (λad e=>?_)
           have:=cy ad e;have:=hd.size;have:=a7.size;simp;omega
          .intro ad e
           have:=cy ad e;have:=hd.size;have:=a7.size;have:=Z.out.2;omega
         have L:=hid L;have e2:=dF (x:=.int .i64 ds) (y:=.int .i64 dd) r0 r1;clear c5 cy cb a9 dn dp cW HB q0 q1;go_wp2;refine bodyPost_ret (v:=.tuple #[.slice A Wy.length m,.agg #[.int .i64 ds,.int .i64 dd],.bool true]) (by simp[results,Tryz.results87,go_sem,e2]) rfl ?_;exact L.out
       .have es:(((k2:Nat):Int)==256)=false:=by simp;omega
        obtain⟨c,b5,_⟩:=HI.out.hu.key _ _ Hk.out.1;obtain⟨cs,cd⟩:=c;have c9:g.ak k2:=(HI.out.cor k2 (by rw[b5];simp)).resolve_right ai;obtain⟨an,ek⟩:=HI.out.pop U.out.1 Hk.out.1 b5 ai;have a5:=hid (And.intro HI.out.run (show lW hp k2 ⟨ds,dd⟩from Hk.out));have cS:=hid (MP ⟨ab,hp,bk⟩ O W7 x l bc bb nl mk me mc mb q gf gc Sh Sb f B ab _ bk g tp S out h k2 (gk-1) HF.out.2 HL.out aq.out Hg.out c9 cs cd b5 an);clear b5 c9 an aq HI Hk;go_wp2_with fail;(with_reducible refine cS.out.mono ?_);rintro e w8 ⟨rfl,en,el,hp2,er,c1,an⟩;have L:TF O x l mk me mc mb q (.func (.func gf) #[] gc) g tp S B f out h (gk-1) w8:=⟨_,_,_,_,_,c1,an.run a5.out.1 a5.out.2 ai⟩;have L:=hid L;clear c1 an cS;go_wp2;go_roundg (gk-1)
        case measure=>omega
        case rel=>exact L.out
