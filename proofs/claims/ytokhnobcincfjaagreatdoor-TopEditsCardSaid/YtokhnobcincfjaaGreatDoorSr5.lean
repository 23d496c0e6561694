/- Lemmas of this claim: Sr5. -/
import Derived.Test.YtokhnobcincfjaaGreatDoorKNEd33
set_option linter.unusedVariables false
set_option linter.unusedSimpArgs false
set_option maxHeartbeats 6400000
set_option maxRecDepth 100000
namespace Go.Proofs.YtokhnobcincfjaaGreatDoor
open Go.Lib (hid)
open Go.RowKit Go.Sort FR Go.Lib
abbrev wD(f:Int->Option C):Nat->Option C:=λt=>f (t:Nat)
def Dc(V0:tL)(W:World)(x l mk me mc mb q:Nat)(gv:Value)(g:G)(tp:Nat)(S:LS)(mkB:Nat->Bool)(f:Int->Option C)(out:List Ed)(h:Nat->C)(n:Nat)(cs cd:Int)(b4:Nat)(L:List Ed)(A:Option Addr)(LA:List Ed)(gk:Nat)(j:Nat)(wr:World):Prop:=
 ∃Sh lab hp bk,oh W wr x l mk me mc mb q gv Sh (eD (mkV mkB)) (lQ f) lab hp bk/\Df V0 g tp S mkB (wD f) out h lab hp bk n (fG S tp mkB n L j) (λ_ _=>False) gk/\lab n=some ⟨cs,cd⟩/\
  wr.cell? ⟨b4,0,none⟩=some (.int .i64 cs)/\wr.cell? ⟨b4,1,none⟩=some (.int .i64 cd)/\b4∉mc::mb::Sh/\bQ wr A LA/\(0<LA.length->∀ad,A=some ad->ad.block∉mc::mb::Sh)
def Uj(V0:tL)(W w:World)(x l mk me mc mb q:Nat)(gv:Value)(g:G)(tp:Nat)(S:LS)(mkB:Nat->Bool)(f:Int->Option C)(out:List Ed)(h:Nat->C)(n:Nat)(gk:Nat)(e:Ending)(w':World):Prop:=
 e=.returned (.tuple #[])/\∃Sh lab hp bk,oh W w' x l mk me mc mb q gv Sh (eD (mkV mkB)) (lQ f) lab hp bk/\Df V0 g tp S mkB (wD f) out h lab hp bk n (λ_ _=>False) (λ_ _=>False) gk
theorem bQ.qA{w w':World}{A:Option Addr}{L:List Ed}{T:List Nat}(h:bQ w A L)(z:Kept T w w')(u:0<L.length->∀g,A=some g->g.block∉T):bQ w' A L:=λk=>by
 exact(h.kept (T:=T) z (u k)) k
section
variable {V0:tL} {W w w':World} {x l mk me mc mb q:Nat} {gv:Value} {g:G} {tp:Nat} {S:LS} {mkB:Nat->Bool} {f:Int->Option C} {out:List Ed} {h:Nat->C} {n:Nat} {cs cd:Int} {b4:Nat} {L:List Ed} {A:Option Addr} {LA:List Ed} {gk j:Nat}
theorem Dc.reach{z:List Nat}{k hp2:Nat->Option C}{u:Nat->Int}{e:Ending}(hR:Sn W w x l mk me mc mb q gv z (eD (mkV mkB)) (lQ f) k hp2 u e w')(I:Df V0 g tp S mkB (wD f) out h k hp2 u n (fG S tp mkB n L j) (λ_ _=>False) gk)(M:k n=some ⟨cs,cd⟩)(O:w.cell? ⟨b4,0,none⟩=some (.int .i64 cs))(c1:w.cell? ⟨b4,1,none⟩=some (.int .i64 cd))(J:b4∉mc::mb::z)(T:bQ w A LA)(R:0<LA.length->∀B,A=some B->B.block∉mc::mb::z):Dc V0 W x l mk me mc mb q gv g tp S mkB f out h n cs cd b4 L A LA gk j w':=by
 obtain⟨Z,h1,F,Q⟩:=hR.out;have lb:=World.block_lt_of_cell? _ _ O;refine⟨Z,k,hp2,u,h1,I,M,aT F J O,aT F J c1,Q _ lb J,T.qA F R,λU B e=>?_⟩;obtain⟨g',P,hl,_⟩:=T U;rw[P]at e;injection e with e;subst e
 exact Q g' hl (R U _ P)
theorem Dc.below(T:Dc V0 W x l mk me mc mb q gv g tp S mkB f out h n cs cd b4 L A LA gk j w)(k:Below w.heap.size w w'):Dc V0 W x l mk me mc mb q gv g tp S mkB f out h n cs cd b4 L A LA gk j w':=by
 obtain⟨z,u,U,B,F,I,J,M,O,P,Q,R⟩:=T;exact⟨z,u,U,B,F.below k,I,J,ae k M,ae k O,P,Q.below k,R⟩
theorem Dc.to{z:Nat}(O:Dc V0 W x l mk me mc mb q gv g tp S mkB f out h n cs cd b4 L A LA gk j w)(k:∀b e,fG S tp mkB n L j b e->fG S tp mkB n L z b e):Dc V0 W x l mk me mc mb q gv g tp S mkB f out h n cs cd b4 L A LA gk z w:=by
 obtain⟨B,u,P,F,I,J,M⟩:=O;exact⟨B,u,P,F,I,J.weak k (λ_ _ h=>h),M⟩
end
theorem qL{lab:Nat->Option C}{b n:Nat}{c:C}{g:Bool}(h:n≠b):pushed lab b c g n=lab n:=by
 unfold pushed;split
 .exact FR.upd_ne _ _ h
 .rfl
theorem FO{w:World}{me n:Nat}{f:Int->Option C}(h:MapAt iK w me (lQ f) n)(z:Int):∃(k g:Int)(is:Bool),(is=true->f z=some ⟨k,g⟩)/\(is=false->f z=none/\k=0/\g=0)/\∀w',Below w.heap.size w w'->(Instr.lookup 246 (.map (some me)) (.int .i64 z) true).run Tryz.prog w'=.ok (.tuple #[.agg #[.int .i64 k,.int .i64 g],.bool is]) w':=by
 cases B:f z with
 |none=>exact⟨0,0,false,(λh=>nomatch h),λ_=>⟨rfl,rfl,rfl⟩,λw' u=>iO (h.below u) (by unfold lQ;rw[B];rfl)⟩
 |some d=>exact⟨d.s,d.d,true,λ_=>rfl,(λh=>nomatch h),λw' u=>jD (h.below u) (by unfold lQ;rw[B];rfl)⟩
theorem MP(V0:tL)(W w:World)(x l bi bh nl mk me mc mb q gf:Nat)(gc:Array Value)(Sh Sb:List Nat)(f:Int->Option C)(mkB:Nat->Bool)(lab hp:Nat->Option C)(bk:Nat->Int)(g:G)(tp:Nat)(S:LS)(out:List Ed)(h:Nat->C)(n gk:Nat)(G0:J8 g tp S out (wD f) h)(cJ:cz W l bi bh Sb (tp:Nat) (bH g S) nl (gK g S))(P:oh W w x l mk me mc mb q (.func (.func gf) #[] gc) Sh (eD (mkV mkB)) (lQ f) lab hp bk)(hg:kQ W gf gc g h)(hn:g.ak n)(cs cd:Int)(M:lab n=some ⟨cs,cd⟩)(I:Df V0 g tp S mkB (wD f) out h lab hp bk n (Ah S tp mkB (wD f) n) (λ_ _=>False) gk):Calls Tryz.prog 151 #[.pointer (some ⟨x,0,none⟩),.int .i64 (n:Nat)] w (Uj V0 W w x l mk me mc mb q (.func (.func gf) #[] gc) g tp S mkB f out h n gk):=by
 have dk:=G.bR G0.ok;have dp:=hn.1;obtain⟨k0,_,k2,k3,k4,_,_⟩:=P.cells;obtain⟨l1,l2,l3,l4,l5,l6⟩:=P.q9;obtain⟨nC,cL⟩:=P.mapC;obtain⟨nE,cM⟩:=P.mapE;have b0:=I.small G0.ok M;simp only at b0
 have cU:(Instr.lookup 246 (.map (some mc)) (.int .i64 ((n:Nat):Int)) false).run Tryz.prog w=.ok (.agg #[.int .i64 cs,.int .i64 cd]) w:=by
  have:=(cL.look (aG Tryz.underlying3) Tryz.underlying246 (kr w) ((n:Nat):Int)).2;rw[fM]at this;unfold fH at this;rw[M]at this;exact this
 obtain⟨ds,dd,is,cb,ce,ap⟩:=FO cM (n:Nat);have cn:=hid (And.intro cb ce);have b2:=hid ap;have HS:=hid P;have F:=hid (And.intro G0 (And.intro cJ (And.intro hg hn)));have Q:=hid (And.intro I M);have dj:=hid l6;clear cL cM P G0 cJ hg hn I M cb ce ap l6;go_enter Tryz.func151,Tryz.ntmps151;go_upto_region 1 with(fail);refine au ?_;intro W1 bq;have ar:Below w.heap.size w W1:=by rw[bq];(repeat' (first|exact Below.refl _ _|assumption|apply aj|apply ah|apply af|(refine aa ?_ (by assumption))))
 have c0:W1.cell? ⟨w.heap.size,0,none⟩=some (.int .i64 cs):=by rw[bq];go_simp
 have c1:W1.cell? ⟨w.heap.size,1,none⟩=some (.int .i64 cd):=by rw[bq];go_simp
 obtain⟨b4,da⟩:∃z,w.heap.size=z:=⟨_,rfl⟩;have k0:=ae ar k0;have k2:=ae ar k2;have k3:=ae ar k3;have cy:=hid (HS.out.below ar);have ap:=b2.out W1 ar
 have b8:b4∉mc::mb::Sh:=λhm=>by
  simp only[List.mem_cons]at hm;rcases hm with r|r|r
  .omega
  .omega
  .have:=dj.out _ r;omega
 rw[da]at c0 c1⊢;clear bq cU HS b2;go_upto_region 2 with(fail);refine au ?_;intro W2 br;have aw:Below W1.heap.size W1 W2:=by rw[br];(repeat' (first|exact Below.refl _ _|assumption|apply aj|apply ah|apply af|(refine aa ?_ (by assumption))))
 have d0:W2.cell? ⟨W1.heap.size,0,none⟩=some (.int .i64 ds):=by rw[br];go_simp
 have d1:W2.cell? ⟨W1.heap.size,1,none⟩=some (.int .i64 dd):=by rw[br];go_simp
 obtain⟨b5,an⟩:∃z,W1.heap.size=z:=⟨_,rfl⟩;have k0:=ae aw k0;have k2:=ae aw k2;have c0:=ae aw c0;have c1:=ae aw c1;have aE:=hid (cy.out.below aw);rw[an]at d0 d1⊢;clear br aw cy ap an k3 ar;go_upto_if 30 with(fail)
 go_cut [] (λwx=>Dc V0 W x l mk me mc mb q (.func (.func gf) #[] gc) g tp S mkB f out h n cs cd b4 (gz S g.n n) none [] gk 0 wx)
 case first=>
  cases is with
  |false=>
   have O:Dc V0 W x l mk me mc mb q (.func (.func gf) #[] gc) g tp S mkB f out h n cs cd b4 (gz S g.n n) none [] gk 0 W2:=by
    refine⟨Sh,lab,hp,bk,aE.out,Q.out.1.weak (λb e B=>?_) (λ_ _ h=>h),Q.out.2,c0,c1,b8,(λh=>absurd h (by simp)),(λh=>absurd h (by simp))⟩;rcases fG.first (g:=g) (λy c m hy=>(F.out.1.fn.bG _ _ (by rw[hy];simp)).2.1.1) B with r|⟨_,r⟩
    .exact r
    .have:=(cn.out.2 rfl).1
     rw[show wD f n=f (n:Nat)from rfl,this]at r;cases r
   have O:=hid O;clear aE c0 c1 d0 d1 k0 k2;go_wp2;go_meet
   case rel=>exact O.out
  |true=>
   have a8:=cn.out.1 rfl;have cq:=F.out.1.fok n _ a8;simp only at cq;have cA:=hid (λw=>ng cs cd ds dd w (by unfold aV;omega) (by unfold aV;omega) (by unfold aV;omega) (by unfold aV;omega));obtain⟨tb,Z⟩:∃t,lower? lab 256 ⟨cs+ds,cd+dd⟩=t:=⟨_,rfl⟩;have ac:C.add ⟨cs,cd⟩ ⟨ds,dd⟩=⟨cs+ds,cd+dd⟩:=rfl;have cR:=hid (λw' h'=>zX W w' x l mk me mc mb q gf gc Sh (eD (mkV mkB)) (lQ f) lab hp bk g h F.out.1.ok h' F.out.2.2.1 F.out.1.hT F.out.1.hok 256 (.inr rfl) 256 rfl (n:Nat) (cs+ds) (cd+dd) (by omega) tb Z (λd hd=>by have:=Q.out.1.small F.out.1.ok hd;omega) (λh1=>Q.out.1.low Z h1))
   have J:Df V0 g tp S mkB (wD f) out h (pushed lab 256 ⟨cs+ds,cd+dd⟩ tb) (pushed hp 256 (C.add ⟨cs+ds,cd+dd⟩ (h 256)) tb) (if tb=true then FR.upd bk 256 (n:Nat)else bk) n (fG S tp mkB n (gz S g.n n) 0) (λ_ _=>False) gk:=by
    refine Q.out.1.step F.out.1 (.inr rfl) (.inl (by omega)) ⟨⟨cs,cd⟩,⟨ds,dd⟩,Q.out.2,by omega,.inr ⟨by omega,rfl,a8⟩,ac.symm⟩ (λb e B=>?_) (λ_ _ h=>h.elim) Z;rcases fG.first (g:=g) (λy c m hy=>(F.out.1.fn.bG _ _ (by rw[hy];simp)).2.1.1) B with r|⟨r1,r2⟩
    .exact .inl r
    .refine .inr ⟨r1,λc hc=>?_⟩
     rw[Q.out.2]at hc;injection hc with hc;subst hc
     rw[show wD f n=f (n:Nat)from rfl,a8]at r2;injection r2 with r2;subst r2
     exact C.le_refl _
   have al:pushed lab 256 ⟨cs+ds,cd+dd⟩ tb n=some ⟨cs,cd⟩:=by rw[qL (by omega)];exact Q.out.2
   have J:=hid (And.intro J al);have dr:=hid (And.intro cq a8);clear al Z a8 cq ac;go_wp2_with fail;(with_reducible refine(cA.out _).mono ?_);rintro e w3 ⟨rfl,bt⟩;have c0:=ae bt c0;have c1:=ae bt c1;have cB:=hid (aE.out.below bt);clear aE bt d0 d1 cA k0 k2;go_wp2_with fail;(with_reducible refine(cR.out _ cB.out).mono ?_);rintro e w4 hR;have O:=Dc.reach hR J.out.1 J.out.2 c0 c1 b8 (A:=none) (LA:=[]) (λh=>absurd h (by simp)) (λh=>absurd h (by simp));have O:=hid O;obtain⟨rfl,_⟩:=hR;clear cB c0 c1 cR J;go_wp2;go_meet
   case rel=>exact O.out
 case rest=>
  obtain⟨cI,c6,hp2,c9,P,hI,M,e0,e1,ao,_,_⟩:=hcut;obtain⟨k0,_,k2,_,_,_,_⟩:=P.cells;have c5:=hid P.q9.2.2.2.2.2;obtain⟨_,_,_,dl,dn,_⟩:=P.q9;have bb:=fQ (g:=g) (S:=S) F.out.2.2.2;have cV:=hid (jf wc l bi bh nl Sb (tp:Nat) (bH g S) (gK g S) (F.out.2.1.below P.bel) (n:Nat) _ bb);have cE:=hid (sW wc l bi bh nl Sb (tp:Nat) (bH g S) (gK g S) (F.out.2.1.below P.bel) (n:Nat) _ bb (gz S g.n n) (ja F.out.2.2.2) (by have:=fq S g.n n;omega));obtain⟨ln,a9⟩:∃z,S.lev n=z:=⟨_,rfl⟩;rw[a9]at cV;have cF:=hid a9;have HS:=hid P;have ck:=hid (And.intro hI M);clear aE c0 c1 d0 d1 bb a9 P hI M cn Q;go_wp2_with fail;(with_reducible refine cV.out.mono ?_);rintro e w' ⟨rfl,rfl⟩;clear cV;go_wp2_with fail;(with_reducible refine cE.out.mono ?_);rintro e w5 ⟨vE,rfl,co,an⟩;obtain⟨A1,m1,rfl,T⟩:=co.Ag
  have hA1:0<(gz S g.n n).length->∀ad,A1=some ad->ad.block∉mc::mb::cI:=λcW ad e hm=>by
   obtain⟨g',e1,_,_⟩:=T cW;rw[e1]at e;injection e with e;subst e
   have cr:=(World.ownsRow.lt co g' (by rw[e1];rfl)).1;simp only[List.mem_cons]at hm;rcases hm with r|r|r
   .omega
   .omega
   .have:=c5.out _ r;omega
  obtain⟨L,hL⟩:∃L,gz S g.n n=L:=⟨_,rfl⟩;have cl:=ck.out.1;rw[hL]at T hA1 cl⊢;have cQ:Dc V0 W x l mk me mc mb q (.func (.func gf) #[] gc) g tp S mkB f out h n cs cd b4 L A1 L gk 0 w5:=⟨cI,c6,hp2,c9,HS.out.below an,cl,ck.out.2,ae an e0,ae an e1,ao,T,hA1⟩;obtain⟨nL,bv⟩:∃nL,L.length=nL:=⟨_,rfl⟩;have c8:nL<=256:=by have:=fq S g.n n;rw[hL,bv]at this;omega
  rw[bv];have HL:=hid (And.intro hL bv);clear co T hA1 hL bv HS ck cl e0 e1 cE an k0 k2 ao c5 dl dn;go_wp2_with fail;go_loopw [57] (λkv wr=>∃j:Nat,j<=nL/\kv=.int .i64 j/\Dc V0 W x l mk me mc mb q (.func (.func gf) #[] gc) g tp S mkB f out h n cs cd b4 L A1 L gk j wr) (λkv _=>nL-(intOf kv).toNat)
  case atStart=>exact⟨0,by omega,rfl,cQ⟩
  case round=>
   obtain⟨j,hj,rfl,Sj,R,bx,aS,P,hI,M,e0,e1,ao,T,hA1⟩:=hrel;clear cQ;by_cases cS:j<nL
   .obtain⟨y,hy⟩:∃y,L[j]? =some y:=⟨L[j]'(by rw[HL.out.2];exact cS),List.getElem?_eq_getElem _⟩
    obtain⟨t,dt,cX,bd⟩:=fw.1 (by rw[HL.out.1];exact List.mem_of_getElem? hy:y∈gz S g.n n);obtain⟨gb,hA,a1,a2,a3,a4⟩:=T.get hy;have dg:=λwx=>jy (m:=m1) hA cS wx;obtain⟨xt,⟨xs,xd⟩,xm⟩:=y;simp only at a1 a2 a3 a4 cX bd;subst cX;have b9:=F.out.1.fn.bG n t (by rw[bd];simp);have bc:=F.out.1.fn.small _ _ _ _ bd;simp only at bc;obtain⟨k0,_,k2,_,_,_,_⟩:=P.cells;obtain⟨nK,cN⟩:=P.mapK;have ci:=LU cN ((t:Nat):Int) (mkB t) (by simp);have cH:=hid ci;have Hy:=hid (And.intro hy (And.intro bd (And.intro b9 bc)));have Q:=hid (And.intro hI M);have HS:=hid P;have cj:=hid (And.intro T hA1);clear hA hy bd b9 bc P hI M T hA1 cN ci;go_upto_region 9 with(fail);refine au ?_;intro W6 a5;have ab:Below wr.heap.size wr W6:=by rw[a5];(repeat' (first|exact Below.refl _ _|assumption|apply aj|apply ah|apply af|(refine aa ?_ (by assumption))))
    have o0:W6.cell? ⟨wr.heap.size,0,none⟩=some (.int .i64 (t:Nat)):=by rw[a5];go_simp
    have o1:W6.cell? ⟨wr.heap.size,1,none⟩=some (.int .i64 xs):=by rw[a5];go_simp
    have o2:W6.cell? ⟨wr.heap.size,2,none⟩=some (.int .i64 xd):=by rw[a5];go_simp
    obtain⟨k,b7⟩:∃z,wr.heap.size=z:=⟨_,rfl⟩
    have db:k∉mc::mb::Sj:=λhm=>by
     obtain⟨_,_,_,q4,q5,q6⟩:=HS.out.q9;simp only[List.mem_cons]at hm;rcases hm with r|r|r
     .omega
     .omega
     .have:=q6 _ r;omega
    have k0:=ae ab k0;have k2:=ae ab k2;have e0:=ae ab e0;have e1:=ae ab e1;have bm:=hid (HS.out.below ab);have cv:=hid (cj.out.1.below ab);have hA1:=hid cj.out.2;have ch:∀w',Below W6.heap.size W6 w'->(Instr.lookup 244 (.map (some mk)) (.int .i64 ((t:Nat):Int)) false).run Tryz.prog w'=.ok (.bool (mkB t)) w':=λw' hb=>cH.out w' (aa ab hb);have b3:=hid ch;rw[b7]at o0 o1 o2⊢;have cg:=fQ (g:=g) (S:=S) Hy.out.2.2.1.2.1;have cV:=hid (λw' hb=>jf w' l bi bh nl Sb (tp:Nat) (bH g S) (gK g S) ((F.out.2.1.below bm.out.bel).below hb) (t:Nat) _ cg);have cT:=hid (λw' hb=>Qo w' l bi bh nl Sb (tp:Nat) (bH g S) (gK g S) ((F.out.2.1.below bm.out.bel).below hb));obtain⟨lt,ba⟩:∃z,S.lev t=z:=⟨_,rfl⟩;rw[ba]at cV;have cG:=hid ba;clear a5 ab HS cj a1 a2 a3 a4 dg b7 cH ch cg ba;have u:=ah (Below.refl W6.heap.size W6);have q6:W6.drew.cell? ⟨x,0,none⟩=some (.pointer (some ⟨l,0,none⟩))/\W6.drew.cell? ⟨k,0,none⟩=some (.int .i64 (t:Nat)):=⟨ae u k0,ae u o0⟩
    go_region_held3 (λw'=>w'.cell? ⟨x,0,none⟩=some (.pointer (some ⟨l,0,none⟩))/\w'.cell? ⟨k,0,none⟩=some (.int .i64 (t:Nat)))
     (first
      |exact⟨k0,o0⟩
      |exact q6)
     (first
      |(go_at_call 147
        refine(cV.out _ u).mono ?_;rintro e wV ⟨rfl,rfl⟩))
    have k0:=ae u k0;have k2:=ae u k2;have e0:=ae u e0;have e1:=ae u e1;have o0:=ae u o0;have o1:=ae u o1;have o2:=ae u o2;have cC:=hid (bm.out.below u);have cw:=hid (cv.out.below u);have cT:=hid (λw' hb=>cT.out w' (aa u hb));have b6:Hid (∀w',Below W6.drew.heap.size W6.drew w'->(Instr.lookup 244 (.map (some mk)) (.int .i64 ((t:Nat):Int)) false).run Tryz.prog w'=.ok (.bool (mkB t)) w'):=hid (λw' hb=>b3.out w' (aa u hb));clear q6 bm cv b3 cV u;generalize W6.drew=W7 at*;obtain⟨tk,cY⟩:∃tk,(decide (ln<lt)||decide (lt=tp)||mkB t)=tk:=⟨_,rfl⟩;have bp:=hid cY;clear cY;have a0:=hid (λd os=>(cT.out (grow (redrawn W7 d) os) (below_regrown W7 d os)).mono (R':=λe w'=>e=.returned (.int .i64 (tp:Nat))/\Below (grow (redrawn W7 d) os).heap.size (grow (redrawn W7 d) os) w') (by rintro e w' ⟨h1,rfl⟩;exact⟨h1,Below.refl _ _⟩));have c2:=cell_regrown k0;have c4:=cell_regrown k2;have c7:=cell_regrown o0
    have aq:∀d os,(Instr.lookup 244 (.map (some mk)) (.int .i64 ((t:Nat):Int)) false).run Tryz.prog (grow (redrawn W7 d) os)=.ok (.bool (mkB t)) (grow (redrawn W7 d) os):=λd os=>b6.out _ (below_regrown W7 d os);have cm:=Below.refl W7.heap.size W7;go_upto_region 10 with(fail);go_cut [91] (λs wx=>s=.bool tk/\Below W7.heap.size W7 wx)
    case first=>
     by_cases cr:ln<lt
     .have de:decide (((ln:Nat):Int)<((lt:Nat):Int))=true:=by simp;omega
      have ht:tk=true:=by rw[<-bp.out];simp[cr]
      subst ht;clear c2 c4 c7 aq;go_quiet (fail);go_wp2;go_meet
      case rel=>exact⟨rfl,by(repeat' (first|exact Below.refl _ _|assumption|apply aj|apply ah|apply af|(refine aa ?_ (by assumption))))⟩
     .have de:decide (((ln:Nat):Int)<((lt:Nat):Int))=false:=by simp;omega
      by_cases be:lt=tp
      .have dc:(((lt:Nat):Int)==((tp:Nat):Int))=true:=by rw[be];simp
       have ht:tk=true:=by rw[<-bp.out];simp[be]
       subst ht;clear aq be;refine wp_region_quiet_below (by kernel_rfl) (by kernel_rfl) ?_;repeat (first|go_big_quiet_step (with_reducible exact Calls.regrown_of (a0.out _ _))|quiet_step (with_reducible exact Calls.regrown_of (a0.out _ _)))
       refine wpQuiet_nil ?_;intro _ ct;obtain⟨⟨dq,osq⟩,bg⟩:=ct;have ay:=aa cm (below_regrown W7 dq osq);have cp:=below_regrown W7 dq osq;subst bg;generalize grow (redrawn W7 dq) osq=W9 at ay cp⊢;go_wp2;go_meet
       case rel=>exact⟨rfl,ay⟩
      .have dc:(((lt:Nat):Int)==((tp:Nat):Int))=false:=by simp;omega
       have ht:mkB t=tk:=by rw[<-bp.out];simp[cr,be]
       rw[ht]at aq;clear be ht;refine wp_region_quiet_below (by kernel_rfl) (by kernel_rfl) ?_;repeat (first|go_big_quiet_step (with_reducible exact Calls.regrown_of (a0.out _ _))|quiet_step (with_reducible exact Calls.regrown_of (a0.out _ _)))
       refine wpQuiet_nil ?_;intro _ ct;obtain⟨⟨dq,osq⟩,bg⟩:=ct;have ay:=aa cm (below_regrown W7 dq osq);have cp:=below_regrown W7 dq osq;subst bg;generalize grow (redrawn W7 dq) osq=W9 at ay cp⊢;go_wp2;go_meet
       case rel=>exact⟨rfl,ay⟩
    case rest=>
     obtain⟨rfl,B⟩:=hcut;have bo:=hid (cC.out.below B);have bj:=hid (cw.out.below B);have e0:=ae B e0;have e1:=ae B e1;have o0:=ae B o0;have o1:=ae B o1;have o2:=ae B o2;clear cC cw b6 cT a0 k0 k2 c2 c4 c7 aq cm B
     have ca:(S.lev n<S.lev t\/S.lev t=tp\/mkB t=true)↔tk=true:=by
      rw[<-bp.out,cF.out,cG.out];simp[or_assoc]
     have b1:=hid ca;clear ca;cases tk with
     |false=>
      have O:Dc V0 W x l mk me mc mb q (.func (.func gf) #[] gc) g tp S mkB f out h n cs cd b4 L A1 L gk (j+1) wc:=
       ⟨Sj,R,bx,aS,bo.out,Q.out.1.weak (λb e hb=>fG.skip Hy.out.1 rfl (λhh=>nomatch (b1.out.1 hh)) b e hb) (λ_ _ h=>h),Q.out.2,e0,e1,ao,bj.out,hA1.out⟩
      have O:=hid O;clear bo bj e0 e1 o0 o1 o2 ao;go_wp2;go_roundw
      case rel=>first|exact⟨j+1,by omega,by go_num,O.out⟩|((repeat apply Exists.intro);exact⟨⟨j+1,by omega,by go_num,O.out⟩,rfl⟩)
      case measure=>simp[intOf];omega
     |true=>
      have b0:=Q.out.1.small F.out.1.ok Q.out.2;simp only at b0;have bc:=Hy.out.2.2.2;have cA:=hid (λw=>ng cs cd xs xd w (by unfold aV;omega) (by unfold aV;omega) (by unfold aV;omega) (by unfold aV;omega));obtain⟨tb,Z⟩:∃z,lower? R t ⟨cs+xs,cd+xd⟩=z:=⟨_,rfl⟩;have ac:C.add ⟨cs,cd⟩ ⟨xs,xd⟩=⟨cs+xs,cd+xd⟩:=rfl;have cR:=hid (λw' h'=>zX W w' x l mk me mc mb q gf gc Sj (eD (mkV mkB)) (lQ f) R bx aS g h F.out.1.ok h' F.out.2.2.1 F.out.1.hT F.out.1.hok t (.inl Hy.out.2.2.1.2.1) (t:Nat) rfl (n:Nat) (cs+xs) (cd+xd) (by omega) tb Z (λd hd=>by have:=Q.out.1.small F.out.1.ok hd;omega) (λh1=>Q.out.1.low Z h1));have bw:n≠t:=Hy.out.2.2.1.2.2
      have J:Df V0 g tp S mkB (wD f) out h (pushed R t ⟨cs+xs,cd+xd⟩ tb) (pushed bx t (C.add ⟨cs+xs,cd+xd⟩ (h t)) tb) (if tb=true then FR.upd aS t (n:Nat)else aS) n (fG S tp mkB n L (j+1)) (λ_ _=>False) gk:=by
       refine Q.out.1.step F.out.1 (.inl Hy.out.2.2.1.2.1) (.inl (Ne.symm bw)) ⟨⟨cs,cd⟩,⟨xs,xd⟩,Q.out.2,bw,.inl ⟨by omega,by omega,b1.out.2 rfl,xm,Hy.out.2.1⟩,ac.symm⟩ (λb e B=>?_) (λ_ _ h=>h.elim) Z;rcases fG.next Hy.out.1 rfl b e B with r|⟨r1,r2⟩
       .exact .inl r
       .refine .inr ⟨r1,λc hc=>?_⟩
        rw[Q.out.2]at hc;injection hc with hc;subst hc
        rw[r2];exact C.le_refl _
      have al:pushed R t ⟨cs+xs,cd+xd⟩ tb n=some ⟨cs,cd⟩:=by rw[qL bw];exact Q.out.2
      have J:=hid (And.intro J al);have ai:=ah (Below.refl wc.heap.size wc);have a6:=hid ao;have a7:=hid db;have am:wc.drew.cell? ⟨b4,0,none⟩=some (.int .i64 cs)/\wc.drew.cell? ⟨b4,1,none⟩=some (.int .i64 cd)/\wc.drew.cell? ⟨k,0,none⟩=some (.int .i64 (t:Nat))/\wc.drew.cell? ⟨k,1,none⟩=some (.int .i64 xs)/\wc.drew.cell? ⟨k,2,none⟩=some (.int .i64 xd):=⟨ae ai e0,ae ai e1,ae ai o0,ae ai o1,ae ai o2⟩;have cD:=hid (bo.out.below ai);have cx:=hid (bj.out.below ai);clear al Z ac b0 bc bw e0 e1 o0 o1 o2 bo bj;go_upto_region 11 with(fail)
      go_region_held3 (λw'=>w'.cell? ⟨b4,0,none⟩=some (.int .i64 cs)/\w'.cell? ⟨b4,1,none⟩=some (.int .i64 cd)/\w'.cell? ⟨k,0,none⟩=some (.int .i64 (t:Nat))/\w'.cell? ⟨k,1,none⟩=some (.int .i64 xs)/\w'.cell? ⟨k,2,none⟩=some (.int .i64 xd))
       (first
        |exact am
        |exact U
        |exact cP)
       ((first
        |(go_at_call 94
          refine(cA.out _).mono ?_;rintro e wA ⟨rfl,ag⟩;have U:wA.cell? ⟨b4,0,none⟩=some (.int .i64 cs)/\wA.cell? ⟨b4,1,none⟩=some (.int .i64 cd)/\wA.cell? ⟨k,0,none⟩=some (.int .i64 (t:Nat))/\wA.cell? ⟨k,1,none⟩=some (.int .i64 xs)/\wA.cell? ⟨k,2,none⟩=some (.int .i64 xd):=⟨ae ag am.1,ae ag am.2.1,ae ag am.2.2.1,ae ag am.2.2.2.1,ae ag am.2.2.2.2⟩)
        |(go_at_call 148
          refine(cR.out _ (cD.out.below ag)).mono ?_;rintro e wh cO;have O:=Dc.reach cO J.out.1 J.out.2 U.1 U.2.1 a6.out (cx.out.below ag) hA1.out;have O:=hid O;obtain⟨rfl,S1,_,_,ax⟩:=cO;have cP:wh.cell? ⟨b4,0,none⟩=some (.int .i64 cs)/\wh.cell? ⟨b4,1,none⟩=some (.int .i64 cd)/\wh.cell? ⟨k,0,none⟩=some (.int .i64 (t:Nat))/\wh.cell? ⟨k,1,none⟩=some (.int .i64 xs)/\wh.cell? ⟨k,2,none⟩=some (.int .i64 xd):=⟨aT ax a6.out U.1,aT ax a6.out U.2.1,aT ax a7.out U.2.2.1,aT ax a7.out U.2.2.2.1,aT ax a7.out U.2.2.2.2⟩)))
      all_goals
       clear cA cR cD cx J ax ag U cP am ai;go_wp2;go_roundw
       case rel=>first|exact⟨j+1,by omega,by go_num,O.out⟩|((repeat apply Exists.intro);exact⟨⟨j+1,by omega,by go_num,O.out⟩,rfl⟩)
       case measure=>simp[intOf];omega
   .obtain rfl:j=nL:=by omega
    have O:Uj V0 W w x l mk me mc mb q (.func (.func gf) #[] gc) g tp S mkB f out h n gk (.returned (.tuple #[])) wr:=⟨rfl,Sj,R,bx,aS,P,hI.weak (λb e hb=>fG.over b e (by rw[HL.out.2];exact hb)) (λ_ _ h=>h)⟩;have O:=hid O;clear P hI M e0 e1 ao T hA1;go_wp2;go_end0;exact O.out
end Go.Proofs.YtokhnobcincfjaaGreatDoor
