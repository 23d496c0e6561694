/- Lemmas of this claim: Sr5. -/
import Derived.Test.YtokhnobcincfjaaGreatDoorKNFr32
set_option linter.unusedVariables false
set_option linter.unusedSimpArgs false
set_option maxHeartbeats 6400000
set_option maxRecDepth 100000
namespace Go.Proofs.YtokhnobcincfjaaGreatDoor
open Go.RowKit Go.Sort FR Go.Lib
abbrev srF (f:Int→Option C):Nat→Option C:=fun t=>f (t:Nat)
def SdI (V0:SSt) (W:World) (x l mk me mc mb q:Nat) (gv:Value) (g:G) (tp:Nat) (S:LS) (mkB:Nat→Bool) (f:Int→Option C) (out:List Ed) (h:Nat→C) (n:Nat) (cs cd:Int) (b4:Nat) (L:List Ed) (A:Option Addr) (LA:List Ed) (gk:Nat) (j:Nat) (wr:World):Prop:=
 ∃Sh lab hp bk,HtS W wr x l mk me mc mb q gv Sh (mapI (mkV mkB)) (finV f) lab hp bk∧SrJ V0 g tp S mkB (srF f) out h lab hp bk n (PendS S tp mkB n L j) (fun _ _=>False) gk∧lab n=some ⟨cs,cd⟩ ∧
  wr.cell? ⟨b4,0,none⟩=some (.int .i64 cs)∧wr.cell? ⟨b4,1,none⟩=some (.int .i64 cd)∧b4∉mc :: mb :: Sh∧EdsAt wr A LA∧(0<LA.length→∀ad,A=some ad→ad.block∉mc :: mb :: Sh)
def SdD (V0:SSt) (W w:World) (x l mk me mc mb q:Nat) (gv:Value) (g:G) (tp:Nat) (S:LS) (mkB:Nat→Bool) (f:Int→Option C) (out:List Ed) (h:Nat→C) (n:Nat) (gk:Nat) (e:Ending) (w':World):Prop:=
 e=.returned (.tuple #[])∧∃Sh lab hp bk,HtS W w' x l mk me mc mb q gv Sh (mapI (mkV mkB)) (finV f) lab hp bk∧SrJ V0 g tp S mkB (srF f) out h lab hp bk n (fun _ _=>False) (fun _ _=>False) gk
theorem EdsAt.kept0 {w w':World} {A:Option Addr} {L:List Ed} {T:List Nat} (h:EdsAt w A L) (hk:Kept T w w') (hT:0<L.length→∀ad,A=some ad→ad.block∉T):EdsAt w' A L:=fun hl=>by
 exact (h.kept (T:=T) hk (hT hl)) hl
section
variable {V0:SSt} {W w w':World} {x l mk me mc mb q:Nat} {gv:Value} {g:G} {tp:Nat} {S:LS} {mkB:Nat→Bool} {f:Int→Option C} {out:List Ed} {h:Nat→C} {n:Nat} {cs cd:Int} {b4:Nat} {L:List Ed} {A:Option Addr} {LA:List Ed} {gk j:Nat}
theorem SdI.reach {Sh : List Nat} {lab2 hp2 : Nat → Option C} {bk2 : Nat → Int} {e : Ending} (hR : ReD W w x l mk me mc mb q gv Sh (mapI (mkV mkB)) (finV f) lab2 hp2 bk2 e w') (I : SrJ V0 g tp S mkB (srF f) out h lab2 hp2 bk2 n (PendS S tp mkB n L j) (fun _ _ => False) gk)
    (hln:lab2 n=some ⟨cs,cd⟩) (c0:w.cell? ⟨b4,0,none⟩=some (.int .i64 cs)) (c1:w.cell? ⟨b4,1,none⟩=some (.int .i64 cd)) (hb:b4∉mc :: mb :: Sh) (hE:EdsAt w A LA) (hA:0<LA.length→∀ad,A=some ad→ad.block∉mc :: mb :: Sh) :
    SdI V0 W x l mk me mc mb q gv g tp S mkB f out h n cs cd b4 L A LA gk j w':=by
 obtain ⟨S',h1,h2,h3⟩:=hR.out;have lb:=World.block_lt_of_cell? _ _ c0
 refine ⟨S',lab2,hp2,bk2,h1,I,hln,cellK h2 hb c0,cellK h2 hb c1,h3 _ lb hb,hE.kept0 h2 hA,fun hp ad e=>?_⟩
 obtain ⟨g',e',hl,_⟩:=hE hp
 rw [e'] at e;injection e with e;subst e
 exact h3 g' hl (hA hp _ e')
theorem SdI.below (hP:SdI V0 W x l mk me mc mb q gv g tp S mkB f out h n cs cd b4 L A LA gk j w) (hb:Below w.heap.size w w'):SdI V0 W x l mk me mc mb q gv g tp S mkB f out h n cs cd b4 L A LA gk j w':=by
 obtain ⟨Sh,lab,hp,bk,h1,h2,h3,h4,h5,h6,h7,h8⟩:=hP;exact ⟨Sh,lab,hp,bk,h1.below hb,h2,h3,bel_cell hb h4,bel_cell hb h5,h6,h7.below hb,h8⟩
theorem SdI.to {j':Nat} (hP:SdI V0 W x l mk me mc mb q gv g tp S mkB f out h n cs cd b4 L A LA gk j w) (hp':∀b e,PendS S tp mkB n L j b e→PendS S tp mkB n L j' b e):SdI V0 W x l mk me mc mb q gv g tp S mkB f out h n cs cd b4 L A LA gk j' w:=by
 obtain ⟨Sh,lab,hp,bk,h1,h2,h3⟩:=hP
 exact ⟨Sh,lab,hp,bk,h1,h2.weak hp' (fun _ _ h=>h),h3⟩
end
theorem pushed_other {lab:Nat→Option C} {b n:Nat} {c:C} {tb:Bool} (h:n≠b):pushed lab b c tb n=lab n:=by
 unfold pushed;split
 ·exact FR.upd_ne _ _ h
 ·rfl
theorem finLook {w:World} {me n:Nat} {f:Int→Option C} (h:MapAt iK w me (finV f) n) (z:Int):∃(ds dd:Int) (is:Bool),(is=true→f z=some ⟨ds,dd⟩)∧(is=false→f z=none∧ds=0∧dd=0)∧∀w',Below w.heap.size w w'→(Instr.lookup 246 (.map (some me)) (.int .i64 z) true).run Tryz.prog w'=.ok (.tuple #[.agg #[.int .i64 ds,.int .i64 dd],.bool is]) w':=by
 cases hf:f z with
 | none=>exact ⟨0,0,false,(fun h=>nomatch h),fun _=>⟨rfl,rfl,rfl⟩,fun w' hb=>costLook_out (h.below hb) (by unfold finV;rw [hf];rfl)⟩
 | some d=>exact ⟨d.s,d.d,true,fun _=>rfl,(fun h=>nomatch h),fun w' hb=>costLook_in (h.below hb) (by unfold finV;rw [hf];rfl)⟩
theorem srSpread (V0 : SSt) (W w : World) (x l lml lme nl mk me mc mb q gf : Nat) (gc : Array Value) (Sh Sb : List Nat) (f : Int → Option C) (mkB : Nat → Bool) (lab hp : Nat → Option C) (bk : Nat → Int) (g : G) (tp : Nat) (S : LS) (out : List Ed) (h : Nat → C) (n gk : Nat)
    (G0:SrG g tp S out (srF f) h) (hLv:LvOf W l lml lme Sb (tp:Nat) (levV g S) nl (egE g S)) (hS:HtS W w x l mk me mc mb q (.func (.func gf) #[] gc) Sh (mapI (mkV mkB)) (finV f) lab hp bk) (hg:GuessOk W gf gc g h) (hn:g.Corner n) (cs cd:Int) (hln:lab n=some ⟨cs,cd⟩)
    (I:SrJ V0 g tp S mkB (srF f) out h lab hp bk n (srE S tp mkB (srF f) n) (fun _ _=>False) gk) :
    Calls Tryz.prog 151 #[.pointer (some ⟨x,0,none⟩),.int .i64 (n:Nat)] w (SdD V0 W w x l mk me mc mb q (.func (.func gf) #[] gc) g tp S mkB f out h n gk):=by
 have hn256:=G.n_le G0.ok;have hnlt:=hn.1;obtain ⟨k0,_,k2,k3,k4,_,_⟩:=hS.cells;obtain ⟨l1,l2,l3,l4,l5,l6⟩:=hS.lts;obtain ⟨nC,hMC⟩:=hS.mapC;obtain ⟨nE,hME⟩:=hS.mapE;have hsm:=I.small G0.ok hln;simp only at hsm
 have hlk1:(Instr.lookup 246 (.map (some mc)) (.int .i64 ((n:Nat):Int)) false).run Tryz.prog w=.ok (.agg #[.int .i64 cs,.int .i64 cd]) w:=by
  have:=(hMC.look (int_fit Tryz.underlying3) Tryz.underlying246 (cost_zero w) ((n:Nat):Int)).2;rw [mapI_nat] at this;unfold doneV at this;rw [hln] at this;exact this
 obtain ⟨ds,dd,is,his1,his2,hlk2⟩:=finLook hME (n:Nat);have His:=Lib.hid (And.intro his1 his2);have Hlk2:=Lib.hid hlk2;have HS:=Lib.hid hS;have HG:=Lib.hid (And.intro G0 (And.intro hLv (And.intro hg hn)));have HI:=Lib.hid (And.intro I hln);have hl6:=Lib.hid l6;clear hMC hME hS G0 hLv hg hn I hln his1 his2 hlk2 l6;go_enter Tryz.func151,Tryz.ntmps151
 go_upto_region 1 with (fail)
 refine wp_name ?_;intro W1 hW1
 have HW1:Below w.heap.size w W1:=by rw [hW1];(repeat' (first | exact Below.refl _ _ | assumption | apply bel_drewN | apply bel_drew | apply bel_alloc | (refine bel_trans ?_ (by assumption))))
 have c0:W1.cell? ⟨w.heap.size,0,none⟩=some (.int .i64 cs):=by rw [hW1];go_simp
 have c1:W1.cell? ⟨w.heap.size,1,none⟩=some (.int .i64 cd):=by rw [hW1];go_simp
 obtain ⟨b4,hb4⟩:∃z,w.heap.size=z:=⟨_,rfl⟩;have k0:=bel_cell HW1 k0;have k2:=bel_cell HW1 k2;have k3:=bel_cell HW1 k3;have HS1:=Lib.hid (HS.out.below HW1);have hlk2:=Hlk2.out W1 HW1
 have hb4S:b4∉mc :: mb :: Sh:=fun hm=>by
  simp only [List.mem_cons] at hm
  rcases hm with r | r | r
  ·omega
  ·omega
  ·have:=hl6.out _ r;omega
 rw [hb4] at c0 c1 ⊢
 clear hW1 hlk1 HS Hlk2
 go_upto_region 2 with (fail)
 refine wp_name ?_;intro W2 hW2
 have HW2:Below W1.heap.size W1 W2:=by rw [hW2];(repeat' (first | exact Below.refl _ _ | assumption | apply bel_drewN | apply bel_drew | apply bel_alloc | (refine bel_trans ?_ (by assumption))))
 have d0:W2.cell? ⟨W1.heap.size,0,none⟩=some (.int .i64 ds):=by rw [hW2];go_simp
 have d1:W2.cell? ⟨W1.heap.size,1,none⟩=some (.int .i64 dd):=by rw [hW2];go_simp
 obtain ⟨b5,hb5⟩:∃z,W1.heap.size=z:=⟨_,rfl⟩;have k0:=bel_cell HW2 k0;have k2:=bel_cell HW2 k2;have c0:=bel_cell HW2 c0;have c1:=bel_cell HW2 c1;have HS2:=Lib.hid (HS1.out.below HW2)
 rw [hb5] at d0 d1 ⊢
 clear hW2 HW2 HS1 hlk2 hb5 k3 HW1
 go_upto_if 30 with (fail)
 go_cut [] (fun wx=>SdI V0 W x l mk me mc mb q (.func (.func gf) #[] gc) g tp S mkB f out h n cs cd b4 (EgL S g.n n) none [] gk 0 wx)
 case first=>
  cases is with
  | false=>
   have hF:SdI V0 W x l mk me mc mb q (.func (.func gf) #[] gc) g tp S mkB f out h n cs cd b4 (EgL S g.n n) none [] gk 0 W2:=by
    refine ⟨Sh,lab,hp,bk,HS2.out,HI.out.1.weak (fun b e hbe=>?_) (fun _ _ h=>h),HI.out.2,c0,c1,hb4S,(fun h=>absurd h (by simp)),(fun h=>absurd h (by simp))⟩
    rcases PendS.first (g:=g) (fun y c m hy=>(HG.out.1.fn.corner _ _ (by rw [hy];simp)).2.1.1) hbe with r | ⟨_,r⟩
    ·exact r
    ·have:=(His.out.2 rfl).1
     rw [show srF f n=f (n:Nat) from rfl,this] at r;cases r
   have hF:=Lib.hid hF;clear HS2 c0 c1 d0 d1 k0 k2;go_wp2;go_meet
   case rel=>exact hF.out
  | true=>
   have hfn:=His.out.1 rfl;have hfb:=HG.out.1.fok n _ hfn;simp only at hfb
   have cA:=Lib.hid (fun w=>costAdd cs cd ds dd w (by unfold inC;omega) (by unfold inC;omega) (by unfold inC;omega) (by unfold inC;omega))
   obtain ⟨tb,htb⟩:∃t,lower? lab 256 ⟨cs+ds,cd+dd⟩=t:=⟨_,rfl⟩;have hadd:C.add ⟨cs,cd⟩ ⟨ds,dd⟩=⟨cs+ds,cd+dd⟩:=rfl
   have cR:=Lib.hid (fun w' h'=>srReach W w' x l mk me mc mb q gf gc Sh (mapI (mkV mkB)) (finV f) lab hp bk g h HG.out.1.ok h' HG.out.2.2.1 HG.out.1.hT HG.out.1.hok 256 (.inr rfl) 256 rfl (n:Nat) (cs+ds) (cd+dd) (by omega) tb htb (fun d hd=>by have:=HI.out.1.small HG.out.1.ok hd;omega) (fun h1=>HI.out.1.low htb h1))
   have hI2:SrJ V0 g tp S mkB (srF f) out h (pushed lab 256 ⟨cs+ds,cd+dd⟩ tb) (pushed hp 256 (C.add ⟨cs+ds,cd+dd⟩ (h 256)) tb) (if tb=true then FR.upd bk 256 (n:Nat) else bk) n (PendS S tp mkB n (EgL S g.n n) 0) (fun _ _=>False) gk:=by
    refine HI.out.1.step HG.out.1 (.inr rfl) (.inl (by omega)) ⟨⟨cs,cd⟩,⟨ds,dd⟩,HI.out.2,by omega,.inr ⟨by omega,rfl,hfn⟩,hadd.symm⟩ (fun b e hbe=>?_) (fun _ _ h=>h.elim) htb
    rcases PendS.first (g:=g) (fun y c m hy=>(HG.out.1.fn.corner _ _ (by rw [hy];simp)).2.1.1) hbe with r | ⟨r1,r2⟩
    ·exact .inl r
    ·refine .inr ⟨r1,fun c hc=>?_⟩
     rw [HI.out.2] at hc;injection hc with hc;subst hc
     rw [show srF f n=f (n:Nat) from rfl,hfn] at r2;injection r2 with r2;subst r2
     exact C.le_refl _
   have hln2:pushed lab 256 ⟨cs+ds,cd+dd⟩ tb n=some ⟨cs,cd⟩:=by rw [pushed_other (by omega)];exact HI.out.2
   have hI2:=Lib.hid (And.intro hI2 hln2);have Hfb:=Lib.hid (And.intro hfb hfn);clear hln2 htb hfn hfb hadd;go_wp2_with fail
   (with_reducible refine (cA.out _).mono ?_)
   rintro e w3 ⟨rfl,hb3⟩;have c0:=bel_cell hb3 c0;have c1:=bel_cell hb3 c1;have HS3:=Lib.hid (HS2.out.below hb3);clear HS2 hb3 d0 d1 cA k0 k2;go_wp2_with fail
   (with_reducible refine (cR.out _ HS3.out).mono ?_)
   rintro e w4 hR
   have hF:=SdI.reach hR hI2.out.1 hI2.out.2 c0 c1 hb4S (A:=none) (LA:=[]) (fun h=>absurd h (by simp)) (fun h=>absurd h (by simp))
   have hF:=Lib.hid hF;obtain ⟨rfl,_⟩:=hR;clear HS3 c0 c1 cR hI2;go_wp2;go_meet
   case rel=>exact hF.out
 case rest=>
  obtain ⟨Sh2,lab2,hp2,bk2,hS,hI,hln,e0,e1,hbS,_,_⟩:=hcut;obtain ⟨k0,_,k2,_,_,_,_⟩:=hS.cells;have l62:=Lib.hid hS.lts.2.2.2.2.2;obtain ⟨_,_,_,l42,l52,_⟩:=hS.lts;have hlvl:=levV_at (g:=g) (S:=S) HG.out.2.2.2;have cV:=Lib.hid (lvLevel_in wc l lml lme nl Sb (tp:Nat) (levV g S) (egE g S) (HG.out.2.1.below hS.bel) (n:Nat) _ hlvl)
  have cE:=Lib.hid (lvEdgesP_in wc l lml lme nl Sb (tp:Nat) (levV g S) (egE g S) (HG.out.2.1.below hS.bel) (n:Nat) _ hlvl (EgL S g.n n) (egE_at HG.out.2.2.2) (by have:=len_EgL S g.n n;omega))
  obtain ⟨ln,hlnn⟩:∃z,S.lev n=z:=⟨_,rfl⟩;rw [hlnn] at cV;have Hlnn:=Lib.hid hlnn;have HS:=Lib.hid hS;have HI2:=Lib.hid (And.intro hI hln);clear HS2 c0 c1 d0 d1 hlvl hlnn hS hI hln His HI;go_wp2_with fail
  (with_reducible refine cV.out.mono ?_)
  rintro e w' ⟨rfl,rfl⟩;clear cV;go_wp2_with fail
  (with_reducible refine cE.out.mono ?_)
  rintro e w5 ⟨vE,rfl,hOE,hb5⟩;obtain ⟨A1,m1,rfl,hEd⟩:=hOE.eds
  have hA1:0<(EgL S g.n n).length→∀ad,A1=some ad→ad.block∉mc :: mb :: Sh2:=fun hpos ad e hm=>by
   obtain ⟨g',e1,_,_⟩:=hEd hpos
   rw [e1] at e;injection e with e;subst e
   have hlt:=(World.ownsRow.lt hOE g' (by rw [e1];rfl)).1
   simp only [List.mem_cons] at hm
   rcases hm with r | r | r
   ·omega
   ·omega
   ·have:=l62.out _ r;omega
  obtain ⟨L,hL⟩:∃L,EgL S g.n n=L:=⟨_,rfl⟩;have HI3:=HI2.out.1
  rw [hL] at hEd hA1 HI3 ⊢
  have hin:SdI V0 W x l mk me mc mb q (.func (.func gf) #[] gc) g tp S mkB f out h n cs cd b4 L A1 L gk 0 w5:=⟨Sh2,lab2,hp2,bk2,HS.out.below hb5,HI3,HI2.out.2,bel_cell hb5 e0,bel_cell hb5 e1,hbS,hEd,hA1⟩;obtain ⟨nL,hnL⟩:∃nL,L.length=nL:=⟨_,rfl⟩
  have hnl256:nL≤256:=by have:=len_EgL S g.n n;rw [hL,hnL] at this;omega
  rw [hnL];have HL:=Lib.hid (And.intro hL hnL);clear hOE hEd hA1 hL hnL HS HI2 HI3 e0 e1 cE hb5 k0 k2 hbS l62 l42 l52;go_wp2_with fail
  go_loopw [57] (fun kv wr=>∃j:Nat,j≤nL∧kv=.int .i64 j∧SdI V0 W x l mk me mc mb q (.func (.func gf) #[] gc) g tp S mkB f out h n cs cd b4 L A1 L gk j wr) (fun kv _=>nL-(intOf kv).toNat)
  case atStart=>exact ⟨0,by omega,rfl,hin⟩
  case round=>
   obtain ⟨j,hj,rfl,Sj,labj,hpj,bkj,hS,hI,hln,e0,e1,hbS,hEd,hA1⟩:=hrel;clear hin
   by_cases hlj:j<nL
   ·obtain ⟨y,hy⟩:∃y,L[j]? = some y:=⟨L[j]'(by rw [HL.out.2];exact hlj),List.getElem?_eq_getElem _⟩
    obtain ⟨t,ht1,ht2,ht3⟩:=mem_EgL.1 (by rw [HL.out.1];exact List.mem_of_getElem? hy:y∈EgL S g.n n)
    obtain ⟨gb,hA,a1,a2,a3,a4⟩:=hEd.get hy
    have hix:=fun wx=>idxE (m:=m1) hA hlj wx
    obtain ⟨xt,⟨xs,xd⟩,xm⟩:=y;simp only at a1 a2 a3 a4 ht2 ht3;subst ht2
    have hcor:=HG.out.1.fn.corner n t (by rw [ht3];simp)
    have hsx:=HG.out.1.fn.small _ _ _ _ ht3;simp only at hsx;obtain ⟨k0,_,k2,_,_,_,_⟩:=hS.cells;obtain ⟨nK,hMK⟩:=hS.mapK
    have hmkl:=mkLook hMK ((t:Nat):Int) (mkB t) (by simp)
    have Hmk:=Lib.hid hmkl;have Hy:=Lib.hid (And.intro hy (And.intro ht3 (And.intro hcor hsx)));have HI:=Lib.hid (And.intro hI hln);have HS:=Lib.hid hS;have HEd:=Lib.hid (And.intro hEd hA1);clear hA hy ht3 hcor hsx hS hI hln hEd hA1 hMK hmkl
    go_upto_region 9 with (fail)
    refine wp_name ?_;intro W6 hW6
    have HW6:Below wr.heap.size wr W6:=by rw [hW6];(repeat' (first | exact Below.refl _ _ | assumption | apply bel_drewN | apply bel_drew | apply bel_alloc | (refine bel_trans ?_ (by assumption))))
    have o0:W6.cell? ⟨wr.heap.size,0,none⟩=some (.int .i64 (t:Nat)):=by rw [hW6];go_simp
    have o1:W6.cell? ⟨wr.heap.size,1,none⟩=some (.int .i64 xs):=by rw [hW6];go_simp
    have o2:W6.cell? ⟨wr.heap.size,2,none⟩=some (.int .i64 xd):=by rw [hW6];go_simp
    obtain ⟨b12,hb12⟩:∃z,wr.heap.size=z:=⟨_,rfl⟩
    have hbt:b12∉mc :: mb :: Sj:=fun hm=>by
     obtain ⟨_,_,_,q4,q5,q6⟩:=HS.out.lts;simp only [List.mem_cons] at hm
     rcases hm with r | r | r
     ·omega
     ·omega
     ·have:=q6 _ r;omega
    have k0:=bel_cell HW6 k0;have k2:=bel_cell HW6 k2;have e0:=bel_cell HW6 e0;have e1:=bel_cell HW6 e1;have HS6:=Lib.hid (HS.out.below HW6);have HE6:=Lib.hid (HEd.out.1.below HW6);have hA1:=Lib.hid HEd.out.2
    have hmk6:∀w',Below W6.heap.size W6 w'→(Instr.lookup 244 (.map (some mk)) (.int .i64 ((t:Nat):Int)) false).run Tryz.prog w'=.ok (.bool (mkB t)) w':=fun w' hb=>Hmk.out w' (bel_trans HW6 hb)
    have Hmk6:=Lib.hid hmk6
    rw [hb12] at o0 o1 o2 ⊢
    have hlvt:=levV_at (g:=g) (S:=S) Hy.out.2.2.1.2.1
    have cV:=Lib.hid (fun w' hb=>lvLevel_in w' l lml lme nl Sb (tp:Nat) (levV g S) (egE g S) ((HG.out.2.1.below HS6.out.bel).below hb) (t:Nat) _ hlvt)
    have cT:=Lib.hid (fun w' hb=>lvTop w' l lml lme nl Sb (tp:Nat) (levV g S) (egE g S) ((HG.out.2.1.below HS6.out.bel).below hb))
    obtain ⟨lt,hltt⟩:∃z,S.lev t=z:=⟨_,rfl⟩;rw [hltt] at cV;have Hltt:=Lib.hid hltt;clear hW6 HW6 HS HEd a1 a2 a3 a4 hix hb12 Hmk hmk6 hlvt hltt;have hd6:=bel_drew (Below.refl W6.heap.size W6);have q6:W6.drew.cell? ⟨x,0,none⟩=some (.pointer (some ⟨l,0,none⟩))∧W6.drew.cell? ⟨b12,0,none⟩=some (.int .i64 (t:Nat)):=⟨bel_cell hd6 k0,bel_cell hd6 o0⟩
    go_region_held3 (fun w'=>w'.cell? ⟨x,0,none⟩=some (.pointer (some ⟨l,0,none⟩))∧w'.cell? ⟨b12,0,none⟩=some (.int .i64 (t:Nat)))
     (first
      | exact ⟨k0,o0⟩
      | exact q6)
     (first
      | (go_at_call 147
         refine (cV.out _ hd6).mono ?_;rintro e wV ⟨rfl,rfl⟩))
    have k0:=bel_cell hd6 k0;have k2:=bel_cell hd6 k2;have e0:=bel_cell hd6 e0;have e1:=bel_cell hd6 e1;have o0:=bel_cell hd6 o0;have o1:=bel_cell hd6 o1;have o2:=bel_cell hd6 o2;have HS7:=Lib.hid (HS6.out.below hd6);have HE7:=Lib.hid (HE6.out.below hd6)
    have cT:=Lib.hid (fun w' hb=>cT.out w' (bel_trans hd6 hb))
    have Hmk7:Hid (∀w',Below W6.drew.heap.size W6.drew w'→(Instr.lookup 244 (.map (some mk)) (.int .i64 ((t:Nat):Int)) false).run Tryz.prog w'=.ok (.bool (mkB t)) w'):=Lib.hid (fun w' hb=>Hmk6.out w' (bel_trans hd6 hb))
    clear q6 HS6 HE6 Hmk6 cV hd6
    generalize W6.drew=W7 at *
    obtain ⟨tk,htk⟩:∃tk,(decide (ln<lt) || decide (lt=tp) || mkB t)=tk:=⟨_,rfl⟩
    have Htk:=Lib.hid htk;clear htk
    have cTq:=Lib.hid (fun d os=>(cT.out (grow (redrawn W7 d) os) (below_regrown W7 d os)).mono (R':=fun e w'=>e=.returned (.int .i64 (tp:Nat))∧Below (grow (redrawn W7 d) os).heap.size (grow (redrawn W7 d) os) w') (by rintro e w' ⟨h1,rfl⟩;exact ⟨h1,Below.refl _ _⟩))
    have k0q:=cell_regrown k0;have k2q:=cell_regrown k2;have o0q:=cell_regrown o0
    have hmkq:∀d os,(Instr.lookup 244 (.map (some mk)) (.int .i64 ((t:Nat):Int)) false).run Tryz.prog (grow (redrawn W7 d) os)=.ok (.bool (mkB t)) (grow (redrawn W7 d) os):=fun d os=>Hmk7.out _ (below_regrown W7 d os)
    have HR7:=Below.refl W7.heap.size W7
    go_upto_region 10 with (fail)
    go_cut [91] (fun s wx=>s=.bool tk∧Below W7.heap.size W7 wx)
    case first=>
     by_cases hlt:ln<lt
     ·have hdl:decide (((ln:Nat):Int)<((lt:Nat):Int))=true:=by simp;omega
      have ht:tk=true:=by rw [←Htk.out];simp [hlt]
      subst ht;clear k0q k2q o0q hmkq;go_quiet (fail);go_wp2;go_meet
      case rel=>exact ⟨rfl,by (repeat' (first | exact Below.refl _ _ | assumption | apply bel_drewN | apply bel_drew | apply bel_alloc | (refine bel_trans ?_ (by assumption))))⟩
     ·have hdl:decide (((ln:Nat):Int)<((lt:Nat):Int))=false:=by simp;omega
      by_cases htt:lt=tp
      ·have hde:(((lt:Nat):Int) == ((tp:Nat):Int))=true:=by rw [htt];simp
       have ht:tk=true:=by rw [←Htk.out];simp [htt]
       subst ht;clear hmkq htt
       refine wp_region_quiet_below (by kernel_rfl) (by kernel_rfl) ?_
       repeat (first | go_big_quiet_step (with_reducible exact Calls.regrown_of (cTq.out _ _)) | quiet_step (with_reducible exact Calls.regrown_of (cTq.out _ _)))
       refine wpQuiet_nil ?_;intro _ hw';obtain ⟨⟨dq,osq⟩,hw''⟩:=hw';have HR9:=bel_trans HR7 (below_regrown W7 dq osq);have hb2:=below_regrown W7 dq osq;subst hw''
       generalize grow (redrawn W7 dq) osq=W9 at HR9 hb2 ⊢
       go_wp2;go_meet
       case rel=>exact ⟨rfl,HR9⟩
      ·have hde:(((lt:Nat):Int) == ((tp:Nat):Int))=false:=by simp;omega
       have ht:mkB t=tk:=by rw [←Htk.out];simp [hlt,htt]
       rw [ht] at hmkq;clear htt ht
       refine wp_region_quiet_below (by kernel_rfl) (by kernel_rfl) ?_
       repeat (first | go_big_quiet_step (with_reducible exact Calls.regrown_of (cTq.out _ _)) | quiet_step (with_reducible exact Calls.regrown_of (cTq.out _ _)))
       refine wpQuiet_nil ?_;intro _ hw';obtain ⟨⟨dq,osq⟩,hw''⟩:=hw';have HR9:=bel_trans HR7 (below_regrown W7 dq osq);have hb2:=below_regrown W7 dq osq;subst hw''
       generalize grow (redrawn W7 dq) osq=W9 at HR9 hb2 ⊢
       go_wp2;go_meet
       case rel=>exact ⟨rfl,HR9⟩
    case rest=>
     obtain ⟨rfl,hbe⟩:=hcut;have HS8:=Lib.hid (HS7.out.below hbe);have HE8:=Lib.hid (HE7.out.below hbe);have e0:=bel_cell hbe e0;have e1:=bel_cell hbe e1;have o0:=bel_cell hbe o0;have o1:=bel_cell hbe o1;have o2:=bel_cell hbe o2;clear HS7 HE7 Hmk7 cT cTq k0 k2 k0q k2q o0q hmkq HR7 hbe
     have hiff:(S.lev n<S.lev t∨S.lev t=tp∨mkB t=true)↔tk=true:=by
      rw [←Htk.out,Hlnn.out,Hltt.out];simp [or_assoc]
     have Hiff:=Lib.hid hiff;clear hiff
     cases tk with
     | false=>
      have hF:SdI V0 W x l mk me mc mb q (.func (.func gf) #[] gc) g tp S mkB f out h n cs cd b4 L A1 L gk (j+1) wc:=
       ⟨Sj,labj,hpj,bkj,HS8.out,HI.out.1.weak (fun b e hb=>PendS.skip Hy.out.1 rfl (fun hh=>nomatch (Hiff.out.1 hh)) b e hb) (fun _ _ h=>h),HI.out.2,e0,e1,hbS,HE8.out,hA1.out⟩
      have hF:=Lib.hid hF;clear HS8 HE8 e0 e1 o0 o1 o2 hbS;go_wp2;go_roundw
      case rel=>first | exact ⟨j+1,by omega,by go_num,hF.out⟩ | ((repeat apply Exists.intro);exact ⟨⟨j+1,by omega,by go_num,hF.out⟩,rfl⟩)
      case measure=>simp [intOf];omega
     | true=>
      have hsm:=HI.out.1.small HG.out.1.ok HI.out.2;simp only at hsm;have hsx:=Hy.out.2.2.2
      have cA:=Lib.hid (fun w=>costAdd cs cd xs xd w (by unfold inC;omega) (by unfold inC;omega) (by unfold inC;omega) (by unfold inC;omega))
      obtain ⟨tb,htb⟩:∃z,lower? labj t ⟨cs+xs,cd+xd⟩=z:=⟨_,rfl⟩;have hadd:C.add ⟨cs,cd⟩ ⟨xs,xd⟩=⟨cs+xs,cd+xd⟩:=rfl
      have cR:=Lib.hid (fun w' h'=>srReach W w' x l mk me mc mb q gf gc Sj (mapI (mkV mkB)) (finV f) labj hpj bkj g h HG.out.1.ok h' HG.out.2.2.1 HG.out.1.hT HG.out.1.hok t (.inl Hy.out.2.2.1.2.1) (t:Nat) rfl (n:Nat) (cs+xs) (cd+xd) (by omega) tb htb (fun d hd=>by have:=HI.out.1.small HG.out.1.ok hd;omega) (fun h1=>HI.out.1.low htb h1))
      have hnt:n≠t:=Hy.out.2.2.1.2.2
      have hI2:SrJ V0 g tp S mkB (srF f) out h (pushed labj t ⟨cs+xs,cd+xd⟩ tb) (pushed hpj t (C.add ⟨cs+xs,cd+xd⟩ (h t)) tb) (if tb=true then FR.upd bkj t (n:Nat) else bkj) n (PendS S tp mkB n L (j+1)) (fun _ _=>False) gk:=by
       refine HI.out.1.step HG.out.1 (.inl Hy.out.2.2.1.2.1) (.inl (Ne.symm hnt)) ⟨⟨cs,cd⟩,⟨xs,xd⟩,HI.out.2,hnt,.inl ⟨by omega,by omega,Hiff.out.2 rfl,xm,Hy.out.2.1⟩,hadd.symm⟩ (fun b e hbe=>?_) (fun _ _ h=>h.elim) htb
       rcases PendS.next Hy.out.1 rfl b e hbe with r | ⟨r1,r2⟩
       ·exact .inl r
       ·refine .inr ⟨r1,fun c hc=>?_⟩
        rw [HI.out.2] at hc;injection hc with hc;subst hc
        rw [r2];exact C.le_refl _
      have hln2:pushed labj t ⟨cs+xs,cd+xd⟩ tb n=some ⟨cs,cd⟩:=by rw [pushed_other hnt];exact HI.out.2
      have hI2:=Lib.hid (And.intro hI2 hln2);have hd8:=bel_drew (Below.refl wc.heap.size wc);have hbS':=Lib.hid hbS;have hbt':=Lib.hid hbt;have hS0:wc.drew.cell? ⟨b4,0,none⟩=some (.int .i64 cs)∧wc.drew.cell? ⟨b4,1,none⟩=some (.int .i64 cd)∧wc.drew.cell? ⟨b12,0,none⟩=some (.int .i64 (t:Nat))∧wc.drew.cell? ⟨b12,1,none⟩=some (.int .i64 xs)∧wc.drew.cell? ⟨b12,2,none⟩=some (.int .i64 xd):=⟨bel_cell hd8 e0,bel_cell hd8 e1,bel_cell hd8 o0,bel_cell hd8 o1,bel_cell hd8 o2⟩
      have HS9:=Lib.hid (HS8.out.below hd8);have HE9:=Lib.hid (HE8.out.below hd8);clear hln2 htb hadd hsm hsx hnt e0 e1 o0 o1 o2 HS8 HE8
      go_upto_region 11 with (fail)
      go_region_held3 (fun w'=>w'.cell? ⟨b4,0,none⟩=some (.int .i64 cs)∧w'.cell? ⟨b4,1,none⟩=some (.int .i64 cd)∧w'.cell? ⟨b12,0,none⟩=some (.int .i64 (t:Nat))∧w'.cell? ⟨b12,1,none⟩=some (.int .i64 xs)∧w'.cell? ⟨b12,2,none⟩=some (.int .i64 xd))
       (first
        | exact hS0
        | exact hSA
        | exact hSP)
       ((first
        | (go_at_call 94
           refine (cA.out _).mono ?_;rintro e wA ⟨rfl,hbA⟩;have hSA:wA.cell? ⟨b4,0,none⟩=some (.int .i64 cs)∧wA.cell? ⟨b4,1,none⟩=some (.int .i64 cd)∧wA.cell? ⟨b12,0,none⟩=some (.int .i64 (t:Nat))∧wA.cell? ⟨b12,1,none⟩=some (.int .i64 xs)∧wA.cell? ⟨b12,2,none⟩=some (.int .i64 xd):=⟨bel_cell hbA hS0.1,bel_cell hbA hS0.2.1,bel_cell hbA hS0.2.2.1,bel_cell hbA hS0.2.2.2.1,bel_cell hbA hS0.2.2.2.2⟩)
        | (go_at_call 148
           refine (cR.out _ (HS9.out.below hbA)).mono ?_;rintro e wh hRe;have hF:=SdI.reach hRe hI2.out.1 hI2.out.2 hSA.1 hSA.2.1 hbS'.out (HE9.out.below hbA) hA1.out;have hF:=Lib.hid hF;obtain ⟨rfl,S1,_,_,hKh⟩:=hRe;have hSP:wh.cell? ⟨b4,0,none⟩=some (.int .i64 cs)∧wh.cell? ⟨b4,1,none⟩=some (.int .i64 cd)∧wh.cell? ⟨b12,0,none⟩=some (.int .i64 (t:Nat))∧wh.cell? ⟨b12,1,none⟩=some (.int .i64 xs)∧wh.cell? ⟨b12,2,none⟩=some (.int .i64 xd):=⟨cellK hKh hbS'.out hSA.1,cellK hKh hbS'.out hSA.2.1,cellK hKh hbt'.out hSA.2.2.1,cellK hKh hbt'.out hSA.2.2.2.1,cellK hKh hbt'.out hSA.2.2.2.2⟩)))
      all_goals
       clear cA cR HS9 HE9 hI2 hKh hbA hSA hSP hS0 hd8;go_wp2;go_roundw
       case rel=>first | exact ⟨j+1,by omega,by go_num,hF.out⟩ | ((repeat apply Exists.intro);exact ⟨⟨j+1,by omega,by go_num,hF.out⟩,rfl⟩)
       case measure=>simp [intOf];omega
   ·obtain rfl:j=nL:=by omega
    have hF:SdD V0 W w x l mk me mc mb q (.func (.func gf) #[] gc) g tp S mkB f out h n gk (.returned (.tuple #[])) wr:=⟨rfl,Sj,labj,hpj,bkj,hS,hI.weak (fun b e hb=>PendS.over b e (by rw [HL.out.2];exact hb)) (fun _ _ h=>h)⟩
    have hF:=Lib.hid hF;clear hS hI hln e0 e1 hbS hEd hA1;go_wp2;go_end0;exact hF.out
end Go.Proofs.YtokhnobcincfjaaGreatDoor
