/- Lemmas of this claim: Sr7. -/
import Derived.Test.YtokhnobcincfjaaGreatDoorKNFr34
set_option linter.unusedVariables false
set_option linter.unusedSimpArgs false
set_option maxHeartbeats 6400000
set_option maxRecDepth 100000
namespace Go.Proofs.YtokhnobcincfjaaGreatDoor
open Go.RowKit Go.Sort FR Go.Lib
theorem GuessOk.below {W W':World} {gf:Nat} {gc:Array Value} {g:G} {h:Nat→C} (hg:GuessOk W gf gc g h) (hb:Below W.heap.size W W'):GuessOk W' gf gc g h:=⟨hg.1,fun w hw n hn=>hg.2 w (bel_trans hb hw) n hn⟩
theorem HtS.endput {W w w' : World} {x l mk me mc mb q n : Nat} {gv : Value} {Sh : List Nat} {mkM enM enM' : Int → Option Value} {lab hp : Nat → Option C} {bk : Nat → Int} (h : HtS W w x l mk me mc mb q gv Sh mkM enM lab hp bk) (h1 : x ≠ me) (h2 : mk ≠ me) (h3 : W.heap.size ≤ me)
    (hm:MapAt iK w' me enM' n) (hk:Kept [me] w w'):HtS W w' x l mk me mc mb q gv Sh mkM enM' lab hp bk:=by
 obtain ⟨l1,l2,l3,l4,l5,_⟩:=h.lts;obtain ⟨hx,⟨n1,g1⟩,_,⟨n3,g3⟩,⟨n4,g4⟩,hh,⟨e1,e2,e3,e4,e5,e6,e7⟩,⟨d1,d2,d3,d4,d5⟩,⟨o1,o2,o3⟩,h8⟩:=h
 refine ⟨(hk.block x l1 (by simpa using h1)).trans hx,⟨n1,g1.kept hk (by simpa using h2)⟩,⟨n,hm⟩,⟨n3,g3.kept hk (by simpa using e5.symm)⟩,⟨n4,g4.kept hk (by simpa using e6.symm)⟩,?_,⟨e1,e2,e3,e4,e5,e6,e7⟩,⟨d1,d2,d3,d4,d5⟩,⟨o1,o2,o3⟩,?_⟩
 ·exact hh.kept hk fun k hk' hm=>by simp at hm;subst hm;exact d3 hk'
 ·refine Kept.below h8 hk h8.size ?_
  intro k hk';simp at hk';subst hk';exact h3
def PsK (g:G) (out:List Ed) (k:Nat) (s:Nat) (c:C):Prop:=g.Corner s∧∃(i:Nat) (e:Ed),k≤i∧out[i]? = some e∧e.to_=(s:Nat)∧e.c=c
theorem PsK.of {g:G} {out:List Ed} {s:Nat} {c:C} (h:SrcO g out s c):PsK g out 0 s c:=by
 obtain ⟨hc,i,e,_,h1,h2,h3⟩:=h;exact ⟨hc,i,e,Nat.zero_le _,h1,h2,h3⟩
theorem PsK.next {g:G} {out:List Ed} {k:Nat} {e:Ed} (he:out[k]? = some e) (s:Nat) (c:C) (h:PsK g out k s c):PsK g out (k+1) s c∨(e.to_=(s:Nat)∧g.Corner s∧e.c=c):=by
 obtain ⟨hc,i,x,h1,h2,h3,h4⟩:=h
 by_cases e1:i=k
 ·subst e1
  rw [he] at h2;injection h2 with h2;subst h2
  exact .inr ⟨h3,hc,h4⟩
 ·exact .inl ⟨hc,i,x,by omega,h2,h3,h4⟩
theorem PsK.over {g:G} {out:List Ed} (s:Nat) (c:C):¬PsK g out out.length s c:=by
 rintro ⟨_,i,x,h1,h2,_⟩;have:=(List.getElem?_eq_some_iff.1 h2).1;omega
def BeD (w:World) (g:G) (out inn:List Ed) (e:Ending) (w':World):Prop:=
 ∃v c fd,e=.returned (.tuple #[v,costV c,.bool fd])∧BestIs g out inn c fd∧(fd=false→v=.slice none 0 0)∧Below w.heap.size w w' ∧
  (fd=true→∃A m Wy f,v=.slice A Wy.length m∧Wy.length≤m∧Ints w' A Wy.length (fun k=>(natI Wy).getD k 0)∧(∀ad,A=some ad→w.heap.size≤ad.block)∧Wy.length≤2000000∧FinK inn inn.length f∧WayIs g (srF f) out c Wy)
def BestRun (g:G) (tp:Nat) (S:LS) (h:Nat→C) (out inn:List Ed) (Wy:List Nat):Prop:=
 ∃(mkB:Nat→Bool) (f:Int→Option C) (i:Nat) (V:SSt) (d:C) (P:List Nat),(∀b,mkB b=true↔MkE g S inn b)∧FinK inn inn.length f∧RunS (srE S tp mkB (srF f)) (SrcO g out) h i V∧LeastH V.hp 256 d∧ChB V.bk (V.bk 256) P∧JnU S P.reverse Wy
theorem FinK.one {inn:List Ed} {f f':Int→Option C} (h:FinK inn inn.length f) (k:FinK inn inn.length f'):f=f':=by
 have key:∀ {f f':Int→Option C},FinK inn inn.length f→FinK inn inn.length f'→∀ {z c},f z=some c→∃c',f' z=some c'∧C.le c' c:=by
  intro f f' h k z c hz;obtain ⟨e,he,rfl,rfl⟩:=h.some_ z c hz;obtain ⟨i,hi⟩:=List.getElem?_of_mem he;exact k.least i e (List.getElem?_eq_some_iff.1 hi).1 hi
 funext z
 cases hf:f z with
 | none=>
  cases hf':f' z with
  | none=>rfl
  | some c=>obtain ⟨c',q,_⟩:=key k h hf';rw [hf] at q;cases q
 | some c=>
  obtain ⟨c',q,q2⟩:=key h k hf;obtain ⟨c2,r,r2⟩:=key k h q
  rw [hf] at r;injection r with r;subst r
  rw [q,C.le_antisymm r2 q2]
theorem BestRun.det {g:G} {tp:Nat} {S:LS} {h:Nat→C} {out inn:List Ed} {Wy Wz:List Nat} (H:BestRun g tp S h out inn Wy) (K:BestRun g tp S h out inn Wz):Wy=Wz:=by
 obtain ⟨mk,f,i,V,d,P,h1,h2,h3,h4,h5,h6⟩:=H;obtain ⟨mk',f',i',V',d',P',k1,k2,k3,k4,k5,k6⟩:=K;obtain rfl:=h2.one k2
 obtain rfl:mk=mk':=funext fun b=>Bool.eq_iff_iff.2 ((h1 b).trans (k1 b).symm)
 obtain rfl:=h3.fin (srE_one_ S tp _ _) k3 (.inr ⟨d,h4⟩) (.inr ⟨d',k4⟩);obtain rfl:=h5.one k5;exact h6.det k6
def BeX (w:World) (g:G) (tp:Nat) (S:LS) (h:Nat→C) (out inn:List Ed) (e:Ending) (w':World):Prop:=
 ∃v c fd,e=.returned (.tuple #[v,costV c,.bool fd])∧BestIs g out inn c fd∧(fd=false→v=.slice none 0 0)∧Below w.heap.size w w' ∧
  (fd=true→∃A m Wy f,v=.slice A Wy.length m∧Wy.length≤m∧Ints w' A Wy.length (fun k=>(natI Wy).getD k 0)∧(∀ad,A=some ad→w.heap.size≤ad.block)∧Wy.length≤2000000∧FinK inn inn.length f∧WayIs g (srF f) out c Wy∧BestRun g tp S h out inn Wy)
theorem BeX.to {w:World} {g:G} {tp:Nat} {S:LS} {h:Nat→C} {out inn:List Ed} {e:Ending} {w':World} (H:BeX w g tp S h out inn e w'):BeD w g out inn e w':=by
 obtain ⟨v,c,fd,h1,h2,h3,h4,h5⟩:=H
 exact ⟨v,c,fd,h1,h2,h3,h4,fun q=>by obtain ⟨A,m,Wy,f,q1,q2,q3,q4,q5,q6,q7,_⟩:=h5 q;exact ⟨A,m,Wy,f,q1,q2,q3,q4,q5,q6,q7⟩⟩
def BeE (W:World) (x l mk me mc mb q:Nat) (gv:Value) (Sh:List Nat) (mkB:Nat→Bool) (inn:List Ed) (k:Nat) (wr:World):Prop:=
 ∃f,FinK inn k f∧HtS W wr x l mk me mc mb q gv Sh (mapI (mkV mkB)) (finV f) (fun _=>none) (fun _=>none) (fun _=>0)
def BeO (W:World) (x l mk me mc mb q:Nat) (gv:Value) (g:G) (tp:Nat) (S:LS) (mkB:Nat→Bool) (f:Int→Option C) (out:List Ed) (h:Nat→C) (gk k:Nat) (wr:World):Prop:=
 ∃Sh lab hp bk,HtS W wr x l mk me mc mb q gv Sh (mapI (mkV mkB)) (finV f) lab hp bk∧SrB g tp S mkB (srF f) out h lab hp bk 0 (fun _ _=>False) (PsK g out k) gk
def BeH (W:World) (x l mk me mc mb q:Nat) (gv:Value) (g:G) (tp:Nat) (S:LS) (mkB:Nat→Bool) (f:Int→Option C) (out:List Ed) (h:Nat→C) (gk:Nat) (wr:World):Prop:=
 ∃Sh lab hp bk k,HtS W wr x l mk me mc mb q gv Sh (mapI (mkV mkB)) (finV f) lab hp bk∧SrR g tp S mkB (srF f) out h lab hp bk k (fun _ _=>False) (fun _ _=>False) gk
theorem hS7cells {W w:World} {x l mk me mc mb q:Nat} {gv:Value} {Sh:List Nat} {mkM enM:Int→Option Value} {lab hp:Nat→Option C} {bk:Nat→Int} (h:HtS W w x l mk me mc mb q gv Sh mkM enM lab hp bk):w.cell? ⟨x,4,none⟩=some (.map (some mc)):=h.cells.2.2.2.2.1
theorem srBestX (w : World) (l lml lme nl : Nat) (Sb : List Nat) (tp : Nat) (g : G) (S : LS) (hok : g.ok) (H : LS.Fin g tp S) (htp : tp ≤ 6) (hLv : LvOf w l lml lme Sb (tp : Nat) (levV g S) nl (egE g S))
    (A1:Option Addr) (n1 m1:Nat) (out:List Ed) (hE1:EdsO w A1 out) (hn1:out.length=n1) (hb1:n1≤1000) (ho:EdsOk out)
    (A2:Option Addr) (n2 m2:Nat) (inn:List Ed) (hE2:EdsO w A2 inn) (hn2:inn.length=n2) (hb2:n2≤1000) (hi:EdsOk inn)
    (gf:Nat) (gc:Array Value) (h:Nat→C) (hg:GuessOk w gf gc g h) (hsm:∀j,g.Corner j→0≤(h j).s∧(h j).s≤1000∧0≤(h j).d∧(h j).d≤1000) (h256:h 256=C.zero)
    (hh:∀(mkB:Nat→Bool) (f:Int→Option C),FinK inn inn.length f→∀j t d,Walk (srE S tp mkB (srF f)) j t d→t=256→C.le (h j) d) :
    Calls Tryz.prog 87 #[.pointer (some ⟨l,0,none⟩),.slice A1 n1 m1,.slice A2 n2 m2,.func (.func gf) #[] gc] w (BeX w g tp S h out inn):=by
 have hn:=G.n_le hok;have hmm:=@run_makeMap Tryz.prog;have HG:=Lib.hid (And.intro hok (And.intro H (And.intro hsm (And.intro h256 hh))));have HO:=Lib.hid (And.intro ho hi);have Hn:=Lib.hid (And.intro hn1 hn2);have HL0:=Lib.hid hLv;have HE1:=Lib.hid hE1;have HE2:=Lib.hid hE2;have Hg0:=Lib.hid hg;clear hok H hsm h256 hh ho hi hn1 hn2 hLv hE1 hE2 hg;go_enter Tryz.func87,Tryz.ntmps87
 go_upto_region 1 with (fail)
 refine wp_name ?_;intro W0 hW0
 have HW0:Below w.heap.size w W0:=by rw [hW0];(repeat' (first | exact Below.refl _ _ | assumption | apply bel_drewN | apply bel_drew | apply bel_alloc | (refine bel_trans ?_ (by assumption))))
 have hr9:W0.heap[w.heap.size]? = some (.cells #[.int .i64 0,.int .i64 0] 44 (0,0)):=by rw [hW0];exact heap_alloc_new _ _
 have hs0:W0.heap.size=w.heap.size+1:=by rw [hW0];simp
 obtain ⟨r9,hr9e⟩:∃z,w.heap.size=z:=⟨_,rfl⟩
 rw [hr9e] at hr9 hs0 ⊢
 have HR9:=Lib.hid hr9;have HL:=Lib.hid (HL0.out.below HW0);have HE1:=Lib.hid (HE1.out.below HW0);have HE2:=Lib.hid (HE2.out.below HW0);have Hg:=Lib.hid (Hg0.out.below HW0)
 have cM:=Lib.hid (srMarked W0 l lml lme nl Sb (tp:Nat) g S HG.out.1 (fun a b hab=>HG.out.2.1.corner a b hab) HL.out A2 n2 m2 inn HE2.out Hn.out.2 hb2)
 have HW0:=Lib.hid (And.intro HW0 hr9e);clear hW0 hr9 HL0 Hg0 hr9e;go_wp2_with fail
 (with_reducible refine cM.out.mono ?_)
 rintro e w1 ⟨mk,mkB,rfl,⟨nK,hMK⟩,hmk,hb1',hmark⟩;have Hmark:=Lib.hid hmark.1
 have HmkI:Hid (∀b,mkB b=true↔MkE g S inn b):=Lib.hid (fun b=>⟨hmark.2 b,fun ⟨t,c,⟨e,he,ht⟩,hc,hw⟩=>hmark.1 (fun t=>@ite _ (∃e∈inn,e.to_=(t:Nat)) (Classical.propDecidable _) (some C.zero) none) (fun t ht=>by
  apply Classical.byContradiction
  intro hn
  exact ht (if_neg hn)) b ⟨t,c,⟨hc,by rw [if_pos ⟨e,he,ht⟩];simp⟩,hw⟩⟩)
 have hlk:=hMK.lt;have HMK:=Lib.hid hMK
 have q1:MapAt iK (w1.alloc (.map #[] 0)) w1.heap.size (fun _=>none) 0:=MapAt.made w1
 have q2:MapAt iK ((w1.alloc (.map #[] 0)).alloc (.map #[] 0)) (w1.alloc (.map #[] 0)).heap.size (fun _=>none) 0:=MapAt.made _
 have q3:MapAt iK (((w1.alloc (.map #[] 0)).alloc (.map #[] 0)).alloc (.map #[] 0)) ((w1.alloc (.map #[] 0)).alloc (.map #[] 0)).heap.size (fun _=>none) 0:=MapAt.made _
 have z1:(w1.alloc (.map #[] 0)).heap.size=w1.heap.size+1:=by simp
 have z2:((w1.alloc (.map #[] 0)).alloc (.map #[] 0)).heap.size=w1.heap.size+1+1:=by simp
 rw [z1] at q2;rw [z2] at q3;have q1:=(q1.below (bel_alloc (Below.refl _ _) (o:=.map #[] 0))).below (bel_alloc (Below.refl _ _) (o:=.map #[] 0));have q2:=q2.below (bel_alloc (Below.refl _ _) (o:=.map #[] 0));have hb13:Below w1.heap.size w1 (((w1.alloc (.map #[] 0)).alloc (.map #[] 0)).alloc (.map #[] 0)):=bel_alloc (bel_alloc (bel_alloc (Below.refl _ _)));have Hq:=Lib.hid (And.intro q1 (And.intro q2 (And.intro q3 hb13)))
 have hb1:=hb1'.size;clear hMK hmark q1 q2 q3 z1 z2 hb13 cM;go_wp2_with fail
 (with_reducible refine (heapNew _).mono ?_)
 rintro e w4 ⟨q,S0,rfl,hH,hSf,hb4⟩
 have hSf':∀k∈S0,w1.heap.size+3≤k:=fun k hk=>by have:=hSf k hk;simp at this;omega
 have hS4:∀k∈S0,k<w4.heap.size:=hH.lt;have g1:=Hq.out.1.below hb4;have g2:=Hq.out.2.1.below hb4;have g3:=Hq.out.2.2.1.below hb4;have hB14:=bel_trans Hq.out.2.2.2 hb4;have hl4:=g3.lt;have HH:=Lib.hid (And.intro hH (And.intro hSf' (And.intro hS4 (And.intro g1 (And.intro g2 (And.intro g3 hB14))))));clear hH hSf hSf' hS4 g1 g2 g3 hB14 hb4 Hq
 go_upto_region 2 with (fail)
 refine wp_name ?_;intro W5 hW5;obtain ⟨x,hx⟩:∃z,w4.heap.size=z:=⟨_,rfl⟩;obtain ⟨me,hme⟩:∃z,w1.heap.size=z:=⟨_,rfl⟩;obtain ⟨mc,hmc⟩:∃z,me+1=z:=⟨_,rfl⟩;obtain ⟨mb,hmb⟩:∃z,mc+1=z:=⟨_,rfl⟩
 have hSt:HtS W0 W5 x l mk me mc mb q (.func (.func gf) #[] gc) S0 (mapI (mkV mkB)) (finV (fun _=>none)) (fun _=>none) (fun _=>none) (fun _=>0):=by
  obtain ⟨hH,hSf,hS4,g1,g2,g3,hB14⟩:=HH.out
  have hb5:Below w4.heap.size w4 W5:=by rw [hW5];(repeat' (first | exact Below.refl _ _ | assumption | apply bel_drewN | apply bel_drew | apply bel_alloc | (refine bel_trans ?_ (by assumption))))
  rw [hme] at g1 g2 g3 hSf;rw [hmc] at g2 g3;rw [hmb] at g3
  refine ⟨?_,⟨nK,(HMK.out.below hB14).below hb5⟩,⟨0,?_⟩,⟨0,?_⟩,⟨0,?_⟩,?_,⟨by omega,by omega,by omega,by omega,by omega,by omega,by omega⟩,⟨fun hm=>?_,fun hm=>?_,fun hm=>?_,fun hm=>?_,fun hm=>?_⟩,⟨by omega,by omega,fun k hk=>?_⟩,bel_trans (bel_trans hb1' hB14) hb5⟩
  ·rw [hW5,←hx,←hme,←hmb,←hmc,←hme]
   exact heap_alloc_new _ _
  ·exact g1.below hb5
  ·rw [←show (fun _=>none:Int→Option Value)=mapI (doneV fun _=>none) from (mapI_none (fun _=>rfl)).symm]
   exact g2.below hb5
  ·rw [←show (fun _=>none:Int→Option Value)=mapI (bkV (fun _=>none) (fun _=>0)) from (mapI_none (fun _=>rfl)).symm]
   exact g3.below hb5
  ·rw [cntS_none,←hpI_none]
   exact hH.below hb5
  ·have:=hS4 _ hm;omega
  ·have:=hSf _ hm;omega
  ·have:=hSf _ hm;omega
  ·have:=hSf _ hm;omega
  ·have:=hSf _ hm;omega
  ·have:=hSf _ hk;omega
 have hxne:x≠me∧mk≠me∧W0.heap.size≤me∧r9≠x:=by omega
 rw [hme,hx] ;rw [hmc,hmb];have hE0:BeE W0 x l mk me mc mb q (.func (.func gf) #[] gc) S0 mkB inn 0 W5:=⟨_,FinK.start inn,hSt⟩;have Hxne:=Lib.hid hxne;clear hW5 hSt HH HMK hx hme hmc hmb hxne hl4 hlk hmk hb1' hb1 hmm;go_wp2_with fail
 go_loopw [36] (fun kv wr=>∃k:Nat,kv=.int .i64 k∧k≤n2∧BeE W0 x l mk me mc mb q (.func (.func gf) #[] gc) S0 mkB inn k wr) (fun kv _=>n2-(intOf kv).toNat)
 case atStart=>exact ⟨0,rfl,by omega,hE0⟩
 case round=>
  obtain ⟨k,rfl,hk,f,hF,hS⟩:=hrel;clear hE0
  by_cases hlt:k<n2
  ·obtain ⟨e,he⟩:∃e,inn[k]? = some e:=⟨inn[k]'(by rw [Hn.out.2];exact hlt),List.getElem?_eq_getElem _⟩
   obtain ⟨gb,ob,hA,a1,a2,a3,a4⟩:=(HE2.out.below hS.bel).get he
   have hix:=fun wx=>idxO (m:=m2) hA hlt wx
   have hie:=HO.out.2 e (List.mem_of_getElem? he);obtain ⟨nE,hME⟩:=hS.mapE;have hF2:=hF.step he;obtain ⟨xt,⟨xs,xd⟩,xm⟩:=e;simp only at a1 a2 a3 a4 hie hF2;obtain ⟨ds,dd,is,his1,his2,hlk⟩:=finLook hME xt
   have hds:is=true→0≤ds∧ds≤1048576∧0≤dd∧dd≤1048576:=fun q=>by
    obtain ⟨y,hy,_,e2⟩:=hF.some_ _ _ (his1 q);have:=HO.out.2 y hy;rw [e2] at this;exact this
   have His:=Lib.hid (And.intro his1 (And.intro his2 hds));have HF:=Lib.hid (And.intro hF2 hie);have HS:=Lib.hid hS;have k3:=hS.cells.2.2.2.1;have hlx:=hS.lts;have Hlk:=Lib.hid hlk;have hxl:=hS.lts.1;have hel:=hS.lts.2.2.1;clear hA he hF hF2 hie hME his1 his2 hds hlk hS hlx
   go_upto_region 5 with (fail)
   refine wp_name ?_;intro W6 hW6
   have HW6:Below wr.heap.size wr W6:=by rw [hW6];(repeat' (first | exact Below.refl _ _ | assumption | apply bel_drewN | apply bel_drew | apply bel_alloc | (refine bel_trans ?_ (by assumption))))
   have o0:W6.cell? ⟨wr.heap.size,0,none⟩=some (.int .i64 xt):=by rw [hW6];go_simp
   have o1:W6.cell? ⟨wr.heap.size,1,none⟩=some (.int .i64 xs):=by rw [hW6];go_simp
   have o2:W6.cell? ⟨wr.heap.size,2,none⟩=some (.int .i64 xd):=by rw [hW6];go_simp
   have o3:W6.cell? ⟨wr.heap.size,3,none⟩=some (.int .i64 xm):=by rw [hW6];go_simp
   obtain ⟨b13,hb13⟩:∃z,wr.heap.size=z:=⟨_,rfl⟩;have k3:=bel_cell HW6 k3;have HS6:=Lib.hid (HS.out.below HW6)
   have Hlk6:Hid (∀w',Below W6.heap.size W6 w'→(Instr.lookup 246 (.map (some me)) (.int .i64 xt) true).run Tryz.prog w'=.ok (.tuple #[.agg #[.int .i64 ds,.int .i64 dd],.bool is]) w'):=Lib.hid (fun w' hb=>Hlk.out w' (bel_trans HW6 hb))
   rw [hb13] at o0 o1 o2 o3 ⊢
   have hbme:b13≠me:=by omega
   clear hW6 HW6 HS a1 a2 a3 a4 hix hb13 Hlk hxl hel
   go_cut [14,15] (fun s t wx=>s=.pointer (some ⟨W6.heap.size,0,none⟩)∧t=.bool is∧wx.cell? ⟨W6.heap.size,0,none⟩=some (.int .i64 ds)∧wx.cell? ⟨W6.heap.size,1,none⟩=some (.int .i64 dd)∧Below W6.heap.size W6 wx)
   case first=>
    have hd:=bel_drew (Below.refl W6.heap.size W6);have hda:=bel_alloc hd (o:=.cells #[.int .i64 0,.int .i64 0] 44);have q0:W6.drew.cell? ⟨x,3,none⟩=some (.map (some me))∧W6.drew.cell? ⟨b13,0,none⟩=some (.int .i64 xt):=⟨bel_cell hd k3,bel_cell hd o0⟩;have q1:(W6.drew.alloc (.cells #[.int .i64 0,.int .i64 0] 44)).cell? ⟨x,3,none⟩=some (.map (some me))∧(W6.drew.alloc (.cells #[.int .i64 0,.int .i64 0] 44)).cell? ⟨b13,0,none⟩=some (.int .i64 xt):=⟨bel_cell hda k3,bel_cell hda o0⟩
    have hlka:=Hlk6.out _ hd;have hlkb:=Hlk6.out _ (bel_drew (bel_alloc (Below.refl W6.heap.size W6) (o:=.cells #[.int .i64 0,.int .i64 0] 44)));clear Hlk6 HS6
    go_region_held3 (fun w'=>w'.cell? ⟨x,3,none⟩=some (.map (some me))∧w'.cell? ⟨b13,0,none⟩=some (.int .i64 xt))
     (first
      | exact q0
      | exact q1
      | go_keep)
     (fail)
    all_goals
     have hbW:Below W6.heap.size W6 (W6.alloc (.cells #[.int .i64 ds,.int .i64 dd] 44)).drew:=bel_drew (bel_alloc (Below.refl _ _))
     have d0:(W6.alloc (.cells #[.int .i64 ds,.int .i64 dd] 44)).drew.cell? ⟨W6.heap.size,0,none⟩=some (.int .i64 ds):=by go_simp
     have d1:(W6.alloc (.cells #[.int .i64 ds,.int .i64 dd] 44)).drew.cell? ⟨W6.heap.size,1,none⟩=some (.int .i64 dd):=by go_simp
     go_wp2;go_meet
     case rel=>exact ⟨rfl,rfl,d0,d1,hbW⟩
   case rest=>
    obtain ⟨rfl,rfl,d0,d1,hbe⟩:=hcut;obtain ⟨b14,hb14⟩:∃z,W6.heap.size=z:=⟨_,rfl⟩;have k3:=bel_cell hbe k3;have o0:=bel_cell hbe o0;have o1:=bel_cell hbe o1;have o2:=bel_cell hbe o2;have HS8:=Lib.hid (HS6.out.below hbe)
    rw [hb14] at d0 d1 ⊢
    have hin:inC xs∧inC xd:=by have:=HF.out.2;unfold inC;omega
    obtain ⟨tb,htb⟩:∃z,lowF f xt ⟨xs,xd⟩=z:=⟨_,rfl⟩;have Htb:=Lib.hid htb;have hlb:b13<wc.heap.size:=World.block_lt_of_cell? _ _ o0;clear Hlk6 HS6 hbe hb14 htb
    go_upto_region 6 with (fail)
    go_cut [57] (fun s wx=>s=.bool tb∧Below wc.heap.size wc wx)
    case first=>
     cases is with
     | false=>
      have e:=Htb.out;unfold lowF at e;rw [(His.out.2.1 rfl).1] at e;subst e;go_wp2;go_meet
      case rel=>exact ⟨rfl,by (repeat' (first | exact Below.refl _ _ | assumption | apply bel_drewN | apply bel_drew | apply bel_alloc | (refine bel_trans ?_ (by assumption))))⟩
     | true=>
      have e:=Htb.out;have hd:=His.out.1 rfl;unfold lowF at e;rw [hd] at e;have hdl:=His.out.2.2 rfl;simp only at e
      have hin2:inC ds∧inC dd:=by unfold inC;omega
      have cC:=Lib.hid (costLess xs xd ds dd wc hin.1 hin.2 hin2.1 hin2.2);rw [e] at cC;clear hd hdl hin2 e;go_wp2_with fail
      (with_reducible refine cC.out.mono ?_)
      rintro e w9 ⟨rfl,hb9⟩;go_wp2;go_meet
      case rel=>exact ⟨rfl,hb9⟩
    case rest=>
     obtain ⟨rfl,hbe⟩:=hcut;have HS9:=Lib.hid (HS8.out.below hbe);have k3:=bel_cell hbe k3;have o0:=bel_cell hbe o0;have o1:=bel_cell hbe o1;have o2:=bel_cell hbe o2;have hF2:=HF.out.1;rw [Htb.out] at hF2;have HF2:=Lib.hid hF2;clear HS8 hbe d0 d1 hF2 hlb
     cases tb with
     | false=>
      have hE:BeE W0 x l mk me mc mb q (.func (.func gf) #[] gc) S0 mkB inn (k+1) wc:=⟨f,HF2.out,HS9.out⟩;have hE:=Lib.hid hE;clear HS9 k3 o0 o1 o2 HF2;go_wp2;go_roundw
      case rel=>first | exact ⟨k+1,by go_num,by omega,hE.out⟩ | ((repeat apply Exists.intro);exact ⟨⟨k+1,by go_num,by omega,hE.out⟩,rfl⟩)
      case measure=>simp [intOf];omega
     | true=>
      have hdw:=bel_drew (Below.refl wc.heap.size wc);have hSd:=HS9.out.below hdw;obtain ⟨nE,hME⟩:=hSd.mapE;obtain ⟨w7,hr7,hm7,hk7⟩:=hME.store (int_fit Tryz.underlying3) Tryz.underlying246 xt (.agg #[.int .i64 xs,.int .i64 xd]);have hm7':=hm7
      rw [show (some (Value.agg #[.int .i64 xs,.int .i64 xd]):Option Value)=some (costV ⟨xs,xd⟩) from rfl,finV_upd] at hm7'
      have hE:BeE W0 x l mk me mc mb q (.func (.func gf) #[] gc) S0 mkB inn (k+1) w7:=⟨_,HF2.out,hSd.endput Hxne.out.1 Hxne.out.2.1 Hxne.out.2.2.1 hm7' hk7⟩;have hE:=Lib.hid hE
      have hx3:x∉[me]:=by simpa using Hxne.out.1
      have hb3:b13∉[me]:=by simpa using hbme
      have q0:wc.drew.cell? ⟨x,3,none⟩=some (.map (some me))∧wc.drew.cell? ⟨b13,0,none⟩=some (.int .i64 xt)∧wc.drew.cell? ⟨b13,1,none⟩=some (.int .i64 xs)∧wc.drew.cell? ⟨b13,2,none⟩=some (.int .i64 xd):=⟨bel_cell hdw k3,bel_cell hdw o0,bel_cell hdw o1,bel_cell hdw o2⟩;have q7:w7.cell? ⟨x,3,none⟩=some (.map (some me))∧w7.cell? ⟨b13,0,none⟩=some (.int .i64 xt)∧w7.cell? ⟨b13,1,none⟩=some (.int .i64 xs)∧w7.cell? ⟨b13,2,none⟩=some (.int .i64 xd):=⟨cellK hk7 hx3 q0.1,cellK hk7 hb3 q0.2.1,cellK hk7 hb3 q0.2.2.1,cellK hk7 hb3 q0.2.2.2⟩
      clear hm7 hm7' hk7 hx3 hb3 hME hSd HS9 k3 o0 o1 o2 HF2
      go_upto_region 7 with (fail)
      go_region_held3 (fun w'=>w'.cell? ⟨x,3,none⟩=some (.map (some me))∧w'.cell? ⟨b13,0,none⟩=some (.int .i64 xt)∧w'.cell? ⟨b13,1,none⟩=some (.int .i64 xs)∧w'.cell? ⟨b13,2,none⟩=some (.int .i64 xd))
       (first
        | exact q0
        | exact q7)
       (fail)
      clear q0 q7 hr7;go_wp2;go_roundw
      case rel=>first | exact ⟨k+1,by go_num,by omega,hE.out⟩ | ((repeat apply Exists.intro);exact ⟨⟨k+1,by go_num,by omega,hE.out⟩,rfl⟩)
      case measure=>simp [intOf];omega
  ·obtain rfl:k=n2:=by omega
   have hF':FinK inn inn.length f:=by rw [Hn.out.2];exact hF
   have hG0:SrG g tp S out (srF f) h:=⟨HG.out.1,HG.out.2.1,HO.out.1,fun t e he=>by
    obtain ⟨y,hy,_,e2⟩:=hF'.some_ _ _ he;have:=HO.out.2 y hy;rw [e2] at this;exact this,HG.out.2.2.1,HG.out.2.2.2.1⟩
   have hI0:SrB g tp S mkB (srF f) out h (fun _=>none) (fun _=>none) (fun _=>0) 0 (fun _ _=>False) (PsK g out 0) (2*SB.me g.n 256 2100000 4000 2100000 (fun _=>none)):=(SrB.start HG.out.1 hG0 0).weak (fun _ _ h=>h) (fun s c h=>PsK.of h)
   obtain ⟨gk0,hgk0⟩:∃z,2*SB.me g.n 256 2100000 4000 2100000 (fun _=>none)=z:=⟨_,rfl⟩
   rw [hgk0] at hI0;have hO0:BeO W0 x l mk me mc mb q (.func (.func gf) #[] gc) g tp S mkB f out h gk0 0 wr:=⟨_,_,_,_,hS,hI0⟩;have HF:=Lib.hid (And.intro hF' hG0);clear hF hF' hG0 hI0 hS hgk0;go_wp2_with fail
   go_loopw [69] (fun kv wr=>∃k:Nat,kv=.int .i64 k∧k≤n1∧BeO W0 x l mk me mc mb q (.func (.func gf) #[] gc) g tp S mkB f out h gk0 k wr) (fun kv _=>n1-(intOf kv).toNat)
   case atStart=>exact ⟨0,rfl,by omega,hO0⟩
   case round=>
    obtain ⟨k,rfl,hk,Sh,lab,hp,bk,hS,hI⟩:=hrel;clear hO0
    by_cases hlt:k<n1
    ·obtain ⟨e,he⟩:∃e,out[k]? = some e:=⟨out[k]'(by rw [Hn.out.1];exact hlt),List.getElem?_eq_getElem _⟩
     obtain ⟨gb,ob,hA,a1,a2,a3,a4⟩:=(HE1.out.below hS.bel).get he
     have hix:=fun wx=>idxO (m:=m1) hA hlt wx
     have hie:=HO.out.1 e (List.mem_of_getElem? he);obtain ⟨xt,⟨xs,xd⟩,xm⟩:=e;simp only at a1 a2 a3 a4 hie;have He:=Lib.hid (And.intro he hie);have HS:=Lib.hid hS;have HI:=Lib.hid hI;clear hA he hie hS hI
     go_upto_region 12 with (fail)
     refine wp_name ?_;intro W6 hW6
     have HW6:Below wr.heap.size wr W6:=by rw [hW6];(repeat' (first | exact Below.refl _ _ | assumption | apply bel_drewN | apply bel_drew | apply bel_alloc | (refine bel_trans ?_ (by assumption))))
     have o0:W6.cell? ⟨wr.heap.size,0,none⟩=some (.int .i64 xt):=by rw [hW6];go_simp
     have o1:W6.cell? ⟨wr.heap.size,1,none⟩=some (.int .i64 xs):=by rw [hW6];go_simp
     have o2:W6.cell? ⟨wr.heap.size,2,none⟩=some (.int .i64 xd):=by rw [hW6];go_simp
     obtain ⟨b17,hb17⟩:∃z,wr.heap.size=z:=⟨_,rfl⟩;have HS6:=Lib.hid (HS.out.below HW6)
     rw [hb17] at o0 o1 o2 ⊢
     clear hW6 HW6 HS a1 a2 a3 a4 hix hb17
     by_cases hcor:∃t:Nat,xt=t∧g.Corner t
     ·obtain ⟨t,rfl,hct⟩:=hcor
      have hlvt:=levV_at (g:=g) (S:=S) hct;have cV:=Lib.hid (lvLevel_in W6 l lml lme nl Sb (tp:Nat) (levV g S) (egE g S) (HL.out.below HS6.out.bel) (t:Nat) _ hlvt);obtain ⟨tb,htb⟩:∃z,lower? lab t ⟨xs,xd⟩=z:=⟨_,rfl⟩;have hie:=He.out.2
      have cR:=Lib.hid (srReach W0 W6 x l mk me mc mb q gf gc Sh (mapI (mkV mkB)) (finV f) lab hp bk g h HG.out.1 HS6.out Hg.out HG.out.2.2.2.1 HG.out.2.2.1 t (.inl hct) (t:Nat) rfl (-1) xs xd (by omega) tb htb (fun d hd=>by have:=HI.out.small HG.out.1 hd;omega) (fun h1=>HI.out.low htb h1))
      have hI2:SrB g tp S mkB (srF f) out h (pushed lab t ⟨xs,xd⟩ tb) (pushed hp t (C.add ⟨xs,xd⟩ (h t)) tb) (if tb=true then FR.upd bk t (-1) else bk) 0 (fun _ _=>False) (PsK g out (k+1)) gk0:=by
       refine HI.out.step HF.out.2 (.inl hct) (.inr (fun _ _ h=>h)) ⟨hct,k,_,(List.getElem?_eq_some_iff.1 He.out.1).1,He.out.1,rfl,rfl⟩ (fun _ _ h=>h.elim) (fun s c hs=>?_) htb
       rcases PsK.next He.out.1 s c hs with r | ⟨r1,_,r3⟩
       ·exact .inl r
       ·refine .inr ⟨by simp only at r1;omega,?_⟩
        rw [←r3];exact C.le_refl _
      have HI2:=Lib.hid hI2;clear hlvt htb hie hI2 HI;go_wp2_with fail
      (with_reducible refine cV.out.mono ?_)
      rintro e w' ⟨rfl,rfl⟩;clear cV;go_wp2_with fail
      (with_reducible refine cR.out.mono ?_)
      rintro e w7 hR;obtain ⟨S7,hS7,_⟩:=hR.out;obtain ⟨rfl,_⟩:=hR;have hF:BeO W0 x l mk me mc mb q (.func (.func gf) #[] gc) g tp S mkB f out h gk0 (k+1) w7:=⟨_,_,_,_,hS7,HI2.out⟩;have hF:=Lib.hid hF;clear hS7 HI2 HS6 o0 o1 o2 cR;go_wp2;go_roundw
      case rel=>first | exact ⟨k+1,by go_num,by omega,hF.out⟩ | ((repeat apply Exists.intro);exact ⟨⟨k+1,by go_num,by omega,hF.out⟩,rfl⟩)
      case measure=>simp [intOf];omega
     ·have hno:¬(0≤xt∧g.Corner xt.toNat):=fun ⟨h1,h2⟩=>hcor ⟨xt.toNat,by omega,h2⟩
      have cV:=Lib.hid (lvLevel_out W6 l lml lme nl Sb (tp:Nat) (levV g S) (egE g S) (HL.out.below HS6.out.bel) xt (levV_none hno))
      have hF:BeO W0 x l mk me mc mb q (.func (.func gf) #[] gc) g tp S mkB f out h gk0 (k+1) W6:=⟨_,_,_,_,HS6.out,HI.out.weak (fun _ _ h=>h) (fun s c hs=>by
       rcases PsK.next He.out.1 s c hs with r | ⟨r1,r2,_⟩
       ·exact r
       ·exact absurd ⟨s,r1,r2⟩ hcor)⟩
      have hF:=Lib.hid hF;clear hcor hno HS6 HI;go_wp2_with fail
      (with_reducible refine cV.out.mono ?_)
      rintro e w' ⟨rfl,rfl⟩;clear cV o0 o1 o2;go_wp2;go_roundw
      case rel=>first | exact ⟨k+1,by go_num,by omega,hF.out⟩ | ((repeat apply Exists.intro);exact ⟨⟨k+1,by go_num,by omega,hF.out⟩,rfl⟩)
      case measure=>simp [intOf];omega
    ·obtain rfl:k=n1:=by omega
     have hH0:BeH W0 x l mk me mc mb q (.func (.func gf) #[] gc) g tp S mkB f out h gk0 wr:=⟨_,_,_,_,0,hS,SrB.run (hI.weak (fun _ _ h=>h) (fun s c hs=>PsK.over s c (by rw [Hn.out.1];exact hs)))⟩
     clear hS hI;go_wp2_with fail
     go_loopg [] gk0 (fun gk wr=>BeH W0 x l mk me mc mb q (.func (.func gf) #[] gc) g tp S mkB f out h gk wr)
     case atStart=>exact hH0
     case round=>
      obtain ⟨Sh,lab,hp,bk,kk,hS,hI⟩:=hrel;clear hH0;have k6:=hS.cells.2.2.2.2.2.2
      have hm:∀b,LS.Marked S (fun t=>g.Corner t∧f (t:Nat)≠none) b→mkB b=true:=Hmark.out (srF f) (fun t ht=>by
       cases hft:f (t:Nat) with
       | none=>exact absurd hft ht
       | some c=>
        obtain ⟨y,hy,h1,_⟩:=HF.out.1.some_ _ _ hft;exact ⟨y,hy,h1⟩)
      have hr9c:∀u,Below W0.heap.size W0 u→u.cell? ⟨r9,0,none⟩=some (.int .i64 0)∧u.cell? ⟨r9,1,none⟩=some (.int .i64 0)∧u.frozen? ⟨r9,0,none⟩=false∧u.frozen? ⟨r9,1,none⟩=false:=fun u hu=>by
       have:=(hu.block r9 (by omega)).trans HR9.out
       simp [World.cell?,World.frozen?,this]
      have hrb:∀u (p v:Value),Below W0.heap.size W0 u→Below w.heap.size w ((u.setCell ⟨r9,0,none⟩ p).setCell ⟨r9,1,none⟩ v):=fun u p v hu=>((bel_trans HW0.out.1 hu).setCell (p:=⟨r9,0,none⟩) (by have:=HW0.out.2;simp;omega) p).setCell (p:=⟨r9,1,none⟩) (by have:=HW0.out.2;simp;omega) v
      have Hm:=Lib.hid (And.intro hm (And.intro hr9c hrb));clear hm hr9c hrb
      by_cases h0:cntS hp 257=0
      ·have hH:=hS.heap
       rw [h0] at hH;have hnone:∀j,hp j=none:=cntS_zero h0 (hI.hpr HG.out.1)
       have hl256:lab 256=none:=by
        cases hl:lab 256 with
        | none=>rfl
        | some c=>exact absurd (hnone 256) (hI.tin (by rw [hl];simp))
       have hB:=best_lost HG.out.2.1 HG.out.1 HF.out.1 Hm.out.1 (fun d=>Hu.lost (k:=256) (HG.out.2.2.2.2 mkB f HF.out.1) hI.hu hnone hl256 d)
       have HB:=Lib.hid (And.intro hB hS.bel);clear hnone hl256 hB hI;go_wp2_with fail
       (with_reducible refine (heapPop_none _ Sh q (hpI hp) hH).mono ?_)
       rintro e w6 ⟨rfl,hb6⟩;have HB6:=bel_trans HB.out.2 hb6;clear hH hS k6 hb6
       go_upto_region 18 with (fail)
       refine wp_name ?_;intro W7 hW7
       have HB7:Below W0.heap.size W0 W7:=by rw [hW7];(repeat' (first | exact Below.refl _ _ | assumption | apply bel_drewN | apply bel_drew | apply bel_alloc | (refine bel_trans ?_ (by assumption))))
       obtain ⟨r0,r1,f0,f1⟩:=Hm.out.2.1 W7 HB7
       have hF:BeX w g tp S h out inn (.returned (.tuple #[.slice none 0 0,.agg #[.int .i64 0,.int .i64 0],.bool false])) ((W7.setCell ⟨r9,0,none⟩ (.int .i64 0)).setCell ⟨r9,1,none⟩ (.int .i64 0)):=⟨_,C.zero,false,rfl,HB.out.1,fun _=>rfl,Hm.out.2.2 _ _ _ HB7,(fun h=>nomatch h)⟩
       have hF:=Lib.hid hF;clear hW7;go_wp2;have e2:=set_two (x:=.int .i64 0) (y:=.int .i64 0) r0 r1
       refine bodyPost_ret (v:=.tuple #[.slice none 0 0,.agg #[.int .i64 0,.int .i64 0],.bool false]) (by simp [results,Tryz.results87,go_sem,e2]) rfl ?_
       exact hF.out
      ·have HI:=Lib.hid hI
       have HS:=Lib.hid hS
       have cP:=Lib.hid (heapPopL wr Sh q 257 hp hS.heap (hI.hpr HG.out.1) (by omega) h0)
       clear hS hI h0;go_wp2_with fail
       (with_reducible refine cP.out.mono ?_)
       rintro e w6 ⟨k2,ds,dd,hk1,hk2,rfl,hk4,hk5⟩;have HS6:=Lib.hid (HS.out.popped hk4 hk5);have Hk:=Lib.hid (And.intro hk1 hk2);clear cP hk1 hk2 hk4 hk5 HS k6
       go_upto_region 17 with (fail)
       refine wp_name ?_;intro W7 hW7
       have HW7:Below w6.heap.size w6 W7:=by rw [hW7];(repeat' (first | exact Below.refl _ _ | assumption | apply bel_drewN | apply bel_drew | apply bel_alloc | (refine bel_trans ?_ (by assumption))))
       have HS7:=Lib.hid (HS6.out.below HW7);clear hW7 HW7 HS6
       by_cases hk256:k2=256
       ·subst hk256
        obtain ⟨hl,hR⟩:=Hu.found (k:=256) (HG.out.2.2.2.2 mkB f HF.out.1) HG.out.2.2.2.1 HI.out.hu Hk.out.1 (fun j d hd=>It.le_c (Hk.out.2 j d hd))
        have hB:=best_found HG.out.2.1 HG.out.1 HF.out.1 Hm.out.1 hR;have hd:=bel_drew (Below.refl W7.heap.size W7);have cW:=Lib.hid (srWay W0 W7.drew x l lml lme nl mk me mc mb q (.func (.func gf) #[] gc) Sh Sb (mapI (mkV mkB)) (finV f) mkB (srF f) lab hp _ bk g tp S out h kk gk htp HF.out.2 HL.out (HS7.out.below hd) HI.out.toSrI ⟨ds,dd⟩ hl)
        have hRun:=Lib.hid (show ∀Wy,(∃P,ChB bk (bk 256) P∧JnU S P.reverse Wy)→BestRun g tp S h out inn Wy from fun Wy ⟨P,q1,q2⟩=>by
         obtain ⟨i,q3⟩:=HI.out.run;exact ⟨mkB,f,i,⟨lab,hp,bk⟩,_,P,HmkI.out,HF.out.1,q3,Hk.out,q1,q2⟩)
        obtain ⟨nC,hMC⟩:=HS7.out.mapC
        have hlk:∀w',Below W7.heap.size W7 w'→(Instr.lookup 246 (.map (some mc)) (.int .i64 256) false).run Tryz.prog w'=.ok (.agg #[.int .i64 ds,.int .i64 dd]) w':=fun w' hb=>by
         have:=((hMC.below hb).look (int_fit Tryz.underlying3) Tryz.underlying246 (cost_zero w') ((256:Nat):Int)).2;rw [mapI_nat] at this;unfold doneV at this;rw [hl] at this;exact this
        have hlk0:=hlk _ hd;have Hlk:=Lib.hid hlk;have k4:=hS7cells HS7.out;have q0:=bel_cell hd k4;have HB7:=HS7.out.bel;have HB:=Lib.hid hB;clear hl hR hB hMC hlk HS7 HI Hk k4
        go_upto_region 20 with (fail)
        go_region_held3 (fun w'=>w'.cell? ⟨x,4,none⟩=some (.map (some mc)))
         (first
          | exact q0
          | exact q1
          | exact q2 _ _)
         (first
          | (go_at_call 150
             refine cW.out.mono ?_;rintro e w9 ⟨A,m,Wy,rfl,hWm,hWI,hWA,hWl,⟨hWay,hWru⟩,hb9⟩;have hWru:=hRun.out _ hWru;have q1:=bel_cell hb9 q0;have hlk9:=Hlk.out w9 (bel_trans hd hb9);have hB9:=bel_trans HB7 (bel_trans hd hb9);obtain ⟨r0,r1,f0,f1⟩:=Hm.out.2.1 w9 hB9
             have q2:∀p v:Value,((w9.setCell ⟨r9,0,none⟩ p).setCell ⟨r9,1,none⟩ v).cell? ⟨x,4,none⟩=some (.map (some mc)):=fun p v=>
              ((World.cell?_setCell_other (w:=w9.setCell ⟨r9,0,none⟩ p) (a:=⟨r9,1,none⟩) (b:=⟨x,4,none⟩) (v:=v) (by simp)).trans (World.cell?_setCell_other (w:=w9) (a:=⟨r9,0,none⟩) (b:=⟨x,4,none⟩) (v:=p) (by simp))).trans q1))
        all_goals
         have hF:BeX w g tp S h out inn (.returned (.tuple #[.slice A Wy.length m,.agg #[.int .i64 ds,.int .i64 dd],.bool true])) ((w9.setCell ⟨r9,0,none⟩ (.int .i64 ds)).setCell ⟨r9,1,none⟩ (.int .i64 dd)):=by
          refine ⟨_,⟨ds,dd⟩,true,rfl,HB.out,(fun h=>nomatch h),Hm.out.2.2 _ _ _ hB9,fun _=>⟨A,m,Wy,f,rfl,hWm,?_,?_,hWl,HF.out.1,hWay,hWru⟩⟩
          ·refine Ints.kept (S:=[r9]) hWI ((Kept.refl _ _).setCell (.inl (by simp)) |>.setCell (.inl (by simp))) (fun ad e=>?_)
           have:=hWA ad e;have:=hd.size;have:=HB7.size;simp;omega
          ·intro ad e
           have:=hWA ad e;have:=hd.size;have:=HB7.size;have:=HW0.out.2;omega
         have hF:=Lib.hid hF;have e2:=set_two (x:=.int .i64 ds) (y:=.int .i64 dd) r0 r1;clear hWI hWA hWay hb9 hlk0 hlk9 cW HB q0 q1;go_wp2
         refine bodyPost_ret (v:=.tuple #[.slice A Wy.length m,.agg #[.int .i64 ds,.int .i64 dd],.bool true]) (by simp [results,Tryz.results87,go_sem,e2]) rfl ?_
         exact hF.out
       ·have hne:(((k2:Nat):Int) == 256)=false:=by simp;omega
        obtain ⟨c,hc1,_⟩:=HI.out.hu.key _ _ Hk.out.1;obtain ⟨cs,cd⟩:=c
        have hck:g.Corner k2:=(HI.out.cor k2 (by rw [hc1];simp)).resolve_right hk256
        obtain ⟨hI2,hpos⟩:=HI.out.pop HG.out.1 Hk.out.1 hc1 hk256
        have hRun:=Lib.hid (And.intro HI.out.run (show LeastH hp k2 ⟨ds,dd⟩ from Hk.out))
        have cS:=Lib.hid (srSpread ⟨lab,hp,bk⟩ W0 W7 x l lml lme nl mk me mc mb q gf gc Sh Sb f mkB lab _ bk g tp S out h k2 (gk-1) HF.out.2 HL.out HS7.out Hg.out hck cs cd hc1 hI2);clear hc1 hck hI2 HS7 HI Hk;go_wp2_with fail
        (with_reducible refine cS.out.mono ?_)
        rintro e w8 ⟨rfl,Sh2,lab2,hp2,bk2,hS2,hI2⟩;have hF:BeH W0 x l mk me mc mb q (.func (.func gf) #[] gc) g tp S mkB f out h (gk-1) w8:=⟨_,_,_,_,_,hS2,hI2.run hRun.out.1 hRun.out.2 hk256⟩;have hF:=Lib.hid hF;clear hS2 hI2 cS;go_wp2;go_roundg (gk-1)
        case measure=>omega
        case rel=>exact hF.out
end Go.Proofs.YtokhnobcincfjaaGreatDoor
