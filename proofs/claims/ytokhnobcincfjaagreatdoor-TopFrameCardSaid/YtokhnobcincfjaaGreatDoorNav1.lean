/- Lemmas of this claim: Nav1. -/
import Derived.Test.YtokhnobcincfjaaGreatDoorKNFr6
import Derived.Test.YtokhnobcincfjaaGreatDoorKNFr18
import Derived.Test.YtokhnobcincfjaaGreatDoorKNFr16
import Derived.Test.YtokhnobcincfjaaGreatDoorKNFr24
import Derived.Test.YtokhnobcincfjaaGreatDoorKNFr29
set_option linter.unusedVariables false
set_option linter.unusedSimpArgs false
set_option maxHeartbeats 1600000
set_option maxRecDepth 100000
namespace Go.Proofs.YtokhnobcincfjaaGreatDoor
open Go.RowKit Go.Sort FR Go.Lib
structure Apart (s pg pt ptg rb rp rm:Nat) (S:List Nat):Prop where
 nd:[s,pg,pt,ptg,rb,rp,rm].Nodup
 out:∀k∈S,k∉[s,pg,pt,ptg,rb,rp,rm]
theorem apart_new {w : World} {n0 n1 q t p1 b p mb : Nat} {S : List Nat} {g : G} {v : Int} {E : Int → Option (List Ed)} (h : GraphOf w b p mb S g v E) (hge : ∀ k, k ∈ b :: p :: mb :: S → n1 ≤ k) (hq : q < n0) (hp1 : n0 ≤ p1) (htp : p1 < t) (ht : t < n1) :
    Apart w.heap.size q t p1 b p mb S:=by
 obtain ⟨h1,h2,h3,h4,h5,h6,h7,h8⟩:=h;have l1:b<w.heap.size:=(Array.getElem?_eq_some_iff.1 h1).1;have l2:=h2.lt;have l3:=h3.lt;have l4:=h3.lts
 have h9:mb∉S:=by obtain ⟨_,_,_,_,_,_,h,_⟩:=h3;exact h
 have g1:=hge b (by simp)
 have g2:=hge p (by simp)
 have g3:=hge mb (by simp)
 refine ⟨by simp;omega,fun k hk=>?_⟩
 have g4:=hge k (by simp [hk])
 have l5:=l4 k hk
 have e1:k≠b:=fun e=>h4 (e▸hk)
 have e2:k≠p:=fun e=>h5 (e▸hk)
 have e3:k≠mb:=fun e=>h9 (e▸hk)
 simp;omega
def ServIn (w:World) (s:Nat) (g:G) (v:Int) (most:Nat) (T:List Nat):Prop:=
 ∃pg pt rb rp rm lb lm le S E Sb nl,w.heap[s]? = some (.cells #[.pointer (some ⟨pg,0,none⟩),.pointer (some ⟨pt,0,none⟩),.pointer (some ⟨rb,0,none⟩),.pointer (some ⟨lb,0,none⟩),.int .i64 (most:Nat)] 114 (0,0))∧1≤most∧most≤6 ∧
  GridAt w pg g v∧GraphOf w rb rp rm S g v E∧GSpec g (fun _ _=>True) E∧LvOf w lb lm le Sb ((LS.all g (cornersN g) most).2:Nat) (levV g (LS.all g (cornersN g) most).1) nl (egE g (LS.all g (cornersN g) most).1)∧∃ptg,TabFull w pt ptg g v∧Apart s pg pt ptg rb rp rm S ∧
  T=s :: pg :: pt :: ptg :: rb :: rp :: rm :: (S ++ lb :: lm :: le :: Sb)
def ServAt (w:World) (s:Nat) (g:G) (v:Int) (most:Nat):Prop:=∃T,ServIn w s g v most T
def ServFr (B:Nat) (w:World) (s:Nat) (g:G) (v:Int) (most:Nat):Prop:=∃T,ServIn w s g v most T∧∀k∈T,B≤k
theorem ServFr.serv {B:Nat} {w:World} {s:Nat} {g:G} {v:Int} {most:Nat} (h:ServFr B w s g v most):ServAt w s g v most:=by
 obtain ⟨T,h,_⟩:=h;exact ⟨T,h⟩
theorem ServFr.mono {B B':Nat} {w:World} {s:Nat} {g:G} {v:Int} {most:Nat} (h:ServFr B w s g v most) (hB:B'≤B):ServFr B' w s g v most:=by
 obtain ⟨T,h,hT⟩:=h
 exact ⟨T,h,fun k hk=>Nat.le_trans hB (hT k hk)⟩
theorem ServIn.kept {X:List Nat} {w w':World} {s:Nat} {g:G} {v:Int} {most:Nat} {T:List Nat} (h:ServIn w s g v most T) (hk:Kept X w w') (hX:∀k∈T,k∉X):ServIn w' s g v most T:=by
 obtain ⟨pg,pt,rb,rp,rm,lb,lm,le,S,E,Sb,nl,h1,h2,h3,h4,⟨r1,r2,r3,r4⟩,h6,h7,ptg,h8,h9,rfl⟩:=h
 refine ⟨pg,pt,rb,rp,rm,lb,lm,le,S,E,Sb,nl,(hk.block s (Array.getElem?_eq_some_iff.1 h1).1 (hX s (by simp))).trans h1,h2,h3,h4.kept hk (hX pg (by simp)),?_,h6,h7.kept hk (fun k hk'=>hX k ?_),ptg,h8.kept hk (hX pt (by simp)) (hX ptg (by simp)),h9,rfl⟩
 ·exact ⟨(hk.block rb (Array.getElem?_eq_some_iff.1 r1).1 (hX rb (by simp))).trans r1,r2.kept hk (hX rp (by simp)),r3.kept hk (fun k hk'=>hX k (by simp [hk'])) (hX rm (by simp)),r4⟩
 ·simp only [List.mem_cons,List.mem_append] at hk' ⊢
  simp only [hk',or_true]
theorem ServIn.below {w w':World} {s:Nat} {g:G} {v:Int} {most:Nat} {T:List Nat} (h:ServIn w s g v most T) (hb:Below w.heap.size w w'):ServIn w' s g v most T:=h.kept (X:=[]) (.of_below hb) (fun _ _=>by simp)
theorem ServIn.lt {w:World} {s:Nat} {g:G} {v:Int} {most:Nat} {T:List Nat} (h:ServIn w s g v most T):∀k∈T,k<w.heap.size:=by
 obtain ⟨pg,pt,rb,rp,rm,lb,lm,le,S,E,Sb,nl,h1,h2,h3,h4,⟨r1,r2,r3,r4⟩,h6,⟨l1,l2,l3,_⟩,ptg,h8,h9,rfl⟩:=h;intro k hk;simp only [List.mem_cons,List.mem_append] at hk
 rcases hk with rfl | rfl | rfl | rfl | rfl | rfl | rfl | hk | rfl | rfl | rfl | hk
 ·exact (Array.getElem?_eq_some_iff.1 h1).1
 ·exact h4.lt
 ·exact h8.lt.1
 ·exact h8.lt.2
 ·exact (Array.getElem?_eq_some_iff.1 r1).1
 ·exact r2.lt
 ·exact r3.lt
 ·exact r3.lts k hk
 ·exact (Array.getElem?_eq_some_iff.1 l1).1
 ·exact l2.lt
 ·exact l3.lt
 ·exact l3.lts k hk
theorem ServAt.below {w w':World} {s:Nat} {g:G} {v:Int} {most:Nat} (h:ServAt w s g v most) (hb:Below w.heap.size w w'):ServAt w' s g v most:=by
 obtain ⟨T,h⟩:=h;exact ⟨T,h.below hb⟩
theorem ServFr.below {B:Nat} {w w':World} {s:Nat} {g:G} {v:Int} {most:Nat} (h:ServFr B w s g v most) (hb:Below w.heap.size w w'):ServFr B w' s g v most:=by
 obtain ⟨T,h,hT⟩:=h;exact ⟨T,h.below hb,hT⟩
theorem ServAt.ok {w:World} {s:Nat} {g:G} {v:Int} {most:Nat} (h:ServAt w s g v most):g.ok:=by
 obtain ⟨_,_,_,_,_,_,_,_,_,_,_,_,_,_,_,_,h,_⟩:=h;exact h.1
theorem ServAt.most {w:World} {s:Nat} {g:G} {v:Int} {most:Nat} (h:ServAt w s g v most):1≤most∧most≤6:=by
 obtain ⟨_,_,_,_,_,_,_,_,_,_,_,_,_,_,h1,h2,_⟩:=h;exact ⟨h1,h2⟩
def ServD (w:World) (g:G) (v:Int) (most:Nat) (e:Ending) (w':World):Prop:=∃s,e=.returned (.tuple #[.pointer (some ⟨s,0,none⟩),.nilIface])∧ServFr w.heap.size w' s g v most∧Below w.heap.size w w'
def ServO (w:World) (q:Nat) (g:G) (v:Int) (most:Nat) (e:Ending) (w':World):Prop:=∃s T,e=.returned (.tuple #[.pointer (some ⟨s,0,none⟩),.nilIface])∧ServIn w' s g v most T∧(∀k∈T,k=q∨w.heap.size≤k)∧Below w.heap.size w w'
theorem ServO.fr {w0 w w':World} {q:Nat} {g:G} {v:Int} {most:Nat} {e:Ending} (h:ServO w q g v most e w') (hb:Below w0.heap.size w0 w) (hq:w0.heap.size≤q):ServD w0 g v most e w':=by
 obtain ⟨s,T,h1,h2,h3,h4⟩:=h
 refine ⟨s,h1,⟨T,h2,fun k hk=>?_⟩,bel_trans hb h4⟩
 have:=hb.size
 rcases h3 k hk with r | r <;> omega
theorem navOver_bad (w : World) (q : Nat) (g : G) (v most : Int) (h : GridAt w q g v) (hm : most < 1 ∨ 6 < most) :
    Calls Tryz.prog 44 #[.pointer (some ⟨q,0,none⟩),.int .i64 most] w fun e w'=>e=.returned (.tuple #[.pointer none,.iface 45 (.int .i64 1)])∧Below w.heap.size w w':=by
 have cT:=Lib.hid (tabNew w q g v h);replace hm:=Lib.hid hm;go_enter Tryz.func44,Tryz.ntmps44;go_wp2_with fail;refine cT.out.mono ?_;rintro e w1 ⟨t,p1,rfl,_,_,f,_,_,_,hb1⟩;have cG:=Lib.hid (graphNew w1 q g v (h.below hb1 h.lt));clear h cT;go_wp2_with fail;refine cG.out.mono ?_;rintro e w2 ⟨b,p,mb,S,E,rfl,_,_,_,hb2⟩;have HB2:=bel_trans hb1 hb2;clear cG hb1 hb2;go_wp2_with fail;refine (lvNew_bad _ b most hm.out).mono ?_
 rintro e w3 ⟨rfl,hb3⟩;have HB3:=bel_trans (bel_alloc HB2) hb3;go_wp2_with fail;go_ret2;exact ⟨rfl,HB3⟩
theorem navOver_ok (w : World) (q : Nat) (g : G) (v : Int) (most : Nat) (h : GridAt w q g v) (h1 : 1 ≤ most) (h2 : most ≤ 6) :
    Calls Tryz.prog 44 #[.pointer (some ⟨q,0,none⟩),.int .i64 (most:Nat)] w (ServO w q g v most):=by
 have cT:=Lib.hid (tabNew_full w q g v h);go_enter Tryz.func44,Tryz.ntmps44;go_wp2_with fail;refine cT.out.mono ?_;rintro e w1 ⟨t,p1,rfl,hp1,htp,hTF,hb1⟩;have cG:=Lib.hid (graphNew w1 q g v (h.below hb1 h.lt));have HTF:=Lib.hid (And.intro hTF (And.intro hp1 htp));replace h:=Lib.hid h;clear cT hTF hp1 htp;go_wp2_with fail;refine cG.out.mono ?_;rintro e w2 ⟨b,p,mb,S,E,rfl,hGr,hGs,hge,hb2⟩;have HB2:=bel_trans hb1 hb2
 have hAp:=apart_new hGr hge h.out.lt HTF.out.2.1 HTF.out.2.2 HTF.out.1.lt.1;have hT2:=Lib.hid (HTF.out.1.below hb2);obtain ⟨s,hs⟩:∃s,w2.heap.size=s:=⟨_,rfl⟩;rw [hs] at hAp;replace hAp:=Lib.hid hAp;have hFr:=Lib.hid (And.intro (And.intro HTF.out.2.1 (And.intro HTF.out.2.2 hb1.size)) hge);clear hge HTF;have cL:=Lib.hid (lvNew_ok (w2.alloc (.cells #[.pointer (some ⟨q,0,none⟩),.pointer (some ⟨t,0,none⟩),.pointer (some ⟨b,0,none⟩),.pointer none,.int .i64 (most:Nat)] 114)) b p mb S g v E most (hGr.below (bel_alloc (Below.refl _ _))) hGs h1 h2)
 have hnew:(w2.alloc (.cells #[.pointer (some ⟨q,0,none⟩),.pointer (some ⟨t,0,none⟩),.pointer (some ⟨b,0,none⟩),.pointer none,.int .i64 (most:Nat)] 114)).heap[s]? = some (.cells #[.pointer (some ⟨q,0,none⟩),.pointer (some ⟨t,0,none⟩),.pointer (some ⟨b,0,none⟩),.pointer none,.int .i64 (most:Nat)] 114 (0,0)):=by
  rw [←hs];exact heap_alloc_new _ _
 replace hnew:=Lib.hid hnew;replace hGr:=Lib.hid hGr;replace hGs:=Lib.hid hGs;clear cG hb1 hb2;go_wp2_with fail;refine cL.out.mono ?_;rintro e w4 ⟨bl,ml,me,Sb,nl,rfl,hLv,hall,hb4⟩
 have hs4:=(hb4.block s (by rw [←hs];simp)).trans hnew.out
 have hall2:∀k∈bl :: ml :: me :: Sb,w.heap.size≤k:=fun k hk=>by
  have h8:=hall k hk;have h9:=HB2.size;simp at h8;omega
 have hFr2:=Lib.hid (And.intro hFr.out.1 (And.intro hFr.out.2 hall2));clear hFr hall2
 have k3:w4.cell? ⟨s,3,none⟩=some (.pointer none):=by rw [Lib.cell_of_heap hs4];rfl
 have f3:w4.frozen? ⟨s,3,none⟩=false:=Lib.frozen_of_heap hs4 3;have B4:=bel_trans (bel_alloc (Below.refl w2.heap.size w2)) hb4
 have B5:=B4.setCell (p:=⟨s,3,none⟩) (by rw [hs];exact Nat.le_refl _) (.pointer (some ⟨bl,0,none⟩))
 have HB5:=bel_trans HB2 B5;have hs5:=set_heap1 w4 s 3 _ _ (.pointer (some ⟨bl,0,none⟩)) hs4
 have hL5:=hLv.kept ((Kept.refl [s] w4).setCell (p:=⟨s,3,none⟩) (u:=.pointer (some ⟨bl,0,none⟩)) (.inl (by simp))) (fun k hk=>by
  have:=hall k hk;simp at this;simp;omega)
 have hG5:=hGr.out.below B5;have hT5:=Lib.hid (hT2.out.below B5);clear hT2;replace hs5:=Lib.hid hs5;replace hL5:=Lib.hid hL5;replace hG5:=Lib.hid hG5;replace hs4:=Lib.hid hs4;have hws:=HB2.size;clear hLv hall hb4 B4 B5;go_wp2_with fail;go_ret2
 refine ⟨s,_,rfl,⟨q,t,b,p,mb,bl,ml,me,S,E,Sb,nl,hs5.out,h1,h2,h.out.below HB5 h.out.lt,hG5.out,hGs.out,hL5.out,p1,hT5.out,hAp.out,rfl⟩,fun k hk=>?_,HB5⟩
 obtain ⟨⟨f1,f2,f3⟩,f4,f5⟩:=hFr2.out;simp only [List.mem_cons,List.mem_append] at hk
 rcases hk with rfl | rfl | rfl | rfl | rfl | rfl | rfl | hk | rfl | rfl | rfl | hk
 ·right;omega
 ·left;rfl
 ·right;omega
 ·right;omega
 ·right;exact Nat.le_trans f3 (f4 _ (by simp))
 ·right;exact Nat.le_trans f3 (f4 _ (by simp))
 ·right;exact Nat.le_trans f3 (f4 _ (by simp))
 ·right;exact Nat.le_trans f3 (f4 k (by simp [hk]))
 ·right;exact f5 _ (by simp)
 ·right;exact f5 _ (by simp)
 ·right;exact f5 _ (by simp)
 ·right;exact f5 k (by simp [hk])
def LoadD (w:World) (l:List UInt8) (most:Int) (e:Ending) (w':World):Prop:=
 (∃k:Nat,0<k∧e=.returned (.tuple #[.pointer none,.iface 45 (.int .i64 (k:Nat))])∧Below w.heap.size w w'∧((parseS l=.bad k)∨((∃a b R,parseS l=.ok a b R)∧(most<1∨6<most)∧k=1))) ∨
 ∃a b R m s,parseS l=.ok a b R∧most=((m:Nat):Int)∧1≤m∧m≤6∧e=.returned (.tuple #[.pointer (some ⟨s,0,none⟩),.nilIface])∧ServFr w.heap.size w' s (partG a b R (b*a)) (cntB (rowsB a R) (b*a)) m∧Below w.heap.size w w'
theorem navLoad (w : World) (hV : LibS w) (l : List UInt8) (most : Int) :
    Calls Tryz.prog 17 #[.string (bs l),.int .i64 most] w (LoadD w l most):=by
 have cP:=Lib.hid (textParse w l hV);go_enter Tryz.func17,Tryz.ntmps17;go_wp2_with fail;refine cP.out.mono ?_
 rintro e w1 (⟨k,h1,h2,rfl,hb1⟩ | ⟨a,b,R,p,h1,rfl,h3,hG,hb1⟩)
 ·replace h1:=Lib.hid h1
  go_wp2_with fail;go_ret2;exact .inl ⟨k,h2,rfl,hb1,.inl h1.out⟩
 ·replace h1:=Lib.hid h1
  by_cases hm:most<1∨6<most
  ·have cO:=Lib.hid (navOver_bad w1 p _ _ most hG hm)
   replace hm:=Lib.hid hm;clear hG;go_wp2_with fail;refine cO.out.mono ?_;rintro e w2 ⟨rfl,hb2⟩;go_wp2_with fail;go_ret2
   exact .inl ⟨1,by decide,rfl,bel_trans hb1 hb2,.inr ⟨⟨a,b,R,h1.out⟩,hm.out,rfl⟩⟩
  ·obtain ⟨m,rfl⟩:=Int.eq_ofNat_of_zero_le (show 0≤most by omega)
   have m1:1≤m:=by omega
   have m2:m≤6:=by omega
   have cO:=Lib.hid (navOver_ok w1 p _ _ m hG m1 m2);clear hG hm;go_wp2_with fail;refine cO.out.mono ?_;intro e w2 hO;obtain ⟨s,rfl,hS,hb2⟩:=hO.fr hb1 h3;replace hS:=Lib.hid hS;clear hO;go_wp2_with fail;go_ret2;exact .inr ⟨a,b,R,m,s,h1.out,rfl,m1,m2,rfl,hS.out,hb2⟩
end Go.Proofs.YtokhnobcincfjaaGreatDoor
