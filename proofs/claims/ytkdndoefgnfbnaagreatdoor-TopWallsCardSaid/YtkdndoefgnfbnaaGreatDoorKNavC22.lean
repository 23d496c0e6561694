/- Lemmas of this claim: GSet2, GSet3, GSet4. -/
import Derived.Test.YtkdndoefgnfbnaaGreatDoorKNavC21
import Derived.Test.YtkdndoefgnfbnaaGreatDoorKNavC12
import Derived.Test.YtkdndoefgnfbnaaGreatDoorKNavC19
import Derived.Deep.DeepCutAuto
set_option linter.unusedVariables false
set_option linter.unusedSimpArgs false
set_option maxHeartbeats 6400000
set_option maxRecDepth 100000
namespace Go.Proofs.YtkdndoefgnfbnaaGreatDoor
open Go.RowKit Go.Sort FR
def TurnN (g:G) (N:Nat→Prop) (c:Nat) (z:Nat):Prop:=(z=c∧g.Corner c)∨(z≠c∧N z)
def TurnE (g:G) (N:Nat→Prop) (D:Nat→Nat→Prop) (c a b:Nat):Prop:=D a b∧((a≠c∧b≠c)∨(g.Corner c∧N c))
def TurnD (w:World) (b p mb:Nat) (S:List Nat) (g:G) (v:Int) (N:Nat→Prop) (D:Nat→Nat→Prop) (c:Nat) (e:Ending) (w':World):Prop:=
 ∃(t:Bool) (S':List Nat) (E':Int→Option (List Ed)),e=.returned (.bool t)∧GraphOf w' b p mb S' g v E'∧GSp g (TurnN g N c) (TurnE g N D c) E'∧(∀k∈S',k∈S∨w.heap.size≤k)∧Kept (mb :: S) w w'
theorem EMap.drop {w wU : World} {S : List Nat} {mb N N2 : Nat} {E : Int → Option (List Ed)} {V : Int → Option Value} {a : Int}
    (h1:MapAt iK w mb V N) (h2:∀k,E k=none↔V k=none) (h3:∀k u L,V k=some u→E k=some L→OwnE w 0 u L) (h4:∀k u q,V k=some u→u.ownBlock=some q→q∈S) (h5:mb∉S)
    (h6:∀k k' u u' q,V k=some u→V k'=some u'→u.ownBlock=some q→u'.ownBlock=some q→k=k') (h7:∀s,s∈S→s<w.heap.size)
    (hM:MapAt iK wU mb (updK V a none) N2) (hK:Kept [mb] w wU):EMap wU S mb (updE E a none):=by
 refine ⟨_,N2,hM,fun k=>?_,fun k x L hx hL=>?_,fun k x q hx hq=>?_,h5,fun k k' x x' q hx hx' hq hq'=>?_,fun s hs=>Nat.lt_of_lt_of_le (h7 s hs) hK.size⟩
 ·unfold updE updK
  split
  ·simp
  ·exact h2 k
 ·unfold updE at hL
  unfold updK at hx
  split at hx
  ·cases hx
  ·rename_i e
   rw [if_neg e] at hL
   exact (h3 k x L hx hL).kept hK (fun q hq=>by
    have:=h4 k x q hx hq;simp;rintro rfl;exact h5 this)
 ·unfold updK at hx
  split at hx
  ·cases hx
  ·exact h4 k x q hx hq
 ·unfold updK at hx hx'
  split at hx
  ·cases hx
  ·split at hx'
   ·cases hx'
   ·exact h6 k k' x x' q hx hx' hq hq'
def CutK (D:Nat→Nat→Prop) (L:List Ed) (c k a b:Nat):Prop:=D a b∧∀(j:Nat) (e:Ed),j<k→L[j]? = some e→∀y:Nat,e.to_=y→¬Pr c y a b
def CutI (w w1:World) (b p mb:Nat) (S:List Nat) (g:G) (v:Int) (N:Nat→Prop) (D:Nat→Nat→Prop) (c:Nat) (L:List Ed) (A:Option Addr) (k:Nat) (wr:World):Prop:=
 ∃S' E',GraphOf wr b p mb S' g v E'∧GSp g N (CutK D L c k) E'∧(∀k∈S',k∈S∨w.heap.size≤k)∧Kept (mb :: S) w wr∧EdsAt wr A L∧(∀ad,A=some ad→ad.block∉mb :: S')
theorem kept_more {w w1 w2:World} {mb:Nat} {S S1:List Nat} (h:Kept (mb :: S) w w1) (k:Kept (mb :: S1) w1 w2) (hS:∀q∈S1,q∈S∨w.heap.size≤q):Kept (mb :: S) w w2:=
 ⟨k.os.trans h.os,k.tape.trans h.tape,k.output.trans h.output,Nat.le_trans h.size k.size,fun q hq hn=>by
  refine (k.block q (Nat.lt_of_lt_of_le hq h.size) ?_).trans (h.block q hq hn);intro hm
  rcases List.mem_cons.1 hm with e | e
  ·exact hn (by rw [e];simp)
  ·rcases hS q e with r | r
   ·exact hn (List.mem_cons_of_mem _ r)
   ·omega⟩
theorem more_more {w w1:World} {S S1 S2:List Nat} (hs:w.heap.size≤w1.heap.size) (h1:∀k∈S1,k∈S∨w.heap.size≤k) (h2:∀k∈S2,k∈S1∨w1.heap.size≤k):∀k∈S2,k∈S∨w.heap.size≤k:=fun k hk=>by
 rcases h2 k hk with q | q
 ·exact h1 k q
 ·exact .inr (by omega)
theorem EMap.lts {w:World} {S:List Nat} {mb:Nat} {E:Int→Option (List Ed)} (h:EMap w S mb E):∀s∈S,s<w.heap.size:=by
 obtain ⟨_,_,_,_,_,_,_,_,h7⟩:=h;exact h7
theorem graphTurn (w : World) (b p mb : Nat) (S : List Nat) (g : G) (v : Int) (E : Int → Option (List Ed)) (N : Nat → Prop) (D : Nat → Nat → Prop) (c : Nat) (h : GraphOf w b p mb S g v E) (hS : GSp g N D E) (hNf : ∀ c, N c → c < g.n) (hc : c < g.n) (hsym : ∀ a b, D a b → D b a) :
    Calls Tryz.prog 95 #[.pointer (some ⟨b,0,none⟩),.int .i64 (c:Nat)] w (TurnD w b p mb S g v N D c):=by
 have hg:=h.2.1;have hok:=hg.1;have hNn:=G.n_le hok
 have kb0:w.cell? ⟨b,0,none⟩=some (.pointer (some ⟨p,0,none⟩)):=by simp [World.cell?,h.1]
 have kb1:w.cell? ⟨b,1,none⟩=some (.map (some mb)):=by simp [World.cell?,h.1]
 obtain ⟨t,ht⟩:∃t,cornerB g c=t:=⟨_,rfl⟩
 have hcor:t=true↔g.Corner c:=by rw [←ht];exact corner_iff' hc
 have cI:=cornerIs_in w p g v c hg hc;rw [ht] at cI;have cI:=Lib.hid cI;have Hcor:=Lib.hid hcor;have H:=Lib.hid h;have HS:=Lib.hid hS;have HNf:=Lib.hid hNf;have Hsym:=Lib.hid hsym;obtain ⟨_,_,⟨V,n0,q1,q2,q3,q4,q5,q6,q7⟩,_⟩:=h;have Q:=Lib.hid (And.intro q1 (And.intro q2 (And.intro q3 (And.intro q4 (And.intro q5 (And.intro q6 q7))))))
 have hlk:∀w',Below w.heap.size w w'→(Instr.lookup 151 (.map (some mb)) (.int .i64 (c:Nat)) true).run Tryz.prog w'=.ok (.tuple #[(V c).getD (.slice none 0 0),.bool (V c).isSome]) w':=fun w' hb=>
  ((q1.below hb).look (int_fit Tryz.underlying3) Tryz.underlying151 (z:=.slice none 0 0) (by simp [Tryz.zeroValue112]) (c:Int)).1
 have hVN:(V c).isSome=true↔N c:=by
  have h1:=hS.1 c;have h2:=q2 c
  constructor
  ·intro hv
   obtain ⟨c',e,hn⟩:=h1.1 (fun e=>by rw [h2.1 e] at hv;cases hv)
   obtain rfl:c=c':=by omega
   exact hn
  ·intro hn
   cases hV:V c with
   | none=>exact absurd (h2.2 hV) (h1.2 ⟨c,rfl,hn⟩)
   | some _=>rfl
 obtain ⟨u,hu⟩:∃u,(V c).getD (.slice none 0 0)=u:=⟨_,rfl⟩;obtain ⟨s,hs⟩:∃s,(V c).isSome=s:=⟨_,rfl⟩;rw [hu,hs] at hlk;rw [hs] at hVN;have Hlk:=Lib.hid hlk;have HVN:=Lib.hid hVN;have Hu:=Lib.hid hu;have Hs:=Lib.hid hs;clear hS hNf hsym q1 q2 q3 q4 q5 q6 q7 hg ht hcor hlk hVN hu hs;go_enter Tryz.func95,Tryz.ntmps95;go_wp2_with fail
 (with_reducible refine cI.out.mono ?_)
 rintro e w1 ⟨rfl,hb1⟩;have kb1:=bel_cell hb1 kb1;have hl1:=Hlk.out _ hb1;have H1:=Lib.hid (H.out.below hb1);clear cI kb0
 have hrest:(t=true∧s=true)∨(t=false∧s=false)→TurnD w b p mb S g v N D c (.returned (.bool false)) w1:=by
  intro hor
  refine ⟨false,S,E,rfl,H1.out,HS.out.congr (fun z=>?_) (fun x y hx hy _=>?_) (fun _ _=>rfl),fun k hk=>.inl hk,Kept.of_below hb1⟩
  ·unfold TurnN
   by_cases e:z=c
   ·subst e
    rcases hor with ⟨r1,r2⟩ | ⟨r1,r2⟩
    ·have:=Hcor.out.1 r1;have:=HVN.out.1 r2;simp [*]
    ·have n1:¬N z:=fun hh=>by have:=HVN.out.2 hh;rw [r2] at this;cases this
     have n2:¬g.Corner z:=fun hh=>by have:=Hcor.out.2 hh;rw [r1] at this;cases this
     simp [n1,n2]
   ·simp [e]
  ·unfold TurnE
   refine ⟨fun hd=>⟨hd,?_⟩,fun hd=>hd.1⟩
   rcases hor with ⟨r1,r2⟩ | ⟨r1,r2⟩
   ·exact .inr ⟨Hcor.out.1 r1,HVN.out.1 r2⟩
   ·left
    have n1:¬N c:=fun hh=>by have:=HVN.out.2 hh;rw [r2] at this;cases this
    exact ⟨fun e=>n1 (by rw [←e];exact hx),fun e=>n1 (by rw [←e];exact hy)⟩
 have Hrest:=Lib.hid hrest;clear hrest
 cases t with
 | true=>
  cases s with
  | true=>
   have hfin:=Lib.hid (Hrest.out (.inl ⟨rfl,rfl⟩));clear Hrest hb1;go_wp2;go_ret;exact hfin.out
  | false=>
   clear Hrest
   have hnN:¬N c:=fun hh=>by have:=HVN.out.2 hh;cases this
   have hcc:g.Corner c:=Hcor.out.1 rfl;obtain ⟨wU,hU,hMU,hKU⟩:=(Q.out.1.below hb1).store (int_fit Tryz.underlying3) Tryz.underlying151 (c:Int) (.slice none 0 0);have hU:(Instr.mapUpdate 151 (.map (some mb)) (.int .i64 (c:Nat)) (.slice none 0 0)).run Tryz.prog w1=.ok () wU:=hU
   have hE2:EMap wU S mb (updE E c (some [])):=EMap.add (Q.out.1.below hb1) Q.out.2.1 (fun k u L a1 a2=>(Q.out.2.2.1 k u L a1 a2).kept (T:=[]) (.of_below hb1) (fun _ _=>by simp)) Q.out.2.2.2.1 Q.out.2.2.2.2.1 Q.out.2.2.2.2.2.1 (fun s hs=>Nat.lt_of_lt_of_le (Q.out.2.2.2.2.2.2 s hs) hb1.size) hMU hKU
   have hfin:TurnD w b p mb S g v N D c (.returned (.bool true)) wU:=by
    refine ⟨true,S,_,rfl,H1.out.put hE2 (fun k hk=>.inl hk) (hKU.wid (by simp)),(HS.out.add hnN).congr (fun z=>?_) (fun x y _ _ _=>?_) (fun _ _=>rfl),fun k hk=>.inl hk,(Kept.of_below hb1).trans (hKU.wid (by simp))⟩
    ·unfold TurnN
     by_cases e:z=c
     ·subst e;simp [hcc]
     ·simp [e]
    ·unfold TurnE
     constructor
     ·rintro ⟨a1,a2,a3⟩;exact ⟨a1,.inl ⟨a2,a3⟩⟩
     ·rintro ⟨a1,a2 | ⟨_,a2⟩⟩
      ·exact ⟨a1,a2⟩
      ·exact absurd a2 hnN
   have hfin:=Lib.hid hfin;clear hE2 hMU hKU hb1;go_wp2;go_ret;exact hfin.out
 | false=>
  cases s with
  | false=>
   have hfin:=Lib.hid (Hrest.out (.inr ⟨rfl,rfl⟩));clear Hrest hb1;go_wp2;go_ret;exact hfin.out
  | true=>
   clear Hrest;have hN:N c:=HVN.out.1 rfl
   have hnc:¬g.Corner c:=fun hh=>by have:=Hcor.out.2 hh;cases this
   obtain ⟨L,hL,sL,iL,lL,mL⟩:=HS.out.facts hNn HNf.out hN
   have hVu:V c=some u:=by
    have a:=Hu.out;have b:=Hs.out
    cases hV:V c with
    | none=>rw [hV] at b;cases b
    | some x=>rw [hV] at a;simp at a;rw [a]
   have hOu:OwnE w1 0 u L:=(Q.out.2.2.1 c u L hVu hL).kept (T:=[]) (.of_below hb1) (fun _ _=>by simp)
   have cC:=Lib.hid (edClone w1 0 u L hOu (by omega))
   have HmL:=Lib.hid mL;have HB1:=Lib.hid hb1;clear hL hVu hOu mL hb1 iL sL;go_wp2_with fail
   (with_reducible refine cC.out.mono ?_)
   rintro e w2 ⟨A,m,rfl,hEd,hAn,hb2⟩;have hb02:=bel_trans HB1.out hb2
   have hstart:CutI w w2 b p mb S g v N D c L A 0 w2:=by
    refine ⟨S,E,H1.out.below hb2,HS.out.congr (fun _=>Iff.rfl) (fun x y _ _ _=>?_) (fun _ _=>rfl),fun k hk=>.inl hk,Kept.of_below hb02,hEd,fun ad e hm=>?_⟩
    ·unfold CutK
     exact ⟨fun hd=>⟨hd,fun j e hj=>by omega⟩,fun hd=>hd.1⟩
    ·have h1:=hAn ad e
     have h2:=HB1.out.size;have h3:=H.out.2.2.1.lt;have h4:=H.out.2.2.1.lts
     rcases List.mem_cons.1 hm with r | r
     ·omega
     ·have:=h4 _ r;omega
   obtain ⟨n,hn⟩:∃n,L.length=n:=⟨_,rfl⟩
   rw [hn] at lL ⊢
   have Hn:=Lib.hid hn;have HB2:=Lib.hid hb02;clear hl1 cC hEd hAn hb2 hn kb1 hb02 H1;go_wp2_with fail
   go_loopw [49] (fun kv wr=>∃k:Nat,kv=.int .i64 k∧k≤n∧CutI w w2 b p mb S g v N D c L A k wr) (fun kv _=>n-(intOf kv).toNat)
   case atStart=>exact ⟨0,rfl,by omega,hstart⟩
   case round=>
    obtain ⟨k,rfl,hk,S1,E1,hG1,hS1,hN1,hK1,hEd1,hA1⟩:=hrel;clear hstart
    by_cases hlt:k<n
    ·obtain ⟨ek,hek⟩:∃e,L[k]? = some e:=⟨L[k]'(by rw [Hn.out];exact hlt),List.getElem?_eq_getElem _⟩
     obtain ⟨y,hy1,hy2,hy3,hey⟩:=(HmL.out ek).1 (List.mem_of_getElem? hek);obtain ⟨os,hos⟩:∃o,g.oct c y=o:=⟨_,rfl⟩;rw [hos] at hey;subst hey;obtain ⟨ga,hA,a1,a2,a3,a4⟩:=hEd1.get hek
     have hix:=fun wx=>idxE (m:=m) hA hlt wx
     simp only at a1 a2 a3 a4;obtain ⟨os,od⟩:=os;simp only at a1 a2 a3 a4;obtain ⟨Lc,hLc,_,_,lc,_⟩:=hS1.facts hNn HNf.out hN;obtain ⟨Ly,hLy,_,_,ly,_⟩:=hS1.facts hNn HNf.out hy1;have Hek:=Lib.hid hek;have HG1:=Lib.hid hG1;have Hsp:=Lib.hid (hS1.cut hN hy1 (Ne.symm hy2) hLc hLy);have HN1:=Lib.hid hN1;have HK1:=Lib.hid hK1;have HEd1:=Lib.hid hEd1;have HA1:=Lib.hid hA1
     have cT:=Lib.hid (fun w' (hb:Below wr.heap.size wr w')=>graphCut w' S1 b p mb E1 (c:Nat) (y:Nat) Lc Ly (hG1.below hb).1 (hG1.below hb).2.2.1 hG1.2.2.2.1 hG1.2.2.2.2.2.1 hLc hLy (by omega) (by omega) (by omega))
     clear hek hos hA hG1 hS1 hN1 hK1 hEd1 hA1 hLc hLy
     go_upto_region 10 with (fail)
     refine wp_name ?_;intro W hW
     have HW:Below wr.heap.size wr W:=by rw [hW];(repeat' (first | exact Below.refl _ _ | assumption | apply bel_drewN | apply bel_drew | apply bel_alloc | (refine bel_trans ?_ (by assumption))))
     have e0:W.cell? ⟨wr.heap.size,0,none⟩=some (.int .i64 (y:Nat)):=by rw [hW];go_simp
     obtain ⟨bx,hbx⟩:∃z,wr.heap.size=z:=⟨_,rfl⟩;have Hbx:=Lib.hid hbx
     rw [hbx] at e0 ⊢
     clear hW a1 a2 a3 a4 hix hbx;go_wp2_with fail
     (refine (cT.out _ HW).mono ?_)
     rintro e w3 ⟨rfl,S2,hE2,hN2,hK2⟩
     have hfin:CutI w w2 b p mb S g v N D c L A (k+1) w3:=by
      refine ⟨S2,_,(HG1.out.below HW).put hE2 hN2 hK2,Hsp.out.congr (fun _=>Iff.rfl) (fun x z _ _ _=>?_) (fun _ _=>rfl),?_,?_,?_,?_⟩
      ·unfold CutK
       constructor
       ·rintro ⟨⟨d1,d2⟩,d3⟩
        refine ⟨d1,fun j e hj he y' hy'=>?_⟩
        by_cases ej:j=k
        ·subst ej
         rw [Hek.out] at he
         injection he with he
         subst he;simp only at hy'
         obtain rfl:y=y':=by omega
         exact d3
        ·exact d2 j e (by omega) he y' hy'
       ·rintro ⟨d1,d2⟩
        exact ⟨⟨d1,fun j e hj he y' hy'=>d2 j e (by omega) he y' hy'⟩,d2 k _ (by omega) Hek.out y rfl⟩
      ·exact more_more (Nat.le_trans HK1.out.size HW.size) HN1.out hN2
      ·exact kept_more (HK1.out.trans (Kept.of_below HW)) hK2 HN1.out
      ·exact ((HEd1.out.below HW).kept hK2 (fun ad e=>HA1.out ad e))
      ·intro ad e hm
       have hlA:ad.block<wr.heap.size:=by
        obtain ⟨ga,e2,hl,_⟩:=HEd1.out (by rw [Hn.out];omega)
        rw [e2] at e
        injection e with e
        rw [←e];exact hl
       rcases List.mem_cons.1 hm with r | r
       ·exact HA1.out ad e (by rw [r];simp)
       ·rcases hN2 _ r with q | q
        ·exact HA1.out ad e (List.mem_cons_of_mem _ q)
        ·have:=HW.size;omega
     have hfin:=Lib.hid hfin;clear hE2 hN2 hK2 HW e0 cT;go_wp2;go_roundw
     case rel=>first | exact ⟨k+1,by go_num,by omega,hfin.out⟩ | ((repeat apply Exists.intro);exact ⟨⟨k+1,by go_num,by omega,hfin.out⟩,rfl⟩)
     case measure=>simp [intOf];omega
    ·obtain rfl:k=n:=by omega
     have hD:∀x,N x→x≠c→¬CutK D L c k x c:=by
      rintro x hx hxc ⟨d1,d2⟩;have hm:=(HmL.out ⟨x,g.oct c x,-1⟩).2 ⟨x,hx,hxc,Hsym.out _ _ d1,rfl⟩;obtain ⟨j,hj⟩:=List.getElem?_of_mem hm;have hjl:=(List.getElem?_eq_some_iff.1 hj).1
      exact d2 j _ (by have:=Hn.out;omega) hj x rfl (.inr ⟨rfl,rfl⟩)
     have hsub:=hS1.sub hD
     have kb1:wr.cell? ⟨b,1,none⟩=some (.map (some mb)):=by simp [World.cell?,hG1.1]
     have HG1:=Lib.hid hG1;have Hsub:=Lib.hid hsub;have HN1:=Lib.hid hN1;have HK1:=Lib.hid hK1;obtain ⟨_,_,⟨V1,n1,p1,p2,p3,p4,p5,p6,p7⟩,_⟩:=hG1;have P:=Lib.hid (And.intro p1 (And.intro p2 (And.intro p3 (And.intro p4 (And.intro p5 (And.intro p6 p7))))));clear hD hsub hS1 hN1 hK1 hEd1 hA1 p1 p2 p3 p4 p5 p6 p7;go_wp2_with (at_delete;(refine wpList_dropM rfl _ _ rfl (int_fit Tryz.underlying3) Tryz.underlying151 P.out.1 rfl (c:Int) rfl ?_);intro w5 hM5 hk5)
     have hE5:EMap w5 S1 mb (updE E1 c none):=EMap.drop P.out.1 P.out.2.1 P.out.2.2.1 P.out.2.2.2.1 P.out.2.2.2.2.1 P.out.2.2.2.2.2.1 P.out.2.2.2.2.2.2 hM5 hk5
     have hfin:TurnD w b p mb S g v N D c (.returned (.bool false)) w5:=by
      refine ⟨false,S1,_,rfl,HG1.out.put hE5 (fun k hk=>.inl hk) (hk5.wid (by simp)),Hsub.out.congr (fun z=>?_) (fun x y hx hy _=>?_) (fun _ _=>rfl),HN1.out,HK1.out.trans (hk5.wid (by simp))⟩
      ·unfold TurnN
       by_cases e:z=c
       ·subst e;simp [hnc]
       ·simp [e]
      ·unfold TurnE CutK
       constructor
       ·rintro ⟨⟨d1,_⟩,d2,d3⟩;exact ⟨d1,.inl ⟨d2,d3⟩⟩
       ·rintro ⟨d1,⟨d2,d3⟩ | ⟨d2,_⟩⟩
        ·refine ⟨⟨d1,fun j e hj he y' hy'=>?_⟩,d2,d3⟩
         rintro (⟨r1,_⟩ | ⟨_,r2⟩)
         ·exact d2 r1
         ·exact d3 r2
        ·exact absurd d2 hnc
     have hfin:=Lib.hid hfin;clear hE5 hM5 hk5 kb1;go_wp2;go_ret;exact hfin.out
def SetGD (w:World) (b p mb:Nat) (S:List Nat) (g:G) (v:Int) (e:Ending) (w':World):Prop:=
 e=.returned (.tuple #[.bool true,.nilIface])∧∃S' E',GraphOf w' b p mb S' g v E'∧GSpec g (fun _ _=>True) E'∧(∀k∈S',k∈S∨w.heap.size≤k)∧Kept (p :: mb :: S) w w'
def SetI (w:World) (b p mb:Nat) (S:List Nat) (g g':G) (v:Int) (c:Nat) (nx ny:Int) (fv:Value) (wr:World):Prop:=
 ∃S' E' zs,GraphOf wr b p mb S' g' v E'∧GSp g' (g.PN g' c nx ny) (g.PD g' c nx ny) E'∧(∀k∈S',k∈S∨w.heap.size≤k)∧Kept (p :: mb :: S) w wr∧OwnI wr w.heap.size fv zs∧(zs.length:Int)≤3*(ny-g.Y c+1)+(nx-g.X c+1)∧∀q,fv.ownBlock=some q→q∉b :: p :: mb :: S'
theorem kept_more' {w w1 w2:World} {p mb:Nat} {S S1:List Nat} (h:Kept (p :: mb :: S) w w1) (k:Kept (mb :: S1) w1 w2) (hS:∀q∈S1,q∈S∨w.heap.size≤q):Kept (p :: mb :: S) w w2:=
 ⟨k.os.trans h.os,k.tape.trans h.tape,k.output.trans h.output,Nat.le_trans h.size k.size,fun q hq hn=>by
  refine (k.block q (Nat.lt_of_lt_of_le hq h.size) ?_).trans (h.block q hq hn);intro hm
  rcases List.mem_cons.1 hm with e | e
  ·exact hn (by rw [e];simp)
  ·rcases hS q e with r | r
   ·exact hn (by simp [r])
   ·omega⟩
theorem SetI.none {w wr:World} {b p mb:Nat} {S:List Nat} {g g':G} {v:Int} {c:Nat} {nx ny:Int} {fv:Value} (hg:g.ok) (h:SetI w b p mb S g g' v c nx ny fv wr) (ho:¬(0≤nx∧nx<g.w∧0≤ny∧ny<g.h)):SetI w b p mb S g g' v c (nx+1) ny fv wr:=by
 obtain ⟨S',E',zs,h1,h2,h3,h4,h5,h6,h7⟩:=h
 refine ⟨S',E',zs,h1,h2.congr (fun z=>?_) (fun a b ha hb _=>?_) (fun _ _=>rfl),h3,h4,h5,by omega,h7⟩
 ·unfold G.PN
  refine and_congr_right fun hz=>?_
  rw [G.Pd_none hg hz ho]
 ·unfold G.PD
  rw [G.Pd_none hg ha.1 ho,G.Pd_none hg hb.1 ho]
theorem SetI.row {w wr:World} {b p mb:Nat} {S:List Nat} {g g':G} {v:Int} {c:Nat} {nx ny:Int} {fv:Value} (h:SetI w b p mb S g g' v c nx ny fv wr) (e:nx=(g.X c:Int)+2):SetI w b p mb S g g' v c ((g.X c:Int)-1) (ny+1) fv wr:=by
 obtain ⟨S',E',zs,h1,h2,h3,h4,h5,h6,h7⟩:=h
 refine ⟨S',E',zs,h1,h2.congr (fun z=>?_) (fun a b _ _ _=>?_) (fun _ _=>rfl),h3,h4,h5,by omega,h7⟩
 ·unfold G.PN;rw [G.Pd_row e]
 ·unfold G.PD;rw [G.Pd_row e,G.Pd_row e]
theorem SetI.turned {w wr w2 : World} {b p mb : Nat} {S S' : List Nat} {g g' : G} {v : Int} {c k : Nat} {nx ny : Int} {fv : Value} {zs : List Int} {S2 : List Nat} {E2 : Int → Option (List Ed)} (hn : g'.n = g.n)
    (h3:∀k∈S',k∈S∨w.heap.size≤k) (h4:Kept (p :: mb :: S) w wr) (h5:OwnI wr w.heap.size fv zs) (h6:(zs.length:Int)≤3*(ny-g.Y c+1)+(nx-g.X c+1)) (h7:∀q,fv.ownBlock=some q→q∉b :: p :: mb :: S')
    (hkn:k<g.n) (hx:(g.X k:Int)=nx) (hy:(g.Y k:Int)=ny) (hk:g.nigh c k)
    (t1:GraphOf w2 b p mb S2 g' v E2) (t2:GSp g' (TurnN g' (g.PN g' c nx ny) k) (TurnE g' (g.PN g' c nx ny) (g.PD g' c nx ny) k) E2) (t3:∀k∈S2,k∈S'∨wr.heap.size≤k) (t4:Kept (mb :: S') wr w2) :
    SetI w b p mb S g g' v c (nx+1) ny fv w2∧∃S' E' zs,GraphOf w2 b p mb S' g' v E'∧GSp g' (g.PN g' c (nx+1) ny) (g.PD g' c (nx+1) ny) E'∧(∀k∈S',k∈S∨w.heap.size≤k)∧Kept (p :: mb :: S) w w2∧OwnI w2 w.heap.size fv zs∧(zs.length:Int)+1≤3*(ny-g.Y c+1)+(nx+1-g.X c+1)∧∀q,fv.ownBlock=some q→q∉b :: p :: mb :: S':=by
 have g2:GSp g' (g.PN g' c (nx+1) ny) (g.PD g' c (nx+1) ny) E2:=t2.congr (fun z=>G.PN_cell hkn hx hy hk) (fun a b ha hb _=>G.PD_cell hkn hx hy hk ((G.PN_cell hkn hx hy hk).1 ha) ((G.PN_cell hkn hx hy hk).1 hb)) (fun _ _=>rfl)
 have o2:OwnI w2 w.heap.size fv zs:=by
  refine ⟨h5.1,?_⟩
  rcases h5.2 with hn | ⟨g0,cap,cur,rfl,hb,hgg,rest⟩
  ·exact .inl hn
  ·refine .inr ⟨g0,cap,cur,rfl,hb,?_,rest⟩
   rw [t4.block g0 (Array.getElem?_eq_some_iff.1 hgg).1 (fun hm=>?_)]
   ·exact hgg
   ·have:=h7 g0 rfl
    exact this (by rcases List.mem_cons.1 hm with e | e <;> simp [e])
 have n2:∀q,fv.ownBlock=some q→q∉b :: p :: mb :: S2:=fun q hq hm=>by
  have hlt:=(World.ownsRow.lt h5 q hq).2;have:=h7 q hq
  rcases List.mem_cons.1 hm with e | hm
  ·exact this (by rw [e];simp)
  rcases List.mem_cons.1 hm with e | hm
  ·exact this (by rw [e];simp)
  rcases List.mem_cons.1 hm with e | hm
  ·exact this (by rw [e];simp)
  rcases t3 q hm with e | e
  ·exact this (by simp [e])
  ·omega
 have s2:=more_more h4.size h3 t3;have k2:=kept_more' h4 t4 h3
 exact ⟨⟨S2,E2,zs,t1,g2,s2,k2,o2,by omega,n2⟩,S2,E2,zs,t1,g2,s2,k2,o2,by omega,n2⟩
def PairD (g g':G) (c:Nat) (nx ny:Int) (i j a b:Nat):Prop:=(Dn g' i j a b∧g'.Direct a b)∨(¬Dn g' i j a b∧g.PD g' c nx ny a b)
def PairI (w:World) (b p mb:Nat) (S:List Nat) (g g':G) (v:Int) (c:Nat) (nx ny:Int) (bl:List Nat) (i j:Nat) (wr:World):Prop:=
 ∃S' E',GraphOf wr b p mb S' g' v E'∧GSp g' g'.Corner (PairD g g' c nx ny i j) E'∧(∀k∈S',k∈S∨w.heap.size≤k)∧Kept (p :: mb :: S) w wr∧∀q∈bl,q∉b :: p :: mb :: S'
theorem pair_step {g g':G} {c:Nat} {nx ny:Int} {i j:Nat} (hij:i<j) (hj:j<(cornersI g').length) (a b:Nat):((PairD g g' c nx ny i j a b∧¬Pr (cf g' i) (cf g' j) a b)∨(Pr (cf g' i) (cf g' j) a b∧g'.Direct a b))↔PairD g g' c nx ny i (j+1) a b:=by
 have h:=dn_step hij hj a b;have hn:=dn_not hij hj;unfold PairD;rw [←h];unfold DoneP Pr
 by_cases e:(a=cf g' i∧b=cf g' j)∨(a=cf g' j∧b=cf g' i)
 ·simp [e]
 ·simp [e]
theorem pair_keep {g g':G} {c:Nat} {nx ny:Int} {i j:Nat} (hij:i<j) (hj:j<(cornersI g').length) (he:∀a b,Pr (cf g' i) (cf g' j) a b→(g.PD g' c nx ny a b↔g'.Direct a b)) (a b:Nat):PairD g g' c nx ny i j a b↔PairD g g' c nx ny i (j+1) a b:=by
 have h:=dn_step hij hj a b;have hn:=dn_not hij hj;unfold PairD;rw [←h];unfold DoneP
 by_cases e:(a=cf g' i∧b=cf g' j)∨(a=cf g' j∧b=cf g' i)
 ·have:=he a b e
  rw [this]
  by_cases q:Dn g' i j a b <;> simp [q,e]
 ·simp [e]
theorem PairI.row {w wr:World} {b p mb:Nat} {S:List Nat} {g g':G} {v:Int} {c:Nat} {nx ny:Int} {bl:List Nat} {i j:Nat} (h:PairI w b p mb S g g' v c nx ny bl i j wr) (hj:(cornersI g').length≤j):PairI w b p mb S g g' v c nx ny bl (i+1) (i+2) wr:=by
 obtain ⟨S',E',h1,h2,h3,h4,h5⟩:=h
 refine ⟨S',E',h1,h2.congr (fun _=>Iff.rfl) (fun a b _ _ _=>?_) (fun _ _=>rfl),h3,h4,h5⟩
 unfold PairD;rw [dn_row hj a b]
theorem Ints.same {w w':World} {A:Option Addr} {n:Nat} {f:Nat→Int} (h:Ints w A n f) (hq:∀ad,A=some ad→w'.heap[ad.block]? = w.heap[ad.block]?) (hs:w.heap.size≤w'.heap.size):Ints w' A n f:=by
 intro hn;obtain ⟨ad,e,hl,hc⟩:=h hn
 refine ⟨ad,e,Nat.lt_of_lt_of_le hl hs,fun k hk=>?_⟩
 exact (World.cell?_of_block (a:=ad.add k) (by rw [add_block];exact hq ad e)).trans (hc k hk)
def SameBl (w3 wr:World) (bl:List Nat):Prop:=(∀q∈bl,wr.heap[q]? = w3.heap[q]?)∧w3.heap.size≤wr.heap.size
theorem SameBl.kept {w3 wr w':World} {bl T:List Nat} (h:SameBl w3 wr bl) (hl:∀q∈bl,q<w3.heap.size) (hk:Kept T wr w') (hT:∀q∈bl,q∉T):SameBl w3 w' bl:=
 ⟨fun q hq=>(hk.block q (Nat.lt_of_lt_of_le (hl q hq) h.2) (hT q hq)).trans (h.1 q hq),Nat.le_trans h.2 hk.size⟩
theorem PairI.anew {w wr w4 w5 : World} {b p mb : Nat} {S S1 S2 S3 : List Nat} {g g' : G} {v : Int} {c : Nat} {nx ny : Int} {bl : List Nat} {i j : Nat} {E5 : Int → Option (List Ed)} (hij : i < j) (hj : j < (cornersI g').length)
    (h3:∀k∈S1,k∈S∨w.heap.size≤k) (h4:Kept (p :: mb :: S) w wr) (h5:∀q∈bl,q∉b :: p :: mb :: S1) (hl:∀q∈bl,q<wr.heap.size)
    (a1:∀k∈S2,k∈S1∨wr.heap.size≤k) (a2:Kept (mb :: S1) wr w4) (b0:GraphOf w5 b p mb S3 g' v E5) (b1:GSp g' g'.Corner (fun x y=>(PairD g g' c nx ny i j x y∧¬Pr (cf g' i) (cf g' j) x y)∨(Pr (cf g' i) (cf g' j) x y∧g'.Direct x y)) E5) (b2:∀k∈S3,k∈S2∨w4.heap.size≤k) (b3:Kept (mb :: S2) w4 w5) :
    PairI w b p mb S g g' v c nx ny bl i (j+1) w5:=by
 have m1:=more_more h4.size h3 a1;have k1:=kept_more' h4 a2 h3;have m2:=more_more k1.size m1 b2;have k2:=kept_more' k1 b3 m1
 refine ⟨S3,E5,b0,b1.congr (fun _=>Iff.rfl) (fun x y _ _ _=>pair_step hij hj x y) (fun _ _=>rfl),m2,k2,fun q hq hm=>?_⟩
 have hlt:=hl q hq;have hno:=h5 q hq;have hs:=a2.size
 rcases List.mem_cons.1 hm with r | hm
 ·exact hno (by simp [r])
 rcases List.mem_cons.1 hm with r | hm
 ·exact hno (by simp [r])
 rcases List.mem_cons.1 hm with r | hm
 ·exact hno (by simp [r])
 rcases b2 q hm with r | r
 ·rcases a1 q r with r | r
  ·exact hno (by simp [r])
  ·omega
 ·omega
theorem graphSet_new (w : World) (b p mb : Nat) (S : List Nat) (g : G) (v : Int) (E : Int → Option (List Ed)) (c : Nat) (t : Bool) (h : GraphOf w b p mb S g v E) (hS : GSpec g (fun _ _ => True) E) (hc : c < g.n) (ht : g.b c = !t) (hv : 0 ≤ v ∧ v ≤ 1099511627776) :
    Calls Tryz.prog 62 #[.pointer (some ⟨b,0,none⟩),.int .i64 (c:Nat),.bool t] w (SetGD w b p mb S (gset g c t) (v+1)):=by
 have hg:=h.2.1;have hok:=hg.1;have hNn:=G.n_le hok
 have kb0:w.cell? ⟨b,0,none⟩=some (.pointer (some ⟨p,0,none⟩)):=by simp [World.cell?,h.1]
 have cS:=Lib.hid (gridSet_new w p g v c t hg hc ht hv);have H:=Lib.hid h;have HS:=Lib.hid hS;obtain ⟨g',hg'⟩:∃z,gset g c t=z:=⟨_,rfl⟩
 have hbut:G.But g g' (g.X c) (g.Y c):=by rw [←hg'];exact G.but_set hc
 have hn':g'.n=g.n:=hbut.n;have hok':g'.ok:=hbut.ok hok
 rw [hg'] at cS ⊢
 have Hbut:=Lib.hid hbut;have Hok:=Lib.hid (And.intro hok hok');obtain ⟨o1,o2,o3,o4⟩:=hok;have xX:=G.X_lt Hok.out.1 c;have yY:=G.Y_lt hc;clear h hS ht hg hg' hbut hok';go_enter Tryz.func62,Tryz.ntmps62;go_wp2_with fail
 (refine cS.out.mono ?_)
 rintro e w1 ⟨rfl,hG1,hK1⟩;have hbp:b≠p:=H.out.2.2.2.2.2.2.2
 have kb0:=keptc hK1 (by simpa using hbp) kb0
 have hGr1:GraphOf w1 b p mb S g' (v+1) E:=by
  obtain ⟨g1,g2,g3,g4,g5,g6,g7,g8⟩:=H.out
  refine ⟨(hK1.block b (Array.getElem?_eq_some_iff.1 g1).1 (by simpa using hbp)).trans g1,hG1,g3.kept hK1 (fun s hs=>by simp;rintro rfl;exact g5 hs) (by simpa using Ne.symm g7),g4,g5,g6,g7,g8⟩
 have cP:=Lib.hid (gridPlace_in w1 p g' (v+1) c hG1 (by omega))
 rw [Hbut.out.X,Hbut.out.Y] at cP;obtain ⟨X,hX⟩:∃X:Int,((g.X c:Nat):Int)=X:=⟨_,rfl⟩;obtain ⟨Y,hY⟩:∃Y:Int,((g.Y c:Nat):Int)=Y:=⟨_,rfl⟩
 have X0:0≤X:=by omega
 have X1:X≤16:=by omega
 have Y0:0≤Y:=by omega
 have Y1:Y≤16:=by omega
 rw [hX,hY] at cP;have HX:=Lib.hid hX;have HY:=Lib.hid hY;have HGr1:=Lib.hid hGr1;have HK1:=Lib.hid hK1;clear hX hY hG1 hGr1 hK1 cS;go_wp2_with fail
 (with_reducible refine cP.out.mono ?_)
 rintro e w2 ⟨rfl,hb2⟩;have hbs:=hb2.size;have hks:=HK1.out.size
 have hstart:SetI w b p mb S g g' (v+1) c (X-1) (Y-1) (.slice none 0 0) w2:=by
  refine ⟨S,E,[],HGr1.out.below hb2,HS.out.sp.congr (fun z=>?_) (fun x y _ _ _=>?_) (fun x y=>Hbut.out.oct x y),fun k hk=>.inl hk,(HK1.out.wid (by simp)).trans (Kept.of_below hb2),OwnI.nil _ _,?_,?_⟩
  ·unfold G.PN
   have:=G.Pd_start (g:=g) (c:=c) (z:=z);rw [HX.out,HY.out] at this
   exact ⟨fun hz=>⟨hz.1,.inr ⟨this,hz⟩⟩,fun hz=>(hz.2.resolve_left (fun q=>this q.1)).2⟩
  ·unfold G.PD
   have q1:=G.Pd_start (g:=g) (c:=c) (z:=x);have q2:=G.Pd_start (g:=g) (c:=c) (z:=y);rw [HX.out,HY.out] at q1 q2
   exact ⟨fun hz=>⟨hz.2,fun r=>absurd r q1,fun r=>absurd r q2⟩,fun hz=>⟨trivial,hz.1⟩⟩
  ·rw [HX.out,HY.out];simp;omega
  ·intro q hq;simp [Value.ownBlock] at hq
 clear hb2 kb0 cP HGr1 HK1 hbs hks;go_wp2_with fail;obtain ⟨wz,rfl⟩:∃wz:World,wz=w2:=⟨_,rfl⟩
 go_loopw [13,14] (fun fv nyv wr=>∃ny:Int,nyv=.int .i64 ny∧Y-1≤ny∧ny≤Y+2∧SetI w b p mb S g g' (v+1) c (X-1) ny fv wr) (fun _ nyv _=>(Y+2-intOf nyv).toNat)
 case atStart=>exact ⟨Y-1,rfl,by omega,by omega,hstart⟩
 case round=>
  obtain ⟨ny,rfl,hy1,hy2,hI⟩:=hrel;have HI:=Lib.hid hI;clear hstart hI
  by_cases hlt:ny≤Y+1
  ·have hstart2:=HI.out
   clear HI;go_wp2_with fail;obtain ⟨wo,rfl⟩:∃wo:World,wo=wr:=⟨_,rfl⟩
   go_loopw [13,15] (fun fv nxv wr=>∃nx:Int,nxv=.int .i64 nx∧X-1≤nx∧nx≤X+2∧SetI w b p mb S g g' (v+1) c nx ny fv wr) (fun _ nxv _=>(X+2-intOf nxv).toNat)
   case atStart=>exact ⟨X-1,rfl,by omega,by omega,hstart2⟩
   case round=>
    obtain ⟨nx,rfl,hx1,hx2,hI⟩:=hrel;have HI:=Lib.hid hI;clear hstart2 hI
    by_cases hlx:nx≤X+1
    ·obtain ⟨S1,E1,zs,h1,h2,h3,h4,h5,h6,h7⟩:=HI.out
     have kb0:wr.cell? ⟨b,0,none⟩=some (.pointer (some ⟨p,0,none⟩)):=by simp [World.cell?,h1.1]
     by_cases hin:0≤nx∧nx<g.w∧0≤ny∧ny<g.h
     ·obtain ⟨i1,i2,i3,i4⟩:=hin
      obtain ⟨k,hk⟩:∃k,g.cell nx.toNat ny.toNat=k:=⟨_,rfl⟩
      have hkx:(g.X k:Int)=nx:=by rw [←hk,G.X_cell (by omega)];omega
      have hky:(g.Y k:Int)=ny:=by rw [←hk,G.Y_cell (by omega)];omega
      have hkn:k<g.n:=by rw [←hk];exact G.cell_lt (by omega) (by omega)
      have hkv:ny*(g'.w:Int)+nx=(k:Nat):=by
       rw [Hbut.out.w,←hk];unfold G.cell
       obtain ⟨a,ha⟩:∃a:Nat,nx=a:=⟨nx.toNat,by omega⟩
       obtain ⟨d,hd⟩:∃d:Nat,ny=d:=⟨ny.toNat,by omega⟩
       subst ha;subst hd;simp
      have cC:=gridCell_in wr p g' (v+1) nx ny h1.2.1 i1 (by rw [Hbut.out.w];exact i2) i3 (by rw [Hbut.out.h];exact i4)
      rw [hkv] at cC;have cC:=Lib.hid cC
      have cT:=Lib.hid (graphTurn wr b p mb S1 g' (v+1) E1 _ _ k h1 h2 (fun z hz=>by rw [hn'];exact hz.1) (by rw [hn'];exact hkn) (fun x y hxy=>G.PD_symm hxy))
      have hnigh:g.nigh c k:=by
       unfold G.nigh;rw [HX.out,HY.out,hkx,hky];omega
      have Hcell:=Lib.hid (And.intro hkn (And.intro hkx (And.intro hky hnigh)));have HH:=Lib.hid (And.intro h3 (And.intro h4 (And.intro h5 (And.intro h6 h7))));clear h1 h2 h3 h4 h5 h6 h7 i1 i2 i3 i4 hk hkx hky hkn hkv hnigh HI;go_wp2_with fail
      (with_reducible refine cC.out.mono ?_)
      rintro e w' ⟨rfl,rfl⟩;go_wp2_with fail
      (refine cT.out.mono ?_)
      rintro e w3 ⟨tt,S2,E2,rfl,t1,t2,t3,t4⟩;obtain ⟨r1,r2⟩:=SetI.turned hn' HH.out.1 HH.out.2.1 HH.out.2.2.1 HH.out.2.2.2.1 HH.out.2.2.2.2 Hcell.out.1 Hcell.out.2.1 Hcell.out.2.2.1 Hcell.out.2.2.2 t1 t2 t3 t4;have R1:=Lib.hid r1;have R2:=Lib.hid r2;clear t1 t2 t3 t4 r1 r2 cT cC kb0
      cases tt with
      | false=>
       clear R2 HH;go_wp2;go_roundw
       case rel=>first | exact ⟨nx+1,rfl,by omega,by omega,R1.out⟩ | ((repeat apply Exists.intro);exact ⟨⟨nx+1,rfl,by omega,by omega,R1.out⟩,rfl⟩)
       case measure=>simp [intOf];omega
      | true=>
       clear R1 HH;obtain ⟨S3,E3,zs3,u1,u2,u3,u4,u5,u6,u7⟩:=R2.out
       have hl:zs3.length<1099511627776:=by
        have:=HX.out;have:=HY.out;omega
       have hws:=u4.size;have U:=Lib.hid (And.intro u1 (And.intro u2 (And.intro u3 (And.intro u4 (And.intro u5 (And.intro u6 u7))))));clear u1 u2 u3 u4 u6 u7 R2
       go_wp2_with (at_builtin;(refine wpList_append_int2 _ rfl _ _ rfl w.heap.size _ _ _ rfl (u5.alloc _) ⟨w3.heap.size,0,none⟩ rfl (cell1_new _ _ _) hl (by simp;omega) ?_);intro v' w9 hown9 hgrow hat)
       have hfin:SetI w b p mb S g g' (v+1) c (nx+1) ny v' w9:=by
        obtain ⟨u1,u2,u3,u4,u5,u6,u7⟩:=U.out;have hKg:=hgrow
        have hka:Kept (Value.ownBlock _).toList (w3.alloc _) w9:=⟨hgrow.os,hgrow.tape,hgrow.output,hgrow.size,fun q hq hn=>hgrow.block q hq (fun e=>hn (by rw [←e];simp))⟩
        have hb3:=fun o=>bel_alloc (o:=o) (Below.refl w3.heap.size w3)
        have hGk:∀q,q∈b :: p :: mb :: S3→q∉(Value.ownBlock _).toList:=fun q hq hm=>by
         rw [Option.mem_toList] at hm;exact u7 q hm hq
        have hG9:=(u1.below (hb3 _)).kept hka hGk;refine ⟨S3,E3,zs3 ++ [((k:Nat):Int)],hG9,u2,u3,?_,hown9,?_,?_⟩
        ·have hk3:=fun o=>u4.trans (Kept.of_below (S:=p :: mb :: S) (hb3 o))
         refine ⟨hka.os.trans (hk3 _).os,hka.tape.trans (hk3 _).tape,hka.output.trans (hk3 _).output,Nat.le_trans (hk3 _).size hka.size,fun q hq hn=>?_⟩
         refine (hka.block q (Nat.lt_of_lt_of_le hq (hk3 _).size) ?_).trans ((hk3 _).block q hq hn);intro hm;rw [Option.mem_toList] at hm;have:=(World.ownsRow.lt u5 q hm).1;omega
        ·rw [List.length_append];simp;omega
        ·intro q hq
         rcases hat with e | e
         ·rw [e] at hq;exact u7 q hq
         ·rw [e] at hq
          injection hq with hq
          intro hm;have hlS:=u1.2.2.1.lts;have hlm:=u1.2.2.1.lt;have hlp:=u1.2.1.lt;have hlb:=(Array.getElem?_eq_some_iff.1 u1.1).1;simp at hq
          rcases List.mem_cons.1 hm with r | hm
          ·omega
          rcases List.mem_cons.1 hm with r | hm
          ·omega
          rcases List.mem_cons.1 hm with r | hm
          ·omega
          have:=hlS q hm;omega
       have hfin:=Lib.hid hfin;clear hown9 hgrow hat u5 hl U;go_wp2;go_roundw
       case rel=>first | exact ⟨nx+1,rfl,by omega,by omega,hfin.out⟩ | ((repeat apply Exists.intro);exact ⟨⟨nx+1,rfl,by omega,by omega,hfin.out⟩,rfl⟩)
       case measure=>simp [intOf];omega
     ·have cC:=Lib.hid (gridCell_out wr p g' (v+1) nx ny h1.2.1 (by rw [Hbut.out.w,Hbut.out.h];exact hin))
      have hfin:=Lib.hid (SetI.none Hok.out.1 HI.out hin);clear h1 h2 h3 h4 h5 h6 h7 HI hin;go_wp2_with fail
      (with_reducible refine cC.out.mono ?_)
      rintro e w' ⟨rfl,rfl⟩;clear cC;go_wp2;go_roundw
      case rel=>first | exact ⟨nx+1,rfl,by omega,by omega,hfin.out⟩ | ((repeat apply Exists.intro);exact ⟨⟨nx+1,rfl,by omega,by omega,hfin.out⟩,rfl⟩)
      case measure=>simp [intOf];omega
    ·have hfin:=Lib.hid (SetI.row HI.out (by rw [HX.out];omega))
     rw [HX.out] at hfin;clear HI;go_wp2;go_roundw
     case rel=>first | exact ⟨ny+1,rfl,by omega,by omega,hfin.out⟩ | ((repeat apply Exists.intro);exact ⟨⟨ny+1,rfl,by omega,by omega,hfin.out⟩,rfl⟩)
     case measure=>simp [intOf];omega
  ·obtain rfl:ny=Y+2:=by omega
   obtain ⟨S1,E1,zs,h1,h2,h3,h4,h5,h6,h7⟩:=HI.out
   have hzl:zs.length≤100:=by have:=HX.out;have:=HY.out;omega
   have hsp:GSp g' g'.Corner (PairD g g' c (X-1) (Y+2) 0 (0+1)) E1:=
    h2.congr (fun z=>G.PN_end Hbut.out (by rw [HY.out]) z) (fun x y _ _ _=>⟨fun q=>.inr ⟨dn_start _ _,q⟩,fun q=>(q.resolve_left (fun r=>dn_start _ _ r.1)).2⟩) (fun _ _=>rfl)
   obtain ⟨Af,mf,rfl,hIf⟩:=h5.ints
   have hFl:∀ad,Af=some ad→ad.block<wr.heap.size:=fun ad e=>(World.ownsRow.lt h5 ad.block (by rw [e];rfl)).2
   have cN:=Lib.hid (graphNodesC wr b p mb S1 g' (v+1) E1 h1 hsp.1);have HH:=Lib.hid (And.intro h1 (And.intro hsp (And.intro h3 (And.intro h4 h7))));have HIf:=Lib.hid hIf;obtain ⟨nf,hnf⟩:∃z,zs.length=z:=⟨_,rfl⟩
   obtain ⟨ff,hff⟩:∃ff:Nat→Int,(fun k=>zs.getD k 0)=ff:=⟨_,rfl⟩
   rw [hnf] at hzl HIf HH ⊢
   rw [hff] at HIf;clear h1 h2 h3 h4 h5 h6 h7 hsp hIf HI hnf hff;go_wp2_with fail
   (with_reducible refine cN.out.mono ?_)
   rintro e w3 ⟨A,m,rfl,hm,hI,hAn,hb3⟩;obtain ⟨bl,hbl⟩:∃bl,Af.toList.map (·.block) ++ A.toList.map (·.block)=bl:=⟨_,rfl⟩
   have hblA:∀ad,A=some ad→ad.block∈bl:=fun ad e=>by rw [←hbl,e];simp
   have hblF:∀ad,Af=some ad→ad.block∈bl:=fun ad e=>by rw [←hbl,e];simp
   have hblno:∀q∈bl,q∉b :: p :: mb :: S1∧q<w3.heap.size:=by
    intro q hq;rw [←hbl,List.mem_append] at hq;have hs3:=hb3.size;have gl:=HH.out.1
    rcases hq with hq | hq
    ·cases Af with
     | none=>simp at hq
     | some ad=>
      simp at hq;subst hq;refine ⟨HH.out.2.2.2.2 ad.block rfl,?_⟩;have:=hFl ad rfl;omega
    ·cases A with
     | none=>simp at hq
     | some ad=>
      simp at hq;subst hq;obtain ⟨r1,r2⟩:=hAn ad rfl
      refine ⟨fun hm=>?_,r2⟩
      have hlS:=gl.2.2.1.lts;have hlm:=gl.2.2.1.lt;have hlp:=gl.2.1.lt;have hlb:=(Array.getElem?_eq_some_iff.1 gl.1).1
      rcases List.mem_cons.1 hm with r | hm
      ·omega
      rcases List.mem_cons.1 hm with r | hm
      ·omega
      rcases List.mem_cons.1 hm with r | hm
      ·omega
      have:=hlS _ hm;omega
   have Hbl:=Lib.hid hblno
   have hl3:∀q∈bl,q<w3.heap.size:=fun q hq=>(hblno q hq).2
   have Hl3:=Lib.hid hl3;have HblA:=Lib.hid hblA;have HblF:=Lib.hid hblF;have HIf3:=Lib.hid (HIf.out.below hb3);obtain ⟨n,hn⟩:∃n,(cornersI g').length=n:=⟨_,rfl⟩
   have hn256:n≤256:=by rw [←hn];exact corners_le Hok.out.2
   rw [hn] at hm hI ⊢
   have Hn:=Lib.hid hn;have HI:=Lib.hid hI
   have hP:PairI w b p mb S g g' (v+1) c (X-1) (Y+2) bl 0 (0+1) w3:=
    ⟨S1,E1,HH.out.1.below hb3,HH.out.2.1,HH.out.2.2.1,HH.out.2.2.2.1.trans (Kept.of_below hb3),fun q hq=>(hblno q hq).1⟩
   have hSB:SameBl w3 w3 bl:=⟨fun _ _=>rfl,Nat.le_refl _⟩
   have hws3:w.heap.size≤w3.heap.size:=Nat.le_trans HH.out.2.2.2.1.size hb3.size;clear HH hb3 cN hblno hl3 hblA hblF hbl hn hI hAn hFl HIf;go_wp2_with fail
   go_loopw [91] (fun kv wr=>∃i:Nat,kv=.int .i64 i∧i≤n∧PairI w b p mb S g g' (v+1) c (X-1) (Y+2) bl i (i+1) wr∧SameBl w3 wr bl) (fun kv _=>n-(intOf kv).toNat)
   case atStart=>exact ⟨0,rfl,by omega,hP,hSB⟩
   case round=>
    obtain ⟨i,rfl,hi,hP1,hSB1⟩:=hrel;clear hP hSB;have HP1:=Lib.hid hP1;have HSB1:=Lib.hid hSB1;clear hP1 hSB1
    by_cases hlt2:i<n
    ·have hIr:=HI.out.same (fun ad e=>HSB1.out.1 _ (HblA.out ad e)) HSB1.out.2
     have hId:=Ints.drop HI.out hm (show i+1≤n by omega)
     obtain ⟨ad,hA⟩:=hIr.addr (by omega)
     have hIa:=hIr;rw [hA] at hIa
     have hix:=fun wx=>idx_run (m:=m) hA hlt2 wx
     have hE:=hIa.cell (Below.refl _ _) hlt2
     rw [(cf_at (by rw [Hn.out];exact hlt2)).1] at hE
     obtain ⟨x,hx⟩:∃x,cf g' i=x:=⟨_,rfl⟩;rw [hx] at hE;have Hx:=Lib.hid hx;have HId:=Lib.hid hId
     have hw1:IntKind.i64.wrap ((i:Int)+1)=(i:Int)+1:=IntWalk.i64_in _ (by omega)
     have hb1:(0:Int)≤(i:Int)+1:=by omega
     have hb2:(i:Int)+1≤(n:Int):=by omega
     have hb3:i+1≤n:=by omega
     have hb4:i+1≤m:=by omega
     have hb5:((i:Int)+1).toNat=i+1:=by omega
     clear hIr hIa hA hx hId
     go_upto_region 19 with (fail)
     go_cut [99,100,101] (fun sv lv zv wx=>∃A' m',sv=.slice A' (n-(i+1)) m'∧Ints w3 A' (n-(i+1)) (fun t=>(cornersI g').getD (i+1+t) 0)∧(∀ad,A'=some ad→ad.block∈bl)∧lv=.int .i64 ((n-(i+1):Nat):Int)∧zv=.int .i64 (0:Nat)∧wx=wr)
     case first=>
      by_cases hmi:m=i+1
      ·have hId:=HId.out
       rw [if_pos hmi] at hId;go_wp2;go_meet
       case rel=>exact ⟨_,_,rfl,hId,HblA.out,rfl,rfl,rfl⟩
      ·have hId:=HId.out
       rw [if_neg hmi] at hId;go_wp2;go_meet
       case rel=>
        refine ⟨_,_,rfl,by simpa [Addr.add] using hId,?_,rfl,rfl,rfl⟩
        intro ad0 e
        cases A with
        | none=>simp at e
        | some a0=>
         simp at e;rw [←e];exact HblA.out a0 rfl
     case rest=>
     obtain ⟨A',m',rfl,hI2,hA2,rfl,rfl,hwc⟩:=hcut;have hwc:wc=wr:=hwc;rw [hwc];obtain ⟨r,hr⟩:∃r,n-(i+1)=r:=⟨_,rfl⟩
     rw [hr] at hI2 ⊢
     have HI2:=Lib.hid hI2;have HA2:=Lib.hid hA2
     have hxc:g'.Corner x:=by rw [←Hx.out];exact (cf_at (by rw [Hn.out];exact hlt2)).2
     have hstart3:PairI w b p mb S g g' (v+1) c (X-1) (Y+2) bl i (i+1+0) wr∧SameBl w3 wr bl:=⟨HP1.out,HSB1.out⟩;clear hwc hE hix HId hI2 hA2 HP1 HSB1 hw1 hb1 hb2 hb3 hb4 hb5;obtain ⟨w0,hw0⟩:∃z:World,wr=z:=⟨_,rfl⟩
     rw [hw0] at hstart3 ⊢
     clear hw0;go_wp2_with fail;obtain ⟨wp,rfl⟩:∃wp:World,wp=wr:=⟨_,rfl⟩
     go_loopw [101] (fun kv wr=>∃j:Nat,j≤r∧kv=.int .i64 j∧PairI w b p mb S g g' (v+1) c (X-1) (Y+2) bl i (i+1+j) wr∧SameBl w3 wr bl) (fun kv _=>r-(intOf kv).toNat)
     case atStart=>exact ⟨0,by omega,rfl,hstart3⟩
     case round=>
      obtain ⟨j,hj,rfl,hP1,hSB1⟩:=hrel;clear hstart3;have HP1:=Lib.hid hP1;have HSB1:=Lib.hid hSB1;clear hP1 hSB1
      by_cases hlt3:j<r
      ·have hIr:=HI2.out.same (fun ad e=>HSB1.out.1 _ (HA2.out ad e)) HSB1.out.2
       have hIfr:=HIf3.out.same (fun ad e=>HSB1.out.1 _ (HblF.out ad e)) HSB1.out.2
       obtain ⟨ad1,hA1⟩:=hIr.addr (by omega)
       rw [hA1] at hIr
       have hix1:=fun wx=>idx_run (m:=m') hA1 hlt3 wx
       have hE1:=hIr.cell (Below.refl _ _) hlt3
       have hjn:i+1+j<(cornersI g').length:=by rw [Hn.out];omega
       rw [(cf_at hjn).1] at hE1;obtain ⟨y,hy⟩:∃y,cf g' (i+1+j)=y:=⟨_,rfl⟩
       have hyc:g'.Corner y:=by rw [←hy];exact (cf_at hjn).2
       rw [hy] at hE1;have Hy:=Lib.hid hy
       have hxy:x≠y:=by
        rw [←Hx.out,←hy]
        have:=cf_lt (g:=g') (show i<i+1+j by omega) hjn
        omega
       obtain ⟨S2,E2,g2,sp2,n2,k2,b2⟩:=HP1.out
       have kb0:wr.cell? ⟨b,0,none⟩=some (.pointer (some ⟨p,0,none⟩)):=by simp [World.cell?,g2.1]
       have cB:=Lib.hid (graphBetween wr b p g' (v+1) (.map (some mb)) x y X Y g2.1 g2.2.1 hxc.1 hyc.1 ⟨by omega,by omega⟩ ⟨by omega,by omega⟩)
       have cC:=Lib.hid (fun w' (hb:Below wr.heap.size wr w') z=>intsContains w' Af nf mf ff z (hIfr.below hb) (by omega))
       have hq0:(0:Int)≤(j:Int):=by omega
       have hq1:(j:Int)<(r:Int):=by omega
       have HG:=Lib.hid (And.intro g2 (And.intro sp2 (And.intro n2 (And.intro k2 b2))));have Hjn:=Lib.hid hjn;clear hIr hA1 hy g2 sp2 n2 k2 b2 hIfr hjn
       go_upto_region 22 with (fail)
       go_cut [120] (fun s wx=>∃u:Bool,s=.bool u∧(u=false→¬g'.Btw x y X Y)∧Below wr.heap.size wr wx)
       case first=>
        go_wp2_with fail
        (with_reducible refine cB.out.mono ?_)
        rintro e w4 ⟨u1,rfl,hu1,hb4⟩;have Hu1:=Lib.hid hu1;clear hu1 cB kb0
        cases u1 with
        | true=>
         go_wp2;go_meet
         case rel=>exact ⟨true,rfl,(fun h=>by cases h),hb4⟩
        | false=>
         have hno:¬g'.Btw x y X Y:=fun hh=>by have:=Hu1.out.2 hh;cases this
         have Hno:=Lib.hid hno;clear hno Hu1;go_wp2_with fail
         (with_reducible refine (cC.out _ hb4 _).mono ?_)
         rintro e w5 ⟨u2,rfl,hb5⟩;have hB5:=bel_trans hb4 hb5
         cases u2 with
         | true=>
          go_wp2;go_meet
          case rel=>exact ⟨true,rfl,(fun h=>by cases h),hB5⟩
         | false=>
          go_wp2_with fail
          (with_reducible refine (cC.out _ hB5 _).mono ?_)
          rintro e w6 ⟨u3,rfl,hb6⟩;have hB6:=bel_trans hB5 hb6;go_wp2;go_meet
          case rel=>exact ⟨u3,rfl,(fun _=>Hno.out),hB6⟩
       case rest=>
        obtain ⟨u,rfl,hu,hbc⟩:=hcut;have Hu:=Lib.hid hu
        have hlq:∀q∈bl,q<wr.heap.size:=fun q hq=>Nat.lt_of_lt_of_le (Hl3.out q hq) HSB1.out.2
        have Hlq:=Lib.hid hlq;clear hE1 hix1 hu cB cC kb0 hlq
        cases u with
        | false=>
         have hF:PairI w b p mb S g g' (v+1) c (X-1) (Y+2) bl i (i+1+(j+1)) wc∧SameBl w3 wc bl:=by
          obtain ⟨q1,q2,q3,q4,q5⟩:=HG.out
          have hnb:¬g.Btw x y (g.X c) (g.Y c):=by
           rw [HX.out,HY.out]
           exact fun hh=>Hu.out rfl ((Hbut.out.btw x y X Y).2 hh)
          refine ⟨⟨S2,E2,q1.below hbc,q2.congr (fun _=>Iff.rfl) (fun a d _ _ _=>pair_keep (by omega) Hjn.out (fun a d hp=>?_) a d) (fun _ _=>rfl),q3,q4.trans (Kept.of_below hbc),q5⟩,HSB1.out.kept Hl3.out (Kept.of_below (S:=[]) hbc) (by simp)⟩
          rw [Hx.out,Hy.out] at hp
          rcases hp with ⟨rfl,rfl⟩ | ⟨rfl,rfl⟩
          ·exact G.PD_far Hok.out.1 Hbut.out (by rw [HY.out]) hxc hyc hnb
          ·exact G.PD_far Hok.out.1 Hbut.out (by rw [HY.out]) hyc hxc (fun hh=>hnb (G.btw_symm.1 hh))
         have HF:=Lib.hid hF;clear hF hbc HG HP1 HSB1;go_wp2;go_roundw
         case rel=>first | exact ⟨j+1,by omega,by go_num,HF.out⟩ | ((repeat apply Exists.intro);exact ⟨⟨j+1,by omega,by go_num,HF.out⟩,rfl⟩)
         case measure=>simp [intOf];omega
        | true=>
         obtain ⟨q1,q2,q3,q4,q5⟩:=HG.out
         obtain ⟨Lx,hLx,_,_,lx,_⟩:=q2.facts hNn (fun z hz=>by have:=hz.1;rw [hn'] at this;exact this) hxc
         obtain ⟨Ly,hLy,_,_,ly,_⟩:=q2.facts hNn (fun z hz=>by have:=hz.1;rw [hn'] at this;exact this) hyc
         have q1c:=q1.below hbc
         have cT:=Lib.hid (graphCut wc S2 b p mb E2 (x:Nat) (y:Nat) Lx Ly q1c.1 q1c.2.2.1 q1c.2.2.2.1 q1c.2.2.2.2.2.1 hLx hLy (by omega) (by omega) (by omega))
         have Hc2:=Lib.hid (q2.cut hxc hyc hxy hLx hLy);have Hq1c:=Lib.hid q1c;have Hk4:=Lib.hid (q4.trans (Kept.of_below (S:=p :: mb :: S) hbc))
         have HSBc:=Lib.hid (HSB1.out.kept Hl3.out (Kept.of_below (S:=[]) hbc) (by simp))
         have Hq35:=Lib.hid (And.intro q3 q5)
         have Hlc:Hid (∀q∈bl,q<wc.heap.size):=Lib.hid fun q hq=>Nat.lt_of_lt_of_le (Hlq.out q hq) hbc.size
         clear q1 q2 q3 q4 q5 q1c hLx hLy lx ly hbc HG HSB1 HP1 Hlq;go_wp2_with fail
         (refine cT.out.mono ?_)
         rintro e w4 ⟨rfl,S3,hE3,hS3,hK3⟩;have hG4:=Hq1c.out.put hE3 hS3 hK3
         have cL:=Lib.hid (graphLookS w4 b p mb S3 g' (v+1) _ g'.Corner _ x y hG4 Hc2.out (fun z hz=>corner_free Hok.out.2 hz) hxc hyc hxy (fun hh=>hh.2 (.inl ⟨rfl,rfl⟩)) (fun hh=>hh.2 (.inr ⟨rfl,rfl⟩)))
         have Hs3:=Lib.hid hS3;have Hk3:=Lib.hid hK3;clear hE3 hS3 hK3 hG4 cT;go_wp2_with fail
         (refine cL.out.mono ?_)
         rintro e w5 ⟨rfl,S4,E4,hG5,hsp5,hS5,hK5⟩
         have hF:PairI w b p mb S g g' (v+1) c (X-1) (Y+2) bl i (i+1+(j+1)) w5∧SameBl w3 w5 bl:=by
          have hsp5':GSp g' g'.Corner (fun x_1 y_1=>(PairD g g' c (X-1) (Y+2) i (i+1+j) x_1 y_1∧¬Pr (cf g' i) (cf g' (i+1+j)) x_1 y_1)∨(Pr (cf g' i) (cf g' (i+1+j)) x_1 y_1∧g'.Direct x_1 y_1)) E4:=by
           rw [Hx.out,Hy.out];exact hsp5
          refine ⟨PairI.anew (i:=i) (j:=i+1+j) (by omega) Hjn.out Hq35.out.1 Hk4.out Hq35.out.2 Hlc.out Hs3.out Hk3.out hG5 hsp5' hS5 hK5,?_⟩
          have h1:=HSBc.out.kept Hl3.out Hk3.out (fun q hq hm=>Hq35.out.2 q hq (by rcases List.mem_cons.1 hm with r | r <;> simp [r]))
          refine h1.kept Hl3.out hK5 (fun q hq hm=>?_)
          rcases List.mem_cons.1 hm with r | r
          ·exact Hq35.out.2 q hq (by simp [r])
          ·rcases Hs3.out q r with r | r
           ·exact Hq35.out.2 q hq (by simp [r])
           ·have:=Hlc.out q hq;omega
         have HF:=Lib.hid hF;clear hF hG5 hsp5 hS5 hK5 cL Hc2 Hq1c;go_wp2;go_roundw
         case rel=>first | exact ⟨j+1,by omega,by go_num,HF.out⟩ | ((repeat apply Exists.intro);exact ⟨⟨j+1,by omega,by go_num,HF.out⟩,rfl⟩)
         case measure=>simp [intOf];omega
      ·obtain rfl:j=r:=by omega
       have HF:=Lib.hid (And.intro (PairI.row HP1.out (by rw [Hn.out];omega)) HSB1.out)
       clear HP1 HSB1;go_wp2;go_roundw
       case rel=>first | exact ⟨i+1,by go_num,by omega,HF.out⟩ | ((repeat apply Exists.intro);exact ⟨⟨i+1,by go_num,by omega,HF.out⟩,rfl⟩)
       case measure=>simp [intOf];omega
    ·obtain rfl:i=n:=by omega
     have hfin:SetGD w b p mb S g' (v+1) (.returned (.tuple #[.bool true,.nilIface])) wr:=by
      obtain ⟨S2,E2,g2,sp2,n2,k2,_⟩:=HP1.out
      refine ⟨rfl,S2,E2,g2,GSp.spec (sp2.congr (fun _=>Iff.rfl) (fun a d ha hd hne=>?_) (fun _ _=>rfl)),n2,k2⟩
      have hdn:Dn g' i (i+1) a d:=dn_end (by rw [Hn.out];omega) ha hd (Ne.symm hne)
      unfold PairD;simp [hdn]
     have hfin:=Lib.hid hfin;clear HP1 HSB1;go_wp2;go_ret2;exact hfin.out
end Go.Proofs.YtkdndoefgnfbnaaGreatDoor
