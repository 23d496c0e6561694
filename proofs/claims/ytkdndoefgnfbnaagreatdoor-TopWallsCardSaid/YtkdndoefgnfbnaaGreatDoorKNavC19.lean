/- Lemmas of this claim: Graph3, Graph4. -/
import Derived.Test.YtkdndoefgnfbnaaGreatDoorKNavC18
set_option linter.unusedVariables false
set_option linter.unusedSimpArgs false
set_option maxHeartbeats 3200000
set_option maxRecDepth 100000
namespace Go.Proofs.YtkdndoefgnfbnaaGreatDoor
open Go.RowKit Go.Sort FR
theorem boolQ (P:Prop):∃t:Bool,t=true↔P:=by
 by_cases h:P
 ·exact ⟨true,by simp [h]⟩
 ·exact ⟨false,by simp [h]⟩
def GraphOf (w:World) (b p mb:Nat) (S:List Nat) (g:G) (v:Int) (E:Int→Option (List Ed)):Prop:=
 w.heap[b]? = some (.cells #[.pointer (some ⟨p,0,none⟩),.map (some mb)] 157 (0,0))∧GridAt w p g v∧EMap w S mb E∧b∉S∧p∉S∧b≠mb∧p≠mb∧b≠p
theorem GraphOf.below {w w':World} {b p mb:Nat} {S:List Nat} {g:G} {v:Int} {E:Int→Option (List Ed)} (h:GraphOf w b p mb S g v E) (hb:Below w.heap.size w w'):GraphOf w' b p mb S g v E:=
 ⟨(hb.block b (Array.getElem?_eq_some_iff.1 h.1).1).trans h.1,h.2.1.below hb h.2.1.lt,h.2.2.1.below hb,h.2.2.2⟩
theorem GraphOf.put {w w':World} {b p mb:Nat} {S S':List Nat} {g:G} {v:Int} {E E':Int→Option (List Ed)} (h:GraphOf w b p mb S g v E) (hE:EMap w' S' mb E') (hS:∀k∈S',k∈S∨w.heap.size≤k) (hk:Kept (mb :: S) w w'):GraphOf w' b p mb S' g v E':=by
 obtain ⟨h1,h2,h3,h4,h5,h6,h7,h8⟩:=h;have hb:b<w.heap.size:=(Array.getElem?_eq_some_iff.1 h1).1
 refine ⟨(hk.block b hb (by simp [h6,h4])).trans h1,h2.kept hk (by simp [h7,h5]),hE,?_,?_,h6,h7,h8⟩
 ·intro hh
  rcases hS b hh with a | a
  ·exact h4 a
  ·omega
 ·intro hh
  rcases hS p hh with a | a
  ·exact h5 a
  ·have:=h2.lt;omega
def GSpec (g:G) (Done:Nat→Nat→Prop) (E:Int→Option (List Ed)):Prop:=
 (∀z:Int,E z≠none↔∃c:Nat,z=c∧g.Corner c)∧∀(c:Nat) (L:List Ed),E c=some L→Srt L∧∀e,e∈L↔∃y:Nat,g.Corner y∧y≠c∧Done c y∧g.Direct c y∧e=⟨y,g.oct c y,-1⟩
theorem corner_free {g:G} (hg:g.ok) {c:Nat} (h:g.Corner c):c<g.n∧g.b c=false:=by
 refine ⟨h.1,?_⟩;have:=h.2.1;rw [G.op_cell hg h.1] at this
 simpa using this
theorem srt_long {L:List Ed} (hs:Srt L) (n:Nat) (h:∀e∈L,0≤e.to_∧e.to_<n):L.length≤n:=by
 have key:∀(j:Nat) (e:Ed),L[j]? = some e→(j:Int)≤e.to_:=by
  intro j
  induction j with
  | zero=>intro e he;exact (h e (List.mem_of_getElem? he)).1
  | succ j ih=>
   intro e he;have hl:=(List.getElem?_eq_some_iff.1 he).1
   obtain ⟨x,hx⟩:∃x,L[j]? = some x:=⟨L[j]'(by omega),List.getElem?_eq_getElem _⟩
   have a:=ih x hx
   have b:=hs j (j+1) x e (by omega) hx he
   omega
 cases hl:L.length with
 | zero=>omega
 | succ m=>
  obtain ⟨x,hx⟩:∃x,L[m]? = some x:=⟨L[m]'(by omega),List.getElem?_eq_getElem _⟩
  have a:=key m x hx;have b:=(h x (List.mem_of_getElem? hx)).2;omega
theorem GSpec.facts {g:G} (hg:g.ok) {Done:Nat→Nat→Prop} {E:Int→Option (List Ed)} (h:GSpec g Done E) {c:Nat} (hc:g.Corner c):∃L,E c=some L∧Srt L∧(∀e∈L,inC e.to_)∧L.length≤1000∧∀e,e∈L↔∃y:Nat,g.Corner y∧y≠c∧Done c y∧g.Direct c y∧e=⟨y,g.oct c y,-1⟩:=by
 have h1:=(h.1 c).2 ⟨c,rfl,hc⟩
 cases hE:E c with
 | none=>exact absurd hE h1
 | some L=>
  obtain ⟨a,b⟩:=h.2 c L hE
  have hb:∀e∈L,0≤e.to_∧e.to_<g.n:=fun e he=>by
   obtain ⟨y,hy,_,_,_,rfl⟩:=(b e).1 he;have:=(corner_free hg hy).1;simp only;omega
  have hn:=G.n_le hg
  refine ⟨L,rfl,a,fun e he=>?_,?_,b⟩
  ·have:=hb e he
   unfold inC;omega
  ·have:=srt_long a g.n hb
   omega
def DoneP (Done:Nat→Nat→Prop) (a b:Nat):Nat→Nat→Prop:=fun x y=>Done x y∨(x=a∧y=b)∨(x=b∧y=a)
theorem GSpec.no {g:G} {Done:Nat→Nat→Prop} {E:Int→Option (List Ed)} (h:GSpec g Done E) {a b:Nat} (hd:¬g.Direct a b):GSpec g (DoneP Done a b) E:=by
 refine ⟨h.1,fun c L hc=>⟨(h.2 c L hc).1,fun e=>?_⟩⟩
 rw [(h.2 c L hc).2 e]
 constructor
 ·rintro ⟨y,h1,h2,h3,h4,h5⟩
  exact ⟨y,h1,h2,.inl h3,h4,h5⟩
 ·rintro ⟨y,h1,h2,h3 | ⟨rfl,rfl⟩ | ⟨rfl,rfl⟩,h4,h5⟩
  ·exact ⟨y,h1,h2,h3,h4,h5⟩
  ·exact absurd h4 hd
  ·exact absurd (G.direct_symm.1 h4) hd
theorem GSpec.yes {g : G} {Done : Nat → Nat → Prop} {E : Int → Option (List Ed)} (h : GSpec g Done E) {a b : Nat} (ha : g.Corner a) (hb : g.Corner b) (hab : a ≠ b) (hd : g.Direct a b) (h1 : ¬ Done a b) (h2 : ¬ Done b a) {La Lb : List Ed} (hLa : E a = some La) (hLb : E b = some Lb) :
    GSpec g (DoneP Done a b) (updE (updE E a (some (insS La ⟨b,g.oct a b,-1⟩))) b (some (insS Lb ⟨a,g.oct a b,-1⟩)))∧hasE La b=false∧hasE Lb a=false:=by
 obtain ⟨sa,ma⟩:=h.2 a La hLa;obtain ⟨sb,mb⟩:=h.2 b Lb hLb
 have na:hasE La b=false:=by
  cases hh:hasE La b with
  | false=>rfl
  | true=>
   obtain ⟨e,he,e1⟩:=has_iff.1 hh;obtain ⟨y,_,_,q,_,rfl⟩:=(ma e).1 he;simp only at e1
   obtain rfl:y=b:=by omega
   exact absurd q h1
 have nb:hasE Lb a=false:=by
  cases hh:hasE Lb a with
  | false=>rfl
  | true=>
   obtain ⟨e,he,e1⟩:=has_iff.1 hh;obtain ⟨y,_,_,q,_,rfl⟩:=(mb e).1 he;simp only at e1
   obtain rfl:y=a:=by omega
   exact absurd q h2
 have hba:¬((b:Int)=(a:Int)):=by omega
 refine ⟨⟨fun z=>?_,fun c L hc=>?_⟩,na,nb⟩
 ·unfold updE
  by_cases e1:z=(b:Int)
  ·rw [if_pos e1]
   exact ⟨fun _=>⟨b,e1,hb⟩,fun _=>by simp⟩
  ·rw [if_neg e1]
   by_cases e2:z=(a:Int)
   ·rw [if_pos e2]
    exact ⟨fun _=>⟨a,e2,ha⟩,fun _=>by simp⟩
   ·rw [if_neg e2]
    exact h.1 z
 ·unfold updE at hc
  by_cases e1:(c:Int)=(b:Int)
  ·rw [if_pos e1] at hc
   injection hc with hc
   obtain rfl:c=b:=by omega
   subst hc
   refine ⟨srt_insS sb nb,fun e=>?_⟩
   rw [mem_insS,mb e]
   constructor
   ·rintro (rfl | ⟨y,q1,q2,q3,q4,q5⟩)
    ·exact ⟨a,ha,hab,.inr (.inr ⟨rfl,rfl⟩),G.direct_symm.1 hd,by rw [G.oct_symm]⟩
    ·exact ⟨y,q1,q2,.inl q3,q4,q5⟩
   ·rintro ⟨y,q1,q2,q3 | ⟨rfl,rfl⟩ | ⟨_,rfl⟩,q4,q5⟩
    ·exact .inr ⟨y,q1,q2,q3,q4,q5⟩
    ·exact absurd rfl hab
    ·exact .inl (by rw [q5,G.oct_symm])
  ·rw [if_neg e1] at hc
   by_cases e2:(c:Int)=(a:Int)
   ·rw [if_pos e2] at hc
    injection hc with hc
    obtain rfl:c=a:=by omega
    subst hc
    refine ⟨srt_insS sa na,fun e=>?_⟩
    rw [mem_insS,ma e]
    constructor
    ·rintro (rfl | ⟨y,q1,q2,q3,q4,q5⟩)
     ·exact ⟨b,hb,Ne.symm hab,.inr (.inl ⟨rfl,rfl⟩),hd,rfl⟩
     ·exact ⟨y,q1,q2,.inl q3,q4,q5⟩
    ·rintro ⟨y,q1,q2,q3 | ⟨_,rfl⟩ | ⟨rfl,rfl⟩,q4,q5⟩
     ·exact .inr ⟨y,q1,q2,q3,q4,q5⟩
     ·exact .inl q5
     ·exact absurd rfl hab
   ·rw [if_neg e2] at hc
    obtain ⟨s,m⟩:=h.2 c L hc
    refine ⟨s,fun e=>?_⟩
    rw [m e]
    constructor
    ·rintro ⟨y,q1,q2,q3,q4,q5⟩
     exact ⟨y,q1,q2,.inl q3,q4,q5⟩
    ·rintro ⟨y,q1,q2,q3 | ⟨rfl,_⟩ | ⟨rfl,_⟩,q4,q5⟩
     ·exact ⟨y,q1,q2,q3,q4,q5⟩
     ·exact absurd rfl e2
     ·exact absurd rfl e1
def LookD (w:World) (b p mb:Nat) (S:List Nat) (g:G) (v:Int) (Done:Nat→Nat→Prop) (e:Ending) (w':World):Prop:=
 e=.returned (.tuple #[])∧∃S' E',GraphOf w' b p mb S' g v E'∧GSpec g Done E'∧(∀k∈S',k∈S∨w.heap.size≤k)∧Kept (mb :: S) w w'
theorem graphLook (w : World) (b p mb : Nat) (S : List Nat) (g : G) (v : Int) (E : Int → Option (List Ed)) (Done : Nat → Nat → Prop) (x y : Nat) (h : GraphOf w b p mb S g v E) (hS : GSpec g Done E) (hx : g.Corner x) (hy : g.Corner y) (hxy : x ≠ y) (h1 : ¬ Done x y) (h2 : ¬ Done y x) :
    Calls Tryz.prog 99 #[.pointer (some ⟨b,0,none⟩),.int .i64 (x:Nat),.int .i64 (y:Nat)] w (LookD w b p mb S g v (DoneP Done x y)):=by
 have hg:=h.2.1;have hok:=hg.1;have hNn:=G.n_le hok;obtain ⟨xn,xf⟩:=corner_free hok hx;obtain ⟨yn,yf⟩:=corner_free hok hy
 have kb0:w.cell? ⟨b,0,none⟩=some (.pointer (some ⟨p,0,none⟩)):=by simp [World.cell?,h.1]
 obtain ⟨t,ht⟩:=boolQ (g.Direct x y);have Ht:=Lib.hid ht;have cD:=Lib.hid (reachDirect_ok w p g v x y t hg xn yn xf yf ht);have H:=Lib.hid h;have HS:=Lib.hid hS;have Hd:=Lib.hid (And.intro h1 h2);clear h hS ht h1 h2 hg;go_enter Tryz.func99,Tryz.ntmps99;go_wp2_with fail
 (with_reducible refine cD.out.mono ?_)
 rintro e w1 ⟨rfl,hb1⟩;clear cD
 cases t with
 | false=>
  have hno:¬g.Direct x y:=fun hh=>by have:=Ht.out.2 hh;cases this
  have hfin:LookD w b p mb S g v (DoneP Done x y) (.returned (.tuple #[])) w1:=⟨rfl,S,E,H.out.below hb1,HS.out.no hno,fun k hk=>.inl hk,Kept.of_below hb1⟩
  have hfin:=Lib.hid hfin;clear Ht;go_wp2;go_end0;exact hfin.out
 | true=>
  have hyes:g.Direct x y:=Ht.out.1 rfl;obtain ⟨Lx,hLx,sx,ix,lx,_⟩:=HS.out.facts hok hx;obtain ⟨Ly,hLy,sy,iy,ly,_⟩:=HS.out.facts hok hy;have hG1:=H.out.below hb1;have hgr1:GridAt w1 p g v:=hG1.2.1;have kb0:=bel_cell hb1 kb0;have hsp:=Lib.hid (HS.out.yes hx hy hxy hyes Hd.out.1 Hd.out.2 hLx hLy);obtain ⟨⟨os,od⟩,ho⟩:∃z,g.oct x y=z:=⟨_,rfl⟩;rw [ho] at hsp
  have hx0:inC (x:Int):=by unfold inC;omega
  have hy0:inC (y:Int):=by unfold inC;omega
  clear Ht;go_wp2_with fail
  (with_reducible refine (gOctile _ p g v x y ⟨os,od⟩ hgr1 xn yn ho).mono ?_)
  rintro e w2 ⟨rfl,hb2⟩
  go_upto_region 3 with (fail)
  refine wp_name ?_;intro W hW
  have HW:Below w2.heap.size w2 W:=by rw [hW];(repeat' (first | exact Below.refl _ _ | assumption | apply bel_drewN | apply bel_drew | apply bel_alloc | (refine bel_trans ?_ (by assumption))))
  have o0:W.cell? ⟨w2.heap.size,0,none⟩=some (.int .i64 os):=by rw [hW];go_simp
  have o1:W.cell? ⟨w2.heap.size,1,none⟩=some (.int .i64 od):=by rw [hW];go_simp
  have hB1:=bel_trans hb2 HW;have hGW:=hG1.below hB1;have hBW:=bel_trans hb1 hB1
  have hnS:w2.heap.size∉mb :: S:=by
   have hE:=hG1.2.2.1;have hml:=hE.lt;obtain ⟨V,N,q1,q2,q3,q4,q5,q6,q7⟩:=hE;have hsz:=hb2.size;intro hh
   rcases List.mem_cons.1 hh with e | e
   ·omega
   ·have:=q7 _ e;omega
  obtain ⟨b8,hb8⟩:∃z,w2.heap.size=z:=⟨_,rfl⟩
  rw [hb8] at o0 o1 hnS ⊢
  have HGW:=Lib.hid hGW;obtain ⟨g1,g2,g3,g4,g5,g6,g7,g8⟩:=hGW;have c1:=Lib.hid (graphPut W S b p mb E (x:Nat) ⟨(y:Nat),⟨os,od⟩,-1⟩ Lx g1 g3 g4 g6 hLx sx ix hy0 lx);clear hW hb8 HW hB1 hG1 hb2 hb1 kb0 g1 g2 g3 g4 g5 g6 g7 g8;go_wp2_with fail
  (refine c1.out.mono ?_)
  rintro e w3 ⟨rfl,S1,hE1,hS1,hK1⟩;have hG3:=HGW.out.put hE1 hS1 hK1;have o0:=keptc hK1 hnS o0;have o1:=keptc hK1 hnS o1
  have hLy2:updE E (x:Nat) (some (insS Lx ⟨(y:Nat),⟨os,od⟩,-1⟩)) (y:Nat)=some Ly:=by
   unfold updE
   rw [if_neg (by omega)]
   exact hLy
  have HG3:=Lib.hid hG3;obtain ⟨g1,g2,g3,g4,g5,g6,g7,g8⟩:=hG3;have c2:=Lib.hid (graphPut w3 S1 b p mb _ (y:Nat) ⟨(x:Nat),⟨os,od⟩,-1⟩ Ly g1 g3 g4 g6 hLy2 sy iy hx0 ly);clear c1 hE1 g1 g2 g3 g4 g5 g6 g7 g8 hLy2 hnS;go_wp2_with fail
  (refine c2.out.mono ?_)
  rintro e w4 ⟨rfl,S2,hE2,hS2,hK2⟩;have hG4:=HG3.out.put hE2 hS2 hK2
  have hKS:Kept (mb :: S) w w4:=by
   have hKw:Kept (mb :: S) w w3:=(Kept.of_below hBW).trans hK1
   refine ⟨hK2.os.trans hKw.os,hK2.tape.trans hKw.tape,hK2.output.trans hKw.output,Nat.le_trans hKw.size hK2.size,fun k hk hn=>?_⟩
   refine (hK2.block k (Nat.lt_of_lt_of_le hk hKw.size) ?_).trans (hKw.block k hk hn);intro hm
   rcases List.mem_cons.1 hm with e | e
   ·exact hn (by rw [e];simp)
   ·rcases hS1 k e with q | q
    ·exact hn (List.mem_cons_of_mem _ q)
    ·have:=hBW.size;omega
  have hSS:∀k∈S2,k∈S∨w.heap.size≤k:=fun k hk=>by
   rcases hS2 k hk with q | q
   ·rcases hS1 k q with r | r
    ·exact .inl r
    ·have:=hBW.size;exact .inr (by omega)
   ·have:=hK1.size;have:=hBW.size;exact .inr (by omega)
  have hfin:LookD w b p mb S g v (DoneP Done x y) (.returned (.tuple #[])) w4:=⟨rfl,S2,_,hG4,hsp.out.1,hSS,hKS⟩;have hfin:=Lib.hid hfin;clear hE2 hG4 hSS hKS;go_wp2;go_end0;exact hfin.out
theorem EMap.add {w wU : World} {S : List Nat} {mb N N2 : Nat} {E : Int → Option (List Ed)} {V : Int → Option Value} {a : Int}
    (h1:MapAt iK w mb V N) (h2:∀k,E k=none↔V k=none) (h3:∀k u L,V k=some u→E k=some L→OwnE w 0 u L) (h4:∀k u q,V k=some u→u.ownBlock=some q→q∈S) (h5:mb∉S)
    (h6:∀k k' u u' q,V k=some u→V k'=some u'→u.ownBlock=some q→u'.ownBlock=some q→k=k') (h7:∀s,s∈S→s<w.heap.size)
    (hM:MapAt iK wU mb (updK V a (some (.slice none 0 0))) N2) (hK:Kept [mb] w wU):EMap wU S mb (updE E a (some [])):=by
 refine ⟨_,N2,hM,fun k=>?_,fun k x L hx hL=>?_,fun k x q hx hq=>?_,h5,fun k k' x x' q hx hx' hq hq'=>?_,fun s hs=>Nat.lt_of_lt_of_le (h7 s hs) hK.size⟩
 ·unfold updE updK
  split
  ·simp
  ·exact h2 k
 ·unfold updE at hL
  unfold updK at hx
  split at hx
  ·rename_i e
   rw [if_pos e] at hL
   injection hx with hx
   injection hL with hL
   subst hx;subst hL;exact OwnE.nil _ _
  ·rename_i e
   rw [if_neg e] at hL
   exact (h3 k x L hx hL).kept hK (fun q hq=>by
    have:=h4 k x q hx hq;simp;rintro rfl;exact h5 this)
 ·unfold updK at hx
  split at hx
  ·injection hx with hx
   subst hx;simp [Value.ownBlock] at hq
  ·exact h4 k x q hx hq
 ·unfold updK at hx hx'
  split at hx
  ·injection hx with hx
   subst hx;simp [Value.ownBlock] at hq
  ·split at hx'
   ·injection hx' with hx'
    subst hx';simp [Value.ownBlock] at hq'
   ·exact h6 k k' x x' q hx hx' hq hq'
def RetIntsC (w:World) (zs:List Int) (e:Ending) (w':World):Prop:=∃A m,e=.returned (.slice A zs.length m)∧zs.length≤m∧Ints w' A zs.length (fun k=>zs.getD k 0)∧(∀ad,A=some ad→w.heap.size≤ad.block∧ad.block<w'.heap.size)∧Below w.heap.size w w'
theorem ret_intsC {w w':World} {v:Value} {zs:List Int} (h:OwnI w' w.heap.size v zs) (hb:Below w.heap.size w w'):RetIntsC w zs (.returned v) w':=by
 obtain ⟨A,m,rfl,hi⟩:=h.ints;refine ⟨A,m,rfl,?_,hi,?_,hb⟩
 ·rcases h.2 with ⟨e,h0⟩ | ⟨g,cap,cur,e,_,_,hc,_⟩
  ·injection e with e1 e2 e3;omega
  ·injection e with e1 e2 e3;omega
 ·intro ad e
  subst e;exact World.ownsRow.lt h ad.block rfl
theorem kept_new {w2 wr w':World} {mb:Nat} {S:List Nat} (h:Kept [mb] w2 wr) (k:Kept (mb :: S) wr w') (hS:∀q∈S,w2.heap.size≤q):Kept [mb] w2 w':=
 ⟨k.os.trans h.os,k.tape.trans h.tape,k.output.trans h.output,Nat.le_trans h.size k.size,fun q hq hn=>by
  refine (k.block q (Nat.lt_of_lt_of_le hq h.size) ?_).trans (h.block q hq hn);intro hm
  rcases List.mem_cons.1 hm with e | e
  ·exact hn (by rw [e];simp)
  ·have:=hS q e;omega⟩
theorem cornerAllC (w : World) (p : Nat) (g : G) (v : Int) (h : GridAt w p g v) :
    Calls Tryz.prog 124 #[.pointer (some ⟨p,0,none⟩)] w (RetIntsC w (cornersI g)):=by
 have hp:=Lib.hid h.lt;have hn:=G.n_le h.1;go_enter Tryz.func124,Tryz.ntmps124;go_wp2_with fail;refine (gridCellsN w p g v h).mono ?_;rintro e w1 ⟨rfl,hb1⟩;have hs1:=hb1.size;go_wp2_with fail
 go_loopw [3,9] (fun l i wr=>∃k:Nat,k≤g.n∧i=.int .i64 k∧OwnI wr w.heap.size l (upTo (cornerB g) k)∧Below w.heap.size w wr) (fun _ i _=>g.n-(intOf i).toNat)
 case atStart=>exact ⟨0,by omega,rfl,OwnI.nil _ _,hb1⟩
 case round=>
  obtain ⟨k,hk,rfl,hown,HB⟩:=hrel;have hl:=upTo_len (cornerB g) k
  by_cases hlt:k<g.n
  ·go_wp2_with fail
   refine (cornerIs_in _ p g v k (h.below HB hp.out) hlt).mono ?_;rintro e w2 ⟨rfl,hb2⟩;have HB2:=bel_trans HB hb2;have hown2:=hown.below (B':=0) hb2;have hz2:=HB2.size
   cases hm:cornerB g k with
   | false=>
    have e:=Lib.hid (upTo_no (p:=cornerB g) hm);clear hm;go_wp2;go_roundw
    case rel=>exact ⟨k+1,by omega,by go_num,by rw [e.out];exact hown2,HB2⟩
    case measure=>simp [intOf];omega
   | true=>
    have e:=Lib.hid (upTo_yes (p:=cornerB g) hm);clear hm
    go_wp2_with (at_builtin;refine wpList_append_int _ rfl _ _ rfl w.heap.size _ _ _ rfl (hown2.alloc _) ⟨w2.heap.size,0,none⟩ rfl (cell1_new _ _ _) (by omega) (by simp;omega) ?_;intro v' w3 hown3 hgrow)
    have HB3:=below_grown (HB2.alloc (by omega) _) (by simp;omega) (hown2.alloc _) hgrow
    go_wp2;go_roundw
    case rel=>exact ⟨k+1,by omega,by go_num,by rw [e.out];exact hown3,HB3⟩
    case measure=>simp [intOf];omega
  ·obtain rfl:k=g.n:=by omega
   go_wp2;go_ret;exact ret_intsC hown HB
def cf (g:G) (i:Nat):Nat:=((cornersI g).getD i 0).toNat
theorem pairwise_getD {L:List Int} (h:L.Pairwise (· < ·)) {i j:Nat} (hij:i<j) (hj:j<L.length):L.getD i 0<L.getD j 0:=by
 have:=(List.pairwise_iff_getElem.1 h) i j (by omega) hj hij
 simpa [List.getD,show i<L.length by omega,hj] using this
theorem corners_sorted (g:G):(cornersI g).Pairwise (· < ·):=by
 unfold cornersI upTo;rw [List.pairwise_map]
 exact (List.Pairwise.filter _ List.pairwise_lt_range).imp (fun h=>by omega)
theorem cf_at {g:G} {i:Nat} (hi:i<(cornersI g).length):(cornersI g).getD i 0=(cf g i:Nat)∧g.Corner (cf g i):=by
 obtain ⟨d,h1,h2,h3⟩:=upTo_get (p:=cornerB g) (n:=g.n) hi;have h1':(cornersI g).getD i 0=(d:Int):=h1
 have e:cf g i=d:=by unfold cf;rw [h1'];simp
 rw [e];exact ⟨h1',(corner_iff' h2).1 h3⟩
theorem cf_lt {g:G} {i j:Nat} (hij:i<j) (hj:j<(cornersI g).length):cf g i<cf g j:=by
 have h:=pairwise_getD (corners_sorted g) hij hj
 rw [(cf_at (show i<_ by omega)).1,(cf_at hj).1] at h
 omega
theorem cf_inj {g:G} {i j:Nat} (hi:i<(cornersI g).length) (hj:j<(cornersI g).length) (h:cf g i=cf g j):i=j:=by
 rcases Nat.lt_trichotomy i j with q | q | q
 ·have:=cf_lt q hj;omega
 ·exact q
 ·have:=cf_lt q hi;omega
theorem cf_has {g:G} {c:Nat} (h:g.Corner c):∃i,i<(cornersI g).length∧cf g i=c:=by
 obtain ⟨k,h1,h2⟩:=upTo_has (p:=cornerB g) (n:=g.n) h.1 ((corner_iff' h.1).2 h);refine ⟨k,h1,?_⟩;unfold cf;have h2':(cornersI g).getD k 0=(c:Int):=h2;rw [h2'];simp
theorem corners_le {g:G} (hg:g.ok):(cornersI g).length≤256:=Nat.le_trans (upTo_len _ _) (G.n_le hg)
def Dn (g:G) (i j:Nat) (x y:Nat):Prop:=∃a b,a<b∧b<(cornersI g).length∧(a<i∨(a=i∧b<j))∧((x=cf g a∧y=cf g b)∨(x=cf g b∧y=cf g a))
theorem GSpec.congr {g:G} {D D':Nat→Nat→Prop} {E:Int→Option (List Ed)} (h:GSpec g D E) (hD:∀c y,g.Corner c→g.Corner y→y≠c→(D c y↔D' c y)):GSpec g D' E:=by
 refine ⟨h.1,fun c L hc=>⟨(h.2 c L hc).1,fun e=>?_⟩⟩
 obtain ⟨c',e1,hcc⟩:=(h.1 c).1 (by rw [hc];simp)
 obtain rfl:c=c':=by omega
 rw [(h.2 c L hc).2 e]
 constructor
 ·rintro ⟨y,q1,q2,q3,q4,q5⟩;exact ⟨y,q1,q2,(hD c y hcc q1 q2).1 q3,q4,q5⟩
 ·rintro ⟨y,q1,q2,q3,q4,q5⟩;exact ⟨y,q1,q2,(hD c y hcc q1 q2).2 q3,q4,q5⟩
theorem dn_step {g:G} {i j:Nat} (hij:i<j) (hj:j<(cornersI g).length):∀x y,DoneP (Dn g i j) (cf g i) (cf g j) x y↔Dn g i (j+1) x y:=by
 intro x y
 constructor
 ·rintro (⟨a,b,h1,h2,h3,h4⟩ | ⟨rfl,rfl⟩ | ⟨rfl,rfl⟩)
  ·exact ⟨a,b,h1,h2,by omega,h4⟩
  ·exact ⟨i,j,hij,hj,.inr ⟨rfl,by omega⟩,.inl ⟨rfl,rfl⟩⟩
  ·exact ⟨i,j,hij,hj,.inr ⟨rfl,by omega⟩,.inr ⟨rfl,rfl⟩⟩
 ·rintro ⟨a,b,h1,h2,h3,h4⟩
  by_cases e:a=i∧b=j
  ·obtain ⟨rfl,rfl⟩:=e
   exact .inr h4
  ·exact .inl ⟨a,b,h1,h2,by omega,h4⟩
theorem dn_not {g:G} {i j:Nat} (hij:i<j) (hj:j<(cornersI g).length):¬Dn g i j (cf g i) (cf g j)∧¬Dn g i j (cf g j) (cf g i):=by
 constructor
 ·rintro ⟨a,b,h1,h2,h3,⟨h4,h5⟩ | ⟨h4,h5⟩⟩
  ·have e1:=cf_inj (by omega) (by omega) h4
   have e2:=cf_inj hj h2 h5;omega
  ·have e1:=cf_inj (by omega) h2 h4
   have e2:=cf_inj hj (by omega) h5
   omega
 ·rintro ⟨a,b,h1,h2,h3,⟨h4,h5⟩ | ⟨h4,h5⟩⟩
  ·have e1:=cf_inj hj (by omega) h4
   have e2:=cf_inj (by omega) h2 h5
   omega
  ·have e1:=cf_inj hj h2 h4
   have e2:=cf_inj (by omega) (by omega) h5
   omega
theorem dn_row {g:G} {i j:Nat} (hj:(cornersI g).length≤j):∀x y,Dn g i j x y↔Dn g (i+1) (i+2) x y:=by
 intro x y
 constructor
 ·rintro ⟨a,b,h1,h2,h3,h4⟩;exact ⟨a,b,h1,h2,by omega,h4⟩
 ·rintro ⟨a,b,h1,h2,h3,h4⟩;exact ⟨a,b,h1,h2,by omega,h4⟩
theorem dn_start {g:G}:∀x y,¬Dn g 0 1 x y:=by
 rintro x y ⟨a,b,h1,h2,h3,h4⟩;omega
theorem dn_end {g:G} {i:Nat} (hi:(cornersI g).length≤i) {c y:Nat} (hc:g.Corner c) (hy:g.Corner y) (hn:y≠c):Dn g i (i+1) c y:=by
 obtain ⟨a,ha,rfl⟩:=cf_has hc;obtain ⟨b,hb,rfl⟩:=cf_has hy
 rcases Nat.lt_trichotomy a b with q | q | q
 ·exact ⟨a,b,q,hb,by omega,.inl ⟨rfl,rfl⟩⟩
 ·subst q;exact absurd rfl hn
 ·exact ⟨b,a,q,ha,by omega,.inr ⟨rfl,rfl⟩⟩
def NilTo (g:G) (k:Nat) (E:Int→Option (List Ed)):Prop:=(∀z:Int,E z≠none↔∃i,i<k∧z=(cf g i:Nat))∧∀z L,E z=some L→L=[]
theorem nil_step {g:G} {k:Nat} {E:Int→Option (List Ed)} (h:NilTo g k E):NilTo g (k+1) (updE E (cf g k:Nat) (some [])):=by
 refine ⟨fun z=>?_,fun z L hz=>?_⟩
 ·unfold updE
  by_cases e:z=(cf g k:Nat)
  ·rw [if_pos e]
   exact ⟨fun _=>⟨k,by omega,e⟩,fun _=>by simp⟩
  ·rw [if_neg e,h.1 z]
   constructor
   ·rintro ⟨i,h1,h2⟩;exact ⟨i,by omega,h2⟩
   ·rintro ⟨i,h1,h2⟩
    by_cases e2:i=k
    ·subst e2;exact absurd h2 e
    ·exact ⟨i,by omega,h2⟩
 ·unfold updE at hz
  split at hz
  ·injection hz with hz;exact hz.symm
  ·exact h.2 z L hz
theorem nil_none {g:G} {k:Nat} {E:Int→Option (List Ed)} (h:NilTo g k E) (hk:k<(cornersI g).length):E (cf g k:Nat)=none:=by
 cases he:E (cf g k:Nat) with
 | none=>rfl
 | some L=>
  obtain ⟨i,h1,h2⟩:=(h.1 _).1 (by rw [he];simp)
  have:=cf_inj (g:=g) (i:=k) (j:=i) hk (by omega) (by omega)
  omega
theorem nil_spec {g:G} {E:Int→Option (List Ed)} (h:NilTo g (cornersI g).length E):GSpec g (Dn g 0 1) E:=by
 refine ⟨fun z=>?_,fun c L hc=>?_⟩
 ·rw [h.1 z]
  constructor
  ·rintro ⟨i,h1,h2⟩;exact ⟨_,h2,(cf_at h1).2⟩
  ·rintro ⟨c,rfl,hc⟩
   obtain ⟨i,h1,h2⟩:=cf_has hc
   exact ⟨i,h1,by rw [h2]⟩
 ·have:=h.2 _ _ hc
  subst this
  refine ⟨fun i j a b _ ha=>by simp at ha,fun e=>?_⟩
  constructor
  ·intro h;simp at h
  ·rintro ⟨y,_,_,h3,_⟩;exact absurd h3 (dn_start _ _)
theorem addAdd (a:Addr) (i j:Nat):(a.add i).add j=a.add (i+j):=by
 unfold Addr.add
 by_cases h1:i=0
 ·subst h1;simp
 ·by_cases h2:j=0
  ·subst h2;simp
  ·rw [if_neg h1,if_neg h2,if_neg (by omega)]
   simp [Nat.add_assoc]
theorem Ints.drop {w:World} {A:Option Addr} {n m i:Nat} {f:Nat→Int} (h:Ints w A n f) (hm:n≤m) (hi:i≤n):Ints w (if m=i then A else A.map (·.add i)) (n-i) (fun k=>f (i+k)):=by
 intro hn
 obtain ⟨ad,rfl,h2,h3⟩:=h (by omega)
 rw [if_neg (by omega)]
 refine ⟨ad.add i,rfl,by rw [add_block];exact h2,fun k hk=>?_⟩
 have e:(ad.add i).add k=ad.add (i+k):=addAdd ad i k;rw [e]
 exact h3 (i+k) (by omega)
def NewGD (w:World) (g:G) (v:Int) (e:Ending) (w':World):Prop:=
 ∃b p mb S E,e=.returned (.pointer (some ⟨b,0,none⟩))∧GraphOf w' b p mb S g v E∧GSpec g (fun _ _=>True) E∧(∀k,k∈b :: p :: mb :: S→w.heap.size≤k)∧Below w.heap.size w w'
theorem graphNew (w : World) (q : Nat) (g : G) (v : Int) (h : GridAt w q g v) :
    Calls Tryz.prog 84 #[.pointer (some ⟨q,0,none⟩)] w (NewGD w g v):=by
 have hok:=h.1;have hNn:=G.n_le hok;have hmm:=@run_makeMap Tryz.prog;go_enter Tryz.func84,Tryz.ntmps84;go_wp2_with fail
 (with_reducible refine (gridCopy _ q g v h).mono ?_)
 rintro e w1 ⟨rfl,hG1,hb1,hs1⟩
 go_upto_region 2 with (fail)
 clear hmm;refine wp_name ?_;intro W hW
 have HW:Below w1.heap.size w1 W:=by rw [hW];(repeat' (first | exact Below.refl _ _ | assumption | apply bel_drewN | apply bel_drew | apply bel_alloc | (refine bel_trans ?_ (by assumption))))
 obtain ⟨p,hp⟩:∃z,w.heap.size=z:=⟨_,rfl⟩
 have hpw:w.heap.size≤p:=by omega
 rw [hp] at hG1 hW hs1;obtain ⟨mb,hmb⟩:∃z,p+1=z:=⟨_,rfl⟩;rw [hmb] at hW hs1;obtain ⟨b,hb⟩:∃z,mb+1=z:=⟨_,rfl⟩;rw [hp,hmb,hb]
 have l1:p<mb:=by omega
 have l2:mb<b:=by omega
 have hM:MapAt iK W mb (fun _=>none) 0:=by
  rw [hW,←hs1];exact (MapAt.made w1).below (bel_alloc (Below.refl _ _))
 have hbk:W.heap[b]? = some (.cells #[.pointer (some ⟨p,0,none⟩),.map (some mb)] 157 (0,0)):=by
  rw [hW];exact alloc_at _ _ (by simp;omega)
 have hE0:EMap W [] mb (fun _=>none):=⟨_,0,hM,fun k=>by simp,fun k u L hu=>by simp at hu,fun k u q hu=>by simp at hu,by simp,fun k k' u u' q hu=>by simp at hu,fun s hs=>by simp at hs⟩
 have hGr0:GraphOf W b p mb [] g v (fun _=>none):=⟨hbk,hG1.below HW hG1.lt,hE0,by simp,by simp,by omega,by omega,by omega⟩
 have HBW:=bel_trans hb1 HW;have hq:GridAt W q g v:=h.below HBW h.lt;have hWs:mb<W.heap.size:=hM.lt;clear hW HW hM hbk hE0 hG1 hb1 hs1 hp hmb hb;go_wp2_with fail
 (with_reducible refine (cornerAllC _ q g v hq).mono ?_)
 rintro e w2 ⟨A,m,rfl,hm,hI,hAn,hb2⟩;have hGr2:=hGr0.below hb2;have HB2:=bel_trans HBW hb2;obtain ⟨n,hn⟩:∃n,(cornersI g).length=n:=⟨_,rfl⟩;have hn256:=corners_le hok
 rw [hn] at hm hI hn256 ⊢
 have Hn:=Lib.hid hn;have Hok:=Lib.hid hok
 have hnil:NilTo g 0 (fun _=>none):=⟨fun z=>by simp,fun z L hz=>by simp at hz⟩
 have HI:=Lib.hid hI;clear hn hok hGr0 HBW hq hb2 hI h
 have hAm:∀ad,A=some ad→ad.block∉[mb]:=fun ad e=>by
  have h1:=(hAn ad e).1;have h2:=hGr2.2.2.1.lt;have h3:=hWs;simp;omega
 have HAm:=Lib.hid hAm;have hstart:∃E,GraphOf w2 b p mb [] g v E∧NilTo g 0 E∧Kept [mb] w2 w2:=⟨_,hGr2,hnil,Kept.refl _ _⟩;clear hAm hAn hGr2 hnil hWs;go_wp2_with fail
 go_loopw [20] (fun kv wr=>∃k:Nat,k≤n∧kv=.int .i64 k∧∃E,GraphOf wr b p mb [] g v E∧NilTo g k E∧Kept [mb] w2 wr) (fun kv _=>n-(intOf kv).toNat)
 case atStart=>exact ⟨0,by omega,rfl,hstart⟩
 case round=>
  obtain ⟨k,hk,rfl,E,hGr,hnil,hK⟩:=hrel;clear hstart
  by_cases hlt:k<n
  ·have hIr:=HI.out.kept hK HAm.out
   obtain ⟨ad,hA⟩:=hIr.addr (by omega)
   rw [hA] at hIr
   have hix:=fun wx=>idx_run (m:=m) hA hlt wx
   have hE:=hIr.cell (Below.refl _ _) hlt
   rw [(cf_at (by rw [Hn.out];exact hlt)).1] at hE
   have hnone:=nil_none hnil (by rw [Hn.out];exact hlt)
   have hnil2:=nil_step hnil;obtain ⟨c,hc⟩:∃c,cf g k=c:=⟨_,rfl⟩;rw [hc] at hE hnone hnil2;have Hnil:=Lib.hid hnil2;have HGr:=Lib.hid hGr;obtain ⟨g1,g2,g3,g4,g5,g6,g7,g8⟩:=hGr;obtain ⟨V,N,q1,q2,q3,q4,q5,q6,q7⟩:=g3
   have kb1:wr.cell? ⟨b,1,none⟩=some (.map (some mb)):=by simp [World.cell?,g1]
   have Q:=Lib.hid (And.intro q1 (And.intro q2 (And.intro q3 (And.intro q4 (And.intro q5 (And.intro q6 q7))))));clear hIr hA hnil hnone hnil2 hc g1 g2 g4 g5 g6 g7 g8 q1 q2 q3 q4 q5 q6 q7;obtain ⟨wU,hU,hMU,hKU⟩:=Q.out.1.store (int_fit Tryz.underlying3) Tryz.underlying151 (c:Int) (.slice none 0 0);have hU:(Instr.mapUpdate 151 (.map (some mb)) (.int .i64 (c:Nat)) (.slice none 0 0)).run Tryz.prog wr=.ok () wU:=hU
   have hE2:=EMap.add Q.out.1 Q.out.2.1 Q.out.2.2.1 Q.out.2.2.2.1 Q.out.2.2.2.2.1 Q.out.2.2.2.2.2.1 Q.out.2.2.2.2.2.2 hMU hKU
   have hGr2:=HGr.out.put hE2 (fun k hk=>.inl hk) hKU
   have hfin:∃E,GraphOf wU b p mb [] g v E∧NilTo g (k+1) E∧Kept [mb] w2 wU:=⟨_,hGr2,Hnil.out,hK.trans hKU⟩;have hfin:=Lib.hid hfin;clear hE2 hGr2 hMU;go_wp2;go_roundw
   case rel=>exact ⟨k+1,by omega,by go_num,hfin.out⟩
   case measure=>simp [intOf];omega
  ·obtain rfl:k=n:=by omega
   have hsp:GSpec g (Dn g 0 (0+1)) E:=nil_spec (by rw [Hn.out];exact hnil)
   have hstart2:∃S E,GraphOf wr b p mb S g v E∧GSpec g (Dn g 0 (0+1)) E∧(∀s∈S,w2.heap.size≤s)∧Kept [mb] w2 wr:=⟨[],E,hGr,hsp,by simp,hK⟩
   clear hGr hnil hsp hK;go_wp2_with fail;obtain ⟨wo,rfl⟩:∃wo:World,wo=wr:=⟨_,rfl⟩
   go_loopw [32] (fun kv wr=>∃i:Nat,i≤k∧kv=.int .i64 i∧∃S E,GraphOf wr b p mb S g v E∧GSpec g (Dn g i (i+1)) E∧(∀s∈S,w2.heap.size≤s)∧Kept [mb] w2 wr) (fun kv _=>k-(intOf kv).toNat)
   case atStart=>exact ⟨0,by omega,rfl,hstart2⟩
   case round=>
    obtain ⟨i,hi,rfl,S,E,hGr,hsp,hSn,hK⟩:=hrel;clear hstart2
    by_cases hlt2:i<k
    ·have hIr:=HI.out.kept hK HAm.out
     have hId:=Ints.drop HI.out hm (show i+1≤k by omega)
     obtain ⟨ad,hA⟩:=hIr.addr (by omega)
     have hIa:=hIr;rw [hA] at hIa
     have hix:=fun wx=>idx_run (m:=m) hA hlt2 wx
     have hE:=hIa.cell (Below.refl _ _) hlt2
     rw [(cf_at (by rw [Hn.out];exact hlt2)).1] at hE
     obtain ⟨x,hx⟩:∃x,cf g i=x:=⟨_,rfl⟩;rw [hx] at hE;have Hx:=Lib.hid hx;have HId:=Lib.hid hId;have HGr:=Lib.hid hGr;have Hsp:=Lib.hid hsp
     have hw1:IntKind.i64.wrap ((i:Int)+1)=(i:Int)+1:=IntWalk.i64_in _ (by omega)
     have hb1:(0:Int)≤(i:Int)+1:=by omega
     have hb2:(i:Int)+1≤(k:Int):=by omega
     have hb3:i+1≤k:=by omega
     have hb4:i+1≤m:=by omega
     have hb5:((i:Int)+1).toNat=i+1:=by omega
     clear hIr hIa hA hx hId hGr hsp
     go_upto_region 11 with (fail)
     go_cut [40,41,42] (fun sv lv zv wx=>∃A' m',sv=.slice A' (k-(i+1)) m'∧Ints w2 A' (k-(i+1)) (fun t=>(cornersI g).getD (i+1+t) 0)∧(∀ad,A'=some ad→ad.block∉[mb])∧lv=.int .i64 ((k-(i+1):Nat):Int)∧zv=.int .i64 (0:Nat)∧wx=wr)
     case first=>
      by_cases hmi:m=i+1
      ·have hId:=HId.out
       rw [if_pos hmi] at hId;go_wp2;go_meet
       case rel=>exact ⟨_,_,rfl,hId,HAm.out,rfl,rfl,rfl⟩
      ·have hId:=HId.out
       rw [if_neg hmi] at hId;go_wp2;go_meet
       case rel=>
        refine ⟨_,_,rfl,by simpa [Addr.add] using hId,?_,rfl,rfl,rfl⟩
        intro ad0 e
        cases A with
        | none=>simp at e
        | some a0=>
         simp at e;rw [←e];exact HAm.out a0 rfl
     case rest=>
     obtain ⟨A',m',rfl,hI2,hA2,rfl,rfl,hwc⟩:=hcut;have hwc:wc=wr:=hwc;rw [hwc];obtain ⟨r,hr⟩:∃r,k-(i+1)=r:=⟨_,rfl⟩
     rw [hr] at hI2 ⊢
     have HI2:=Lib.hid hI2;have HA2:=Lib.hid hA2;have hstart3:∃S E,GraphOf wr b p mb S g v E∧GSpec g (Dn g i (i+1+0)) E∧(∀s∈S,w2.heap.size≤s)∧Kept [mb] w2 wr:=⟨S,E,HGr.out,Hsp.out,hSn,hK⟩
     have hxc:g.Corner x:=by rw [←Hx.out];exact (cf_at (by rw [Hn.out];exact hlt2)).2
     clear hwc hE hix HId hI2 hA2 HGr Hsp hSn hK hw1 hb1 hb2 hb3 hb4 hb5;obtain ⟨w0,hw0⟩:∃z:World,wr=z:=⟨_,rfl⟩
     rw [hw0] at hstart3 ⊢
     clear hw0;go_wp2_with fail;obtain ⟨wp,rfl⟩:∃wp:World,wp=wr:=⟨_,rfl⟩
     go_loopw [42] (fun kv wr=>∃j:Nat,j≤r∧kv=.int .i64 j∧∃S E,GraphOf wr b p mb S g v E∧GSpec g (Dn g i (i+1+j)) E∧(∀s∈S,w2.heap.size≤s)∧Kept [mb] w2 wr) (fun kv _=>r-(intOf kv).toNat)
     case atStart=>exact ⟨0,by omega,rfl,hstart3⟩
     case round=>
      obtain ⟨j,hj,rfl,S,E,hGr,hsp,hSn,hK⟩:=hrel;clear hstart3
      by_cases hlt3:j<r
      ·have hIr:=HI2.out.kept hK HA2.out
       obtain ⟨ad1,hA1⟩:=hIr.addr (by omega)
       rw [hA1] at hIr
       have hix1:=fun wx=>idx_run (m:=m') hA1 hlt3 wx
       have hE1:=hIr.cell (Below.refl _ _) hlt3
       have hjn:i+1+j<(cornersI g).length:=by rw [Hn.out];omega
       rw [(cf_at hjn).1] at hE1;obtain ⟨y,hy⟩:∃y,cf g (i+1+j)=y:=⟨_,rfl⟩
       have hyc:g.Corner y:=by rw [←hy];exact (cf_at hjn).2
       rw [hy] at hE1
       have hxy:x≠y:=by
        rw [←Hx.out,←hy]
        have:=cf_lt (g:=g) (show i<i+1+j by omega) hjn
        omega
       have hdn:=dn_not (g:=g) (show i<i+1+j by omega) hjn
       have hds:=dn_step (g:=g) (show i<i+1+j by omega) hjn
       rw [Hx.out,hy] at hdn hds
       have hq0:(0:Int)≤(j:Int):=by omega
       have hq1:(j:Int)<(r:Int):=by omega
       have cL:=Lib.hid (graphLook wr b p mb S g v E _ x y hGr hsp hxc hyc hxy hdn.1 hdn.2);have Hds:=Lib.hid hds;clear hIr hA1 hy hGr hsp hdn hds;go_wp2_with fail
       (refine cL.out.mono ?_)
       rintro e w4 ⟨rfl,S',E',hGr',hsp',hS',hK'⟩;have hKn:=kept_new hK hK' hSn
       have hfin:∃S E,GraphOf w4 b p mb S g v E∧GSpec g (Dn g i (i+1+(j+1))) E∧(∀s∈S,w2.heap.size≤s)∧Kept [mb] w2 w4:=by
        refine ⟨S',E',hGr',hsp'.congr (fun c y _ _ _=>Hds.out c y),fun s hs=>?_,hKn⟩
        rcases hS' s hs with q | q
        ·exact hSn s q
        ·have:=hK.size;omega
       have hfin:=Lib.hid hfin;clear hGr' hsp' hS' hK' hKn cL hE1 hix1;go_wp2;go_roundw
       case rel=>exact ⟨j+1,by omega,by go_num,hfin.out⟩
       case measure=>simp [intOf];omega
      ·obtain rfl:j=r:=by omega
       have hfin:∃S E,GraphOf wr b p mb S g v E∧GSpec g (Dn g (i+1) (i+1+1)) E∧(∀s∈S,w2.heap.size≤s)∧Kept [mb] w2 wr:=
        ⟨S,E,hGr,hsp.congr (fun c y _ _ _=>dn_row (by rw [Hn.out];omega) c y),hSn,hK⟩
       have hfin:=Lib.hid hfin;clear hGr hsp hSn hK;go_wp2;go_roundw
       case rel=>first | exact ⟨i+1,by omega,by go_num,hfin.out⟩ | ((repeat apply Exists.intro);exact ⟨⟨i+1,by omega,by go_num,hfin.out⟩,rfl⟩)
       case measure=>simp [intOf];omega
    ·obtain rfl:i=k:=by omega
     have hfin:NewGD w g v (.returned (.pointer (some ⟨b,0,none⟩))) wr:=by
      have hs2:=HB2.size
      refine ⟨b,p,mb,S,E,rfl,hGr,hsp.congr (fun c y h1 h2 h3=>⟨fun _=>trivial,fun _=>dn_end (by rw [Hn.out];omega) h1 h2 h3⟩),?_,Kept.below HB2 hK hs2 (by simp;omega)⟩
      intro t ht
      rcases List.mem_cons.1 ht with e | ht
      ·omega
      rcases List.mem_cons.1 ht with e | ht
      ·omega
      rcases List.mem_cons.1 ht with e | ht
      ·omega
      have:=hSn t ht;omega
     have hfin:=Lib.hid hfin;clear hGr hsp hSn hK;go_wp2;go_ret;exact hfin.out
end Go.Proofs.YtkdndoefgnfbnaaGreatDoor
