/- Lemmas of this claim: FloodSays, RRay, RRay2, RRay3, RRay4, RRay5, Rays, REdges, RGraph, RConn, Conn, Lv1, Lv2, Lv3, Lv4, LvM, Lv5, Bst0, MathFree, AsGraph, Links. -/
import Derived.Test.YtokhnobcincfjaaGreatDoorKNFr11
import Derived.Test.YtokhnobcincfjaaGreatDoorKNFr5
import Derived.Test.YtokhnobcincfjaaGreatDoorKNFr6
import Derived.Laws.CopyOwn
import Derived.Laws.Tables
import Derived.Test.YtokhnobcincfjaaGreatDoorKNFr1
import Derived.Test.YtokhnobcincfjaaGreatDoorKNFr2
import Derived.Deep.RegionHeld3
import Derived.Deep.MidRow
import Derived.Test.YtokhnobcincfjaaGreatDoorKNFr15
import Derived.Test.YtokhnobcincfjaaGreatDoorKNFr18
import Derived.Deep.DeepCutAuto
import Derived.Test.YtokhnobcincfjaaGreatDoorKNFr16
import Derived.Test.YtokhnobcincfjaaGreatDoorKNFr3
set_option linter.unusedVariables false
set_option linter.unusedSimpArgs false
set_option maxHeartbeats 3200000
set_option maxRecDepth 100000
namespace Go.Proofs.YtokhnobcincfjaaGreatDoor
open Go.RowKit Go.Sort FR
def rayCell (a:Nat) (c:Nat→C) (is:Nat→Bool) (k:Nat):Value:=if k=0 then .int .i64 (a:Nat) else if k<513 then ccell c (k-1) else icell is (k-513)
def rayRow (a:Nat) (c:Nat→C) (is:Nat→Bool):Array Value:=rowOf (rayCell a c is) 769
theorem rangeAt_below {w w':World} {b o:Nat} {cs:List Value} (h:w.rangeAt b o cs) (hb:Below w.heap.size w w'):w'.rangeAt b o cs:=fun j v hv=>bel_cell hb (h j v hv)
end Go.Proofs.YtokhnobcincfjaaGreatDoor
namespace Go.Proofs.YtokhnobcincfjaaGreatDoor
open Go.RowKit Go.Sort FR Go.Lib
def rayL (Zs:List (Array Value)):List Value:=Zs.flatMap (·.toList)
def OwnR (w:World) (B:Nat) (v:Value) (Zs:List (Array Value)):Prop:=w.ownsRow B 211 769 v Zs.length (rayL Zs)∧∀Z∈Zs,Z.size=769
theorem OwnR.nil (w:World) (B:Nat):OwnR w B (.slice none 0 0) []:=⟨⟨rfl,.inl ⟨rfl,rfl⟩⟩,by simp⟩
theorem rayL_append (L M:List (Array Value)):rayL (L ++ M)=rayL L ++ rayL M:=by simp [rayL]
theorem rayL_get:∀(L:List (Array Value)) (_:∀Z∈L,Z.size=769) (i:Nat) (Z:Array Value),L[i]? = some Z→∀j v,Z.toList[j]? = some v→(rayL L)[i*769+j]? = some v
 | [],_,i,Z,h=>by simp at h
 | X :: L,hs,0,Z,h=>by
  simp at h;subst h;intro j v hv
  have e:rayL (X :: L)=X.toList ++ rayL L:=by simp [rayL]
  have hj:=(List.getElem?_eq_some_iff.1 hv).1
  rw [e,List.getElem?_append_left (by omega)]
  simpa using hv
 | X :: L,hs,i+1,Z,h=>by
  simp at h;intro j v hv
  have e:rayL (X :: L)=X.toList ++ rayL L:=by simp [rayL]
  have hx:=hs X (by simp)
  rw [e,List.getElem?_append_right (by rw [Array.length_toList];omega),Array.length_toList,hx]
  have:=rayL_get L (fun Y hY=>hs Y (by simp [hY])) i Z h j v hv
  rw [show (i+1)*769+j-769=i*769+j by omega]
  exact this
def RaysAt (w:World) (A:Option Addr) (Zs:List (Array Value)):Prop:=0<Zs.length→∃g,A=some ⟨g,0,none⟩∧g<w.heap.size∧∀i Z,Zs[i]? = some Z→w.rangeAt g (i*769) Z.toList
theorem OwnR.rays {w:World} {B:Nat} {v:Value} {Zs:List (Array Value)} (h:OwnR w B v Zs):∃A cap,v=.slice A Zs.length cap∧RaysAt w A Zs∧∀ad,A=some ad→B≤ad.block∧ad.block<w.heap.size:=by
 obtain ⟨h,hs⟩:=h
 rcases h.2 with ⟨rfl,h0⟩ | ⟨g,cap,cur,rfl,hB,hg,_,_,_,htake⟩
 ·exact ⟨none,0,by rw [h0],(fun h=>by omega),fun ad e=>by cases e⟩
 ·refine ⟨_,cap,rfl,fun _=>⟨g,rfl,(Array.getElem?_eq_some_iff.1 hg).1,fun i Z hZ j v hv=>?_⟩,fun ad e=>?_⟩
  ·have:=rayL_get Zs hs i Z hZ j v hv
   rw [←htake,List.getElem?_take] at this
   split at this
   ·rw [Array.getElem?_toList] at this
    simp [World.cell?,hg,this]
   ·cases this
  ·injection e with e
   subst e;exact ⟨hB,(Array.getElem?_eq_some_iff.1 hg).1⟩
theorem RaysAt.below {w w':World} {A:Option Addr} {Zs:List (Array Value)} (h:RaysAt w A Zs) (hb:Below w.heap.size w w'):RaysAt w' A Zs:=fun hl=>by
 obtain ⟨g,h1,h2,h3⟩:=h hl
 exact ⟨g,h1,Nat.lt_of_lt_of_le h2 hb.size,fun i Z hZ=>rangeAt_below (h3 i Z hZ) hb⟩
open Classical in
noncomputable def eUp (g:G) (ca:Nat) (self:Bool) (k:Nat):List Ed:=
 ((List.range k).filter fun i=>decide (g.Direct ca (cf g i)) && (self || !(cf g i == ca))).map fun i=>⟨(cf g i:Nat),g.oct ca (cf g i),-1⟩
theorem eUp_len (g:G) (ca:Nat) (self:Bool) (k:Nat):(eUp g ca self k).length≤k:=by
 unfold eUp;rw [List.length_map]
 exact Nat.le_trans (List.length_filter_le _ _) (by simp)
open Classical in
theorem eUp_yes {g:G} {ca k:Nat} {self:Bool} (hd:g.Direct ca (cf g k)) (hs:self=true∨cf g k≠ca):eUp g ca self (k+1)=eUp g ca self k ++ [⟨(cf g k:Nat),g.oct ca (cf g k),-1⟩]:=by
 unfold eUp;rw [List.range_succ,List.filter_append,List.map_append]
 have:(decide (g.Direct ca (cf g k)) && (self || !(cf g k == ca)))=true:=by
  rcases hs with h | h <;> simp [hd,h]
 simp [this]
open Classical in
theorem eUp_no {g:G} {ca k:Nat} {self:Bool} (h:¬g.Direct ca (cf g k)∨(self=false∧cf g k=ca)):eUp g ca self (k+1)=eUp g ca self k:=by
 unfold eUp;rw [List.range_succ,List.filter_append,List.map_append]
 have:(decide (g.Direct ca (cf g k)) && (self || !(cf g k == ca)))=false:=by
  rcases h with h | ⟨h1,h2⟩
  ·simp [h]
  ·simp [h1,h2]
 simp [this]
open Classical in
theorem mem_eUp {g:G} {ca:Nat} {self:Bool} {e:Ed}:e∈eUp g ca self (cornersI g).length↔∃y:Nat,g.Corner y∧(self=true∨y≠ca)∧g.Direct ca y∧e=⟨y,g.oct ca y,-1⟩:=by
 unfold eUp;rw [List.mem_map]
 constructor
 ·rintro ⟨i,hi,rfl⟩
  rw [List.mem_filter,List.mem_range] at hi;obtain ⟨h1,h2⟩:=hi;simp only [Bool.and_eq_true,decide_eq_true_eq,Bool.or_eq_true,Bool.not_eq_true',beq_eq_false_iff_ne] at h2;exact ⟨_,(cf_at h1).2,h2.2,h2.1,rfl⟩
 ·rintro ⟨y,h1,h2,h3,rfl⟩
  obtain ⟨i,hi,rfl⟩:=cf_has h1;refine ⟨i,?_,rfl⟩;rw [List.mem_filter,List.mem_range];refine ⟨hi,?_⟩;simp only [Bool.and_eq_true,decide_eq_true_eq,Bool.or_eq_true,Bool.not_eq_true',beq_eq_false_iff_ne];exact ⟨h3,h2⟩
theorem OwnE.mono {w:World} {B B':Nat} {v:Value} {L:List Ed} (h:OwnE w B v L) (hB:B'≤B):OwnE w B' v L:=by
 refine ⟨h.1,?_⟩
 rcases h.2 with hn | ⟨g,cap,cur,rfl,hb,rest⟩
 ·exact .inl hn
 ·exact .inr ⟨g,cap,cur,rfl,Nat.le_trans hB hb,rest⟩
def RetE (w:World) (L:List Ed) (e:Ending) (w':World):Prop:=∃vE,e=.returned vE∧OwnE w' w.heap.size vE L∧Below w.heap.size w w'
theorem EMap.fresh {w wI wU : World} {S : List Nat} {mb N N2 : Nat} {E : Int → Option (List Ed)} {V : Int → Option Value} {a : Int} {v' : Value} {L' : List Ed}
    (h1:MapAt iK w mb V N) (h2:∀k,E k=none↔V k=none) (h3:∀k u L,V k=some u→E k=some L→OwnE w 0 u L) (h4:∀k u q,V k=some u→u.ownBlock=some q→q∈S) (h5:mb∉S)
    (h6:∀k k' u u' q,V k=some u→V k'=some u'→u.ownBlock=some q→u'.ownBlock=some q→k=k') (h7:∀s,s∈S→s<w.heap.size) (hb:Below w.heap.size w wI)
    (hO:OwnE wI w.heap.size v' L') (hM:MapAt iK wU mb (updK V a (some v')) N2) (hK:Kept [mb] wI wU):EMap wU (v'.ownBlock.toList ++ S) mb (updE E a (some L')):=by
 have hml:=h1.lt
 have hnew:∀q,v'.ownBlock=some q→w.heap.size≤q∧q<wI.heap.size:=fun q hq=>World.ownsRow.lt hO q hq
 refine ⟨_,N2,hM,fun k=>?_,fun k x L hx hL=>?_,fun k x q hx hq=>?_,?_,fun k k' x x' q hx hx' hq hq'=>?_,fun s hs=>?_⟩
 ·unfold updE updK
  split
  ·simp
  ·exact h2 k
 ·unfold updE at hL
  unfold updK at hx
  split at hx
  ·rename_i e
   rw [if_pos e] at hL
   injection hx with hx
   injection hL with hL
   subst hx;subst hL
   exact (hO.mono (Nat.zero_le _)).kept hK (fun q hq=>by have:=(hnew q hq).1;simp;omega)
  ·rename_i e
   rw [if_neg e] at hL
   exact ((h3 k x L hx hL).kept (T:=[]) (.of_below hb) (fun _ _=>by simp)).kept hK (fun q hq=>by
    have:=h4 k x q hx hq;simp;rintro rfl;exact h5 this)
 ·unfold updK at hx
  split at hx
  ·injection hx with hx
   subst hx
   exact List.mem_append_left _ (by rw [hq];simp)
  ·exact List.mem_append_right _ (h4 k x q hx hq)
 ·rw [List.mem_append]
  rintro (q | q)
  ·rw [Option.mem_toList] at q
   have:=(hnew mb q).1;omega
  ·exact h5 q
 ·unfold updK at hx hx'
  split at hx
  ·injection hx with hx
   subst hx
   split at hx'
   ·rename_i e1 e2;rw [e1,e2]
   ·have a1:=(hnew q hq).1
    have a2:=h7 q (h4 k' x' q hx' hq');omega
  ·split at hx'
   ·injection hx' with hx'
    subst hx';have a1:=(hnew q hq').1;have a2:=h7 q (h4 k x q hx hq);omega
   ·exact h6 k k' x x' q hx hx' hq hq'
 ·rcases List.mem_append.1 hs with q | q
  ·rw [Option.mem_toList] at q
   exact Nat.lt_of_lt_of_le (hnew s q).2 hK.size
  ·exact Nat.lt_of_lt_of_le (h7 s q) (Nat.le_trans hb.size hK.size)
theorem rangeAt_kept {S:List Nat} {w w':World} {b o:Nat} {cs:List Value} (h:w.rangeAt b o cs) (hk:Kept S w w') (hb:b∉S):w'.rangeAt b o cs:=fun j v hv=>keptc hk hb (h j v hv)
theorem RaysAt.kept {S:List Nat} {w w':World} {A:Option Addr} {Zs:List (Array Value)} (h:RaysAt w A Zs) (hk:Kept S w w') (hn:∀ad,A=some ad→ad.block∉S):RaysAt w' A Zs:=by
 intro h0;obtain ⟨g,e,hl,hr⟩:=h h0
 exact ⟨g,e,Nat.lt_of_lt_of_le hl hk.size,fun i Z hZ=>rangeAt_kept (hr i Z hZ) hk (hn _ e)⟩
def RaysTo (g:G) (Zs:List (Array Value)) (i:Nat):Prop:=Zs.length=i∧∀j Z,Zs[j]? = some Z→∃c is,Z=rayRow (cf g j) c is∧FloodIs g (cf g j) c is
theorem OwnR.below {w w':World} {B:Nat} {v:Value} {Zs:List (Array Value)} (h:OwnR w B v Zs) (hb:Below w.heap.size w w'):OwnR w' B v Zs:=by
 refine ⟨⟨h.1.1,?_⟩,h.2⟩
 rcases h.1.2 with hn | ⟨g,cap,cur,rfl,hB,hg,rest⟩
 ·exact .inl hn
 ·exact .inr ⟨g,cap,cur,rfl,hB,(hb.block g (Array.getElem?_eq_some_iff.1 hg).1).trans hg,rest⟩
theorem RaysTo.snoc {g:G} {Zs:List (Array Value)} {i:Nat} {Z:Array Value} {c:Nat→C} {is:Nat→Bool} (h:RaysTo g Zs i) (hz:Z=rayRow (cf g i) c is) (hf:FloodIs g (cf g i) c is):RaysTo g (Zs ++ [Z]) (i+1):=by
 refine ⟨by rw [List.length_append,h.1];rfl,fun j X hX=>?_⟩
 by_cases e:j<Zs.length
 ·rw [List.getElem?_append_left e] at hX
  exact h.2 j X hX
 ·rw [List.getElem?_append_right (by omega)] at hX
  have hj:j-Zs.length=0:=by
   have:=(List.getElem?_eq_some_iff.1 hX).1;simp at this;omega
  rw [hj] at hX;simp at hX;subst hX
  have:j=i:=by have:=h.1;omega
  subst this;exact ⟨c,is,hz,hf⟩
theorem OwnR.snoc {w':World} {B:Nat} {v':Value} {Zs:List (Array Value)} {Z:Array Value} (hs:∀X∈Zs,X.size=769) (hz:Z.size=769) (h:w'.ownsRow B 211 769 v' (Zs.length+1) (rayL Zs ++ Z.toList)):OwnR w' B v' (Zs ++ [Z]):=by
 refine ⟨?_,fun X hX=>?_⟩
 ·rw [List.length_append,rayL_append]
  have:rayL [Z]=Z.toList:=by simp [rayL]
  rw [this];exact h
 ·rw [List.mem_append] at hX
  rcases hX with q | q
  ·exact hs X q
  ·simp at q;rw [q];exact hz
theorem wpList_append_E {ops : Array Oper} {rest : List Oper} {o : Oper} {a : Act} {Q : Exit → Act → World → Prop} (w : World) (hgd : o.guard = none) (s x : Operand)
    (ho:o.op=.call { callee:=.builtin .append,args:=#[s,x],argTypes:=#[119,119] })
    (B:Nat) (v:Value) (L:List Ed) (e:Ed) (hs:a.eval s=v) (hown:OwnE w B v L) (ad:Addr) (hx:a.eval x=.slice (some ad) 1 1)
    (hc:∀j u,e.cells[j]? = some u→w.cell? (ad.add j)=some u) (hl:L.length≤100000) (hB:B≤w.heap.size)
    (h:∀v' w',OwnE w' B v' (L ++ [e])→w.grownBy w' v.ownBlock→wpList Tryz.prog ops Q rest (a.put o.dst v') w'):wpList Tryz.prog ops Q (o :: rest) a w:=by
 obtain ⟨i0,z0,hi,hz0,hz1,hz2,hz3⟩:=edge_parts
 refine wpList_append_own_at w hgd s x 119 ho B 182 i0 z0 4 32 Tryz.underlying119 hi hz0 hz1 hz2 hz3 (by decide) v L.length (edL L) hs hown ad 1 1 e.cells hx rfl hc (ed_one e) ?_ ?_ hB ?_
 ·unfold maxLen;omega
 ·omega
 ·intro v' w' h1 h2 _ _
  refine h v' w' ?_ h2;unfold OwnE;rw [List.length_append,edL_append,edL_cons,edL_nil,List.append_nil];exact h1
def RetE2 (w:World) (L:List Ed) (e:Ending) (w':World):Prop:=∃vE,e=.returned (.tuple #[vE,.nilIface])∧OwnE w' w.heap.size vE L∧Below w.heap.size w w'
theorem graphConnect (w : World) (b p mb : Nat) (S : List Nat) (g : G) (v : Int) (x : Nat) (E : Int → Option (List Ed)) (h : GraphOf w b p mb S g v E) (hE : ∀ z : Int, E z ≠ none ↔ ∃ c : Nat, z = c ∧ g.Corner c) (hx : x < g.n) (hfx : g.b x = false) :
    Calls Tryz.prog 85 #[.pointer (some ⟨b,0,none⟩),.int .i64 (x:Nat)] w (RetE2 w (eUp g x true (cornersI g).length)):=by
 have hok:=h.2.1.1;have hNn:=G.n_le hok
 have kb0:w.cell? ⟨b,0,none⟩=some (.pointer (some ⟨p,0,none⟩)):=by simp [World.cell?,h.1]
 have cF:=Lib.hid (gridFree_in w p g v x h.2.1 hx);rw [hfx] at cF;have H:=Lib.hid h;have HE:=Lib.hid hE;have Hok:=Lib.hid hok;have Hfx:=Lib.hid hfx;obtain ⟨n,hn⟩:∃n,(cornersI g).length=n:=⟨_,rfl⟩
 have hn256:n≤256:=by rw [←hn];exact corners_le hok
 have Hn:=Lib.hid hn;rw [hn];clear h hE hok hfx hn;go_enter Tryz.func85,Tryz.ntmps85;go_wp2_with fail
 (with_reducible refine cF.out.mono ?_)
 rintro e w1 ⟨rfl,hb1⟩;have H1:=Lib.hid (H.out.below hb1);have cN:=Lib.hid (graphNodesC w1 b p mb S g v E H1.out HE.out);have kb0:=bel_cell hb1 kb0;clear cF;go_wp2_with fail
 (with_reducible refine cN.out.mono ?_)
 rintro e W ⟨A,m,rfl,_,hI,_,hbW⟩
 rw [Hn.out] at hI ⊢
 have HW:=bel_trans hb1 hbW;have H2:=Lib.hid (H1.out.below hbW);have HI:=Lib.hid hI;have kb0:=bel_cell hbW kb0;have hbl:b<W.heap.size:=World.block_lt_of_cell? _ _ kb0;have Hkb:=Lib.hid kb0;clear cN hI kb0;go_wp2_with fail
 go_loopw [8,31] (fun lv kv wr=>∃i:Nat,kv=.int .i64 i∧i≤n∧OwnE wr W.heap.size lv (eUp g x true i)∧Below W.heap.size W wr) (fun _ kv _=>n-(intOf kv).toNat)
 case atStart=>exact ⟨0,rfl,by omega,OwnE.nil _ _,Below.refl _ _⟩
 case round=>
  obtain ⟨i,rfl,hi,hO,hB⟩:=hrel;have HO:=Lib.hid hO;have kb0:=bel_cell hB Hkb.out;clear hO
  by_cases hlt:i<n
  ·have hIr:=HI.out.below hB
   obtain ⟨ad,hA⟩:=hIr.addr (by omega)
   rw [hA] at hIr
   have hix:=fun wx=>idx_run (m:=m) hA hlt wx
   have hE:=hIr.cell (Below.refl _ _) hlt
   rw [(cf_at (by rw [Hn.out];exact hlt)).1] at hE
   obtain ⟨y,hy⟩:∃y,cf g i=y:=⟨_,rfl⟩
   have hyc:g.Corner y:=by rw [←hy];exact (cf_at (by rw [Hn.out];exact hlt)).2
   rw [hy] at hE;have Hy:=Lib.hid hy;obtain ⟨hyn,hyf⟩:=corner_free Hok.out hyc;obtain ⟨t,ht⟩:=boolQ (g.Direct x y);have Ht:=Lib.hid ht;have HGr:=Lib.hid (H2.out.2.1.below hB H2.out.2.1.lt);have cD:=Lib.hid (reachDirect_ok wr p g v x y t HGr.out hx hyn Hfx.out hyf ht);have hle:=eUp_len g x true i;have Hyf:=Lib.hid hyf;have Hyc:=Lib.hid hyc;clear hIr hA hy ht hyf hyc;go_wp2_with fail
   (with_reducible refine cD.out.mono ?_)
   rintro e w2 ⟨rfl,hb2⟩;have hB2:=bel_trans hB hb2;have kb0:=bel_cell hb2 kb0
   have hO2:=HO.out.kept (T:=[]) (.of_below hb2) (fun _ _=>by simp)
   have HO2:=Lib.hid hO2;clear cD hO2 HO hE
   cases t with
   | false=>
    have hno:¬g.Direct x y:=fun hh=>by have:=Ht.out.2 hh;cases this
    have hF:=HO2.out
    rw [←eUp_no (g:=g) (ca:=x) (k:=i) (self:=true) (.inl (by rw [Hy.out];exact hno))] at hF
    have hF:=Lib.hid hF;clear hno HO2 Ht;go_wp2
    first
     | exact ⟨⟨i+1,by go_num,by omega,hF.out,hB2⟩,by simp [intOf];omega⟩
     | (go_roundw;(case rel=>exact ⟨i+1,by go_num,by omega,hF.out,hB2⟩);(case measure=>simp [intOf];omega))
   | true=>
    have hyes:g.Direct x y:=Ht.out.1 rfl;obtain ⟨⟨os,od⟩,hox⟩:∃z,g.oct x y=z:=⟨_,rfl⟩;have cO:=Lib.hid (gOctile w2 p g v x y ⟨os,od⟩ (HGr.out.below hb2 HGr.out.lt) hx hyn hox)
    have hlist:=eUp_yes (g:=g) (ca:=x) (k:=i) (self:=true) (by rw [Hy.out];exact hyes) (.inl rfl)
    rw [Hy.out,hox] at hlist;have Hlist:=Lib.hid hlist;clear hyes hox hlist Ht;go_wp2_with fail
    (with_reducible refine cO.out.mono ?_)
    rintro e w3 ⟨rfl,hb3⟩
    have hO3:=Lib.hid (HO2.out.kept (T:=[]) (.of_below hb3) (fun _ _=>by simp))
    have hB3:=bel_trans hB2 hb3;clear cO HO2
    go_wp2_with (at_builtin;(refine wpList_append_E _ rfl _ _ rfl W.heap.size _ _ ⟨(y:Nat),⟨os,od⟩,-1⟩ rfl (hO3.out.kept (T:=[]) (.of_below (bel_alloc (Below.refl _ _))) (fun _ _=>by simp)) ⟨w3.heap.size,0,none⟩ rfl (fun j u hu=>by rw [Addr.add_lit,Nat.zero_add];exact new_edge (alloc_at w3 _ rfl) j u hu) (by omega) (by have:=hB3.size;simp;omega) ?_);intro v' w9 hown9 hgrow)
    have hF:=hown9;rw [←Hlist.out] at hF
    have hB9:Below W.heap.size W w9:=(bel_alloc hB3).grown hgrow (by have:=hB3.size;simp;omega) (fun k hk=>(World.ownsRow.lt hO3.out k hk).1)
    have hF:=Lib.hid hF;clear hown9 hgrow;go_wp2
    first
     | exact ⟨⟨i+1,by go_num,by omega,hF.out,hB9⟩,by simp [intOf];omega⟩
     | (go_roundw;(case rel=>exact ⟨i+1,by go_num,by omega,hF.out,hB9⟩);(case measure=>simp [intOf];omega))
  ·obtain rfl:i=n:=by omega
   have hfin:RetE2 w (eUp g x true i) (.returned (.tuple #[u8,.nilIface])) wr:=⟨_,rfl,HO.out.mono HW.size,bel_trans HW hB⟩;have hfin:=Lib.hid hfin;clear HO;go_wp2;go_ret2;exact hfin.out
def LvOf (w:World) (b ml me:Nat) (S:List Nat) (top:Int) (V:Int→Option Value) (nl:Nat) (E:Int→Option (List Ed)):Prop:=
 w.heap[b]? = some (.cells #[.map (some ml),.map (some me),.int .i64 top] 180 (0,0))∧MapAt iK w ml V nl∧EMap w S me E∧b∉S∧ml∉S∧b≠ml∧b≠me∧ml≠me
theorem LvOf.kept {w w':World} {b ml me nl:Nat} {S T:List Nat} {top:Int} {V:Int→Option Value} {E:Int→Option (List Ed)} (h:LvOf w b ml me S top V nl E) (hk:Kept T w w') (hT:∀k,k∈b :: ml :: me :: S→k∉T):LvOf w' b ml me S top V nl E:=by
 obtain ⟨g1,g2,g3,g4⟩:=h
 exact ⟨(hk.block b (Array.getElem?_eq_some_iff.1 g1).1 (hT b (by simp))).trans g1,g2.kept hk (hT ml (by simp)),g3.kept hk (fun s hs=>hT s (by simp [hs])) (hT me (by simp)),g4⟩
theorem LvOf.below {w w':World} {b ml me nl:Nat} {S:List Nat} {top:Int} {V:Int→Option Value} {E:Int→Option (List Ed)} (h:LvOf w b ml me S top V nl E) (hb:Below w.heap.size w w'):LvOf w' b ml me S top V nl E:=h.kept (T:=[]) (.of_below hb) (fun _ _=>by simp)
def LevOf (V:Int→Option Value) (lev:Int→Int):Prop:=∀z,(V z).getD (.int .i64 0)=.int .i64 (lev z)
def free0 (lev:Int→Int) (L:List Ed):List Ed:=L.filter fun e=>decide (lev e.to_=0)
theorem free0_snoc {lev:Int→Int} {L:List Ed} {i:Nat} {e:Ed} (h:L[i]? = some e):free0 lev (L.take (i+1))=free0 lev (L.take i) ++ (if lev e.to_=0 then [e] else []):=by
 obtain ⟨hi,he⟩:=List.getElem?_eq_some_iff.1 h;unfold free0;rw [List.take_succ_eq_append_getElem hi,List.filter_append,he]
 by_cases q:lev e.to_=0 <;> simp [q]
theorem lvEdges (w : World) (b ml me nl : Nat) (S : List Nat) (top : Int) (V : Int → Option Value) (lev : Int → Int) (E : Int → Option (List Ed)) (c : Int) (L : List Ed) (h : LvOf w b ml me S top V nl E) (hV : LevOf V lev) (hL : E c = some L) (hl : L.length ≤ 100000) :
    Calls Tryz.prog 166 #[.pointer (some ⟨b,0,none⟩),.int .i64 c] w (RetE w (free0 lev L)):=by
 obtain ⟨g1,g2,⟨W3,N,q1,q2,q3,_,_,_,_⟩,_⟩:=h
 have kb0:w.cell? ⟨b,0,none⟩=some (.map (some ml)):=by simp [World.cell?,g1]
 have kb1:w.cell? ⟨b,1,none⟩=some (.map (some me)):=by simp [World.cell?,g1]
 obtain ⟨u,hu⟩:∃u,W3 c=some u:=by
  cases hV:W3 c with
  | none=>rw [(q2 c).2 hV] at hL;cases hL
  | some u=>exact ⟨u,rfl⟩
 obtain ⟨A,cap,rfl,hEd⟩:=(q3 c u L hu hL).eds
 have hlk:(Instr.lookup 137 (.map (some me)) (.int .i64 c) false).run Tryz.prog w=.ok (.slice A L.length cap) w:=by
  have:=(q1.look (int_fit Tryz.underlying3) Tryz.underlying137 (z:=.slice none 0 0) (by simp [Tryz.zeroValue119]) c).2
  rw [hu] at this;exact this
 have hlv:∀w',Below w.heap.size w w'→∀z:Int,(Instr.lookup 142 (.map (some ml)) (.int .i64 z) false).run Tryz.prog w'=.ok (.int .i64 (lev z)) w':=fun w' hb z=>by
  have:=((g2.below hb).look (int_fit Tryz.underlying3) Tryz.underlying142 (z:=.int .i64 0) (by simp [Tryz.zeroValue3]) z).2
  rw [hV z] at this;exact this
 have Hlv:=Lib.hid hlv;have HEd:=Lib.hid hEd;obtain ⟨n,hn⟩:∃n,L.length=n:=⟨_,rfl⟩;rw [hn] at hlk
 have hn1:n≤100000:=by omega
 have Hn:=Lib.hid hn;clear g1 g2 q1 q2 q3 hu hV hlv hEd hn;go_enter Tryz.func166,Tryz.ntmps166;go_wp2_with fail;clear hlk
 go_loopw [5,15] (fun lv kv wr=>∃i:Nat,kv=.int .i64 i∧i≤n∧OwnE wr w.heap.size lv (free0 lev (L.take i))∧Below w.heap.size w wr) (fun _ kv _=>n-(intOf kv).toNat)
 case atStart=>exact ⟨0,rfl,by omega,OwnE.nil _ _,Below.refl _ _⟩
 case round=>
  obtain ⟨i,rfl,hi,hO,hB⟩:=hrel;have HO:=Lib.hid hO;have k0:=bel_cell hB kb0;clear hO
  by_cases hlt:i<n
  ·obtain ⟨e,he⟩:∃e,L[i]? = some e:=⟨L[i]'(by rw [Hn.out];exact hlt),List.getElem?_eq_getElem _⟩
   obtain ⟨gb,hA,a1,a2,a3,a4⟩:=(HEd.out.below hB).get he
   have hix:=fun wx=>idxE (m:=cap) hA hlt wx
   have He:=Lib.hid he;obtain ⟨xt,⟨xs,xd⟩,xm⟩:=e;simp only at a1 a2 a3 a4;clear hA he
   go_upto_region 5 with (fail)
   refine wp_name ?_;intro W hW
   have HW:Below w.heap.size w W:=by rw [hW];exact bel_alloc hB
   have hbW:Below wr.heap.size wr W:=by rw [hW];exact bel_alloc (Below.refl _ _)
   obtain ⟨b7,hb7⟩:∃z,wr.heap.size=z:=⟨_,rfl⟩
   have o0:W.cell? ⟨b7,0,none⟩=some (.int .i64 xt):=by rw [hW,←hb7];go_simp
   have o1:W.cell? ⟨b7,1,none⟩=some (.int .i64 xs):=by rw [hW,←hb7];go_simp
   have o2:W.cell? ⟨b7,2,none⟩=some (.int .i64 xd):=by rw [hW,←hb7];go_simp
   have o3:W.cell? ⟨b7,3,none⟩=some (.int .i64 xm):=by rw [hW,←hb7];go_simp
   have k0:=bel_cell hbW k0
   have HOW:=Lib.hid (HO.out.kept (T:=[]) (.of_below hbW) (fun _ _=>by simp))
   obtain ⟨t,ht⟩:∃t,lev xt=t:=⟨_,rfl⟩
   have hlq:∀n,(Instr.lookup 142 (.map (some ml)) (.int .i64 xt) false).run Tryz.prog (W.drewN n)=.ok (.int .i64 t) (W.drewN n):=fun n=>by rw [←ht];exact Hlv.out _ (bel_drewN HW) xt
   have hsn:=Lib.hid (free0_snoc (lev:=lev) He.out)
   have hlt':(free0 lev (L.take i)).length≤100000:=by
    unfold free0
    have h1:=List.length_filter_le (fun e:Ed=>decide (lev e.to_=0)) (L.take i)
    have h2:(L.take i).length≤n:=by rw [List.length_take,Hn.out];omega
    have:=Hn.out;omega
   have Ht:=Lib.hid ht;rw [hb7];clear hW hb7 hbW HO a1 a2 a3 a4 hix hB ht
   by_cases ht0:t=0
   ·subst ht0
    have hd:((0:Int) == 0)=true:=rfl;have hlist:=hsn.out
    rw [if_pos (show lev (Ed.mk xt ⟨xs,xd⟩ xm).to_=0 from Ht.out)] at hlist
    have Hlist:=Lib.hid hlist;clear hlist hsn;go_quiet (fail);have o0:=bel_cell (bel_drewN (n:=nq) (Below.refl W.heap.size W)) o0;have o1:=bel_cell (bel_drewN (n:=nq) (Below.refl W.heap.size W)) o1;have o2:=bel_cell (bel_drewN (n:=nq) (Below.refl W.heap.size W)) o2;have o3:=bel_cell (bel_drewN (n:=nq) (Below.refl W.heap.size W)) o3;have HB5:Below w.heap.size w (W.drewN nq):=bel_drewN HW
    have HO5:=Lib.hid (HOW.out.kept (w':=W.drewN nq) (T:=[]) (.of_below (bel_drewN (Below.refl _ _))) (fun _ _=>by simp))
    clear hlq k0 HOW HW
    generalize W.drewN nq=w5 at o0 o1 o2 o3 HB5 HO5 ⊢
    go_wp2_with (at_builtin;(refine wpList_append_E _ rfl _ _ rfl w.heap.size _ _ ⟨xt,⟨xs,xd⟩,xm⟩ rfl (HO5.out.kept (T:=[]) (.of_below (bel_alloc (Below.refl _ _))) (fun _ _=>by simp)) ⟨w5.heap.size,0,none⟩ rfl (fun j u hu=>by rw [Addr.add_lit,Nat.zero_add];exact new_edge (alloc_at w5 _ rfl) j u hu) hlt' (by have:=HB5.size;simp;omega) ?_);intro v' w9 hown9 hgrow)
    have hF:=hown9;rw [←Hlist.out] at hF
    have hB9:Below w.heap.size w w9:=(bel_alloc HB5).grown hgrow (by have:=HB5.size;simp;omega) (fun k hk=>(World.ownsRow.lt HO5.out k hk).1)
    have hF:=Lib.hid hF;clear hown9 hgrow;go_wp2
    first
     | exact ⟨⟨i+1,by go_num,by omega,hF.out,hB9⟩,by simp [intOf];omega⟩
     | (go_roundw;(case rel=>exact ⟨i+1,by go_num,by omega,hF.out,hB9⟩);(case measure=>simp [intOf];omega))
   ·have hd:(t == 0)=false:=by simpa using ht0
    have hlist:=hsn.out
    rw [if_neg (show ¬lev (Ed.mk xt ⟨xs,xd⟩ xm).to_=0 by show ¬lev xt=0;rw [Ht.out];exact ht0),List.append_nil] at hlist
    have Hlist:=Lib.hid hlist;clear hlist hsn;go_quiet (fail);have HB5:Below w.heap.size w (W.drewN nq):=bel_drewN HW
    have hF:=HOW.out.kept (w':=W.drewN nq) (T:=[]) (.of_below (bel_drewN (Below.refl _ _))) (fun _ _=>by simp)
    rw [←Hlist.out] at hF;have hF:=Lib.hid hF;clear hlq k0 HOW HW o0 o1 o2 o3;go_wp2
    first
     | exact ⟨⟨i+1,by go_num,by omega,hF.out,HB5⟩,by simp [intOf];omega⟩
     | (go_roundw;(case rel=>exact ⟨i+1,by go_num,by omega,hF.out,HB5⟩);(case measure=>simp [intOf];omega))
  ·obtain rfl:i=n:=by omega
   have hF:=HO.out
   rw [List.take_of_length_le (by rw [Hn.out];exact Nat.le_refl _)] at hF
   have hfin:RetE w (free0 lev L) (.returned u5) wr:=⟨_,rfl,hF,hB⟩;have hfin:=Lib.hid hfin;clear HO hF k0;go_wp2;go_ret;exact hfin.out
def NodL (W:World) (ml r:Nat) (V:Int→Option Value) (lev:Int→Int) (lv:Value) (wr:World):Prop:=
 ∃left cnt zs,RangeAt iK wr ml r V left cnt∧OwnI wr (r+1) lv zs∧zs.Nodup∧(∀z,z∈zs↔(V z≠none∧lev z=0)∧¬left z)∧Below W.heap.size W wr
theorem lvLeft (w : World) (b mb me nl : Nat) (S : List Nat) (top : Int) (V : Int → Option Value) (lev : Int → Int) (E : Int → Option (List Ed)) (M : List Int) (h : LvOf w b mb me S top V nl E) (hV : ∀ z u, V z = some u → u = .int .i64 (lev z))
    (hM:M.Pairwise (· < ·)) (hm:∀z,z∈M↔V z≠none∧lev z=0) (hb:∀z,V z≠none→0≤z∧z<256) :
    Calls Tryz.prog 165 #[.pointer (some ⟨b,0,none⟩)] w (RetIntsC w M):=by
 obtain ⟨g1,q1,_⟩:=h
 have kb1:w.cell? ⟨b,0,none⟩=some (.map (some mb)):=by simp [World.cell?,g1]
 have hmlt:=q1.lt;have HVV:=Lib.hid hV;have HMs:=Lib.hid hM;have HMm:=Lib.hid hm;have Hb:=Lib.hid hb;clear g1 hV hM hm hb;go_enter Tryz.func165,Tryz.ntmps165;go_wp2_with (at_range;refine wpList_rangeM rfl _ rfl iK_inj Tryz.underlying142 q1 rfl ?_;intro w1 hrg hb1 hs1);go_frame;obtain ⟨r,hr⟩:∃z,w.heap.size=z:=⟨_,rfl⟩
 rw [hr] at hrg ⊢
 have hstart:NodL w mb r V lev (.slice none 0 0) w1:=⟨_,_,[],hrg,OwnI.nil _ _,by simp,fun z=>by simp;intro h _;exact h,hb1⟩
 have hbound:∀zs:List Int,zs.Nodup→(∀z∈zs,V z≠none)→zs.length≤256:=fun zs h1 h2=>nodup_len h1 (fun z hz=>Hb.out z (h2 z hz))
 have Hbound:=Lib.hid hbound
 have hrw:w.heap.size≤r:=by omega
 have hmr:mb<r:=by omega
 clear hrg hb1 hs1 q1 kb1 hbound hr
 go_loopw [3] (fun lv wr=>NodL w mb r V lev lv wr) (fun _ wr=>wr.rangeLeft mb r)
 case atStart=>exact hstart
 case round=>
  obtain ⟨left,cnt,zs,hrg,hO,hnd,hmem,hB⟩:=hrel;clear hstart;have hleft:=Lib.hid hrg.left_eq;have Hnd:=Lib.hid hnd;have Hmem:=Lib.hid hmem
  have hl256:=Hbound.out zs hnd (fun z hz=>((hmem z).1 hz).1.1)
  clear hnd hmem;go_wp2_with (at_next;refine wpList_nextM rfl _ rfl iK_inj hrg rfl ?_ ?_)
  ·intro h0 hl
   have hall:∀z,z∈zs↔z∈M:=fun z=>by
    rw [Hmem.out z,and_iff_left (hl z),HMm.out z]
   have hsort:=sort_rising Hnd.out HMs.out hall;have Hsort:=Lib.hid hsort
   have cS:=Lib.hid (intsSort wr (r+1) _ zs hO (by omega) (by have:=hrg.lt.2;omega))
   clear hl hall hsort hrg;go_wp2_with fail
   (with_reducible refine cS.out.mono ?_)
   rintro e w2 ⟨rfl,hO2,hb2⟩;rw [Hsort.out] at hO2
   have hBE:Below w.heap.size w w2:=hB.trans (hb2.mono (by omega))
   have hfin:=Lib.hid (ret_intsC (OwnI.mono hO2 (by omega)) hBE)
   clear hO2 hb2 hBE;go_wp2;go_ret;exact hfin.out
  ·intro k u w4 cnt4 hk hlk hrg4 hlt4 hK4 hs4 hen
   obtain rfl:=HVV.out k u hk
   have hO4:=hO.keptAt (S:=[r]) hK4 (by simp)
   have hB4:Below w.heap.size w w4:=Kept.below hB hK4 hB.size (by simp;omega)
   have hrl:=hrg4.lt;have Hrg4:=Lib.hid hrg4
   have hs4r:r+1≤w4.heap.size:=by omega
   by_cases ht0:lev k=0
   ·have hkz:k∉zs:=fun h=>((Hmem.out k).1 h).2 hlk
    have hnd2:(zs ++ [k]).Nodup:=by
     rw [List.nodup_append]
     exact ⟨Hnd.out,by simp,fun a ha b hb=>by simp at hb;subst hb;intro e;subst e;exact hkz ha⟩
    have hmem2:∀z,z∈zs ++ [k]↔(V z≠none∧lev z=0)∧¬(left z∧¬z=k):=fun z=>by
     rw [List.mem_append,Hmem.out z,List.mem_singleton]
     constructor
     ·rintro (⟨a,c⟩ | rfl)
      ·exact ⟨a,fun h=>c h.1⟩
      ·exact ⟨⟨by rw [hk];simp,ht0⟩,fun h=>h.2 rfl⟩
     ·rintro ⟨a,c⟩
      by_cases e:z=k
      ·exact .inr e
      ·exact .inl ⟨a,fun h=>c ⟨h,e⟩⟩
    have Hnd2:=Lib.hid hnd2;have Hmem2:=Lib.hid hmem2
    rw [ht0] at hen ⊢
    rw [show iK k=.int .i64 k from rfl] at hen ⊢
    clear hrg hO hB hkz hnd2 hmem2 hrg4 hlk hk hs4
    go_wp2_with (at_builtin;(refine wpList_append_int _ rfl _ _ rfl (r+1) _ _ _ rfl (hO4.alloc _) ⟨w4.heap.size,0,none⟩ rfl (cell1_new _ _ _) (by omega) (by simp;omega) ?_);intro v' w9 hown9 hgrow)
    have hB9:=below_grown (hB4.alloc (by omega) _) (by simp;omega) ((OwnI.mono hO4 (show w.heap.size≤r+1 by omega)).alloc _) hgrow
    have hrow:∀q,_=some q→r+1≤q:=fun q hq=>(World.ownsRow.lt hO4 q hq).1
    have hrg9:=(Hrg4.out.below (bel_alloc (Below.refl _ _))).kept (w':=w9) (S:=(Value.ownBlock _).toList) ⟨hgrow.os,hgrow.tape,hgrow.output,hgrow.size,fun q hq hn=>hgrow.block q hq (fun e=>hn (by rw [←e];simp))⟩
     (by intro hh;rw [Option.mem_toList] at hh;have:=hrow _ hh;omega) (by intro hh;rw [Option.mem_toList] at hh;have:=hrow _ hh;omega)
    have hfin:NodL w mb r V lev v' w9:=⟨_,cnt4,_,hrg9,hown9,Hnd2.out,Hmem2.out,hB9⟩;have hle:=hrg9.left_eq;have hle:=Lib.hid hle;have hfin:=Lib.hid hfin;clear hown9 hgrow hO4 hB9 hrg9 hrow hen;go_wp2;go_roundw
    case rel=>first | exact hfin.out | ((repeat apply Exists.intro);exact ⟨hfin.out,rfl⟩)
    case measure=>rw [hleft.out,hle.out];exact hlt4
   ·have hmem2 : ∀ z, z ∈ zs ↔ (V z ≠ none ∧ lev z = 0) ∧ ¬ (left z ∧ ¬ z = k) := fun z => by
      rw [Hmem.out z]
      constructor
      ·rintro ⟨a,c⟩;exact ⟨a,fun h=>c h.1⟩
      ·rintro ⟨a,c⟩
       refine ⟨a,fun h=>c ⟨h,fun e=>?_⟩⟩
       subst e;exact ht0 a.2
    obtain ⟨t,ht⟩:∃t,lev k=t:=⟨_,rfl⟩
    rw [ht] at hen ht0 ⊢
    rw [show iK k=.int .i64 k from rfl] at hen ⊢
    have hd:(t == 0)=false:=by simpa using ht0
    have hfin:NodL w mb r V lev _ w4:=⟨_,cnt4,_,Hrg4.out,hO4,Hnd.out,hmem2,hB4⟩;have hle:=Lib.hid Hrg4.out.left_eq;have hfin:=Lib.hid hfin;clear hrg hO hB hmem2 hrg4 hlk hk hs4 hO4 hB4 ht;go_wp2;go_roundw
    case rel=>first | exact hfin.out | ((repeat apply Exists.intro);exact ⟨hfin.out,rfl⟩)
    case measure=>rw [hleft.out,hle.out];exact hlt4
end Go.Proofs.YtokhnobcincfjaaGreatDoor
namespace Go.Proofs.YtokhnobcincfjaaGreatDoor
open Go.RowKit Go.Sort FR
theorem lvPutCl (w : World) (e : Ed) (t : Int) (h1 : inC e.to_) (h2 : inC t) :
    Calls Tryz.prog 220 #[.agg #[.int .i64 e.to_,.int .i64 e.c.s,.int .i64 e.c.d,.int .i64 e.mid],.int .i64 t] w fun r w'=>r=.returned (.int .i64 (e.to_-t))∧Below w.heap.size w w':=by
 obtain ⟨x,⟨s,d⟩,m⟩:=e
 simp only at h1 ⊢
 unfold inC at h1 h2
 have hw:IntKind.i64.wrap (x-t)=x-t:=IntWalk.i64_in _ (by omega)
 go_enter Tryz.func220,Tryz.ntmps220;go_wp2;go_ret
 exact ⟨rfl,by (repeat' (first | exact Below.refl _ _ | assumption | apply bel_drewN | apply bel_drew | apply bel_alloc | (refine bel_trans ?_ (by assumption))))⟩
theorem lvBin (w : World) (A : Option Addr) (n cap : Nat) (L : List Ed) (t : Int)
    (h:EdsAt w A L) (hn:L.length=n) (hs:Srt L) (hb:∀e∈L,inC e.to_) (ht:inC t) (hl:n≤100000) :
    Calls Tryz.prog 216 #[.slice A n cap,.int .i64 t,.func (.func 220) #[] #[]] w (BinD w L t):=by
 have hs:=Lib.hid hs;have hb:=Lib.hid hb;have Hn:=Lib.hid hn;have h:=Lib.hid h;clear hn;go_enter Tryz.func216,Tryz.ntmps216;go_wp2_with fail
 go_loopw [9,10] (fun iv jv wr=>∃i j:Nat,iv=.int .i64 i∧jv=.int .i64 j∧i≤j∧j≤n∧(∀k e,L[k]? = some e→k<i→e.to_<t)∧(∀k e,L[k]? = some e→j≤k→t≤e.to_)∧Below w.heap.size w wr) (fun iv jv _=>(intOf jv).toNat-(intOf iv).toNat)
 case atStart=>exact ⟨0,n,rfl,rfl,by omega,by omega,fun k e _ h=>by omega,fun k e hk hj=>by have:=(List.getElem?_eq_some_iff.1 hk).1;have:=Hn.out;omega,Below.refl _ _⟩
 case round=>
  obtain ⟨i,j,rfl,rfl,hij,hjn,h1,h2,HB⟩:=hrel;have h1:=Lib.hid h1;have h2:=Lib.hid h2
  by_cases hlt:i<j
  ·have hw1:IntKind.i64.wrap ((i:Int)+(j:Int))=(i:Int)+(j:Int):=IntWalk.i64_in _ (by omega)
   go_upto_region 5 with (fail)
   have hmm:((i:Int)+(j:Int)) / 2=(((i+j) / 2:Nat):Int):=by omega
   have hm1:i≤(i+j) / 2:=by omega
   have hm2:(i+j) / 2<j:=by omega
   rw [hmm];obtain ⟨m,hm⟩:∃m,(i+j) / 2=m:=⟨_,rfl⟩
   rw [hm] at hm1 hm2 ⊢
   clear hm hmm hw1
   have hmn:m<n:=by omega
   obtain ⟨e,he⟩:∃e,L[m]? = some e:=⟨L[m]'(by rw [Hn.out];exact hmn),List.getElem?_eq_getElem _⟩
   have He:=Lib.hid he;obtain ⟨g,hA,a1,a2,a3,a4⟩:=(h.out.below HB).get he
   have hix:=fun wx=>idxE (m:=cap) hA hmn wx
   have cF:=Lib.hid (lvPutCl wr e t (hb.out e (List.mem_of_getElem? he)) ht);have hin:inC e.to_:=hb.out e (List.mem_of_getElem? he)
   have hk1:e.to_<t→∀k x,L[k]? = some x→k<m+1→x.to_<t:=fun hl k x hx hk=>by
    by_cases e1:k=m
    ·subst e1;rw [hx] at he;injection he with he;rw [he];exact hl
    ·exact Int.lt_trans (hs.out k m x e (by omega) hx he) hl
   have hk2:t≤e.to_→∀k x,L[k]? = some x→m≤k→t≤x.to_:=fun hl k x hx hk=>by
    by_cases e1:k=m
    ·subst e1;rw [hx] at he;injection he with he;rw [he];exact hl
    ·have:=hs.out m k e x (by omega) he hx
     omega
   have hk1:=Lib.hid hk1;have hk2:=Lib.hid hk2;obtain ⟨x,hx⟩:∃x,e.to_=x:=⟨_,rfl⟩;rw [hx] at a1 cF hin hk1 hk2;obtain ⟨xs,hxs⟩:∃x,e.c.s=x:=⟨_,rfl⟩;obtain ⟨xd,hxd⟩:∃x,e.c.d=x:=⟨_,rfl⟩;obtain ⟨xm,hxm⟩:∃x,e.mid=x:=⟨_,rfl⟩;rw [hxs] at a2 cF;rw [hxd] at a3 cF;rw [hxm] at a4 cF;clear hA he hx hxs hxd hxm;go_wp2_with fail
   (with_reducible refine cF.out.mono ?_)
   rintro r w2 ⟨rfl,hb2⟩;have HB2:=bel_trans HB hb2;clear a1 a2 a3 a4 cF hix;unfold inC at hin
   by_cases hxt:x<t
   ·have hd:decide (x-t<0)=true:=by simp;omega
    have hk1:=Lib.hid (hk1.out hxt)
    have hwm:IntKind.i64.wrap ((m:Int)+1)=((m+1:Nat):Int):=by rw [IntWalk.i64_in _ (by omega)];omega
    clear hk2;go_wp2;go_roundw
    case rel=>exact ⟨m+1,j,rfl,rfl,by omega,by omega,hk1.out,h2.out,HB2⟩
    case measure=>simp [intOf];omega
   ·have hd:decide (x-t<0)=false:=by simp;omega
    have hk2:=Lib.hid (hk2.out (by omega))
    clear hk1;go_wp2;go_roundw
    case rel=>exact ⟨i,m,rfl,rfl,by omega,by omega,h1.out,hk2.out,HB2⟩
    case measure=>simp [intOf];omega
  ·obtain rfl:i=j:=by omega
   have hcut:∀k x,L[k]? = some x→(k<i↔x.to_<t):=fun k x hx=>by
    constructor
    ·exact fun hk=>h1.out k x hx hk
    ·intro hl
     by_cases hk:k<i
     ·exact hk
     ·have:=h2.out k x hx (by omega)
      omega
   have Hcut:=Lib.hid hcut;clear hcut;clear h1 h2
   by_cases hin:i<n
   ·obtain ⟨e,he⟩:∃e,L[i]? = some e:=⟨L[i]'(by rw [Hn.out];exact hin),List.getElem?_eq_getElem _⟩
    obtain ⟨g,hA,a1,a2,a3,a4⟩:=(h.out.below HB).get he
    have hix:=fun wx=>idxE (m:=cap) hA hin wx
    have cF:=Lib.hid (lvPutCl wr e t (hb.out e (List.mem_of_getElem? he)) ht);have hinx:inC e.to_:=hb.out e (List.mem_of_getElem? he);obtain ⟨fd,hfd⟩:∃fd,(e.to_-t == 0)=fd:=⟨_,rfl⟩
    have hfin:fd=true↔∃x,L[i]? = some x∧x.to_=t:=by
     rw [←hfd,he];simp;omega
    have Hfin:=Lib.hid hfin;clear hfin;have Hfd:=Lib.hid hfd;obtain ⟨x,hx⟩:∃x,e.to_=x:=⟨_,rfl⟩;rw [hx] at a1 cF Hfd;obtain ⟨xs,hxs⟩:∃x,e.c.s=x:=⟨_,rfl⟩;obtain ⟨xd,hxd⟩:∃x,e.c.d=x:=⟨_,rfl⟩;obtain ⟨xm,hxm⟩:∃x,e.mid=x:=⟨_,rfl⟩;rw [hxs] at a2 cF;rw [hxd] at a3 cF;rw [hxm] at a4 cF
    have q:(i:Int)<(n:Int):=by omega
    clear hA he hx hxs hxd hxm hfd hinx;go_wp2_with fail
    (with_reducible refine cF.out.mono ?_)
    rintro r w2 ⟨rfl,hb2⟩;have HB2:=bel_trans HB hb2;clear a1 a2 a3 a4 cF hix hb2
    have hret:BinD w L t (.returned (.tuple #[.int .i64 (i:Nat),.bool fd])) w2:=⟨i,fd,rfl,by rw [Hn.out];omega,Hcut.out,Hfin.out,HB2⟩
    rw [←Hfd.out] at hret;have Hret:=Lib.hid hret;clear hret;go_wp2;go_ret2;exact Hret.out
   ·obtain rfl:i=n:=by omega
    have hfin:false=true↔∃x,L[i]? = some x∧x.to_=t:=by
     rw [List.getElem?_eq_none (by rw [Hn.out];omega)]
     simp
    have Hfin:=Lib.hid hfin;clear hfin
    have hret:BinD w L t (.returned (.tuple #[.int .i64 (i:Nat),.bool false])) wr:=⟨i,false,rfl,by rw [Hn.out];omega,Hcut.out,Hfin.out,HB⟩
    have Hret:=Lib.hid hret;clear hret;go_wp2;go_ret2;exact Hret.out
theorem lvBin2 (w : World) (A : Option Addr) (n cap : Nat) (L : List Ed) (t : Int) (h : EdsAt w A L) (hn : L.length = n) (hs : Srt L) (hb : ∀ e ∈ L, inC e.to_) (ht : inC t) (hl : n ≤ 100000) :
    Calls Tryz.prog 216 #[.slice A n cap,.int .i64 t,.func (.func 220) #[] #[]] w fun r w'=>r=.returned (.tuple #[.int .i64 (lowN L t:Nat),.bool (hasE L t)])∧Below w.heap.size w w':=by
 refine (lvBin w A n cap L t h hn hs hb ht hl).mono ?_;rintro r w' ⟨i,fd,rfl,h1,h2,h3,h4⟩;have e:=low_of h1 h2;subst e;rw [has_at hs] at h3;have e2:fd=hasE L t:=Bool.eq_iff_iff.2 h3;rw [e2];exact ⟨rfl,h4⟩
theorem lvPut (w : World) (S : List Nat) (b ml mb : Nat) (top : Int) (E : Int → Option (List Ed)) (a : Int) (x : Ed) (L : List Ed) (hb : w.heap[b]? = some (.cells #[.map (some ml), .map (some mb), .int .i64 top] 180 (0, 0))) (hE : EMap w S mb E) (hbS : b ∉ S) (hbm : b ≠ mb)
    (hL:E a=some L) (hs:Srt L) (hin:∀e∈L,inC e.to_) (hx:inC x.to_) (hl:L.length≤1000) :
    Calls Tryz.prog 168 #[.pointer (some ⟨b,0,none⟩),.int .i64 a,.agg #[.int .i64 x.to_,.int .i64 x.c.s,.int .i64 x.c.d,.int .i64 x.mid]] w (PutD w S mb (updE E a (some (putS L x)))):=by
 have hmlt:=hE.lt;obtain ⟨V,N,h1,h2,h3,h4,h5,h6,h7⟩:=hE
 obtain ⟨u,hu⟩:∃u,V a=some u:=by
  cases hV:V a with
  | none=>rw [(h2 a).2 hV] at hL;cases hL
  | some u=>exact ⟨u,rfl⟩
 have hO:=h3 a u L hu hL
 have hqS:∀q,u.ownBlock=some q→q∈S:=fun q hq=>h4 a u q hu hq
 obtain ⟨A,cap,rfl,hEd⟩:=hO.eds;have hbl:b<w.heap.size:=(Array.getElem?_eq_some_iff.1 hb).1
 have hlk:∀w',Below w.heap.size w w'→(Instr.lookup 137 (.map (some mb)) (.int .i64 a) false).run Tryz.prog w'=.ok (.slice A L.length cap) w':=fun w' hbw=>by
  have:=((h1.below hbw).look (int_fit Tryz.underlying3) Tryz.underlying137 (z:=.slice none 0 0) (by simp [Tryz.zeroValue119]) a).2
  rw [hu] at this;exact this
 obtain ⟨xt,⟨xs,xd⟩,xm⟩:=x
 simp only at hx ⊢
 have H1:=Lib.hid h1;have H2:=Lib.hid h2;have H3:=Lib.hid h3;have H4:=Lib.hid h4;have H6:=Lib.hid h6;have H7:=Lib.hid h7;have HO:=Lib.hid hO;have Hu:=Lib.hid hu;have HqS:=Lib.hid hqS;have Hlk:=Lib.hid hlk;obtain ⟨i,hi⟩:∃i,lowN L xt=i:=⟨_,rfl⟩;obtain ⟨fd,hfd⟩:∃i,hasE L xt=i:=⟨_,rfl⟩
 have hil:i≤L.length:=by rw [←hi];exact (low_spec hs xt).1
 have cB:=Lib.hid (fun w' (hb':Below w.heap.size w w')=>(show Calls Tryz.prog 216 #[.slice A L.length cap,.int .i64 xt,.func (.func 220) #[] #[]] w' fun r w2=>r=.returned (.tuple #[.int .i64 (i:Nat),.bool fd])∧Below w'.heap.size w' w2 by
  have:=lvBin2 w' A L.length cap L xt (hEd.below hb') rfl hs hin hx (by omega)
  rw [hi,hfd] at this;exact this))
 have hins:insS L ⟨xt,⟨xs,xd⟩,xm⟩=L.take i ++ (⟨xt,⟨xs,xd⟩,xm⟩:Ed) :: L.drop i:=by unfold insS;rw [←hi]
 have hput:putS L ⟨xt,⟨xs,xd⟩,xm⟩=if fd=true then L.set i ⟨xt,⟨xs,xd⟩,xm⟩ else L.take i ++ (⟨xt,⟨xs,xd⟩,xm⟩:Ed) :: L.drop i:=by
  unfold putS;rw [hins];simp only [hfd,hi]
 rw [hput];have Hfd:=Lib.hid hfd;have Hi:=Lib.hid hi;have HsL:=Lib.hid hs;obtain ⟨n,hn⟩:∃n,L.length=n:=⟨_,rfl⟩;rw [hn] at hl hil HO HqS Hu Hlk cB;have Hn:=Lib.hid hn;have HB0:=Lib.hid hb
 have kb1:w.cell? ⟨b,1,none⟩=some (.map (some mb)):=by simp [World.cell?,hb]
 have hx:=Lib.hid hx;clear h1 h2 h3 h4 h6 h7 hO hu hqS hlk hEd hi hfd hins hin hs hL hn hb;go_enter Tryz.func168,Tryz.ntmps168
 go_upto_region 1 with (fail)
 refine wp_name ?_;intro W hW
 have HW:Below w.heap.size w W:=by rw [hW];(repeat' (first | exact Below.refl _ _ | assumption | apply bel_drewN | apply bel_drew | apply bel_alloc | (refine bel_trans ?_ (by assumption))))
 have c0:W.cell? ⟨w.heap.size,0,none⟩=some (.int .i64 xt):=by rw [hW];go_simp
 have c1:W.cell? ⟨w.heap.size,1,none⟩=some (.int .i64 xs):=by rw [hW];go_simp
 have c2:W.cell? ⟨w.heap.size,2,none⟩=some (.int .i64 xd):=by rw [hW];go_simp
 have c3:W.cell? ⟨w.heap.size,3,none⟩=some (.int .i64 xm):=by rw [hW];go_simp
 obtain ⟨b5,hb5⟩:∃z,w.heap.size=z:=⟨_,rfl⟩
 have hbb5:b≠b5:=by omega
 have hmb5:mb≠b5:=by omega
 have hSb5:∀q,(Value.slice A n cap).ownBlock=some q→q≠b5:=fun q hq=>by have:=HO.out.lt hq;omega
 have HSb5:=Lib.hid hSb5
 rw [hb5] at c0 c1 c2 c3 ⊢
 have k1:=bel_cell HW kb1
 have hlq:∀d os,(Instr.lookup 137 (.map (some mb)) (.int .i64 a) false).run Tryz.prog (grow (redrawn W d) os)=.ok (.slice A n cap) (grow (redrawn W d) os):=fun d os=>Hlk.out _ (bel_trans HW (below_regrown W d os))
 have c0q:=cell_regrown c0;have k1q:=cell_regrown k1;have HX:=Below.refl W.heap.size W;clear hW kb1 hSb5
 refine wp_region_quiet_below (by kernel_rfl) (by kernel_rfl) ?_
 repeat (first | go_big_quiet_step ((with_reducible exact Calls.regrown_of (cB.out _ (bel_trans HW (below_regrown W _ _))))) | quiet_step ((with_reducible exact Calls.regrown_of (cB.out _ (bel_trans HW (below_regrown W _ _))))))
 refine wpQuiet_nil ?_;intro _ hw';obtain ⟨⟨dq,osq⟩,hw''⟩:=hw';have HY:=bel_trans HX (below_regrown W dq osq);have hb2:=below_regrown W dq osq;subst hw''
 generalize grow (redrawn W dq) osq=W2 at HY hb2 ⊢
 have c0:=bel_cell HY c0;have c1:=bel_cell HY c1;have c2:=bel_cell HY c2;have c3:=bel_cell HY c3;have k1:=bel_cell HY k1;have HB2:=bel_trans HW HY;clear c0q k1q hlq HX hb2 HY
 cases fd with
 | true =>
     have hhas:hasE L xt=true:=Hfd.out;rw [if_pos rfl]
     have hiln:i<n:=by
      obtain ⟨e,he,_⟩:=(has_at HsL.out xt).2 hhas;have:=(List.getElem?_eq_some_iff.1 he).1;rw [Hi.out] at this;have:=Hn.out;omega
     obtain ⟨gb,rfl,hrow⟩:∃gb,A=some ⟨gb,0,none⟩∧RowE w gb cap n L:=by
      rcases HO.out.2 with ⟨_,h0⟩ | ⟨gb,cap',cur,e0,_,hg,hnc,hcm,hcs,htake⟩
      ·have:=Hn.out;omega
      ·injection e0 with e1 e2 e3
       subst e3
       exact ⟨gb,e1,cur,hg,hcs,by have:=Hn.out;omega,hcm,Hn.out,by have:=Hn.out;rw [←this];exact htake⟩
     have hgS:gb∈S:=HqS.out gb rfl
     have hgb:b≠gb:=fun e=>hbS (e▸hgS)
     have hgm:gb≠mb:=fun e=>h5 (e▸hgS)
     have hg5:b5≠gb:=fun e=>HSb5.out gb rfl e.symm
     have hrow2:=hrow.below HB2
     have hx0:L[i]? = some (L[i]'(by have:=Hn.out;omega)):=List.getElem?_eq_getElem _
     obtain ⟨p1,p2,p3,p4⟩:=hrow2.get hx0
     obtain ⟨f1,f2,f3,f4⟩:W2.frozen? ⟨gb,i*4,none⟩=false∧W2.frozen? ⟨gb,i*4+1,none⟩=false∧W2.frozen? ⟨gb,i*4+2,none⟩=false∧W2.frozen? ⟨gb,i*4+3,none⟩=false:=by
      obtain ⟨cur,q1,_⟩:=hrow2;simp [World.frozen?,q1]
     have hl1:(Instr.lookup 137 (.map (some mb)) (.int .i64 a) false).run Tryz.prog W2.drew=.ok (.slice (some ⟨gb,0,none⟩) n cap) W2.drew:=Hlk.out _ (bel_drew HB2)
     have hix:=fun wx=>idxE (A:=some ⟨gb,0,none⟩) (m:=cap) (n:=n) (k:=i) rfl hiln wx
     have hrow3:RowE W2.drew gb cap n L:=hrow.below (bel_drew HB2);have hset:=hrow3.set hiln ⟨xt,⟨xs,xd⟩,xm⟩
     have hK:Kept [gb] W2.drew ((((W2.drew.setCell ⟨gb,i*4,none⟩ (.int .i64 xt)).setCell ⟨gb,i*4+1,none⟩ (.int .i64 xs)).setCell ⟨gb,i*4+2,none⟩ (.int .i64 xd)).setCell ⟨gb,i*4+3,none⟩ (.int .i64 xm)):=((((Kept.refl _ _).setCell (.inl (by simp))).setCell (.inl (by simp))).setCell (.inl (by simp))).setCell (.inl (by simp))
     have HR:=Lib.hid (And.intro hset hK);clear hrow hrow2 hrow3 hset hK hx0 hhas
     go_upto_region 3 with (fail)
     go_region
     have hV:updK V a (some (.slice (some ⟨gb,0,none⟩) n cap))=V:=by
      funext z;unfold updK;split
      ·rename_i e;rw [e,Hu.out]
      ·rfl
     have hOI:OwnE ((((W2.drew.setCell ⟨gb,i*4,none⟩ (.int .i64 xt)).setCell ⟨gb,i*4+1,none⟩ (.int .i64 xs)).setCell ⟨gb,i*4+2,none⟩ (.int .i64 xd)).setCell ⟨gb,i*4+3,none⟩ (.int .i64 xm)) 0 (.slice (some ⟨gb,0,none⟩) n cap) (L.set i ⟨xt,⟨xs,xd⟩,xm⟩):=by
      obtain ⟨cur,q1,q2,q3,q4,q5,q6⟩:=HR.out.1;have hls:(L.set i ⟨xt,⟨xs,xd⟩,xm⟩).length=n:=q5
      exact ⟨by rw [edL_length],.inr ⟨gb,cap,cur,by rw [hls],Nat.zero_le _,q1,by rw [hls];exact q3,q4,q2,by rw [hls];exact q6⟩⟩
     have hGI:W2.drew.grownBy ((((W2.drew.setCell ⟨gb,i*4,none⟩ (.int .i64 xt)).setCell ⟨gb,i*4+1,none⟩ (.int .i64 xs)).setCell ⟨gb,i*4+2,none⟩ (.int .i64 xd)).setCell ⟨gb,i*4+3,none⟩ (.int .i64 xm)) (some gb):=⟨HR.out.2.os,HR.out.2.tape,HR.out.2.output,HR.out.2.size,fun k hk hn=>HR.out.2.block k hk (by simp;exact fun e=>hn (by rw [e]))⟩
     have hMW:MapAt iK ((((W2.drew.setCell ⟨gb,i*4,none⟩ (.int .i64 xt)).setCell ⟨gb,i*4+1,none⟩ (.int .i64 xs)).setCell ⟨gb,i*4+2,none⟩ (.int .i64 xd)).setCell ⟨gb,i*4+3,none⟩ (.int .i64 xm)) mb (updK V a (some (.slice (some ⟨gb,0,none⟩) n cap))) N:=by
      rw [hV]
      exact (H1.out.below (bel_drew HB2)).kept HR.out.2 (by simp;exact Ne.symm hgm)
     have hfin:=EMap.put (w:=w) (w1:=W2.drew) H1.out H2.out H3.out H4.out h5 H6.out H7.out Hu.out (bel_drew HB2) hOI hGI (.inl rfl) hMW (Kept.refl _ _);have hfin:=Lib.hid hfin;clear hOI hGI hMW hV;clear p1 p2 p3 p4 f1 f2 f3 f4;go_wp2;go_end0;exact ⟨rfl,hfin.out⟩
 | false =>
     go_upto_region 4 with (fail)
     obtain ⟨o,ho⟩:∃o,Obj.cells #[Value.int .i64 xt,Value.int .i64 xs,Value.int .i64 xd,Value.int .i64 xm] 182 (0,0)=o:=⟨_,rfl⟩;have hl1:(Instr.lookup 137 (.map (some mb)) (.int .i64 a) false).run Tryz.prog W2.drew=.ok (.slice A n cap) W2.drew:=Hlk.out _ (bel_drew HB2)
     have hl2:∀o,(Instr.lookup 137 (.map (some mb)) (.int .i64 a) false).run Tryz.prog (W2.alloc o).drew=.ok (.slice A n cap) (W2.alloc o).drew:=fun o=>Hlk.out _ (bel_drew (bel_alloc HB2))
     have hOA:OwnE (W2.alloc o).drew 0 (.slice A n cap) L:=HO.out.kept (T:=[]) (.of_below (bel_drew (bel_alloc HB2))) (fun _ _=>by simp)
     have hMA:MapAt iK (W2.alloc o).drew mb V N:=H1.out.below (bel_drew (bel_alloc HB2))
     have hxA:(W2.alloc o).drew.heap[W2.heap.size]? = some (.cells (Ed.cells ⟨xt,⟨xs,xd⟩,xm⟩).toArray 182 (0,0)):=by rw [←ho];exact alloc_at W2 _ rfl
     have hneA:(Value.slice A n cap).ownBlock≠some W2.heap.size:=fun e=>by have:=HO.out.lt e;have:=HB2.size;omega
     have hnb:some b≠(Value.slice A n cap).ownBlock:=fun e=>hbS (HqS.out b e.symm)
     have hn5:some b5≠(Value.slice A n cap).ownBlock:=fun e=>(HSb5.out b5 e.symm) rfl
     have hnm:some mb≠(Value.slice A n cap).ownBlock:=fun e=>h5 (HqS.out mb e.symm)
     have hBA:Below w.heap.size w (W2.alloc o).drew:=bel_drew (bel_alloc HB2);have HA:=Lib.hid (And.intro hOA (And.intro hMA (And.intro hxA (And.intro hneA (And.intro hnb (And.intro hn5 (And.intro hnm hBA)))))))
     have HL1000:L.length≤100000:=by have:=Hn.out;omega
     have HiL:i≤L.length:=by have:=Hn.out;omega
     have Ho:=Lib.hid ho;clear hOA hMA hxA hneA hnb hn5 hnm hBA;rw [←ho] at HA;clear ho
     go_region_held3 (fun w'=>w'.cell? ⟨b,1,none⟩=some (.map (some mb))∧w'.cell? ⟨b5,0,none⟩=some (.int .i64 xt)∧w'.cell? ⟨b5,1,none⟩=some (.int .i64 xs)∧w'.cell? ⟨b5,2,none⟩=some (.int .i64 xd)∧w'.cell? ⟨b5,3,none⟩=some (.int .i64 xm))
      (first
       | exact ⟨k1,c0,c1,c2,c3⟩
       | exact ⟨alloc_some k1,alloc_some c0,alloc_some c1,alloc_some c2,alloc_some c3⟩
       | exact hSI
       | exact hSU)
      ((first
       | (go_at_call 218
          refine (insEdge _ 0 (.slice A n cap) L i W2.heap.size ⟨xt,⟨xs,xd⟩,xm⟩ HA.out.1 HiL HA.out.2.2.1 HA.out.2.2.2.1 (Nat.zero_le _) HL1000).mono ?_;rintro e wI ⟨v',rfl,hOI,hGI,hAt⟩
          have hSI:wI.cell? ⟨b,1,none⟩=some (.map (some mb))∧wI.cell? ⟨b5,0,none⟩=some (.int .i64 xt)∧wI.cell? ⟨b5,1,none⟩=some (.int .i64 xs)∧wI.cell? ⟨b5,2,none⟩=some (.int .i64 xd)∧wI.cell? ⟨b5,3,none⟩=some (.int .i64 xm):=
           ⟨hGI.cell (alloc_some k1) HA.out.2.2.2.2.1,hGI.cell (alloc_some c0) HA.out.2.2.2.2.2.1,hGI.cell (alloc_some c1) HA.out.2.2.2.2.2.1,hGI.cell (alloc_some c2) HA.out.2.2.2.2.2.1,hGI.cell (alloc_some c3) HA.out.2.2.2.2.2.1⟩
          have hMI:MapAt iK wI mb V N:=HA.out.2.1.kept (S:=(Value.slice A n cap).ownBlock.toList) ⟨hGI.os,hGI.tape,hGI.output,hGI.size,fun q hq hn=>hGI.block q hq (fun e=>hn (by rw [←e];simp))⟩ (by
           intro hh;have:=HA.out.2.2.2.2.2.2.1
           cases hv:(Value.slice A n cap).ownBlock with
           | none=>rw [hv] at hh;simp at hh
           | some r=>rw [hv] at hh this;simp at hh;exact this (by rw [hh]))
          obtain ⟨wU,hU,hMU,hKU⟩:=hMI.store (int_fit Tryz.underlying3) Tryz.underlying137 a v';have hU:(Instr.mapUpdate 137 (.map (some mb)) (.int .i64 a) v').run Tryz.prog wI=.ok () wU:=hU
          have hSU:wU.cell? ⟨b,1,none⟩=some (.map (some mb))∧wU.cell? ⟨b5,0,none⟩=some (.int .i64 xt)∧wU.cell? ⟨b5,1,none⟩=some (.int .i64 xs)∧wU.cell? ⟨b5,2,none⟩=some (.int .i64 xd)∧wU.cell? ⟨b5,3,none⟩=some (.int .i64 xm):=
           ⟨keptc hKU (by simpa using hbm) hSI.1,keptc hKU (by simpa using Ne.symm hmb5) hSI.2.1,keptc hKU (by simpa using Ne.symm hmb5) hSI.2.2.1,keptc hKU (by simpa using Ne.symm hmb5) hSI.2.2.2.1,keptc hKU (by simpa using Ne.symm hmb5) hSI.2.2.2.2⟩)))
     all_goals
      have hfin:=EMap.put H1.out H2.out H3.out H4.out h5 H6.out H7.out Hu.out HA.out.2.2.2.2.2.2.2 hOI hGI hAt hMU hKU;go_end0
      exact ⟨rfl,by simpa using hfin⟩
end Go.Proofs.YtokhnobcincfjaaGreatDoor
namespace Go.Proofs.YtokhnobcincfjaaGreatDoor
open Go.RowKit Go.Sort FR Go.Lib
def EgL (S:LS) (N n:Nat):List Ed:=(List.range N).filterMap fun t=>(S.eg n t).map fun cm=>⟨(t:Nat),cm.1,cm.2⟩
theorem mem_EgL {S:LS} {N n:Nat} {e:Ed}:e∈EgL S N n↔∃t:Nat,t<N∧e.to_=t∧S.eg n t=some (e.c,e.mid):=by
 unfold EgL;simp only [List.mem_filterMap,List.mem_range,Option.map_eq_some_iff]
 constructor
 ·rintro ⟨t,ht,⟨c,m⟩,h1,rfl⟩;exact ⟨t,ht,rfl,h1⟩
 ·rintro ⟨t,ht,h1,h2⟩;exact ⟨t,ht,_,h2,by cases e;simp at h1 ⊢;exact h1.symm⟩
theorem pw_EgL (S:LS) (N n:Nat):(EgL S N n).Pairwise (fun a b=>a.to_<b.to_):=by
 unfold EgL;refine List.Pairwise.filterMap _ (R:=(· < ·)) ?_ List.pairwise_lt_range;intro a a' h b hb b' hb';simp only [Option.map_eq_some_iff] at hb hb';obtain ⟨_,_,rfl⟩:=hb;obtain ⟨_,_,rfl⟩:=hb';simp only;omega
theorem srt_EgL (S:LS) (N n:Nat):Srt (EgL S N n):=srt_pair.2 (pw_EgL S N n)
theorem len_EgL (S:LS) (N n:Nat):(EgL S N n).length≤N:=by
 unfold EgL
 exact Nat.le_trans (List.length_filterMap_le _ _) (by simp)
open Classical in
noncomputable def levV (g:G) (S:LS) (z:Int):Option Value:=if 0≤z∧g.Corner z.toNat then some (.int .i64 (S.lev z.toNat:Nat)) else none
open Classical in
noncomputable def egE (g:G) (S:LS) (z:Int):Option (List Ed):=if 0≤z∧g.Corner z.toNat then some (EgL S g.n z.toNat) else none
open Classical in
noncomputable def levI (g:G) (S:LS) (z:Int):Int:=if 0≤z∧g.Corner z.toNat then (S.lev z.toNat:Nat) else 0
theorem levOf (g:G) (S:LS):LevOf (levV g S) (levI g S):=fun z=>by
 unfold levV levI;split <;> rfl
theorem levV_at {g:G} {S:LS} {n:Nat} (h:g.Corner n):levV g S (n:Nat)=some (.int .i64 (S.lev n:Nat)):=by
 unfold levV;rw [if_pos ⟨by omega,by simpa using h⟩];simp
theorem egE_at {g:G} {S:LS} {n:Nat} (h:g.Corner n):egE g S (n:Nat)=some (EgL S g.n n):=by
 unfold egE;rw [if_pos ⟨by omega,by simpa using h⟩];simp
theorem levI_at {g:G} {S:LS} {n:Nat} (h:g.Corner n):levI g S (n:Nat)=(S.lev n:Nat):=by
 unfold levI;rw [if_pos ⟨by omega,by simpa using h⟩];simp
theorem levV_none {g:G} {S:LS} {z:Int} (h:¬(0≤z∧g.Corner z.toNat)):levV g S z=none:=by unfold levV;rw [if_neg h]
theorem egE_none {g:G} {S:LS} {z:Int} (h:¬(0≤z∧g.Corner z.toNat)):egE g S z=none:=by unfold egE;rw [if_neg h]
theorem levV_ne {g:G} {S:LS} {z:Int}:levV g S z≠none↔∃n:Nat,z=n∧g.Corner n:=by
 unfold levV
 constructor
 ·intro h
  split at h
  ·rename_i q;exact ⟨z.toNat,by omega,q.2⟩
  ·exact absurd rfl h
 ·rintro ⟨n,rfl,h⟩
  rw [if_pos ⟨by omega,by simpa using h⟩];simp
theorem levV_int {g:G} {S:LS} (z:Int) (u:Value) (h:levV g S z=some u):u=.int .i64 (levI g S z):=by
 unfold levV at h;unfold levI
 split at h
 ·rename_i q;rw [if_pos q];injection h with h;exact h.symm
 ·cases h
def Cor (g:G) (S:LS):Prop:=∀a b,S.eg a b≠none→g.Corner a∧g.Corner b∧a≠b
def frL (S:LS) (N n:Nat):List Ed:=(EgL S N n).filter fun e=>decide (S.lev e.to_.toNat=0)
theorem free_EgL {g:G} {S:LS} (h:Cor g S) (n:Nat):free0 (levI g S) (EgL S g.n n)=frL S g.n n:=by
 unfold free0 frL
 apply List.filter_congr
 intro e he;obtain ⟨t,ht,h1,h2⟩:=mem_EgL.1 he
 have hc:=(h n t (by rw [h2];simp)).2.1
 rw [h1,levI_at hc];simp
theorem mem_frL {S:LS} {N n:Nat} {e:Ed}:e∈frL S N n↔∃t:Nat,t<N∧e.to_=t∧S.eg n t=some (e.c,e.mid)∧S.lev t=0:=by
 unfold frL;rw [List.mem_filter,mem_EgL]
 constructor
 ·rintro ⟨⟨t,h1,h2,h3⟩,h4⟩
  rw [h2] at h4
  exact ⟨t,h1,h2,h3,by simpa using h4⟩
 ·rintro ⟨t,h1,h2,h3,h4⟩
  exact ⟨⟨t,h1,h2,h3⟩,by rw [h2];simpa using h4⟩
theorem len_frL (S:LS) (N n:Nat):(frL S N n).length≤N:=Nat.le_trans (List.length_filter_le _ _) (len_EgL S N n)
theorem frL_nb (S:LS) (N n:Nat):(frL S N n).map (fun e=>e.to_.toNat)=S.nb N n:=by
 unfold frL EgL LS.nb
 generalize List.range N=l
 induction l with
 | nil=>rfl
 | cons t l ih=>
  cases h:S.eg n t with
  | none=>simp [List.filterMap_cons,List.filter_cons,h,ih]
  | some cm=>
   by_cases h2:S.lev t=0
   ·simp [List.filterMap_cons,List.filter_cons,h,h2,ih]
   ·simp [List.filterMap_cons,List.filter_cons,h,h2,ih]
theorem frL_len (S:LS) (N n:Nat):(frL S N n).length=(S.nb N n).length:=by rw [←frL_nb,List.length_map]
theorem frL_at {S:LS} {N n i:Nat} {e:Ed} (h:(frL S N n)[i]? = some e):∃t:Nat,t<N∧e.to_=t∧S.eg n t=some (e.c,e.mid)∧S.lev t=0∧(S.nb N n)[i]? = some t∧S.cost n t=e.c:=by
 obtain ⟨t,h1,h2,h3,h4⟩:=mem_frL.1 (List.mem_of_getElem? h);refine ⟨t,h1,h2,h3,h4,?_,LS.cost_eq h3⟩;rw [←frL_nb,List.getElem?_map,h,Option.map_some,h2];simp
def edV (e:Ed):Value:=.agg #[.int .i64 e.to_,.int .i64 e.c.s,.int .i64 e.c.d,.int .i64 e.mid]
open Classical in
noncomputable def outV (S:LS) (n:Nat) (T:Nat→Nat→Prop) (k:Int×Int):Option Value:=
 if 0≤k.1∧0≤k.2∧T k.1.toNat k.2.toNat then some (edV ⟨k.2,C.add (S.cost n k.1.toNat) (S.cost n k.2.toNat),(n:Nat)⟩) else none
theorem outV_at {S:LS} {n:Nat} {T:Nat→Nat→Prop} {a b:Nat} (h:T a b):outV S n T ((a:Nat),(b:Nat))=some (edV ⟨(b:Nat),C.add (S.cost n a) (S.cost n b),(n:Nat)⟩):=by
 unfold outV;rw [if_pos ⟨by simp,by simp,by simpa using h⟩];simp
theorem outV_some {S:LS} {n:Nat} {T:Nat→Nat→Prop} {k:Int×Int} (h:outV S n T k≠none):∃a b:Nat,k=(((a:Nat):Int),((b:Nat):Int))∧T a b:=by
 unfold outV at h
 split at h
 ·rename_i q
  refine ⟨k.1.toNat,k.2.toNat,?_,q.2.2⟩;obtain ⟨k1,k2⟩:=k
  simp at q ⊢
  omega
 ·exact absurd rfl h
theorem outV_put {S:LS} {n a b:Nat} {T:Nat→Nat→Prop}:updK (outV S n T) (((a:Nat):Int),((b:Nat):Int)) (some (edV ⟨(b:Nat),C.add (S.cost n a) (S.cost n b),(n:Nat)⟩))=outV S n (fun x y=>T x y∨(x=a∧y=b)):=by
 funext k
 obtain ⟨k1,k2⟩:=k;unfold updK
 by_cases e:(k1,k2)=(((a:Nat):Int),((b:Nat):Int))
 ·rw [if_pos e,e,outV_at (.inr ⟨rfl,rfl⟩)]
 ·rw [if_neg e]
  unfold outV;simp only
  by_cases h:0≤k1∧0≤k2
  ·by_cases hT:T k1.toNat k2.toNat
   ·rw [if_pos ⟨h.1,h.2,hT⟩,if_pos ⟨h.1,h.2,.inl hT⟩]
   ·rw [if_neg (fun q=>hT q.2.2),if_neg]
    rintro ⟨_,_,q | ⟨q1,q2⟩⟩
    ·exact hT q
    ·exact e (Prod.ext (by simp only;omega) (by simp only;omega))
  ·rw [if_neg (fun q=>h ⟨q.1,q.2.1⟩),if_neg (fun q=>h ⟨q.1,q.2.1⟩)]
theorem part_put {g : G} {S : LS} {n top a b : Nat} {T : Nat → Nat → Prop} (ha : g.Corner a) (hb : g.Corner b) (hab : a ≠ b) :
    updE (updE (egE g (S.part n top T)) a (some (putS (EgL (S.part n top T) g.n a) ⟨b,C.add (S.cost n a) (S.cost n b),(n:Nat)⟩))) b (some (putS (EgL (S.part n top T) g.n b) ⟨a,C.add (S.cost n a) (S.cost n b),(n:Nat)⟩)) =
     egE g (S.part n top fun x y=>T x y∨(x=a∧y=b)):=by
 have key:∀(x y:Nat) ,g.Corner y→((x=a∧y=b)∨(x=b∧y=a))→putS (EgL (S.part n top T) g.n x) ⟨y,C.add (S.cost n a) (S.cost n b),(n:Nat)⟩=EgL (S.part n top fun x y=>T x y∨(x=a∧y=b)) g.n x:=by
  intro x y hy hxy
  refine srt_ext (srt_pair.1 (srt_putS (srt_EgL _ _ _) _)) (pw_EgL _ _ _) fun e=>?_
  have hcost:C.add (S.cost n a) (S.cost n b)=C.add (S.cost n x) (S.cost n y):=by
   rcases hxy with ⟨rfl,rfl⟩ | ⟨rfl,rfl⟩
   ·rfl
   ·exact C.add_comm _ _
  have hne:∀t,t≠y→((S.part n top fun x y=>T x y∨(x=a∧y=b)).eg x t=(S.part n top T).eg x t):=by
   intro t ht;refine LS.part_same ?_
   ·show ((T x t∨(x=a∧t=b))∨(T t x∨(t=a∧x=b)))↔(T x t∨T t x)
    constructor
    ·rintro ((q | ⟨q1,q2⟩) | (q | ⟨q1,q2⟩))
     ·exact .inl q
     ·rcases hxy with ⟨r1,r2⟩ | ⟨r1,r2⟩
      ·exact absurd (q2.trans r2.symm) ht
      ·exact absurd (q1.symm.trans r1) hab
     ·exact .inr q
     ·rcases hxy with ⟨r1,r2⟩ | ⟨r1,r2⟩
      ·exact absurd (r1.symm.trans q2) hab
      ·exact absurd (q1.trans r2.symm) ht
    ·rintro (q | q)
     ·exact .inl (.inl q)
     ·exact .inr (.inl q)
  have hyy:(S.part n top fun x y=>T x y∨(x=a∧y=b)).eg x y=some (C.add (S.cost n x) (S.cost n y),(n:Int)):=by
   refine LS.part_yes ?_
   rcases hxy with ⟨r1,r2⟩ | ⟨r1,r2⟩
   ·exact .inl (.inr ⟨r1,r2⟩)
   ·exact .inr (.inr ⟨r2,r1⟩)
  rw [mem_putS (srt_EgL _ _ _),mem_EgL,mem_EgL]
  constructor
  ·rintro (rfl | ⟨⟨t,h1,h2,h3⟩,h4⟩)
   ·exact ⟨y,hy.1,rfl,by rw [hyy,hcost]⟩
   ·refine ⟨t,h1,h2,?_⟩
    rw [hne t (by rintro rfl;exact h4 h2)]
    exact h3
  ·rintro ⟨t,h1,h2,h3⟩
   by_cases e1:t=y
   ·subst e1
    rw [hyy] at h3
    left
    injection h3 with h3
    injection h3 with q1 q2
    cases e
    simp at h2 q1 q2 ⊢
    exact ⟨h2,by rw [hcost];exact q1.symm,q2.symm⟩
   ·right
    rw [hne t e1] at h3
    exact ⟨⟨t,h1,h2,h3⟩,by simp only;rw [h2];omega⟩
 funext z
 unfold updE
 by_cases e1:z=(b:Nat)
 ·rw [if_pos e1,e1,egE_at hb,key b a ha (.inr ⟨rfl,rfl⟩)]
 ·rw [if_neg e1]
  by_cases e2:z=(a:Nat)
  ·rw [if_pos e2,e2,egE_at ha,key a b hb (.inl ⟨rfl,rfl⟩)]
  ·rw [if_neg e2]
   unfold egE
   by_cases hz:0≤z∧g.Corner z.toNat
   ·rw [if_pos hz,if_pos hz]
    congr 1
    unfold EgL
    congr 1
    funext t
    have:(S.part n top T).eg z.toNat t=(S.part n top fun x y=>T x y∨(x=a∧y=b)).eg z.toNat t:=by
     refine LS.part_same ?_
     ·show (T z.toNat t∨T t z.toNat)↔((T z.toNat t∨(z.toNat=a∧t=b))∨(T t z.toNat∨(t=a∧z.toNat=b)))
      constructor
      ·rintro (q | q)
       ·exact .inl (.inl q)
       ·exact .inr (.inl q)
      ·rintro ((q | ⟨q1,q2⟩) | (q | ⟨q1,q2⟩))
       ·exact .inl q
       ·omega
       ·exact .inr q
       ·omega
    rw [this]
   ·rw [if_neg hz,if_neg hz]
structure LfS (W w:World) (mo q:Nat) (S:List Nat) (N:Nat) (done hp:Nat→Option C):Prop where
 mapC:MapAt iK w mo (mapI (doneV done)) (cntS done N)
 heap:HeapOf w S q (cntS hp N) (hpI hp)
 dis:mo∉S
 far:∀k∈S,W.heap.size≤k
 own:W.heap.size≤mo
 bel:Below W.heap.size W w
theorem LfS.below {W w w':World} {mo q N:Nat} {S:List Nat} {done hp:Nat→Option C} (h:LfS W w mo q S N done hp) (hb:Below w.heap.size w w'):LfS W w' mo q S N done hp:=
 ⟨h.mapC.below hb,h.heap.below hb,h.dis,h.far,h.own,h.bel.trans (hb.mono h.bel.size)⟩
theorem LfS.pushed {W w w' : World} {mo q N : Nat} {S : List Nat} {done hp hp2 : Nat → Option C} (h : LfS W w mo q S N done hp) {u : Value} {e : Ending} (hD : HeapD w S q (cntS hp2 N) (hpI hp2) u e w') :
    ∃S',LfS W w' mo q S' N done hp2∧(∀k∈S',k∈S∨w.heap.size≤k)∧Kept S w w':=by
 obtain ⟨_,S',h1,h2,h3⟩:=hD;have l3:=h.mapC.lt
 refine ⟨S',⟨h.mapC.kept h3 h.dis,h1,fun hm=>?_,fun k hk=>?_,h.own,Kept.below h.bel h3 h.bel.size h.far⟩,h2,h3⟩
 ·rcases h2 _ hm with x | x
  ·exact h.dis x
  ·omega
 ·rcases h2 _ hk with x | x
  ·exact h.far k x
  ·exact Nat.le_trans h.bel.size x
theorem LfS.popped {W w w':World} {mo q N:Nat} {S:List Nat} {done hp hp2:Nat→Option C} (h:LfS W w mo q S N done hp) (hH:HeapOf w' S q (cntS hp2 N) (hpI hp2)) (hk:Kept S w w'):LfS W w' mo q S N done hp2:=
 ⟨h.mapC.kept hk h.dis,hH,h.dis,h.far,h.own,Kept.below h.bel hk h.bel.size h.far⟩
theorem LfS.done {W w w' : World} {mo q N : Nat} {S : List Nat} {done hp : Nat → Option C} {k : Nat} {ds dd : Int} (h : LfS W w mo q S N done hp) (hk : k < N) (hn : done k = none)
    (hM:MapAt iK w' mo (updK (mapI (doneV done)) (k:Nat) (some (.agg #[.int .i64 ds,.int .i64 dd]))) (if (mapI (doneV done) (k:Nat)).isSome then cntS done N else cntS done N+1)) (hK:Kept [mo] w w') :
    LfS W w' mo q S N (upd done k (some ⟨ds,dd⟩)) hp:=by
 have e:(mapI (doneV done) (k:Nat)).isSome=false:=by rw [mapI_nat];unfold doneV;rw [hn];rfl
 rw [mapI_upd,show (some (Value.agg #[.int .i64 ds,.int .i64 dd]):Option Value)=some (costV ⟨ds,dd⟩) from rfl,doneV_upd,e] at hM
 simp only [Bool.false_eq_true,if_false] at hM;rw [←cntS_new hk hn ⟨ds,dd⟩] at hM;refine ⟨hM,h.heap.kept hK ?_,h.dis,h.far,h.own,Kept.below h.bel hK h.bel.size ?_⟩
 ·intro j hj e
  simp at e;subst e;exact h.dis hj
 ·intro i hi
  simp at hi;subst hi;exact h.own
def PendE (L:List Ed) (n j:Nat) (b:Nat) (e:C):Prop:=∃(i:Nat) (x:Ed),j≤i∧L[i]? = some x∧x.to_=(b:Nat)∧x.c=e∧b≠n
theorem PendE.first {S:LS} {N n k:Nat} {b:Nat} {e:C} (hN:∀y c m,S.eg k y=some (c,m)→y<N) (h:S.Lw n k b e):PendE (frL S N k) n 0 b e:=by
 obtain ⟨⟨_,h2,m,h3⟩,h4,h5⟩:=h;have:(⟨(b:Nat),e,m⟩:Ed)∈frL S N k:=mem_frL.2 ⟨b,hN _ _ _ h3,rfl,h3,h2⟩;obtain ⟨i,hi⟩:=List.getElem?_of_mem this;exact ⟨i,_,Nat.zero_le _,hi,rfl,rfl,h5⟩
theorem PendE.next {L:List Ed} {n j t:Nat} {x:Ed} (hx:L[j]? = some x) (ht:x.to_=(t:Nat)) (b:Nat) (e:C) (h:PendE L n j b e):PendE L n (j+1) b e∨(b=t∧e=x.c):=by
 obtain ⟨i,y,h1,h2,h3,h4,h5⟩:=h
 by_cases e1:i=j
 ·subst e1
  rw [hx] at h2;injection h2 with h2;subst h2
  right
  exact ⟨by omega,h4.symm⟩
 ·exact .inl ⟨i,y,by omega,h2,h3,h4,h5⟩
theorem PendE.skip {L:List Ed} {n j:Nat} {x:Ed} (hx:L[j]? = some x) (ht:x.to_=(n:Nat)) (b:Nat) (e:C) (h:PendE L n j b e):PendE L n (j+1) b e:=by
 obtain ⟨i,y,h1,h2,h3,h4,h5⟩:=h
 by_cases e1:i=j
 ·subst e1
  rw [hx] at h2;injection h2 with h2;subst h2
  exact absurd (by omega) h5
 ·exact ⟨i,y,by omega,h2,h3,h4,h5⟩
theorem PendE.over {L:List Ed} {n:Nat} (b:Nat) (e:C):¬PendE L n L.length b e:=by
 rintro ⟨i,y,h1,h2,_⟩;have:=(List.getElem?_eq_some_iff.1 h2).1;omega
def LfI (W:World) (mo q eb:Nat) (S:LS) (fr n k N:Nat) (L:List Ed) (A1:Option Addr) (done:Nat→Option C) (cs cd:Int) (j:Nat) (wr:World):Prop:=
 ∃Sb hp,LfS W wr mo q Sb N done hp∧FM (S.Lw n) fr N done hp k (PendE L n j)∧EdsAt wr A1 L∧(0<L.length→∀ad,A1=some ad→ad.block∉Sb∧ad.block≠mo)∧eb∉Sb∧eb≠mo ∧
  wr.cell? ⟨eb,0,none⟩=some (.int .i64 cs)∧wr.cell? ⟨eb,1,none⟩=some (.int .i64 cd)
def LfC (W:World) (mo q eb N:Nat) (L:List Ed) (A1:Option Addr) (done hp:Nat→Option C) (cs cd:Int) (wr:World):Prop:=
 ∃Sb,LfS W wr mo q Sb N done hp∧EdsAt wr A1 L∧(0<L.length→∀ad,A1=some ad→ad.block∉Sb∧ad.block≠mo)∧eb∉Sb∧eb≠mo∧wr.cell? ⟨eb,0,none⟩=some (.int .i64 cs)∧wr.cell? ⟨eb,1,none⟩=some (.int .i64 cd)
theorem LfC.of_push {W w w' : World} {mo q eb N : Nat} {Sb : List Nat} {L : List Ed} {A1 : Option Addr} {done hp hp2 : Nat → Option C} {cs cd : Int} (h : LfS W w mo q Sb N done hp)
    (hI:EdsAt w A1 L) (hN:0<L.length→∀ad,A1=some ad→ad.block∉Sb∧ad.block≠mo) (he:eb∉Sb) (he2:eb≠mo) (c0:w.cell? ⟨eb,0,none⟩=some (.int .i64 cs)) (c1:w.cell? ⟨eb,1,none⟩=some (.int .i64 cd))
    {u:Value} {e:Ending} (hD:HeapD w Sb q (cntS hp2 N) (hpI hp2) u e w'):LfC W mo q eb N L A1 done hp2 cs cd w':=by
 obtain ⟨S',h1,h2,h3⟩:=h.pushed hD;have l0:=World.block_lt_of_cell? _ _ c0;simp only at l0;refine ⟨S',h1,?_,?_,?_,he2,cellK h3 he c0,cellK h3 he c1⟩
 ·intro hn
  obtain ⟨g,e1,hlt,hc⟩:=hI hn;have hg:=(hN hn _ e1).1
  exact ⟨g,e1,Nat.lt_of_lt_of_le hlt h3.size,fun j v hv=>cellK h3 hg (hc j v hv)⟩
 ·intro hn ad e1
  refine ⟨fun hm=>?_,(hN hn ad e1).2⟩
  obtain ⟨g,e',hlt,_⟩:=hI hn
  rw [e'] at e1;injection e1 with e1;subst e1
  rcases h2 _ hm with x | x
  ·exact (hN hn _ e').1 x
  ·simp only at x;omega
 ·intro hm
  rcases h2 _ hm with x | x
  ·exact he x
  ·omega
theorem LfC.below {W w w':World} {mo q eb N:Nat} {L:List Ed} {A1:Option Addr} {done hp:Nat→Option C} {cs cd:Int} (h:LfC W mo q eb N L A1 done hp cs cd w) (hb:Below w.heap.size w w'):LfC W mo q eb N L A1 done hp cs cd w':=by
 obtain ⟨S,h1,h2,h3,h4,h5,h6,h7⟩:=h;exact ⟨S,h1.below hb,h2.below hb,h3,h4,h5,bel_cell hb h6,bel_cell hb h7⟩
theorem LfC.to {W w : World} {mo q eb : Nat} {S : LS} {fr n k N : Nat} {L : List Ed} {A1 : Option Addr} {done hp : Nat → Option C} {cs cd : Int} {j : Nat} (h : LfC W mo q eb N L A1 done hp cs cd w) (hF : FM (S.Lw n) fr N done hp k (PendE L n j)) :
    LfI W mo q eb S fr n k N L A1 done cs cd j w:=by
 obtain ⟨Sb,h1,h2,h3,h4,h5,h6,h7⟩:=h;exact ⟨Sb,hp,h1,hF,h2,h3,h4,h5,h6,h7⟩
def LfD (w:World) (S:LS) (fr n N:Nat) (e:Ending) (w':World):Prop:=∃mo done,e=.returned (.map (some mo))∧MapAt iK w' mo (mapI (doneV done)) (cntS done N)∧(∀t c,done t=some c→Dist (S.Lw n) fr t c)∧(∀t,done t=none→∀c,¬Walk (S.Lw n) fr t c) ∧
 (∀t c,done t=some c→0≤c.s∧c.s≤512000∧0≤c.d∧c.d≤512000)∧w.heap.size≤mo∧Below w.heap.size w w'
def LfO (W:World) (mo q:Nat) (S:LS) (fr n N gk:Nat) (wr:World):Prop:=∃Sb done hp k0,LfS W wr mo q Sb N done hp∧FM (S.Lw n) fr N done hp k0 (fun _ _=>False)∧N-cntS done N≤gk
theorem lw_to {g:G} {S:LS} {n fr:Nat} (hc:Cor g S) (h1:g.Corner fr) (h2:S.lev fr=0) (h3:fr≠n) {k:Nat} {c:C} (h:Walk (S.Lw n) fr k c):g.Corner k∧S.lev k=0∧k≠n:=by
 cases h with
 | nil=>exact ⟨h1,h2,h3⟩
 | snoc _ he=>
  obtain ⟨⟨_,q2,m,q3⟩,_,q5⟩:=he
  exact ⟨(hc _ _ (by rw [q3];simp)).2.1,q2,q5⟩
def Sml (S:LS):Prop:=∀a b c m,S.eg a b=some (c,m)→0≤c.s∧c.s≤2000∧0≤c.d∧c.d≤2000
theorem sml_nn {S:LS} (h:Sml S) (n:Nat):∀a b c,S.Lw n a b c→C.Nn c:=fun a b c ⟨⟨_,_,m,q⟩,_⟩=>by
 have:=h a b c m q;exact ⟨this.1,this.2.2.1⟩
theorem lvFlood (w : World) (b ml me nl : Nat) (Sb : List Nat) (top : Int) (g : G) (S : LS) (hok : g.ok) (hc : Cor g S) (hs : Sml S) (fr n : Nat) (hfr : g.Corner fr) (hl : S.lev fr = 0) (hne : fr ≠ n) (h : LvOf w b ml me Sb top (levV g S) nl (egE g S)) :
    Calls Tryz.prog 219 #[.pointer (some ⟨b,0,none⟩),.int .i64 (fr:Nat),.int .i64 (n:Nat)] w (LfD w S fr n g.n):=by
 have hn:=G.n_le hok;have hmm:=@run_makeMap Tryz.prog;have H:=Lib.hid h;have Hc:=Lib.hid hc;have Hs:=Lib.hid hs;have Hfr:=Lib.hid (And.intro hfr (And.intro hl hne));have Hn:=Lib.hid hn;clear h hc hs hfr hl hne hok hn;go_enter Tryz.func219,Tryz.ntmps219
 go_upto_region 2 with (fail)
 refine wp_name ?_;intro W1 hW1
 have HW1:Below w.heap.size w W1:=by rw [hW1];(repeat' (first | exact Below.refl _ _ | assumption | apply bel_drewN | apply bel_drew | apply bel_alloc | (refine bel_trans ?_ (by assumption))))
 have hM1:MapAt iK W1 w.heap.size (fun _=>none) 0:=by rw [hW1];exact MapAt.made w
 have hs1:W1.heap.size=w.heap.size+1:=by rw [hW1];simp
 obtain ⟨mo,hmo⟩:∃mo,w.heap.size=mo:=⟨_,rfl⟩
 rw [hmo] at hM1 ⊢
 clear hW1 hmm;go_wp2_with fail
 (with_reducible refine (heapNew W1).mono ?_)
 rintro e w4 ⟨q,S0,rfl,hH,hSf,hb4⟩
 rw [hpI_none,show (0:Nat)=cntS (fun _=>none) g.n from (cntS_none _).symm] at hH
 have hS4:LfS w w4 mo q S0 g.n (fun _=>none) (fun _=>none):=by
  refine ⟨?_,hH,fun hm=>?_,fun k hk=>?_,by omega,bel_trans HW1 hb4⟩
  ·rw [mapI_none (f:=doneV fun _=>none) (fun _=>rfl),cntS_none]
   exact hM1.below hb4
  ·have:=hSf _ hm;omega
  ·have:=hSf _ hk;omega
 have HS4:=Lib.hid hS4
 have cP:=Lib.hid (fun w' h'=>heapPushN w' S0 q g.n (fun _=>none) fr 0 0 true h' Hfr.out.1.1 (by have:=Hn.out;omega) ⟨by unfold inC;simp only;omega,by unfold inC;simp only;omega⟩ rfl)
 clear hH hSf hb4 hS4 hM1 HW1 hs1;go_wp2_with fail
 (with_reducible refine (cP.out _ HS4.out.heap).mono ?_)
 rintro e w5 hD;have hD:=Lib.hid hD;obtain ⟨rfl,_⟩:=hD.out;obtain ⟨S5,hS5,_⟩:=HS4.out.pushed hD.out
 have hF0:FM (S.Lw n) fr g.n (fun _=>none) (FR.upd (fun _=>none) fr (some C.zero)) fr (fun _ _=>False):=FM.start Hfr.out.1.1 fr
 obtain ⟨N0,hN0⟩:∃N0,N0=g.n:=⟨_,rfl⟩
 have hstart:LfO w mo q S fr n g.n N0 w5:=⟨S5,_,_,fr,hS5,hF0,by omega⟩
 clear hD HS4 hS5 hF0 cP hN0;go_wp2_with fail
 go_loopg [] N0 (fun gk wr=>LfO w mo q S fr n g.n gk wr)
 case atStart=>exact hstart
 case round=>
  obtain ⟨Sh,done,hp,k0,hS,hF,hgk⟩:=hrel;clear hstart;have HS:=Lib.hid hS;have HF:=Lib.hid hF
  by_cases h0:cntS hp g.n=0
  ·have hH:=hS.heap
   rw [h0] at hH;go_wp2_with fail
   (with_reducible refine (heapPop_none _ Sh q (hpI hp) hH).mono ?_)
   rintro e w6 ⟨rfl,hb6⟩;have hS6:=HS.out.below hb6;have hS7:=hS6.below (w':=w6.alloc (.cells #[.int .i64 0,.int .i64 0] 44)) (bel_alloc (Below.refl _ _))
   have hfin2:=fun t=>HF.out.dij.fin (sml_nn Hs.out n) (cntS_zero h0 HF.out.rngH) t
   have hfin:LfD w S fr n g.n (.returned (.map (some mo))) (w6.alloc (.cells #[.int .i64 0,.int .i64 0] 44)):=
    ⟨mo,done,rfl,hS7.mapC,fun t=>(hfin2 t).1,fun t=>(hfin2 t).2,fun t c hc=>HF.out.small (sml_nn Hs.out n) Hn.out (.inl hc),hS7.own,hS7.bel⟩
   clear hS hF hH HS HF hb6 hS6 hS7 hfin2;go_wp2;go_ret;exact hfin
  ·go_wp2_with fail
   (with_reducible refine (heapPopN _ Sh q g.n hp hS.heap hF.rngH (by have:=Hn.out;omega) h0).mono ?_)
   rintro e w6 ⟨k,ds,dd,hk1,hk2,rfl,hk4,hk5⟩
   have hkn:k<g.n:=HF.out.rngH k (by rw [hk1];simp)
   have hdn:done k=none:=(HF.out.dij.i2 _ _ hk1).1;have hkc:=lw_to Hc.out Hfr.out.1 Hfr.out.2.1 Hfr.out.2.2 (HF.out.dij.i2 _ _ hk1).2;have hS6:=hS.popped hk4 hk5;have hF6:=Lib.hid (HF.out.pop (sml_nn Hs.out n) hk1 hk2);have HS6:=Lib.hid hS6;have Hkc:=Lib.hid hkc;clear hk1 hk2 hk4 hk5 hS hF HS HF hS6 h0 hkc
   go_upto_region 7 with (fail)
   refine wp_name ?_;intro W6 hW6
   have HW6:Below w6.heap.size w6 W6:=by rw [hW6];(repeat' (first | exact Below.refl _ _ | assumption | apply bel_drewN | apply bel_drew | apply bel_alloc | (refine bel_trans ?_ (by assumption))))
   have d0:W6.cell? ⟨w6.heap.size,0,none⟩=some (.int .i64 ds):=by rw [hW6];go_simp
   have d1:W6.cell? ⟨w6.heap.size,1,none⟩=some (.int .i64 dd):=by rw [hW6];go_simp
   have hS7:=HS6.out.below HW6
   have l6:w6.heap.size≠mo:=by have:=HS6.out.mapC.lt;omega
   have l6b:w6.heap.size∉Sh:=fun hm=>by have:=HS6.out.heap.lt _ hm;omega
   obtain ⟨eb,heb⟩:∃eb,w6.heap.size=eb:=⟨_,rfl⟩
   rw [heb] at d0 d1 l6 l6b ⊢
   clear hW6 HS6 HW6 heb;go_wp2_with (refine wpList_storeM rfl _ _ _ rfl (int_fit Tryz.underlying3) Tryz.underlying246 hS7.mapC rfl (k:Nat) rfl (.agg #[.int .i64 ds,.int .i64 dd]) rfl ?_;intro w8 hm8 hk8);have hS9:=hS7.done hkn hdn hm8 hk8
   have d0:=cellK hk8 (by simpa using l6) d0
   have d1:=cellK hk8 (by simpa using l6) d1
   have hcnt:=cntS_new hkn hdn ⟨ds,dd⟩;have hcle:=cntS_le (FR.upd done k (some ⟨ds,dd⟩)) g.n;have HS9:=Lib.hid hS9
   have cE:=Lib.hid (lvEdges w8 b ml me nl Sb top (levV g S) (levI g S) (egE g S) (k:Nat) (EgL S g.n k) (H.out.below hS9.bel) (levOf g S) (egE_at Hkc.out.1) (by have:=len_EgL S g.n k;have:=Hn.out;omega))
   rw [free_EgL Hc.out] at cE;clear hS7 hm8 hk8 hS9;go_wp2_with fail
   (with_reducible refine cE.out.mono ?_)
   rintro e w9 ⟨vE,rfl,hOE,hb9⟩;obtain ⟨A1,m1,rfl,hEd⟩:=hOE.eds
   have hA1:0<(frL S g.n k).length→∀ad,A1=some ad→ad.block∉Sh∧ad.block≠mo:=fun hpos ad e=>by
    obtain ⟨g',e1,_,_⟩:=hEd hpos
    rw [e1] at e;injection e with e;subst e
    have:=(World.ownsRow.lt hOE g' (by rw [e1];rfl)).1
    exact ⟨fun hm=>by have:=HS9.out.heap.lt _ hm;simp only at this;omega,by have:=HS9.out.mapC.lt;simp only;omega⟩
   have hpend:∀b e,S.Lw n k b e→PendE (frL S g.n k) n 0 b e:=fun b e h=>PendE.first (fun y c m hy=>(Hc.out _ _ (by rw [hy];simp)).2.1.1) h
   obtain ⟨L,hL⟩:∃L,frL S g.n k=L:=⟨_,rfl⟩
   rw [hL] at hEd hA1 hpend ⊢
   obtain ⟨nl,hnl⟩:∃nl,L.length=nl:=⟨_,rfl⟩
   have hnl256:nl≤256:=by have:=len_frL S g.n k;rw [hL,hnl] at this;exact Nat.le_trans this Hn.out
   obtain ⟨done2,hdone2⟩:∃d,FR.upd done k (some ⟨ds,dd⟩)=d:=⟨_,rfl⟩
   have hdk:done2 k=some ⟨ds,dd⟩:=by rw [←hdone2];exact upd_same _ _ _
   rw [hdone2] at HS9 hF6 hcnt hcle;have hin:LfI w mo q eb S fr n k g.n L A1 done2 ds dd 0 w9:=⟨Sh,_,HS9.out.below hb9,hF6.out.weaken hpend,hEd,hA1,l6b,l6,bel_cell hb9 d0,bel_cell hb9 d1⟩;have hcb:=hF6.out.small (sml_nn Hs.out n) Hn.out (.inl hdk);obtain ⟨cb1,cb2,cb3,cb4⟩:=hcb;simp only at cb1 cb2 cb3 cb4;rw [hnl];have HL:=Lib.hid hL;have Hnl:=Lib.hid hnl;have Hdk:=Lib.hid hdk;clear hOE hEd hA1 hpend hL hnl hdone2 hdk HS9 hF6 d0 d1 cE hb9 l6 l6b
   obtain ⟨wz,rfl⟩:∃wz:World,wz=w9:=⟨_,rfl⟩;go_wp2_with fail
   go_loopw [38] (fun kv wr=>∃j:Nat,j≤nl∧kv=.int .i64 j∧LfI w mo q eb S fr n k g.n L A1 done2 ds dd j wr) (fun kv _=>nl-(intOf kv).toNat)
   case atStart=>exact ⟨0,by omega,rfl,hin⟩
   case round=>
    obtain ⟨j,hj,rfl,Sj,hp2,hS,hF,hI,hN,heS,hem,e0,e1⟩:=hrel;clear hin;have HS:=Lib.hid hS;have HF:=Lib.hid hF;have HN:=Lib.hid hN
    by_cases hlj:j<nl
    ·have HI:=Lib.hid hI
     obtain ⟨x,hx⟩:∃x,L[j]? = some x:=⟨L[j]'(by rw [Hnl.out];exact hlj),List.getElem?_eq_getElem _⟩
     obtain ⟨t,ht1,ht2,ht3,ht4,ht5,ht6⟩:=frL_at (S:=S) (N:=g.n) (n:=k) (by rw [HL.out];exact hx)
     obtain ⟨gb,hA,a1,a2,a3,a4⟩:=hI.get hx
     have hix:=fun wx=>idxE (m:=m1) hA hlj wx
     have hsx:=Hs.out _ _ _ _ ht3;obtain ⟨xt,⟨xs,xd⟩,xm⟩:=x;simp only at a1 a2 a3 a4 ht2 hsx;subst ht2;have Hx:=Lib.hid (And.intro hx (And.intro ht3 ht4));clear hA hx ht3 ht4 ht5 ht6 hS hF hN hI
     go_upto_region 11 with (fail)
     refine wp_name ?_;intro W hW
     have HW:Below wr.heap.size wr W:=by rw [hW];(repeat' (first | exact Below.refl _ _ | assumption | apply bel_drewN | apply bel_drew | apply bel_alloc | (refine bel_trans ?_ (by assumption))))
     have o0:W.cell? ⟨wr.heap.size,0,none⟩=some (.int .i64 (t:Nat)):=by rw [hW];go_simp
     have o1:W.cell? ⟨wr.heap.size,1,none⟩=some (.int .i64 xs):=by rw [hW];go_simp
     have o2:W.cell? ⟨wr.heap.size,2,none⟩=some (.int .i64 xd):=by rw [hW];go_simp
     have hbS:wr.heap.size∉Sj:=fun hm=>by have:=HS.out.heap.lt _ hm;omega
     obtain ⟨b13,hb13⟩:∃z,wr.heap.size=z:=⟨_,rfl⟩;have e0:=bel_cell HW e0;have e1:=bel_cell HW e1;have le0:eb<W.heap.size:=World.block_lt_of_cell? _ _ e0;have HSW:=Lib.hid (HS.out.below HW);have HIW:=Lib.hid (HI.out.below HW)
     rw [hb13] at o0 o1 o2 hbS ⊢
     have lb0:b13<W.heap.size:=World.block_lt_of_cell? _ _ o0;clear hW hb13 HS HI HW a1 a2 a3 a4 hix
     cases hdt:done2 t with
     | some y=>
      obtain ⟨ys,yd⟩:=y
      have hl:=costLook_in HSW.out.mapC (z:=(t:Nat)) (v:=.agg #[.int .i64 ys,.int .i64 yd]) (by rw [mapI_nat];unfold doneV;rw [hdt];rfl)
      have hP:LfC w mo q eb g.n L A1 done2 hp2 ds dd W:=⟨Sj,HSW.out,HIW.out,HN.out,heS,hem,e0,e1⟩;have hP:=Lib.hid hP
      have hFn:=Lib.hid (HF.out.skip (pend':=PendE L n (j+1)) (b:=t) (by rw [hdt];simp) (fun b' e' h=>(PendE.next Hx.out.1 rfl b' e' h).imp_right And.left))
      clear hdt HSW HIW e0 e1;go_wp2;go_roundw
      case rel=>exact ⟨j+1,by omega,by go_num,(hP.out.below (by (repeat' (first | exact Below.refl _ _ | assumption | apply bel_drewN | apply bel_drew | apply bel_alloc | (refine bel_trans ?_ (by assumption)))))).to hFn.out⟩
      case measure=>simp [intOf];omega
     | none=>
      have hl:=costLook_out HSW.out.mapC (z:=(t:Nat)) (by rw [mapI_nat];unfold doneV;rw [hdt];rfl)
      by_cases htn:t=n
      ·subst htn
       have hP:LfC w mo q eb g.n L A1 done2 hp2 ds dd W:=⟨Sj,HSW.out,HIW.out,HN.out,heS,hem,e0,e1⟩;have hP:=Lib.hid hP
       have hFn:=Lib.hid (HF.out.weaken (pend':=PendE L t (j+1)) (fun b' e' h=>PendE.skip Hx.out.1 rfl b' e' h))
       clear hdt HSW HIW e0 e1;go_wp2;go_roundw
       case rel=>exact ⟨j+1,by omega,by go_num,(hP.out.below (by (repeat' (first | exact Below.refl _ _ | assumption | apply bel_drewN | apply bel_drew | apply bel_alloc | (refine bel_trans ?_ (by assumption)))))).to hFn.out⟩
       case measure=>simp [intOf];omega
      ·have hne2:(((t:Nat):Int) != ((n:Nat):Int))=true:=bne_iff_ne.2 (by omega)
       go_upto_region 13 with (fail)
       refine wp_name ?_;intro W4 hW4
       have HW4:Below W.heap.size W W4:=by rw [hW4];(repeat' (first | exact Below.refl _ _ | assumption | apply bel_drewN | apply bel_drew | apply bel_alloc | (refine bel_trans ?_ (by assumption))))
       have e0:=bel_cell HW4 e0;have e1:=bel_cell HW4 e1;have o0:=bel_cell HW4 o0;have o1:=bel_cell HW4 o1;have o2:=bel_cell HW4 o2;have HS4:=Lib.hid (HSW.out.below HW4);have HI4:=Lib.hid (HIW.out.below HW4);clear hW4 HSW HIW hl HW4 le0 lb0 hne2
       have cA:=Lib.hid (fun w=>costAdd ds dd xs xd w (by unfold inC;omega) (by unfold inC;omega) (by unfold inC;omega) (by unfold inC;omega))
       obtain ⟨tb,htb⟩:∃b,lower? hp2 t ⟨ds+xs,dd+xd⟩=b:=⟨_,rfl⟩
       have cP:=Lib.hid (fun w' h'=>heapPushN w' Sj q g.n hp2 t (ds+xs) (dd+xd) tb h' ht1 (by have:=Hn.out;omega) ⟨by unfold inC;simp only;omega,by unfold inC;simp only;omega⟩ htb)
       have Htb:=Lib.hid htb;have Hdt:=Lib.hid hdt;have Hsx:=Lib.hid hsx;clear htb hdt hsx
       go_region_held3 (fun w'=>w'.cell? ⟨eb,0,none⟩=some (.int .i64 ds)∧w'.cell? ⟨eb,1,none⟩=some (.int .i64 dd)∧w'.cell? ⟨b13,0,none⟩=some (.int .i64 (t:Nat))∧w'.cell? ⟨b13,1,none⟩=some (.int .i64 xs)∧w'.cell? ⟨b13,2,none⟩=some (.int .i64 xd))
        (first
         | exact ⟨e0,e1,o0,o1,o2⟩
         | exact hSA
         | exact hSP)
        ((first
         | (go_at_call 94
            refine (cA.out _).mono ?_;rintro e wA ⟨rfl,hbA⟩;have hSA:wA.cell? ⟨eb,0,none⟩=some (.int .i64 ds)∧wA.cell? ⟨eb,1,none⟩=some (.int .i64 dd)∧wA.cell? ⟨b13,0,none⟩=some (.int .i64 (t:Nat))∧wA.cell? ⟨b13,1,none⟩=some (.int .i64 xs)∧wA.cell? ⟨b13,2,none⟩=some (.int .i64 xd):=⟨bel_cell (w:=W4.drew) hbA e0,bel_cell (w:=W4.drew) hbA e1,bel_cell (w:=W4.drew) hbA o0,bel_cell (w:=W4.drew) hbA o1,bel_cell (w:=W4.drew) hbA o2⟩)
         | (go_at_call 197
            refine (cP.out _ ((HS4.out.below (bel_drew (Below.refl _ _))).below hbA).heap).mono ?_;rintro e wh ⟨rfl,S1,hh1,hh2,hKh⟩;have hSP:wh.cell? ⟨eb,0,none⟩=some (.int .i64 ds)∧wh.cell? ⟨eb,1,none⟩=some (.int .i64 dd)∧wh.cell? ⟨b13,0,none⟩=some (.int .i64 (t:Nat))∧wh.cell? ⟨b13,1,none⟩=some (.int .i64 xs)∧wh.cell? ⟨b13,2,none⟩=some (.int .i64 xd):=⟨cellK hKh heS hSA.1,cellK hKh heS hSA.2.1,cellK hKh hbS hSA.2.2.1,cellK hKh hbS hSA.2.2.2.1,cellK hKh hbS hSA.2.2.2.2⟩)))
       all_goals
        have hd4:=bel_drew (Below.refl W4.heap.size W4);have hXX:=Lib.hid (LfC.of_push ((HS4.out.below hd4).below hbA) ((HI4.out.below hd4).below hbA) HN.out heS hem hSA.1 hSA.2.1 (u:=.bool tb) (e:=.returned (.bool tb)) (⟨rfl,S1,hh1,hh2,hKh⟩:HeapD wA Sj q _ _ _ _ wh));have hadd:C.add ⟨ds,dd⟩ ⟨xs,xd⟩=⟨ds+xs,dd+xd⟩:=rfl;have hlw:S.Lw n k t ⟨xs,xd⟩:=⟨⟨Hkc.out.2.1,Hx.out.2.2,xm,Hx.out.2.1⟩,Hkc.out.2.2,htn⟩
        have hFn:FM (S.Lw n) fr g.n done2 (pushed hp2 t ⟨ds+xs,dd+xd⟩ tb) k (PendE L n (j+1)):=by
         cases tb with
         | false=>
          obtain ⟨d',q1,q2⟩:=lower_no Htb.out;exact HF.out.keep (b:=t) (e:=⟨xs,xd⟩) Hdk.out q1 q2 (PendE.next Hx.out.1 rfl)
         | true=>
          exact HF.out.push (sml_nn Hs.out n) (b:=t) (e:=⟨xs,xd⟩) Hdk.out hlw ⟨Hsx.out.2.1,Hsx.out.2.2.2⟩ ht1 Hdt.out (lower_yes Htb.out) (PendE.next Hx.out.1 rfl)
        have hFn:=Lib.hid hFn;clear cA cP HS4 HI4 e0 e1 o0 o1 o2 hadd hlw hh1 hh2 hKh hd4 hbA hSA hSP;go_wp2;go_roundw
        case rel=>first | exact ⟨j+1,by omega,by go_num,hXX.out.to hFn.out⟩ | ((repeat apply Exists.intro);exact ⟨⟨j+1,by omega,by go_num,hXX.out.to hFn.out⟩,rfl⟩)
        case measure=>simp [intOf];omega
    ·obtain rfl:j=nl:=by omega
     have hF:LfO w mo q S fr n g.n (g.n-cntS done2 g.n) wr:=⟨Sj,_,hp2,k,hS,hF.weaken (fun b e h=>by have:=PendE.over b e (by rw [Hnl.out];exact h);exact this),Nat.le_refl _⟩
     have hF:=Lib.hid hF;clear HS HF HN hS hI hN e0 e1;go_wp2;go_roundg (g.n-cntS done2 g.n)
     case measure=>omega
     case rel=>exact hF.out
def SrcK (g:G) (es:List Ed) (k:Nat):Nat→C→Prop:=fun s c=>g.Corner s∧∃(i:Nat) (e:Ed),i<k∧es[i]? = some e∧e.to_=(s:Nat)∧e.c=c
abbrev SrcO (g:G) (es:List Ed):Nat→C→Prop:=SrcK g es es.length
def EdsOk (es:List Ed):Prop:=∀e∈es,0≤e.c.s∧e.c.s≤1048576∧0≤e.c.d∧e.c.d≤1048576
theorem srcK_nn {g:G} {out:List Ed} (h:EdsOk out) {k s:Nat} {c:C} (hs:SrcK g out k s c):C.Nn c:=by
 obtain ⟨_,i,e,_,h1,_,rfl⟩:=hs;have:=h e (List.mem_of_getElem? h1);exact ⟨this.1,this.2.2.1⟩
theorem le_big {c:C} (h:0≤c.s∧c.s≤1048576∧0≤c.d∧c.d≤1048576):C.le c ⟨0,((2100000:Nat):Int)⟩:=by
 obtain ⟨s,d⟩:=c;simp only at h;refine C.le_trans (C.le_dd h.1) (C.le_of_parts (Int.le_refl _) ?_);simp only;omega
def TotL (g:G) (out inn:List Ed) (c:C):Prop:=∃(t:Nat) (c1:C) (e:Ed),FR.Reach g.GE (SrcO g out) t c1∧e∈inn∧e.to_=t∧c=C.add c1 e.c
def BestIs (g:G) (out inn:List Ed) (b:C) (fd:Bool):Prop:=(fd=false→b=C.zero∧∀c,¬TotL g out inn c)∧(fd=true→TotL g out inn b∧∀c,TotL g out inn c→C.le b c)
theorem le_step {c:C} (h:0≤c.s∧c.s≤2000∧0≤c.d∧c.d≤2000):C.le c ⟨0,((4000:Nat):Int)⟩:=by
 obtain ⟨s,d⟩:=c;simp only at h;refine C.le_trans (C.le_dd h.1) (C.le_of_parts (Int.le_refl _) ?_);simp only;omega
end Go.Proofs.YtokhnobcincfjaaGreatDoor
namespace Go.Proofs.YtokhnobcincfjaaGreatDoor
open FR
namespace G2
theorem first_corner {g:G}:∀(n:Nat) {a b:Nat} {c:C},(c.s+c.d).toNat≤n→g.Corner b→Dist g.E a b c→∃s c2,g.Corner s∧g.Direct a s∧Walk g.GE s b c2∧C.add (g.oct a s) c2=c:=by
 intro n
 induction n using Nat.strongRecOn with
 | _ n ih=>
  intro a b c hn hb h
  have split:∀ {q:Nat} {c1 c2:C},g.Corner q→Dist g.E a q c1→Dist g.E q b c2→C.add c1 c2=c→c2≠C.zero→∃s c2,g.Corner s∧g.Direct a s∧Walk g.GE s b c2∧C.add (g.oct a s) c2=c:=by
   intro q c1 c2 hq h1 h2 e z2;have l1:=G.sum_lt (G.wnn h1.1) (G.wnn h2.1) e z2;obtain ⟨s,c3,q1,q2,q3,q4⟩:=ih _ (Nat.lt_of_lt_of_le l1 hn) (Nat.le_refl _) hq h1;refine ⟨s,C.add c3 c2,q1,q2,q3.trans (G.corners_enough _ (Nat.le_refl _) hq hb h2),?_⟩;rw [←C.add_assoc,q4,e]
  by_cases hc:c=g.oct a b
  ·by_cases hd:g.Direct a b
   ·exact ⟨b,C.zero,hb,hd,.nil _,by rw [C.add_zero,hc]⟩
   ·have hnear:g.Near a b:=by unfold G.Near;rw [←hc];exact h.1
    have:∃k,g.Corner k∧k≠a∧k≠b∧g.Mid a b k:=by
     apply Classical.byContradiction
     intro hno
     exact hd ⟨hnear,fun k h1 h2 h3 h4=>hno ⟨k,h1,h2,h3,h4⟩⟩
    obtain ⟨k,hk,hka,hkb,p,q,h1,h2,h3⟩:=this;rw [←hc] at h3
    refine split hk ⟨h1,fun d k'=>?_⟩ ⟨h2,fun d k'=>?_⟩ h3 (fun e=>hkb (walk_zero h2 e).symm)
    ·have:=h.2 _ (k'.trans h2);rw [←h3] at this;exact (C.add_le_right _).1 this
    ·have:=h.2 _ (h1.trans k');rw [←h3] at this;exact (C.add_le_left _).1 this
  ·obtain ⟨q,c1,c2,hq,h1,h2,e,z1,z2⟩:=G.dist_corner h hc
   exact split hq h1 h2 e z2
theorem dist_rev {g:G} {a b:Nat} {c:C} (h:Dist g.E a b c):Dist g.E b a c:=
 ⟨Walk.rev (E:=g.E) (fun _ _ _ he=>G.E_symm he) h.1,fun d hd=>h.2 _ (Walk.rev (E:=g.E) (fun _ _ _ he=>G.E_symm he) hd)⟩
theorem by_corners {g:G} {a b:Nat} {c:C} (h:Dist g.E a b c) (hn:¬g.Near a b):∃s t c2,g.Corner s∧g.Corner t∧g.Direct a s∧g.Direct b t∧Walk g.GE s t c2∧C.add (C.add (g.oct a s) c2) (g.oct b t)=c:=by
 have hc:c≠g.oct a b:=fun e=>hn (by unfold G.Near;rw [←e];exact h.1)
 obtain ⟨q,c1,c2,hq,h1,h2,e,_,_⟩:=G.dist_corner h hc;obtain ⟨s,d1,a1,a2,a3,a4⟩:=first_corner _ (Nat.le_refl _) hq h1;obtain ⟨t,d2,b1,b2,b3,b4⟩:=first_corner _ (Nat.le_refl _) hq (dist_rev h2)
 refine ⟨s,t,C.add d1 d2,a1,b1,a2,b2,a3.trans (Walk.rev (E:=g.GE) (fun _ _ _ he=>G.GE_symm he) b3),?_⟩
 rw [←C.add_assoc,a4,C.add_assoc,C.add_comm d2,b4,e]
end G2
noncomputable abbrev eAt (g:G) (x:Nat):List Ed:=eUp g x true (cornersI g).length
theorem eAt_src {g:G} {x s:Nat} {c:C}:SrcO g (eAt g x) s c↔g.Corner s∧g.Direct x s∧c=g.oct x s:=by
 constructor
 ·rintro ⟨h1,i,e,_,h3,h4,h5⟩
  obtain ⟨y,q1,_,q2,rfl⟩:=mem_eUp.1 (List.mem_of_getElem? h3);obtain rfl:y=s:=Int.ofNat_inj.1 h4;exact ⟨h1,q2,h5.symm⟩
 ·rintro ⟨h1,h2,rfl⟩
  obtain ⟨i,hi⟩:=List.getElem?_of_mem (mem_eUp.2 ⟨s,h1,.inl rfl,h2,rfl⟩:(⟨(s:Nat),g.oct x s,-1⟩:Ed)∈eAt g x);exact ⟨h1,i,_,(List.getElem?_eq_some_iff.1 hi).1,hi,rfl,rfl⟩
theorem eAt_ok {g:G} (hok:g.ok) {x:Nat} (hx:x<g.n):EdsOk (eAt g x):=fun e he=>by
 obtain ⟨y,q1,_,_,rfl⟩:=mem_eUp.1 he;have:=G.oct_small hok q1.1 hx;simp only;omega
theorem eAt_tot {g:G} {x y:Nat} {c:C}:TotL g (eAt g x) (eAt g y) c↔∃s t c2,g.Corner s∧g.Corner t∧g.Direct x s∧g.Direct y t∧Walk g.GE s t c2∧C.add (C.add (g.oct x s) c2) (g.oct y t)=c:=by
 constructor
 ·rintro ⟨t,c1,e,⟨s,c0,d,h1,h2,rfl⟩,h4,h5,rfl⟩
  obtain ⟨q1,q2,rfl⟩:=eAt_src.1 h1;obtain ⟨z,r1,_,r2,rfl⟩:=mem_eUp.1 h4;obtain rfl:z=t:=Int.ofNat_inj.1 h5;exact ⟨s,z,d,q1,r1,q2,r2,h2,rfl⟩
 ·rintro ⟨s,t,c2,h1,h2,h3,h4,h5,rfl⟩
  exact ⟨t,_,⟨(t:Nat),g.oct y t,-1⟩,⟨s,_,c2,eAt_src.2 ⟨h1,h3,rfl⟩,h5,rfl⟩,mem_eUp.2 ⟨t,h2,.inl rfl,h4,rfl⟩,rfl,rfl⟩
theorem tot_walk {g:G} {x y:Nat} {c:C} (h:TotL g (eAt g x) (eAt g y) c):Walk g.E x y c:=by
 obtain ⟨s,t,c2,h1,h2,h3,h4,h5,rfl⟩:=eAt_tot.1 h;have w1:Walk g.E x s (g.oct x s):=h3.1;have w2:Walk g.E y t (g.oct y t):=h4.1
 exact (w1.trans (G.GE_walk h5)).trans (Walk.rev (E:=g.E) (fun _ _ _ he=>G.E_symm he) w2)
theorem eAt_oct {g:G} {y:Nat}:∀e∈eAt g y,∀t:Nat,e.to_=t→C.le (g.oct t y) e.c:=fun e he t ht=>by
 obtain ⟨z,_,_,_,rfl⟩:=mem_eUp.1 he;obtain rfl:z=t:=Int.ofNat_inj.1 ht;rw [G.oct_symm];exact C.le_refl _
end Go.Proofs.YtokhnobcincfjaaGreatDoor
namespace Go.Proofs.YtokhnobcincfjaaGreatDoor
open Go.RowKit Go.Sort FR Go.Lib
end Go.Proofs.YtokhnobcincfjaaGreatDoor
