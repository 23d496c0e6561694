/- Lemmas of this claim: FloodSays, RRay, RRay2, RRay3, RRay4, RRay5, Rays, REdges, RGraph, RConn, Conn, Lv1, Lv2, Lv3, Lv4, AsGraph, Links. -/
import Derived.Test.YtokhnobcincfjaaGreatDoorKNFt10
import Derived.Test.YtokhnobcincfjaaGreatDoorKNFt4
import Derived.Test.YtokhnobcincfjaaGreatDoorKNFt5
import Derived.Laws.CopyOwn
import Derived.Laws.Tables
import Derived.Test.YtokhnobcincfjaaGreatDoorKNFt1
import Derived.Test.YtokhnobcincfjaaGreatDoorKNFt2
import Derived.Deep.RegionHeld3
import Derived.Deep.MidRow
import Derived.Test.YtokhnobcincfjaaGreatDoorKNFt14
import Derived.Test.YtokhnobcincfjaaGreatDoorKNFt17
import Derived.Deep.DeepCutAuto
import Derived.Test.YtokhnobcincfjaaGreatDoorKNFt15
set_option linter.unusedVariables false
set_option linter.unusedSimpArgs false
set_option maxHeartbeats 3200000
set_option maxRecDepth 100000
namespace Go.Proofs.YtokhnobcincfjaaGreatDoor
open Go.RowKit Go.Sort FR
end Go.Proofs.YtokhnobcincfjaaGreatDoor
namespace Go.Proofs.YtokhnobcincfjaaGreatDoor
open Go.RowKit Go.Sort FR Go.Lib
open Classical in
noncomputable def eUp (g:G) (ca:Nat) (self:Bool) (k:Nat):List Ed:=
 ((List.range k).filter fun i=>decide (g.Direct ca (cf g i)) && (self || !(cf g i == ca))).map fun i=>⟨(cf g i:Nat),g.oct ca (cf g i),-1⟩
theorem eUp_len (g:G) (ca:Nat) (self:Bool) (k:Nat):(eUp g ca self k).length≤k:=by
 unfold eUp;rw [List.length_map]
 exact Nat.le_trans (List.length_filter_le _ _) (by simp)
open Classical in
theorem eUp_yes {g:G} {ca k:Nat} {self:Bool} (hd:g.Direct ca (cf g k)) (hs:self=true∨cf g k≠ca):eUp g ca self (k+1)=eUp g ca self k ++ [⟨(cf g k:Nat),g.oct ca (cf g k),-1⟩]:=by
 unfold eUp;rw [List.range_succ,List.filter_append,List.map_append]
 have:(decide (g.Direct ca (cf g k)) && (self || !(cf g k == ca)))=true:=by
  rcases hs with h | h <;> simp [hd,h]
 simp [this]
open Classical in
theorem eUp_no {g:G} {ca k:Nat} {self:Bool} (h:¬g.Direct ca (cf g k)∨(self=false∧cf g k=ca)):eUp g ca self (k+1)=eUp g ca self k:=by
 unfold eUp;rw [List.range_succ,List.filter_append,List.map_append]
 have:(decide (g.Direct ca (cf g k)) && (self || !(cf g k == ca)))=false:=by
  rcases h with h | ⟨h1,h2⟩
  ·simp [h]
  ·simp [h1,h2]
 simp [this]
open Classical in
theorem mem_eUp {g:G} {ca:Nat} {self:Bool} {e:Ed}:e∈eUp g ca self (cornersI g).length↔∃y:Nat,g.Corner y∧(self=true∨y≠ca)∧g.Direct ca y∧e=⟨y,g.oct ca y,-1⟩:=by
 unfold eUp;rw [List.mem_map]
 constructor
 ·rintro ⟨i,hi,rfl⟩
  rw [List.mem_filter,List.mem_range] at hi;obtain ⟨h1,h2⟩:=hi;simp only [Bool.and_eq_true,decide_eq_true_eq,Bool.or_eq_true,Bool.not_eq_true',beq_eq_false_iff_ne] at h2;exact ⟨_,(cf_at h1).2,h2.2,h2.1,rfl⟩
 ·rintro ⟨y,h1,h2,h3,rfl⟩
  obtain ⟨i,hi,rfl⟩:=cf_has h1;refine ⟨i,?_,rfl⟩;rw [List.mem_filter,List.mem_range];refine ⟨hi,?_⟩;simp only [Bool.and_eq_true,decide_eq_true_eq,Bool.or_eq_true,Bool.not_eq_true',beq_eq_false_iff_ne];exact ⟨h3,h2⟩
theorem OwnE.mono {w:World} {B B':Nat} {v:Value} {L:List Ed} (h:OwnE w B v L) (hB:B'≤B):OwnE w B' v L:=by
 refine ⟨h.1,?_⟩
 rcases h.2 with hn | ⟨g,cap,cur,rfl,hb,rest⟩
 ·exact .inl hn
 ·exact .inr ⟨g,cap,cur,rfl,Nat.le_trans hB hb,rest⟩
def RetE (w:World) (L:List Ed) (e:Ending) (w':World):Prop:=∃vE,e=.returned vE∧OwnE w' w.heap.size vE L∧Below w.heap.size w w'
theorem EMap.fresh {w wI wU : World} {S : List Nat} {mb N N2 : Nat} {E : Int → Option (List Ed)} {V : Int → Option Value} {a : Int} {v' : Value} {L' : List Ed}
    (h1:MapAt iK w mb V N) (h2:∀k,E k=none↔V k=none) (h3:∀k u L,V k=some u→E k=some L→OwnE w 0 u L) (h4:∀k u q,V k=some u→u.ownBlock=some q→q∈S) (h5:mb∉S)
    (h6:∀k k' u u' q,V k=some u→V k'=some u'→u.ownBlock=some q→u'.ownBlock=some q→k=k') (h7:∀s,s∈S→s<w.heap.size) (hb:Below w.heap.size w wI)
    (hO:OwnE wI w.heap.size v' L') (hM:MapAt iK wU mb (updK V a (some v')) N2) (hK:Kept [mb] wI wU):EMap wU (v'.ownBlock.toList ++ S) mb (updE E a (some L')):=by
 have hml:=h1.lt
 have hnew:∀q,v'.ownBlock=some q→w.heap.size≤q∧q<wI.heap.size:=fun q hq=>World.ownsRow.lt hO q hq
 refine ⟨_,N2,hM,fun k=>?_,fun k x L hx hL=>?_,fun k x q hx hq=>?_,?_,fun k k' x x' q hx hx' hq hq'=>?_,fun s hs=>?_⟩
 ·unfold updE updK
  split
  ·simp
  ·exact h2 k
 ·unfold updE at hL
  unfold updK at hx
  split at hx
  ·rename_i e
   rw [if_pos e] at hL
   injection hx with hx
   injection hL with hL
   subst hx;subst hL
   exact (hO.mono (Nat.zero_le _)).kept hK (fun q hq=>by have:=(hnew q hq).1;simp;omega)
  ·rename_i e
   rw [if_neg e] at hL
   exact ((h3 k x L hx hL).kept (T:=[]) (.of_below hb) (fun _ _=>by simp)).kept hK (fun q hq=>by
    have:=h4 k x q hx hq;simp;rintro rfl;exact h5 this)
 ·unfold updK at hx
  split at hx
  ·injection hx with hx
   subst hx
   exact List.mem_append_left _ (by rw [hq];simp)
  ·exact List.mem_append_right _ (h4 k x q hx hq)
 ·rw [List.mem_append]
  rintro (q | q)
  ·rw [Option.mem_toList] at q
   have:=(hnew mb q).1;omega
  ·exact h5 q
 ·unfold updK at hx hx'
  split at hx
  ·injection hx with hx
   subst hx
   split at hx'
   ·rename_i e1 e2;rw [e1,e2]
   ·have a1:=(hnew q hq).1
    have a2:=h7 q (h4 k' x' q hx' hq');omega
  ·split at hx'
   ·injection hx' with hx'
    subst hx';have a1:=(hnew q hq').1;have a2:=h7 q (h4 k x q hx hq);omega
   ·exact h6 k k' x x' q hx hx' hq hq'
 ·rcases List.mem_append.1 hs with q | q
  ·rw [Option.mem_toList] at q
   exact Nat.lt_of_lt_of_le (hnew s q).2 hK.size
  ·exact Nat.lt_of_lt_of_le (h7 s q) (Nat.le_trans hb.size hK.size)
theorem wpList_append_E {ops : Array Oper} {rest : List Oper} {o : Oper} {a : Act} {Q : Exit → Act → World → Prop} (w : World) (hgd : o.guard = none) (s x : Operand)
    (ho:o.op=.call { callee:=.builtin .append,args:=#[s,x],argTypes:=#[119,119] })
    (B:Nat) (v:Value) (L:List Ed) (e:Ed) (hs:a.eval s=v) (hown:OwnE w B v L) (ad:Addr) (hx:a.eval x=.slice (some ad) 1 1)
    (hc:∀j u,e.cells[j]? = some u→w.cell? (ad.add j)=some u) (hl:L.length≤100000) (hB:B≤w.heap.size)
    (h:∀v' w',OwnE w' B v' (L ++ [e])→w.grownBy w' v.ownBlock→wpList Tryz.prog ops Q rest (a.put o.dst v') w'):wpList Tryz.prog ops Q (o :: rest) a w:=by
 obtain ⟨i0,z0,hi,hz0,hz1,hz2,hz3⟩:=edge_parts
 refine wpList_append_own_at w hgd s x 119 ho B 182 i0 z0 4 32 Tryz.underlying119 hi hz0 hz1 hz2 hz3 (by decide) v L.length (edL L) hs hown ad 1 1 e.cells hx rfl hc (ed_one e) ?_ ?_ hB ?_
 ·unfold maxLen;omega
 ·omega
 ·intro v' w' h1 h2 _ _
  refine h v' w' ?_ h2;unfold OwnE;rw [List.length_append,edL_append,edL_cons,edL_nil,List.append_nil];exact h1
def RetE2 (w:World) (L:List Ed) (e:Ending) (w':World):Prop:=∃vE,e=.returned (.tuple #[vE,.nilIface])∧OwnE w' w.heap.size vE L∧Below w.heap.size w w'
theorem graphConnect (w : World) (b p mb : Nat) (S : List Nat) (g : G) (v : Int) (x : Nat) (E : Int → Option (List Ed)) (h : GraphOf w b p mb S g v E) (hE : ∀ z : Int, E z ≠ none ↔ ∃ c : Nat, z = c ∧ g.Corner c) (hx : x < g.n) (hfx : g.b x = false) :
    Calls Tryz.prog 85 #[.pointer (some ⟨b,0,none⟩),.int .i64 (x:Nat)] w (RetE2 w (eUp g x true (cornersI g).length)):=by
 have hok:=h.2.1.1;have hNn:=G.n_le hok
 have kb0:w.cell? ⟨b,0,none⟩=some (.pointer (some ⟨p,0,none⟩)):=by simp [World.cell?,h.1]
 have cF:=Lib.hid (gridFree_in w p g v x h.2.1 hx);rw [hfx] at cF;have H:=Lib.hid h;have HE:=Lib.hid hE;have Hok:=Lib.hid hok;have Hfx:=Lib.hid hfx;obtain ⟨n,hn⟩:∃n,(cornersI g).length=n:=⟨_,rfl⟩
 have hn256:n≤256:=by rw [←hn];exact corners_le hok
 have Hn:=Lib.hid hn;rw [hn];clear h hE hok hfx hn;go_enter Tryz.func85,Tryz.ntmps85;go_wp2_with fail
 (with_reducible refine cF.out.mono ?_)
 rintro e w1 ⟨rfl,hb1⟩;have H1:=Lib.hid (H.out.below hb1);have cN:=Lib.hid (graphNodesC w1 b p mb S g v E H1.out HE.out);have kb0:=bel_cell hb1 kb0;clear cF;go_wp2_with fail
 (with_reducible refine cN.out.mono ?_)
 rintro e W ⟨A,m,rfl,_,hI,_,hbW⟩
 rw [Hn.out] at hI ⊢
 have HW:=bel_trans hb1 hbW;have H2:=Lib.hid (H1.out.below hbW);have HI:=Lib.hid hI;have kb0:=bel_cell hbW kb0;have hbl:b<W.heap.size:=World.block_lt_of_cell? _ _ kb0;have Hkb:=Lib.hid kb0;clear cN hI kb0;go_wp2_with fail
 go_loopw [8,31] (fun lv kv wr=>∃i:Nat,kv=.int .i64 i∧i≤n∧OwnE wr W.heap.size lv (eUp g x true i)∧Below W.heap.size W wr) (fun _ kv _=>n-(intOf kv).toNat)
 case atStart=>exact ⟨0,rfl,by omega,OwnE.nil _ _,Below.refl _ _⟩
 case round=>
  obtain ⟨i,rfl,hi,hO,hB⟩:=hrel;have HO:=Lib.hid hO;have kb0:=bel_cell hB Hkb.out;clear hO
  by_cases hlt:i<n
  ·have hIr:=HI.out.below hB
   obtain ⟨ad,hA⟩:=hIr.addr (by omega)
   rw [hA] at hIr
   have hix:=fun wx=>idx_run (m:=m) hA hlt wx
   have hE:=hIr.cell (Below.refl _ _) hlt
   rw [(cf_at (by rw [Hn.out];exact hlt)).1] at hE
   obtain ⟨y,hy⟩:∃y,cf g i=y:=⟨_,rfl⟩
   have hyc:g.Corner y:=by rw [←hy];exact (cf_at (by rw [Hn.out];exact hlt)).2
   rw [hy] at hE;have Hy:=Lib.hid hy;obtain ⟨hyn,hyf⟩:=corner_free Hok.out hyc;obtain ⟨t,ht⟩:=boolQ (g.Direct x y);have Ht:=Lib.hid ht;have HGr:=Lib.hid (H2.out.2.1.below hB H2.out.2.1.lt);have cD:=Lib.hid (reachDirect_ok wr p g v x y t HGr.out hx hyn Hfx.out hyf ht);have hle:=eUp_len g x true i;have Hyf:=Lib.hid hyf;have Hyc:=Lib.hid hyc;clear hIr hA hy ht hyf hyc;go_wp2_with fail
   (with_reducible refine cD.out.mono ?_)
   rintro e w2 ⟨rfl,hb2⟩;have hB2:=bel_trans hB hb2;have kb0:=bel_cell hb2 kb0
   have hO2:=HO.out.kept (T:=[]) (.of_below hb2) (fun _ _=>by simp)
   have HO2:=Lib.hid hO2;clear cD hO2 HO hE
   cases t with
   | false=>
    have hno:¬g.Direct x y:=fun hh=>by have:=Ht.out.2 hh;cases this
    have hF:=HO2.out
    rw [←eUp_no (g:=g) (ca:=x) (k:=i) (self:=true) (.inl (by rw [Hy.out];exact hno))] at hF
    have hF:=Lib.hid hF;clear hno HO2 Ht;go_wp2
    first
     | exact ⟨⟨i+1,by go_num,by omega,hF.out,hB2⟩,by simp [intOf];omega⟩
     | (go_roundw;(case rel=>exact ⟨i+1,by go_num,by omega,hF.out,hB2⟩);(case measure=>simp [intOf];omega))
   | true=>
    have hyes:g.Direct x y:=Ht.out.1 rfl;obtain ⟨⟨os,od⟩,hox⟩:∃z,g.oct x y=z:=⟨_,rfl⟩;have cO:=Lib.hid (gOctile w2 p g v x y ⟨os,od⟩ (HGr.out.below hb2 HGr.out.lt) hx hyn hox)
    have hlist:=eUp_yes (g:=g) (ca:=x) (k:=i) (self:=true) (by rw [Hy.out];exact hyes) (.inl rfl)
    rw [Hy.out,hox] at hlist;have Hlist:=Lib.hid hlist;clear hyes hox hlist Ht;go_wp2_with fail
    (with_reducible refine cO.out.mono ?_)
    rintro e w3 ⟨rfl,hb3⟩
    have hO3:=Lib.hid (HO2.out.kept (T:=[]) (.of_below hb3) (fun _ _=>by simp))
    have hB3:=bel_trans hB2 hb3;clear cO HO2
    go_wp2_with (at_builtin;(refine wpList_append_E _ rfl _ _ rfl W.heap.size _ _ ⟨(y:Nat),⟨os,od⟩,-1⟩ rfl (hO3.out.kept (T:=[]) (.of_below (bel_alloc (Below.refl _ _))) (fun _ _=>by simp)) ⟨w3.heap.size,0,none⟩ rfl (fun j u hu=>by rw [Addr.add_lit,Nat.zero_add];exact new_edge (alloc_at w3 _ rfl) j u hu) (by omega) (by have:=hB3.size;simp;omega) ?_);intro v' w9 hown9 hgrow)
    have hF:=hown9;rw [←Hlist.out] at hF
    have hB9:Below W.heap.size W w9:=(bel_alloc hB3).grown hgrow (by have:=hB3.size;simp;omega) (fun k hk=>(World.ownsRow.lt hO3.out k hk).1)
    have hF:=Lib.hid hF;clear hown9 hgrow;go_wp2
    first
     | exact ⟨⟨i+1,by go_num,by omega,hF.out,hB9⟩,by simp [intOf];omega⟩
     | (go_roundw;(case rel=>exact ⟨i+1,by go_num,by omega,hF.out,hB9⟩);(case measure=>simp [intOf];omega))
  ·obtain rfl:i=n:=by omega
   have hfin:RetE2 w (eUp g x true i) (.returned (.tuple #[u8,.nilIface])) wr:=⟨_,rfl,HO.out.mono HW.size,bel_trans HW hB⟩;have hfin:=Lib.hid hfin;clear HO;go_wp2;go_ret2;exact hfin.out
def LvOf (w:World) (b ml me:Nat) (S:List Nat) (top:Int) (V:Int→Option Value) (nl:Nat) (E:Int→Option (List Ed)):Prop:=
 w.heap[b]? = some (.cells #[.map (some ml),.map (some me),.int .i64 top] 180 (0,0))∧MapAt iK w ml V nl∧EMap w S me E∧b∉S∧ml∉S∧b≠ml∧b≠me∧ml≠me
theorem LvOf.kept {w w':World} {b ml me nl:Nat} {S T:List Nat} {top:Int} {V:Int→Option Value} {E:Int→Option (List Ed)} (h:LvOf w b ml me S top V nl E) (hk:Kept T w w') (hT:∀k,k∈b :: ml :: me :: S→k∉T):LvOf w' b ml me S top V nl E:=by
 obtain ⟨g1,g2,g3,g4⟩:=h
 exact ⟨(hk.block b (Array.getElem?_eq_some_iff.1 g1).1 (hT b (by simp))).trans g1,g2.kept hk (hT ml (by simp)),g3.kept hk (fun s hs=>hT s (by simp [hs])) (hT me (by simp)),g4⟩
theorem LvOf.below {w w':World} {b ml me nl:Nat} {S:List Nat} {top:Int} {V:Int→Option Value} {E:Int→Option (List Ed)} (h:LvOf w b ml me S top V nl E) (hb:Below w.heap.size w w'):LvOf w' b ml me S top V nl E:=h.kept (T:=[]) (.of_below hb) (fun _ _=>by simp)
def LevOf (V:Int→Option Value) (lev:Int→Int):Prop:=∀z,(V z).getD (.int .i64 0)=.int .i64 (lev z)
def free0 (lev:Int→Int) (L:List Ed):List Ed:=L.filter fun e=>decide (lev e.to_=0)
theorem free0_snoc {lev:Int→Int} {L:List Ed} {i:Nat} {e:Ed} (h:L[i]? = some e):free0 lev (L.take (i+1))=free0 lev (L.take i) ++ (if lev e.to_=0 then [e] else []):=by
 obtain ⟨hi,he⟩:=List.getElem?_eq_some_iff.1 h;unfold free0;rw [List.take_succ_eq_append_getElem hi,List.filter_append,he]
 by_cases q:lev e.to_=0 <;> simp [q]
theorem lvEdges (w : World) (b ml me nl : Nat) (S : List Nat) (top : Int) (V : Int → Option Value) (lev : Int → Int) (E : Int → Option (List Ed)) (c : Int) (L : List Ed) (h : LvOf w b ml me S top V nl E) (hV : LevOf V lev) (hL : E c = some L) (hl : L.length ≤ 100000) :
    Calls Tryz.prog 166 #[.pointer (some ⟨b,0,none⟩),.int .i64 c] w (RetE w (free0 lev L)):=by
 obtain ⟨g1,g2,⟨W3,N,q1,q2,q3,_,_,_,_⟩,_⟩:=h
 have kb0:w.cell? ⟨b,0,none⟩=some (.map (some ml)):=by simp [World.cell?,g1]
 have kb1:w.cell? ⟨b,1,none⟩=some (.map (some me)):=by simp [World.cell?,g1]
 obtain ⟨u,hu⟩:∃u,W3 c=some u:=by
  cases hV:W3 c with
  | none=>rw [(q2 c).2 hV] at hL;cases hL
  | some u=>exact ⟨u,rfl⟩
 obtain ⟨A,cap,rfl,hEd⟩:=(q3 c u L hu hL).eds
 have hlk:(Instr.lookup 137 (.map (some me)) (.int .i64 c) false).run Tryz.prog w=.ok (.slice A L.length cap) w:=by
  have:=(q1.look (int_fit Tryz.underlying3) Tryz.underlying137 (z:=.slice none 0 0) (by simp [Tryz.zeroValue119]) c).2
  rw [hu] at this;exact this
 have hlv:∀w',Below w.heap.size w w'→∀z:Int,(Instr.lookup 142 (.map (some ml)) (.int .i64 z) false).run Tryz.prog w'=.ok (.int .i64 (lev z)) w':=fun w' hb z=>by
  have:=((g2.below hb).look (int_fit Tryz.underlying3) Tryz.underlying142 (z:=.int .i64 0) (by simp [Tryz.zeroValue3]) z).2
  rw [hV z] at this;exact this
 have Hlv:=Lib.hid hlv;have HEd:=Lib.hid hEd;obtain ⟨n,hn⟩:∃n,L.length=n:=⟨_,rfl⟩;rw [hn] at hlk
 have hn1:n≤100000:=by omega
 have Hn:=Lib.hid hn;clear g1 g2 q1 q2 q3 hu hV hlv hEd hn;go_enter Tryz.func166,Tryz.ntmps166;go_wp2_with fail;clear hlk
 go_loopw [5,15] (fun lv kv wr=>∃i:Nat,kv=.int .i64 i∧i≤n∧OwnE wr w.heap.size lv (free0 lev (L.take i))∧Below w.heap.size w wr) (fun _ kv _=>n-(intOf kv).toNat)
 case atStart=>exact ⟨0,rfl,by omega,OwnE.nil _ _,Below.refl _ _⟩
 case round=>
  obtain ⟨i,rfl,hi,hO,hB⟩:=hrel;have HO:=Lib.hid hO;have k0:=bel_cell hB kb0;clear hO
  by_cases hlt:i<n
  ·obtain ⟨e,he⟩:∃e,L[i]? = some e:=⟨L[i]'(by rw [Hn.out];exact hlt),List.getElem?_eq_getElem _⟩
   obtain ⟨gb,hA,a1,a2,a3,a4⟩:=(HEd.out.below hB).get he
   have hix:=fun wx=>idxE (m:=cap) hA hlt wx
   have He:=Lib.hid he;obtain ⟨xt,⟨xs,xd⟩,xm⟩:=e;simp only at a1 a2 a3 a4;clear hA he
   go_upto_region 5 with (fail)
   refine wp_name ?_;intro W hW
   have HW:Below w.heap.size w W:=by rw [hW];exact bel_alloc hB
   have hbW:Below wr.heap.size wr W:=by rw [hW];exact bel_alloc (Below.refl _ _)
   obtain ⟨b7,hb7⟩:∃z,wr.heap.size=z:=⟨_,rfl⟩
   have o0:W.cell? ⟨b7,0,none⟩=some (.int .i64 xt):=by rw [hW,←hb7];go_simp
   have o1:W.cell? ⟨b7,1,none⟩=some (.int .i64 xs):=by rw [hW,←hb7];go_simp
   have o2:W.cell? ⟨b7,2,none⟩=some (.int .i64 xd):=by rw [hW,←hb7];go_simp
   have o3:W.cell? ⟨b7,3,none⟩=some (.int .i64 xm):=by rw [hW,←hb7];go_simp
   have k0:=bel_cell hbW k0
   have HOW:=Lib.hid (HO.out.kept (T:=[]) (.of_below hbW) (fun _ _=>by simp))
   obtain ⟨t,ht⟩:∃t,lev xt=t:=⟨_,rfl⟩
   have hlq:∀n,(Instr.lookup 142 (.map (some ml)) (.int .i64 xt) false).run Tryz.prog (W.drewN n)=.ok (.int .i64 t) (W.drewN n):=fun n=>by rw [←ht];exact Hlv.out _ (bel_drewN HW) xt
   have hsn:=Lib.hid (free0_snoc (lev:=lev) He.out)
   have hlt':(free0 lev (L.take i)).length≤100000:=by
    unfold free0
    have h1:=List.length_filter_le (fun e:Ed=>decide (lev e.to_=0)) (L.take i)
    have h2:(L.take i).length≤n:=by rw [List.length_take,Hn.out];omega
    have:=Hn.out;omega
   have Ht:=Lib.hid ht;rw [hb7];clear hW hb7 hbW HO a1 a2 a3 a4 hix hB ht
   by_cases ht0:t=0
   ·subst ht0
    have hd:((0:Int) == 0)=true:=rfl;have hlist:=hsn.out
    rw [if_pos (show lev (Ed.mk xt ⟨xs,xd⟩ xm).to_=0 from Ht.out)] at hlist
    have Hlist:=Lib.hid hlist;clear hlist hsn;go_quiet (fail);have o0:=bel_cell (bel_drewN (n:=nq) (Below.refl W.heap.size W)) o0;have o1:=bel_cell (bel_drewN (n:=nq) (Below.refl W.heap.size W)) o1;have o2:=bel_cell (bel_drewN (n:=nq) (Below.refl W.heap.size W)) o2;have o3:=bel_cell (bel_drewN (n:=nq) (Below.refl W.heap.size W)) o3;have HB5:Below w.heap.size w (W.drewN nq):=bel_drewN HW
    have HO5:=Lib.hid (HOW.out.kept (w':=W.drewN nq) (T:=[]) (.of_below (bel_drewN (Below.refl _ _))) (fun _ _=>by simp))
    clear hlq k0 HOW HW
    generalize W.drewN nq=w5 at o0 o1 o2 o3 HB5 HO5 ⊢
    go_wp2_with (at_builtin;(refine wpList_append_E _ rfl _ _ rfl w.heap.size _ _ ⟨xt,⟨xs,xd⟩,xm⟩ rfl (HO5.out.kept (T:=[]) (.of_below (bel_alloc (Below.refl _ _))) (fun _ _=>by simp)) ⟨w5.heap.size,0,none⟩ rfl (fun j u hu=>by rw [Addr.add_lit,Nat.zero_add];exact new_edge (alloc_at w5 _ rfl) j u hu) hlt' (by have:=HB5.size;simp;omega) ?_);intro v' w9 hown9 hgrow)
    have hF:=hown9;rw [←Hlist.out] at hF
    have hB9:Below w.heap.size w w9:=(bel_alloc HB5).grown hgrow (by have:=HB5.size;simp;omega) (fun k hk=>(World.ownsRow.lt HO5.out k hk).1)
    have hF:=Lib.hid hF;clear hown9 hgrow;go_wp2
    first
     | exact ⟨⟨i+1,by go_num,by omega,hF.out,hB9⟩,by simp [intOf];omega⟩
     | (go_roundw;(case rel=>exact ⟨i+1,by go_num,by omega,hF.out,hB9⟩);(case measure=>simp [intOf];omega))
   ·have hd:(t == 0)=false:=by simpa using ht0
    have hlist:=hsn.out
    rw [if_neg (show ¬lev (Ed.mk xt ⟨xs,xd⟩ xm).to_=0 by show ¬lev xt=0;rw [Ht.out];exact ht0),List.append_nil] at hlist
    have Hlist:=Lib.hid hlist;clear hlist hsn;go_quiet (fail);have HB5:Below w.heap.size w (W.drewN nq):=bel_drewN HW
    have hF:=HOW.out.kept (w':=W.drewN nq) (T:=[]) (.of_below (bel_drewN (Below.refl _ _))) (fun _ _=>by simp)
    rw [←Hlist.out] at hF;have hF:=Lib.hid hF;clear hlq k0 HOW HW o0 o1 o2 o3;go_wp2
    first
     | exact ⟨⟨i+1,by go_num,by omega,hF.out,HB5⟩,by simp [intOf];omega⟩
     | (go_roundw;(case rel=>exact ⟨i+1,by go_num,by omega,hF.out,HB5⟩);(case measure=>simp [intOf];omega))
  ·obtain rfl:i=n:=by omega
   have hF:=HO.out
   rw [List.take_of_length_le (by rw [Hn.out];exact Nat.le_refl _)] at hF
   have hfin:RetE w (free0 lev L) (.returned u5) wr:=⟨_,rfl,hF,hB⟩;have hfin:=Lib.hid hfin;clear HO hF k0;go_wp2;go_ret;exact hfin.out
def NodL (W:World) (ml r:Nat) (V:Int→Option Value) (lev:Int→Int) (lv:Value) (wr:World):Prop:=
 ∃left cnt zs,RangeAt iK wr ml r V left cnt∧OwnI wr (r+1) lv zs∧zs.Nodup∧(∀z,z∈zs↔(V z≠none∧lev z=0)∧¬left z)∧Below W.heap.size W wr
theorem lvLeft (w : World) (b mb me nl : Nat) (S : List Nat) (top : Int) (V : Int → Option Value) (lev : Int → Int) (E : Int → Option (List Ed)) (M : List Int) (h : LvOf w b mb me S top V nl E) (hV : ∀ z u, V z = some u → u = .int .i64 (lev z))
    (hM:M.Pairwise (· < ·)) (hm:∀z,z∈M↔V z≠none∧lev z=0) (hb:∀z,V z≠none→0≤z∧z<256) :
    Calls Tryz.prog 165 #[.pointer (some ⟨b,0,none⟩)] w (RetIntsC w M):=by
 obtain ⟨g1,q1,_⟩:=h
 have kb1:w.cell? ⟨b,0,none⟩=some (.map (some mb)):=by simp [World.cell?,g1]
 have hmlt:=q1.lt;have HVV:=Lib.hid hV;have HMs:=Lib.hid hM;have HMm:=Lib.hid hm;have Hb:=Lib.hid hb;clear g1 hV hM hm hb;go_enter Tryz.func165,Tryz.ntmps165;go_wp2_with (at_range;refine wpList_rangeM rfl _ rfl iK_inj Tryz.underlying142 q1 rfl ?_;intro w1 hrg hb1 hs1);go_frame;obtain ⟨r,hr⟩:∃z,w.heap.size=z:=⟨_,rfl⟩
 rw [hr] at hrg ⊢
 have hstart:NodL w mb r V lev (.slice none 0 0) w1:=⟨_,_,[],hrg,OwnI.nil _ _,by simp,fun z=>by simp;intro h _;exact h,hb1⟩
 have hbound:∀zs:List Int,zs.Nodup→(∀z∈zs,V z≠none)→zs.length≤256:=fun zs h1 h2=>nodup_len h1 (fun z hz=>Hb.out z (h2 z hz))
 have Hbound:=Lib.hid hbound
 have hrw:w.heap.size≤r:=by omega
 have hmr:mb<r:=by omega
 clear hrg hb1 hs1 q1 kb1 hbound hr
 go_loopw [3] (fun lv wr=>NodL w mb r V lev lv wr) (fun _ wr=>wr.rangeLeft mb r)
 case atStart=>exact hstart
 case round=>
  obtain ⟨left,cnt,zs,hrg,hO,hnd,hmem,hB⟩:=hrel;clear hstart;have hleft:=Lib.hid hrg.left_eq;have Hnd:=Lib.hid hnd;have Hmem:=Lib.hid hmem
  have hl256:=Hbound.out zs hnd (fun z hz=>((hmem z).1 hz).1.1)
  clear hnd hmem;go_wp2_with (at_next;refine wpList_nextM rfl _ rfl iK_inj hrg rfl ?_ ?_)
  ·intro h0 hl
   have hall:∀z,z∈zs↔z∈M:=fun z=>by
    rw [Hmem.out z,and_iff_left (hl z),HMm.out z]
   have hsort:=sort_rising Hnd.out HMs.out hall;have Hsort:=Lib.hid hsort
   have cS:=Lib.hid (intsSort wr (r+1) _ zs hO (by omega) (by have:=hrg.lt.2;omega))
   clear hl hall hsort hrg;go_wp2_with fail
   (with_reducible refine cS.out.mono ?_)
   rintro e w2 ⟨rfl,hO2,hb2⟩;rw [Hsort.out] at hO2
   have hBE:Below w.heap.size w w2:=hB.trans (hb2.mono (by omega))
   have hfin:=Lib.hid (ret_intsC (OwnI.mono hO2 (by omega)) hBE)
   clear hO2 hb2 hBE;go_wp2;go_ret;exact hfin.out
  ·intro k u w4 cnt4 hk hlk hrg4 hlt4 hK4 hs4 hen
   obtain rfl:=HVV.out k u hk
   have hO4:=hO.keptAt (S:=[r]) hK4 (by simp)
   have hB4:Below w.heap.size w w4:=Kept.below hB hK4 hB.size (by simp;omega)
   have hrl:=hrg4.lt;have Hrg4:=Lib.hid hrg4
   have hs4r:r+1≤w4.heap.size:=by omega
   by_cases ht0:lev k=0
   ·have hkz:k∉zs:=fun h=>((Hmem.out k).1 h).2 hlk
    have hnd2:(zs ++ [k]).Nodup:=by
     rw [List.nodup_append]
     exact ⟨Hnd.out,by simp,fun a ha b hb=>by simp at hb;subst hb;intro e;subst e;exact hkz ha⟩
    have hmem2:∀z,z∈zs ++ [k]↔(V z≠none∧lev z=0)∧¬(left z∧¬z=k):=fun z=>by
     rw [List.mem_append,Hmem.out z,List.mem_singleton]
     constructor
     ·rintro (⟨a,c⟩ | rfl)
      ·exact ⟨a,fun h=>c h.1⟩
      ·exact ⟨⟨by rw [hk];simp,ht0⟩,fun h=>h.2 rfl⟩
     ·rintro ⟨a,c⟩
      by_cases e:z=k
      ·exact .inr e
      ·exact .inl ⟨a,fun h=>c ⟨h,e⟩⟩
    have Hnd2:=Lib.hid hnd2;have Hmem2:=Lib.hid hmem2
    rw [ht0] at hen ⊢
    rw [show iK k=.int .i64 k from rfl] at hen ⊢
    clear hrg hO hB hkz hnd2 hmem2 hrg4 hlk hk hs4
    go_wp2_with (at_builtin;(refine wpList_append_int _ rfl _ _ rfl (r+1) _ _ _ rfl (hO4.alloc _) ⟨w4.heap.size,0,none⟩ rfl (cell1_new _ _ _) (by omega) (by simp;omega) ?_);intro v' w9 hown9 hgrow)
    have hB9:=below_grown (hB4.alloc (by omega) _) (by simp;omega) ((OwnI.mono hO4 (show w.heap.size≤r+1 by omega)).alloc _) hgrow
    have hrow:∀q,_=some q→r+1≤q:=fun q hq=>(World.ownsRow.lt hO4 q hq).1
    have hrg9:=(Hrg4.out.below (bel_alloc (Below.refl _ _))).kept (w':=w9) (S:=(Value.ownBlock _).toList) ⟨hgrow.os,hgrow.tape,hgrow.output,hgrow.size,fun q hq hn=>hgrow.block q hq (fun e=>hn (by rw [←e];simp))⟩
     (by intro hh;rw [Option.mem_toList] at hh;have:=hrow _ hh;omega) (by intro hh;rw [Option.mem_toList] at hh;have:=hrow _ hh;omega)
    have hfin:NodL w mb r V lev v' w9:=⟨_,cnt4,_,hrg9,hown9,Hnd2.out,Hmem2.out,hB9⟩;have hle:=hrg9.left_eq;have hle:=Lib.hid hle;have hfin:=Lib.hid hfin;clear hown9 hgrow hO4 hB9 hrg9 hrow hen;go_wp2;go_roundw
    case rel=>first | exact hfin.out | ((repeat apply Exists.intro);exact ⟨hfin.out,rfl⟩)
    case measure=>rw [hleft.out,hle.out];exact hlt4
   ·have hmem2 : ∀ z, z ∈ zs ↔ (V z ≠ none ∧ lev z = 0) ∧ ¬ (left z ∧ ¬ z = k) := fun z => by
      rw [Hmem.out z]
      constructor
      ·rintro ⟨a,c⟩;exact ⟨a,fun h=>c h.1⟩
      ·rintro ⟨a,c⟩
       refine ⟨a,fun h=>c ⟨h,fun e=>?_⟩⟩
       subst e;exact ht0 a.2
    obtain ⟨t,ht⟩:∃t,lev k=t:=⟨_,rfl⟩
    rw [ht] at hen ht0 ⊢
    rw [show iK k=.int .i64 k from rfl] at hen ⊢
    have hd:(t == 0)=false:=by simpa using ht0
    have hfin:NodL w mb r V lev _ w4:=⟨_,cnt4,_,Hrg4.out,hO4,Hnd.out,hmem2,hB4⟩;have hle:=Lib.hid Hrg4.out.left_eq;have hfin:=Lib.hid hfin;clear hrg hO hB hmem2 hrg4 hlk hk hs4 hO4 hB4 ht;go_wp2;go_roundw
    case rel=>first | exact hfin.out | ((repeat apply Exists.intro);exact ⟨hfin.out,rfl⟩)
    case measure=>rw [hleft.out,hle.out];exact hlt4
end Go.Proofs.YtokhnobcincfjaaGreatDoor
namespace Go.Proofs.YtokhnobcincfjaaGreatDoor
open Go.RowKit Go.Sort FR
theorem lvPutCl (w : World) (e : Ed) (t : Int) (h1 : inC e.to_) (h2 : inC t) :
    Calls Tryz.prog 220 #[.agg #[.int .i64 e.to_,.int .i64 e.c.s,.int .i64 e.c.d,.int .i64 e.mid],.int .i64 t] w fun r w'=>r=.returned (.int .i64 (e.to_-t))∧Below w.heap.size w w':=by
 obtain ⟨x,⟨s,d⟩,m⟩:=e
 simp only at h1 ⊢
 unfold inC at h1 h2
 have hw:IntKind.i64.wrap (x-t)=x-t:=IntWalk.i64_in _ (by omega)
 go_enter Tryz.func220,Tryz.ntmps220;go_wp2;go_ret
 exact ⟨rfl,by (repeat' (first | exact Below.refl _ _ | assumption | apply bel_drewN | apply bel_drew | apply bel_alloc | (refine bel_trans ?_ (by assumption))))⟩
theorem lvBin (w : World) (A : Option Addr) (n cap : Nat) (L : List Ed) (t : Int)
    (h:EdsAt w A L) (hn:L.length=n) (hs:Srt L) (hb:∀e∈L,inC e.to_) (ht:inC t) (hl:n≤100000) :
    Calls Tryz.prog 216 #[.slice A n cap,.int .i64 t,.func (.func 220) #[] #[]] w (BinD w L t):=by
 have hs:=Lib.hid hs;have hb:=Lib.hid hb;have Hn:=Lib.hid hn;have h:=Lib.hid h;clear hn;go_enter Tryz.func216,Tryz.ntmps216;go_wp2_with fail
 go_loopw [9,10] (fun iv jv wr=>∃i j:Nat,iv=.int .i64 i∧jv=.int .i64 j∧i≤j∧j≤n∧(∀k e,L[k]? = some e→k<i→e.to_<t)∧(∀k e,L[k]? = some e→j≤k→t≤e.to_)∧Below w.heap.size w wr) (fun iv jv _=>(intOf jv).toNat-(intOf iv).toNat)
 case atStart=>exact ⟨0,n,rfl,rfl,by omega,by omega,fun k e _ h=>by omega,fun k e hk hj=>by have:=(List.getElem?_eq_some_iff.1 hk).1;have:=Hn.out;omega,Below.refl _ _⟩
 case round=>
  obtain ⟨i,j,rfl,rfl,hij,hjn,h1,h2,HB⟩:=hrel;have h1:=Lib.hid h1;have h2:=Lib.hid h2
  by_cases hlt:i<j
  ·have hw1:IntKind.i64.wrap ((i:Int)+(j:Int))=(i:Int)+(j:Int):=IntWalk.i64_in _ (by omega)
   go_upto_region 5 with (fail)
   have hmm:((i:Int)+(j:Int)) / 2=(((i+j) / 2:Nat):Int):=by omega
   have hm1:i≤(i+j) / 2:=by omega
   have hm2:(i+j) / 2<j:=by omega
   rw [hmm];obtain ⟨m,hm⟩:∃m,(i+j) / 2=m:=⟨_,rfl⟩
   rw [hm] at hm1 hm2 ⊢
   clear hm hmm hw1
   have hmn:m<n:=by omega
   obtain ⟨e,he⟩:∃e,L[m]? = some e:=⟨L[m]'(by rw [Hn.out];exact hmn),List.getElem?_eq_getElem _⟩
   have He:=Lib.hid he;obtain ⟨g,hA,a1,a2,a3,a4⟩:=(h.out.below HB).get he
   have hix:=fun wx=>idxE (m:=cap) hA hmn wx
   have cF:=Lib.hid (lvPutCl wr e t (hb.out e (List.mem_of_getElem? he)) ht);have hin:inC e.to_:=hb.out e (List.mem_of_getElem? he)
   have hk1:e.to_<t→∀k x,L[k]? = some x→k<m+1→x.to_<t:=fun hl k x hx hk=>by
    by_cases e1:k=m
    ·subst e1;rw [hx] at he;injection he with he;rw [he];exact hl
    ·exact Int.lt_trans (hs.out k m x e (by omega) hx he) hl
   have hk2:t≤e.to_→∀k x,L[k]? = some x→m≤k→t≤x.to_:=fun hl k x hx hk=>by
    by_cases e1:k=m
    ·subst e1;rw [hx] at he;injection he with he;rw [he];exact hl
    ·have:=hs.out m k e x (by omega) he hx
     omega
   have hk1:=Lib.hid hk1;have hk2:=Lib.hid hk2;obtain ⟨x,hx⟩:∃x,e.to_=x:=⟨_,rfl⟩;rw [hx] at a1 cF hin hk1 hk2;obtain ⟨xs,hxs⟩:∃x,e.c.s=x:=⟨_,rfl⟩;obtain ⟨xd,hxd⟩:∃x,e.c.d=x:=⟨_,rfl⟩;obtain ⟨xm,hxm⟩:∃x,e.mid=x:=⟨_,rfl⟩;rw [hxs] at a2 cF;rw [hxd] at a3 cF;rw [hxm] at a4 cF;clear hA he hx hxs hxd hxm;go_wp2_with fail
   (with_reducible refine cF.out.mono ?_)
   rintro r w2 ⟨rfl,hb2⟩;have HB2:=bel_trans HB hb2;clear a1 a2 a3 a4 cF hix;unfold inC at hin
   by_cases hxt:x<t
   ·have hd:decide (x-t<0)=true:=by simp;omega
    have hk1:=Lib.hid (hk1.out hxt)
    have hwm:IntKind.i64.wrap ((m:Int)+1)=((m+1:Nat):Int):=by rw [IntWalk.i64_in _ (by omega)];omega
    clear hk2;go_wp2;go_roundw
    case rel=>exact ⟨m+1,j,rfl,rfl,by omega,by omega,hk1.out,h2.out,HB2⟩
    case measure=>simp [intOf];omega
   ·have hd:decide (x-t<0)=false:=by simp;omega
    have hk2:=Lib.hid (hk2.out (by omega))
    clear hk1;go_wp2;go_roundw
    case rel=>exact ⟨i,m,rfl,rfl,by omega,by omega,h1.out,hk2.out,HB2⟩
    case measure=>simp [intOf];omega
  ·obtain rfl:i=j:=by omega
   have hcut:∀k x,L[k]? = some x→(k<i↔x.to_<t):=fun k x hx=>by
    constructor
    ·exact fun hk=>h1.out k x hx hk
    ·intro hl
     by_cases hk:k<i
     ·exact hk
     ·have:=h2.out k x hx (by omega)
      omega
   have Hcut:=Lib.hid hcut;clear hcut;clear h1 h2
   by_cases hin:i<n
   ·obtain ⟨e,he⟩:∃e,L[i]? = some e:=⟨L[i]'(by rw [Hn.out];exact hin),List.getElem?_eq_getElem _⟩
    obtain ⟨g,hA,a1,a2,a3,a4⟩:=(h.out.below HB).get he
    have hix:=fun wx=>idxE (m:=cap) hA hin wx
    have cF:=Lib.hid (lvPutCl wr e t (hb.out e (List.mem_of_getElem? he)) ht);have hinx:inC e.to_:=hb.out e (List.mem_of_getElem? he);obtain ⟨fd,hfd⟩:∃fd,(e.to_-t == 0)=fd:=⟨_,rfl⟩
    have hfin:fd=true↔∃x,L[i]? = some x∧x.to_=t:=by
     rw [←hfd,he];simp;omega
    have Hfin:=Lib.hid hfin;clear hfin;have Hfd:=Lib.hid hfd;obtain ⟨x,hx⟩:∃x,e.to_=x:=⟨_,rfl⟩;rw [hx] at a1 cF Hfd;obtain ⟨xs,hxs⟩:∃x,e.c.s=x:=⟨_,rfl⟩;obtain ⟨xd,hxd⟩:∃x,e.c.d=x:=⟨_,rfl⟩;obtain ⟨xm,hxm⟩:∃x,e.mid=x:=⟨_,rfl⟩;rw [hxs] at a2 cF;rw [hxd] at a3 cF;rw [hxm] at a4 cF
    have q:(i:Int)<(n:Int):=by omega
    clear hA he hx hxs hxd hxm hfd hinx;go_wp2_with fail
    (with_reducible refine cF.out.mono ?_)
    rintro r w2 ⟨rfl,hb2⟩;have HB2:=bel_trans HB hb2;clear a1 a2 a3 a4 cF hix hb2
    have hret:BinD w L t (.returned (.tuple #[.int .i64 (i:Nat),.bool fd])) w2:=⟨i,fd,rfl,by rw [Hn.out];omega,Hcut.out,Hfin.out,HB2⟩
    rw [←Hfd.out] at hret;have Hret:=Lib.hid hret;clear hret;go_wp2;go_ret2;exact Hret.out
   ·obtain rfl:i=n:=by omega
    have hfin:false=true↔∃x,L[i]? = some x∧x.to_=t:=by
     rw [List.getElem?_eq_none (by rw [Hn.out];omega)]
     simp
    have Hfin:=Lib.hid hfin;clear hfin
    have hret:BinD w L t (.returned (.tuple #[.int .i64 (i:Nat),.bool false])) wr:=⟨i,false,rfl,by rw [Hn.out];omega,Hcut.out,Hfin.out,HB⟩
    have Hret:=Lib.hid hret;clear hret;go_wp2;go_ret2;exact Hret.out
theorem lvBin2 (w : World) (A : Option Addr) (n cap : Nat) (L : List Ed) (t : Int) (h : EdsAt w A L) (hn : L.length = n) (hs : Srt L) (hb : ∀ e ∈ L, inC e.to_) (ht : inC t) (hl : n ≤ 100000) :
    Calls Tryz.prog 216 #[.slice A n cap,.int .i64 t,.func (.func 220) #[] #[]] w fun r w'=>r=.returned (.tuple #[.int .i64 (lowN L t:Nat),.bool (hasE L t)])∧Below w.heap.size w w':=by
 refine (lvBin w A n cap L t h hn hs hb ht hl).mono ?_;rintro r w' ⟨i,fd,rfl,h1,h2,h3,h4⟩;have e:=low_of h1 h2;subst e;rw [has_at hs] at h3;have e2:fd=hasE L t:=Bool.eq_iff_iff.2 h3;rw [e2];exact ⟨rfl,h4⟩
theorem lvPut (w : World) (S : List Nat) (b ml mb : Nat) (top : Int) (E : Int → Option (List Ed)) (a : Int) (x : Ed) (L : List Ed) (hb : w.heap[b]? = some (.cells #[.map (some ml), .map (some mb), .int .i64 top] 180 (0, 0))) (hE : EMap w S mb E) (hbS : b ∉ S) (hbm : b ≠ mb)
    (hL:E a=some L) (hs:Srt L) (hin:∀e∈L,inC e.to_) (hx:inC x.to_) (hl:L.length≤1000) :
    Calls Tryz.prog 168 #[.pointer (some ⟨b,0,none⟩),.int .i64 a,.agg #[.int .i64 x.to_,.int .i64 x.c.s,.int .i64 x.c.d,.int .i64 x.mid]] w (PutD w S mb (updE E a (some (putS L x)))):=by
 have hmlt:=hE.lt;obtain ⟨V,N,h1,h2,h3,h4,h5,h6,h7⟩:=hE
 obtain ⟨u,hu⟩:∃u,V a=some u:=by
  cases hV:V a with
  | none=>rw [(h2 a).2 hV] at hL;cases hL
  | some u=>exact ⟨u,rfl⟩
 have hO:=h3 a u L hu hL
 have hqS:∀q,u.ownBlock=some q→q∈S:=fun q hq=>h4 a u q hu hq
 obtain ⟨A,cap,rfl,hEd⟩:=hO.eds;have hbl:b<w.heap.size:=(Array.getElem?_eq_some_iff.1 hb).1
 have hlk:∀w',Below w.heap.size w w'→(Instr.lookup 137 (.map (some mb)) (.int .i64 a) false).run Tryz.prog w'=.ok (.slice A L.length cap) w':=fun w' hbw=>by
  have:=((h1.below hbw).look (int_fit Tryz.underlying3) Tryz.underlying137 (z:=.slice none 0 0) (by simp [Tryz.zeroValue119]) a).2
  rw [hu] at this;exact this
 obtain ⟨xt,⟨xs,xd⟩,xm⟩:=x
 simp only at hx ⊢
 have H1:=Lib.hid h1;have H2:=Lib.hid h2;have H3:=Lib.hid h3;have H4:=Lib.hid h4;have H6:=Lib.hid h6;have H7:=Lib.hid h7;have HO:=Lib.hid hO;have Hu:=Lib.hid hu;have HqS:=Lib.hid hqS;have Hlk:=Lib.hid hlk;obtain ⟨i,hi⟩:∃i,lowN L xt=i:=⟨_,rfl⟩;obtain ⟨fd,hfd⟩:∃i,hasE L xt=i:=⟨_,rfl⟩
 have hil:i≤L.length:=by rw [←hi];exact (low_spec hs xt).1
 have cB:=Lib.hid (fun w' (hb':Below w.heap.size w w')=>(show Calls Tryz.prog 216 #[.slice A L.length cap,.int .i64 xt,.func (.func 220) #[] #[]] w' fun r w2=>r=.returned (.tuple #[.int .i64 (i:Nat),.bool fd])∧Below w'.heap.size w' w2 by
  have:=lvBin2 w' A L.length cap L xt (hEd.below hb') rfl hs hin hx (by omega)
  rw [hi,hfd] at this;exact this))
 have hins:insS L ⟨xt,⟨xs,xd⟩,xm⟩=L.take i ++ (⟨xt,⟨xs,xd⟩,xm⟩:Ed) :: L.drop i:=by unfold insS;rw [←hi]
 have hput:putS L ⟨xt,⟨xs,xd⟩,xm⟩=if fd=true then L.set i ⟨xt,⟨xs,xd⟩,xm⟩ else L.take i ++ (⟨xt,⟨xs,xd⟩,xm⟩:Ed) :: L.drop i:=by
  unfold putS;rw [hins];simp only [hfd,hi]
 rw [hput];have Hfd:=Lib.hid hfd;have Hi:=Lib.hid hi;have HsL:=Lib.hid hs;obtain ⟨n,hn⟩:∃n,L.length=n:=⟨_,rfl⟩;rw [hn] at hl hil HO HqS Hu Hlk cB;have Hn:=Lib.hid hn;have HB0:=Lib.hid hb
 have kb1:w.cell? ⟨b,1,none⟩=some (.map (some mb)):=by simp [World.cell?,hb]
 have hx:=Lib.hid hx;clear h1 h2 h3 h4 h6 h7 hO hu hqS hlk hEd hi hfd hins hin hs hL hn hb;go_enter Tryz.func168,Tryz.ntmps168
 go_upto_region 1 with (fail)
 refine wp_name ?_;intro W hW
 have HW:Below w.heap.size w W:=by rw [hW];(repeat' (first | exact Below.refl _ _ | assumption | apply bel_drewN | apply bel_drew | apply bel_alloc | (refine bel_trans ?_ (by assumption))))
 have c0:W.cell? ⟨w.heap.size,0,none⟩=some (.int .i64 xt):=by rw [hW];go_simp
 have c1:W.cell? ⟨w.heap.size,1,none⟩=some (.int .i64 xs):=by rw [hW];go_simp
 have c2:W.cell? ⟨w.heap.size,2,none⟩=some (.int .i64 xd):=by rw [hW];go_simp
 have c3:W.cell? ⟨w.heap.size,3,none⟩=some (.int .i64 xm):=by rw [hW];go_simp
 obtain ⟨b5,hb5⟩:∃z,w.heap.size=z:=⟨_,rfl⟩
 have hbb5:b≠b5:=by omega
 have hmb5:mb≠b5:=by omega
 have hSb5:∀q,(Value.slice A n cap).ownBlock=some q→q≠b5:=fun q hq=>by have:=HO.out.lt hq;omega
 have HSb5:=Lib.hid hSb5
 rw [hb5] at c0 c1 c2 c3 ⊢
 have k1:=bel_cell HW kb1
 have hlq:∀d os,(Instr.lookup 137 (.map (some mb)) (.int .i64 a) false).run Tryz.prog (grow (redrawn W d) os)=.ok (.slice A n cap) (grow (redrawn W d) os):=fun d os=>Hlk.out _ (bel_trans HW (below_regrown W d os))
 have c0q:=cell_regrown c0;have k1q:=cell_regrown k1;have HX:=Below.refl W.heap.size W;clear hW kb1 hSb5
 refine wp_region_quiet_below (by kernel_rfl) (by kernel_rfl) ?_
 repeat (first | go_big_quiet_step ((with_reducible exact Calls.regrown_of (cB.out _ (bel_trans HW (below_regrown W _ _))))) | quiet_step ((with_reducible exact Calls.regrown_of (cB.out _ (bel_trans HW (below_regrown W _ _))))))
 refine wpQuiet_nil ?_;intro _ hw';obtain ⟨⟨dq,osq⟩,hw''⟩:=hw';have HY:=bel_trans HX (below_regrown W dq osq);have hb2:=below_regrown W dq osq;subst hw''
 generalize grow (redrawn W dq) osq=W2 at HY hb2 ⊢
 have c0:=bel_cell HY c0;have c1:=bel_cell HY c1;have c2:=bel_cell HY c2;have c3:=bel_cell HY c3;have k1:=bel_cell HY k1;have HB2:=bel_trans HW HY;clear c0q k1q hlq HX hb2 HY
 cases fd with
 | true =>
     have hhas:hasE L xt=true:=Hfd.out;rw [if_pos rfl]
     have hiln:i<n:=by
      obtain ⟨e,he,_⟩:=(has_at HsL.out xt).2 hhas;have:=(List.getElem?_eq_some_iff.1 he).1;rw [Hi.out] at this;have:=Hn.out;omega
     obtain ⟨gb,rfl,hrow⟩:∃gb,A=some ⟨gb,0,none⟩∧RowE w gb cap n L:=by
      rcases HO.out.2 with ⟨_,h0⟩ | ⟨gb,cap',cur,e0,_,hg,hnc,hcm,hcs,htake⟩
      ·have:=Hn.out;omega
      ·injection e0 with e1 e2 e3
       subst e3
       exact ⟨gb,e1,cur,hg,hcs,by have:=Hn.out;omega,hcm,Hn.out,by have:=Hn.out;rw [←this];exact htake⟩
     have hgS:gb∈S:=HqS.out gb rfl
     have hgb:b≠gb:=fun e=>hbS (e▸hgS)
     have hgm:gb≠mb:=fun e=>h5 (e▸hgS)
     have hg5:b5≠gb:=fun e=>HSb5.out gb rfl e.symm
     have hrow2:=hrow.below HB2
     have hx0:L[i]? = some (L[i]'(by have:=Hn.out;omega)):=List.getElem?_eq_getElem _
     obtain ⟨p1,p2,p3,p4⟩:=hrow2.get hx0
     obtain ⟨f1,f2,f3,f4⟩:W2.frozen? ⟨gb,i*4,none⟩=false∧W2.frozen? ⟨gb,i*4+1,none⟩=false∧W2.frozen? ⟨gb,i*4+2,none⟩=false∧W2.frozen? ⟨gb,i*4+3,none⟩=false:=by
      obtain ⟨cur,q1,_⟩:=hrow2;simp [World.frozen?,q1]
     have hl1:(Instr.lookup 137 (.map (some mb)) (.int .i64 a) false).run Tryz.prog W2.drew=.ok (.slice (some ⟨gb,0,none⟩) n cap) W2.drew:=Hlk.out _ (bel_drew HB2)
     have hix:=fun wx=>idxE (A:=some ⟨gb,0,none⟩) (m:=cap) (n:=n) (k:=i) rfl hiln wx
     have hrow3:RowE W2.drew gb cap n L:=hrow.below (bel_drew HB2);have hset:=hrow3.set hiln ⟨xt,⟨xs,xd⟩,xm⟩
     have hK:Kept [gb] W2.drew ((((W2.drew.setCell ⟨gb,i*4,none⟩ (.int .i64 xt)).setCell ⟨gb,i*4+1,none⟩ (.int .i64 xs)).setCell ⟨gb,i*4+2,none⟩ (.int .i64 xd)).setCell ⟨gb,i*4+3,none⟩ (.int .i64 xm)):=((((Kept.refl _ _).setCell (.inl (by simp))).setCell (.inl (by simp))).setCell (.inl (by simp))).setCell (.inl (by simp))
     have HR:=Lib.hid (And.intro hset hK);clear hrow hrow2 hrow3 hset hK hx0 hhas
     go_upto_region 3 with (fail)
     go_region
     have hV:updK V a (some (.slice (some ⟨gb,0,none⟩) n cap))=V:=by
      funext z;unfold updK;split
      ·rename_i e;rw [e,Hu.out]
      ·rfl
     have hOI:OwnE ((((W2.drew.setCell ⟨gb,i*4,none⟩ (.int .i64 xt)).setCell ⟨gb,i*4+1,none⟩ (.int .i64 xs)).setCell ⟨gb,i*4+2,none⟩ (.int .i64 xd)).setCell ⟨gb,i*4+3,none⟩ (.int .i64 xm)) 0 (.slice (some ⟨gb,0,none⟩) n cap) (L.set i ⟨xt,⟨xs,xd⟩,xm⟩):=by
      obtain ⟨cur,q1,q2,q3,q4,q5,q6⟩:=HR.out.1;have hls:(L.set i ⟨xt,⟨xs,xd⟩,xm⟩).length=n:=q5
      exact ⟨by rw [edL_length],.inr ⟨gb,cap,cur,by rw [hls],Nat.zero_le _,q1,by rw [hls];exact q3,q4,q2,by rw [hls];exact q6⟩⟩
     have hGI:W2.drew.grownBy ((((W2.drew.setCell ⟨gb,i*4,none⟩ (.int .i64 xt)).setCell ⟨gb,i*4+1,none⟩ (.int .i64 xs)).setCell ⟨gb,i*4+2,none⟩ (.int .i64 xd)).setCell ⟨gb,i*4+3,none⟩ (.int .i64 xm)) (some gb):=⟨HR.out.2.os,HR.out.2.tape,HR.out.2.output,HR.out.2.size,fun k hk hn=>HR.out.2.block k hk (by simp;exact fun e=>hn (by rw [e]))⟩
     have hMW:MapAt iK ((((W2.drew.setCell ⟨gb,i*4,none⟩ (.int .i64 xt)).setCell ⟨gb,i*4+1,none⟩ (.int .i64 xs)).setCell ⟨gb,i*4+2,none⟩ (.int .i64 xd)).setCell ⟨gb,i*4+3,none⟩ (.int .i64 xm)) mb (updK V a (some (.slice (some ⟨gb,0,none⟩) n cap))) N:=by
      rw [hV]
      exact (H1.out.below (bel_drew HB2)).kept HR.out.2 (by simp;exact Ne.symm hgm)
     have hfin:=EMap.put (w:=w) (w1:=W2.drew) H1.out H2.out H3.out H4.out h5 H6.out H7.out Hu.out (bel_drew HB2) hOI hGI (.inl rfl) hMW (Kept.refl _ _);have hfin:=Lib.hid hfin;clear hOI hGI hMW hV;clear p1 p2 p3 p4 f1 f2 f3 f4;go_wp2;go_end0;exact ⟨rfl,hfin.out⟩
 | false =>
     go_upto_region 4 with (fail)
     obtain ⟨o,ho⟩:∃o,Obj.cells #[Value.int .i64 xt,Value.int .i64 xs,Value.int .i64 xd,Value.int .i64 xm] 182 (0,0)=o:=⟨_,rfl⟩;have hl1:(Instr.lookup 137 (.map (some mb)) (.int .i64 a) false).run Tryz.prog W2.drew=.ok (.slice A n cap) W2.drew:=Hlk.out _ (bel_drew HB2)
     have hl2:∀o,(Instr.lookup 137 (.map (some mb)) (.int .i64 a) false).run Tryz.prog (W2.alloc o).drew=.ok (.slice A n cap) (W2.alloc o).drew:=fun o=>Hlk.out _ (bel_drew (bel_alloc HB2))
     have hOA:OwnE (W2.alloc o).drew 0 (.slice A n cap) L:=HO.out.kept (T:=[]) (.of_below (bel_drew (bel_alloc HB2))) (fun _ _=>by simp)
     have hMA:MapAt iK (W2.alloc o).drew mb V N:=H1.out.below (bel_drew (bel_alloc HB2))
     have hxA:(W2.alloc o).drew.heap[W2.heap.size]? = some (.cells (Ed.cells ⟨xt,⟨xs,xd⟩,xm⟩).toArray 182 (0,0)):=by rw [←ho];exact alloc_at W2 _ rfl
     have hneA:(Value.slice A n cap).ownBlock≠some W2.heap.size:=fun e=>by have:=HO.out.lt e;have:=HB2.size;omega
     have hnb:some b≠(Value.slice A n cap).ownBlock:=fun e=>hbS (HqS.out b e.symm)
     have hn5:some b5≠(Value.slice A n cap).ownBlock:=fun e=>(HSb5.out b5 e.symm) rfl
     have hnm:some mb≠(Value.slice A n cap).ownBlock:=fun e=>h5 (HqS.out mb e.symm)
     have hBA:Below w.heap.size w (W2.alloc o).drew:=bel_drew (bel_alloc HB2);have HA:=Lib.hid (And.intro hOA (And.intro hMA (And.intro hxA (And.intro hneA (And.intro hnb (And.intro hn5 (And.intro hnm hBA)))))))
     have HL1000:L.length≤100000:=by have:=Hn.out;omega
     have HiL:i≤L.length:=by have:=Hn.out;omega
     have Ho:=Lib.hid ho;clear hOA hMA hxA hneA hnb hn5 hnm hBA;rw [←ho] at HA;clear ho
     go_region_held3 (fun w'=>w'.cell? ⟨b,1,none⟩=some (.map (some mb))∧w'.cell? ⟨b5,0,none⟩=some (.int .i64 xt)∧w'.cell? ⟨b5,1,none⟩=some (.int .i64 xs)∧w'.cell? ⟨b5,2,none⟩=some (.int .i64 xd)∧w'.cell? ⟨b5,3,none⟩=some (.int .i64 xm))
      (first
       | exact ⟨k1,c0,c1,c2,c3⟩
       | exact ⟨alloc_some k1,alloc_some c0,alloc_some c1,alloc_some c2,alloc_some c3⟩
       | exact hSI
       | exact hSU)
      ((first
       | (go_at_call 218
          refine (insEdge _ 0 (.slice A n cap) L i W2.heap.size ⟨xt,⟨xs,xd⟩,xm⟩ HA.out.1 HiL HA.out.2.2.1 HA.out.2.2.2.1 (Nat.zero_le _) HL1000).mono ?_;rintro e wI ⟨v',rfl,hOI,hGI,hAt⟩
          have hSI:wI.cell? ⟨b,1,none⟩=some (.map (some mb))∧wI.cell? ⟨b5,0,none⟩=some (.int .i64 xt)∧wI.cell? ⟨b5,1,none⟩=some (.int .i64 xs)∧wI.cell? ⟨b5,2,none⟩=some (.int .i64 xd)∧wI.cell? ⟨b5,3,none⟩=some (.int .i64 xm):=
           ⟨hGI.cell (alloc_some k1) HA.out.2.2.2.2.1,hGI.cell (alloc_some c0) HA.out.2.2.2.2.2.1,hGI.cell (alloc_some c1) HA.out.2.2.2.2.2.1,hGI.cell (alloc_some c2) HA.out.2.2.2.2.2.1,hGI.cell (alloc_some c3) HA.out.2.2.2.2.2.1⟩
          have hMI:MapAt iK wI mb V N:=HA.out.2.1.kept (S:=(Value.slice A n cap).ownBlock.toList) ⟨hGI.os,hGI.tape,hGI.output,hGI.size,fun q hq hn=>hGI.block q hq (fun e=>hn (by rw [←e];simp))⟩ (by
           intro hh;have:=HA.out.2.2.2.2.2.2.1
           cases hv:(Value.slice A n cap).ownBlock with
           | none=>rw [hv] at hh;simp at hh
           | some r=>rw [hv] at hh this;simp at hh;exact this (by rw [hh]))
          obtain ⟨wU,hU,hMU,hKU⟩:=hMI.store (int_fit Tryz.underlying3) Tryz.underlying137 a v';have hU:(Instr.mapUpdate 137 (.map (some mb)) (.int .i64 a) v').run Tryz.prog wI=.ok () wU:=hU
          have hSU:wU.cell? ⟨b,1,none⟩=some (.map (some mb))∧wU.cell? ⟨b5,0,none⟩=some (.int .i64 xt)∧wU.cell? ⟨b5,1,none⟩=some (.int .i64 xs)∧wU.cell? ⟨b5,2,none⟩=some (.int .i64 xd)∧wU.cell? ⟨b5,3,none⟩=some (.int .i64 xm):=
           ⟨keptc hKU (by simpa using hbm) hSI.1,keptc hKU (by simpa using Ne.symm hmb5) hSI.2.1,keptc hKU (by simpa using Ne.symm hmb5) hSI.2.2.1,keptc hKU (by simpa using Ne.symm hmb5) hSI.2.2.2.1,keptc hKU (by simpa using Ne.symm hmb5) hSI.2.2.2.2⟩)))
     all_goals
      have hfin:=EMap.put H1.out H2.out H3.out H4.out h5 H6.out H7.out Hu.out HA.out.2.2.2.2.2.2.2 hOI hGI hAt hMU hKU;go_end0
      exact ⟨rfl,by simpa using hfin⟩
end Go.Proofs.YtokhnobcincfjaaGreatDoor
namespace Go.Proofs.YtokhnobcincfjaaGreatDoor
open Go.RowKit Go.Sort FR Go.Lib
theorem w12:Walk g33.E 1 2 ⟨1,0⟩:=Walk.single ⟨by decide +kernel,2,by decide,by decide +kernel,by decide +kernel,rfl⟩
end Go.Proofs.YtokhnobcincfjaaGreatDoor
