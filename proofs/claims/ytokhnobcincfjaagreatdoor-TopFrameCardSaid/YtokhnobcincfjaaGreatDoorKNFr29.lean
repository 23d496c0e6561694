/- Lemmas of this claim: TxParse, TxMaps. -/
import Derived.Test.YtokhnobcincfjaaGreatDoorTxLine
import Derived.Test.YtokhnobcincfjaaGreatDoorKNFr4
import Derived.Test.YtokhnobcincfjaaGreatDoorBase
import Derived.Lib.Builder
set_option linter.unusedVariables false
set_option linter.unusedSimpArgs false
set_option maxHeartbeats 6400000
set_option maxRecDepth 100000
namespace Go.Proofs.YtokhnobcincfjaaGreatDoor
open Go.RowKit Go.Sort FR
theorem lns_nil {r:List UInt8} (h:(lns r).1=[]):(lns r).2=r:=by
 rcases cut10 r with ⟨_,h1⟩ | ⟨a,b,_,h1,h2⟩
 ·rw [lns_free h1]
 ·rw [h1,lns_cons h2] at h
  cases h
def ParsedG (w:World) (l:List UInt8) (e:Ending) (w':World):Prop:=
 (∃k:Nat,parseS l=.bad k∧0<k∧e=.returned (.tuple #[.pointer none,.iface 45 (.int .i64 (k:Nat))])∧Below w.heap.size w w') ∨
 ∃a b R p,parseS l=.ok a b R∧e=.returned (.tuple #[.pointer (some ⟨p,0,none⟩),.nilIface])∧w.heap.size≤p∧GridAt w' p (partG a b R (b*a)) (cntB (rowsB a R) (b*a))∧Below w.heap.size w w'
theorem ParsedG.no {w w':World} {l:List UInt8} (k:Nat) (h:parseS l=.bad k) (hk:0<k) (hb:Below w.heap.size w w'):ParsedG w l (.returned (.tuple #[.pointer none,.iface 45 (.int .i64 (k:Nat))])) w':=.inl ⟨k,h,hk,rfl,hb⟩
theorem partG_no {w h:Nat} {R:List (List UInt8)} {k:Nat} (hb:rowsB w R k=false):partG w h R (k+1)=partG w h R k:=by
 unfold partG
 congr 1
 funext c
 by_cases hc:c=k
 ·subst hc;simp [hb]
 ·have:(c<k+1)↔c<k:=by omega
  simp [this]
theorem partG_yes {w h:Nat} {R:List (List UInt8)} {k:Nat} (hb:rowsB w R k=true):gset (partG w h R k) k true=partG w h R (k+1):=by
 unfold partG gset;simp only
 congr 1
 funext c
 unfold upd
 by_cases hc:c=k
 ·subst hc;simp [hb]
 ·have:(c<k+1)↔c<k:=by omega
  simp [this,hc]
theorem rowsB_at {w:Nat} {R:List (List UInt8)} {y x:Nat} {a:List UInt8} (hx:x<w) (h:R[y]? = some a):rowsB w R (y*w+x)=isBl (a.getD x 0):=by
 unfold rowsB
 have e1:(y*w+x) / w=y:=by rw [Nat.mul_comm,Nat.mul_add_div (by omega),Nat.div_eq_of_lt hx];rfl
 have e2:(y*w+x) % w=x:=by rw [Nat.mul_comm,Nat.mul_add_mod,Nat.mod_eq_of_lt hx]
 have e3:R.getD y []=a:=by rw [List.getD_eq_getElem?_getD,h];rfl
 rw [e1,e2,e3]
def headRow (L:List (List UInt8)):Array Value:=rowOf (fun j=>.string (bs (L.getD j []))) 4
theorem headRow_set (L:List (List UInt8)) (a:List UInt8) (k:Nat) (h:L.length=k):(headRow L).setIfInBounds k (.string (bs a))=headRow (L ++ [a]):=by
 apply row_set
 ·rw [List.getD_eq_getElem?_getD,List.getElem?_append_right (by omega),h];simp
 ·intro i hi
  simp only [List.getD_eq_getElem?_getD]
  by_cases hl:i<k
  ·rw [List.getElem?_append_left (by omega)]
  ·rw [List.getElem?_eq_none (by simp;omega),List.getElem?_eq_none (by omega)]
theorem lnsF_le (m:Nat):∀(l:List UInt8) (st:List (List UInt8)×List UInt8),(∀x∈st.1,x.length≤m)→st.2.length+l.length≤m→∀x∈(lnsF st l).1,x.length≤m
 | [],_,h,_=>h
 | b :: l,st,h,hm=>by
  show ∀x∈(lnsF (lnsS st b) l).1,x.length≤m
  simp only [List.length_cons] at hm
  apply lnsF_le m l
  ·unfold lnsS
   split
   ·intro x hx
    simp only [List.mem_append,List.mem_singleton] at hx
    rcases hx with hx | rfl
    ·exact h x hx
    ·omega
   ·exact h
  ·unfold lnsS
   split
   ·simp only [List.length_nil];omega
   ·simp only [List.length_append,List.length_cons,List.length_nil];omega
theorem lns_le (l:List UInt8):∀x∈(lns l).1,x.length≤l.length:=lnsF_le l.length l ([],[]) (by simp) (by simp)
theorem head_bad {a0 a1 a2 a3:List UInt8} {M:List (List UInt8)} (h:a0≠octW∨(numOf hgtW a1).isSome=false∨(numOf wdtW a2).isSome=false∨a3≠mapW):headS ([a0,a1,a2,a3] ++ M)=none:=by
 show (if a0=octW∧a3=mapW then (match numOf hgtW a1,numOf wdtW a2 with | some h,some w=>some (h,w) | _,_=>none) else none)=none
 split
 ·rename_i e
  rcases h with h | h | h | h
  ·exact absurd e.1 h
  ·cases hn:numOf hgtW a1 with
   | none=>rfl
   | some x=>rw [hn] at h;cases h
  ·cases hn:numOf wdtW a2 with
   | none=>cases numOf hgtW a1 <;> rfl
   | some x=>rw [hn] at h;cases h
  ·exact absurd e.2 h
 ·rfl
theorem head_good {a1 a2:List UInt8} {M:List (List UInt8)} {h w:Int} (h1:numOf hgtW a1=some h) (h2:numOf wdtW a2=some w):headS ([octW,a1,a2,mapW] ++ M)=some (h,w):=by
 show (if octW=octW∧mapW=mapW then (match numOf hgtW a1,numOf wdtW a2 with | some h,some w=>some (h,w) | _,_=>none) else none)=_
 rw [if_pos ⟨rfl,rfl⟩,h1,h2]
theorem ch_eq {c:UInt8} {n:Nat} (h:c.toNat=n) (hn:n<256):c=UInt8.ofNat n:=UInt8.toNat_inj.1 (by rw [UInt8.toNat_ofNat'];omega)
theorem ch_free {c:UInt8} {n:Nat} (h:c.toNat=n) (hn:n=46∨n=71∨n=83):okCh c=true∧isBl c=false:=by
 rcases hn with rfl | rfl | rfl <;> (rw [ch_eq h (by decide)];decide)
theorem ch_blk {c:UInt8} {n:Nat} (h:c.toNat=n) (hn:n=64∨n=79∨n=84∨n=87):okCh c=true∧isBl c=true:=by
 rcases hn with rfl | rfl | rfl | rfl <;> (rw [ch_eq h (by decide)];decide)
theorem ch_no {c:UInt8} {n:Nat} (h:c.toNat=n) (h1:¬(n=46∨n=71∨n=83)) (h2:¬(n=64∨n=79∨n=84∨n=87)):okCh c=false:=by
 have e:∀m:Nat,m<256→n≠m→c≠UInt8.ofNat m:=fun m hm hne k=>hne (by rw [←h,k,UInt8.toNat_ofNat'];omega)
 unfold okCh
 have e1:=e 46 (by omega) (by omega)
 have e2:=e 71 (by omega) (by omega)
 have e3:=e 83 (by omega) (by omega)
 have e4:=e 64 (by omega) (by omega)
 have e5:=e 79 (by omega) (by omega)
 have e6:=e 84 (by omega) (by omega)
 have e7:=e 87 (by omega) (by omega)
 simp only [Bool.or_eq_false_iff,beq_eq_false_iff_ne];exact ⟨⟨⟨⟨⟨⟨e1,e2⟩,e3⟩,e4⟩,e5⟩,e6⟩,e7⟩
theorem str_idx {a:List UInt8} {x n:Nat} (hx:x<a.length) (hn:(a.getD x 0).toNat=n) (wx:World):(Instr.index 9 (.string (bs a)) (.int .i64 (x:Nat))).run Tryz.prog wx=.ok (.int .u8 (n:Nat)) wx:=by
 rw [run_index_string _ _ _ _ _ Tryz.underlying9,dif_pos ⟨by omega,by rw [bs_size];omega⟩]
 congr 2
 rw [←hn,List.getD_eq_getElem?_getD,List.getElem?_eq_getElem hx]
 rfl
def RowsR (l:List UInt8) (wd y:Nat) (r:List UInt8):Prop:=
 ∃L:List (List UInt8),L.length=4+y∧lns l=(L ++ (lns r).1,(lns r).2)∧r.length≤1000∧∀j,j<y→∃a,((lns l).1.drop 4)[j]? = some a∧a.length=wd∧∀x,x<wd→okCh (a.getD x 0)=true
def HeadsR (w:World) (l:List UInt8) (k:Nat) (r:List UInt8) (wr:World):Prop:=
 ∃L:List (List UInt8),L.length=k∧lns l=(L ++ (lns r).1,(lns r).2)∧r.length≤1000∧wr.heap[w.heap.size]? = some (.cells (headRow L) 156 (0,0))∧Below w.heap.size w wr
theorem head_cell {wr:World} {A:Nat} {L:List (List UInt8)} (h:wr.heap[A]? = some (.cells (headRow L) 156 (0,0))) (k:Nat) (hk:k<4):wr.cell? ⟨A,k,none⟩=some (.string (bs (L.getD k []))):=by
 rw [Lib.cell_of_heap h];exact rowOf_get _ _ _ hk
theorem textParse (w : World) (l : List UInt8) (hV : LibS w) :
    Calls Tryz.prog 43 #[.string (bs l)] w fun e w'=>ParsedG w l e w':=by
 by_cases h1000:1000<l.length
 ·have hp:=parse_many h1000
  go_enter Tryz.func43,Tryz.ntmps43;go_wp2_with fail;go_ret2
  exact ParsedG.no 2 hp (by decide) (Below.refl _ _)
 have hlen:l.length≤1000:=by omega
 clear h1000;go_enter Tryz.func43,Tryz.ntmps43;go_wp2_with fail;refine wp_name ?_;intro W hW
 have HW:Below w.heap.size w W:=by rw [hW];(repeat' (first | exact Below.refl _ _ | assumption | apply bel_drewN | apply bel_drew | apply bel_alloc | (refine bel_trans ?_ (by assumption))))
 have hA:W.heap[w.heap.size]? = some (.cells (headRow []) 156 (0,0)):=by
  rw [hW];exact heap_alloc_new _ _
 clear hW;replace hV:=Lib.hid hV
 go_loopw [0,24] (fun s i wr=>∃(k:Nat) (r:List UInt8),k≤4∧i=.int .i64 (k:Nat)∧s=.string (bs r)∧HeadsR w l k r wr) (fun _ i _=>4-(intOf i).toNat)
 case atStart=>exact ⟨0,l,by omega,rfl,rfl,[],rfl,by simp,hlen,hA,HW⟩
 case round=>
  clear hA HW W;obtain ⟨k,r,hk,rfl,rfl,hR⟩:=hrel
  by_cases hlt:k<4
  ·have q:(k:Int)<4:=by omega
   obtain ⟨L,hL,hl,hr,hA,HB⟩:=hR
   have hr6:r.length≤1000000:=by omega
   replace hL:=Lib.hid hL;replace hl:=Lib.hid hl;have hVr:=Lib.hid (hV.out.below HB)
   rcases cut10 r with ⟨hc,hno⟩ | ⟨a,b,hc,hab,hno⟩
   ·have hp:=Lib.hid (parse_few hlen (by rw [lns_stop hl.out hno];simp only;have:=hL.out;omega))
    have C:=Lib.hid (textLine_miss wr hr6 hVr.out hc);clear hc;go_wp2_with fail;refine C.out.mono ?_;rintro e w2 ⟨rfl,hb2⟩;go_wp2_with fail;go_ret2
    exact ParsedG.no 3 hp.out (by decide) (bel_trans HB hb2)
   ·have hl2:=Lib.hid (lns_step (l:=L) hl.out hab hno)
    have hbl:b.length≤1000:=by rw [hab] at hr;simp at hr;omega
    have C:=Lib.hid (textLine_hit wr hr6 hVr.out hc);clear hc hab hl;go_wp2_with fail;refine C.out.mono ?_;rintro e w2 ⟨rfl,hb2⟩;have HB2:=bel_trans HB hb2;have hAlt:w.heap.size<wr.heap.size:=(Array.getElem?_eq_some_iff.1 hA).1;have hA2:w2.heap[w.heap.size]? = some (.cells (headRow L) 156 (0,0)):=(hb2.block _ hAlt).trans hA;have hcell:=head_cell hA2 k hlt;have hfz:w2.frozen? ⟨w.heap.size,k,none⟩=false:=Lib.frozen_of_heap hA2 k
    have hA3:=set_heap1 w2 w.heap.size k _ _ (.string (bs a)) hA2;rw [headRow_set L a k hL.out] at hA3;replace hA3:=Lib.hid hA3;replace hA2:=Lib.hid hA2;have HB3:=HB2.setCell (p:=⟨w.heap.size,k,none⟩) (Nat.le_refl _) (.string (bs a));clear hA;go_wp2_with fail;go_roundw
    case rel=>exact ⟨k+1,b,by omega,by go_num,rfl,L ++ [a],by simp [hL.out],hl2.out,hbl,hA3.out,HB3⟩
    case measure=>simp [intOf];omega
  ·obtain rfl:k=4:=by omega
   obtain ⟨L,hL,hl,hr,hA,HB⟩:=hR
   obtain ⟨a0,a1,a2,a3,rfl⟩:∃a0 a1 a2 a3,L=[a0,a1,a2,a3]:=by
    match L,hL with
    | [a0,a1,a2,a3],_=>exact ⟨a0,a1,a2,a3,rfl⟩
   clear hL hlt hk
   have hls:∀x∈(lns l).1,x.length≤l.length:=fun x hx=>lns_le l x hx
   have m1:a1.length≤1000:=Nat.le_trans (hls a1 (by rw [hl];simp)) hlen
   have m2:a2.length≤1000:=Nat.le_trans (hls a2 (by rw [hl];simp)) hlen
   clear hls;replace hl:=Lib.hid hl
   have c1:=head_cell hA 1 (by decide)
   have hAlt:w.heap.size<wr.heap.size:=(Array.getElem?_eq_some_iff.1 hA).1;have hVr:=Lib.hid (hV.out.below HB);simp only [List.getD_cons_succ,List.getD_cons_zero] at c1;go_wp2_with fail
   refine (textNumber a1 [104,101,105,103,104,116] wr (by omega) (by decide) hVr.out).mono ?_
   rintro e w2 ⟨⟨h,ok1,rfl,hk1,hv1,h10,h11⟩,hb2⟩;replace hk1:=Lib.hid hk1;replace hv1:=Lib.hid hv1;have HB2:=bel_trans HB hb2;have hA2:w2.heap[w.heap.size]? = some (.cells (headRow [a0,a1,a2,a3]) 156 (0,0)):=(hb2.block _ hAlt).trans hA;have hVr2:=Lib.hid (hV.out.below HB2);clear c1 hA HB hb2 hVr
   have c2:=head_cell hA2 2 (by decide)
   simp only [List.getD_cons_succ,List.getD_cons_zero] at c2;have hAlt2:w.heap.size<w2.heap.size:=(Array.getElem?_eq_some_iff.1 hA2).1;go_wp2_with fail
   refine (textNumber a2 [119,105,100,116,104] w2 (by omega) (by decide) hVr2.out).mono ?_
   rintro e w3 ⟨⟨d,ok2,rfl,hk2,hv2,d10,d11⟩,hb3⟩;replace hk2:=Lib.hid hk2;replace hv2:=Lib.hid hv2;have HB3:=bel_trans HB2 hb3;have hA3:w3.heap[w.heap.size]? = some (.cells (headRow [a0,a1,a2,a3]) 156 (0,0)):=(hb3.block _ hAlt2).trans hA2
   have c0:=head_cell hA3 0 (by decide)
   have c3:=head_cell hA3 3 (by decide)
   simp only [List.getD_cons_succ,List.getD_cons_zero] at c0 c3;clear c2 hA2 HB2 hb3 hVr2 hA3
   have bad:(a0≠octW∨(numOf hgtW a1).isSome=false∨(numOf wdtW a2).isSome=false∨a3≠mapW)→parseS l=.bad 3:=fun k=>parse_head hlen (by rw [hl.out];exact head_bad k)
   replace bad:=Lib.hid bad
   by_cases e0:a0=[116,121,112,101,32,111,99,116,105,108,101]
   case neg=>
    go_wp2_with fail;go_ret2
    exact ParsedG.no 3 (bad.out (.inl e0)) (by decide) HB3
   have e0b:(a0 == [116,121,112,101,32,111,99,116,105,108,101])=true:=by simp [e0]
   replace e0:=Lib.hid e0
   cases ok1 with
   | false=>
    go_wp2_with fail;go_ret2
    exact ParsedG.no 3 (bad.out (.inr (.inl hk1.out.symm))) (by decide) HB3
   | true=>
   cases ok2 with
   | false=>
    go_wp2_with fail;go_ret2
    exact ParsedG.no 3 (bad.out (.inr (.inr (.inl hk2.out.symm)))) (by decide) HB3
   | true=>
   by_cases e3:a3=[109,97,112]
   case neg=>
    have e3b:(a3 == [109,97,112])=false:=beq_eq_false_iff_ne.2 e3;go_wp2_with fail;go_ret2
    exact ParsedG.no 3 (bad.out (.inr (.inr (.inr e3)))) (by decide) HB3
   have e3b:(a3 == [109,97,112])=true:=by simp [e3]
   replace e3:=Lib.hid e3;clear bad
   have hn1:numOf hgtW a1=some h:=by
    obtain ⟨x,hx⟩:=Option.isSome_iff_exists.1 hk1.out.symm;have:=hv1.out x hx;rw [this];exact hx
   have hn2:numOf wdtW a2=some d:=by
    obtain ⟨x,hx⟩:=Option.isSome_iff_exists.1 hk2.out.symm;have:=hv2.out x hx;rw [this];exact hx
   have hhd:headS (lns l).1=some (h,d):=by rw [hl.out,e0.out,e3.out];exact head_good hn1 hn2
   replace hhd:=Lib.hid hhd;clear hn1 hn2 hk1 hv1 hk2 hv2
   by_cases hsz:1≤d∧d≤16∧1≤h∧h≤16
   case neg=>
    go_wp2_with fail;refine (gridNew_bad d h _ hsz).mono ?_;rintro e w4 ⟨rfl,rfl⟩;go_wp2_with fail;go_ret2
    exact ParsedG.no 1 (parse_size hlen hhd.out hsz) (by decide) HB3
   go_wp2_with fail;refine (gridNew_ok d h _ hsz).mono ?_;rintro e w4 ⟨rfl,hG4,hb4,hs4⟩;have HB4:=bel_trans HB3 hb4;clear e3b e0b c0 c3;obtain ⟨P,hP,hP0⟩:∃P,w3.heap.size=P∧w.heap.size≤P:=⟨_,rfl,HB3.size⟩
   rw [hP] at hG4 ⊢
   clear hs4 hb4 hP HB3 hAlt hAlt2 w3;obtain ⟨s1,s2,s3,s4⟩:=hsz
   obtain ⟨wd,rfl⟩:=Int.eq_ofNat_of_zero_le (show 0≤d by omega)
   obtain ⟨ht,rfl⟩:=Int.eq_ofNat_of_zero_le (show 0≤h by omega)
   have n1:1≤wd:=by omega
   have n2:wd≤16:=by omega
   have n3:1≤ht:=by omega
   have n4:ht≤16:=by omega
   clear s1 s2 s3 s4 d10 d11 h10 h11;simp only [Int.toNat_natCast] at hG4
   have hG4:GridAt w4 P (partG wd ht ((lns l).1.drop 4) 0) 0:=by
    have:(⟨wd,ht,fun _=>false⟩:G)=partG wd ht ((lns l).1.drop 4) 0:=by unfold partG;congr 1
    rw [←this];exact hG4
   have hl0:RowsR l wd 0 r:=⟨_,rfl,hl.out,hr,fun y hy=>by omega⟩
   clear hl hr e0 e3 m1 m2;obtain ⟨R,hR⟩:∃R,(lns l).1.drop 4=R:=⟨_,rfl⟩;rw [hR] at hG4;replace hR:=Lib.hid hR
   have bad:¬((lns l).1.length=4+ht∧(lns l).2=[]∧rowsOk wd R=true)→parseS l=.bad 3:=fun k=>parse_body hlen hhd.out ⟨n1,n2,n3,n4⟩ (by rw [hR.out];exact k)
   have good:((lns l).1.length=4+ht∧(lns l).2=[]∧rowsOk wd R=true)→parseS l=.ok wd ht R:=fun k=>by
    have:=parse_ok hlen hhd.out ⟨n1,n2,n3,n4⟩ (by rw [hR.out];exact k)
    rwa [hR.out] at this
   replace bad:=Lib.hid bad;replace good:=Lib.hid good;clear hhd hlen;go_wp2_with fail
   go_loopw [0,80] (fun s i wr=>∃(y:Nat) (r:List UInt8),y≤ht∧i=.int .i64 (y:Nat)∧s=.string (bs r)∧RowsR l wd y r∧GridAt wr P (partG wd ht R (y*wd)) (cntB (rowsB wd R) (y*wd))∧Below w.heap.size w wr) (fun _ i _=>ht-(intOf i).toNat)
   case atStart=>exact ⟨0,r,by omega,rfl,rfl,hl0,by simpa [cntB] using hG4,HB4⟩
   case round=>
    clear hG4 HB4 hl0;obtain ⟨y,r,hy,rfl,rfl,hRow,hG,HB⟩:=hrel
    by_cases hlt:y<ht
    ·have q:(y:Int)<ht:=by omega
     obtain ⟨L,hL,hl,hr,hok⟩:=hRow;replace hok:=Lib.hid hok
     have hr6:r.length≤1000000:=by omega
     have hVr:=Lib.hid (hV.out.below HB);replace hL:=Lib.hid hL;replace hl:=Lib.hid hl
     rcases cut10 r with ⟨hc,hno⟩ | ⟨a,b,hc,hab,hno⟩
     ·have hp := Lib.hid (bad.out (fun k => by
        have e:=lns_stop hl.out hno;have:=k.1;rw [e] at this;have:=hL.out;simp only at *;omega))
      have C:=Lib.hid (textLine_miss wr hr6 hVr.out hc);clear hc;go_wp2_with fail;refine C.out.mono ?_;rintro e w5 ⟨rfl,hb5⟩;go_wp2_with fail;go_ret2
      exact ParsedG.no 3 hp.out (by decide) (bel_trans HB hb5)
     ·have hl2:=Lib.hid (lns_step (l:=L) hl.out hab hno)
      have hbl:b.length≤1000:=by rw [hab] at hr;simp at hr;omega
      have C:=Lib.hid (textLine_hit wr hr6 hVr.out hc)
      have hRy:R[y]? = some a:=by
       rw [←hR.out,hl2.out];simp only [List.getElem?_drop]
       rw [List.getElem?_append_left (by have:=hL.out;simp;omega),List.getElem?_append_right (by have:=hL.out;omega)]
       have:4+y-L.length=0:=by have:=hL.out;omega
       rw [this];rfl
      replace hRy:=Lib.hid hRy;clear hc hab hl;go_wp2_with fail;refine C.out.mono ?_;rintro e w5 ⟨rfl,hb5⟩;have HB5:=bel_trans HB hb5;have hG5:=hG.below hb5 hG.lt;clear hG HB hb5 hVr C
      by_cases ha:a.length=wd
      case neg=>
       have hp:=Lib.hid (bad.out (fun k=>row_bad hRy.out (.inl ha) k.2.2))
       have ha':(a.length:Int)≠wd:=by omega
       clear ha;go_wp2_with fail;go_ret2
       exact ParsedG.no 3 hp.out (by decide) HB5
      have m0:0≤(y:Int)*wd∧(y:Int)*wd≤256:=⟨Int.mul_nonneg (by omega) (by omega),Int.le_trans (Int.mul_le_mul (show (y:Int)≤16 by omega) (show (wd:Int)≤16 by omega) (by omega) (by omega)) (by omega)⟩
      obtain ⟨m1',m2'⟩:=m0
      have hyw:y*wd+wd≤wd*ht:=by
       have:=Nat.mul_le_mul_right wd (show y+1≤ht by omega)
       rw [Nat.succ_mul,Nat.mul_comm ht] at this;exact this
      have h256:wd*ht≤256:=Nat.mul_le_mul n2 n4;replace hyw:=Lib.hid hyw;replace h256:=Lib.hid h256;have hal:=Lib.hid ha
      have hai:(a.length:Int)=wd:=by omega
      clear ha;go_wp2_with fail;clear hai
      go_loopw [100] (fun i wr=>∃x:Nat,x≤wd∧i=.int .i64 (x:Nat)∧(∀j,j<x→okCh (a.getD j 0)=true)∧GridAt wr P (partG wd ht R (y*wd+x)) (cntB (rowsB wd R) (y*wd+x))∧Below w.heap.size w wr) (fun i _=>wd-(intOf i).toNat)
      case atStart=>exact ⟨0,by omega,rfl,fun j hj=>by omega,hG5,HB5⟩
      case round=>
       clear hG5 HB5 w5;obtain ⟨x,hx,rfl,hoks,hG,HB⟩:=hrel;replace hoks:=Lib.hid hoks
       by_cases hxl:x<wd
       ·have qx:(x:Int)<wd:=by omega
        obtain ⟨n,hn⟩:∃n:Nat,(a.getD x 0).toNat=n:=⟨_,rfl⟩
        have hidx:=str_idx (by rw [hal.out];exact hxl) hn
        replace hn:=Lib.hid hn;have hrB:=Lib.hid (rowsB_at hxl hRy.out)
        by_cases f1:n=46∨n=71∨n=83
        ·obtain ⟨k1,k2⟩:=ch_free hn.out f1
         have hG':GridAt wr P (partG wd ht R (y*wd+(x+1))) (cntB (rowsB wd R) (y*wd+(x+1))):=by
          have e:=hrB.out.trans k2;rw [←Nat.add_assoc,partG_no e,cntB_succ,e];exact hG
         have hok':∀j,j<x+1→okCh (a.getD j 0)=true:=fun j hj=>by
          rcases Nat.lt_succ_iff_lt_or_eq.1 hj with h' | rfl
          ·exact hoks.out j h'
          ·exact k1
         replace hok':=Lib.hid hok';clear hG k1 k2 hrB hoks hn
         rcases f1 with rfl | rfl | rfl <;>
         ·go_wp2_with fail
          go_roundw
          case rel=>exact ⟨x+1,by omega,by go_num,hok'.out,hG',HB⟩
          case measure=>simp [intOf];omega
        by_cases f2:n=64∨n=79∨n=84∨n=87
        ·obtain ⟨k1,k2⟩:=ch_blk hn.out f2
         have hok':∀j,j<x+1→okCh (a.getD j 0)=true:=fun j hj=>by
          rcases Nat.lt_succ_iff_lt_or_eq.1 hj with h' | rfl
          ·exact hoks.out j h'
          ·exact k1
         replace hok':=Lib.hid hok'
         have hcl:y*wd+x<(partG wd ht R (y*wd+x)).n:=by
          show y*wd+x<wd*ht
          have:=hyw.out;omega
         have hv:0≤((cntB (rowsB wd R) (y*wd+x):Nat):Int)∧((cntB (rowsB wd R) (y*wd+x):Nat):Int)≤1099511627776:=by
          have:=cntB_le (rowsB wd R) (y*wd+x);have:=hyw.out;have:=h256.out;omega
         have C:=gridSet_new wr P _ _ (y*wd+x) true hG hcl (by simp [partG]) hv
         rw [partG_yes (hrB.out.trans k2)] at C
         rw [show ((y*wd+x:Nat):Int)=(y:Int)*wd+x by simp] at C
         have hcn:((cntB (rowsB wd R) (y*wd+x):Nat):Int)+1=((cntB (rowsB wd R) (y*wd+(x+1)):Nat):Int):=by
          rw [←Nat.add_assoc,cntB_succ,hrB.out.trans k2];simp
         rw [hcn] at C;replace C:=Lib.hid C;clear hG k1 k2 hrB hoks hn hcl hv hcn f1
         rcases f2 with rfl | rfl | rfl | rfl <;>
         ·go_wp2_with fail
          refine C.out.mono ?_;rintro e w6 ⟨rfl,hG6,hk6⟩
          have HB6:=Kept.below HB hk6 HB.size (by simpa using hP0)
          go_wp2_with fail;go_roundw
          case rel=>exact ⟨x+1,by omega,by go_num,hok'.out,hG6,HB6⟩
          case measure=>simp [intOf];omega
        ·have hp:=Lib.hid (bad.out (fun k=>row_bad hRy.out (.inr ⟨x,a.getD x 0,by rw [List.getD_eq_getElem?_getD,List.getElem?_eq_getElem (by rw [hal.out];exact hxl)];rfl,ch_no hn.out f1 f2⟩) k.2.2))
         have f11:(n:Int)≠46:=by omega
         have f12:(n:Int)≠71:=by omega
         have f13:(n:Int)≠83:=by omega
         have f14:(n:Int)≠64:=by omega
         have f15:(n:Int)≠79:=by omega
         have f16:(n:Int)≠84:=by omega
         have f17:(n:Int)≠87:=by omega
         clear f1 f2 hG hrB hoks hn;go_wp2_with fail;go_ret2
         exact ParsedG.no 3 hp.out (by decide) HB
       ·obtain rfl:x=wd:=by omega
        go_wp2_with fail;go_roundw
        case rel=>
         refine ⟨y+1,b,by omega,by go_num,rfl,⟨L ++ [a],by have:=hL.out;simp;omega,hl2.out,hbl,fun j hj=>?_⟩,by rw [Nat.succ_mul];exact hG,HB⟩
         rcases Nat.lt_succ_iff_lt_or_eq.1 hj with h' | rfl
         ·exact hok.out j h'
         ·exact ⟨a,by rw [hR.out];exact hRy.out,hal.out,hoks.out⟩
        case measure=>simp [intOf];omega
    ·obtain rfl:y=ht:=by omega
     obtain ⟨L,hL,hl,hr,hok⟩:=hRow
     cases r with
     | cons c0 r0=>
      have hp:parseS l=.bad 3:=bad.out (fun k=>by
       obtain ⟨k1,k2,_⟩:=k;rw [hl] at k1 k2;simp only [List.length_append] at k1
       have:(lns (c0 :: r0)).1=[]:=List.length_eq_zero_iff.1 (by omega)
       rw [lns_nil this] at k2
       cases k2)
      replace hp:=Lib.hid hp;clear hok hl;go_wp2_with fail;go_ret2
      exact ParsedG.no 3 hp.out (by decide) HB
     | nil=>
      have hp:parseS l=.ok wd y R:=good.out ⟨by rw [hl];simp [lns,lnsF];exact hL,by rw [hl];rfl,by
       rw [←hR.out];refine rows_good (n:=y) ?_ hok;rw [hl];simp [lns,lnsF];omega⟩
      replace hp:=Lib.hid hp;clear hok hl;go_wp2_with fail;go_ret2;exact .inr ⟨wd,y,R,P,hp.out,rfl,hP0,hG,HB⟩
theorem ParsedG.two {w w':World} {l:List UInt8} {e:Ending} (h:ParsedG w l e w'):(∃x y,e=.returned (.tuple #[x,y]))∧Below w.heap.size w w':=by
 rcases h with ⟨k,_,_,h,hb⟩ | ⟨a,b,R,p,_,h,_,_,hb⟩
 ·exact ⟨⟨_,_,h⟩,hb⟩
 ·exact ⟨⟨_,_,h⟩,hb⟩
end Go.Proofs.YtokhnobcincfjaaGreatDoor
