/- Lemmas of this claim: Flood, Pend, Flood2, Flood3, Flood4, Flood5, Flood6, Flood7, RFlood, RWalk. -/
import Derived.Test.YtokhnobcincfjaaGreatDoorKNFr9
import Derived.Test.YtokhnobcincfjaaGreatDoorKNFr4
import Derived.Test.YtokhnobcincfjaaGreatDoorKNFr2
import Derived.Test.YtokhnobcincfjaaGreatDoorKNFr1
import Derived.Test.YtokhnobcincfjaaGreatDoorKNFr6
import Derived.Deep.DeepCutAuto
import Derived.Deep.LoopGhost
import Derived.Deep.RegionHeld3
import Derived.StillTailTactics
import Derived.Test.YtokhnobcincfjaaGreatDoorKNFr5
import Derived.Sort.OwnSortedInts
import Derived.Deep.MidRow
import Derived.Deep.RegionWith
set_option linter.unusedVariables false
set_option linter.unusedSimpArgs false
set_option maxHeartbeats 3200000
set_option maxRecDepth 100000
namespace Go.Proofs.YtokhnobcincfjaaGreatDoor
open Go.RowKit Go.Sort FR
def mapI (f:Nat→Option Value) (z:Int):Option Value:=if 0≤z then f z.toNat else none
theorem mapI_nat (f:Nat→Option Value) (n:Nat):mapI f (n:Nat)=f n:=by unfold mapI;rw [if_pos (by omega)];rfl
theorem mapI_upd (f:Nat→Option Value) (n:Nat) (v:Option Value):updK (mapI f) (n:Nat) v=mapI (upd f n v):=by
 funext z
 unfold updK mapI upd
 by_cases h:0≤z
 ·rw [if_pos h,if_pos h]
  by_cases e:z=(n:Nat)
  ·rw [if_pos e,if_pos (by omega)]
  ·rw [if_neg e,if_neg (by omega)]
 ·rw [if_neg h,if_neg h,if_neg (by omega)]
def costV (c:C):Value:=.agg #[.int .i64 c.s,.int .i64 c.d]
def doneV (d:Nat→Option C) (j:Nat):Option Value:=(d j).map costV
theorem doneV_upd (d:Nat→Option C) (k:Nat) (c:C):upd (doneV d) k (some (costV c))=doneV (upd d k (some c)):=by
 funext j;unfold upd doneV;split <;> simp_all
theorem GridAt.keptS {S:List Nat} {w w':World} {p:Nat} {g:G} {v:Int} (h:GridAt w p g v) (hk:Kept S w w') (hp:p∉S):GridAt w' p g v:=by
 have hl:=h.lt;obtain ⟨h0,ws,h1,h2,h3⟩:=h;exact ⟨h0,ws,h1,(hk.block p hl hp).trans h2,h3⟩
theorem cost_zero (w:World):(zeroValue 44).run Tryz.prog w=.ok (.agg #[.int .i64 0,.int .i64 0]) w:=by kernel_rfl
theorem costLook_in {w : World} {b N : Nat} {m : Int → Option Value} (h : MapAt (fun z : Int => Value.int .i64 z) w b m N) {z : Int} {v : Value} (hz : m z = some v) :
    (Instr.lookup 246 (.map (some b)) (.int .i64 z) true).run Tryz.prog w=.ok (.tuple #[v,.bool true]) w:=by
 have:=(h.look (int_fit Tryz.underlying3) Tryz.underlying246 (cost_zero w) z).1;rw [hz] at this;exact this
theorem costLook_out {w : World} {b N : Nat} {m : Int → Option Value} (h : MapAt (fun z : Int => Value.int .i64 z) w b m N) {z : Int} (hz : m z = none) :
    (Instr.lookup 246 (.map (some b)) (.int .i64 z) true).run Tryz.prog w=.ok (.tuple #[.agg #[.int .i64 0,.int .i64 0],.bool false]) w:=by
 have:=(h.look (int_fit Tryz.underlying3) Tryz.underlying246 (cost_zero w) z).1;rw [hz] at this;exact this
theorem floodStep (w : World) (d : Nat) (hd : d < 8) :
    Calls Tryz.prog 95 #[.int .i64 (d:Nat)] w fun e w'=>e=.returned (.agg #[.int .i64 (stepC d).s,.int .i64 (stepC d).d])∧Below w.heap.size w w':=by
 rcases (show d=0∨d=1∨d=2∨d=3∨d=4∨d=5∨d=6∨d=7 by omega) with rfl | rfl | rfl | rfl | rfl | rfl | rfl | rfl
 all_goals
  go_enter Tryz.func95,Tryz.ntmps95;go_wp2
  first
   | (refine bodyPost_ret (v := .agg #[.int .i64 1, .int .i64 0]) (by simp [results, Tryz.results95, go_sem]) rfl ?_
      exact ⟨rfl,by (repeat' (first | exact Below.refl _ _ | assumption | apply bel_drewN | apply bel_drew | apply bel_alloc | (refine bel_trans ?_ (by assumption))))⟩)
   | (refine bodyPost_ret (v := .agg #[.int .i64 0, .int .i64 1]) (by simp [results, Tryz.results95, go_sem]) rfl ?_
      exact ⟨rfl,by (repeat' (first | exact Below.refl _ _ | assumption | apply bel_drewN | apply bel_drew | apply bel_alloc | (refine bel_trans ?_ (by assumption))))⟩)
theorem set_two {w : World} {b : Nat} {x y u v : Value} (h1 : w.cell? ⟨b, 0, none⟩ = some u) (h2 : w.cell? ⟨b, 1, none⟩ = some v) :
    ((w.setCell ⟨b,0,none⟩ x).setCell ⟨b,1,none⟩ y).cell? ⟨b,0,none⟩=some x∧((w.setCell ⟨b,0,none⟩ x).setCell ⟨b,1,none⟩ y).cell? ⟨b,1,none⟩=some y:=two_set h1 h2
theorem moves_at {g:G} {k j:Nat} (hj:j<(movesI g k).length):∃d:Nat,d<8∧g.mayC k d=true∧(movesI g k).getD j 0=(d:Int)∧(g.moves k)[j]? = some d:=by
 have hl:(movesI g k).length=(g.moves k).length:=by rw [movesI_eq,List.length_map]
 have hj':j<(g.moves k).length:=by omega
 have hm:=List.getElem_mem hj';unfold G.moves at hm;have:=List.mem_filter.1 hm;refine ⟨(g.moves k)[j],List.mem_range.1 this.1,this.2,?_,List.getElem?_eq_getElem hj'⟩;rw [movesI_eq];simp [List.getD,hj']
theorem bel_cell {w w':World} {a:Addr} {v:Value} (h:Below w.heap.size w w') (hc:w.cell? a=some v):w'.cell? a=some v:=(h.cell (World.block_lt_of_cell? w _ hc)).trans hc
theorem alloc_some {w:World} {o:Obj} {a:Addr} {v:Value} (h:w.cell? a=some v):(w.alloc o).cell? a=some v:=by
 rw [World.cell?_alloc_old w _ _ (Nat.ne_of_lt (World.block_lt_of_cell? w _ h))];exact h
theorem step_parts (d:Nat):∃es ed:Int,stepC d=⟨es,ed⟩∧(d:Int).tmod 2=ed∧1-ed=es∧0≤ed∧ed≤1:=by
 refine ⟨1-((d % 2:Nat):Int),((d % 2:Nat):Int),?_,?_,rfl,by omega,by omega⟩
 ·unfold stepC
  rcases Nat.mod_two_eq_zero_or_one d with h | h <;> simp [h]
 ·rw [Int.tmod_eq_emod_of_nonneg (by omega)];simp
def PendM (g:G) (k j:Nat) (b:Nat) (e:C):Prop:=∃d,d∈(g.moves k).drop j∧b=g.to k d∧e=stepC d
def hpI (hp:Nat→Option C) (z:Int):Option C:=if 0≤z then hp z.toNat else none
theorem hpI_nat (hp:Nat→Option C) (n:Nat):hpI hp (n:Nat)=hp n:=by unfold hpI;rw [if_pos (by omega)];rfl
theorem hpI_set (hp:Nat→Option C) (n:Nat) (v:Option C):hset (hpI hp) (n:Nat) v=hpI (upd hp n v):=by
 funext z
 unfold hset hpI upd
 by_cases h:0≤z
 ·rw [if_pos h,if_pos h]
  by_cases e:z=(n:Nat)
  ·rw [if_pos e,if_pos (by omega)]
  ·rw [if_neg e,if_neg (by omega)]
 ·rw [if_neg h,if_neg h,if_neg (by omega)]
theorem hpI_none:(fun _=>none:Int→Option C)=hpI (fun _=>none):=by funext z;unfold hpI;split <;> rfl
theorem cntS_none (N:Nat):cntS (fun _=>none) N=0:=by unfold cntS;exact cntN_none N
def pushed (hp:Nat→Option C) (k:Nat) (c:C) (t:Bool):Nat→Option C:=if t=true then upd hp k (some c) else hp
def lower? (hp:Nat→Option C) (k:Nat) (c:C):Bool:=match hp k with | none=>true | some d=>decide (C.cmp c d<0)
theorem lower_yes {hp:Nat→Option C} {k:Nat} {c:C} (h:lower? hp k c=true):∀d,hp k=some d→C.lt c d:=by
 intro d hd;unfold lower? at h;rw [hd] at h;simp at h;exact C.cmp_neg.1 h
theorem lower_no {hp:Nat→Option C} {k:Nat} {c:C} (h:lower? hp k c=false):∃d,hp k=some d∧C.le d c:=by
 unfold lower? at h
 cases hk:hp k with
 | none=>rw [hk] at h;cases h
 | some d=>
  rw [hk] at h;simp at h;exact ⟨d,rfl,C.cmp_nonneg.1 h⟩
theorem heapPushN (w : World) (S : List Nat) (q N : Nat) (hp : Nat → Option C) (k : Nat) (ds dd : Int) (t : Bool) (h : HeapOf w S q (cntS hp N) (hpI hp)) (hk : k < N) (hN : N ≤ 1000000) (hc : inCC ⟨ds, dd⟩) (ht : lower? hp k ⟨ds, dd⟩ = t) :
    Calls Tryz.prog 197 #[.pointer (some ⟨q,0,none⟩),.int .i64 (k:Nat),.agg #[.int .i64 ds,.int .i64 dd]] w (HeapD w S q (cntS (pushed hp k ⟨ds,dd⟩ t) N) (hpI (pushed hp k ⟨ds,dd⟩ t)) (.bool t)):=by
 cases hz:hp k with
 | none=>
  have e:t=true:=by rw [←ht];unfold lower?;rw [hz]
  subst e
  have:=heapPush_new w S q (cntS hp N) (hpI hp) (k:Nat) ds dd h (by rw [hpI_nat];exact hz) hc (Nat.le_trans (cntS_le _ _) hN)
  rw [hpI_set] at this;unfold pushed;rw [if_pos rfl,cntS_new hk hz];exact this
 | some d=>
  obtain ⟨es,ed⟩:=d
  have e:decide (C.cmp ⟨ds,dd⟩ ⟨es,ed⟩<0)=t:=by rw [←ht];unfold lower?;rw [hz]
  have:=heapPush_old w S q (cntS hp N) (hpI hp) (k:Nat) ds dd es ed t h (by rw [hpI_nat];exact hz) hc e
  have e2:(if t=true then hset (hpI hp) (k:Nat) (some ⟨ds,dd⟩) else hpI hp)=hpI (pushed hp k ⟨ds,dd⟩ t):=by
   unfold pushed;split
   ·rw [hpI_set]
   ·rfl
  have e3:cntS (pushed hp k ⟨ds,dd⟩ t) N=cntS hp N:=by
   unfold pushed cntS;split
   ·exact cnt_hkeep N (by rw [hz];simp) _
   ·rfl
  rw [e2] at this;rw [e3];exact this
def PopN (w:World) (S:List Nat) (q N:Nat) (hp:Nat→Option C) (e:Ending) (w':World):Prop:=
 ∃k ds dd,hp k=some ⟨ds,dd⟩∧(∀j d,hp j=some d→C.le ⟨ds,dd⟩ d)∧e=.returned (.tuple #[.int .i64 (k:Nat),.agg #[.int .i64 ds,.int .i64 dd],.bool true])∧HeapOf w' S q (cntS (upd hp k none) N) (hpI (upd hp k none))∧Kept S w w'
theorem It.le_c {a b:It} (h:It.le a b):C.le a.c b.c:=by
 unfold It.le It.lt at h;intro hl;exact h (.inl hl)
def PopL (w:World) (S:List Nat) (q N:Nat) (hp:Nat→Option C) (e:Ending) (w':World):Prop:=
 ∃k ds dd,hp k=some ⟨ds,dd⟩∧(∀j d,hp j=some d→It.le ⟨⟨ds,dd⟩,(k:Nat)⟩ ⟨d,(j:Nat)⟩)∧e=.returned (.tuple #[.int .i64 (k:Nat),.agg #[.int .i64 ds,.int .i64 dd],.bool true])∧HeapOf w' S q (cntS (upd hp k none) N) (hpI (upd hp k none))∧Kept S w w'
theorem heapPopL (w : World) (S : List Nat) (q N : Nat) (hp : Nat → Option C) (h : HeapOf w S q (cntS hp N) (hpI hp)) (hr : ∀ j, hp j ≠ none → j < N) (hN : N ≤ 1000000) (h0 : cntS hp N ≠ 0) :
    Calls Tryz.prog 149 #[.pointer (some ⟨q,0,none⟩)] w (PopL w S q N hp):=by
 obtain ⟨k,hk⟩:∃k,cntS hp N=k+1:=⟨cntS hp N-1,by omega⟩
 rw [hk] at h
 refine (heapPop_some w S q k (hpI hp) h (by have:=cntS_le hp N;omega)).mono ?_
 rintro e w' ⟨id,ds,dd,h1,h2,h3,h4,h5⟩
 have hid:0≤id:=by
  apply Classical.byContradiction
  intro hn;unfold hpI at h1;rw [if_neg hn] at h1;cases h1
 obtain ⟨j,rfl⟩:=Int.eq_ofNat_of_zero_le hid
 have h1':hp j=some ⟨ds,dd⟩:=by rw [←hpI_nat hp j];exact h1
 have hj:j<N:=hr j (by rw [h1'];simp)
 have hcnt:cntS hp N=cntS (upd hp j none) N+1:=cnt_hpop hj (by rw [h1'];simp)
 refine ⟨j,ds,dd,h1',fun i d hi=>h2 (i:Nat) d (by rw [hpI_nat];exact hi),h3,?_,h5⟩
 have h6:HeapOf w' S q k (hset (hpI hp) (j:Nat) none):=h4
 rw [hpI_set,show k=cntS (upd hp j none) N by omega] at h6
 exact h6
theorem heapPopN (w : World) (S : List Nat) (q N : Nat) (hp : Nat → Option C) (h : HeapOf w S q (cntS hp N) (hpI hp)) (hr : ∀ j, hp j ≠ none → j < N) (hN : N ≤ 1000000) (h0 : cntS hp N ≠ 0) :
    Calls Tryz.prog 149 #[.pointer (some ⟨q,0,none⟩)] w (PopN w S q N hp):=
 (heapPopL w S q N hp h hr hN h0).mono fun _ _ ⟨k,ds,dd,h1,h2,h3,h4,h5⟩=>⟨k,ds,dd,h1,fun j d hd=>It.le_c (h2 j d hd),h3,h4,h5⟩
theorem cellK {S:List Nat} {w w':World} {b o:Nat} {v:Value} (h:Kept S w w') (hb:b∉S) (hc:w.cell? ⟨b,o,none⟩=some v):w'.cell? ⟨b,o,none⟩=some v:=by
 have hl:=World.block_lt_of_cell? _ _ hc;have e:w'.cell? ⟨b,o,none⟩=w.cell? ⟨b,o,none⟩:=World.cell?_of_block (h.block b hl hb);rw [e];exact hc
theorem step_inC (d:Nat):0≤(stepC d).s∧(stepC d).s≤1∧0≤(stepC d).d∧(stepC d).d≤1:=by unfold stepC;split <;> simp
theorem mapI_none {f:Nat→Option Value} (h:∀j,f j=none):mapI f=fun _=>none:=by
 funext z;unfold mapI;split
 ·exact h _
 ·rfl
theorem cntS_zero {hp:Nat→Option C} {N:Nat} (h:cntS hp N=0) (hr:∀j,hp j≠none→j<N):∀j,hp j=none:=by
 intro j
 cases hj:hp j with
 | none=>rfl
 | some c=>
  have:=cntN_zero h j (hr j (by rw [hj];simp))
  rw [hj] at this;cases this
theorem intsReverse (w : World) (B : Nat) (v : Value) (zs : List Int) (hown : OwnI w B v zs) (hl : zs.length ≤ 1000000000) (hB : B ≤ w.heap.size) :
    Calls Tryz.prog 200 #[v] w fun e w'=>e=.returned (.tuple #[])∧OwnI w' B v zs.reverse∧Below B w w':=by
 rcases hown.2 with ⟨rfl,hn⟩ | ⟨g,cap,cur,rfl,hg,hh,hc,hm,hs,ht⟩
 ·have:zs=[]:=List.eq_nil_of_length_eq_zero hn
  subst this;refine (Tryz.slices_Reverse_int_empty none 0 w).mono ?_;rintro e w' ⟨h1,h2⟩;subst h2;exact ⟨h1,OwnI.nil _ _,Below.refl _ _⟩
 ·have ht1:cur.toList.take zs.length=zs.map (Value.int .i64):=by rw [Nat.mul_one] at ht;exact ht
  refine (Tryz.slices_Reverse_int g 0 cap zs w (holds_of_blockI hh ht1) (by omega)).mono ?_
  rintro e w' ⟨h1,n,h2⟩
  have e0:w'=grow (putRow (Value.int .i64) (Sort.ahead w n) g 0 zs.reverse.toArray) #[]:=by rw [grow_empty];exact h2
  have h3:=ownsRow_sortedI (w:=w) (n:=n) (os:=#[]) (ss:=zs) (ts:=zs.reverse) (by simp) hg hh hc hm hs
  have h4:=grownBy_sortedI (w:=w) (g:=g) (n:=n) (os:=#[]) zs.reverse.toArray;rw [←e0] at h3 h4
  refine ⟨h1,?_,⟨h4.os,h4.tape,h4.output,h4.size,fun k hk=>?_⟩⟩
  ·unfold OwnI;rw [List.length_reverse];exact h3
  ·by_cases hkw:k<w.heap.size
   ·exact h4.block k hkw (by intro e;injection e with e;omega)
   ·omega
theorem walkCl (w : World) (b1 b2 b3 b4 gp : Nat) (g : G) (v : Int) (A : Option Addr) (n m : Nat) (f : Nat → Int) (i iv k d : Nat) (cell z : Int) (t : Bool) (hG : GridAt w gp g v) (hI : Ints w A n f) (hin : i < n) (hiv : iv = i + 1) (hi9 : iv ≤ 1000000) (hfk : f i = (k : Nat)) (hkn : k < g.n) (hd : d < 8)
    (hz:g.toI k d=z) (ht:(z == cell)=t)
    (c1:w.cell? ⟨b1,0,none⟩=some (.pointer (some ⟨gp,0,none⟩))) (c2:w.cell? ⟨b2,0,none⟩=some (.slice A n m)) (c3:w.cell? ⟨b3,0,none⟩=some (.int .i64 (iv:Nat))) (c4:w.cell? ⟨b4,0,none⟩=some (.int .i64 cell)) :
    Calls Tryz.prog 92 #[.int .i64 (d:Nat),.pointer (some ⟨b1,0,none⟩),.pointer (some ⟨b2,0,none⟩),.pointer (some ⟨b3,0,none⟩),.pointer (some ⟨b4,0,none⟩)] w fun e w'=>e=.returned (.bool t)∧Below w.heap.size w w':=by
 obtain ⟨ad,hA⟩:=hI.addr (by omega)
 have hIb:=hI;rw [hA] at hIb
 have hix:=fun wx=>idx_run (m:=m) hA hin wx
 have hE:=hIb.cell (Below.refl _ _) hin;rw [hfk] at hE
 have hwr:IntKind.i64.wrap ((iv:Int)-1)=(i:Int):=by
  rw [show (iv:Int)-1=(i:Int) by omega];exact IntWalk.i64_in _ (by omega)
 have hp:=Lib.hid hG.lt;have c1q:=cell_regrown c1;have c2q:=cell_regrown c2;have c3q:=cell_regrown c3;have c4q:=cell_regrown c4;have hEq:=cell_regrown hE;have HB:=Below.refl w.heap.size w
 have hbv:∀wx wy,Ending.returned (Value.bool (z == cell))=.returned (.bool t)∧Below w.heap.size wx wy↔Below w.heap.size wx wy:=fun _ _=>by rw [ht];simp
 have hbv:=Lib.hid hbv;have HG:=Lib.hid hG;have Hz:=Lib.hid hz;clear hA hI hIb hfk hG hiv ht hz;go_enter Tryz.func92,Tryz.ntmps92;go_wp2_with fail
 refine wp_region_quiet_below (by kernel_rfl) (by kernel_rfl) ?_
 repeat (first | go_big_quiet_step ((with_reducible exact Calls.regrown_of (To_eq _ gp g v k d _ (HG.out.below (HB.trans ((below_regrown w _ _).mono HB.size)) hp.out) hkn hd Hz.out))) | quiet_step ((with_reducible exact Calls.regrown_of (To_eq _ gp g v k d _ (HG.out.below (HB.trans ((below_regrown w _ _).mono HB.size)) hp.out) hkn hd Hz.out))))
 refine wpQuiet_nil ?_;intro _ hw';obtain ⟨⟨dq,osq⟩,hw''⟩:=hw';have HB2:=bel_trans HB (below_regrown w dq osq);have hb2:=below_regrown w dq osq;subst hw''
 generalize grow (redrawn w dq) osq=w2 at HB2 hb2 ⊢
 go_wp2;go_ret;exact (hbv.out _ _).2 HB2
def idxR (o:Option Nat):Int:=match o with | some i=>(i:Nat) | none=>-1
theorem idxFunc (w : World) (b1 b2 b3 b4 gp : Nat) (g : G) (v : Int) (A A1 : Option Addr) (n m m1 nl : Nat) (f : Nat → Int) (i iv k c : Nat) (hG : GridAt w gp g v) (hI : Ints w A n f) (hin : i < n) (hiv : iv = i + 1) (hi9 : iv ≤ 1000000) (hfk : f i = (k : Nat)) (hkn : k < g.n)
    (hI1:Ints w A1 nl (fun x=>(movesI g k).getD x 0)) (hnl:(movesI g k).length=nl)
    (c1:w.cell? ⟨b1,0,none⟩=some (.pointer (some ⟨gp,0,none⟩))) (c2:w.cell? ⟨b2,0,none⟩=some (.slice A n m)) (c3:w.cell? ⟨b3,0,none⟩=some (.int .i64 (iv:Nat))) (c4:w.cell? ⟨b4,0,none⟩=some (.int .i64 (c:Nat))) :
    Calls Tryz.prog 91 #[.slice A1 nl m1,.func (.func 92) #[] #[.pointer (some ⟨b1,0,none⟩),.pointer (some ⟨b2,0,none⟩),.pointer (some ⟨b3,0,none⟩),.pointer (some ⟨b4,0,none⟩)]] w fun e w'=>e=.returned (.int .i64 (idxR (g.widx k c)))∧Below w.heap.size w w':=by
 have hnl8:nl≤8:=by rw [←hnl];exact upTo_len _ _
 have Hnl:=Lib.hid hnl
 have cC:=Lib.hid (fun w' (hb:Below w.heap.size w w') d z t hd hz ht=>walkCl w' b1 b2 b3 b4 gp g v A n m f i iv k d (c:Nat) z t (hG.below hb hG.lt) (hI.below hb) hin hiv hi9 hfk hkn hd hz ht (bel_cell hb c1) (bel_cell hb c2) (bel_cell hb c3) (bel_cell hb c4))
 have HI1:=Lib.hid hI1;clear hG hI hin hiv hi9 hfk c1 c2 c3 c4 hI1 hnl;go_enter Tryz.func91,Tryz.ntmps91;go_wp2_with fail
 go_loopw [8] (fun kv wr=>∃j:Nat,j≤nl∧kv=.int .i64 j∧(∀j' d:Nat,j'<j→(g.moves k)[j']? = some d→g.to k d≠c)∧Below w.heap.size w wr) (fun kv _=>nl-(intOf kv).toNat)
 case atStart=>exact ⟨0,by omega,rfl,fun j' d h=>by omega,Below.refl _ _⟩
 case round=>
  obtain ⟨j,hj,rfl,hno,HB⟩:=hrel;have hno:=Lib.hid hno
  by_cases hlj:j<nl
  ·obtain ⟨ad1,hA1⟩:=HI1.out.addr (by omega)
   have hIb:=HI1.out;rw [hA1] at hIb
   have hix1:=fun wx=>idx_run (m:=m1) hA1 hlj wx
   have hE1:=hIb.cell HB hlj
   obtain ⟨d,hd8,hmay,hgd,hnth⟩:=moves_at (g:=g) (k:=k) (j:=j) (by rw [Hnl.out];exact hlj)
   rw [hgd] at hE1;obtain ⟨ht1,ht2⟩:=to_eq hmay;obtain ⟨t,ht⟩:∃t,(((g.to k d:Nat):Int) == (c:Nat))=t:=⟨_,rfl⟩;have cD:=Lib.hid (cC.out wr HB d _ t hd8 ht1 ht);have Ht:=Lib.hid ht;have Hnth:=Lib.hid hnth;clear hA1 hIb hgd ht1 ht hnth hmay ht2;go_wp2_with fail
   (with_reducible refine (cD.out).mono ?_)
   rintro e w2 ⟨rfl,hb2⟩;have HB2:=bel_trans HB hb2;clear cD HB hb2 hE1
   cases t with
   | true=>
    have hr:idxR (g.widx k c)=(j:Nat):=by
     have htc:g.to k d=c:=by have:=Ht.out;simp at this;omega
     cases hw:g.widx k c with
     | none=>exact absurd htc (G.widx_none hw j d Hnth.out)
     | some i'=>
      obtain ⟨d',h1,h2,h3⟩:=G.widx_some hw;rw [(h3 j d Hnth.out).1 htc];rfl
    have Hr:=Lib.hid hr;clear hr;go_wp2;go_ret
    exact ⟨by rw [Hr.out];rfl,HB2⟩
   | false=>
    have hno2:∀j' d':Nat,j'<j+1→(g.moves k)[j']? = some d'→g.to k d'≠c:=by
     intro j' d' h1 h2
     by_cases e:j'=j
     ·subst e
      have:=Hnth.out
      rw [h2] at this;injection this with this;subst this
      have:=Ht.out;simp at this;omega
     ·exact hno.out j' d' (by omega) h2
    have hno2:=Lib.hid hno2;go_wp2;go_roundw
    case rel=>exact ⟨j+1,by omega,by go_num,hno2.out,HB2⟩
    case measure=>simp [intOf];omega
  ·obtain rfl:j=nl:=by omega
   have hr:idxR (g.widx k c) = -1:=by
    cases hw:g.widx k c with
    | none=>rfl
    | some i'=>
     obtain ⟨d',h1,h2,h3⟩:=G.widx_some hw;have hlt:=(List.getElem?_eq_some_iff.1 h1).1
     have hln:(g.moves k).length=j:=by rw [←Hnl.out,movesI_eq,List.length_map]
     exact absurd h2 (hno.out i' d' (by omega) h1)
   have Hr:=Lib.hid hr;clear hr;go_wp2;go_ret
   exact ⟨by rw [Hr.out];rfl,HB⟩
def errV (k:Nat):Value:=if k=0 then .nilIface else .iface 45 (.int .i64 (k:Nat))
def costWE (x:C×Nat):Value:=.tuple #[.agg #[.int .i64 x.1.s,.int .i64 x.1.d],errV x.2]
def WkI (W:World) (b6:Nat) (g:G) (f:Nat→Int) (i:Nat) (wr:World):Prop:=∃cs cd,g.wres f i=.inr ⟨cs,cd⟩∧wr.cell? ⟨b6,0,none⟩=some (.int .i64 cs)∧wr.cell? ⟨b6,1,none⟩=some (.int .i64 cd)∧wr.frozen? ⟨b6,0,none⟩=false∧wr.frozen? ⟨b6,1,none⟩=false∧Kept [b6] W wr
def WkD (w:World) (x:C×Nat) (e:Ending) (w':World):Prop:=e=.returned (costWE x)∧Below w.heap.size w w'
theorem kframe {S:List Nat} {w w':World} {b o:Nat} (h:Kept S w w') (hb:b∉S) (hl:b<w.heap.size) {t:Bool} (hf:w.frozen? ⟨b,o,none⟩=t):w'.frozen? ⟨b,o,none⟩=t:=by
 have e:w'.frozen? ⟨b,o,none⟩=w.frozen? ⟨b,o,none⟩:=by simp only [World.frozen?,h.block b hl hb]
 rw [e];exact hf
theorem Ints.kept0 {S:List Nat} {w w':World} {A:Option Addr} {n:Nat} {f:Nat→Int} (h:Ints w A n f) (hk:Kept S w w') (hS:0<n→∀ad,A=some ad→ad.block∉S):Ints w' A n f:=by
 intro hn;obtain ⟨ad,h1,h2,h3⟩:=h hn
 exact ⟨ad,h1,Nat.lt_of_lt_of_le h2 hk.size,fun k hk'=>by
  have e:w'.cell? (ad.add k)=w.cell? (ad.add k):=World.cell?_of_block (by rw [add_block];exact hk.block _ h2 (hS hn ad h1))
  rw [e];exact h3 k hk'⟩
theorem WkI.of_set {W w7 wA : World} {b6 i : Nat} {g : G} {f : Nat → Int} {x y : Int} {u v : Value} (hK7 : Kept [b6] W w7) (hb : Below w7.heap.size w7 wA) (hres : g.wres f i = .inr ⟨x, y⟩) (c60 : wA.cell? ⟨b6, 0, none⟩ = some u) (c61 : wA.cell? ⟨b6, 1, none⟩ = some v)
    (r60:wA.frozen? ⟨b6,0,none⟩=false) (r61:wA.frozen? ⟨b6,1,none⟩=false):WkI W b6 g f i ((wA.setCell ⟨b6,0,none⟩ (.int .i64 x)).setCell ⟨b6,1,none⟩ (.int .i64 y)):=by
 have e:=set_two (x:=.int .i64 x) (y:=.int .i64 y) c60 c61
 refine ⟨x,y,hres,e.1,e.2,by simpa using r60,by simpa using r61,?_⟩
 exact hK7.trans (((Kept.of_below hb).setCell (.inl (by simp))).setCell (.inl (by simp)))
theorem bframe {w w':World} {a:Addr} {t:Bool} (h:Below w.heap.size w w') (hl:a.block<w.heap.size) (hf:w.frozen? a=t):w'.frozen? a=t:=(h.frozen hl).trans hf
theorem floodWalk (w : World) (p : Nat) (g : G) (v : Int) (A : Option Addr) (n m : Nat) (f : Nat → Int) (hG : GridAt w p g v) (hI : Ints w A n f) (hn : n ≤ 1000000) :
    Calls Tryz.prog 47 #[.pointer (some ⟨p,0,none⟩),.slice A n m] w (WkD w (g.wout f n)):=by
 go_enter Tryz.func47,Tryz.ntmps47
 go_upto_region 2 with (fail)
 refine wp_name ?_;intro W hW
 have HW:Below w.heap.size w W:=by rw [hW];(repeat' (first | exact Below.refl _ _ | assumption | apply bel_drewN | apply bel_drew | apply bel_alloc | (refine bel_trans ?_ (by assumption))))
 obtain ⟨b2,hb2⟩:∃b,w.heap.size=b:=⟨_,rfl⟩
 have hWs:W.heap.size=b2+1+1+1+1:=by rw [hW];simp;omega
 have q2:W.cell? ⟨b2,0,none⟩=some (.pointer (some ⟨p,0,none⟩)):=by rw [hW,←hb2];go_simp
 have q3:W.cell? ⟨b2+1,0,none⟩=some (.slice A n m):=by rw [hW,←hb2];go_simp
 have q40:W.cell? ⟨b2+1+1,0,none⟩=some (.int .i64 0):=by rw [hW,←hb2];go_simp
 have q41:W.cell? ⟨b2+1+1,1,none⟩=some (.int .i64 0):=by rw [hW,←hb2];go_simp
 have r40:W.frozen? ⟨b2+1+1,0,none⟩=false:=by rw [hW,←hb2];go_simp
 have r41:W.frozen? ⟨b2+1+1,1,none⟩=false:=by rw [hW,←hb2];go_simp
 have q60:W.cell? ⟨b2+1+1+1,0,none⟩=some (.int .i64 0):=by rw [hW,←hb2];go_simp
 have q61:W.cell? ⟨b2+1+1+1,1,none⟩=some (.int .i64 0):=by rw [hW,←hb2];go_simp
 have r60:W.frozen? ⟨b2+1+1+1,0,none⟩=false:=by rw [hW,←hb2];go_simp
 have r61:W.frozen? ⟨b2+1+1+1,1,none⟩=false:=by rw [hW,←hb2];go_simp
 have hGW:=Lib.hid (hG.below HW hG.lt);have hIW:=Lib.hid (hI.below HW);have hpl:=hG.lt
 rw [hb2] at hpl ⊢
 obtain ⟨b3,hb3⟩:∃b,b2+1=b:=⟨_,rfl⟩
 rw [hb3] at hWs q3 q40 q41 r40 r41 q60 q61 r60 r61 ⊢
 obtain ⟨b4,hb4⟩:∃b,b3+1=b:=⟨_,rfl⟩
 rw [hb4] at hWs q40 q41 r40 r41 q60 q61 r60 r61 ⊢
 obtain ⟨b6,hb6⟩:∃b,b4+1=b:=⟨_,rfl⟩
 rw [hb6] at hWs q60 q61 r60 r61 ⊢
 have hok:=hG.1;have hNn:=G.n_le hok;clear hW hG
 have hAd:0<n→∀ad,A=some ad→ad.block<b2:=fun h0 ad e=>by
  obtain ⟨ad',e',hlt,_⟩:=hI h0
  rw [e'] at e;injection e with e;subst e;omega
 have hAd:=Lib.hid hAd;clear hI;have hstart:WkI W b6 g f 0 W:=⟨0,0,rfl,q60,q61,r60,r61,Kept.refl _ _⟩;go_wp2_with fail
 go_loopw [16] (fun kv wr=>∃i:Nat,i≤n∧kv=.int .i64 i∧WkI W b6 g f i wr) (fun kv _=>n-(intOf kv).toNat)
 case atStart=>exact ⟨0,by omega,rfl,hstart⟩
 case round=>
  obtain ⟨i,hi,rfl,cs,cd,hres,c60,c61,r60,r61,hK⟩:=hrel;clear hstart q60 q61
  have q2:=cellK hK (by simp;omega) q2
  have q3:=cellK hK (by simp;omega) q3
  have q40:=cellK hK (by simp;omega) q40
  have q41:=cellK hK (by simp;omega) q41
  have r40:=kframe hK (by simp;omega) (by omega) r40
  have r41:=kframe hK (by simp;omega) (by omega) r41
  have hGr:=Lib.hid (hGW.out.keptS hK (by simp;omega))
  have hIr:=Lib.hid (hIW.out.kept0 hK (fun h0 ad e=>by have:=hAd.out h0 ad e;simp;omega))
  have hBr:Below w.heap.size w wr:=Kept.below HW hK HW.size (by simp;omega)
  have hBr:=Lib.hid hBr;have HK:=Lib.hid hK;have hsz:=hK.size;clear hK
  by_cases hlt:i<n
  ·obtain ⟨ad,hA⟩:=hIr.out.addr (by omega)
   have hIb:=hIr.out;rw [hA] at hIb
   have hix:=fun wx=>idx_run (m:=m) hA hlt wx
   have hE:=hIb.cell (Below.refl _ _) hlt;have Hres:=Lib.hid hres;clear hA hIb hres;obtain ⟨fi,hfi⟩:∃fi,f i=fi:=⟨_,rfl⟩;rw [hfi] at hE;have Hfi:=Lib.hid hfi;clear hfi
   go_upto_region 5 with (fail)
   refine wp_name ?_;intro W5 hW5
   have HW5:Below wr.heap.size wr W5:=by rw [hW5];(repeat' (first | exact Below.refl _ _ | assumption | apply bel_drewN | apply bel_drew | apply bel_alloc | (refine bel_trans ?_ (by assumption))))
   obtain ⟨b7,hb7⟩:∃b,wr.heap.size=b:=⟨_,rfl⟩
   have hs5:W5.heap.size=b7+1+1:=by rw [hW5];simp;omega
   have q7:W5.cell? ⟨b7,0,none⟩=some (.int .i64 (i:Nat)):=by rw [hW5,←hb7];go_simp
   have q8:W5.cell? ⟨b7+1,0,none⟩=some (.int .i64 fi):=by rw [hW5,←hb7];go_simp
   rw [hb7] at ⊢
   obtain ⟨b8,hb8⟩:∃b,b7+1=b:=⟨_,rfl⟩
   rw [hb8] at hs5 q8 ⊢
   have q2:=bel_cell HW5 q2;have q3:=bel_cell HW5 q3;have q40:=bel_cell HW5 q40;have q41:=bel_cell HW5 q41
   have r40:=bframe HW5 (by simp only;omega) r40
   have r41:=bframe HW5 (by simp only;omega) r41
   have c60:=bel_cell HW5 c60;have c61:=bel_cell HW5 c61
   have r60:=bframe HW5 (by simp only;omega) r60
   have r61:=bframe HW5 (by simp only;omega) r61
   have hE:=bel_cell HW5 hE;have hG5:=Lib.hid (hGr.out.below HW5 hGr.out.lt);have hI5:=Lib.hid (hIr.out.below HW5);have hB5:=Lib.hid (bel_trans hBr.out HW5);have hK5:=Lib.hid (HK.out.trans (Kept.of_below HW5));clear hW5 HW5 hGr hIr hBr HK hix hE
   by_cases hin:0≤fi∧fi<g.n
   ·obtain ⟨hin0,hin1⟩:=hin
    obtain ⟨c,hc⟩:=Int.eq_ofNat_of_zero_le hin0;subst hc
    have hcn:c<g.n:=by omega
    have cF:=gridFree_in W5 p g v c hG5.out hcn
    cases hbl:g.b c with
    | true=>
     rw [hbl] at cF
     have hwo:g.wout f n=(C.zero,4):=by
      have hf4:g.fault (f i)=4:=by rw [Hfi.out,G.fault_in hcn,hbl];rfl
      have:=G.wout_bad (G.wres_fault Hres.out (by rw [hf4];decide)) (n:=n) (by omega)
      rw [hf4] at this;exact this
     have hwo:=Lib.hid hwo;go_wp2_with fail
     (with_reducible refine cF.mono ?_)
     rintro e w6 ⟨rfl,hb6'⟩;have q40:=bel_cell hb6' q40;have q41:=bel_cell hb6' q41
     have r40:=bframe hb6' (by simp only;omega) r40
     have r41:=bframe hb6' (by simp only;omega) r41
     clear cF;go_wp2;have e2:=set_two (x:=.int .i64 0) (y:=.int .i64 0) q40 q41
     refine bodyPost_ret (v:=.tuple #[.agg #[.int .i64 0,.int .i64 0],.iface 45 (.int .i64 4)]) (by simp [results,Tryz.results47,go_sem,e2]) rfl ?_
     exact ⟨by rw [hwo.out];rfl,((bel_trans hB5.out hb6').setCell (by simp only;omega) _).setCell (by simp only;omega) _⟩
    | false=>
     rw [hbl] at cF
     have hf0:g.fault (f i)=0:=by rw [Hfi.out,G.fault_in hcn,hbl];rfl
     have Hf0:=Lib.hid hf0;clear hf0;go_wp2_with fail
     (with_reducible refine cF.mono ?_)
     rintro e w6 ⟨rfl,hb6'⟩;have hs6:=hb6'.size;have q2:=bel_cell hb6' q2;have q3:=bel_cell hb6' q3;have q40:=bel_cell hb6' q40;have q41:=bel_cell hb6' q41;have q7:=bel_cell hb6' q7;have q8:=bel_cell hb6' q8
     have r40:=bframe hb6' (by simp only;omega) r40
     have r41:=bframe hb6' (by simp only;omega) r41
     have c60:=bel_cell hb6' c60;have c61:=bel_cell hb6' c61
     have r60:=bframe hb6' (by simp only;omega) r60
     have r61:=bframe hb6' (by simp only;omega) r61
     have hG6:=Lib.hid (hG5.out.below hb6' hG5.out.lt);have hI6:=Lib.hid (hI5.out.below hb6');have hB6:=Lib.hid (bel_trans hB5.out hb6');have hK6:=Lib.hid (hK5.out.trans (Kept.of_below hb6'));clear cF hb6' hG5 hI5 hB5 hK5
     rcases Nat.eq_zero_or_pos i with hi0 | hi0
     ·subst hi0
      have hz:cs=0∧cd=0:=by
       have h:=Hres.out;unfold G.wres at h
       injection h with h
       unfold C.zero at h
       injection h with h1 h2
       exact ⟨h1.symm,h2.symm⟩
      obtain ⟨rfl,rfl⟩:=hz;have hin:WkI W b6 g f 1 w6:=⟨0,0,G.wres_first Hf0.out,c60,c61,r60,r61,hK6.out⟩;have hin:=Lib.hid hin;clear c60 c61 r60 r61 q40 q41 r40 r41;go_wp2;go_roundw
      case rel=>exact ⟨1,by omega,by go_num,hin.out⟩
      case measure=>simp [intOf];omega
     ·obtain ⟨i',hii⟩:∃i',i=i'+1:=⟨i-1,by omega⟩
      have hii':i'<n:=by omega
      have hne:((i:Int) == 0)=false:=by simp;omega
      have Hres2:=Hres.out;rw [hii] at Hres2;obtain ⟨k,hfk,hkn,hkb⟩:=G.wres_ok Hres2;have hbd:=G.wres_bd Hres2;simp only at hbd;obtain ⟨bd1,bd2,bd3,bd4⟩:=hbd;have Hres3:=Lib.hid Hres2
      have Hf1:g.fault (f (i'+1))=0:=by rw [←hii];exact Hf0.out
      have Hf1:=Lib.hid Hf1
      have Hc:f (i'+1)=(c:Nat):=by rw [←hii];exact Hfi.out
      have Hc:=Lib.hid Hc
      obtain ⟨ad,hA⟩:=hI6.out.addr (by omega)
      have hIb:=hI6.out;rw [hA] at hIb
      have hix:=fun wx=>idx_run (m:=m) hA hii' wx
      have hE:=hIb.cell (Below.refl _ _) hii';rw [hfk] at hE
      have hwr:IntKind.i64.wrap ((i:Int)-1)=(i':Int):=by
       rw [show (i:Int)-1=(i':Int) by omega];exact IntWalk.i64_in _ (by omega)
      have Hii:=Lib.hid hii;have Hfk:=Lib.hid hfk;clear hA hIb Hres2 hfk hii
      go_upto_region 11 with (fail)
      go_region_held3 (fun w'=>w'.cell? ⟨b2,0,none⟩=some (.pointer (some ⟨p,0,none⟩))∧w'.cell? ⟨b3,0,none⟩=some (.slice A n m)∧w'.cell? ⟨b7,0,none⟩=some (.int .i64 (i:Nat))∧w'.cell? (ad.add i')=some (.int .i64 (k:Nat)))
       (first
        | (go_keep;done)
        | (go_split_ands
           exact ⟨bel_cell hbM (by assumption),bel_cell hbM (by assumption),bel_cell hbM (by assumption),bel_cell hbM (by assumption)⟩))
       (first
        | (go_at_call 90
           refine (gridMovesN _ p g v k (hG6.out.below (bel_drew (Below.refl _ _)) hG6.out.lt) hkn).mono ?_;rintro e wM ⟨A1,m1,rfl,hI1,hN1,hbM⟩))
      have HbM:Below w6.heap.size w6 wM:=bel_trans (bel_drew (Below.refl _ _)) hbM;have hsM:=HbM.size;have q2:=bel_cell HbM q2;have q3:=bel_cell HbM q3;have q40:=bel_cell HbM q40;have q41:=bel_cell HbM q41;have q7:=bel_cell HbM q7;have q8:=bel_cell HbM q8
      have r40:=bframe HbM (by simp only;omega) r40
      have r41:=bframe HbM (by simp only;omega) r41
      have c60:=bel_cell HbM c60;have c61:=bel_cell HbM c61
      have r60:=bframe HbM (by simp only;omega) r60
      have r61:=bframe HbM (by simp only;omega) r61
      have hBM:=Lib.hid (bel_trans hB6.out HbM);have hKM:=Lib.hid (hK6.out.trans (Kept.of_below HbM));obtain ⟨nl,hnl⟩:∃nl,(movesI g k).length=nl:=⟨_,rfl⟩
      rw [hnl] at hI1 ⊢
      obtain ⟨r,hr⟩:∃r,idxR (g.widx k c)=r:=⟨_,rfl⟩
      have cI:=idxFunc wM b2 b3 b7 b8 p g v A A1 n m m1 nl f i' i k c (hG6.out.below HbM hG6.out.lt) (hI6.out.below HbM) hii' Hii.out (by omega) Hfk.out hkn hI1 hnl q2 q3 q7 q8
      rw [hr] at cI;have cI:=Lib.hid cI;have HI1:=Lib.hid hI1;have Hnl:=Lib.hid hnl;clear hG6 hI6 hB6 hK6 HbM hbM hix hE hI1 hN1 hnl q2 q3 q7 q8;go_wp2_with fail
      (with_reducible refine cI.out.mono ?_)
      rintro e w7 ⟨rfl,hb7'⟩;have hs7:=hb7'.size;have q40:=bel_cell hb7' q40;have q41:=bel_cell hb7' q41
      have r40:=bframe hb7' (by simp only;omega) r40
      have r41:=bframe hb7' (by simp only;omega) r41
      have c60:=bel_cell hb7' c60;have c61:=bel_cell hb7' c61
      have r60:=bframe hb7' (by simp only;omega) r60
      have r61:=bframe hb7' (by simp only;omega) r61
      have hB7:=Lib.hid (bel_trans hBM.out hb7');have hK7:=Lib.hid (hKM.out.trans (Kept.of_below hb7'));have HI7:=Lib.hid (HI1.out.below hb7');clear hBM hKM HI1 hb7' cI
      cases hw:g.widx k c with
      | none=>
       rw [hw] at hr;have hr1:r = -1:=hr.symm;subst hr1
       have hwo:=Lib.hid (G.wout_bad (G.wres_none Hres3.out Hf1.out Hfk.out Hc.out hw) (n:=n) (by have:=Hii.out;omega))
       clear hr hw c60 c61 r60 r61;go_wp2;have e2:=set_two (x:=.int .i64 0) (y:=.int .i64 0) q40 q41
       refine bodyPost_ret (v:=.tuple #[.agg #[.int .i64 0,.int .i64 0],.iface 45 (.int .i64 7)]) (by simp [results,Tryz.results47,go_sem,e2]) rfl ?_
       exact ⟨by rw [hwo.out];rfl,(hB7.out.setCell (by simp only;omega) _).setCell (by simp only;omega) _⟩
      | some kk=>
       rw [hw] at hr;have hr1:r=(kk:Nat):=hr.symm;subst hr1;obtain ⟨d',hd1,hd2,_⟩:=G.widx_some hw
       have hkl:kk<nl:=by
        have h1:=(List.getElem?_eq_some_iff.1 hd1).1
        have h2:(g.moves k).length=nl:=by rw [←Hnl.out,movesI_eq,List.length_map]
        omega
       obtain ⟨d,hd8,hmay,hgd,hnth⟩:=moves_at (g:=g) (k:=k) (j:=kk) (by rw [Hnl.out];exact hkl)
       have hwst:g.wst k kk=stepC d:=by unfold G.wst;rw [List.getD_eq_getElem?_getD,hnth];rfl
       have hnew:=G.wres_some Hres3.out Hf1.out Hfk.out Hc.out hw;rw [hwst] at hnew;obtain ⟨es,ed,hst,_,_,hr3,hr4⟩:=step_parts d;have hr5:=step_inC d;rw [hst] at hr5 hnew;simp only at hr5;obtain ⟨hr5,hr6,hr7,hr8⟩:=hr5
       have cS:=Lib.hid (fun w=>floodStep w d hd8)
       rw [hst] at cS
       have cA:=Lib.hid (fun w=>costAdd cs cd es ed w (by unfold inC;omega) (by unfold inC;omega) (by unfold inC;omega) (by unfold inC;omega))
       obtain ⟨ad1,hA1⟩:=HI7.out.addr (by omega)
       have hIb:=HI7.out;rw [hA1] at hIb
       have hix:=fun wx=>idx_run (m:=m1) hA1 hkl wx
       have hE:=hIb.cell (Below.refl _ _) hkl;rw [hgd] at hE;have Hnew:=Lib.hid hnew
       have hq0:((kk:Int)<0)=False:=by simp
       clear hr hw hd1 hd2 hmay hgd hnth hwst hnew hst hA1 hIb HI7
       go_upto_region 15 with (fail)
       clear q40 q41 r40 r41
       go_region_with (first
        | (go_at_call 95
           refine (cS.out _).mono ?_;rintro e wS ⟨rfl,hbS⟩;have c60:=bel_cell hbS c60;have c61:=bel_cell hbS c61
           have r60:=bframe hbS (by simp only;simp;omega) r60
           have r61:=bframe hbS (by simp only;simp;omega) r61)
        | (go_at_call 94
           refine (cA.out _).mono ?_;rintro e wA ⟨rfl,hbA⟩;have c60:=bel_cell hbA c60;have c61:=bel_cell hbA c61
           have r60:=bframe hbA (by simp only;have:=hbS.size;simp at this;omega) r60
           have r61:=bframe hbA (by simp only;have:=hbS.size;simp at this;omega) r61))
       all_goals
        have hbw:Below w7.heap.size w7 wA:=bel_trans (bel_trans (bel_drew (Below.refl w7.heap.size w7)) hbS) hbA
        have hin:=Lib.hid (WkI.of_set hK7.out hbw (by rw [Hii.out];exact Hnew.out:g.wres f (i+1)=.inr ⟨cs+es,cd+ed⟩) c60 c61 r60 r61)
        clear c60 c61 r60 r61 hbS hbA hbw;go_wp2;go_roundw
        case rel=>first | exact ⟨i+1,by omega,by go_num,hin.out⟩ | ((repeat apply Exists.intro);exact ⟨⟨i+1,by omega,by go_num,hin.out⟩,rfl⟩)
        case measure=>simp [intOf];omega
   ·have hwo : g.wout f n = (C.zero, 1) := by
      have hf1:g.fault (f i)=1:=by rw [Hfi.out];exact G.fault_out (by omega)
      have:=G.wout_bad (G.wres_fault Hres.out (by rw [hf1];decide)) (n:=n) (by omega)
      rw [hf1] at this;exact this
    have hwo:=Lib.hid hwo;go_wp2_with fail
    (with_reducible refine (gridFree_out _ p g v fi hG5.out (by omega)).mono ?_)
    rintro e w6 ⟨rfl,hb6'⟩;have q40:=bel_cell hb6' q40;have q41:=bel_cell hb6' q41
    have r40:=bframe hb6' (by simp only;omega) r40
    have r41:=bframe hb6' (by simp only;omega) r41
    go_wp2;have e2:=set_two (x:=.int .i64 0) (y:=.int .i64 0) q40 q41
    refine bodyPost_ret (v:=.tuple #[.agg #[.int .i64 0,.int .i64 0],.iface 45 (.int .i64 1)]) (by simp [results,Tryz.results47,go_sem,e2]) rfl ?_
    exact ⟨by rw [hwo.out];rfl,((bel_trans hB5.out hb6').setCell (by simp only;omega) _).setCell (by simp only;omega) _⟩
  ·obtain rfl:i=n:=by omega
   rcases Nat.eq_zero_or_pos i with hi0 | hi0
   ·subst hi0
    go_wp2;have e2:=set_two (x:=.int .i64 0) (y:=.int .i64 0) q40 q41
    refine bodyPost_ret (v:=.tuple #[.agg #[.int .i64 0,.int .i64 0],.iface 45 (.int .i64 7)]) (by simp [results,Tryz.results47,go_sem,e2]) rfl ?_
    exact ⟨rfl,(hBr.out.setCell (by simp only;omega) _).setCell (by simp only;omega) _⟩
   ·have hne:((i:Int) == 0)=false:=by simp;omega
    have hwo:=Lib.hid (G.wout_ok hres hi0);clear hres;go_wp2;have e2:=set_two (x:=.int .i64 cs) (y:=.int .i64 cd) q40 q41
    refine bodyPost_ret (v:=.tuple #[.agg #[.int .i64 cs,.int .i64 cd],.nilIface]) (by simp [results,Tryz.results47,go_sem,e2]) rfl ?_
    exact ⟨by rw [hwo.out];rfl,(hBr.out.setCell (by simp only;omega) _).setCell (by simp only;omega) _⟩
def ccell (c:Nat→C) (k:Nat):Value:=if k % 2=0 then .int .i64 (c (k / 2)).s else .int .i64 (c (k / 2)).d
def icell (b:Nat→Bool) (k:Nat):Value:=.bool (b k)
theorem alloc_at (w:World) (o:Obj) {k:Nat} (hk:k=w.heap.size):(w.alloc o).heap[k]? = some o:=by rw [hk];exact heap_alloc_new w o
def FloodIs (g:G) (fr:Nat) (c:Nat→C) (is:Nat→Bool):Prop:=∀t,(is t=true→Dist g.E fr t (c t)∧t<g.n)∧(is t=false→∀d,¬Walk g.E fr t d)
theorem OwnI.keptAt {w w':World} {B:Nat} {v:Value} {zs:List Int} {S:List Nat} (h:OwnI w B v zs) (hk:Kept S w w') (hS:∀s∈S,s<B):OwnI w' B v zs:=by
 refine ⟨h.1,?_⟩
 rcases h.2 with hn | ⟨g,cap,cur,rfl,hb,hgg,rest⟩
 ·exact .inl hn
 ·refine .inr ⟨g,cap,cur,rfl,hb,?_,rest⟩
  rw [hk.block g (Array.getElem?_eq_some_iff.1 hgg).1 (fun hm=>by have:=hS g hm;omega)]
  exact hgg
structure LabM (W wr:World) (bc bi:Nat) (v:Value) (c:Nat→C) (is:Nat→Bool) (todo:List Nat):Prop where
 hc:wr.heap[bc]? = some (.cells (rowOf (ccell c) 512) 127 (0,0))
 hi:wr.heap[bi]? = some (.cells (rowOf (icell is) 256) 31 (0,0))
 own:OwnI wr W.heap.size v (todo.map fun n:Nat=>(n:Int))
 kept:Kept [bc,bi] W wr
theorem LabM.below {W wr w':World} {bc bi:Nat} {v:Value} {c:Nat→C} {is:Nat→Bool} {todo:List Nat} (h:LabM W wr bc bi v c is todo) (hb:Below wr.heap.size wr w'):LabM W w' bc bi v c is todo:=
 ⟨(hb.block bc (Array.getElem?_eq_some_iff.1 h.hc).1).trans h.hc,(hb.block bi (Array.getElem?_eq_some_iff.1 h.hi).1).trans h.hi,h.own.below (B':=0) hb,h.kept.trans (Kept.of_below hb)⟩
theorem LabM.cell {W wr : World} {bc bi : Nat} {v : Value} {c : Nat → C} {is : Nat → Bool} {todo : List Nat} (h : LabM W wr bc bi v c is todo) {t : Nat} (ht : t < 256) :
    wr.cell? ⟨bc,t*2,none⟩=some (.int .i64 (c t).s)∧wr.cell? ⟨bc,t*2+1,none⟩=some (.int .i64 (c t).d)∧wr.cell? ⟨bi,t,none⟩=some (.bool (is t)):=by
 refine ⟨?_,?_,?_⟩
 ·simp only [World.cell?,h.hc,rowOf_get _ _ _ (show t*2<512 by omega)]
  simp [ccell]
 ·simp only [World.cell?,h.hc,rowOf_get _ _ _ (show t*2+1<512 by omega)]
  have h1:(t*2+1) % 2=1:=by omega
  have h2:(t*2+1) / 2=t:=by omega
  simp [ccell,h1,h2]
 ·simp [World.cell?,h.hi,rowOf_get _ _ _ ht,icell]
theorem LabM.free {W wr:World} {bc bi:Nat} {v:Value} {c:Nat→C} {is:Nat→Bool} {todo:List Nat} (h:LabM W wr bc bi v c is todo) (k:Nat):wr.frozen? ⟨bc,k,none⟩=false∧wr.frozen? ⟨bi,k,none⟩=false:=by
 simp [World.frozen?,h.hc,h.hi]
theorem ccell_set (c:Nat→C) (t:Nat) (x:C):ccell (upd c t x)=upd (upd (ccell c) (t*2) (.int .i64 x.s)) (t*2+1) (.int .i64 x.d):=by
 funext k
 unfold ccell
 by_cases h1:k=t*2+1
 ·subst h1
  rw [upd_same,if_neg (by omega),show (t*2+1) / 2=t by omega,upd_same]
 ·rw [upd_ne _ _ h1]
  by_cases h2:k=t*2
  ·subst h2
   rw [upd_same,if_pos (by omega),show t*2 / 2=t by omega,upd_same]
  ·rw [upd_ne _ _ h2,upd_ne _ _ (by omega)]
theorem LabM.set {W wr : World} {bc bi : Nat} {v : Value} {c : Nat → C} {is : Nat → Bool} {todo : List Nat} (h : LabM W wr bc bi v c is todo) (hne : bc ≠ bi) {t : Nat} (x : C) (hB : bc < W.heap.size) (hB2 : bi < W.heap.size) :
    LabM W (((wr.setCell ⟨bc,t*2,none⟩ (.int .i64 x.s)).setCell ⟨bc,t*2+1,none⟩ (.int .i64 x.d)).setCell ⟨bi,t,none⟩ (.bool true)) bc bi v (upd c t x) (upd is t true) todo:=by
 have hK:Kept [bc,bi] wr (((wr.setCell ⟨bc,t*2,none⟩ (.int .i64 x.s)).setCell ⟨bc,t*2+1,none⟩ (.int .i64 x.d)).setCell ⟨bi,t,none⟩ (.bool true)):=(((Kept.refl _ _).setCell (.inl (by simp))).setCell (.inl (by simp))).setCell (.inl (by simp))
 refine ⟨?_,?_,?_,h.kept.trans hK⟩
 ·rw [Below.heap_setCell _ _ _ _ (by simpa using hne), set_heap1 _ _ _ _ _ _ (set_heap1 _ _ _ _ _ _ h.hc), ccell_set,
    row_set (ccell c) (upd (ccell c) (t*2) (.int .i64 x.s)) 512 (t*2) _ (upd_same _ _ _) (fun i hi=>upd_ne _ _ hi),
    row_set (upd (ccell c) (t*2) (.int .i64 x.s)) (upd (upd (ccell c) (t*2) (.int .i64 x.s)) (t*2+1) (.int .i64 x.d)) 512 (t*2+1) _ (upd_same _ _ _) (fun i hi=>upd_ne _ _ hi)]
 ·have h1 : ((wr.setCell ⟨bc, t * 2, none⟩ (.int .i64 x.s)).setCell ⟨bc, t * 2 + 1, none⟩ (.int .i64 x.d)).heap[bi]? = some (.cells (rowOf (icell is) 256) 31 (0, 0)) := by
    rw [Below.heap_setCell _ _ _ _ (by simpa using Ne.symm hne),Below.heap_setCell _ _ _ _ (by simpa using Ne.symm hne)];exact h.hi
  rw [set_heap1 _ _ _ _ _ _ h1,row_set (icell is) (icell (upd is t true)) 256 t _ (by unfold icell;rw [upd_same]) (fun i hi=>by unfold icell;rw [upd_ne _ _ hi])]
 ·exact h.own.keptAt hK (by simp;omega)
theorem Lab.weaken {E:Nat→Nat→C→Prop} {from_ n:Nat} {c:Nat→C} {is:Nat→Bool} {todo:List Nat} {i k:Nat} {pend pend':Nat→C→Prop} (H:Lab E from_ n c is todo i k pend) (hp:∀b e,pend b e→pend' b e):Lab E from_ n c is todo i k pend':=
 ⟨H.i0,H.i1,H.i2,fun a b e ha he=>(H.i3 a b e ha he).imp_right (fun h=>h.imp_left fun ⟨x,y⟩=>⟨x,hp _ _ y⟩),H.i4⟩
def FlI (W:World) (g:G) (fr bc bi M0 gk k i:Nat) (A1:Option Addr) (nl:Nat) (v:Value) (j:Nat) (wr:World):Prop:=∃c is todo,LabM W wr bc bi v c is todo∧Lab g.E fr g.n c is todo i k (PendM g k j)∧i≤todo.length∧todo.length+Lab.meas g.n c is≤M0∧2*Lab.meas g.n c is+(todo.length-i)<gk∧Ints wr A1 nl (fun x=>(movesI g k).getD x 0)∧(0<nl→∀ad,A1=some ad→v.ownBlock≠some ad.block∧ad.block∉[bc,bi])∧is k=true
theorem LabM.grown {W w7 w9 : World} {bc bi : Nat} {v v' : Value} {c : Nat → C} {is : Nat → Bool} {todo : List Nat} {o : Obj} {b : Nat} (h : LabM W w7 bc bi v c is todo) (ho : OwnI w9 W.heap.size v' (todo.map (fun n : Nat => (n : Int)) ++ [(b : Int)])) (hg : (w7.alloc o).grownBy w9 v.ownBlock)
    (hb1:bc<W.heap.size) (hb2:bi<W.heap.size):LabM W w9 bc bi v' c is (todo ++ [b]):=by
 have hs:=h.kept.size
 have hne:∀k,k<W.heap.size→some k≠v.ownBlock:=fun k hk e=>by have:=(World.ownsRow.lt h.own k e.symm).1;omega
 have hbl:∀k,k<W.heap.size→w9.heap[k]? = w7.heap[k]?:=fun k hk=>(hg.block k (by simp;omega) (hne k hk)).trans (Below.heap_alloc _ _ _ (by omega))
 refine ⟨(hbl bc hb1).trans h.hc,(hbl bi hb2).trans h.hi,by simpa using ho,?_⟩
 exact ⟨hg.os.trans h.kept.os,hg.tape.trans h.kept.tape,hg.output.trans h.kept.output,Nat.le_trans hs (Nat.le_trans (by simp) hg.size),fun k hk hn=>(hbl k hk).trans (h.kept.block k hk hn)⟩
theorem FlI.push {W w7 w9 : World} {g : G} {fr bc bi M0 gk k i nl j b : Nat} {A1 : Option Addr} {v v' : Value} {c c2 : Nat → C} {is is2 : Nat → Bool} {todo : List Nat} {o : Obj} (h : LabM W w7 bc bi v c2 is2 todo) (ho : OwnI w9 W.heap.size v' (todo.map (fun n : Nat => (n : Int)) ++ [(b : Int)])) (hg : (w7.alloc o).grownBy w9 v.ownBlock)
    (hat:v'.ownBlock=v.ownBlock∨v'.ownBlock=some (w7.alloc o).heap.size) (hb1:bc<W.heap.size) (hb2:bi<W.heap.size) (hlab:Lab g.E fr g.n c2 is2 (todo ++ [b]) i k (PendM g k (j+1))) (hm:Lab.meas g.n c2 is2<Lab.meas g.n c is)
    (hi:i≤todo.length) (hTM:todo.length+Lab.meas g.n c is≤M0) (hgk:2*Lab.meas g.n c is+(todo.length-i)<gk) (hI:Ints w7 A1 nl (fun x=>(movesI g k).getD x 0)) (hN:0<nl→∀ad,A1=some ad→v.ownBlock≠some ad.block∧ad.block∉[bc,bi]) (hk:is2 k=true) :
    FlI W g fr bc bi M0 gk k i A1 nl v' (j+1) w9:=by
 refine ⟨c2,is2,todo ++ [b],h.grown ho hg hb1 hb2,hlab,by simp;omega,by simp;omega,by simp;omega,?_,?_,hk⟩
 ·intro hn
  obtain ⟨ad,e,hlt,hc⟩:=hI hn
  refine ⟨ad,e,Nat.lt_of_lt_of_le hlt (Nat.le_trans (by simp) hg.size),fun x hx=>?_⟩
  have e1:w9.cell? (ad.add x)=(w7.alloc o).cell? (ad.add x):=hg.cell_far _ (by rw [add_block];simp;omega) (by rw [add_block];exact Ne.symm (hN hn ad e).1)
  rw [e1,World.cell?_alloc_old w7 _ _ (by rw [add_block];omega)]
  exact hc x hx
 ·intro hn ad e
  refine ⟨?_,(hN hn ad e).2⟩
  rcases hat with h' | h'
  ·rw [h'];exact (hN hn ad e).1
  ·rw [h']
   intro e2
   injection e2 with e2
   obtain ⟨ad',e',hlt,_⟩:=hI hn;rw [e'] at e
   injection e with e
   subst e;simp at e2;omega
def RWJ (W:World) (b6:Nat) (x:C) (wr:World):Prop:=wr.cell? ⟨b6,0,none⟩=some (.int .i64 x.s)∧wr.cell? ⟨b6,1,none⟩=some (.int .i64 x.d)∧wr.frozen? ⟨b6,0,none⟩=false∧wr.frozen? ⟨b6,1,none⟩=false∧Kept [b6] W wr
theorem RWJ.below {W w w':World} {b6:Nat} {x:C} (h:RWJ W b6 x w) (hb:Below w.heap.size w w'):RWJ W b6 x w':=by
 obtain ⟨h1,h2,h3,h4,h5⟩:=h;have l:=World.block_lt_of_cell? _ _ h1;exact ⟨bel_cell hb h1,bel_cell hb h2,bframe hb l h3,bframe hb l h4,h5.trans (Kept.of_below hb)⟩
theorem RWJ.of_set {W w7 wA : World} {b6 : Nat} {x y : Int} {u v : Value} (hK7 : Kept [b6] W w7) (hb : Below w7.heap.size w7 wA) (c60 : wA.cell? ⟨b6, 0, none⟩ = some u) (c61 : wA.cell? ⟨b6, 1, none⟩ = some v)
    (r60:wA.frozen? ⟨b6,0,none⟩=false) (r61:wA.frozen? ⟨b6,1,none⟩=false):RWJ W b6 ⟨x,y⟩ ((wA.setCell ⟨b6,0,none⟩ (.int .i64 x)).setCell ⟨b6,1,none⟩ (.int .i64 y)):=by
 have e:=set_two (x:=.int .i64 x) (y:=.int .i64 y) c60 c61
 refine ⟨e.1,e.2,by simpa using r60,by simpa using r61,?_⟩
 exact hK7.trans (((Kept.of_below hb).setCell (.inl (by simp))).setCell (.inl (by simp)))
end Go.Proofs.YtokhnobcincfjaaGreatDoor
