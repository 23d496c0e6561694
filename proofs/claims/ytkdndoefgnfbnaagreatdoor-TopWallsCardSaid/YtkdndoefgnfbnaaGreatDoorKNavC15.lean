/- Lemmas of this claim: RFlood, RWalk. -/
import Derived.Test.YtkdndoefgnfbnaaGreatDoorKNavC11
import Derived.Test.YtkdndoefgnfbnaaGreatDoorKNavC5
import Derived.Test.YtkdndoefgnfbnaaGreatDoorKNavC8
import Derived.Test.YtkdndoefgnfbnaaGreatDoorKNavC12
import Derived.Deep.DeepCutAuto
import Derived.Deep.LoopGhost
import Derived.Deep.RegionHeld3
import Derived.Deep.MidRow
import Derived.Deep.RegionWith
set_option linter.unusedVariables false
set_option linter.unusedSimpArgs false
set_option maxHeartbeats 3200000
set_option maxRecDepth 100000
namespace Go.Proofs.YtkdndoefgnfbnaaGreatDoor
open Go.RowKit Go.Sort FR
def ccell (c:Nat→C) (k:Nat):Value:=if k % 2=0 then .int .i64 (c (k / 2)).s else .int .i64 (c (k / 2)).d
def icell (b:Nat→Bool) (k:Nat):Value:=.bool (b k)
theorem zero_costs:Tryz.zeroCells89=rowOf (ccell fun _=>C.zero) 512:=by kernel_rfl
theorem zero_bools:Tryz.zeroCells53=rowOf (icell fun _=>false) 256:=by kernel_rfl
theorem alloc_old (w:World) (o:Obj) {k:Nat} {x:Option Obj} (hk:k<w.heap.size) (h:w.heap[k]? = x):(w.alloc o).heap[k]? = x:=(Below.heap_alloc _ _ _ hk).trans h
theorem alloc_at (w:World) (o:Obj) {k:Nat} (hk:k=w.heap.size):(w.alloc o).heap[k]? = some o:=by rw [hk];exact heap_alloc_new w o
theorem alloc4_0 (w:World) (a b c d:Obj):((((w.alloc a).alloc b).alloc c).alloc d).heap[w.heap.size]? = some a:=
 alloc_old _ _ (by simp;omega) (alloc_old _ _ (by simp;omega) (alloc_old _ _ (by simp) (alloc_at _ _ rfl)))
theorem alloc4_1 (w:World) (a b c d:Obj):((((w.alloc a).alloc b).alloc c).alloc d).heap[w.heap.size+1]? = some b:=
 alloc_old _ _ (by simp) (alloc_old _ _ (by simp) (alloc_at _ _ (by simp)))
theorem alloc4_2 (w:World) (a b c d:Obj):((((w.alloc a).alloc b).alloc c).alloc d).heap[w.heap.size+1+1]? = some c:=
 alloc_old _ _ (by simp) (alloc_at _ _ (by simp))
theorem alloc4_3 (w:World) (a b c d:Obj):((((w.alloc a).alloc b).alloc c).alloc d).heap[w.heap.size+1+1+1]? = some d:=alloc_at _ _ (by simp)
def FloodIs (g:G) (fr:Nat) (c:Nat→C) (is:Nat→Bool):Prop:=∀t,(is t=true→Dist g.E fr t (c t)∧t<g.n)∧(is t=false→∀d,¬Walk g.E fr t d)
def FloodD (w:World) (g:G) (fr:Nat) (e:Ending) (w':World):Prop:=∃c is,e=.returned (.tuple #[.agg (rowOf (ccell c) 512),.agg (rowOf (icell is) 256)])∧FloodIs g fr c is∧Below w.heap.size w w'
theorem OwnI.keptAt {w w':World} {B:Nat} {v:Value} {zs:List Int} {S:List Nat} (h:OwnI w B v zs) (hk:Kept S w w') (hS:∀s∈S,s<B):OwnI w' B v zs:=by
 refine ⟨h.1,?_⟩
 rcases h.2 with hn | ⟨g,cap,cur,rfl,hb,hgg,rest⟩
 ·exact .inl hn
 ·refine .inr ⟨g,cap,cur,rfl,hb,?_,rest⟩
  rw [hk.block g (Array.getElem?_eq_some_iff.1 hgg).1 (fun hm=>by have:=hS g hm;omega)]
  exact hgg
structure LabM (W wr:World) (bc bi:Nat) (v:Value) (c:Nat→C) (is:Nat→Bool) (todo:List Nat):Prop where
 hc:wr.heap[bc]? = some (.cells (rowOf (ccell c) 512) 89 (0,0))
 hi:wr.heap[bi]? = some (.cells (rowOf (icell is) 256) 53 (0,0))
 own:OwnI wr W.heap.size v (todo.map fun n:Nat=>(n:Int))
 kept:Kept [bc,bi] W wr
theorem LabM.below {W wr w':World} {bc bi:Nat} {v:Value} {c:Nat→C} {is:Nat→Bool} {todo:List Nat} (h:LabM W wr bc bi v c is todo) (hb:Below wr.heap.size wr w'):LabM W w' bc bi v c is todo:=
 ⟨(hb.block bc (Array.getElem?_eq_some_iff.1 h.hc).1).trans h.hc,(hb.block bi (Array.getElem?_eq_some_iff.1 h.hi).1).trans h.hi,h.own.below (B':=0) hb,h.kept.trans (Kept.of_below hb)⟩
theorem LabM.cell {W wr : World} {bc bi : Nat} {v : Value} {c : Nat → C} {is : Nat → Bool} {todo : List Nat} (h : LabM W wr bc bi v c is todo) {t : Nat} (ht : t < 256) :
    wr.cell? ⟨bc,t*2,none⟩=some (.int .i64 (c t).s)∧wr.cell? ⟨bc,t*2+1,none⟩=some (.int .i64 (c t).d)∧wr.cell? ⟨bi,t,none⟩=some (.bool (is t)):=by
 refine ⟨?_,?_,?_⟩
 ·simp only [World.cell?,h.hc,rowOf_get _ _ _ (show t*2<512 by omega)]
  simp [ccell]
 ·simp only [World.cell?,h.hc,rowOf_get _ _ _ (show t*2+1<512 by omega)]
  have h1:(t*2+1) % 2=1:=by omega
  have h2:(t*2+1) / 2=t:=by omega
  simp [ccell,h1,h2]
 ·simp [World.cell?,h.hi,rowOf_get _ _ _ ht,icell]
theorem LabM.free {W wr:World} {bc bi:Nat} {v:Value} {c:Nat→C} {is:Nat→Bool} {todo:List Nat} (h:LabM W wr bc bi v c is todo) (k:Nat):wr.frozen? ⟨bc,k,none⟩=false∧wr.frozen? ⟨bi,k,none⟩=false:=by
 simp [World.frozen?,h.hc,h.hi]
theorem ccell_set (c:Nat→C) (t:Nat) (x:C):ccell (upd c t x)=upd (upd (ccell c) (t*2) (.int .i64 x.s)) (t*2+1) (.int .i64 x.d):=by
 funext k
 unfold ccell
 by_cases h1:k=t*2+1
 ·subst h1
  rw [upd_same,if_neg (by omega),show (t*2+1) / 2=t by omega,upd_same]
 ·rw [upd_ne _ _ h1]
  by_cases h2:k=t*2
  ·subst h2
   rw [upd_same,if_pos (by omega),show t*2 / 2=t by omega,upd_same]
  ·rw [upd_ne _ _ h2,upd_ne _ _ (by omega)]
theorem LabM.set {W wr : World} {bc bi : Nat} {v : Value} {c : Nat → C} {is : Nat → Bool} {todo : List Nat} (h : LabM W wr bc bi v c is todo) (hne : bc ≠ bi) {t : Nat} (x : C) (hB : bc < W.heap.size) (hB2 : bi < W.heap.size) :
    LabM W (((wr.setCell ⟨bc,t*2,none⟩ (.int .i64 x.s)).setCell ⟨bc,t*2+1,none⟩ (.int .i64 x.d)).setCell ⟨bi,t,none⟩ (.bool true)) bc bi v (upd c t x) (upd is t true) todo:=by
 have hK:Kept [bc,bi] wr (((wr.setCell ⟨bc,t*2,none⟩ (.int .i64 x.s)).setCell ⟨bc,t*2+1,none⟩ (.int .i64 x.d)).setCell ⟨bi,t,none⟩ (.bool true)):=(((Kept.refl _ _).setCell (.inl (by simp))).setCell (.inl (by simp))).setCell (.inl (by simp))
 refine ⟨?_,?_,?_,h.kept.trans hK⟩
 ·rw [Below.heap_setCell _ _ _ _ (by simpa using hne), set_heap1 _ _ _ _ _ _ (set_heap1 _ _ _ _ _ _ h.hc), ccell_set,
    row_set (ccell c) (upd (ccell c) (t*2) (.int .i64 x.s)) 512 (t*2) _ (upd_same _ _ _) (fun i hi=>upd_ne _ _ hi),
    row_set (upd (ccell c) (t*2) (.int .i64 x.s)) (upd (upd (ccell c) (t*2) (.int .i64 x.s)) (t*2+1) (.int .i64 x.d)) 512 (t*2+1) _ (upd_same _ _ _) (fun i hi=>upd_ne _ _ hi)]
 ·have h1 : ((wr.setCell ⟨bc, t * 2, none⟩ (.int .i64 x.s)).setCell ⟨bc, t * 2 + 1, none⟩ (.int .i64 x.d)).heap[bi]? = some (.cells (rowOf (icell is) 256) 53 (0, 0)) := by
    rw [Below.heap_setCell _ _ _ _ (by simpa using Ne.symm hne),Below.heap_setCell _ _ _ _ (by simpa using Ne.symm hne)];exact h.hi
  rw [set_heap1 _ _ _ _ _ _ h1,row_set (icell is) (icell (upd is t true)) 256 t _ (by unfold icell;rw [upd_same]) (fun i hi=>by unfold icell;rw [upd_ne _ _ hi])]
 ·exact h.own.keptAt hK (by simp;omega)
theorem Lab.weaken {E:Nat→Nat→C→Prop} {from_ n:Nat} {c:Nat→C} {is:Nat→Bool} {todo:List Nat} {i k:Nat} {pend pend':Nat→C→Prop} (H:Lab E from_ n c is todo i k pend) (hp:∀b e,pend b e→pend' b e):Lab E from_ n c is todo i k pend':=
 ⟨H.i0,H.i1,H.i2,fun a b e ha he=>(H.i3 a b e ha he).imp_right (fun h=>h.imp_left fun ⟨x,y⟩=>⟨x,hp _ _ y⟩),H.i4⟩
def FlR (W:World) (g:G) (fr bc bi M0 gk:Nat) (v:Value) (i:Nat) (wr:World):Prop:=∃c is todo k0,i≤todo.length∧LabM W wr bc bi v c is todo∧Lab g.E fr g.n c is todo i k0 (fun _ _=>False)∧todo.length+Lab.meas g.n c is≤M0∧2*Lab.meas g.n c is+(todo.length-i)≤gk
theorem lab_bd {g:G} {fr:Nat} {c:Nat→C} {is:Nat→Bool} {todo:List Nat} {i k0:Nat} {pend:Nat→C→Prop} (H:Lab g.E fr g.n c is todo i k0 pend) (hn:g.n≤256) {k:Nat} (hk:is k=true):0≤(c k).s∧(c k).s≤512∧0≤(c k).d∧(c k).d≤512:=by
 have h1:=H.i4 k hk;have h2:=G.wnn (H.i1 k hk).1;have h3:=cntN_le is g.n
 have h4:=C.parts_le' h2 (b:=⟨0,cntN is g.n⟩) ⟨by simp,by simp⟩ h1
 obtain ⟨h5,h6⟩:=h4;obtain ⟨h7,h8⟩:=h2;simp only at h5 h6;omega
theorem lab_inC {g:G} {fr:Nat} {c:Nat→C} {is:Nat→Bool} {todo:List Nat} {i k0:Nat} {pend:Nat→C→Prop} (H:Lab g.E fr g.n c is todo i k0 pend) (hn:g.n≤256) {k:Nat} (hk:is k=true):inCC (c k):=by
 have h1:=H.i4 k hk;have h2:=G.wnn (H.i1 k hk).1;have h3:=cntN_le is g.n
 have h4:=C.parts_le' h2 (b:=⟨0,cntN is g.n⟩) ⟨by simp,by simp⟩ h1
 obtain ⟨h5,h6⟩:=h4;obtain ⟨h7,h8⟩:=h2;simp only at h5 h6
 refine ⟨?_,?_⟩ <;> unfold inC <;> omega
theorem alloc_swap {w:World} {o o':Obj} {a:Addr} {v:Value} (hne:a.block≠w.heap.size) (h:(w.alloc o).cell? a=some v):(w.alloc o').cell? a=some v:=by
 rw [World.cell?_alloc_old w _ _ hne] at h;rw [World.cell?_alloc_old w _ _ hne];exact h
theorem bcell {W w1:World} (hb:Below W.heap.size W w1):(∀b o,b<W.heap.size→w1.cell? ⟨b,o,none⟩=W.cell? ⟨b,o,none⟩)∧(∀b o,b<W.heap.size→w1.frozen? ⟨b,o,none⟩=W.frozen? ⟨b,o,none⟩):=
 ⟨fun b o h=>hb.cell (p:=⟨b,o,none⟩) h,fun b o h=>hb.frozen (p:=⟨b,o,none⟩) h⟩
theorem Lab.weaken' {g:G} {fr n:Nat} {c:Nat→C} {is:Nat→Bool} {todo:List Nat} {i k:Nat} {kk:Nat} (H:Lab g.E fr n c is todo i kk (g.E kk)) (e:kk=k):Lab g.E fr n c is todo i k (PendM g k 0):=by
 subst e;refine Lab.weaken H ?_;rintro b e ⟨_,d,hd,hm,rfl,rfl⟩
 exact ⟨d,by simpa [G.moves] using ⟨hd,hm⟩,rfl,rfl⟩
theorem row_one {f:Nat→Value} (h:∀k,(f k).oneCell'=true) (n:Nat):∀v∈(rowOf f n).toList,v.oneCell'=true:=by
 intro v hv;simp [rowOf] at hv;obtain ⟨k,_,rfl⟩:=hv;exact h k
theorem range_row {w:World} {b n:Nat} {f:Nat→Value} {T:TypeId} (h:w.heap[b]? = some (.cells (rowOf f n) T (0,0))):w.rangeAt b 0 (rowOf f n).toList:=by
 intro j v hv;simp only [World.cell?,h,Nat.zero_add]
 simpa using hv
theorem there_row {w:World} {b n:Nat} {f:Nat→Value} {T:TypeId} (h:w.heap[b]? = some (.cells (rowOf f n) T (0,0))):w.there b 0 n:=by
 intro j hj;simp only [World.cell?,World.frozen?,h,Nat.zero_add,rowOf_get _ _ _ hj];simp
theorem below_setCells' {B b:Nat} {a:World} (hb:B≤b):∀(vs:List Value) (o:Nat) (w:World),Below B a w→Below B a (w.setCells b o vs)
 | [],_,_,h=>h
 | v :: r,o,w,h=>below_setCells' hb r (o+1) _ (h.setCell hb v)
def FlI (W:World) (g:G) (fr bc bi M0 gk k i:Nat) (A1:Option Addr) (nl:Nat) (v:Value) (j:Nat) (wr:World):Prop:=∃c is todo,LabM W wr bc bi v c is todo∧Lab g.E fr g.n c is todo i k (PendM g k j)∧i≤todo.length∧todo.length+Lab.meas g.n c is≤M0∧2*Lab.meas g.n c is+(todo.length-i)<gk∧Ints wr A1 nl (fun x=>(movesI g k).getD x 0)∧(0<nl→∀ad,A1=some ad→v.ownBlock≠some ad.block∧ad.block∉[bc,bi])∧is k=true
theorem LabM.grown {W w7 w9 : World} {bc bi : Nat} {v v' : Value} {c : Nat → C} {is : Nat → Bool} {todo : List Nat} {o : Obj} {b : Nat} (h : LabM W w7 bc bi v c is todo) (ho : OwnI w9 W.heap.size v' (todo.map (fun n : Nat => (n : Int)) ++ [(b : Int)])) (hg : (w7.alloc o).grownBy w9 v.ownBlock)
    (hb1:bc<W.heap.size) (hb2:bi<W.heap.size):LabM W w9 bc bi v' c is (todo ++ [b]):=by
 have hs:=h.kept.size
 have hne:∀k,k<W.heap.size→some k≠v.ownBlock:=fun k hk e=>by have:=(World.ownsRow.lt h.own k e.symm).1;omega
 have hbl:∀k,k<W.heap.size→w9.heap[k]? = w7.heap[k]?:=fun k hk=>(hg.block k (by simp;omega) (hne k hk)).trans (Below.heap_alloc _ _ _ (by omega))
 refine ⟨(hbl bc hb1).trans h.hc,(hbl bi hb2).trans h.hi,by simpa using ho,?_⟩
 exact ⟨hg.os.trans h.kept.os,hg.tape.trans h.kept.tape,hg.output.trans h.kept.output,Nat.le_trans hs (Nat.le_trans (by simp) hg.size),fun k hk hn=>(hbl k hk).trans (h.kept.block k hk hn)⟩
theorem FlI.push {W w7 w9 : World} {g : G} {fr bc bi M0 gk k i nl j b : Nat} {A1 : Option Addr} {v v' : Value} {c c2 : Nat → C} {is is2 : Nat → Bool} {todo : List Nat} {o : Obj} (h : LabM W w7 bc bi v c2 is2 todo) (ho : OwnI w9 W.heap.size v' (todo.map (fun n : Nat => (n : Int)) ++ [(b : Int)])) (hg : (w7.alloc o).grownBy w9 v.ownBlock)
    (hat:v'.ownBlock=v.ownBlock∨v'.ownBlock=some (w7.alloc o).heap.size) (hb1:bc<W.heap.size) (hb2:bi<W.heap.size) (hlab:Lab g.E fr g.n c2 is2 (todo ++ [b]) i k (PendM g k (j+1))) (hm:Lab.meas g.n c2 is2<Lab.meas g.n c is)
    (hi:i≤todo.length) (hTM:todo.length+Lab.meas g.n c is≤M0) (hgk:2*Lab.meas g.n c is+(todo.length-i)<gk) (hI:Ints w7 A1 nl (fun x=>(movesI g k).getD x 0)) (hN:0<nl→∀ad,A1=some ad→v.ownBlock≠some ad.block∧ad.block∉[bc,bi]) (hk:is2 k=true) :
    FlI W g fr bc bi M0 gk k i A1 nl v' (j+1) w9:=by
 refine ⟨c2,is2,todo ++ [b],h.grown ho hg hb1 hb2,hlab,by simp;omega,by simp;omega,by simp;omega,?_,?_,hk⟩
 ·intro hn
  obtain ⟨ad,e,hlt,hc⟩:=hI hn
  refine ⟨ad,e,Nat.lt_of_lt_of_le hlt (Nat.le_trans (by simp) hg.size),fun x hx=>?_⟩
  have e1:w9.cell? (ad.add x)=(w7.alloc o).cell? (ad.add x):=hg.cell_far _ (by rw [add_block];simp;omega) (by rw [add_block];exact Ne.symm (hN hn ad e).1)
  rw [e1,World.cell?_alloc_old w7 _ _ (by rw [add_block];omega)]
  exact hc x hx
 ·intro hn ad e
  refine ⟨?_,(hN hn ad e).2⟩
  rcases hat with h' | h'
  ·rw [h'];exact (hN hn ad e).1
  ·rw [h']
   intro e2
   injection e2 with e2
   obtain ⟨ad',e',hlt,_⟩:=hI hn;rw [e'] at e
   injection e with e
   subst e;simp at e2;omega
theorem rFlood (w : World) (p : Nat) (g : G) (v : Int) (fr : Nat) (h : RGridAt w p g v) (hf : fr < g.n) :
    Calls Tryz.prog 42 #[.pointer (some ⟨p,0,none⟩),.int .i64 (fr:Nat)] w (FloodD w g fr):=by
 have hn:=G.n_le h.1;go_enter Tryz.func42,Tryz.ntmps42
 go_upto_region 3 with (fail)
 refine wp_name ?_;intro W hW
 have HW:Below w.heap.size w W:=by rw [hW];(repeat' (first | exact Below.refl _ _ | assumption | apply bel_drewN | apply bel_drew | apply bel_alloc | (refine bel_trans ?_ (by assumption))))
 have hWs:W.heap.size=w.heap.size+4:=by rw [hW];simp
 have b0:W.heap[w.heap.size]? = some (.cells (rowOf (ccell fun _=>C.zero) 512) 89 (0,0)):=by rw [hW,zero_costs];exact alloc4_0 _ _ _ _ _
 have b1:W.heap[w.heap.size+1]? = some (.cells (rowOf (icell fun _=>false) 256) 53 (0,0)):=by rw [hW,zero_bools];exact alloc4_1 _ _ _ _ _
 have b2:W.heap[w.heap.size+1+1]? = some (.cells (rowOf (ccell fun _=>C.zero) 512) 89 (0,0)):=by rw [hW,zero_costs];exact alloc4_2 _ _ _ _ _
 have b3:W.heap[w.heap.size+1+1+1]? = some (.cells (rowOf (icell fun _=>false) 256) 53 (0,0)):=by rw [hW,zero_bools];exact alloc4_3 _ _ _ _ _
 have hp:=h.lt;have hRW:=Lib.hid (h.below HW h.lt);clear hW h;obtain ⟨bc,hbc⟩:∃bc,w.heap.size+1+1=bc:=⟨_,rfl⟩
 rw [hbc] at b2 b3 ⊢
 obtain ⟨bi,hbi⟩:∃bi,bc+1=bi:=⟨_,rfl⟩
 rw [hbi] at b3 ⊢
 have k3:W.cell? ⟨bi,fr,none⟩=some (.bool false):=by simp [World.cell?,b3,rowOf_get _ _ _ (show fr<256 by omega),icell]
 have f3:W.frozen? ⟨bi,fr,none⟩=false:=by simp [World.frozen?,b3]
 have hK:Kept [bc,bi] W (W.setCell ⟨bi,fr,none⟩ (.bool true)):=(Kept.refl _ _).setCell (.inl (by simp))
 have hC:(W.setCell ⟨bi,fr,none⟩ (.bool true)).heap[bc]? = some (.cells (rowOf (ccell fun _=>C.zero) 512) 89 (0,0)):=(Below.heap_setCell W ⟨bi,fr,none⟩ (.bool true) bc (by simp;omega)).trans b2
 have hI:(W.setCell ⟨bi,fr,none⟩ (.bool true)).heap[bi]? = some (.cells (rowOf (icell (upd (fun _=>false) fr true)) 256) 53 (0,0)):=by
  rw [set_heap1 _ _ _ _ _ _ b3,row_set (icell fun _=>false) (icell (upd (fun _=>false) fr true)) 256 fr _ (by unfold icell;rw [upd_same]) (fun i hi=>by unfold icell;rw [upd_ne _ _ hi])]
 have hw1s:(W.setCell ⟨bi,fr,none⟩ (.bool true)).heap.size=w.heap.size+4:=by simp [World.setCell,hWs]
 have hK:=Lib.hid hK;have hC:=Lib.hid hC;have hI:=Lib.hid hI;have B0:=Lib.hid b0;have B1:=Lib.hid b1
 have q0:(fr:Int)<256:=by omega
 clear b0 b1 b2 b3
 go_upto_region 5 with (fail)
 clear k3 f3
 generalize (W.setCell ⟨bi,fr,none⟩ (.bool true))=w1 at *
 have hw1s:w1.heap.size=w.heap.size+4:=hw1s;refine wp_name ?_;intro w2 hw2
 have hb12:Below w1.heap.size w1 w2:=by rw [hw2];(repeat' (first | exact Below.refl _ _ | assumption | apply bel_drewN | apply bel_drew | apply bel_alloc | (refine bel_trans ?_ (by assumption))))
 have hO:OwnI w2 W.heap.size (.slice (some ⟨w.heap.size+4,0,none⟩) 1 1) (([fr]:List Nat).map fun n:Nat=>(n:Int)):=by
  rw [hw2]
  refine ⟨rfl,.inr ⟨w.heap.size+4,1,#[.int .i64 (fr:Nat)],rfl,by omega,alloc_at _ _ hw1s.symm,by simp,by decide,rfl,rfl⟩⟩
 have hL:LabM W w2 bc bi (.slice (some ⟨w.heap.size+4,0,none⟩) 1 1) (fun _=>C.zero) (upd (fun _=>false) fr true) [fr]:=
  ⟨(hb12.block bc (by omega)).trans hC.out,(hb12.block bi (by omega)).trans hI.out,hO,hK.out.trans (Kept.of_below hb12)⟩
 have hlab:Lab g.E fr g.n (fun _=>C.zero) (upd (fun _=>false) fr true) [fr] 0 0 (fun _ _=>False):=Lab.start hf
 obtain ⟨M0,hM0⟩:∃M0,M0=1+Lab.meas g.n (fun _=>C.zero) (upd (fun _=>false) fr true):=⟨_,rfl⟩
 have hM0b:M0≤67371521:=by
  have:=Lab.meas_le g.n (fun _=>C.zero) (upd (fun _=>false) fr true)
  have h2:g.n*((Lab.BX+1)*(Lab.BX+1)+1)≤256*((Lab.BX+1)*(Lab.BX+1)+1):=Nat.mul_le_mul_right _ hn
  have h3:256*((Lab.BX+1)*(Lab.BX+1)+1)=67371520:=by decide
  omega
 obtain ⟨N0,hN0⟩:∃N0,N0=2*Lab.meas g.n (fun _=>C.zero) (upd (fun _=>false) fr true)+1:=⟨_,rfl⟩
 have hstart:FlR W g fr bc bi M0 N0 (.slice (some ⟨w.heap.size+4,0,none⟩) 1 1) 0 w2:=⟨_,_,[fr],0,by simp,hL,hlab,by rw [hM0];simp,by rw [hN0];simp⟩
 clear hw2 hb12 hO hL hlab hM0 hN0 hC hI hK;go_wp2_with fail
 go_loopg [8,9] N0 (fun gk v iv wr=>∃i,iv=.int .i64 (i:Nat)∧FlR W g fr bc bi M0 gk v i wr)
 case atStart=>exact ⟨0,rfl,hstart⟩
 case round=>
  obtain ⟨i,rfl,c,is,todo,k0,hi,hL,hlab,hTM,hgk⟩:=hrel;clear hstart;obtain ⟨A,m,rfl,hInts⟩:=hL.own.ints;obtain ⟨nt,hnt⟩:∃nt,todo.length=nt:=⟨_,rfl⟩
  have hnt':(todo.map fun n:Nat=>(n:Int)).length=nt:=by rw [List.length_map,hnt]
  rw [hnt'] at hInts hL ⊢
  rw [hnt] at hi hTM hgk;have Hnt:=Lib.hid hnt;have Hnt':=Lib.hid hnt';have hL:=Lib.hid hL;have hlab:=Lib.hid hlab;clear hnt hnt'
  have hi40:nt≤67371521:=by omega
  by_cases hlt:i<nt
  ·obtain ⟨ad,hA⟩:=hInts.addr (by omega)
   have hIa:=hInts;rw [hA] at hIa
   have hix:=fun wx=>idx_run (m:=m) hA hlt wx
   have hE:=hIa.cell (Below.refl _ _) hlt
   obtain ⟨k,hk⟩:∃k,todo[i]'(by rw [Hnt.out];exact hlt)=k:=⟨_,rfl⟩
   have hgd:(todo.map fun n:Nat=>(n:Int)).getD i 0=(k:Nat):=by simp [List.getD,show i<todo.length by rw [Hnt.out];exact hlt,hk]
   rw [hgd] at hE
   have hisk:is k=true:=hlab.out.i2 k (by rw [←hk];exact List.getElem_mem _)
   have hkn:k<g.n:=(hlab.out.i1 k (hlab.out.i2 k (by rw [←hk];exact List.getElem_mem _))).2
   have hn2:=Lib.hid (hlab.out.next (by rw [Hnt.out];exact hlt))
   have Hk:=Lib.hid hk
   have hpS:p∉[bc,bi]:=by simp;omega
   have hR:=hRW.out.kept hL.out.kept hpS;clear hA hIa hInts hgd hk;go_wp2_with fail
   (with_reducible refine (rMovesN _ p g v k hR hkn).mono ?_)
   rintro e w3 ⟨A1,m1,rfl,hI1,hN1,hb3⟩;have hL3:=hL.out.below hb3
   have hN1':0<(movesI g k).length→∀ad,A1=some ad→(Value.slice A nt m).ownBlock≠some ad.block∧ad.block∉[bc,bi]:=fun _ ad e=>by
    have h1:=hN1 ad e;have h2:=hL.out.kept.size
    refine ⟨fun e2=>?_,by simp;omega⟩
    have:=(World.ownsRow.lt hL.out.own _ e2).2;omega
   clear hN1;obtain ⟨nl,hnl⟩:∃nl,(movesI g k).length=nl:=⟨_,rfl⟩
   rw [hnl] at hI1 hN1' ⊢
   have hnl8:nl≤8:=by rw [←hnl];exact upTo_len _ _
   have Hnl:=Lib.hid hnl
   have hin:FlI W g fr bc bi M0 gk k (i+1) A1 nl (.slice A nt m) 0 w3:=⟨c,is,todo,hL3,Lab.weaken' hn2.out Hk.out,by rw [Hnt.out];omega,by rw [Hnt.out];omega,by rw [Hnt.out];omega,hI1,hN1',hisk⟩
   clear hL hlab hN1' hnl hb3 hn2 hE hix hL3 hisk hI1;go_wp2_with fail;obtain ⟨wo,rfl⟩:∃wo:World,wo=wr:=⟨_,rfl⟩
   go_loopw [8,12] (fun v kv wr=>∃j:Nat,j≤nl∧kv=.int .i64 j∧FlI W g fr bc bi M0 gk k (i+1) A1 nl v j wr) (fun _ kv _=>nl-(intOf kv).toNat)
   case atStart=>exact ⟨0,by omega,rfl,hin⟩
   case round=>
    obtain ⟨j,hj,rfl,c,is,todo,hL,hlab,hi1,hTM,hgk2,hI2,hN2,hisk⟩:=hrel;have HN2:=Lib.hid hN2;clear hN2;have hisk:=Lib.hid hisk;clear hin;have hL:=Lib.hid hL;have hlab:=Lib.hid hlab
    by_cases hlj:j<nl
    ·have hI20:=Lib.hid hI2
     obtain ⟨ad1,hA1⟩:=hI2.addr (by omega)
     have hIb:=hI2;rw [hA1] at hIb
     have hix1:=fun wx=>idx_run (m:=m1) hA1 hlj wx
     have hE1:=hIb.cell (Below.refl _ _) hlj
     have hb1:=hIb.blk' (by omega)
     obtain ⟨d,hd8,hmay,hgd,hnth⟩:=moves_at (g:=g) (k:=k) (j:=j) (by rw [Hnl.out];exact hlj)
     rw [hgd] at hE1;obtain ⟨ht1,ht2⟩:=to_eq hmay;obtain ⟨tt,hto⟩:∃tt,g.to k d=tt:=⟨_,rfl⟩;rw [hto] at ht1 ht2
     have cT:=Lib.hid (fun w' h'=>rTo_eq w' p g v k d (tt:Nat) h' hkn hd8 ht1)
     have Hd:=Lib.hid (And.intro hmay (And.intro hto hnth));have hR2:=hRW.out.kept hL.out.kept hpS;have HI:=Lib.hid hIb;clear hA1 hI2 hIb hgd ht1 hmay hto hnth;go_wp2_with fail
     (with_reducible refine (cT.out _ hR2).mono ?_)
     rintro e w4 ⟨rfl,hb4⟩;have hL4:=Lib.hid (hL.out.below hb4);have hI4:=Lib.hid (hI20.out.below hb4)
     have hE2:=(hb4.cell (by rw [add_block];exact hb1)).trans hE1
     obtain ⟨k1,k2,_⟩:=hL4.out.cell (t:=k) (by omega)
     go_upto_region 14 with (fail)
     have ick:=lab_inC hlab.out hn hisk.out;obtain ⟨⟨cs,cd⟩,hck⟩:∃x,c k=x:=⟨_,rfl⟩;have hbd:=lab_bd hlab.out hn hisk.out;rw [hck] at ick k1 k2 hbd;obtain ⟨bd1,bd2,bd3,bd4⟩:=hbd;simp only at k1 k2 bd1 bd2 bd3 bd4;have Hck:=Lib.hid hck;obtain ⟨es,ed,hst,hr1,hr2,hr3,hr4⟩:=step_parts d
     have cP:=Lib.hid (fun w=>refPlus cs cd es ed w ick.1 ick.2 (by unfold inC;omega) (by unfold inC;omega))
     have Hst:=Lib.hid hst
     have hkq:(k:Int)<256:=by omega
     have hwr:IntKind.i64.wrap (1-ed)=es:=by rw [←hr2];exact IntWalk.i64_in _ (by omega)
     have jq0:(0:Int)≤(j:Int):=by omega
     have jq1:(j:Int)<(nl:Int):=by omega
     have kq0:(0:Int)≤(k:Int):=by omega
     have ixs:inC (cs+es):=by unfold inC;omega
     have ixd:inC (cd+ed):=by unfold inC;omega
     clear hr2 hr3 hr4 bd1 bd2 bd3 bd4
     have d0:(0:Int)≤(d:Int):=by omega
     clear hck hst;have lbc:bc<w4.heap.size:=World.block_lt_of_cell? _ _ k1;have lad:ad1.block<w4.heap.size:=Nat.lt_of_lt_of_le hb1 hb4.size;have n1:=World.new_ne w4 _ k1;have n2:=World.new_ne w4 _ hE2
     have k1a:=fun o=>alloc_some (o:=o) k1
     have k2a:=fun o=>alloc_some (o:=o) k2
     have hE2a:=fun o=>alloc_some (o:=o) hE2
     go_cut [14] (fun s wx=>∃D,s=.pointer (some ⟨D,0,none⟩)∧w4.heap.size≤D∧wx.cell? ⟨D,0,none⟩=some (.int .i64 (cs+es))∧wx.cell? ⟨D,1,none⟩=some (.int .i64 (cd+ed))∧Below w4.heap.size w4 wx)
     case first=>
      go_region_held3 (fun w'=>w'.cell? ⟨bc,k*2,none⟩=some (.int .i64 cs)∧w'.cell? ⟨bc,k*2+1,none⟩=some (.int .i64 cd)∧w'.cell? (ad1.add j)=some (.int .i64 (d:Nat)))
       (first
        | (go_keep;done)
        | (go_split_ands
           exact ⟨bel_cell hbP (by assumption),bel_cell hbP (by assumption),bel_cell hbP (by assumption)⟩)
        | (go_split_ands
           exact ⟨alloc_swap (by have:=hbP.size;simp;simp at this;omega) (by assumption),alloc_swap (by have:=hbP.size;simp;simp at this;omega) (by assumption),alloc_swap (by have:=hbP.size;rw [add_block];simp at this;omega) (by assumption)⟩)
        | (go_split_ands
           refine ⟨?_,?_,?_⟩ <;> (go_keep;done)))
       (first
        | (go_at_call 66
           refine (cP.out _).mono ?_;rintro e wP ⟨rfl,hbP⟩;obtain ⟨hcP,hfP⟩:=bcell hbP))
      ·have HbP:=Lib.hid hbP
       clear hcP hfP hbP k1a k2a hE2a;go_wp2;go_meet
       case rel=>exact ⟨_,rfl,HbP.out.size,by go_simp,by go_simp,bel_alloc (bel_trans (bel_drew (Below.refl _ _)) HbP.out)⟩
      ·have HbP:=Lib.hid hbP
       have q1:wP.cell? ⟨w4.heap.size,0,none⟩=some (.int .i64 0):=bel_cell hbP (by go_simp)
       have q2:wP.cell? ⟨w4.heap.size,1,none⟩=some (.int .i64 0):=bel_cell hbP (by go_simp)
       have Q:=Lib.hid (two_set (x:=.int .i64 (cs+es)) (y:=.int .i64 (cd+ed)) q1 q2);clear hcP hfP hbP q1 q2 k1a k2a hE2a;go_wp2;go_meet
       case rel=>exact ⟨_,rfl,Nat.le_refl _,Q.out.1,Q.out.2,((bel_trans (bel_drew (bel_alloc (Below.refl _ _))) HbP.out).setCell (by simp) _).setCell (by simp) _⟩
     case rest=>
      obtain ⟨D,rfl,hD4,hD1,hD2,hbc⟩:=hcut;have hL5:=Lib.hid (hL4.out.below hbc);have hI5:=Lib.hid (hI4.out.below hbc);have hDl:=World.block_lt_of_cell? _ _ hD1;clear k1 k2 k1a k2a hE2a hE2 n1 n2 hL4 hbc cP
      obtain ⟨k3,k4,k5⟩:=hL5.out.cell (t:=tt) (by omega)
      have htq:(tt:Int)<256:=by omega
      go_upto_region 15 with (fail)
      obtain ⟨⟨xs,xd⟩,hct⟩:∃x,c tt=x:=⟨_,rfl⟩;rw [hct] at k3 k4;simp only at k3 k4;have Hct:=Lib.hid hct;obtain ⟨ist,hist⟩:∃b,is tt=b:=⟨_,rfl⟩;rw [hist] at k5;have Hist:=Lib.hid hist
      obtain ⟨t,ht⟩:∃t,(!ist || decide (C.cmp ⟨cs+es,cd+ed⟩ ⟨xs,xd⟩<0))=t:=⟨_,rfl⟩
      have Ht:=Lib.hid ht;clear hct hist ht
      go_cut [72] (fun s wx=>s=.bool t∧Below wc.heap.size wc wx)
      case first=>
       cases ist with
       | false=>
        have ht:t=true:=by rw [←Ht.out];rfl
        subst ht;go_quiet (fail);go_wp2;go_meet
        case rel=>exact ⟨rfl,by (repeat' (first | exact Below.refl _ _ | assumption | apply bel_drewN | apply bel_drew | apply bel_alloc | (refine bel_trans ?_ (by assumption))))⟩
       | true=>
        have hix:=lab_inC hlab.out hn Hist.out;rw [Hct.out] at hix;have cC:=refCompare (cs+es) (cd+ed) xs xd;obtain ⟨cv,hcv⟩:∃cv,C.cmp ⟨cs+es,cd+ed⟩ ⟨xs,xd⟩=cv:=⟨_,rfl⟩
        have ht:t=decide (cv<0):=by rw [←Ht.out,hcv];rfl
        rw [hcv] at cC
        have cC:=Lib.hid (fun w=>cC w ixs ixd hix.1 hix.2)
        have Ht2:=Lib.hid ht;have HB:=Below.refl wc.heap.size wc;have k3q:=cell_regrown k3;have k4q:=cell_regrown k4;have k5q:=cell_regrown k5;have d1q:=cell_regrown hD1;have d2q:=cell_regrown hD2;clear hcv hix ht
        refine wp_region_quiet_below (by kernel_rfl) (by kernel_rfl) ?_
        repeat (first | go_big_quiet_step (with_reducible exact Calls.regrown_of (cC.out _)) | quiet_step (with_reducible exact Calls.regrown_of (cC.out _)))
        refine wpQuiet_nil ?_;intro _ hw';obtain ⟨⟨dq,osq⟩,hw''⟩:=hw';have HB2:=bel_trans HB (below_regrown wc dq osq);have hb2:=below_regrown wc dq osq;subst hw''
        generalize grow (redrawn wc dq) osq=w8 at HB2 hb2 ⊢
        go_wp2;go_meet
        case rel=>exact ⟨by rw [Ht2.out],HB2⟩
      case rest=>
       obtain ⟨rfl,hbc⟩:=hcut;have hL6:=Lib.hid (hL5.out.below hbc);have hI6:=Lib.hid (hI5.out.below hbc)
       have d1:=(hbc.cell (by exact hDl)).trans hD1
       have d2:=(hbc.cell (by exact hDl)).trans hD2
       clear hL5 hbc hD1 hD2 k3 k4 k5
       cases t with
       | false=>
        have hle:is tt=true∧C.le (c tt) (C.add (c k) (stepC d)):=by
         have h:=Ht.out
         cases ist with
         | false=>simp at h
         | true=>
          refine ⟨Hist.out,?_⟩;rw [Hct.out,Hck.out,Hst.out];intro hlt;have:=C.cmp_neg.2 hlt;simp at h;unfold C.add at this;simp only at this;omega
        have hF:FlI W g fr bc bi M0 gk k (i+1) A1 nl _ (j+1) _:=⟨c,is,todo,hL6.out,hlab.out.keep hle.1 hle.2 (pend_next Hd.out.2.2 Hd.out.2.1),hi1,hTM,hgk2,hI6.out,HN2.out,hisk.out⟩;have hF:=Lib.hid hF;clear hle d1 d2;go_wp2;go_roundw
        case rel=>first | exact ⟨j+1,by omega,by go_num,hF.out⟩ | ((repeat apply Exists.intro);exact ⟨⟨j+1,by omega,by go_num,hF.out⟩,rfl⟩)
        case measure=>simp [intOf];omega
       | true=>
        have hlt:is tt=true→C.lt (C.add (c k) (stepC d)) (c tt):=by
         intro h1;have h:=Ht.out;rw [Hist.out] at h1;rw [h1] at h;simp at h;rw [Hct.out,Hck.out,Hst.out]
         exact C.cmp_neg.1 (by unfold C.add;exact h)
        have hlow:=Lab.lower (fun _ _ _=>G.E_nn) hlab.out hi1 hisk.out (b:=tt) (e:=stepC d) ⟨hkn,d,hd8,Hd.out.1,Hd.out.2.1.symm,rfl⟩ ht2 hn (stepC_ne d) (stepC_le d) hlt (pend_next Hd.out.2.2 Hd.out.2.1)
        have hadd:C.add (c k) (stepC d)=⟨cs+es,cd+ed⟩:=by rw [Hck.out,Hst.out];rfl
        rw [hadd] at hlow;have hlow:=Lib.hid hlow
        have hL7:=Lib.hid (hL6.out.set (by omega) (t:=tt) ⟨cs+es,cd+ed⟩ (by omega) (by omega))
        obtain ⟨k3,k4,k5⟩:=hL6.out.cell (t:=tt) (by omega)
        have f1:=(hL6.out.free (tt*2)).1;have f2:=(hL6.out.free (tt*2+1)).1;have f3:=(hL6.out.free tt).2;clear hlt hadd
        have hIn7:Ints (((wc.setCell ⟨bc,tt*2,none⟩ (.int .i64 (cs+es))).setCell ⟨bc,tt*2+1,none⟩ (.int .i64 (cd+ed))).setCell ⟨bi,tt,none⟩ (.bool true)) A1 nl (fun x=>(movesI g k).getD x 0):=
         hI6.out.kept (S:=[bc,bi]) ((((Kept.refl _ _).setCell (.inl (by simp))).setCell (.inl (by simp))).setCell (.inl (by simp))) (fun ad e=>(HN2.out (by omega) ad e).2)
        have hIn7:=Lib.hid hIn7
        have htl:todo.length≤67371521:=by omega
        have hml:(todo.map fun n:Nat=>(n:Int)).length<1099511627776:=by rw [List.length_map];omega
        have hW7:=hL7.out.kept.size
        go_upto_region 18 with (fail)
        clear k3 k4 k5 f1 f2 f3 d1 d2 hL6 hI6
        generalize (((wc.setCell ⟨bc,tt*2,none⟩ (.int .i64 (cs+es))).setCell ⟨bc,tt*2+1,none⟩ (.int .i64 (cd+ed))).setCell ⟨bi,tt,none⟩ (.bool true))=w7 at *
        go_wp2_with (at_builtin;(refine wpList_append_int2 _ rfl _ _ rfl W.heap.size _ _ _ rfl (hL7.out.own.alloc _) ⟨w7.heap.size,0,none⟩ rfl (cell1_new _ _ _) hml (by simp;omega) ?_);intro v' w9 hown9 hgrow hat)
        have hF:FlI W g fr bc bi M0 gk k (i+1) A1 nl v' (j+1) w9:=FlI.push hL7.out hown9 hgrow hat (by omega) (by omega) hlow.out.1 hlow.out.2 hi1 hTM hgk2 hIn7.out HN2.out (by unfold upd;split;rfl;exact hisk.out)
        have hF:=Lib.hid hF;clear hown9 hgrow hat hL7 hIn7 hml;go_wp2;go_roundw
        case rel=>first | exact ⟨j+1,by omega,by go_num,hF.out⟩ | ((repeat apply Exists.intro);exact ⟨⟨j+1,by omega,by go_num,hF.out⟩,rfl⟩)
        case measure=>simp [intOf];omega
    ·obtain rfl:j=nl:=by omega
     have hF:FlR W g fr bc bi M0 (2*Lab.meas g.n c is+(todo.length-(i+1))) _ (i+1) _:=⟨c,is,todo,k,hi1,hL.out,Lab.weaken hlab.out (pend_done Hnl.out),hTM,Nat.le_refl _⟩;have hF:=Lib.hid hF;go_wp2;go_roundg (2*Lab.meas g.n c is+(todo.length-(i+1)))
     case measure=>exact hgk2
     case rel=>exact ⟨i+1,by go_num,hF.out⟩
  ·obtain rfl:i=nt:=by omega
   have hfin:=Lib.hid (Lab.fin hlab.out (by rw [Hnt.out];exact Nat.le_refl _))
   obtain ⟨L1,hL1⟩:∃L1,(rowOf (ccell c) 512).toList=L1:=⟨_,rfl⟩;obtain ⟨L2,hL2⟩:∃L2,(rowOf (icell is) 256).toList=L2:=⟨_,rfl⟩
   have l1:L1.length=512:=by rw [←hL1];simp [rowOf]
   have l2:L2.length=256:=by rw [←hL2];simp [rowOf]
   have o1:∀v∈L1,v.oneCell'=true:=by rw [←hL1];exact row_one (fun k=>by unfold ccell;split <;> rfl) 512
   have o2:∀v∈L2,v.oneCell'=true:=by rw [←hL2];exact row_one (fun k=>rfl) 256
   have u1:=Tryz.underlying89;have u2:=Tryz.underlying53
   have s1:(Tryz.prog.info? 89).map (·.size)=some L1.length:=by rw [l1];kernel_rfl
   have s2:(Tryz.prog.info? 53).map (·.size)=some L2.length:=by rw [l2];kernel_rfl
   have hz:w.heap.size≠bc∧w.heap.size≠bi∧w.heap.size+1≠bc∧w.heap.size+1≠bi:=by omega
   have r1:wr.rangeAt bc 0 L1:=by rw [←hL1];exact range_row hL.out.hc
   have r2:wr.rangeAt bi 0 L2:=by rw [←hL2];exact range_row hL.out.hi
   have t1:wr.there w.heap.size 0 512:=there_row ((hL.out.kept.block w.heap.size (by omega) (by simp;omega)).trans B0.out)
   have t2:wr.there (w.heap.size+1) 0 256:=there_row ((hL.out.kept.block (w.heap.size+1) (by omega) (by simp;omega)).trans B1.out)
   have HL1:=Lib.hid hL1;have HL2:=Lib.hid hL2;clear hL1 hL2
   go_upto_region 19 with (fail)
   have z1:L1.toArray.size=512:=l1;have z2:L2.toArray.size=256:=l2;refine wp_region_noPanic ?_
   refine wp_region_held_drew (S:=fun w'=>w'.rangeAt bi 0 L2∧w'.rangeAt bc 0 L1∧w'.there w.heap.size 0 512∧w'.there (w.heap.size+1) 0 256) (by kernel_rfl) ⟨r2,r1,t1,t2⟩ (fun hHeld=>?_)
   refine' wpAnyH_take (i:=0) (oi:={ dst:=some 82,op:=.load 89 (.tmp 6),type:=89,pos := "parts.go:393",after:=#[],guard:=none }) (v:=_) rfl (by kernel_rfl) (by kernel_rfl) (by kernel_rfl) (fun _ _ _ h=>h) (yieldsIf_load_mid (by rfl) 89 (.tmp 6) rfl bc 0 rfl L1 _ (fun w h=>h.2.1) u1 rfl s1) (by assumption) ?_
   simp only [Act.put,List.setIfInBounds_toArray,List.set_cons_zero,List.set_cons_succ]
   refine' wpAnyH_take (i:=1) (oi:={ dst:=some 83,op:=.load 53 (.tmp 7),type:=53,pos := "parts.go:393",after:=#[{ on:=2,ground:=.gcOnly .lateStores }],guard:=none }) (v:=_) rfl (by kernel_rfl) (by kernel_rfl) (by kernel_rfl) (fun _ _ _ h=>h) (yieldsIf_load_mid (by rfl) 53 (.tmp 7) rfl bi 0 rfl L2 _ (fun w h=>h.1) u2 rfl s2) (by assumption) ?_
   simp only [Act.put,List.setIfInBounds_toArray,List.set_cons_zero,List.set_cons_succ]
   refine wpAnyH_ready (rs:=[2]) (by kernel_rfl) (by simp) ?_
   refine AllReadyH.cons rfl (fun K hK=>?_) .nil
   rw [if_pos (by rfl)]
   refine wp_store_mid _ _ _ rfl w.heap.size 0 L1.toArray rfl rfl (by rw [z1];exact t1) (by rw [z1,←l1];exact s1) (all_oneCell_toArray o1) ?_
   simp only [Act.put,List.setIfInBounds_toArray,List.set_cons_zero,List.set_cons_succ,List.toList_toArray]
   refine hK.out _ _ (by go_keep_ranges) (fun hHeld2=>?_)
   clear hK K
   refine wpAnyH_ready (rs:=[3]) (by kernel_rfl) (by simp) ?_
   refine AllReadyH.cons rfl (fun K hK=>?_) .nil
   rw [if_pos (by rfl)]
   refine wp_store_mid _ _ _ rfl (w.heap.size+1) 0 L2.toArray rfl rfl (by rw [z2];exact hHeld2.2.2.2) (by rw [z2,←l2];exact s2) (all_oneCell_toArray o2) ?_
   simp only [Act.put,List.setIfInBounds_toArray,List.set_cons_zero,List.set_cons_succ,List.toList_toArray]
   refine hK.out _ _ (by go_keep_ranges) (fun hHeld3=>?_)
   clear hK K
   refine wpAnyH_done (by kernel_rfl) ?_ _
   refine NoPanic.normal ?_
   have g1:(wr.drew.setCells w.heap.size 0 L1).rangeAt w.heap.size 0 L1:=World.rangeAt_setCells_same _ _ _ _ (by rw [l1];exact t1)
   have g2:((wr.drew.setCells w.heap.size 0 L1).setCells (w.heap.size+1) 0 L2).rangeAt (w.heap.size+1) 0 L2:=World.rangeAt_setCells_same _ _ _ _ (by rw [l2];exact hHeld2.2.2.2)
   go_wp2
   have g3:((wr.drew.setCells w.heap.size 0 L1).setCells (w.heap.size+1) 0 L2).rangeAt w.heap.size 0 L1:=World.rangeAt_setCells_apart g1 _ _ _ (.inl (by omega))
   have lv1:=run_loadVar_mid (P:=Tryz.prog) _ w.heap.size 0 89 L1 _ g3 u1 rfl s1;have lv2:=run_loadVar_mid (P:=Tryz.prog) _ (w.heap.size+1) 0 53 L2 _ g2 u2 rfl s2
   have hBE:Below w.heap.size w ((wr.drew.setCells w.heap.size 0 L1).setCells (w.heap.size+1) 0 L2):=
    below_setCells' (Nat.le_succ _) _ _ _ (below_setCells' (Nat.le_refl _) _ _ _ (bel_drew (Kept.below HW hL.out.kept (by omega) (by simp;omega))))
   generalize (wr.drew.setCells w.heap.size 0 L1).setCells (w.heap.size+1) 0 L2=wE at *
   refine bodyPost_ret (v:=.tuple #[.agg L1.toArray,.agg L2.toArray]) (by simp [results,Tryz.results42,Sem.run_bind,Sem.run_pure,Result.andThen_ok,asAddr,lv1,lv2]) rfl ?_
   refine ⟨c,is,?_,fun t=>⟨fun h=>⟨(hfin.out t).1 h,(hlab.out.i1 t h).2⟩,(hfin.out t).2⟩,hBE⟩
   rw [←HL1.out,←HL2.out]
theorem rFault (w : World) (p : Nat) (g : G) (v x : Int) (h : RGridAt w p g v) :
    Calls Tryz.prog 31 #[.pointer (some ⟨p,0,none⟩),.int .i64 x] w fun e w'=>e=.returned (.int .i64 (g.fault x:Nat))∧Below w.heap.size w w':=by
 by_cases hin:0≤x∧x<g.n
 ·obtain ⟨h0,h1⟩:=hin
  obtain ⟨c,rfl⟩:=Int.eq_ofNat_of_zero_le h0
  have hc:c<g.n:=by omega
  have hn:=G.n_le h.1
  have hb:=fun w' (hb:Below w.heap.size w w')=>(h.below hb h.lt).bit c (by omega)
  rw [G.fault_in hc];obtain ⟨t,ht⟩:∃t,g.b c=t:=⟨_,rfl⟩
  rw [ht] at hb ⊢
  have hb:=Lib.hid hb
  have hc256:(c:Int)<256:=by omega
  go_enter Tryz.func31,Tryz.ntmps31;go_wp2_with fail
  (with_reducible refine (rIs_in _ p g v c h hc).mono ?_)
  rintro e w1 ⟨rfl,hb1⟩;have k:=hb.out _ hb1
  cases t with
  | true=>
   go_wp2;go_ret;exact ⟨rfl,hb1⟩
  | false=>
   go_wp2;go_ret;exact ⟨rfl,hb1⟩
 ·rw [G.fault_out (by omega)]
  go_enter Tryz.func31,Tryz.ntmps31;go_wp2_with fail
  (with_reducible refine (rIs_out _ p g v x h (by omega)).mono ?_)
  rintro e w1 ⟨rfl,hb1⟩;go_wp2;go_ret;exact ⟨rfl,hb1⟩
def costWI (x:C×Nat):Value:=.tuple #[.agg #[.int .i64 x.1.s,.int .i64 x.1.d],.int .i64 (x.2:Nat)]
def RWkD (w:World) (x:C×Nat) (e:Ending) (w':World):Prop:=e=.returned (costWI x)∧Below w.heap.size w w'
def cAt (g:G) (k:Nat) (c:C) (o:Option Nat) (j:Nat):C:=match o with | some kk=>if kk<j then C.add c (g.wst k kk) else c | none=>c
def fAt (o:Option Nat) (j:Nat):Bool:=match o with | some kk=>decide (kk<j) | none=>false
theorem at_zero (g:G) (k:Nat) (c:C) (o:Option Nat):cAt g k c o 0=c∧fAt o 0=false:=by
 unfold cAt fAt
 cases o <;> simp
theorem at_miss {g:G} {k j:Nat} {c:C} {o:Option Nat} (h:o≠some j):cAt g k c o (j+1)=cAt g k c o j∧fAt o (j+1)=fAt o j:=by
 unfold cAt fAt
 cases o with
 | none=>simp
 | some kk=>
  have:kk≠j:=fun e=>h (by rw [e])
  have e1:(kk<j+1)=(kk<j):=by simp;omega
  simp only [e1,and_self]
theorem at_hit {g:G} {k j:Nat} {c:C} {o:Option Nat} (h:o=some j):cAt g k c o (j+1)=C.add c (g.wst k j)∧fAt o (j+1)=true∧cAt g k c o j=c:=by
 subst h;simp [cAt,fAt]
def RWJ (W:World) (b6:Nat) (x:C) (wr:World):Prop:=wr.cell? ⟨b6,0,none⟩=some (.int .i64 x.s)∧wr.cell? ⟨b6,1,none⟩=some (.int .i64 x.d)∧wr.frozen? ⟨b6,0,none⟩=false∧wr.frozen? ⟨b6,1,none⟩=false∧Kept [b6] W wr
theorem adK {S:List Nat} {w w':World} {ad:Addr} {k:Nat} {v:Value} (h:Kept S w w') (hb:ad.block∉S) (hc:w.cell? (ad.add k)=some v):w'.cell? (ad.add k)=some v:=by
 have hl:=World.block_lt_of_cell? _ _ hc;rw [add_block] at hl
 have e:w'.cell? (ad.add k)=w.cell? (ad.add k):=World.cell?_of_block (by rw [add_block];exact h.block _ hl hb)
 rw [e];exact hc
theorem RWJ.of_set {W w7 wA : World} {b6 : Nat} {x y : Int} {u v : Value} (hK7 : Kept [b6] W w7) (hb : Below w7.heap.size w7 wA) (c60 : wA.cell? ⟨b6, 0, none⟩ = some u) (c61 : wA.cell? ⟨b6, 1, none⟩ = some v)
    (r60:wA.frozen? ⟨b6,0,none⟩=false) (r61:wA.frozen? ⟨b6,1,none⟩=false):RWJ W b6 ⟨x,y⟩ ((wA.setCell ⟨b6,0,none⟩ (.int .i64 x)).setCell ⟨b6,1,none⟩ (.int .i64 y)):=by
 have e:=set_two (x:=.int .i64 x) (y:=.int .i64 y) c60 c61
 refine ⟨e.1,e.2,by simpa using r60,by simpa using r61,?_⟩
 exact hK7.trans (((Kept.of_below hb).setCell (.inl (by simp))).setCell (.inl (by simp)))
theorem rWalk (w : World) (p : Nat) (g : G) (v : Int) (A : Option Addr) (n m : Nat) (f : Nat → Int) (hG : RGridAt w p g v) (hI : Ints w A n f) (hn : n ≤ 1000000) :
    Calls Tryz.prog 37 #[.pointer (some ⟨p,0,none⟩),.slice A n m] w (RWkD w (g.wout f n)):=by
 go_enter Tryz.func37,Tryz.ntmps37
 go_upto_region 2 with (fail)
 refine wp_name ?_;intro W hW
 have HW:Below w.heap.size w W:=by rw [hW];(repeat' (first | exact Below.refl _ _ | assumption | apply bel_drewN | apply bel_drew | apply bel_alloc | (refine bel_trans ?_ (by assumption))))
 obtain ⟨b4,hb4⟩:∃b,w.heap.size=b:=⟨_,rfl⟩
 have hWs:W.heap.size=b4+1+1:=by rw [hW];simp;omega
 have q40:W.cell? ⟨b4,0,none⟩=some (.int .i64 0):=by rw [hW,←hb4];go_simp
 have q41:W.cell? ⟨b4,1,none⟩=some (.int .i64 0):=by rw [hW,←hb4];go_simp
 have r40:W.frozen? ⟨b4,0,none⟩=false:=by rw [hW,←hb4];go_simp
 have r41:W.frozen? ⟨b4,1,none⟩=false:=by rw [hW,←hb4];go_simp
 have q60:W.cell? ⟨b4+1,0,none⟩=some (.int .i64 0):=by rw [hW,←hb4];go_simp
 have q61:W.cell? ⟨b4+1,1,none⟩=some (.int .i64 0):=by rw [hW,←hb4];go_simp
 have r60:W.frozen? ⟨b4+1,0,none⟩=false:=by rw [hW,←hb4];go_simp
 have r61:W.frozen? ⟨b4+1,1,none⟩=false:=by rw [hW,←hb4];go_simp
 have hGW:=Lib.hid (hG.below HW hG.lt);have hIW:=Lib.hid (hI.below HW);have hpl:=hG.lt
 rw [hb4] at hpl ⊢
 obtain ⟨b6,hb6⟩:∃b,b4+1=b:=⟨_,rfl⟩
 rw [hb6] at hWs q60 q61 r60 r61 ⊢
 have hok:=hG.1;have hNn:=G.n_le hok
 have hAd:0<n→∀ad,A=some ad→ad.block<b4:=fun h0 ad e=>by
  obtain ⟨ad',e',hlt,_⟩:=hI h0
  rw [e'] at e;injection e with e;subst e;omega
 have hAd:=Lib.hid hAd;clear hW hG hI;have hstart:WkI W b6 g f 0 W:=⟨0,0,rfl,q60,q61,r60,r61,Kept.refl _ _⟩;go_wp2_with fail
 go_loopw [7] (fun kv wr=>∃i:Nat,i≤n∧kv=.int .i64 i∧WkI W b6 g f i wr) (fun kv _=>n-(intOf kv).toNat)
 case atStart=>exact ⟨0,by omega,rfl,hstart⟩
 case round=>
  obtain ⟨i,hi,rfl,cs,cd,hres,c60,c61,r60,r61,hK⟩:=hrel;clear hstart q60 q61
  have q40:=cellK hK (by simp;omega) q40
  have q41:=cellK hK (by simp;omega) q41
  have r40:=kframe hK (by simp;omega) (by omega) r40
  have r41:=kframe hK (by simp;omega) (by omega) r41
  have hGr:=Lib.hid (hGW.out.kept hK (by simp;omega))
  have hIr:=Lib.hid (hIW.out.kept0 hK (fun h0 ad e=>by have:=hAd.out h0 ad e;simp;omega))
  have hBr:Below w.heap.size w wr:=Kept.below HW hK HW.size (by simp;omega)
  have hBr:=Lib.hid hBr;have HK:=Lib.hid hK;have hsz:=hK.size;clear hK
  by_cases hlt:i<n
  ·obtain ⟨ad,hA⟩:=hIr.out.addr (by omega)
   have hIb:=hIr.out;rw [hA] at hIb
   have hix:=fun wx=>idx_run (m:=m) hA hlt wx
   have hE:=hIb.cell (Below.refl _ _) hlt;have Hres:=Lib.hid hres;clear hA hIb hres;obtain ⟨fi,hfi⟩:∃fi,f i=fi:=⟨_,rfl⟩;rw [hfi] at hE
   have cF:=Lib.hid (fun w' h'=>rFault w' p g v fi h')
   obtain ⟨fa,hfa⟩:∃fa,g.fault fi=fa:=⟨_,rfl⟩;rw [hfa] at cF;have Hfi:=Lib.hid hfi;have Hfa:=Lib.hid hfa;clear hfi hfa;go_wp2_with fail
   (with_reducible refine (cF.out _ hGr.out).mono ?_)
   rintro e w6 ⟨rfl,hb6'⟩;have hs6:=hb6'.size;have q40:=bel_cell hb6' q40;have q41:=bel_cell hb6' q41
   have r40:=bframe hb6' (by simp only;omega) r40
   have r41:=bframe hb6' (by simp only;omega) r41
   have c60:=bel_cell hb6' c60;have c61:=bel_cell hb6' c61
   have r60:=bframe hb6' (by simp only;omega) r60
   have r61:=bframe hb6' (by simp only;omega) r61
   have hG6:=Lib.hid (hGr.out.below hb6' hGr.out.lt);have hI6:=Lib.hid (hIr.out.below hb6');have hB6:=Lib.hid (bel_trans hBr.out hb6');have hK6:=Lib.hid (HK.out.trans (Kept.of_below hb6'));have hE:=bel_cell hb6' hE;clear cF hb6' hGr hIr hBr HK
   rcases Nat.eq_zero_or_pos fa with hfa | hfa
   ·subst hfa
    obtain ⟨c,hc,hcn,hbl⟩:=G.fault_zero Hfa.out;subst hc
    have Hf0:g.fault (f i)=0:=by rw [Hfi.out];exact Hfa.out
    have Hf0:=Lib.hid Hf0
    rcases Nat.eq_zero_or_pos i with hi0 | hi0
    ·subst hi0
     have hz:cs=0∧cd=0:=by
      have h:=Hres.out;unfold G.wres at h
      injection h with h
      unfold C.zero at h
      injection h with h1 h2
      exact ⟨h1.symm,h2.symm⟩
     obtain ⟨rfl,rfl⟩:=hz;have hin:WkI W b6 g f 1 w6:=⟨0,0,G.wres_first Hf0.out,c60,c61,r60,r61,hK6.out⟩;have hin:=Lib.hid hin;clear c60 c61 r60 r61 q40 q41 r40 r41;go_wp2;go_roundw
     case rel=>exact ⟨1,by omega,by go_num,hin.out⟩
     case measure=>simp [intOf];omega
    ·obtain ⟨i',hii⟩:∃i',i=i'+1:=⟨i-1,by omega⟩
     have hii':i'<n:=by omega
     have hne:((i:Int) == 0)=false:=by simp;omega
     have Hres2:=Hres.out;rw [hii] at Hres2;obtain ⟨k,hfk,hkn,hkb⟩:=G.wres_ok Hres2;have hbd:=G.wres_bd Hres2;simp only at hbd;obtain ⟨bd1,bd2,bd3,bd4⟩:=hbd;have Hres3:=Lib.hid Hres2
     have Hf1:g.fault (f (i'+1))=0:=by rw [←hii];exact Hf0.out
     have Hf1:=Lib.hid Hf1
     have Hc:f (i'+1)=(c:Nat):=by rw [←hii];exact Hfi.out
     have Hc:=Lib.hid Hc
     obtain ⟨ad,hA⟩:=hI6.out.addr (by omega)
     have hIb:=hI6.out;rw [hA] at hIb
     have hix2:=fun wx=>idx_run (m:=m) hA hii' wx
     have hE2:=hIb.cell (Below.refl _ _) hii'
     have hbad:=hIb.blk' (by omega)
     have hA6:ad.block<b4:=hAd.out (by omega) ad hA
     rw [hfk] at hE2
     have hwr:IntKind.i64.wrap ((i:Int)-1)=(i':Int):=by
      rw [show (i:Int)-1=(i':Int) by omega];exact IntWalk.i64_in _ (by omega)
     have hE3:=hIb.cell (Below.refl _ _) hlt;rw [Hfi.out] at hE3
     have hix3:=fun wx=>idx_run (m:=m) hA hlt wx
     have Hii:=Lib.hid hii;have Hfk:=Lib.hid hfk;clear hA hIb Hres2 hfk hii hE hix;go_wp2_with fail
     (with_reducible refine (rMovesN _ p g v k hG6.out hkn).mono ?_)
     rintro e w7 ⟨A1,m1,rfl,hI1,hN1,hb7'⟩;have hs7:=hb7'.size;have Q40:=Lib.hid (bel_cell hb7' q40);have Q41:=Lib.hid (bel_cell hb7' q41)
     have R40:=Lib.hid (bframe hb7' (by simp only;omega) r40)
     have R41:=Lib.hid (bframe hb7' (by simp only;omega) r41)
     have c60:=bel_cell hb7' c60;have c61:=bel_cell hb7' c61
     have r60:=bframe hb7' (by simp only;omega) r60
     have r61:=bframe hb7' (by simp only;omega) r61
     have hG7:=Lib.hid (hG6.out.below hb7' hG6.out.lt);have hB7:=Lib.hid (bel_trans hB6.out hb7');have hK7:=Lib.hid (hK6.out.trans (Kept.of_below hb7'));have HE2:=Lib.hid (bel_cell hb7' hE2);have HE3:=Lib.hid (bel_cell hb7' hE3);obtain ⟨nl,hnl⟩:∃nl,(movesI g k).length=nl:=⟨_,rfl⟩
     rw [hnl] at hI1 ⊢
     have hnl8:nl≤8:=by rw [←hnl];exact upTo_len _ _
     have hN1:0<nl→∀ad,A1=some ad→ad.block∉[b6]:=fun _ ad e=>by have:=hN1 ad e;simp;omega
     have HN1:=Lib.hid hN1;have HI1:=Lib.hid hI1;have Hnl:=Lib.hid hnl;obtain ⟨o,ho⟩:∃o,g.widx k c=o:=⟨_,rfl⟩;have Ho:=Lib.hid ho
     have hAb6:ad.block≠b6:=by omega
     have hpb6:p≠b6:=by omega
     clear hE2 hE3 q40 q41 r40 r41 hG6 hI6 hB6 hK6 hb7' hI1 hN1 hnl ho hbad
     have hstart2:RWJ w7 b6 (cAt g k ⟨cs,cd⟩ o 0) w7:=by rw [(at_zero g k ⟨cs,cd⟩ o).1];exact ⟨c60,c61,r60,r61,Kept.refl _ _⟩
     have hf0:=(at_zero g k ⟨cs,cd⟩ o).2;clear c60 c61 r60 r61;go_wp2_with fail;obtain ⟨wo,rfl⟩:∃wo:World,wo=wr:=⟨_,rfl⟩
     go_loopw [10,11] (fun fv kv wr=>∃j:Nat,j≤nl∧fv=.bool (fAt o j)∧kv=.int .i64 j∧RWJ w7 b6 (cAt g k ⟨cs,cd⟩ o j) wr) (fun _ kv _=>nl-(intOf kv).toNat)
     case atStart=>exact ⟨0,by omega,by rw [hf0],rfl,hstart2⟩
     case round=>
      obtain ⟨j,hj,rfl,rfl,hJ⟩:=hrel;clear hstart2 hf0;obtain ⟨c60,c61,r60,r61,hKj⟩:=hJ
      have hE2:=adK hKj (by simpa using hAb6) HE2.out
      have hE3:=adK hKj (by simpa using hAb6) HE3.out
      have q40:=cellK hKj (by simp;omega) Q40.out
      have q41:=cellK hKj (by simp;omega) Q41.out
      have r40:=kframe hKj (by simp;omega) (by omega) R40.out
      have r41:=kframe hKj (by simp;omega) (by omega) R41.out
      have hGj:=Lib.hid (hG7.out.kept hKj (by simpa using hpb6))
      have hIj:=Lib.hid (HI1.out.kept0 hKj HN1.out);have hsj:=hKj.size;have HKj:=Lib.hid hKj;obtain ⟨⟨xs,xd⟩,hx⟩:∃x,cAt g k ⟨cs,cd⟩ o j=x:=⟨_,rfl⟩;obtain ⟨fb,hfb⟩:∃x,fAt o j=x:=⟨_,rfl⟩;rw [hx] at c60 c61
      rw [hfb] at ⊢
      simp only at c60 c61;have Hx:=Lib.hid hx;have Hfb:=Lib.hid hfb;clear hKj hx hfb
      by_cases hlj:j<nl
      ·obtain ⟨ad1,hA1⟩:=hIj.out.addr (by omega)
       have hIb:=hIj.out;rw [hA1] at hIb
       have hix1:=fun wx=>idx_run (m:=m1) hA1 hlj wx
       have hE1:=hIb.cell (Below.refl _ _) hlj
       obtain ⟨d,hd8,hmay,hgd,hnth⟩:=moves_at (g:=g) (k:=k) (j:=j) (by rw [Hnl.out];exact hlj)
       rw [hgd] at hE1;obtain ⟨ht1,ht2⟩:=to_eq hmay;obtain ⟨tt,hto⟩:∃tt,g.to k d=tt:=⟨_,rfl⟩;rw [hto] at ht1 ht2;obtain ⟨t,ht⟩:∃t,((tt:Int) == (c:Int))=t:=⟨_,rfl⟩
       have hto2:t=true↔o=some j:=by
        have e1:t=true↔g.to k d=c:=by rw [←ht,hto];simp;omega
        rw [e1,←Ho.out]
        cases hw:g.widx k c with
        | none=>simp;exact G.widx_none hw j d hnth
        | some i2=>
         obtain ⟨d2,z1,z2,z3⟩:=G.widx_some hw;rw [z3 j d hnth];simp;omega
       have hwst:g.wst k j=stepC d:=by unfold G.wst;rw [List.getD_eq_getElem?_getD,hnth];rfl
       have cT:=Lib.hid (fun w' h'=>rTo_eq w' p g v k d (tt:Nat) h' hkn hd8 ht1)
       have Ht:=Lib.hid hto2;have Hwst:=Lib.hid hwst;have hp:=hGj.out.lt;have HB:=Below.refl wr.heap.size wr;have hE1q:=cell_regrown hE1;have hE2q:=cell_regrown hE2;have hE3q:=cell_regrown hE3;clear hA1 hIb hgd ht1 hto2 hto hmay hnth hwst
       go_upto_region 14 with (fail)
       refine wp_region_quiet_below (by kernel_rfl) (by kernel_rfl) ?_
       repeat (first | go_big_quiet_step ((with_reducible exact Calls.regrown_of (cT.out _ (hGj.out.below (HB.trans ((below_regrown wr _ _).mono HB.size)) hp)))) | quiet_step ((with_reducible exact Calls.regrown_of (cT.out _ (hGj.out.below (HB.trans ((below_regrown wr _ _).mono HB.size)) hp)))))
       refine wpQuiet_nil ?_;intro _ hw';obtain ⟨⟨dq,osq⟩,hw''⟩:=hw';have HB8:=bel_trans HB (below_regrown wr dq osq);have hb2:=below_regrown wr dq osq;subst hw''
       generalize grow (redrawn wr dq) osq=w8 at HB8 hb2 ⊢
       have hs8:=HB8.size;have k60:=bel_cell HB8 c60;have k61:=bel_cell HB8 c61
       have f60:=bframe HB8 (by simp only;omega) r60
       have f61:=bframe HB8 (by simp only;omega) r61
       have hK8:=Lib.hid (HKj.out.trans (Kept.of_below HB8));have hE1:=bel_cell HB8 hE1;clear hE1q hE2q hE3q hE2 hE3 c60 c61 r60 r61 q40 q41 r40 r41 HKj hIj hGj hb2 HB8 cT
       cases t with
       | false=>
        have hnj:o≠some j:=fun e=>by have:=Ht.out.2 e;cases this
        obtain ⟨m1',m2'⟩:=at_miss (g:=g) (k:=k) (c:=⟨cs,cd⟩) hnj
        have hJ:RWJ w7 b6 (cAt g k ⟨cs,cd⟩ o (j+1)) w8:=by rw [m1',Hx.out];exact ⟨k60,k61,f60,f61,hK8.out⟩
        have hJ:=Lib.hid hJ;have hf:=Lib.hid (m2'.trans Hfb.out);clear hnj m1' m2' k60 k61 f60 f61;go_wp2;go_roundw
        case rel=>first | exact ⟨j+1,by omega,by rw [hf.out],by go_num,hJ.out⟩ | ((repeat apply Exists.intro);exact ⟨⟨j+1,by omega,by rw [hf.out],by go_num,hJ.out⟩,rfl⟩)
        case measure=>simp [intOf];omega
       | true=>
        obtain ⟨m1',m2',m3'⟩:=at_hit (g:=g) (k:=k) (c:=⟨cs,cd⟩) (Ht.out.1 rfl);have hxx:=Hx.out;rw [m3'] at hxx
        injection hxx with hx1 hx2
        subst hx1;subst hx2;obtain ⟨es,ed,hst,hr1,hr2,hr3,hr4⟩:=step_parts d
        have cP:=Lib.hid (fun w=>refPlus cs cd es ed w (by unfold inC;omega) (by unfold inC;omega) (by unfold inC;omega) (by unfold inC;omega))
        have hwr2:IntKind.i64.wrap (1-ed)=es:=by rw [←hr2];exact IntWalk.i64_in _ (by omega)
        have hnew:cAt g k ⟨cs,cd⟩ o (j+1)=⟨cs+es,cd+ed⟩:=by rw [m1',Hwst.out,hst];rfl
        have hnew:=Lib.hid hnew;have hf:=Lib.hid m2'
        have d0:(0:Int)≤(d:Int):=by omega
        have jq0:(0:Int)≤(j:Int):=by omega
        have jq1:(j:Int)<(nl:Int):=by omega
        clear m1' m2' m3' hst hr2 hr3 hr4
        go_upto_region 15 with (fail)
        go_cut [] (fun wx=>RWJ w7 b6 ⟨cs+es,cd+ed⟩ wx)
        case first=>
         go_region_with (go_at_call 66;refine (cP.out _).mono ?_;rintro e wA ⟨rfl,hbA⟩;have k60:=bel_cell hbA k60;have k61:=bel_cell hbA k61;have f60:=bframe hbA (by simp only;simp;omega) f60;have f61:=bframe hbA (by simp only;simp;omega) f61)
         all_goals
          have hbw:Below w8.heap.size w8 wA:=bel_trans (bel_drew (Below.refl w8.heap.size w8)) hbA;have hin:=Lib.hid (RWJ.of_set (x:=cs+es) (y:=cd+ed) hK8.out hbw k60 k61 f60 f61);clear k60 k61 f60 f61 hbA hbw hE1 hix1;go_wp2;go_meet
          case rel=>exact hin.out
        case rest=>
         have hJ:RWJ w7 b6 (cAt g k ⟨cs,cd⟩ o (j+1)) wc:=by rw [hnew.out];exact hcut
         have hJ:=Lib.hid hJ;clear hcut cP k60 k61 f60 f61 hE1 hix1;go_wp2;go_roundw
         case rel=>first | exact ⟨j+1,by omega,by rw [hf.out],by go_num,hJ.out⟩ | ((repeat apply Exists.intro);exact ⟨⟨j+1,by omega,by rw [hf.out],by go_num,hJ.out⟩,rfl⟩)
         case measure=>simp [intOf];omega
      ·obtain rfl:j=nl:=by omega
       have hK8:=HKj.out
       cases o with
       | none=>
        have hb0:fb=false:=by rw [←Hfb.out];rfl
        subst hb0
        have hwo:=Lib.hid (G.wout_bad (G.wres_none Hres3.out Hf1.out Hfk.out Hc.out Ho.out) (n:=n) (by have:=Hii.out;omega))
        have hBj:Below w.heap.size w wr:=Kept.below hB7.out hK8 hB7.out.size (by simp;omega)
        clear c60 c61 r60 r61 hE2 hE3;go_wp2;have e2:=set_two (x:=.int .i64 0) (y:=.int .i64 0) q40 q41
        refine bodyPost_ret (v:=.tuple #[.agg #[.int .i64 0,.int .i64 0],.int .i64 7]) (by simp [results,Tryz.results37,go_sem,e2]) rfl ?_
        exact ⟨by rw [hwo.out];rfl,(hBj.setCell (by simp only;omega) _).setCell (by simp only;omega) _⟩
       | some kk=>
        have hkl:kk<j:=by
         obtain ⟨d',hd1,_,_⟩:=G.widx_some Ho.out;have h1:=(List.getElem?_eq_some_iff.1 hd1).1
         have h2:(g.moves k).length=j:=by rw [←Hnl.out,movesI_eq,List.length_map]
         omega
        have hb1:fb=true:=by rw [←Hfb.out];simp [fAt,hkl]
        subst hb1
        have hxx:C.add ⟨cs,cd⟩ (g.wst k kk)=⟨xs,xd⟩:=by rw [←Hx.out];simp [cAt,hkl]
        have hnew:=G.wres_some Hres3.out Hf1.out Hfk.out Hc.out Ho.out;rw [hxx] at hnew
        have hin:WkI W b6 g f (i+1) wr:=⟨xs,xd,by rw [Hii.out];exact hnew,c60,c61,r60,r61,hK7.out.trans hK8⟩
        have hin:=Lib.hid hin;clear c60 c61 r60 r61 hE2 hE3 q40 q41 r40 r41 hxx hnew hK8;go_wp2;go_roundw
        case rel=>first | exact ⟨i+1,by omega,by go_num,hin.out⟩ | ((repeat apply Exists.intro);exact ⟨⟨i+1,by omega,by go_num,hin.out⟩,rfl⟩)
        case measure=>simp [intOf];omega
   ·have hwo:=G.wout_bad (G.wres_fault Hres.out (by rw [Hfi.out,Hfa.out];omega)) (n:=n) (by omega)
    rw [Hfi.out,Hfa.out] at hwo;have hwo:=Lib.hid hwo
    have hfp:((0:Int)<(fa:Int)):=by omega
    clear c60 c61 r60 r61;go_wp2;have e2:=set_two (x:=.int .i64 0) (y:=.int .i64 0) q40 q41
    refine bodyPost_ret (v:=.tuple #[.agg #[.int .i64 0,.int .i64 0],.int .i64 (fa:Nat)]) (by simp [results,Tryz.results37,go_sem,e2]) rfl ?_
    exact ⟨by rw [hwo.out];rfl,(hB6.out.setCell (by simp only;omega) _).setCell (by simp only;omega) _⟩
  ·obtain rfl:i=n:=by omega
   rcases Nat.eq_zero_or_pos i with hi0 | hi0
   ·subst hi0
    go_wp2;have e2:=set_two (x:=.int .i64 0) (y:=.int .i64 0) q40 q41
    refine bodyPost_ret (v:=.tuple #[.agg #[.int .i64 0,.int .i64 0],.int .i64 7]) (by simp [results,Tryz.results37,go_sem,e2]) rfl ?_
    exact ⟨rfl,(hBr.out.setCell (by simp only;omega) _).setCell (by simp only;omega) _⟩
   ·have hne:((i:Int) == 0)=false:=by simp;omega
    have hwo:=Lib.hid (G.wout_ok hres hi0);clear hres;go_wp2;have e2:=set_two (x:=.int .i64 cs) (y:=.int .i64 cd) q40 q41
    refine bodyPost_ret (v:=.tuple #[.agg #[.int .i64 cs,.int .i64 cd],.int .i64 0]) (by simp [results,Tryz.results37,go_sem,e2]) rfl ?_
    exact ⟨by rw [hwo.out];rfl,(hBr.out.setCell (by simp only;omega) _).setCell (by simp only;omega) _⟩
end Go.Proofs.YtkdndoefgnfbnaaGreatDoor
