/- Lemmas of this claim: RFlood, RWalk. -/
import Derived.Test.YtkdndoefgnfbnaaGreatDoorKNavB11
import Derived.Test.YtkdndoefgnfbnaaGreatDoorKNavB5
import Derived.Test.YtkdndoefgnfbnaaGreatDoorKNavB8
import Derived.Test.YtkdndoefgnfbnaaGreatDoorKNavB12
import Derived.Deep.DeepCutAuto
import Derived.Deep.LoopGhost
import Derived.Deep.RegionHeld3
import Derived.Deep.MidRow
import Derived.Deep.RegionWith
set_option linter.unusedVariables false
set_option linter.unusedSimpArgs false
/- What the reference's Flood hands back: what each cell costs from one. -/
namespace Go.Proofs.YtkdndoefgnfbnaaGreatDoor
open Go.RowKit Go.Sort FR
def ccell (c:Nat→C) (k:Nat):Value:=if k % 2=0 then .int .i64 (c (k / 2)).s else .int .i64 (c (k / 2)).d
def icell (b:Nat→Bool) (k:Nat):Value:=.bool (b k)
theorem alloc_at (w:World) (o:Obj) {k:Nat} (hk:k=w.heap.size):(w.alloc o).heap[k]? = some o:=by rw [hk];exact heap_alloc_new w o
def FloodIs (g:G) (fr:Nat) (c:Nat→C) (is:Nat→Bool):Prop:=∀t,(is t=true→Dist g.E fr t (c t)∧t<g.n)∧(is t=false→∀d,¬Walk g.E fr t d)
theorem OwnI.keptAt {w w':World} {B:Nat} {v:Value} {zs:List Int} {S:List Nat} (h:OwnI w B v zs) (hk:Kept S w w') (hS:∀s∈S,s<B):OwnI w' B v zs:=by
 refine ⟨h.1,?_⟩
 rcases h.2 with hn | ⟨g,cap,cur,rfl,hb,hgg,rest⟩
 ·exact .inl hn
 ·refine .inr ⟨g,cap,cur,rfl,hb,?_,rest⟩
  rw [hk.block g (Array.getElem?_eq_some_iff.1 hgg).1 (fun hm=>by have:=hS g hm;omega)]
  exact hgg
structure LabM (W wr:World) (bc bi:Nat) (v:Value) (c:Nat→C) (is:Nat→Bool) (todo:List Nat):Prop where
 hc:wr.heap[bc]? = some (.cells (rowOf (ccell c) 512) 89 (0,0))
 hi:wr.heap[bi]? = some (.cells (rowOf (icell is) 256) 53 (0,0))
 own:OwnI wr W.heap.size v (todo.map fun n:Nat=>(n:Int))
 kept:Kept [bc,bi] W wr
theorem LabM.below {W wr w':World} {bc bi:Nat} {v:Value} {c:Nat→C} {is:Nat→Bool} {todo:List Nat} (h:LabM W wr bc bi v c is todo) (hb:Below wr.heap.size wr w'):LabM W w' bc bi v c is todo:=
 ⟨(hb.block bc (Array.getElem?_eq_some_iff.1 h.hc).1).trans h.hc,(hb.block bi (Array.getElem?_eq_some_iff.1 h.hi).1).trans h.hi,h.own.below (B':=0) hb,h.kept.trans (Kept.of_below hb)⟩
theorem LabM.cell {W wr : World} {bc bi : Nat} {v : Value} {c : Nat → C} {is : Nat → Bool} {todo : List Nat} (h : LabM W wr bc bi v c is todo) {t : Nat} (ht : t < 256) :
    wr.cell? ⟨bc,t*2,none⟩=some (.int .i64 (c t).s)∧wr.cell? ⟨bc,t*2+1,none⟩=some (.int .i64 (c t).d)∧wr.cell? ⟨bi,t,none⟩=some (.bool (is t)):=by
 refine ⟨?_,?_,?_⟩
 ·simp only [World.cell?,h.hc,rowOf_get _ _ _ (show t*2<512 by omega)]
  simp [ccell]
 ·simp only [World.cell?,h.hc,rowOf_get _ _ _ (show t*2+1<512 by omega)]
  have h1:(t*2+1) % 2=1:=by omega
  have h2:(t*2+1) / 2=t:=by omega
  simp [ccell,h1,h2]
 ·simp [World.cell?,h.hi,rowOf_get _ _ _ ht,icell]
theorem LabM.free {W wr:World} {bc bi:Nat} {v:Value} {c:Nat→C} {is:Nat→Bool} {todo:List Nat} (h:LabM W wr bc bi v c is todo) (k:Nat):wr.frozen? ⟨bc,k,none⟩=false∧wr.frozen? ⟨bi,k,none⟩=false:=by
 simp [World.frozen?,h.hc,h.hi]
theorem ccell_set (c:Nat→C) (t:Nat) (x:C):ccell (upd c t x)=upd (upd (ccell c) (t*2) (.int .i64 x.s)) (t*2+1) (.int .i64 x.d):=by
 funext k
 unfold ccell
 by_cases h1:k=t*2+1
 ·subst h1
  rw [upd_same,if_neg (by omega),show (t*2+1) / 2=t by omega,upd_same]
 ·rw [upd_ne _ _ h1]
  by_cases h2:k=t*2
  ·subst h2
   rw [upd_same,if_pos (by omega),show t*2 / 2=t by omega,upd_same]
  ·rw [upd_ne _ _ h2,upd_ne _ _ (by omega)]
theorem LabM.set {W wr : World} {bc bi : Nat} {v : Value} {c : Nat → C} {is : Nat → Bool} {todo : List Nat} (h : LabM W wr bc bi v c is todo) (hne : bc ≠ bi) {t : Nat} (x : C) (hB : bc < W.heap.size) (hB2 : bi < W.heap.size) :
    LabM W (((wr.setCell ⟨bc,t*2,none⟩ (.int .i64 x.s)).setCell ⟨bc,t*2+1,none⟩ (.int .i64 x.d)).setCell ⟨bi,t,none⟩ (.bool true)) bc bi v (upd c t x) (upd is t true) todo:=by
 have hK:Kept [bc,bi] wr (((wr.setCell ⟨bc,t*2,none⟩ (.int .i64 x.s)).setCell ⟨bc,t*2+1,none⟩ (.int .i64 x.d)).setCell ⟨bi,t,none⟩ (.bool true)):=(((Kept.refl _ _).setCell (.inl (by simp))).setCell (.inl (by simp))).setCell (.inl (by simp))
 refine ⟨?_,?_,?_,h.kept.trans hK⟩
 ·rw [Below.heap_setCell _ _ _ _ (by simpa using hne), set_heap1 _ _ _ _ _ _ (set_heap1 _ _ _ _ _ _ h.hc), ccell_set,
    row_set (ccell c) (upd (ccell c) (t*2) (.int .i64 x.s)) 512 (t*2) _ (upd_same _ _ _) (fun i hi=>upd_ne _ _ hi),
    row_set (upd (ccell c) (t*2) (.int .i64 x.s)) (upd (upd (ccell c) (t*2) (.int .i64 x.s)) (t*2+1) (.int .i64 x.d)) 512 (t*2+1) _ (upd_same _ _ _) (fun i hi=>upd_ne _ _ hi)]
 ·have h1 : ((wr.setCell ⟨bc, t * 2, none⟩ (.int .i64 x.s)).setCell ⟨bc, t * 2 + 1, none⟩ (.int .i64 x.d)).heap[bi]? = some (.cells (rowOf (icell is) 256) 53 (0, 0)) := by
    rw [Below.heap_setCell _ _ _ _ (by simpa using Ne.symm hne),Below.heap_setCell _ _ _ _ (by simpa using Ne.symm hne)];exact h.hi
  rw [set_heap1 _ _ _ _ _ _ h1,row_set (icell is) (icell (upd is t true)) 256 t _ (by unfold icell;rw [upd_same]) (fun i hi=>by unfold icell;rw [upd_ne _ _ hi])]
 ·exact h.own.keptAt hK (by simp;omega)
theorem Lab.weaken {E:Nat→Nat→C→Prop} {from_ n:Nat} {c:Nat→C} {is:Nat→Bool} {todo:List Nat} {i k:Nat} {pend pend':Nat→C→Prop} (H:Lab E from_ n c is todo i k pend) (hp:∀b e,pend b e→pend' b e):Lab E from_ n c is todo i k pend':=
 ⟨H.i0,H.i1,H.i2,fun a b e ha he=>(H.i3 a b e ha he).imp_right (fun h=>h.imp_left fun ⟨x,y⟩=>⟨x,hp _ _ y⟩),H.i4⟩
def FlI (W:World) (g:G) (fr bc bi M0 gk k i:Nat) (A1:Option Addr) (nl:Nat) (v:Value) (j:Nat) (wr:World):Prop:=∃c is todo,LabM W wr bc bi v c is todo∧Lab g.E fr g.n c is todo i k (PendM g k j)∧i≤todo.length∧todo.length+Lab.meas g.n c is≤M0∧2*Lab.meas g.n c is+(todo.length-i)<gk∧Ints wr A1 nl (fun x=>(movesI g k).getD x 0)∧(0<nl→∀ad,A1=some ad→v.ownBlock≠some ad.block∧ad.block∉[bc,bi])∧is k=true
theorem LabM.grown {W w7 w9 : World} {bc bi : Nat} {v v' : Value} {c : Nat → C} {is : Nat → Bool} {todo : List Nat} {o : Obj} {b : Nat} (h : LabM W w7 bc bi v c is todo) (ho : OwnI w9 W.heap.size v' (todo.map (fun n : Nat => (n : Int)) ++ [(b : Int)])) (hg : (w7.alloc o).grownBy w9 v.ownBlock)
    (hb1:bc<W.heap.size) (hb2:bi<W.heap.size):LabM W w9 bc bi v' c is (todo ++ [b]):=by
 have hs:=h.kept.size
 have hne:∀k,k<W.heap.size→some k≠v.ownBlock:=fun k hk e=>by have:=(World.ownsRow.lt h.own k e.symm).1;omega
 have hbl:∀k,k<W.heap.size→w9.heap[k]? = w7.heap[k]?:=fun k hk=>(hg.block k (by simp;omega) (hne k hk)).trans (Below.heap_alloc _ _ _ (by omega))
 refine ⟨(hbl bc hb1).trans h.hc,(hbl bi hb2).trans h.hi,by simpa using ho,?_⟩
 exact ⟨hg.os.trans h.kept.os,hg.tape.trans h.kept.tape,hg.output.trans h.kept.output,Nat.le_trans hs (Nat.le_trans (by simp) hg.size),fun k hk hn=>(hbl k hk).trans (h.kept.block k hk hn)⟩
theorem FlI.push {W w7 w9 : World} {g : G} {fr bc bi M0 gk k i nl j b : Nat} {A1 : Option Addr} {v v' : Value} {c c2 : Nat → C} {is is2 : Nat → Bool} {todo : List Nat} {o : Obj} (h : LabM W w7 bc bi v c2 is2 todo) (ho : OwnI w9 W.heap.size v' (todo.map (fun n : Nat => (n : Int)) ++ [(b : Int)])) (hg : (w7.alloc o).grownBy w9 v.ownBlock)
    (hat:v'.ownBlock=v.ownBlock∨v'.ownBlock=some (w7.alloc o).heap.size) (hb1:bc<W.heap.size) (hb2:bi<W.heap.size) (hlab:Lab g.E fr g.n c2 is2 (todo ++ [b]) i k (PendM g k (j+1))) (hm:Lab.meas g.n c2 is2<Lab.meas g.n c is)
    (hi:i≤todo.length) (hTM:todo.length+Lab.meas g.n c is≤M0) (hgk:2*Lab.meas g.n c is+(todo.length-i)<gk) (hI:Ints w7 A1 nl (fun x=>(movesI g k).getD x 0)) (hN:0<nl→∀ad,A1=some ad→v.ownBlock≠some ad.block∧ad.block∉[bc,bi]) (hk:is2 k=true) :
    FlI W g fr bc bi M0 gk k i A1 nl v' (j+1) w9:=by
 refine ⟨c2,is2,todo ++ [b],h.grown ho hg hb1 hb2,hlab,by simp;omega,by simp;omega,by simp;omega,?_,?_,hk⟩
 ·intro hn
  obtain ⟨ad,e,hlt,hc⟩:=hI hn
  refine ⟨ad,e,Nat.lt_of_lt_of_le hlt (Nat.le_trans (by simp) hg.size),fun x hx=>?_⟩
  have e1:w9.cell? (ad.add x)=(w7.alloc o).cell? (ad.add x):=hg.cell_far _ (by rw [add_block];simp;omega) (by rw [add_block];exact Ne.symm (hN hn ad e).1)
  rw [e1,World.cell?_alloc_old w7 _ _ (by rw [add_block];omega)]
  exact hc x hx
 ·intro hn ad e
  refine ⟨?_,(hN hn ad e).2⟩
  rcases hat with h' | h'
  ·rw [h'];exact (hN hn ad e).1
  ·rw [h']
   intro e2
   injection e2 with e2
   obtain ⟨ad',e',hlt,_⟩:=hI hn
   rw [e'] at e
   injection e with e
   subst e
   simp at e2
   omega
end Go.Proofs.YtkdndoefgnfbnaaGreatDoor
/- R.Walk: what a way costs, by the document's words. -/
namespace Go.Proofs.YtkdndoefgnfbnaaGreatDoor
open Go.RowKit Go.Sort FR
set_option maxRecDepth 100000 in
theorem rFault (w : World) (p : Nat) (g : G) (v x : Int) (h : RGridAt w p g v) :
    Calls Tryz.prog 31 #[.pointer (some ⟨p,0,none⟩),.int .i64 x] w fun e w'=>e=.returned (.int .i64 (g.fault x:Nat))∧Below w.heap.size w w':=by
 by_cases hin:0≤x∧x<g.n
 ·obtain ⟨h0,h1⟩:=hin
  obtain ⟨c,rfl⟩:=Int.eq_ofNat_of_zero_le h0
  have hc:c<g.n:=by omega
  have hn:=G.n_le h.1
  have hb:=fun w' (hb:Below w.heap.size w w')=>(h.below hb h.lt).bit c (by omega)
  rw [G.fault_in hc]
  obtain ⟨t,ht⟩:∃t,g.b c=t:=⟨_,rfl⟩
  rw [ht] at hb ⊢
  have hb:=Lib.hid hb
  have hc256:(c:Int)<256:=by omega
  go_enter Tryz.func31,Tryz.ntmps31
  go_wp2_with fail
  (with_reducible refine (rIs_in _ p g v c h hc).mono ?_)
  rintro e w1 ⟨rfl,hb1⟩
  have k:=hb.out _ hb1
  cases t with
  | true=>
   go_wp2
   go_ret
   exact ⟨rfl,hb1⟩
  | false=>
   go_wp2
   go_ret
   exact ⟨rfl,hb1⟩
 ·rw [G.fault_out (by omega)]
  go_enter Tryz.func31,Tryz.ntmps31
  go_wp2_with fail
  (with_reducible refine (rIs_out _ p g v x h (by omega)).mono ?_)
  rintro e w1 ⟨rfl,hb1⟩
  go_wp2
  go_ret
  exact ⟨rfl,hb1⟩
def RWJ (W:World) (b6:Nat) (x:C) (wr:World):Prop:=wr.cell? ⟨b6,0,none⟩=some (.int .i64 x.s)∧wr.cell? ⟨b6,1,none⟩=some (.int .i64 x.d)∧wr.frozen? ⟨b6,0,none⟩=false∧wr.frozen? ⟨b6,1,none⟩=false∧Kept [b6] W wr
theorem RWJ.below {W w w':World} {b6:Nat} {x:C} (h:RWJ W b6 x w) (hb:Below w.heap.size w w'):RWJ W b6 x w':=by
 obtain ⟨h1,h2,h3,h4,h5⟩:=h
 have l:=World.block_lt_of_cell? _ _ h1
 exact ⟨bel_cell hb h1,bel_cell hb h2,bframe hb l h3,bframe hb l h4,h5.trans (Kept.of_below hb)⟩
theorem RWJ.of_set {W w7 wA : World} {b6 : Nat} {x y : Int} {u v : Value} (hK7 : Kept [b6] W w7) (hb : Below w7.heap.size w7 wA) (c60 : wA.cell? ⟨b6, 0, none⟩ = some u) (c61 : wA.cell? ⟨b6, 1, none⟩ = some v)
    (r60:wA.frozen? ⟨b6,0,none⟩=false) (r61:wA.frozen? ⟨b6,1,none⟩=false):RWJ W b6 ⟨x,y⟩ ((wA.setCell ⟨b6,0,none⟩ (.int .i64 x)).setCell ⟨b6,1,none⟩ (.int .i64 y)):=by
 have e:=set_two (x:=.int .i64 x) (y:=.int .i64 y) c60 c61
 refine ⟨e.1,e.2,by simpa using r60,by simpa using r61,?_⟩
 exact hK7.trans (((Kept.of_below hb).setCell (.inl (by simp))).setCell (.inl (by simp)))
end Go.Proofs.YtkdndoefgnfbnaaGreatDoor
