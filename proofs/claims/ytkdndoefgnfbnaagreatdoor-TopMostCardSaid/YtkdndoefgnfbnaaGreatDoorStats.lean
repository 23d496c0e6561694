/- Lemmas of this claim: Stats. -/
import Derived.Test.YtkdndoefgnfbnaaGreatDoorNav1
import Derived.Test.YtkdndoefgnfbnaaGreatDoorKNavB39
import Derived.Test.YtkdndoefgnfbnaaGreatDoorKNavB28
import Derived.Test.YtkdndoefgnfbnaaGreatDoorKNavB22
import Derived.Test.YtkdndoefgnfbnaaGreatDoorKNavB48
set_option linter.unusedVariables false
set_option linter.unusedSimpArgs false
/- A service's Stats. -/
namespace Go.Proofs.YtkdndoefgnfbnaaGreatDoor
open Go.RowKit Go.Sort FR Go.Lib
def freeN (g:G) (k:Nat):Nat:=cntB (fun c=>!g.b c) k
theorem freeN_le (g:G) (k:Nat):freeN g k≤k:=by
 unfold freeN cntB
 exact Nat.le_trans (List.length_filter_le _ _) (by simp)
theorem freeN_succ (g:G) (k:Nat):freeN g (k+1)=freeN g k+(if (!g.b k)=true then 1 else 0):=by unfold freeN;rw [cntB_succ]
noncomputable def addN (g:G) (most:Nat):Nat:=sumN (addRE (egE g (LS.all g (cornersN g) most).1)) g.n
noncomputable def degK (g:G) (k:Nat):Nat:=(((cornersN g).take k).map (degN g)).sum
theorem degN_le {g:G} (hg:g.ok) (a:Nat):degN g a≤256:=by
 unfold degN
 refine Nat.le_trans (List.length_filter_le _ _) ?_
 rw [cn_len]
 exact corners_le hg
theorem degK_succ {g:G} {k:Nat} (h:k<(cornersI g).length):degK g (k+1)=degK g k+degN g (cf g k):=by
 unfold degK
 have:=cn_at h
 obtain ⟨h1,h2⟩:=List.getElem?_eq_some_iff.1 this
 rw [List.take_succ_eq_append_getElem h1,h2,List.map_append,List.sum_append]
 simp
theorem degK_le {g:G} (hg:g.ok):∀ {k:Nat},k≤(cornersI g).length→degK g k≤256*k
 | 0,_=>by simp [degK]
 | k+1,h=>by
  have:=degK_le hg (k:=k) (by omega)
  have:=degN_le hg (cf g k)
  rw [degK_succ (by omega)]
  omega
theorem degK_all (g:G):degK g (cornersI g).length=degS g:=by unfold degK degS;rw [←cn_len,List.take_length]
def StatD (w:World) (g:G) (v:Int) (most:Nat) (e:Ending) (w':World):Prop:=
 ∃n fr nd ed ad tp:Nat,e=.returned (.agg #[.int .i64 (n:Nat),.int .i64 (fr:Nat),.int .i64 (nd:Nat),.int .i64 (ed:Nat),.int .i64 (ad:Nat),.int .i64 (tp:Nat),.int .i64 v]) ∧
  (n=g.n∧fr=freeN g g.n∧nd=(cornersN g).length∧ed=degS g / 2∧ad=addN g most∧tp=(LS.all g (cornersN g) most).2)∧Below w.heap.size w w'
theorem stat_top {g:G} (hok:g.ok) {most:Nat} (m1:1≤most) (m2:most≤6):(LS.all g (cornersN g) most).2≤most:=by
 obtain ⟨_,_,htp⟩:=LS.all_fin hok (cornersN g) (fun n=>mem_cornersN) (most:=most) m1 m2
 omega
theorem cells_seven {w : World} {b : Nat} {T : TypeId} {x0 x1 x2 x3 x4 x5 x6 : Value} (h : w.heap[b]? = some (.cells #[x0, x1, x2, x3, x4, x5, x6] T (0, 0))) :
    w.cell? ⟨b,0,none⟩=some x0∧w.cell? ⟨b,1,none⟩=some x1∧w.cell? ⟨b,2,none⟩=some x2∧w.cell? ⟨b,3,none⟩=some x3∧w.cell? ⟨b,4,none⟩=some x4∧w.cell? ⟨b,5,none⟩=some x5∧w.cell? ⟨b,6,none⟩=some x6:=by
 refine ⟨?_,?_,?_,?_,?_,?_,?_⟩ <;> (rw [Lib.cell_of_heap h];rfl)
theorem bel_set {w X:World} {B b:Nat} (h:Below B w X) (hb:B≤b) (k:Nat) (x:Value):Below B w (X.setCell ⟨b,k,none⟩ x):=h.setCell (p:=⟨b,k,none⟩) hb x
theorem bel_seven {w X : World} {B b : Nat} (h : Below B w X) (hb : B ≤ b) (x0 x1 x2 x3 x4 x5 x6 : Value) :
    Below B w (((((((X.setCell ⟨b,0,none⟩ x0).setCell ⟨b,1,none⟩ x1).setCell ⟨b,2,none⟩ x2).setCell ⟨b,3,none⟩ x3).setCell ⟨b,4,none⟩ x4).setCell ⟨b,5,none⟩ x5).setCell ⟨b,6,none⟩ x6):=
 bel_set (bel_set (bel_set (bel_set (bel_set (bel_set (bel_set h hb 0 x0) hb 1 x1) hb 2 x2) hb 3 x3) hb 4 x4) hb 5 x5) hb 6 x6
set_option maxHeartbeats 3200000 in
theorem set_seven {w : World} {b : Nat} {T : TypeId} {u0 u1 u2 u3 u4 u5 u6 : Value} (x0 x1 x2 x3 x4 x5 x6 : Value) (h : w.heap[b]? = some (.cells #[u0, u1, u2, u3, u4, u5, u6] T (0, 0))) :
    (((((((w.setCell ⟨b,0,none⟩ x0).setCell ⟨b,1,none⟩ x1).setCell ⟨b,2,none⟩ x2).setCell ⟨b,3,none⟩ x3).setCell ⟨b,4,none⟩ x4).setCell ⟨b,5,none⟩ x5).setCell ⟨b,6,none⟩ x6).heap[b]? = some (.cells #[x0,x1,x2,x3,x4,x5,x6] T (0,0)):=
 set_heap1 _ b 6 _ _ x6 (set_heap1 _ b 5 _ _ x5 (set_heap1 _ b 4 _ _ x4 (set_heap1 _ b 3 _ _ x3 (set_heap1 _ b 2 _ _ x2 (set_heap1 _ b 1 _ _ x1 (set_heap1 _ b 0 _ _ x0 h))))))
set_option maxRecDepth 100000 in
set_option maxHeartbeats 6400000 in
theorem navStats (w : World) (s : Nat) (g : G) (v : Int) (most : Nat) (h : ServAt w s g v most) :
    Calls Tryz.prog 30 #[.pointer (some ⟨s,0,none⟩)] w (StatD w g v most):=by
 obtain ⟨_,pg,pt,rb,rp,rm,lb,lm,le,S,E,Sb,nl,hs,m1,m2,hG,hGr,hGs,hLv,_⟩:=h
 have hok:=hG.1
 have hgn:=G.n_le hok
 obtain ⟨HF,_,htp⟩:=LS.all_fin hok (cornersN g) (fun n=>mem_cornersN) (most:=most) m1 m2
 have ks0:w.cell? ⟨s,0,none⟩=some (.pointer (some ⟨pg,0,none⟩)):=by rw [Lib.cell_of_heap hs];rfl
 have ks2:w.cell? ⟨s,2,none⟩=some (.pointer (some ⟨rb,0,none⟩)):=by rw [Lib.cell_of_heap hs];rfl
 have ks3:w.cell? ⟨s,3,none⟩=some (.pointer (some ⟨lb,0,none⟩)):=by rw [Lib.cell_of_heap hs];rfl
 have hD:=added_same HF
 have hnd:(cornersN g).length=(cornersI g).length:=cn_len g
 obtain ⟨D,hDD⟩:∃D,addN g most=D:=⟨_,rfl⟩
 have HDD:=Lib.hid hDD
 unfold addN at hDD
 rw [hDD] at hD
 obtain ⟨tp,htpe⟩:∃tp,(LS.all g (cornersN g) most).2=tp:=⟨_,rfl⟩
 rw [htpe] at hLv
 have Htp:=Lib.hid htpe
 obtain ⟨Sv,hSv⟩:∃S,(LS.all g (cornersN g) most).1=S:=⟨_,rfl⟩
 rw [hSv] at hD hLv
 have HG:=Lib.hid hG
 have HGr:=Lib.hid hGr
 have HLv:=Lib.hid hLv
 have Hok:=Lib.hid hok
 obtain ⟨nn,hnn⟩:∃z,g.n=z:=⟨_,rfl⟩
 have cCl:=fun w' (hb:Below w.heap.size w w')=>gridCellsN w' pg g v (HG.out.below hb HG.out.lt)
 rw [hnn] at cCl
 replace cCl:=Lib.hid cCl
 have cA:=Lib.hid (fun w' (hb:Below w.heap.size w w')=>lvAdded w' lb lm le nl Sb (tp:Nat) _ _ g.n D (HLv.out.below hb) (egE_len hgn) egE_key hgn hD)
 have cT:=Lib.hid (fun w' (hb:Below w.heap.size w w')=>lvTop w' lb lm le nl Sb (tp:Nat) _ _ (HLv.out.below hb))
 have cV:=Lib.hid (fun w' (hb:Below w.heap.size w w')=>gridVersion w' pg g v (HG.out.below hb HG.out.lt))
 have hE:=fun c (hc:g.Corner c)=>(hGs.1 (c:Nat)).2 ⟨c,rfl,hc⟩
 have HE:=Lib.hid hE
 have HGs:=Lib.hid hGs
 replace hnn:=Lib.hid hnn
 replace hnd:=Lib.hid hnd
 have Hs:=Lib.hid (And.intro ks0 (And.intro ks2 ks3))
 clear hs hG hGr hGs hLv hok HF htp hD hDD htpe hSv hE
 go_enter Tryz.func30,Tryz.ntmps30
 go_upto_region 1 with (fail)
 refine wp_name ?_
 intro W hW
 have HW:Below w.heap.size w W:=by rw [hW];(repeat' (first | exact Below.refl _ _ | assumption | apply bel_drewN | apply bel_drew | apply bel_alloc | (refine bel_trans ?_ (by assumption))))
 have ks0:=bel_cell HW Hs.out.1
 have ks3:=bel_cell HW Hs.out.2.2
 have hZ2:W.heap[w.heap.size]? = some (.cells #[.int .i64 0,.int .i64 0,.int .i64 0,.int .i64 0,.int .i64 0,.int .i64 0,.int .i64 0] 64 (0,0)):=by rw [hW];exact heap_alloc_new _ _
 have ks2:=bel_cell HW Hs.out.2.1
 obtain ⟨b2,hb2⟩:∃z,w.heap.size=z:=⟨_,rfl⟩
 have hb2W:b2<W.heap.size:=by rw [←hb2];exact (Array.getElem?_eq_some_iff.1 hZ2).1
 rw [hb2] at hZ2
 replace hZ2:=Lib.hid hZ2
 replace Hs:=Lib.hid (And.intro ks0 (And.intro ks2 ks3))
 replace HG:=Lib.hid (HG.out.below HW HG.out.lt)
 replace HGr:=Lib.hid (HGr.out.below HW)
 replace cCl:=Lib.hid (fun w' (hb:Below W.heap.size W w')=>cCl.out w' (bel_trans HW hb))
 replace cA:=Lib.hid (fun w' (hb:Below W.heap.size W w')=>cA.out w' (bel_trans HW hb))
 replace cT:=Lib.hid (fun w' (hb:Below W.heap.size W w')=>cT.out w' (bel_trans HW hb))
 replace cV:=Lib.hid (fun w' (hb:Below W.heap.size W w')=>cV.out w' (bel_trans HW hb))
 rw [hb2]
 replace HW:=Lib.hid HW
 clear hW ks2 ks0 ks3
 have HWr:Below W.heap.size W W:=Below.refl _ _
 have hBQ:Below W.heap.size W W.drew:=bel_drew HWr
 have kS:W.drew.cell? ⟨s,0,none⟩=some (.pointer (some ⟨pg,0,none⟩))∧W.drew.cell? ⟨s,3,none⟩=some (.pointer (some ⟨lb,0,none⟩)):=⟨bel_cell hBQ Hs.out.1,bel_cell hBQ Hs.out.2.2⟩
 go_cut [3] (fun sv wx=>∃b3,sv=.pointer (some ⟨b3,0,none⟩)∧W.heap.size≤b3∧wx.heap[b3]? = some (.cells #[.int .i64 (nn:Nat),.int .i64 0,.int .i64 0,.int .i64 0,.int .i64 (D:Nat),.int .i64 (tp:Nat),.int .i64 v] 64 (0,0))∧Below W.heap.size W wx)
 case first=>
  have hws:W.heap.size≤W.heap.size:=Nat.le_refl _
  have hsl:s<W.heap.size:=World.block_lt_of_cell? (a:=⟨s,0,none⟩) W Hs.out.1
  have koW:=Lib.hid (fun (X:World) (k j:Nat) (x:Value)=>World.cell?_setCell_other (w:=X) (a:=⟨W.heap.size,k,none⟩) (b:=⟨s,j,none⟩) (v:=x) (by intro e;injection e with e1;omega))
  go_region_held3 (fun w'=>w'.cell? ⟨s,0,none⟩=some (.pointer (some ⟨pg,0,none⟩))∧w'.cell? ⟨s,3,none⟩=some (.pointer (some ⟨lb,0,none⟩)))
   (first
    | with_reducible exact kS
    | (simp only [koW.out];exact kS)
    | (simp only [koC.out];exact kS)
    | with_reducible exact ⟨bel_cell (bel_alloc hBQ) Hs.out.1,bel_cell (bel_alloc hBQ) Hs.out.2.2⟩)
   (first
    | (go_at_call 51
       with_reducible refine (cCl.out _ (hBQ)).mono ?_
       rintro e wC ⟨rfl,hbX⟩
       have hBQ:Below W.heap.size W wC:=bel_trans (hBQ) hbX
       have kS:wC.cell? ⟨s,0,none⟩=some (.pointer (some ⟨pg,0,none⟩))∧wC.cell? ⟨s,3,none⟩=some (.pointer (some ⟨lb,0,none⟩)):=⟨bel_cell hBQ Hs.out.1,bel_cell hBQ Hs.out.2.2⟩
       have hleC:W.heap.size≤wC.heap.size:=hBQ.size
       have koC:=Lib.hid (fun (X:World) (k j:Nat) (x:Value)=>World.cell?_setCell_other (w:=X) (a:=⟨wC.heap.size,k,none⟩) (b:=⟨s,j,none⟩) (v:=x) (by intro e;injection e with e1;omega)))
    | (go_at_call 51
       with_reducible refine (cCl.out _ (bel_alloc hBQ)).mono ?_
       rintro e wC ⟨rfl,hbX⟩
       have hZ:wC.heap[W.heap.size]? = some (.cells #[.int .i64 0,.int .i64 0,.int .i64 0,.int .i64 0,.int .i64 0,.int .i64 0,.int .i64 0] 64 (0,0)):=(hbX.block _ (by simp)).trans (heap_alloc_new _ _)
       have zz:=cells_seven hZ
       obtain ⟨z0,z1,z2,z3,z4,z5,z6⟩:=zz
       have y0:=Lib.frozen_of_heap hZ 0
       have y1:=Lib.frozen_of_heap hZ 1
       have y2:=Lib.frozen_of_heap hZ 2
       have y3:=Lib.frozen_of_heap hZ 3
       have y4:=Lib.frozen_of_heap hZ 4
       have y5:=Lib.frozen_of_heap hZ 5
       have y6:=Lib.frozen_of_heap hZ 6
       have hBQ:Below W.heap.size W wC:=bel_trans (bel_alloc hBQ) hbX
       have kS:wC.cell? ⟨s,0,none⟩=some (.pointer (some ⟨pg,0,none⟩))∧wC.cell? ⟨s,3,none⟩=some (.pointer (some ⟨lb,0,none⟩)):=⟨bel_cell hBQ Hs.out.1,bel_cell hBQ Hs.out.2.2⟩
       have hleC:W.heap.size≤wC.heap.size:=hBQ.size
       have koC:=Lib.hid (fun (X:World) (k j:Nat) (x:Value)=>World.cell?_setCell_other (w:=X) (a:=⟨wC.heap.size,k,none⟩) (b:=⟨s,j,none⟩) (v:=x) (by intro e;injection e with e1;omega)))
    | (go_at_call 51
       with_reducible refine (cCl.out _ (bel_drew (bel_alloc HWr))).mono ?_
       rintro e wC ⟨rfl,hbX⟩
       have hZ:wC.heap[W.heap.size]? = some (.cells #[.int .i64 0,.int .i64 0,.int .i64 0,.int .i64 0,.int .i64 0,.int .i64 0,.int .i64 0] 64 (0,0)):=(hbX.block W.heap.size (by simp)).trans (heap_alloc_new W _)
       have zz:=cells_seven hZ
       obtain ⟨z0,z1,z2,z3,z4,z5,z6⟩:=zz
       have y0:=Lib.frozen_of_heap hZ 0
       have y1:=Lib.frozen_of_heap hZ 1
       have y2:=Lib.frozen_of_heap hZ 2
       have y3:=Lib.frozen_of_heap hZ 3
       have y4:=Lib.frozen_of_heap hZ 4
       have y5:=Lib.frozen_of_heap hZ 5
       have y6:=Lib.frozen_of_heap hZ 6
       have hBQ:Below W.heap.size W wC:=bel_trans (bel_drew (bel_alloc HWr)) hbX
       have kS:wC.cell? ⟨s,0,none⟩=some (.pointer (some ⟨pg,0,none⟩))∧wC.cell? ⟨s,3,none⟩=some (.pointer (some ⟨lb,0,none⟩)):=⟨bel_cell hBQ Hs.out.1,bel_cell hBQ Hs.out.2.2⟩
       have hleC:W.heap.size≤wC.heap.size:=hBQ.size
       have koC:=Lib.hid (fun (X:World) (k j:Nat) (x:Value)=>World.cell?_setCell_other (w:=X) (a:=⟨wC.heap.size,k,none⟩) (b:=⟨s,j,none⟩) (v:=x) (by intro e;injection e with e1;omega)))
    | (go_at_call 52
       with_reducible refine (cA.out _ (hBQ)).mono ?_
       rintro e wN ⟨rfl,hbX⟩
       have hZ:wN.heap[W.heap.size]? = some (.cells #[.int .i64 0,.int .i64 0,.int .i64 0,.int .i64 0,.int .i64 0,.int .i64 0,.int .i64 0] 64 (0,0)):=(hbX.block _ (Array.getElem?_eq_some_iff.1 hZ).1).trans hZ
       have zz:=cells_seven hZ
       obtain ⟨z0,z1,z2,z3,z4,z5,z6⟩:=zz
       have y0:=Lib.frozen_of_heap hZ 0
       have y1:=Lib.frozen_of_heap hZ 1
       have y2:=Lib.frozen_of_heap hZ 2
       have y3:=Lib.frozen_of_heap hZ 3
       have y4:=Lib.frozen_of_heap hZ 4
       have y5:=Lib.frozen_of_heap hZ 5
       have y6:=Lib.frozen_of_heap hZ 6
       have hBQ:Below W.heap.size W wN:=bel_trans (hBQ) hbX
       have kS:wN.cell? ⟨s,0,none⟩=some (.pointer (some ⟨pg,0,none⟩))∧wN.cell? ⟨s,3,none⟩=some (.pointer (some ⟨lb,0,none⟩)):=⟨bel_cell hBQ Hs.out.1,bel_cell hBQ Hs.out.2.2⟩)
    | (go_at_call 52
       with_reducible refine (cA.out _ (hBQ)).mono ?_
       rintro e wN ⟨rfl,hbX⟩
       have hBQ:Below W.heap.size W wN:=bel_trans (hBQ) hbX
       have kS:wN.cell? ⟨s,0,none⟩=some (.pointer (some ⟨pg,0,none⟩))∧wN.cell? ⟨s,3,none⟩=some (.pointer (some ⟨lb,0,none⟩)):=⟨bel_cell hBQ Hs.out.1,bel_cell hBQ Hs.out.2.2⟩)
    | (go_at_call 52
       with_reducible refine (cA.out _ (bel_alloc hBQ)).mono ?_
       rintro e wN ⟨rfl,hbX⟩
       have hZ:wN.heap[wC.heap.size]? = some (.cells #[.int .i64 0,.int .i64 0,.int .i64 0,.int .i64 0,.int .i64 0,.int .i64 0,.int .i64 0] 64 (0,0)):=(hbX.block _ (by simp)).trans (heap_alloc_new _ _)
       have zz:=cells_seven hZ
       obtain ⟨z0,z1,z2,z3,z4,z5,z6⟩:=zz
       have y0:=Lib.frozen_of_heap hZ 0
       have y1:=Lib.frozen_of_heap hZ 1
       have y2:=Lib.frozen_of_heap hZ 2
       have y3:=Lib.frozen_of_heap hZ 3
       have y4:=Lib.frozen_of_heap hZ 4
       have y5:=Lib.frozen_of_heap hZ 5
       have y6:=Lib.frozen_of_heap hZ 6
       have hBQ:Below W.heap.size W wN:=bel_trans (bel_alloc hBQ) hbX
       have kS:wN.cell? ⟨s,0,none⟩=some (.pointer (some ⟨pg,0,none⟩))∧wN.cell? ⟨s,3,none⟩=some (.pointer (some ⟨lb,0,none⟩)):=⟨bel_cell hBQ Hs.out.1,bel_cell hBQ Hs.out.2.2⟩)
    | (go_at_call 53
       with_reducible refine (cT.out _ (hBQ)).mono ?_
       rintro e wT ⟨rfl,rfl⟩)
    | (go_at_call 53
       with_reducible refine (cT.out _ (bel_alloc hBQ)).mono ?_
       rintro e wT ⟨rfl,rfl⟩)
    | (go_at_call 54
       with_reducible refine (cV.out _ (hBQ)).mono ?_
       rintro e wT ⟨rfl,rfl⟩)
    | (go_at_call 54
       with_reducible refine (cV.out _ (bel_alloc hBQ)).mono ?_
       rintro e wT ⟨rfl,rfl⟩))
  all_goals
   go_wp2
   go_meet
   case rel=>first
    | (with_reducible refine ⟨_, rfl, ?_, heap_alloc_new _ _, bel_alloc hBQ⟩
       exact hBQ.size)
    | (with_reducible refine ⟨_, rfl, ?_, set_seven _ _ _ _ _ _ _ hZ, bel_seven hBQ ?_ _ _ _ _ _ _ _⟩
       ·first | exact hws | exact hleC
       ·first | exact hws | exact hleC)
 case rest=>
  obtain ⟨b3,rfl,hb3,hX,HB⟩:=hcut
  have ks0:=bel_cell HB Hs.out.1
  have hX:=Lib.hid hX
  have HB:=Lib.hid HB
  have hgn2:nn≤256:=by rw [←hnn.out];exact hgn
  have h32:b3≠b2:=by omega
  clear hBQ kS cA cT cV HWr
  go_wp2_with fail
  refine (cCl.out _ HB.out).mono ?_
  rintro e w2 ⟨rfl,hc2⟩
  have HB2:=Lib.hid (bel_trans HB.out hc2)
  replace hX:=Lib.hid ((hc2.block b3 (Array.getElem?_eq_some_iff.1 hX.out).1).trans hX.out)
  clear hc2 HB cCl
  go_wp2_with fail
  go_loopw [37] (fun iv wr=>∃(k:Nat),k≤nn∧iv=.int .i64 (k:Nat)∧wr.heap[b3]? = some (.cells #[.int .i64 (nn:Nat),.int .i64 (freeN g k:Nat),.int .i64 0,.int .i64 0,.int .i64 (D:Nat),.int .i64 (tp:Nat),.int .i64 v] 64 (0,0))∧Below W.heap.size W wr) (fun iv _=>nn-(intOf iv).toNat)
  case atStart=>exact ⟨0,Nat.zero_le _,rfl,hX.out,HB2.out⟩
  case round=>
   clear hX HB2
   obtain ⟨k,hk,rfl,hX,hB⟩:=hrel
   have ks0:=bel_cell hB Hs.out.1
   by_cases hlt:k<nn
   ·obtain ⟨t,ht⟩:∃t,(!g.b k)=t:=⟨_,rfl⟩
    have cF:=gridFree_in wr pg g v k (HG.out.below hB HG.out.lt) (by rw [hnn.out];exact hlt)
    rw [ht] at cF
    replace cF:=Lib.hid cF
    obtain ⟨fr,hfr⟩:∃z,freeN g k=z:=⟨_,rfl⟩
    have hfs:freeN g (k+1)=fr+(if t=true then 1 else 0):=by rw [freeN_succ,hfr,ht]
    have hfr2:fr≤256:=by rw [←hfr];exact Nat.le_trans (freeN_le g k) (by omega)
    rw [hfr] at hX
    have HX:=Lib.hid hX
    have HBr:=Lib.hid hB
    have Hfs:=Lib.hid hfs
    clear hX hB hfs hfr ht
    go_wp2_with fail
    refine cF.out.mono ?_
    rintro e w3 ⟨rfl,hc3⟩
    have hX3:=(hc3.block b3 (Array.getElem?_eq_some_iff.1 HX.out).1).trans HX.out
    have HB3:=Lib.hid (bel_trans HBr.out hc3)
    clear hc3 cF HX HBr ks0
    cases t with
    | false=>
     have hF:w3.heap[b3]? = some (.cells #[.int .i64 (nn:Nat),.int .i64 (freeN g (k+1):Nat),.int .i64 0,.int .i64 0,.int .i64 (D:Nat),.int .i64 (tp:Nat),.int .i64 v] 64 (0,0)):=by
      rw [Hfs.out];exact hX3
     replace hF:=Lib.hid hF
     clear hX3 Hfs
     go_wp2
     go_roundw
     case rel=>first | exact ⟨k+1,by omega,by go_num,hF.out,HB3.out⟩ | ((repeat apply Exists.intro);exact ⟨⟨k+1,by omega,by go_num,hF.out,HB3.out⟩,rfl⟩)
     case measure=>simp [intOf];omega
    | true=>
     obtain ⟨_,z1,_⟩:=cells_seven hX3
     have y1:=Lib.frozen_of_heap hX3 1
     have HX3:=Lib.hid hX3
     clear hX3
     go_upto_region 8 with (fail)
     refine wp_name ?_
     intro W4 hW4
     have hF:W4.heap[b3]? = some (.cells #[.int .i64 (nn:Nat),.int .i64 (freeN g (k+1):Nat),.int .i64 0,.int .i64 0,.int .i64 (D:Nat),.int .i64 (tp:Nat),.int .i64 v] 64 (0,0)):=by
      rw [hW4,Hfs.out];exact set_heap1 w3 b3 1 _ _ _ HX3.out
     have HB4:Below W.heap.size W W4:=by rw [hW4];exact bel_set HB3.out hb3 1 _
     replace hF:=Lib.hid hF
     replace HB4:=Lib.hid HB4
     clear HX3 Hfs z1 y1 hW4 HB3
     go_wp2
     go_roundw
     case rel=>first | exact ⟨k+1,by omega,by go_num,hF.out,HB4.out⟩ | ((repeat apply Exists.intro);exact ⟨⟨k+1,by omega,by go_num,hF.out,HB4.out⟩,rfl⟩)
     case measure=>simp [intOf];omega
   ·obtain rfl:nn=k:=by omega
    have hgf:freeN g nn=freeN g g.n:=by rw [hnn.out]
    obtain ⟨fr,hfr⟩:∃z,freeN g nn=z:=⟨_,rfl⟩
    rw [hfr] at hX
    have Hfr:=Lib.hid (hfr.symm.trans hgf)
    have ks2:=bel_cell hB Hs.out.2.1
    have cN:=Lib.hid (graphNodesC wr rb rp rm S g v E (HGr.out.below hB) HGs.out.1)
    have HX:=Lib.hid hX
    have HBr:=Lib.hid hB
    clear hX hB hfr hgf ks0 hlt
    go_wp2_with fail
    refine cN.out.mono ?_
    rintro e w5 ⟨A,mm,rfl,_,hI,hAd,hc5⟩
    have hX5:=Lib.hid ((hc5.block b3 (Array.getElem?_eq_some_iff.1 HX.out).1).trans HX.out)
    have HB5:=Lib.hid (bel_trans HBr.out hc5)
    have hAb:∀ad,A=some ad→ad.block≠b3:=fun ad e=>by have:=(hAd ad e).1;have:=(Array.getElem?_eq_some_iff.1 HX.out).1;omega
    obtain ⟨n2,hn2⟩:∃z,(cornersI g).length=z:=⟨_,rfl⟩
    rw [hn2] at hI ⊢
    have hn256:n2≤256:=by rw [←hn2];exact corners_le Hok.out
    have Hn2:=Lib.hid hn2
    have HI:=Lib.hid hI
    have HAb:=Lib.hid hAb
    clear hc5 hI hAd hAb hn2 HX HBr cN ks2
    go_wp2_with fail
    go_loopw [61] (fun iv wr=>∃(i:Nat),i≤n2∧iv=.int .i64 (i:Nat)∧wr.heap[b3]? = some (.cells #[.int .i64 (nn:Nat),.int .i64 (fr:Nat),.int .i64 (i:Nat),.int .i64 (degK g i:Nat),.int .i64 (D:Nat),.int .i64 (tp:Nat),.int .i64 v] 64 (0,0))∧Below W.heap.size W wr∧Ints wr A n2 (fun k=>(cornersI g).getD k 0)) (fun iv _=>n2-(intOf iv).toNat)
    case atStart=>exact ⟨0,Nat.zero_le _,rfl,by simpa [degK] using hX5.out,HB5.out,HI.out⟩
    case round=>
     clear hX5 HB5 HI
     obtain ⟨i,hi,rfl,hX,hB,hI⟩:=hrel
     by_cases hlt:i<n2
     ·obtain ⟨hcg,hcc⟩:=cf_at (g:=g) (i:=i) (by rw [Hn2.out];exact hlt)
      obtain ⟨ad,hAe,_,hc⟩:=hI (by omega)
      have hcz:=hc i hlt
      simp only [hcg] at hcz
      obtain ⟨c,hce⟩:∃z,cf g i=z:=⟨_,rfl⟩
      rw [hce] at hcz hcc
      have hix:=fun wx=>idx_run (A:=A) (m:=mm) hAe hlt wx
      obtain ⟨L,hL⟩:∃L,E (c:Nat)=some L:=Option.ne_none_iff_exists'.1 (HE.out c hcc)
      have hdeg:=deg_len HGs.out hL
      have hds:=degK_succ (g:=g) (k:=i) (by rw [Hn2.out];exact hlt)
      rw [hce,←hdeg] at hds
      have hl256:L.length≤256:=by rw [hdeg];exact degN_le Hok.out c
      have cE:=Lib.hid (graphEdges wr rb rp rm S g v E (HGr.out.below hB) (c:Nat) L hL (by omega))
      obtain ⟨dk,hdk⟩:∃z,degK g i=z:=⟨_,rfl⟩
      have hdk2:dk≤65536:=by
       rw [←hdk]
       have:=degK_le Hok.out (k:=i) (by rw [Hn2.out];omega)
       omega
      rw [hdk] at hX hds
      obtain ⟨ln,hln⟩:∃z,L.length=z:=⟨_,rfl⟩
      rw [hln] at hds hl256
      have ks2:=bel_cell hB Hs.out.2.1
      have HX:=Lib.hid hX
      have HBr:=Lib.hid hB
      have Hds:=Lib.hid hds
      have HIr:=Lib.hid hI
      have Hln:=Lib.hid hln
      clear hX hB hds hI hc hcg hcc hce hAe hL hdeg hdk hln ks0
      go_wp2_with fail
      refine cE.out.mono ?_
      rintro e w6 ⟨A2,m2,rfl,_,_,hc6⟩
      rw [Hln.out]
      have hX6:=(hc6.block b3 (Array.getElem?_eq_some_iff.1 HX.out).1).trans HX.out
      have HB6:=Lib.hid (bel_trans HBr.out hc6)
      have HI6:=Lib.hid (HIr.out.below hc6)
      obtain ⟨_,_,z2,z3,_⟩:=cells_seven hX6
      have y2:=Lib.frozen_of_heap hX6 2
      have y3:=Lib.frozen_of_heap hX6 3
      have HX6:=Lib.hid hX6
      clear hX6 hc6 HX HBr HIr cE ks2 hix hcz
      go_upto_region 15 with (fail)
      refine wp_name ?_
      intro W7 hW7
      have hF:W7.heap[b3]? = some (.cells #[.int .i64 (nn:Nat),.int .i64 (fr:Nat),.int .i64 (i+1:Nat),.int .i64 (degK g (i+1):Nat),.int .i64 (D:Nat),.int .i64 (tp:Nat),.int .i64 v] 64 (0,0)):=by
       rw [hW7,Hds.out];exact set_heap1 _ b3 3 _ _ _ (set_heap1 w6 b3 2 _ _ _ HX6.out)
      have HB7:Below W.heap.size W W7:=by rw [hW7];exact bel_set (bel_set HB6.out hb3 2 _) hb3 3 _
      have HI7:Ints W7 A n2 (fun k=>(cornersI g).getD k 0):=by
       rw [hW7]
       exact HI6.out.kept0 (((Kept.refl [b3] w6).setCell (p:=⟨b3,2,none⟩) (.inl (by simp))).setCell (p:=⟨b3,3,none⟩) (.inl (by simp))) (fun _ ad e=>by simp;exact HAb.out ad e)
      replace hF:=Lib.hid hF
      replace HB7:=Lib.hid HB7
      replace HI7:=Lib.hid HI7
      clear HX6 Hds z2 z3 y2 y3 hW7 HB6 HI6
      go_wp2
      go_roundw
      case rel=>first | exact ⟨i+1,by omega,by go_num,hF.out,HB7.out,HI7.out⟩ | ((repeat apply Exists.intro);exact ⟨⟨i+1,by omega,by go_num,hF.out,HB7.out,HI7.out⟩,rfl⟩)
      case measure=>simp [intOf];omega
     ·obtain rfl:n2=i:=by omega
      obtain ⟨ed,hed⟩:∃z,degK g n2=z:=⟨_,rfl⟩
      have hde:ed=degS g:=by rw [←hed,←Hn2.out];exact degK_all g
      have hed2:ed≤65536:=by
       rw [←hed]
       have:=degK_le Hok.out (k:=n2) (by rw [Hn2.out];omega)
       omega
      rw [hed] at hX
      obtain ⟨z0,z1,z2,z3,z4,z5,z6⟩:=cells_seven hX
      have y3:=Lib.frozen_of_heap hX 3
      have hZ3:=(hB.block b2 hb2W).trans hZ2.out
      obtain ⟨eh,heh⟩:∃z,ed / 2=z:=⟨_,rfl⟩
      have Hq:=Lib.hid (show ((ed:Nat):Int) / 2=((eh:Nat):Int) by rw [←heh];simp)
      replace heh:=Lib.hid heh
      have HX:=Lib.hid hX
      have HBr:=Lib.hid hB
      have HZ3:=Lib.hid hZ3
      have Hde:=Lib.hid hde
      clear hX hB hI hed hde hZ3 ks0 hlt
      go_upto_region 17 with (fail)
      refine wp_name ?_
      intro W8 hW8
      have hX8:W8.heap[b3]? = some (.cells #[.int .i64 (nn:Nat),.int .i64 (fr:Nat),.int .i64 (n2:Nat),.int .i64 (eh:Nat),.int .i64 (D:Nat),.int .i64 (tp:Nat),.int .i64 v] 64 (0,0)):=by
       rw [hW8,←Hq.out];exact set_heap1 wr b3 3 _ _ _ HX.out
      have hZ8:W8.heap[b2]? = some (.cells #[.int .i64 0,.int .i64 0,.int .i64 0,.int .i64 0,.int .i64 0,.int .i64 0,.int .i64 0] 64 (0,0)):=by
       rw [hW8]
       exact (((Kept.refl [b3] wr).setCell (p:=⟨b3,3,none⟩) (.inl (by simp))).block b2 (Array.getElem?_eq_some_iff.1 HZ3.out).1 (by simp;omega)).trans HZ3.out
      have HB8:Below W.heap.size W W8:=by rw [hW8];exact bel_set HBr.out hb3 3 _
      replace HB8:=Lib.hid (bel_trans HW.out HB8)
      obtain ⟨z0,z1,z2,z3,z4,z5,z6⟩:=cells_seven hX8
      obtain ⟨u0,u1,u2,u3,u4,u5,u6⟩:=cells_seven hZ8
      have y0:=Lib.frozen_of_heap hZ8 0
      have y1:=Lib.frozen_of_heap hZ8 1
      have y2:=Lib.frozen_of_heap hZ8 2
      have y3:=Lib.frozen_of_heap hZ8 3
      have y4:=Lib.frozen_of_heap hZ8 4
      have y5:=Lib.frozen_of_heap hZ8 5
      have y6:=Lib.frozen_of_heap hZ8 6
      have e7:=Lib.hid (cells_seven (set_seven (.int .i64 (nn:Nat)) (.int .i64 (fr:Nat)) (.int .i64 (n2:Nat)) (.int .i64 (eh:Nat)) (.int .i64 (D:Nat)) (.int .i64 (tp:Nat)) (.int .i64 v) hZ8))
      clear hX8 hZ8 hW8 HX HZ3 HBr
      go_wp2_with fail
      have e7:=e7.out
      refine bodyPost_ret (v:=.agg #[.int .i64 (nn:Nat),.int .i64 (fr:Nat),.int .i64 (n2:Nat),.int .i64 (eh:Nat),.int .i64 (D:Nat),.int .i64 (tp:Nat),.int .i64 v]) (by simp [results,Tryz.results30,go_sem,e7]) rfl ?_
      exact ⟨nn,fr,n2,eh,D,tp,rfl,⟨hnn.out.symm,Hfr.out,by rw [hnd.out,Hn2.out],by rw [←heh.out,Hde.out],HDD.out.symm,Htp.out.symm⟩,bel_seven HB8.out (by omega) _ _ _ _ _ _ _⟩
end Go.Proofs.YtkdndoefgnfbnaaGreatDoor
