/- Lemmas of this claim: Nav4. -/
import Derived.Test.YtkdndoefgnfbnaaGreatDoorNav3
import Derived.Test.YtkdndoefgnfbnaaGreatDoorKNavC40
set_option linter.unusedVariables false
set_option linter.unusedSimpArgs false
set_option maxHeartbeats 3200000
set_option maxRecDepth 100000
namespace Go.Proofs.YtkdndoefgnfbnaaGreatDoor
open Go.RowKit Go.Sort FR Go.Lib
def AskD (w:World) (g:G) (x y:Int) (e:Ending) (w':World):Prop:=
 ∃(W:List Nat) (c:C) (er:Nat) (A:Option Addr) (m:Nat),AskIs g x y W c er∧e=.returned (.agg #[.slice A W.length m,.int .i64 c.s,.int .i64 c.d,.int .i64 (er:Nat)])∧Ints w' A W.length (fun k=>(natI W).getD k 0)∧(∀ad,A=some ad→w.heap.size≤ad.block)∧Below w.heap.size w w'
theorem set_four {w : World} {b : Nat} {T : TypeId} {u0 u1 u2 u3 : Value} (x0 x1 x2 x3 : Value) (h : w.heap[b]? = some (.cells #[u0, u1, u2, u3] T (0, 0))) :
    ((((w.setCell ⟨b,0,none⟩ x0).setCell ⟨b,1,none⟩ x1).setCell ⟨b,2,none⟩ x2).setCell ⟨b,3,none⟩ x3).heap[b]? = some (.cells #[x0,x1,x2,x3] T (0,0)):=
 set_heap1 _ b 3 _ _ x3 (set_heap1 _ b 2 _ _ x2 (set_heap1 _ b 1 _ _ x1 (set_heap1 _ b 0 _ _ x0 h)))
theorem cells_four {w : World} {b : Nat} {T : TypeId} {x0 x1 x2 x3 : Value} (h : w.heap[b]? = some (.cells #[x0, x1, x2, x3] T (0, 0))) :
    w.cell? ⟨b,0,none⟩=some x0∧w.cell? ⟨b,1,none⟩=some x1∧w.cell? ⟨b,2,none⟩=some x2∧w.cell? ⟨b,3,none⟩=some x3:=by
 refine ⟨?_,?_,?_,?_⟩ <;> (rw [Lib.cell_of_heap h];rfl)
theorem navAsk (w : World) (s : Nat) (g : G) (v : Int) (most : Nat) (h : ServAt w s g v most) (x y : Int) :
    Calls Tryz.prog 19 #[.pointer (some ⟨s,0,none⟩),.int .i64 x,.int .i64 y] w (AskD w g x y):=by
 have hS:=Lib.hid h;obtain ⟨_,pg,pt,rb,rp,rm,lb,lm,le,S,E,Sb,nl,hs,m1,m2,hG,_⟩:=h
 have ks0:w.cell? ⟨s,0,none⟩=some (.pointer (some ⟨pg,0,none⟩)):=by rw [Lib.cell_of_heap hs];rfl
 replace hG:=Lib.hid hG;clear hs;go_enter Tryz.func19,Tryz.ntmps19
 go_upto_region 1 with (fail)
 refine wp_name ?_;intro W hW
 have HW:Below w.heap.size w W:=by rw [hW];(repeat' (first | exact Below.refl _ _ | assumption | apply bel_drewN | apply bel_drew | apply bel_alloc | (refine bel_trans ?_ (by assumption))))
 obtain ⟨b6,hb6⟩:∃z,w.heap.size=z:=⟨_,rfl⟩
 have q6:W.heap[b6]? = some (.cells #[.slice none 0 0,.int .i64 0,.int .i64 0,.int .i64 0] 41 (0,0)):=by rw [hW,←hb6];exact heap_alloc_new _ _
 rw [hb6];have hle:w.heap.size≤b6:=Nat.le_of_eq hb6
 have hW6:b6<W.heap.size:=by rw [hW,←hb6];simp
 clear hW;replace ks0:=bel_cell HW ks0;have cW:=Lib.hid (navWay W s g v most (hS.out.below HW) x y);replace q6:=Lib.hid q6;go_wp2_with fail;refine cW.out.mono ?_
 rintro e w2 ⟨Wy,c,er,hA,hb2,(⟨h0,rfl⟩ | ⟨h0,A,m,rfl,hI,hf⟩)⟩
 ·have q2:=(hb2.block b6 hW6).trans q6.out
  obtain ⟨z0,z1,z2,z3⟩:=cells_four q2;have f0:w2.frozen? ⟨b6,0,none⟩=false:=Lib.frozen_of_heap q2 0;have f1:w2.frozen? ⟨b6,1,none⟩=false:=Lib.frozen_of_heap q2 1;have f2:w2.frozen? ⟨b6,2,none⟩=false:=Lib.frozen_of_heap q2 2;have f3:w2.frozen? ⟨b6,3,none⟩=false:=Lib.frozen_of_heap q2 3;obtain ⟨rfl,rfl⟩:=hA.zero h0;replace q2:=Lib.hid q2;replace hA:=Lib.hid hA;have has:=as_errno (er:Nat);go_wp2_with fail
  have e4:=cells_four (set_four (.slice none 0 0) (.int .i64 0) (.int .i64 0) (.int .i64 (er:Nat)) q2.out)
  refine bodyPost_ret (v:=.agg #[.slice none 0 0,.int .i64 0,.int .i64 0,.int .i64 (er:Nat)]) (by simp [results,Tryz.results19,go_sem,e4]) rfl ?_
  exact ⟨[],C.zero,er,none,0,hA.out,rfl,fun h=>absurd h (by simp),fun ad e=>(nomatch e),((((bel_trans HW hb2).setCell (p:=⟨b6,0,none⟩) hle _).setCell (p:=⟨b6,1,none⟩) hle _).setCell (p:=⟨b6,2,none⟩) hle _).setCell (p:=⟨b6,3,none⟩) hle _⟩
 ·subst h0
  obtain ⟨l1,l2,_⟩:=hA.len hG.out.1 rfl;have hwo:=hA.wout hG.out.1 rfl;have hG2:=hG.out.below (bel_trans HW hb2) hG.out.lt;replace ks0:=bel_cell hb2 ks0;obtain ⟨n,hn⟩:∃z,Wy.length=z:=⟨_,rfl⟩
  rw [hn] at hwo hI ⊢
  have cF:=Lib.hid (floodWalk w2 pg g v A n m _ hG2 hI (by omega))
  rw [hwo] at cF;have q2:=(hb2.block b6 hW6).trans q6.out;replace q2:=Lib.hid q2;replace hA:=Lib.hid hA;replace hI:=Lib.hid hI;replace hf:=Lib.hid hf;replace hn:=Lib.hid hn;have hle2:=Nat.lt_of_lt_of_le hW6 hb2.size;have HB2:=Lib.hid (bel_trans HW hb2);clear hwo hG2 l1 l2 hb2 cW;obtain ⟨cs,cd⟩:=c;go_wp2_with fail;refine cF.out.mono ?_;rintro e w3 ⟨rfl,hb3⟩
  rw [show costWE (⟨cs,cd⟩,0)=.tuple #[.agg #[.int .i64 cs,.int .i64 cd],.nilIface] from rfl]
  go_upto_region 6 with (fail)
  refine wp_name ?_;intro W4 hW4
  have hb4:Below w3.heap.size w3 W4:=by rw [hW4];(repeat' (first | exact Below.refl _ _ | assumption | apply bel_drewN | apply bel_drew | apply bel_alloc | (refine bel_trans ?_ (by assumption))))
  have c0:W4.cell? ⟨w3.heap.size,0,none⟩=some (.int .i64 cs):=by rw [hW4];go_simp
  have c1:W4.cell? ⟨w3.heap.size,1,none⟩=some (.int .i64 cd):=by rw [hW4];go_simp
  have h34:=bel_trans hb3 hb4;have q4:=(h34.block b6 hle2).trans q2.out;obtain ⟨z0,z1,z2,z3⟩:=cells_four q4;have f0:W4.frozen? ⟨b6,0,none⟩=false:=Lib.frozen_of_heap q4 0;have f1:W4.frozen? ⟨b6,1,none⟩=false:=Lib.frozen_of_heap q4 1;have f2:W4.frozen? ⟨b6,2,none⟩=false:=Lib.frozen_of_heap q4 2;have f3:W4.frozen? ⟨b6,3,none⟩=false:=Lib.frozen_of_heap q4 3;replace q4:=Lib.hid q4;clear hW4;go_wp2_with fail
  have e4:=cells_four (set_four (.slice A n m) (.int .i64 cs) (.int .i64 cd) (.int .i64 0) q4.out)
  refine bodyPost_ret (v:=.agg #[.slice A n m,.int .i64 cs,.int .i64 cd,.int .i64 0]) (by simp [results,Tryz.results19,go_sem,e4]) rfl ?_
  have HB:=(((((bel_trans HB2.out h34).setCell (p:=⟨b6,0,none⟩) hle (.slice A n m)).setCell (p:=⟨b6,1,none⟩) hle (.int .i64 cs)).setCell (p:=⟨b6,2,none⟩) hle (.int .i64 cd)).setCell (p:=⟨b6,3,none⟩) hle (.int .i64 0))
  refine ⟨Wy,⟨cs,cd⟩,0,A,m,hA.out,by rw [hn.out];rfl,?_,fun ad e=>by have:=hf.out ad e;have:=HW.size;omega,HB⟩
  have hI4:=hI.out.below h34;rw [hn.out]
  refine hI4.kept0 (((((Kept.refl [b6] W4).setCell (p:=⟨b6,0,none⟩) (.inl (by simp))).setCell (p:=⟨b6,1,none⟩) (.inl (by simp))).setCell (p:=⟨b6,2,none⟩) (.inl (by simp))).setCell (p:=⟨b6,3,none⟩) (.inl (by simp))) (fun _ ad e=>?_)
  have:=hf.out ad e;simp;omega
end Go.Proofs.YtkdndoefgnfbnaaGreatDoor
