/- Lemmas of this claim: Corner, Moves, RowSet, RCorner. -/
import Derived.Test.YtkdndoefgnfbnaaGreatDoorKNavC2
import Derived.Test.YtkdndoefgnfbnaaGreatDoorBase
set_option linter.unusedVariables false
set_option linter.unusedSimpArgs false
set_option maxHeartbeats 1600000
namespace Go.Proofs.YtkdndoefgnfbnaaGreatDoor
open Go.RowKit Go.Sort FR
def kd (g:G) (x y u v:Int):Bool:=!g.op (x+u) (y+v) && g.op (x+u) y && g.op x (y+v)
theorem kd_val {g:G} {x y u v:Int} {t1 t2 t3:Bool} (h1:g.op (x+u) (y+v)=t1) (h2:g.op (x+u) y=t2) (h3:g.op x (y+v)=t3):kd g x y u v=(!t1 && t2 && t3):=by unfold kd;rw [h1,h2,h3]
def cornerB (g:G) (c:Nat):Bool:=g.op (g.X c:Nat) (g.Y c:Nat) && (kd g (g.X c:Nat) (g.Y c:Nat) 1 (-1) || kd g (g.X c:Nat) (g.Y c:Nat) 1 1 || kd g (g.X c:Nat) (g.Y c:Nat) (-1) 1 || kd g (g.X c:Nat) (g.Y c:Nat) (-1) (-1))
def noKd (g:G) (x y:Int) (k:Nat):Prop:=∀j,j<k→kd g x y (dxN (2*j+1)) (dyN (2*j+1))=false
theorem noKd_zero (g:G) (x y:Int):noKd g x y 0:=fun j hj=>by omega
theorem noKd_succ {g:G} {x y:Int} {k:Nat} (h:noKd g x y k) (h':kd g x y (dxN (2*k+1)) (dyN (2*k+1))=false):noKd g x y (k+1):=by
 intro j hj
 by_cases e:j=k
 ·subst e;exact h'
 ·exact h j (by omega)
theorem corner_no {g:G} {c:Nat} (h:noKd g (g.X c:Nat) (g.Y c:Nat) 4):cornerB g c=false:=by
 have h0:=h 0 (by omega)
 have h1:=h 1 (by omega)
 have h2:=h 2 (by omega)
 have h3:=h 3 (by omega)
 simp [dxN,dyN] at h0 h1 h2 h3;unfold cornerB;simp [h0,h1,h2,h3]
theorem corner_yes {g:G} {c k:Nat} (hk:k<4) (ho:g.op (g.X c:Nat) (g.Y c:Nat)=true) (h:kd g (g.X c:Nat) (g.Y c:Nat) (dxN (2*k+1)) (dyN (2*k+1))=true):cornerB g c=true:=by
 unfold cornerB
 rcases (show k=0∨k=1∨k=2∨k=3 by omega) with rfl | rfl | rfl | rfl <;> simp [dxN,dyN] at h <;> simp [ho,h]
theorem ret_t2 {a b:Bool} {v:Value} (h:a=b):Ending.returned (.tuple #[.bool a,v])=.returned (.tuple #[.bool b,v]):=by rw [h]
theorem cornerIs_in (w : World) (p : Nat) (g : G) (v : Int) (c : Nat) (h : GridAt w p g v) (hc : c < g.n) :
    Calls Tryz.prog 129 #[.pointer (some ⟨p,0,none⟩),.int .i64 (c:Nat)] w fun e w'=>e=.returned (.tuple #[.bool (cornerB g c),.nilIface])∧Below w.heap.size w w':=by
 have hin:=inPG h.1 hc;have hp:=Lib.hid h.lt;obtain ⟨hx,hy⟩:=hin;unfold inP at hx hy;have hcB:∃t,cornerB g c=t:=⟨_,rfl⟩;obtain ⟨cb,hcb⟩:=hcB;rw [hcb];have Hcb:=Lib.hid hcb;clear hcb;go_enter Tryz.func129,Tryz.ntmps129;go_wp2_with fail;refine (gridPlace_in w p g v c h hc).mono ?_;rintro e w1 ⟨rfl,hb1⟩;have hs1:=hb1.size;go_wp2_with fail
 cases ho:g.op (g.X c:Nat) (g.Y c:Nat) with
 | false=>
  refine (gridOpen_at _ p g v _ _ _ (h.below hb1 hp.out) ho).mono ?_;rintro e w' ⟨rfl,rfl⟩
  have Hc0:cornerB g c=false:=by unfold cornerB;rw [ho];rfl
  obtain rfl:false=cb:=Hc0.symm.trans Hcb.out;clear Hc0 ho;go_wp2;go_ret2;exact ⟨rfl,hb1⟩
 | true=>
  refine (gridOpen_at _ p g v _ _ _ (h.below hb1 hp.out) ho).mono ?_;rintro e w' ⟨rfl,rfl⟩;have Ho:=Lib.hid ho;clear ho;go_wp2_with fail
  go_loopw [9] (fun i wr=>∃k:Nat,k≤4∧i=.int .i64 ((2*k+1:Nat):Int)∧noKd g (g.X c:Nat) (g.Y c:Nat) k∧Below w.heap.size w wr) (fun i _=>9-(intOf i).toNat)
  case atStart=>exact ⟨0,by omega,rfl,noKd_zero _ _ _,hb1⟩
  case round=>
   obtain ⟨k,hk,rfl,hno,HB⟩:=hrel;have Hno:=Lib.hid hno;clear hno
   by_cases hlt:k<4
   ·have hst:=Lib.hid (fun w'=>step_one (2*k+1) (by omega) w')
    obtain ⟨b1,b2,b3,b4⟩:=dN_abs (2*k+1)
    have Hs:=Lib.hid (fun h'=>noKd_succ Hno.out h')
    have Hy:=Lib.hid (fun h'=>corner_yes (g:=g) (c:=c) hlt Ho.out h')
    generalize dxN (2*k+1)=dx at *
    generalize dyN (2*k+1)=dy at *
    obtain ⟨t1,h1⟩:∃t,g.op ((g.X c:Nat)+dx) ((g.Y c:Nat)+dy)=t:=⟨_,rfl⟩;obtain ⟨t2,h2⟩:∃t,g.op ((g.X c:Nat)+dx) (g.Y c:Nat)=t:=⟨_,rfl⟩;obtain ⟨t3,h3⟩:∃t,g.op (g.X c:Nat) ((g.Y c:Nat)+dy)=t:=⟨_,rfl⟩;have Hv:=Lib.hid (kd_val h1 h2 h3)
    have c1:=Lib.hid (fun w' h'=>gridOpen_at w' p g v _ _ _ h' h1)
    have c2:=Lib.hid (fun w' h'=>gridOpen_at w' p g v _ _ _ h' h2)
    have c3:=Lib.hid (fun w' h'=>gridOpen_at w' p g v _ _ _ h' h3)
    clear h1 h2 h3;go_wp2_with fail;refine (hst.out _).mono ?_;rintro e w2 ⟨rfl,hb2⟩;have HB2:=bel_trans HB hb2;have hG:=h.below HB2 hp.out;clear hb2;go_wp2_with fail;refine (c1.out _ hG).mono ?_;rintro e w' ⟨rfl,rfl⟩
    cases t1
    ·go_wp2_with fail
     refine (c2.out _ hG).mono ?_;rintro e w' ⟨rfl,rfl⟩
     cases t2
     ·go_wp2
      go_roundw
      case rel=>exact ⟨k+1,by omega,by go_num,Hs.out Hv.out,HB2⟩
      case measure=>simp [intOf];omega
     ·go_wp2_with fail
      refine (c3.out _ hG).mono ?_;rintro e w' ⟨rfl,rfl⟩
      cases t3
      ·go_wp2
       go_roundw
       case rel=>exact ⟨k+1,by omega,by go_num,Hs.out Hv.out,HB2⟩
       case measure=>simp [intOf];omega
      ·go_wp2
       go_ret2;exact ⟨ret_t2 (Hcb.out.symm.trans (Hy.out Hv.out)).symm,HB2⟩
    ·go_wp2
     go_roundw
     case rel=>exact ⟨k+1,by omega,by go_num,Hs.out Hv.out,HB2⟩
     case measure=>simp [intOf];omega
   ·obtain rfl:k=4:=by omega
    go_wp2;go_ret2;exact ⟨ret_t2 ((corner_no Hno.out).symm.trans Hcb.out),HB⟩
def cornersI (g:G):List Int:=upTo (cornerB g) g.n
theorem dyw_bd {g:G} (h:g.ok) (d:Nat):-16≤dyN d*g.w∧dyN d*g.w≤16:=by
 obtain ⟨h1,h2,_,_⟩:=h;obtain ⟨_,_,b3,b4⟩:=dN_abs d
 rcases (show dyN d = -1∨dyN d=0∨dyN d=1 by omega) with e | e | e <;> rw [e] <;> omega
theorem gridTo (w : World) (p : Nat) (g : G) (v : Int) (c d : Nat) (h : GridAt w p g v) (hc : c < g.n) (hd : d < 8) :
    Calls Tryz.prog 79 #[.pointer (some ⟨p,0,none⟩),.int .i64 (c:Nat),.int .i64 (d:Nat)] w fun e w'=>e=.returned (.int .i64 (g.toI c d))∧Below w.heap.size w w':=by
 obtain ⟨m1,m2⟩:=dyw_bd h.1 d;obtain ⟨b1,b2,b3,b4⟩:=dN_abs d;obtain ⟨o1,o2,o3,o4⟩:=h.1;have hn:=G.n_le h.1
 have e:g.toI c d=(c:Int)+dyN d*g.w+dxN d:=by unfold G.toI;omega
 rw [e];clear e;have hst:=Lib.hid (step_one d hd);have hk:=h.size.1;have hlt:=h.lt;clear h
 generalize dxN d=dx at *
 generalize dyN d=dy at *
 go_enter Tryz.func79,Tryz.ntmps79;go_wp2_with fail
 (with_reducible refine (hst.out _).mono ?_)
 rintro e w1 ⟨rfl,hb1⟩;have hk1:=(hb1.cell (p:=⟨p,0,none⟩) hlt).trans hk;clear hk;go_wp2;go_ret;exact ⟨rfl,hb1⟩
theorem rTo (w : World) (p : Nat) (g : G) (v : Int) (c d : Nat) (h : RGridAt w p g v) (hc : c < g.n) (hd : d < 8) :
    Calls Tryz.prog 23 #[.pointer (some ⟨p,0,none⟩),.int .i64 (c:Nat),.int .i64 (d:Nat)] w fun e w'=>e=.returned (.int .i64 (g.toI c d))∧Below w.heap.size w w':=by
 obtain ⟨m1,m2⟩:=dyw_bd h.1 d;obtain ⟨b1,b2,b3,b4⟩:=dN_abs d;obtain ⟨o1,o2,o3,o4⟩:=h.1;have hn:=G.n_le h.1;have e:g.toI c d=(c:Int)+dxN d+dyN d*g.w:=rfl;rw [e];clear e;have hst:=Lib.hid (rstep_one d hd);have hk:=h.size.1;have hlt:=h.lt;clear h
 generalize dxN d=dx at *
 generalize dyN d=dy at *
 go_enter Tryz.func23,Tryz.ntmps23;go_wp2_with fail
 (with_reducible refine (hst.out _).mono ?_)
 rintro e w1 ⟨rfl,hb1⟩;have hk1:=(hb1.cell (p:=⟨p,0,none⟩) hlt).trans hk;clear hk;go_wp2;go_ret;exact ⟨rfl,hb1⟩
theorem rMay_eq (w : World) (p : Nat) (g : G) (v : Int) (c d : Nat) (x y : Int) (h : RGridAt w p g v) (hd : d < 8) (hin : InPG g c) (ex : x = (g.X c : Nat)) (ey : y = (g.Y c : Nat)) :
    Calls Tryz.prog 24 #[.pointer (some ⟨p,0,none⟩),.int .i64 x,.int .i64 y,.int .i64 (d:Nat)] w fun e w'=>e=.returned (.bool (g.mayC c d))∧Below w.heap.size w w':=by
 subst ex;subst ey;exact rMay w p g v _ _ d h hd hin.1 hin.2
end Go.Proofs.YtkdndoefgnfbnaaGreatDoor
namespace Go.Proofs.YtkdndoefgnfbnaaGreatDoor
open Go.RowKit Go.Sort
theorem set_heap1 (w:World) (p k:Nat) (cs:Array Value) (T:TypeId) (x:Value) (h:w.heap[p]? = some (.cells cs T (0,0))):(w.setCell ⟨p,k,none⟩ x).heap[p]? = some (.cells (cs.setIfInBounds k x) T (0,0)):=by
 simp [World.setCell,Array.getElem?_modify,h]
theorem row_set (f f':Nat→Value) (n k:Nat) (x:Value) (hk:f' k=x) (ho:∀i,i≠k→f' i=f i):(rowOf f n).setIfInBounds k x=rowOf f' n:=by
 apply Array.ext_getElem?
 intro i;rw [Array.getElem?_setIfInBounds]
 by_cases h1:i<n
 ·rw [rowOf_get _ _ _ h1,rowOf_get _ _ _ h1]
  by_cases h2:k=i
  ·subst h2;rw [if_pos rfl,if_pos (by rw [rowOf_size];exact h1),hk]
  ·rw [if_neg h2,ho i (fun e=>h2 e.symm)]
 ·rw [Array.getElem?_eq_none (by rw [rowOf_size];omega),Array.getElem?_eq_none (by rw [rowOf_size];omega)]
  split
  ·rw [if_neg (by rw [rowOf_size];omega)]
  ·rfl
end Go.Proofs.YtkdndoefgnfbnaaGreatDoor
namespace Go.Proofs.YtkdndoefgnfbnaaGreatDoor
open Go.RowKit Go.Sort FR
end Go.Proofs.YtkdndoefgnfbnaaGreatDoor
