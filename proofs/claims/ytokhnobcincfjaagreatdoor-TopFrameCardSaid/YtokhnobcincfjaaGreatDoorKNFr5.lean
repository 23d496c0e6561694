/- Lemmas of this claim: Clear, ShRev. -/
import Derived.Test.YtokhnobcincfjaaGreatDoorKNFr4
import Derived.Test.YtokhnobcincfjaaGreatDoorKNFr1
import Derived.Deep.DeepCutAuto
import Derived.Shelf.Slices.Reverse
import Derived.Test.YtokhnobcincfjaaGreatDoorProg
set_option linter.unusedVariables false
set_option linter.unusedSimpArgs false
set_option maxHeartbeats 1600000
namespace Go.Proofs.YtokhnobcincfjaaGreatDoor
open Go.RowKit Go.Sort FR
def tcell (p:Nat) (f:Nat→Nat→Int) (k:Nat):Value:=if k=0 then .pointer (some ⟨p,0,none⟩) else .int .i64 (f ((k-1) / 8) ((k-1) % 8))
def TabAt (w:World) (t p:Nat) (f:Nat→Nat→Int):Prop:=w.heap[t]? = some (.cells (rowOf (tcell p f) 2049) 198 (0,0))
theorem TabAt.lt {w:World} {t p:Nat} {f:Nat→Nat→Int} (h:TabAt w t p f):t<w.heap.size:=(Array.getElem?_eq_some_iff.1 h).1
theorem TabAt.below {w w':World} {t p B:Nat} {f:Nat→Nat→Int} (h:TabAt w t p f) (hb:Below B w w') (ht:t<B):TabAt w' t p f:=(hb.block t ht).trans h
theorem TabAt.kept {S:List Nat} {w w':World} {t p:Nat} {f:Nat→Nat→Int} (h:TabAt w t p f) (hk:Kept S w w') (ht:t∉S):TabAt w' t p f:=(hk.block t h.lt ht).trans h
theorem TabAt.cell {w:World} {t p:Nat} {f:Nat→Nat→Int} (h:TabAt w t p f) (k:Nat) (hk:k<2049):w.cell? ⟨t,k,none⟩=some (tcell p f k):=by
 unfold TabAt at h;simp [World.cell?,h,rowOf_get _ _ _ hk]
theorem TabAt.ptr {w:World} {t p:Nat} {f:Nat→Nat→Int} (h:TabAt w t p f):w.cell? ⟨t,0,none⟩=some (.pointer (some ⟨p,0,none⟩)):=h.cell 0 (by decide)
theorem tcell_at (p:Nat) (f:Nat→Nat→Int) {c d:Nat} (hd:d<8):tcell p f (1+c*8+d)=.int .i64 (f c d):=by
 unfold tcell
 rw [if_neg (by omega),show (1+c*8+d-1) / 8=c by omega,show (1+c*8+d-1) % 8=d by omega]
theorem TabAt.val {w:World} {t p:Nat} {f:Nat→Nat→Int} (h:TabAt w t p f) {c d:Nat} (hc:c<256) (hd:d<8):w.cell? ⟨t,1+c*8+d,none⟩=some (.int .i64 (f c d)):=by
 rw [h.cell _ (by omega),tcell_at p f hd]
theorem TabAt.frozen {w:World} {t p:Nat} {f:Nat→Nat→Int} (h:TabAt w t p f) (k:Nat):w.frozen? ⟨t,k,none⟩=false:=by
 unfold TabAt at h;simp [World.frozen?,h]
def fset (f:Nat→Nat→Int) (c d:Nat) (z:Int):Nat→Nat→Int:=fun c' d'=>if c'=c∧d'=d then z else f c' d'
theorem TabAt.set {w:World} {t p:Nat} {f:Nat→Nat→Int} (h:TabAt w t p f) {c d:Nat} (hc:c<256) (hd:d<8) (z:Int):TabAt (w.setCell ⟨t,1+c*8+d,none⟩ (.int .i64 z)) t p (fset f c d z):=by
 unfold TabAt at h ⊢
 rw [set_heap1 _ _ _ _ _ _ h,row_set (tcell p f) (tcell p (fset f c d z)) 2049 (1+c*8+d) _ (by rw [tcell_at p _ hd];unfold fset;rw [if_pos ⟨rfl,rfl⟩])]
 intro i hi;unfold tcell fset
 by_cases h3:i=0
 ·rw [if_pos h3,if_pos h3]
 ·rw [if_neg h3,if_neg h3,if_neg (by omega)]
theorem May_eq2 (w : World) (p : Nat) (g : G) (v x y : Int) (d : Nat) (t : Bool) (h : GridAt w p g v) (hd : d < 8) (hx : inP x) (hy : inP y) (e : g.may x y d = t) :
    Calls Tryz.prog 153 #[.pointer (some ⟨p,0,none⟩),.int .i64 x,.int .i64 y,.int .i64 (d:Nat)] w fun e w'=>e=.returned (.bool t)∧Below w.heap.size w w':=by
 rw [←e];exact gridMay w p g v x y d h hd hx hy
def clrC (g:G) (c d:Nat):Int:=(G.clr g d (g.X c:Nat) (g.Y c:Nat):Nat)
theorem tabCount (w : World) (t p : Nat) (f : Nat → Nat → Int) (g : G) (v : Int) (c d : Nat) (hT : TabAt w t p f) (hG : GridAt w p g v) (htp : t ≠ p) (hc : c < g.n) (hd : d < 8) :
    Calls Tryz.prog 135 #[.pointer (some ⟨t,0,none⟩),.int .i64 (c:Nat),.int .i64 (d:Nat)] w fun e w'=>e=.returned (.tuple #[])∧TabAt w' t p (fset f c d (clrC g c d))∧GridAt w' p g v∧Kept [t] w w':=by
 have hn:=G.n_le hG.1;have hok:=hG.1
 have hX:(g.X c:Int)<16:=by have:=G.X_lt hG.1 c;have:=hG.1.2.1;omega
 have hY:(g.Y c:Int)<16:=by have:=G.Y_lt hc;have:=hG.1.2.2.2;omega
 have htl:=Lib.hid hT.lt;have hpl:=Lib.hid hG.lt;have k0:=hT.ptr;obtain ⟨b1,b2,b3,b4⟩:=dN_abs d;have hst:=Lib.hid (step_one d hd)
 have hmm:=Lib.hid (fun (x y:Int)=>(rfl:g.may x y d=g.may x y d))
 obtain ⟨dx,hdx⟩:∃z,dxN d=z:=⟨_,rfl⟩;obtain ⟨dy,hdy⟩:∃z,dyN d=z:=⟨_,rfl⟩;rw [hdx] at b1 b2;rw [hdy] at b3 b4
 have hst':∀w,Calls Tryz.prog 154 #[.int .i64 (d:Nat)] w fun e w'=>e=.returned (.tuple #[.int .i64 dx,.int .i64 dy])∧Below w.heap.size w w':=by
  rw [←hdx,←hdy];exact hst.out
 have hst':=Lib.hid hst';have Hdx:=Lib.hid hdx;have Hdy:=Lib.hid hdy;clear hdx hdy hst hmm;go_enter Tryz.func135,Tryz.ntmps135;go_wp2_with fail
 (with_reducible refine (gridPlace_in _ p g v c hG hc).mono ?_)
 rintro e w1 ⟨rfl,hb1⟩;go_wp2_with fail
 (with_reducible refine (hst'.out _).mono ?_)
 rintro e w2 ⟨rfl,hb2⟩;have HB2:=bel_trans hb1 hb2;clear hb1 hb2 k0;go_wp2_with fail
 go_loopw [6,7,11] (fun x y i wr=>∃(k:Nat) (u z:Int),i=.int .i64 k∧x=.int .i64 u∧y=.int .i64 z∧u=(g.X c:Nat)+k*dx∧z=(g.Y c:Nat)+k*dy∧G.run g d (g.X c:Nat) (g.Y c:Nat) k∧Below w.heap.size w wr) (fun _ _ i _=>20-(intOf i).toNat)
 case atStart=>exact ⟨0,_,_,rfl,rfl,rfl,by simp,by simp,G.run_zero _ _ _ _,HB2⟩
 case round=>
  obtain ⟨k,u,z,rfl,rfl,rfl,hu,hz,hr,HB⟩:=hrel;have hk:=G.run_bd hok hr
  have hu1:-40≤u∧u≤40:=by
   rcases (show dx = -1∨dx=0∨dx=1 by omega) with e | e | e <;> rw [e] at hu <;> omega
  have hz1:-40≤z∧z≤40:=by
   rcases (show dy = -1∨dy=0∨dy=1 by omega) with e | e | e <;> rw [e] at hz <;> omega
  obtain ⟨u1,u2⟩:=hu1;obtain ⟨z1,z2⟩:=hz1;have hT2:=hT.below HB htl.out;have k0:=hT2.ptr;have hr':=Lib.hid hr;have Hu:=Lib.hid hu;have Hz:=Lib.hid hz;clear hr hu hz;go_wp2_with fail
  cases hm:g.may u z d with
  | true=>
   (with_reducible refine (May_eq2 _ p g v u z d true (hG.below HB hpl.out) hd (by unfold inP;omega) (by unfold inP;omega) hm).mono ?_)
   rintro e w3 ⟨rfl,hb3⟩;have HB3:=bel_trans HB hb3;have hm':=Lib.hid hm;clear hb3 hm k0;go_wp2;go_roundw
   case rel=>exact ⟨k+1,_,_,by go_num,rfl,rfl,by have:=Hu.out;rw [Int.natCast_add,Int.add_mul];omega,by have:=Hz.out;rw [Int.natCast_add,Int.add_mul];omega,G.run_succ hr'.out (by rw [Hdx.out,Hdy.out,←Hu.out,←Hz.out];exact hm'.out),HB3⟩
   case measure=>simp [intOf];omega
  | false=>
   (with_reducible refine (May_eq2 _ p g v u z d false (hG.below HB hpl.out) hd (by unfold inP;omega) (by unfold inP;omega) hm).mono ?_)
   rintro e w3 ⟨rfl,hb3⟩;have HB3:=bel_trans HB hb3;have hT3:=hT.below HB3 htl.out;have hG3:=hG.below HB3 hpl.out
   have e:(k:Int)=clrC g c d:=by
    unfold clrC
    rw [G.clr_eq hok hr'.out (by rw [Hdx.out,Hdy.out,←Hu.out,←Hz.out];exact hm)]
   have he:=Lib.hid e;clear hb3 hm k0 e
   have kv:=hT3.val (c:=c) (d:=d) (by omega) hd
   have kf:=hT3.frozen (1+c*8+d)
   have q1:(c:Int)<256:=by omega
   have q2:(d:Int)<8:=by omega
   go_wp2;go_end0;refine ⟨rfl,?_,?_,?_⟩
   ·rw [←he.out];exact hT3.set (by omega) hd _
   ·exact hG3.kept (S:=[t]) ((Kept.refl _ _).setCell (.inl (by simp))) (by simp;omega)
   ·exact (Kept.of_below HB3).setCell (.inl (by simp))
end Go.Proofs.YtokhnobcincfjaaGreatDoor
namespace Go.Proofs
open Go.Shelf
def Tryz.lays112_ren:Go.Shelf.Ren:=⟨fun | 112=>200 | n=>n,fun | 28=>22 | 3=>3 | 4=>4 | 0=>0 | n=>n,fun | n=>n⟩
theorem Tryz.lays112:Go.Proofs.Lays.n112 Tryz.prog Tryz.lays112_ren:={
 mixed:=by kernel_rfl
 f112:=Tryz.func200.trans (congrArg some (by kernel_rfl))
 t0:=Tryz.underlying0
 a0:=Tryz.isAgg0
 z0:=Tryz.sizeOf0
 v0:=Tryz.zeroValue0
 t3:=Tryz.underlying3
 a3:=Tryz.isAgg3
 z3:=Tryz.sizeOf3
 v3:=Tryz.zeroValue3
 t4:=Tryz.underlying4
 a4:=Tryz.isAgg4
 z4:=Tryz.sizeOf4
 v4:=Tryz.zeroValue4
 t28:=Tryz.underlying22
 a28:=Tryz.isAgg22
 z28:=Tryz.sizeOf22
 v28:=Tryz.zeroValue22 }
open Go.RowKit Go.Lib Go.Sort in
theorem Tryz.slices_Reverse_int (blk off cap : Nat) (zs : List Int) (w : World) (hH : Holds (Value.int .i64) w blk off zs.toArray) (hsz : zs.length ≤ 9223372036854775807) :
    Calls Tryz.prog 200 #[.slice (some ⟨blk,off,none⟩) zs.length cap] w fun e w'=>e=.returned (.tuple #[])∧∃n,w'=putRow (Value.int .i64) (Sort.ahead w n) blk off zs.reverse.toArray:=Any.slices_Reverse_int Tryz.lays112 blk off cap zs w hH hsz
open Go.RowKit Go.Lib Go.Sort in
theorem Tryz.slices_Reverse_int_empty (a : Option Addr) (cap : Nat) (w : World) :
    Calls Tryz.prog 200 #[.slice a 0 cap] w fun e w'=>e=.returned (.tuple #[])∧w'=w:=Any.slices_Reverse_int_empty Tryz.lays112 a cap w
end Go.Proofs
