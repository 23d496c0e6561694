/- Lemmas of this claim: Clear, ShRev. -/
import Derived.Test.YtokhnobcincfjaaGreatDoorKNEd4
import Derived.Deep.DeepCutAuto
import Derived.Shelf.Slices.Reverse
set_option linter.unusedVariables false
set_option linter.unusedSimpArgs false
set_option maxHeartbeats 1600000
namespace Go.Proofs.YtokhnobcincfjaaGreatDoor
open Go.Lib (hid)
open Go.RowKit Go.Sort FR
variable {c d p t:Nat}{f:Nat->Nat->Int}{w:World}
def tJ(p:Nat)(f:Nat->Nat->Int)(k:Nat):Value:=if k=0 then .pointer (some ⟨p,0,none⟩)else .int .i64 (f ((k-1)/8) ((k-1)%8))
def TabAt(w:World)(t p:Nat)(f:Nat->Nat->Int):Prop:=w.heap[t]? =some (.cells (rowOf (tJ p f) 2049) 198 (0,0))
theorem TabAt.lt(h:TabAt w t p f):t<w.heap.size:=(Array.getElem?_eq_some_iff.1 h).1
theorem TabAt.below{w w':World}{t p B:Nat}(h:TabAt w t p f)(g:Below B w w')(k:t<B):TabAt w' t p f:=(g.block t k).trans h
theorem TabAt.kept{S:List Nat}{w w':World}(h:TabAt w t p f)(g:Kept S w w')(k:t∉S):TabAt w' t p f:=(g.block t h.lt k).trans h
theorem TabAt.cell(h:TabAt w t p f)(k:Nat)(g:k<2049):w.cell? ⟨t,k,none⟩=some (tJ p f k):=by
 unfold TabAt at h;simp[World.cell?,h,bM _ _ _ g]
theorem TabAt.ptr(h:TabAt w t p f):w.cell? ⟨t,0,none⟩=some (.pointer (some ⟨p,0,none⟩)):=h.cell 0 (by decide)
theorem CJ(p:Nat)(f:Nat->Nat->Int)(g:d<8):tJ p f (1+c*8+d)=.int .i64 (f c d):=by
 unfold tJ;rw[if_neg (by omega),show(1+c*8+d-1)/8=c by omega,show(1+c*8+d-1)%8=d by omega]
theorem TabAt.val(h:TabAt w t p f)(k:c<256)(g:d<8):w.cell? ⟨t,1+c*8+d,none⟩=some (.int .i64 (f c d)):=by
 rw[h.cell _ (by omega),CJ p f g]
theorem TabAt.frozen(h:TabAt w t p f)(k:Nat):w.frozen? ⟨t,k,none⟩=false:=by
 unfold TabAt at h;simp[World.frozen?,h]
def xq(f:Nat->Nat->Int)(c d:Nat)(z:Int):Nat->Nat->Int:=λc' d'=>if c'=c/\d'=d then z else f c' d'
theorem TabAt.set(h:TabAt w t p f)(u:c<256)(k:d<8)(z:Int):TabAt (w.setCell ⟨t,1+c*8+d,none⟩ (.int .i64 z)) t p (xq f c d z):=by
 unfold TabAt at h⊢;rw[aH _ _ _ _ _ _ h,nO (tJ p f) (tJ p (xq f c d z)) 2049 (1+c*8+d) _ (by rw[CJ p _ k];unfold xq;rw[if_pos ⟨rfl,rfl⟩])];intro i B;unfold tJ xq;by_cases g:i=0
 .rw[if_pos g,if_pos g]
 .rw[if_neg g,if_neg g,if_neg (by omega)]
theorem EX(w:World)(p:Nat)(g:G)(v x y:Int)(d:Nat)(t:Bool)(h:az w p g v)(k:d<8)(u:wW x)(z:wW y)(e:g.may x y d=t):Calls Tryz.prog 153 #[.pointer (some ⟨p,0,none⟩),.int .i64 x,.int .i64 y,.int .i64 (d:Nat)] w λe B=>e=.returned (.bool t)/\Below w.heap.size w B:=by
 rw[<-e];exact zn w p g v x y d h k u z
def j5(g:G)(c d:Nat):Int:=(G.Fu g d (g.X c:Nat) (g.Y c:Nat):Nat)
theorem CF(w:World)(t p:Nat)(f:Nat->Nat->Int)(g:G)(v:Int)(c d:Nat)(hT:TabAt w t p f)(J:az w p g v)(ax:t≠p)(hc:c<g.n)(hd:d<8):Calls Tryz.prog 135 #[.pointer (some ⟨t,0,none⟩),.int .i64 (c:Nat),.int .i64 (d:Nat)] w λe w'=>e=.returned (.tuple #[])/\TabAt w' t p (xq f c d (j5 g c d))/\az w' p g v/\Kept [t] w w':=by
 have hn:=G.bR J.1;have ad:=J.1;have hX:(g.X c:Int)<16:=by have:=G.jw J.1 c;have:=J.1.2.1;omega
 have hY:(g.Y c:Int)<16:=by have:=G.iM hc;have:=J.1.2.2.2;omega
 have al:=hid hT.lt;have P:=hid J.lt;have k0:=hT.ptr;obtain⟨b1,b2,b3,b4⟩:=iY d;have ai:=hid (iC d hd);have aq:=hid (λ(x y:Int)=>(rfl:g.may x y d=g.may x y d));obtain⟨Z,L⟩:∃z,bu d=z:=⟨_,rfl⟩;obtain⟨dy,M⟩:∃z,aZ d=z:=⟨_,rfl⟩;rw[L]at b1 b2;rw[M]at b3 b4
 have I:∀w,Calls Tryz.prog 154 #[.int .i64 (d:Nat)] w λe w'=>e=.returned (.tuple #[.int .i64 Z,.int .i64 dy])/\Below w.heap.size w w':=by
  rw[<-L,<-M];exact ai.out
 have I:=hid I;have T:=hid L;have U:=hid M;clear L M ai aq;go_enter Tryz.func135,Tryz.ntmps135;go_wp2_with fail;(with_reducible refine(aU _ p g v c J hc).mono ?_);rintro e w1 ⟨rfl,ab⟩;go_wp2_with fail;(with_reducible refine(I.out _).mono ?_);rintro e w2 ⟨rfl,ac⟩;have am:=aa ab ac;clear ab ac k0;go_wp2_with fail;go_loopw [6,7,11] (λx y i wr=>∃(k:Nat)(u z:Int),i=.int .i64 k/\x=.int .i64 u/\y=.int .i64 z/\u=(g.X c:Nat)+k*Z/\z=(g.Y c:Nat)+k*dy/\G.run g d (g.X c:Nat) (g.Y c:Nat) k/\Below w.heap.size w wr) (λ_ _ i _=>20-(intOf i).toNat)
 case atStart=>exact⟨0,_,_,rfl,rfl,rfl,by simp,by simp,G.Cu _ _ _ _,am⟩
 case round=>
  obtain⟨k,u,z,rfl,rfl,rfl,hu,hz,hr,R⟩:=hrel;have hk:=G.vW ad hr
  have ar:-40<=u/\u<=40:=by
   rcases(show Z= -1\/Z=0\/Z=1 by omega)with e|e|e<;>rw[e]at hu<;>omega
  have aw:-40<=z/\z<=40:=by
   rcases(show dy= -1\/dy=0\/dy=1 by omega)with e|e|e<;>rw[e]at hz<;>omega
  obtain⟨u1,u2⟩:=ar;obtain⟨z1,z2⟩:=aw;have ao:=hT.below R al.out;have k0:=ao.ptr;have ag:=hid hr;have Hu:=hid hu;have Hz:=hid hz;clear hr hu hz;go_wp2_with fail;cases Q:g.may u z d with
  |true=>
   (with_reducible refine(EX _ p g v u z d true (J.below R P.out) hd (by unfold wW;omega) (by unfold wW;omega) Q).mono ?_);rintro e w3 ⟨rfl,F⟩;have B:=aa R F;have ap:=hid Q;clear F Q k0;go_wp2;go_roundw
   case rel=>exact⟨k+1,_,_,by go_num,rfl,rfl,by have:=Hu.out;rw[Int.natCast_add,Int.add_mul];omega,by have:=Hz.out;rw[Int.natCast_add,Int.add_mul];omega,G.Ct ag.out (by rw[T.out,U.out,<-Hu.out,<-Hz.out];exact ap.out),B⟩
   case measure=>simp[intOf];omega
  |false=>
   (with_reducible refine(EX _ p g v u z d false (J.below R P.out) hd (by unfold wW;omega) (by unfold wW;omega) Q).mono ?_);rintro e w3 ⟨rfl,F⟩;have B:=aa R F;have O:=hT.below B al.out;have an:=J.below B P.out
   have e:(k:Int)=j5 g c d:=by
    unfold j5;rw[G.Kv ad ag.out (by rw[T.out,U.out,<-Hu.out,<-Hz.out];exact Q)]
   have he:=hid e;clear F Q k0 e;have kv:=O.val (c:=c) (d:=d) (by omega) hd;have kf:=O.frozen (1+c*8+d);have q1:(c:Int)<256:=by omega
   have q2:(d:Int)<8:=by omega
   go_wp2;go_end0;refine⟨rfl,?_,?_,?_⟩
   .rw[<-he.out];exact O.set (by omega) hd _
   .exact an.kept (S:=[t]) ((Kept.refl _ _).setCell (.inl (by simp))) (by simp;omega)
   .exact(Kept.of_below B).setCell (.inl (by simp))
end Go.Proofs.YtokhnobcincfjaaGreatDoor
namespace Go.Proofs
open Go.Lib (hid)
open Go.Shelf
def Tryz.lays112_ren:Go.Shelf.Ren:=⟨λ|112=>200|n=>n,λ|28=>22|3=>3|4=>4|0=>0|n=>n,λ|n=>n⟩
theorem Tryz.lays112:Go.Proofs.Lays.n112 Tryz.prog Tryz.lays112_ren:={
 mixed:=by kernel_rfl
 f112:=Tryz.func200.trans (congrArg some (by kernel_rfl))
 t0:=Tryz.underlying0
 a0:=Tryz.isAgg0
 z0:=Tryz.sizeOf0
 v0:=Tryz.zeroValue0
 t3:=Tryz.underlying3
 a3:=Tryz.isAgg3
 z3:=Tryz.sizeOf3
 v3:=Tryz.zeroValue3
 t4:=Tryz.underlying4
 a4:=Tryz.isAgg4
 z4:=Tryz.sizeOf4
 v4:=Tryz.zeroValue4
 t28:=Tryz.underlying22
 a28:=Tryz.isAgg22
 z28:=Tryz.sizeOf22
 v28:=Tryz.zeroValue22}
open Go.RowKit Go.Lib Go.Sort in
theorem Tryz.slices_Reverse_int(g k u:Nat)(z:List Int)(w:World)(F:Holds (Value.int .i64) w g k z.toArray)(B:z.length<=9223372036854775807):Calls Tryz.prog 200 #[.slice (some ⟨g,k,none⟩) z.length u] w λe I=>e=.returned (.tuple #[])/\∃n,I=putRow (Value.int .i64) (Sort.ahead w n) g k z.reverse.toArray:=Any.slices_Reverse_int Tryz.lays112 g k u z w F B
open Go.RowKit Go.Lib Go.Sort in
theorem Tryz.slices_Reverse_int_empty(a:Option Addr)(g:Nat)(w:World):Calls Tryz.prog 200 #[.slice a 0 g] w λe k=>e=.returned (.tuple #[])/\k=w:=Any.slices_Reverse_int_empty Tryz.lays112 a g w
end Go.Proofs
