/- Lemmas of this claim: Math2, MathFlood, MathWay, MathBF, MathBd. -/
import Derived.Test.YtkdndoefgnfbnaaGreatDoorKNavC1
set_option linter.unusedVariables false
set_option linter.unusedSimpArgs false
set_option maxHeartbeats 1000000
namespace FR
theorem Walk.inv {E:Nat→Nat→C→Prop} {a b:Nat} {c:C} (h:Walk E a b c):(b=a∧c=C.zero)∨∃m d e,Walk E a m d∧E m b e∧c=C.add d e:=by
 cases h with
 | nil=>exact .inl ⟨rfl,rfl⟩
 | snoc h e=>exact .inr ⟨_,_,_,h,e,rfl⟩
theorem Walk.inv' {E:Nat→Nat→C→Prop} {a b:Nat} {c:C} (h:Walk E a b c):(b=a∧c=C.zero)∨∃m d e,E a m e∧Walk E m b d∧c=C.add e d:=by
 induction h with
 | nil=>exact .inl ⟨rfl,rfl⟩
 | snoc h e ih=>
  rcases ih with ⟨rfl,rfl⟩ | ⟨m,d,e',h1,h2,rfl⟩
  ·exact .inr ⟨_,C.zero,_,e,.nil _,by rw [C.zero_add,C.add_zero]⟩
  ·exact .inr ⟨m,_,e',h1,h2.snoc e,by rw [C.add_assoc]⟩
namespace G
theorem dN_cases {d : Nat} (h : d < 8) : (stepC d = ⟨1, 0⟩ ∧ ((dxN d = 1 ∧ dyN d = 0) ∨ (dxN d = -1 ∧ dyN d = 0) ∨ (dxN d = 0 ∧ dyN d = 1) ∨ (dxN d = 0 ∧ dyN d = -1))) ∨
    (stepC d=⟨0,1⟩∧(dxN d=1∨dxN d = -1)∧(dyN d=1∨dyN d = -1)):=by
 have:d=0∨d=1∨d=2∨d=3∨d=4∨d=5∨d=6∨d=7:=by omega
 rcases this with rfl | rfl | rfl | rfl | rfl | rfl | rfl | rfl <;> decide
theorem walk_far {g : G} {a b : Nat} {c : C} (h : Walk g.E a b c) : 0 ≤ c.s ∧ 0 ≤ c.d ∧
    (g.X b:Int)-g.X a≤c.s+c.d∧(g.X a:Int)-g.X b≤c.s+c.d∧(g.Y b:Int)-g.Y a≤c.s+c.d∧(g.Y a:Int)-g.Y b≤c.s+c.d ∧
    (g.X b:Int)-g.X a+((g.Y b:Int)-g.Y a)≤c.s+2*c.d∧(g.X b:Int)-g.X a-((g.Y b:Int)-g.Y a)≤c.s+2*c.d ∧
    (g.X a:Int)-g.X b+((g.Y b:Int)-g.Y a)≤c.s+2*c.d∧(g.X a:Int)-g.X b-((g.Y b:Int)-g.Y a)≤c.s+2*c.d:=by
 induction h with
 | nil=>simp [C.zero]
 | snoc _ e ih=>
  obtain ⟨_,d,hd,hm,rfl,rfl⟩:=e;obtain ⟨_,hx,hy⟩:=mayC_to hm
  rcases dN_cases hd with ⟨e,k⟩ | ⟨e,k1,k2⟩
  ·rw [e];simp only [C.add];omega
  ·rw [e];simp only [C.add];omega
end G
structure Dirs (I J:Nat) (ax ay bx by_:Int):Prop where
 ha:0<I→(ax=1∨ax = -1)∧(ay=1∨ay = -1)
 hb:0<J→(bx=1∧by_=0)∨(bx = -1∧by_=0)∨(bx=0∧by_=1)∨(bx=0∧by_ = -1)
 hab:0<I→0<J→(bx=ax∧by_=0)∨(bx=0∧by_=ay)
theorem Dirs.cases {I J : Nat} {ax ay bx by_ : Int} (h : Dirs I J ax ay bx by_) :
    (I=0∧J=0) ∨
    (I=0∧((bx=1∧by_=0)∨(bx = -1∧by_=0)∨(bx=0∧by_=1)∨(bx=0∧by_ = -1))) ∨
    (J=0∧((ax=1∧ay=1)∨(ax=1∧ay = -1)∨(ax = -1∧ay=1)∨(ax = -1∧ay = -1))) ∨
    ((ax=1∧ay=1∧bx=1∧by_=0)∨(ax=1∧ay = -1∧bx=1∧by_=0)∨(ax = -1∧ay=1∧bx = -1∧by_=0)∨(ax = -1∧ay = -1∧bx = -1∧by_=0) ∨
     (ax=1∧ay=1∧bx=0∧by_=1)∨(ax=1∧ay = -1∧bx=0∧by_ = -1)∨(ax = -1∧ay=1∧bx=0∧by_=1)∨(ax = -1∧ay = -1∧bx=0∧by_ = -1)):=by
 obtain ⟨ha,hb,hab⟩:=h
 by_cases h1:I=0
 ·by_cases h2:J=0
  ·exact .inl ⟨h1,h2⟩
  ·exact .inr (.inl ⟨h1,hb (by omega)⟩)
 ·obtain ⟨h3,h4⟩:=ha (by omega)
  by_cases h2:J=0
  ·refine .inr (.inr (.inl ⟨h2,?_⟩))
   rcases h3 with rfl | rfl <;> rcases h4 with rfl | rfl <;> simp
  ·have h5:=hab (by omega) (by omega)
   refine .inr (.inr (.inr ?_))
   rcases h3 with rfl | rfl <;> rcases h4 with rfl | rfl <;> rcases h5 with ⟨rfl,rfl⟩ | ⟨rfl,rfl⟩ <;> simp
theorem last_step {I J : Nat} {ax ay bx by_ : Int} (H : Dirs I J ax ay bx by_) {i j : Int} (hi0 : 0 ≤ i) (hj0 : 0 ≤ j) (hi : i ≤ I) (hj : j ≤ J) {px py : Int} (hpx : px = i * ax + j * bx) (hpy : py = i * ay + j * by_)
    {sx sy s d:Int} (hst:(s=j-1∧d=i∧((sx=1∧sy=0)∨(sx = -1∧sy=0)∨(sx=0∧sy=1)∨(sx=0∧sy = -1)))∨(s=j∧d=i-1∧(sx=1∨sx = -1)∧(sy=1∨sy = -1)))
    (h0:0≤s) (h1:0≤d) (x1:px-sx≤s+d) (x2:-(px-sx)≤s+d) (y1:py-sy≤s+d) (y2:-(py-sy)≤s+d)
    (z1:px-sx+(py-sy)≤s+2*d) (z2:px-sx-(py-sy)≤s+2*d) (z3:-(px-sx)+(py-sy)≤s+2*d) (z4:-(px-sx)-(py-sy)≤s+2*d) :
    (s=j-1∧d=i∧1≤j∧sx=bx∧sy=by_)∨(s=j∧d=i-1∧1≤i∧sx=ax∧sy=ay):=by
 rcases H.cases with ⟨e1,e2⟩ | ⟨e,h⟩ | ⟨e,h⟩ | h
 ·exfalso;omega
 ·have e3:i=0:=by omega
  subst e3;rw [Int.zero_mul,Int.zero_add] at hpx hpy
  rcases hst with ⟨rfl,rfl,hu⟩ | ⟨rfl,rfl,hu⟩
  ·left
   refine ⟨rfl,rfl,by omega,?_⟩
   rcases h with ⟨rfl,rfl⟩ | ⟨rfl,rfl⟩ | ⟨rfl,rfl⟩ | ⟨rfl,rfl⟩ <;> rcases hu with ⟨rfl,rfl⟩ | ⟨rfl,rfl⟩ | ⟨rfl,rfl⟩ | ⟨rfl,rfl⟩ <;> first | exact ⟨rfl,rfl⟩ | (exfalso;omega)
  ·exfalso;omega
 ·have e3:j=0:=by omega
  subst e3;rw [Int.zero_mul,Int.add_zero] at hpx hpy
  rcases hst with ⟨rfl,rfl,hu⟩ | ⟨rfl,rfl,hu⟩
  ·exfalso;omega
  ·right
   refine ⟨rfl,rfl,by omega,?_⟩
   rcases h with ⟨rfl,rfl⟩ | ⟨rfl,rfl⟩ | ⟨rfl,rfl⟩ | ⟨rfl,rfl⟩ <;> rcases hu with ⟨rfl | rfl,rfl | rfl⟩ <;> first | exact ⟨rfl,rfl⟩ | (exfalso;omega)
 ·rcases hst with ⟨rfl,rfl,hu⟩ | ⟨rfl,rfl,hu⟩
  ·left
   refine ⟨rfl,rfl,by omega,?_⟩
   rcases h with ⟨rfl,rfl,rfl,rfl⟩ | ⟨rfl,rfl,rfl,rfl⟩ | ⟨rfl,rfl,rfl,rfl⟩ | ⟨rfl,rfl,rfl,rfl⟩ | ⟨rfl,rfl,rfl,rfl⟩ | ⟨rfl,rfl,rfl,rfl⟩ | ⟨rfl,rfl,rfl,rfl⟩ | ⟨rfl,rfl,rfl,rfl⟩ <;>
    rcases hu with ⟨rfl,rfl⟩ | ⟨rfl,rfl⟩ | ⟨rfl,rfl⟩ | ⟨rfl,rfl⟩ <;> first | exact ⟨rfl,rfl⟩ | (exfalso;omega)
  ·right
   refine ⟨rfl,rfl,by omega,?_⟩
   rcases h with ⟨rfl,rfl,rfl,rfl⟩ | ⟨rfl,rfl,rfl,rfl⟩ | ⟨rfl,rfl,rfl,rfl⟩ | ⟨rfl,rfl,rfl,rfl⟩ | ⟨rfl,rfl,rfl,rfl⟩ | ⟨rfl,rfl,rfl,rfl⟩ | ⟨rfl,rfl,rfl,rfl⟩ | ⟨rfl,rfl,rfl,rfl⟩ <;>
    rcases hu with ⟨rfl | rfl,rfl | rfl⟩ <;> first | exact ⟨rfl,rfl⟩ | (exfalso;omega)
theorem mid_place {I J : Nat} {ax ay bx by_ : Int} (H : Dirs I J ax ay bx by_) {px py : Int} {s d u v : Int} (hs : s + u = J) (hd : d + v = I) (h0 : 0 ≤ s) (h1 : 0 ≤ d) (h2 : 0 ≤ u) (h3 : 0 ≤ v)
    {tx ty:Int} (htx:tx=I*ax+J*bx) (hty:ty=I*ay+J*by_)
    (x1:px≤s+d) (x2:-px≤s+d) (y1:py≤s+d) (y2:-py≤s+d) (z1:px+py≤s+2*d) (z2:px-py≤s+2*d) (z3:-px+py≤s+2*d) (z4:-px-py≤s+2*d)
    (x1':tx-px≤u+v) (x2':-(tx-px)≤u+v) (y1':ty-py≤u+v) (y2':-(ty-py)≤u+v)
    (z1':tx-px+(ty-py)≤u+2*v) (z2':tx-px-(ty-py)≤u+2*v) (z3':-(tx-px)+(ty-py)≤u+2*v) (z4':-(tx-px)-(ty-py)≤u+2*v) :
    px=d*ax+s*bx∧py=d*ay+s*by_:=by
 rcases H.cases with ⟨e1,e2⟩ | ⟨e,h⟩ | ⟨e,h⟩ | h
 ·have e3:d=0:=by omega
  have e4:s=0:=by omega
  subst e3;subst e4;simp only [Int.zero_mul];omega
 ·have e3:d=0:=by omega
  subst e3;subst e
  rcases h with ⟨rfl,rfl⟩ | ⟨rfl,rfl⟩ | ⟨rfl,rfl⟩ | ⟨rfl,rfl⟩ <;> simp only [Int.zero_mul] at * <;> omega
 ·have e3:s=0:=by omega
  subst e3;subst e
  rcases h with ⟨rfl,rfl⟩ | ⟨rfl,rfl⟩ | ⟨rfl,rfl⟩ | ⟨rfl,rfl⟩ <;> simp only [Int.zero_mul] at * <;> omega
 ·rcases h with ⟨rfl,rfl,rfl,rfl⟩ | ⟨rfl,rfl,rfl,rfl⟩ | ⟨rfl,rfl,rfl,rfl⟩ | ⟨rfl,rfl,rfl,rfl⟩ | ⟨rfl,rfl,rfl,rfl⟩ | ⟨rfl,rfl,rfl,rfl⟩ | ⟨rfl,rfl,rfl,rfl⟩ | ⟨rfl,rfl,rfl,rfl⟩ <;> omega
def sgn (n:Int):Int:=if n<0 then -1 else if 0<n then 1 else 0
theorem sgn_cases (n:Int):(n<0∧sgn n = -1)∨(n=0∧sgn n=0)∨(0<n∧sgn n=1):=by
 unfold sgn;split
 ·left;omega
 ·split
  ·right;right;omega
  ·right;left;omega
def dirN (x y:Int):Nat:=
 if x=0∧y = -1 then 0 else if x=1∧y = -1 then 1 else if x=1∧y=0 then 2 else if x=1∧y=1 then 3
 else if x=0∧y=1 then 4 else if x = -1∧y=1 then 5 else if x = -1∧y=0 then 6 else if x = -1∧y = -1 then 7 else 0
theorem dirN_lt (x y : Int) : dirN x y < 8 := by unfold dirN; repeat' split
                                                 all_goals decide
theorem dirN_step {d:Nat} (h:d<8):dirN (dxN d) (dyN d)=d:=by
 have:d=0∨d=1∨d=2∨d=3∨d=4∨d=5∨d=6∨d=7:=by omega
 rcases this with rfl | rfl | rfl | rfl | rfl | rfl | rfl | rfl <;> decide
theorem step_dirN {x y:Int} (hx:x=1∨x = -1) (hy:y=1∨y = -1):dxN (dirN x y)=x∧dyN (dirN x y)=y∧stepC (dirN x y)=⟨0,1⟩:=by
 rcases hx with rfl | rfl <;> rcases hy with rfl | rfl <;> decide
theorem step_dirN' {x y:Int} (h:(x=1∧y=0)∨(x = -1∧y=0)∨(x=0∧y=1)∨(x=0∧y = -1)):dxN (dirN x y)=x∧dyN (dirN x y)=y∧stepC (dirN x y)=⟨1,0⟩:=by
 rcases h with ⟨rfl,rfl⟩ | ⟨rfl,rfl⟩ | ⟨rfl,rfl⟩ | ⟨rfl,rfl⟩ <;> decide
namespace G
variable (g:G) (a b:Nat)
def fdx:Int:=(g.X b:Int)-g.X a
def fdy:Int:=(g.Y b:Int)-g.Y a
def fI:Nat:=min (g.fdx a b).natAbs (g.fdy a b).natAbs
def fJ:Nat:=max (g.fdx a b).natAbs (g.fdy a b).natAbs-min (g.fdx a b).natAbs (g.fdy a b).natAbs
def fax:Int:=sgn (g.fdx a b)
def fay:Int:=sgn (g.fdy a b)
def fbx:Int:=if (g.fdy a b).natAbs≤(g.fdx a b).natAbs then sgn (g.fdx a b) else 0
def fby:Int:=if (g.fdy a b).natAbs≤(g.fdx a b).natAbs then 0 else sgn (g.fdy a b)
def fdg:Nat:=dirN (g.fax a b) (g.fay a b)
def fst_:Nat:=dirN (g.fbx a b) (g.fby a b)
def fx (i j:Nat):Int:=g.X a+i*g.fax a b+j*g.fbx a b
def fy (i j:Nat):Int:=g.Y a+i*g.fay a b+j*g.fby a b
def fcell (i j:Nat):Nat:=g.cell (g.fx a b i j).toNat (g.fy a b i j).toNat
theorem fDirs:Dirs (g.fI a b) (g.fJ a b) (g.fax a b) (g.fay a b) (g.fbx a b) (g.fby a b):=by
 unfold fI fJ fax fay fbx fby;have h1:=sgn_cases (g.fdx a b);have h2:=sgn_cases (g.fdy a b)
 generalize sgn (g.fdx a b)=sx at *;generalize sgn (g.fdy a b)=sy at *
 generalize g.fdx a b=x at *;generalize g.fdy a b=y at *
 refine ⟨fun h=>by omega,fun h=>?_,fun h h'=>?_⟩
 ·split <;> omega
 ·split <;> omega
theorem oct_fIJ:g.oct a b=⟨g.fJ a b,g.fI a b⟩:=by
 unfold oct octI fI fJ
 have e1:((g.X a:Int)-g.X b).natAbs=(g.fdx a b).natAbs:=by unfold fdx;omega
 have e2:((g.Y a:Int)-g.Y b).natAbs=(g.fdy a b).natAbs:=by unfold fdy;omega
 rw [e1,e2]
 split <;> apply C.ext' <;> simp <;> omega
theorem fend:g.fdx a b=g.fI a b*g.fax a b+g.fJ a b*g.fbx a b∧g.fdy a b=g.fI a b*g.fay a b+g.fJ a b*g.fby a b:=by
 unfold fI fJ fax fay fbx fby;have h1:=sgn_cases (g.fdx a b);have h2:=sgn_cases (g.fdy a b)
 generalize sgn (g.fdx a b)=sx at *;generalize sgn (g.fdy a b)=sy at *
 generalize g.fdx a b=x at *;generalize g.fdy a b=y at *
 rcases h1 with ⟨h1,rfl⟩ | ⟨h1,rfl⟩ | ⟨h1,rfl⟩ <;> rcases h2 with ⟨h2,rfl⟩ | ⟨h2,rfl⟩ | ⟨h2,rfl⟩ <;> split <;> omega
variable {g a b}
theorem f_in (hg : g.ok) (hb : b < g.n) (ha : a < g.n) {i j : Nat} (hi : i ≤ g.fI a b) (hj : j ≤ g.fJ a b) :
    0≤g.fx a b i j∧g.fx a b i j<g.w∧0≤g.fy a b i j∧g.fy a b i j<g.h:=by
 have h1:=X_lt hg a;have h2:=X_lt hg b;have h3:=Y_lt ha;have h4:=Y_lt hb;obtain ⟨e1,e2⟩:=g.fend a b;have H:=g.fDirs a b;unfold fx fy;unfold fdx at e1;unfold fdy at e2
 generalize g.fax a b=ax at *;generalize g.fay a b=ay at *;generalize g.fbx a b=bx at *;generalize g.fby a b=by_ at *
 generalize g.fI a b=I at *;generalize g.fJ a b=J at *
 rcases H.cases with ⟨q1,q2⟩ | ⟨e,h⟩ | ⟨e,h⟩ | h
 ·have:i=0:=by omega
  have:j=0:=by omega
  subst i;subst j;simp only [Int.natCast_zero,Int.zero_mul];omega
 ·have:i=0:=by omega
  subst i;subst e
  rcases h with ⟨rfl,rfl⟩ | ⟨rfl,rfl⟩ | ⟨rfl,rfl⟩ | ⟨rfl,rfl⟩ <;> simp only [Int.natCast_zero,Int.zero_mul] at * <;> omega
 ·have:j=0:=by omega
  subst j;subst e
  rcases h with ⟨rfl,rfl⟩ | ⟨rfl,rfl⟩ | ⟨rfl,rfl⟩ | ⟨rfl,rfl⟩ <;> simp only [Int.natCast_zero,Int.zero_mul] at * <;> omega
 ·rcases h with ⟨rfl,rfl,rfl,rfl⟩ | ⟨rfl,rfl,rfl,rfl⟩ | ⟨rfl,rfl,rfl,rfl⟩ | ⟨rfl,rfl,rfl,rfl⟩ | ⟨rfl,rfl,rfl,rfl⟩ | ⟨rfl,rfl,rfl,rfl⟩ | ⟨rfl,rfl,rfl,rfl⟩ | ⟨rfl,rfl,rfl,rfl⟩ <;> omega
theorem fcell_XY (hg : g.ok) (hb : b < g.n) (ha : a < g.n) {i j : Nat} (hi : i ≤ g.fI a b) (hj : j ≤ g.fJ a b) :
    g.fcell a b i j<g.n∧(g.X (g.fcell a b i j):Int)=g.fx a b i j∧(g.Y (g.fcell a b i j):Int)=g.fy a b i j:=by
 obtain ⟨h1,h2,h3,h4⟩:=f_in hg hb ha hi hj;unfold fcell
 rw [X_cell (by omega),Y_cell (by omega)]
 exact ⟨cell_lt (by omega) (by omega),by omega,by omega⟩
theorem eq_fcell (hg:g.ok) (hb:b<g.n) (ha:a<g.n) {i j:Nat} (hi:i≤g.fI a b) (hj:j≤g.fJ a b) {v:Nat} (hx:(g.X v:Int)=g.fx a b i j) (hy:(g.Y v:Int)=g.fy a b i j):v=g.fcell a b i j:=by
 obtain ⟨_,h1,h2⟩:=fcell_XY hg hb ha hi hj;rw [←cell_XY g v,←cell_XY g (g.fcell a b i j)]
 rw [show g.X v=g.X (g.fcell a b i j) by omega,show g.Y v=g.Y (g.fcell a b i j) by omega]
theorem fcell_zero:g.fcell a b 0 0=a:=by
 unfold fcell fx fy;simp;exact cell_XY g a
theorem fcell_end (hg:g.ok) (hb:b<g.n) (ha:a<g.n):g.fcell a b (g.fI a b) (g.fJ a b)=b:=by
 obtain ⟨e1,e2⟩:=g.fend a b;refine (eq_fcell hg hb ha (Nat.le_refl _) (Nat.le_refl _) ?_ ?_).symm
 ·unfold fx;unfold fdx at e1;omega
 ·unfold fy;unfold fdy at e2;omega
def On (g:G) (a b i j:Nat):Prop:=Walk g.E a (g.fcell a b i j) ⟨j,i⟩
def Back (g:G) (a b i j:Nat):Prop:=Walk g.E (g.fcell a b i j) b ⟨(g.fJ a b:Int)-j,(g.fI a b:Int)-i⟩
theorem fdg_step (h:0<g.fI a b):dxN (g.fdg a b)=g.fax a b∧dyN (g.fdg a b)=g.fay a b∧stepC (g.fdg a b)=⟨0,1⟩:=by
 obtain ⟨h1,h2⟩:=(g.fDirs a b).ha h;exact step_dirN h1 h2
theorem fst_step (h:0<g.fJ a b):dxN (g.fst_ a b)=g.fbx a b∧dyN (g.fst_ a b)=g.fby a b∧stepC (g.fst_ a b)=⟨1,0⟩:=
 step_dirN' ((g.fDirs a b).hb h)
theorem fx_succ_i (i j:Nat):g.fx a b (i+1) j=g.fx a b i j+g.fax a b∧g.fy a b (i+1) j=g.fy a b i j+g.fay a b:=by
 unfold fx fy
 rw [show ((i+1:Nat):Int)=i+1 by omega,Int.add_mul,Int.add_mul,Int.one_mul,Int.one_mul];omega
theorem fx_succ_j (i j:Nat):g.fx a b i (j+1)=g.fx a b i j+g.fbx a b∧g.fy a b i (j+1)=g.fy a b i j+g.fby a b:=by
 unfold fx fy
 rw [show ((j+1:Nat):Int)=j+1 by omega,Int.add_mul,Int.add_mul,Int.one_mul,Int.one_mul];omega
theorem edge_i (hg : g.ok) (hb : b < g.n) (ha : a < g.n) {i j : Nat} (hi : i < g.fI a b) (hj : j ≤ g.fJ a b) (hm : g.may (g.fx a b i j) (g.fy a b i j) (g.fdg a b) = true) :
    g.E (g.fcell a b i j) (g.fcell a b (i+1) j) ⟨0,1⟩:=by
 obtain ⟨q1,q2,q3⟩:=fcell_XY hg hb ha (Nat.le_of_lt hi) hj
 obtain ⟨s1,s2,s3⟩:=fdg_step (show 0<g.fI a b by omega)
 have hm':g.mayC (g.fcell a b i j) (g.fdg a b)=true:=by unfold mayC;rw [q2,q3];exact hm
 obtain ⟨_,t1,t2⟩:=mayC_to hm';obtain ⟨u1,u2⟩:=fx_succ_i (g:=g) (a:=a) (b:=b) i j;refine ⟨q1,g.fdg a b,dirN_lt _ _,hm',?_,s3.symm⟩
 exact (eq_fcell hg hb ha (i:=i+1) hi hj (by omega) (by omega)).symm
theorem edge_j (hg : g.ok) (hb : b < g.n) (ha : a < g.n) {i j : Nat} (hi : i ≤ g.fI a b) (hj : j < g.fJ a b) (hm : g.may (g.fx a b i j) (g.fy a b i j) (g.fst_ a b) = true) :
    g.E (g.fcell a b i j) (g.fcell a b i (j+1)) ⟨1,0⟩:=by
 obtain ⟨q1,q2,q3⟩:=fcell_XY hg hb ha hi (Nat.le_of_lt hj)
 obtain ⟨s1,s2,s3⟩:=fst_step (show 0<g.fJ a b by omega)
 have hm':g.mayC (g.fcell a b i j) (g.fst_ a b)=true:=by unfold mayC;rw [q2,q3];exact hm
 obtain ⟨_,t1,t2⟩:=mayC_to hm';obtain ⟨u1,u2⟩:=fx_succ_j (g:=g) (a:=a) (b:=b) i j;refine ⟨q1,g.fst_ a b,dirN_lt _ _,hm',?_,s3.symm⟩
 exact (eq_fcell hg hb ha (j:=j+1) hi hj (by omega) (by omega)).symm
theorem edge_dir {u v d:Nat} (hd:d<8) (hm:g.mayC u d=true) (hv:v=g.to u d) {x y:Int} (hx:(g.X v:Int)=g.X u+x) (hy:(g.Y v:Int)=g.Y u+y):d=dirN x y:=by
 subst hv;obtain ⟨_,t1,t2⟩:=mayC_to hm
 rw [show x=dxN d by omega,show y=dyN d by omega]
 exact (dirN_step hd).symm
theorem on_iff (hg : g.ok) (hb : b < g.n) (ha : a < g.n) {i j : Nat} (hi : i ≤ g.fI a b) (hj : j ≤ g.fJ a b) :
    g.On a b i j↔(i=0∧j=0)∨(∃i',i=i'+1∧g.On a b i' j∧g.may (g.fx a b i' j) (g.fy a b i' j) (g.fdg a b)=true) ∨
     (∃j',j=j'+1∧g.On a b i j'∧g.may (g.fx a b i j') (g.fy a b i j') (g.fst_ a b)=true):=by
 constructor
 ·intro h
  rcases Walk.inv h with ⟨h1,h2⟩ | ⟨m,c,e,h1,h2,h3⟩
  ·left
   have e1:=congrArg C.s h2;have e2:=congrArg C.d h2;simp [C.zero] at e1 e2;exact ⟨e2,e1⟩
  ·right
   have hE:=h2;obtain ⟨hmn,d,hd,hm,hto,rfl⟩:=h2;obtain ⟨f0,f1,x1,x2,y1,y2,z1,z2,z3,z4⟩:=walk_far h1;obtain ⟨_,t1,t2⟩:=mayC_to hm;obtain ⟨q1,q2,q3⟩:=fcell_XY hg hb ha hi hj;have e1:=congrArg C.s h3;have e2:=congrArg C.d h3;simp only [C.add] at e1 e2;rw [←hto,q2] at t1;rw [←hto,q3] at t2
   have p1:g.fx a b i j-g.X a=i*g.fax a b+j*g.fbx a b:=by unfold fx;omega
   have p2:g.fy a b i j-g.Y a=i*g.fay a b+j*g.fby a b:=by unfold fy;omega
   have L:=last_step (g.fDirs a b) (i:=i) (j:=j) (by omega) (by omega) (by omega) (by omega) p1 p2 (sx:=dxN d) (sy:=dyN d) (s:=c.s) (d:=c.d)
    (by rcases dN_cases hd with ⟨k1, k2⟩ | ⟨k1, k2, k3⟩
        ·left;rw [k1] at e1 e2;refine ⟨by simp only at e1;omega,by simp only at e2;omega,k2⟩
        ·right;rw [k1] at e1 e2;refine ⟨by simp only at e1;omega,by simp only at e2;omega,k2,k3⟩)
    f0 f1 (by omega) (by omega) (by omega) (by omega) (by omega) (by omega) (by omega) (by omega)
   rcases L with ⟨l1,l2,l3,l4,l5⟩ | ⟨l1,l2,l3,l4,l5⟩
   ·right
    obtain ⟨j',rfl⟩:∃j',j=j'+1:=⟨j-1,by omega⟩
    obtain ⟨u1,u2⟩:=fx_succ_j (g:=g) (a:=a) (b:=b) i j'
    have hmc:m=g.fcell a b i j':=eq_fcell hg hb ha hi (by omega) (by omega) (by omega)
    have hdir:d=g.fst_ a b:=by unfold fst_;rw [←l4,←l5];exact (dirN_step hd).symm
    refine ⟨j',rfl,?_,?_⟩
    ·unfold On;rw [←hmc]
     have:c=⟨(j':Int),(i:Int)⟩:=C.ext' (by simp only;omega) (by simp only;omega)
     rw [←this];exact h1
    ·rw [←hdir];unfold mayC at hm
     obtain ⟨_,r1,r2⟩:=fcell_XY hg hb ha hi (show j'≤g.fJ a b by omega)
     rw [←hmc] at r1 r2;rw [←r1,←r2];exact hm
   ·left
    obtain ⟨i',rfl⟩:∃i',i=i'+1:=⟨i-1,by omega⟩
    obtain ⟨u1,u2⟩:=fx_succ_i (g:=g) (a:=a) (b:=b) i' j
    have hmc:m=g.fcell a b i' j:=eq_fcell hg hb ha (by omega) hj (by omega) (by omega)
    have hdir:d=g.fdg a b:=by unfold fdg;rw [←l4,←l5];exact (dirN_step hd).symm
    refine ⟨i',rfl,?_,?_⟩
    ·unfold On;rw [←hmc]
     have:c=⟨(j:Int),(i':Int)⟩:=C.ext' (by simp only;omega) (by simp only;omega)
     rw [←this];exact h1
    ·rw [←hdir];unfold mayC at hm
     obtain ⟨_,r1,r2⟩:=fcell_XY hg hb ha (show i'≤g.fI a b by omega) hj
     rw [←hmc] at r1 r2;rw [←r1,←r2];exact hm
 ·rintro (⟨rfl,rfl⟩ | ⟨i',rfl,h1,h2⟩ | ⟨j',rfl,h1,h2⟩)
  ·unfold On;rw [fcell_zero];exact .nil a
  ·have:=Walk.snoc h1 (edge_i hg hb ha (by omega) hj h2)
   unfold On
   have e:C.add ⟨(j:Int),(i':Int)⟩ ⟨0,1⟩=⟨(j:Int),((i'+1:Nat):Int)⟩:=C.ext' (by simp [C.add]) (by simp [C.add])
   rwa [e] at this
  ·have:=Walk.snoc h1 (edge_j hg hb ha hi (by omega) h2)
   unfold On
   have e:C.add ⟨(j':Int),(i:Int)⟩ ⟨1,0⟩=⟨((j'+1:Nat):Int),(i:Int)⟩:=C.ext' (by simp [C.add]) (by simp [C.add])
   rwa [e] at this
variable {g:G} {a b:Nat}
theorem back_iff (hg : g.ok) (hb : b < g.n) (ha : a < g.n) {i j : Nat} (hi : i ≤ g.fI a b) (hj : j ≤ g.fJ a b) :
    g.Back a b i j↔(i=g.fI a b∧j=g.fJ a b)∨(i<g.fI a b∧g.may (g.fx a b i j) (g.fy a b i j) (g.fdg a b)=true∧g.Back a b (i+1) j) ∨
     (j<g.fJ a b∧g.may (g.fx a b i j) (g.fy a b i j) (g.fst_ a b)=true∧g.Back a b i (j+1)):=by
 obtain ⟨q1,q2,q3⟩:=fcell_XY hg hb ha hi hj
 constructor
 ·intro h
  rcases Walk.inv' h with ⟨h1,h2⟩ | ⟨m,c,e,h2,h1,h3⟩
  ·left
   have e1:=congrArg C.s h2;have e2:=congrArg C.d h2;simp [C.zero] at e1 e2;omega
  ·right
   obtain ⟨hmn,d,hd,hm,hto,rfl⟩:=h2;obtain ⟨f0,f1,x1,x2,y1,y2,z1,z2,z3,z4⟩:=walk_far h1;obtain ⟨_,t1,t2⟩:=mayC_to hm;have e1:=congrArg C.s h3;have e2:=congrArg C.d h3;simp only [C.add] at e1 e2;rw [←hto,q2] at t1;rw [←hto,q3] at t2;obtain ⟨d1,d2⟩:=g.fend a b
   have p1:(g.X b:Int)-g.fx a b i j=((g.fI a b:Int)-i)*g.fax a b+((g.fJ a b:Int)-j)*g.fbx a b:=by
    rw [Int.sub_mul,Int.sub_mul];unfold fx;unfold fdx at d1;omega
   have p2:(g.Y b:Int)-g.fy a b i j=((g.fI a b:Int)-i)*g.fay a b+((g.fJ a b:Int)-j)*g.fby a b:=by
    rw [Int.sub_mul,Int.sub_mul];unfold fy;unfold fdy at d2;omega
   have L:=last_step (g.fDirs a b) (i:=(g.fI a b:Int)-i) (j:=(g.fJ a b:Int)-j) (by omega) (by omega) (by omega) (by omega) p1 p2 (sx:=dxN d) (sy:=dyN d) (s:=c.s) (d:=c.d)
    (by rcases dN_cases hd with ⟨k1, k2⟩ | ⟨k1, k2, k3⟩
        ·left;rw [k1] at e1 e2;refine ⟨by simp only at e1;omega,by simp only at e2;omega,k2⟩
        ·right;rw [k1] at e1 e2;refine ⟨by simp only at e1;omega,by simp only at e2;omega,k2,k3⟩)
    f0 f1 (by omega) (by omega) (by omega) (by omega) (by omega) (by omega) (by omega) (by omega)
   rcases L with ⟨l1,l2,l3,l4,l5⟩ | ⟨l1,l2,l3,l4,l5⟩
   ·right
    have hjlt:j<g.fJ a b:=by omega
    obtain ⟨u1,u2⟩:=fx_succ_j (g:=g) (a:=a) (b:=b) i j
    have hmc:m=g.fcell a b i (j+1):=eq_fcell hg hb ha hi (by omega) (by omega) (by omega)
    have hdir:d=g.fst_ a b:=by unfold fst_;rw [←l4,←l5];exact (dirN_step hd).symm
    refine ⟨hjlt,?_,?_⟩
    ·rw [←hdir,←q2,←q3];exact hm
    ·unfold Back;rw [←hmc]
     have:c=⟨(g.fJ a b:Int)-((j+1:Nat):Int),(g.fI a b:Int)-i⟩:=C.ext' (by simp only;omega) (by simp only;omega)
     rw [←this];exact h1
   ·left
    have hilt:i<g.fI a b:=by omega
    obtain ⟨u1,u2⟩:=fx_succ_i (g:=g) (a:=a) (b:=b) i j
    have hmc:m=g.fcell a b (i+1) j:=eq_fcell hg hb ha (by omega) hj (by omega) (by omega)
    have hdir:d=g.fdg a b:=by unfold fdg;rw [←l4,←l5];exact (dirN_step hd).symm
    refine ⟨hilt,?_,?_⟩
    ·rw [←hdir,←q2,←q3];exact hm
    ·unfold Back;rw [←hmc]
     have:c=⟨(g.fJ a b:Int)-j,(g.fI a b:Int)-((i+1:Nat):Int)⟩:=C.ext' (by simp only;omega) (by simp only;omega)
     rw [←this];exact h1
 ·rintro (⟨rfl,rfl⟩ | ⟨h0,h1,h2⟩ | ⟨h0,h1,h2⟩)
  ·unfold Back;rw [fcell_end hg hb ha]
   have:=Walk.nil (E:=g.E) b
   rw [show C.zero=⟨(g.fJ a b:Int)-g.fJ a b,(g.fI a b:Int)-g.fI a b⟩ from C.ext' (by simp [C.zero]) (by simp [C.zero])] at this
   exact this
  ·have:=Walk.cons (edge_i hg hb ha h0 hj h1) h2
   unfold Back
   have e:C.add ⟨0,1⟩ ⟨(g.fJ a b:Int)-j,(g.fI a b:Int)-((i+1:Nat):Int)⟩=⟨(g.fJ a b:Int)-j,(g.fI a b:Int)-i⟩:=C.ext' (by simp [C.add]) (by simp only [C.add];omega)
   rwa [e] at this
  ·have:=Walk.cons (edge_j hg hb ha hi h0 h1) h2
   unfold Back
   have e:C.add ⟨1,0⟩ ⟨(g.fJ a b:Int)-((j+1:Nat):Int),(g.fI a b:Int)-i⟩=⟨(g.fJ a b:Int)-j,(g.fI a b:Int)-i⟩:=C.ext' (by simp only [C.add];omega) (by simp [C.add])
   rwa [e] at this
def Near (g:G) (a b:Nat):Prop:=Walk g.E a b (g.oct a b)
theorem near_dist:g.Near a b↔Dist g.E a b (g.oct a b):=⟨fun h=>⟨h,fun _ k=>oct_le k⟩,fun h=>h.1⟩
theorem near_on (hg:g.ok) (hb:b<g.n) (ha:a<g.n):g.Near a b↔g.On a b (g.fI a b) (g.fJ a b):=by
 unfold Near On;rw [fcell_end hg hb ha,oct_fIJ]
theorem near_back:g.Near a b↔g.Back a b 0 0:=by
 unfold Near Back;rw [fcell_zero,oct_fIJ];simp
theorem mid_iff (hg : g.ok) (hb : b < g.n) (ha : a < g.n) {v : Nat} : (∃ p q, Walk g.E a v p ∧ Walk g.E v b q ∧ C.add p q = g.oct a b) ↔
    ∃i j,i≤g.fI a b∧j≤g.fJ a b∧v=g.fcell a b i j∧g.On a b i j∧g.Back a b i j:=by
 constructor
 ·rintro ⟨p,q,h1,h2,h3⟩
  rw [oct_fIJ] at h3;obtain ⟨f0,f1,x1,x2,y1,y2,z1,z2,z3,z4⟩:=walk_far h1;obtain ⟨f0',f1',x1',x2',y1',y2',z1',z2',z3',z4'⟩:=walk_far h2;have e1:=congrArg C.s h3;have e2:=congrArg C.d h3;simp only [C.add] at e1 e2;obtain ⟨d1,d2⟩:=g.fend a b;have hdx:g.fdx a b=(g.X b:Int)-g.X a:=rfl;have hdy:g.fdy a b=(g.Y b:Int)-g.Y a:=rfl
  obtain ⟨m1,m2⟩:=mid_place (g.fDirs a b) (px:=(g.X v:Int)-g.X a) (py:=(g.Y v:Int)-g.Y a) (s:=p.s) (d:=p.d) (u:=q.s) (v:=q.d) e1 e2 f0 f1 f0' f1' d1 d2
   (by omega) (by omega) (by omega) (by omega) (by omega) (by omega) (by omega) (by omega)
   (by omega) (by omega) (by omega) (by omega) (by omega) (by omega) (by omega) (by omega)
  obtain ⟨i,hi⟩:=Int.eq_ofNat_of_zero_le f1;obtain ⟨j,hj⟩:=Int.eq_ofNat_of_zero_le f0;rw [hi,hj] at m1 m2
  have hv:v=g.fcell a b i j:=eq_fcell hg hb ha (by omega) (by omega) (by unfold fx;omega) (by unfold fy;omega)
  refine ⟨i,j,by omega,by omega,hv,?_,?_⟩
  ·unfold On;rw [←hv,show (⟨(j:Int),(i:Int)⟩:C)=p from C.ext' (by simp only;omega) (by simp only;omega)];exact h1
  ·unfold Back;rw [←hv,show (⟨(g.fJ a b:Int)-j,(g.fI a b:Int)-i⟩:C)=q from C.ext' (by simp only;omega) (by simp only;omega)];exact h2
 ·rintro ⟨i,j,h1,h2,rfl,h3,h4⟩
  refine ⟨_,_,h3,h4,?_⟩;rw [oct_fIJ]
  exact C.ext' (by simp only [C.add];omega) (by simp only [C.add];omega)
theorem near_symm:g.Near a b↔g.Near b a:=by
 have key:∀a b,g.Near a b→g.Near b a:=by
  intro a b h;unfold Near at *;rw [oct_symm];exact Walk.rev (E:=g.E) (fun _ _ _ he=>E_symm he) h
 exact ⟨key a b,key b a⟩
end G
end FR
namespace FR
structure FS (E:Nat→Nat→C→Prop) (fr N:Nat) (done hp:Nat→Option C) (back:Nat→Option Nat) (k:Nat) (pend:Nat→C→Prop):Prop where
 dij:Dij E fr done hp k pend
 frN:fr<N
 rngD:∀j,done j≠none→j<N
 rngH:∀j,hp j≠none→j<N
 b0:∀j,back j=none→(done j=none∧hp j=none)∨j=fr
 b1:∀j a,back j=some a→∃c d e,(done j=some c∨hp j=some c)∧done a=some d∧E a j e∧c=C.add d e
 bfr:back fr=none
 c1:∀j c,done j=some c→C.le c ⟨0,(cntN (fun i=>(done i).isSome) N:Int)-1⟩
 c2:∀j c,hp j=some c→C.le c ⟨0,(cntN (fun i=>(done i).isSome) N:Int)⟩
 last:∀c,done k=some c→∀i d,done i=some d→C.le d c
theorem some_upd (f:Nat→Option C) (t:Nat) (c:C):(fun i=>(upd f t (some c) i).isSome)=upd (fun i=>(f i).isSome) t true:=by
 funext i;unfold upd;split <;> rfl
theorem cnt_done {done:Nat→Option C} {t N:Nat} (ht:t<N) (h:done t=none) (c:C):cntN (fun i=>(upd done t (some c) i).isSome) N=cntN (fun i=>(done i).isSome) N+1:=by
 rw [some_upd];exact cntN_upd ht (by rw [h];rfl)
theorem cnt_hpop {hp:Nat→Option C} {t N:Nat} (ht:t<N) (h:hp t≠none):cntN (fun i=>(hp i).isSome) N=cntN (fun i=>(upd hp t none i).isSome) N+1:=by
 rw [←cntN_upd (p:=fun i=>(upd hp t none i).isSome) ht (by simp [upd_same])]
 apply sumN_congr
 intro k _
 by_cases e:k=t
 ·subst e
  rw [upd_same]
  cases hk:hp k with
  | none=>exact absurd hk h
  | some c=>simp [hk]
 ·rw [upd_ne _ _ e,upd_ne _ _ e]
theorem cnt_hkeep {hp:Nat→Option C} {t:Nat} (N:Nat) (h:hp t≠none) (c:C):cntN (fun i=>(upd hp t (some c) i).isSome) N=cntN (fun i=>(hp i).isSome) N:=by
 apply sumN_congr
 intro k _
 by_cases e:k=t
 ·subst e
  cases hk:hp k with
  | none=>exact absurd hk h
  | some c=>simp [upd_same,hk]
 ·simp only [upd_ne _ _ e]
theorem cntN_zero {p:Nat→Bool} {n:Nat} (h:cntN p n=0):∀k,k<n→p k=false:=by
 induction n with
 | zero=>intro k hk;omega
 | succ n ih=>
  unfold cntN at h ih;rw [sumN] at h;intro k hk
  by_cases e:k=n
  ·subst e
   cases hp:p k with
   | false=>rfl
   | true=>simp [hp] at h
  ·exact ih (by omega) k (by omega)
theorem cntN_none (n:Nat):cntN (fun _=>false) n=0:=by
 unfold cntN;simp [sumN_const]
namespace FS
variable {E:Nat→Nat→C→Prop} {fr N:Nat} {done hp:Nat→Option C} {back:Nat→Option Nat} {k:Nat} {pend:Nat→C→Prop}
theorem start (h:fr<N) (k:Nat):FS E fr N (fun _=>none) (upd (fun _=>none) fr (some C.zero)) (fun _=>none) k (fun _ _=>False) where
 dij:=Dij.start fr k
 frN:=h
 rngD:=fun j hj=>absurd rfl hj
 rngH:=fun j hj=>by
  unfold upd at hj;split at hj
  ·rename_i e;rw [e];exact h
  ·exact absurd rfl hj
 b0:=fun j _=>by
  by_cases e:j=fr
  ·exact .inr e
  ·exact .inl ⟨rfl,upd_ne _ _ e⟩
 b1:=fun j a h=>by cases h
 bfr:=rfl
 c1:=fun j c h=>by cases h
 c2:=fun j c h=>by
  unfold upd at h;split at h
  ·cases h;exact C.le_of_parts (by simp [C.zero]) (by simp [C.zero])
  ·cases h
 last:=fun c h=>by cases h
theorem weaken {pend':Nat→C→Prop} (H:FS E fr N done hp back k pend) (h:∀b e,pend b e→pend' b e):FS E fr N done hp back k pend':=
 { H with dij:=⟨H.dij.i1,H.dij.i2,H.dij.i2',fun a c b e x y=>(H.dij.i3 a c b e x y).imp_left fun ⟨p,q⟩=>⟨p,h _ _ q⟩,H.dij.i4⟩ }
theorem pop (hE : ∀ a b c, E a b c → C.Nn c) (H : FS E fr N done hp back k fun _ _ => False) {t : Nat} {c : C} (ht : hp t = some c) (hmin : ∀ j d, hp j = some d → C.le c d) :
    FS E fr N (upd done t (some c)) (upd hp t none) back t (E t):=by
 have htN:=H.rngH t (by rw [ht];simp)
 have hdt:=(H.dij.i2 t c ht).1;have hcnt:=cnt_done htN hdt c;refine ⟨H.dij.pop hE ht hmin,H.frN,?_,?_,?_,?_,H.bfr,?_,?_,?_⟩
 ·intro j hj
  unfold upd at hj;split at hj
  ·rename_i e;rw [e];exact htN
  ·exact H.rngD j hj
 ·intro j hj
  unfold upd at hj;split at hj
  ·exact absurd rfl hj
  ·exact H.rngH j hj
 ·intro j hj
  rcases H.b0 j hj with ⟨h1,h2⟩ | h
  ·left
   have e:j≠t:=by rintro rfl;rw [ht] at h2;cases h2
   exact ⟨(upd_ne _ _ e).trans h1,(upd_ne _ _ e).trans h2⟩
  ·exact .inr h
 ·intro j a ha
  obtain ⟨c',d,e,h1,h2,h3,h4⟩:=H.b1 j a ha;refine ⟨c',d,e,?_,?_,h3,h4⟩
  ·by_cases q:j=t
   ·subst q
    rw [upd_same]
    rcases h1 with h1 | h1
    ·rw [hdt] at h1;cases h1
    ·rw [ht] at h1;exact .inl h1
   ·rw [upd_ne _ _ q,upd_ne _ _ q];exact h1
  ·by_cases q:a=t
   ·subst q;rw [hdt] at h2;cases h2
   ·rw [upd_ne _ _ q];exact h2
 ·intro j d hj
  rw [hcnt];unfold upd at hj;split at hj
  ·cases hj;exact C.le_trans (H.c2 _ _ ht) (C.le_of_parts (Int.le_refl _) (by simp only;omega))
  ·exact C.le_trans (H.c1 _ _ hj) (C.le_of_parts (Int.le_refl _) (by simp only;omega))
 ·intro j d hj
  rw [hcnt];unfold upd at hj;split at hj
  ·cases hj
  ·exact C.le_trans (H.c2 _ _ hj) (C.le_of_parts (Int.le_refl _) (by simp only;omega))
 ·intro c' hc i d hi
  rw [upd_same] at hc
  cases hc
  unfold upd at hi;split at hi
  ·cases hi;exact C.le_refl _
  ·exact H.dij.i2' _ _ ht _ _ hi
theorem skip {pend':Nat→C→Prop} (H:FS E fr N done hp back k pend) {b:Nat} (hb:done b≠none) (hp':∀b' e',pend b' e'→pend' b' e'∨b'=b):FS E fr N done hp back k pend':=
 { H with dij:=H.dij.skip hb hp' }
theorem keep {pend':Nat→C→Prop} (H:FS E fr N done hp back k pend) {b:Nat} {c e d:C} (hk:done k=some c) (hb:hp b=some d) (hle:C.le d (C.add c e)) (hp':∀b' e',pend b' e'→pend' b' e'∨(b'=b∧e'=e)):FS E fr N done hp back k pend':=
 { H with dij:=H.dij.keep hk hb hle hp' }
theorem push (hE : ∀ a b c, E a b c → C.Nn c) {pend' : Nat → C → Prop} (H : FS E fr N done hp back k pend) {b : Nat} {c e : C} (hk : done k = some c) (he : E k b e) (he1 : C.le e ⟨0, 1⟩) (hbN : b < N)
    (hd:done b=none) (hb:∀d,hp b=some d→C.lt (C.add c e) d) (hp':∀b' e',pend b' e'→pend' b' e'∨(b'=b∧e'=e)) :
    FS E fr N done (upd hp b (some (C.add c e))) (upd back b (some k)) k pend':=by
 have hbf:b≠fr:=by
  rintro rfl
  rcases H.dij.i4 with x | x
  ·rw [hd] at x;cases x
  ·exact C.nn_le (C.nn_add ((H.dij.i1 _ _ hk).1.nn hE) (hE _ _ _ he)) (hb _ x)
 refine ⟨H.dij.push hE hk he hd hb (H.last _ hk) hp',H.frN,H.rngD,?_,?_,?_,?_,H.c1,?_,H.last⟩
 ·intro j hj
  unfold upd at hj;split at hj
  ·rename_i q;rw [q];exact hbN
  ·exact H.rngH j hj
 ·intro j hj
  unfold upd at hj;split at hj
  ·cases hj
  ·rename_i q
   rw [upd_ne _ _ q];exact H.b0 j hj
 ·intro j a ha
  by_cases q:j=b
  ·subst q
   rw [upd_same] at ha
   cases ha
   exact ⟨_,_,_,.inr (upd_same _ _ _),hk,he,rfl⟩
  ·rw [upd_ne _ _ q] at ha ⊢
   exact H.b1 j a ha
 ·rw [upd_ne _ _ (Ne.symm hbf)];exact H.bfr
 ·intro j d hj
  unfold upd at hj;split at hj
  ·cases hj
   refine C.le_trans (C.add_le_add (H.c1 _ _ hk) he1) (C.le_of_parts ?_ ?_) <;> simp [C.add]
  ·exact H.c2 _ _ hj
end FS
structure FloodOk (E:Nat→Nat→C→Prop) (fr N:Nat) (done:Nat→Option C) (back:Nat→Option Nat):Prop where
 frN:fr<N
 in_:∀t c,done t=some c→Dist E fr t c
 out:∀t,done t=none→∀c,¬Walk E fr t c
 rng:∀t,done t≠none→t<N
 b0:∀j,back j=none→done j=none∨j=fr
 b1:∀j a,back j=some a→∃c d e,done j=some c∧done a=some d∧E a j e∧c=C.add d e
 bfr:back fr=none
 small:∀j c,done j=some c→0≤c.s∧c.s≤512∧0≤c.d∧c.d≤512
end FR
namespace FR
def G.fault (g:G) (x:Int):Nat:=if x<0∨(g.n:Int)≤x then 1 else if g.b x.toNat=true then 4 else 0
theorem G.fault_out {g:G} {x:Int} (h:x<0∨(g.n:Int)≤x):g.fault x=1:=if_pos h
theorem G.fault_in {g:G} {c:Nat} (h:c<g.n):g.fault (c:Nat)=if g.b c=true then 4 else 0:=by
 unfold G.fault;rw [if_neg (by omega)];rfl
theorem G.fault_zero {g:G} {x:Int} (h:g.fault x=0):∃c:Nat,x=c∧c<g.n∧g.b c=false:=by
 unfold G.fault at h
 split at h
 ·cases h
 ·rename_i h1
  split at h
  ·cases h
  ·rename_i h2
   exact ⟨x.toNat,by omega,by omega,by simpa using h2⟩
def G.widx (g:G) (a b:Nat):Option Nat:=(g.moves a).findIdx? fun d=>g.to a d == b
theorem G.to_inj {g:G} {a d d':Nat} (hd:d<8) (hd':d'<8) (h:g.mayC a d=true) (h':g.mayC a d'=true) (e:g.to a d=g.to a d'):d=d':=by
 obtain ⟨_,x1,x2⟩:=G.mayC_to h;obtain ⟨_,y1,y2⟩:=G.mayC_to h';have e1:=G.edge_dir hd h rfl (x:=dxN d) (y:=dyN d) x1 x2
 have e2:=G.edge_dir hd' h' rfl (x:=dxN d) (y:=dyN d) (by rw [←e];exact x1) (by rw [←e];exact x2)
 rw [e1,e2]
theorem G.moves_mem {g:G} {a d:Nat} (h:d∈g.moves a):d<8∧g.mayC a d=true:=by
 unfold G.moves at h;have:=List.mem_filter.1 h;exact ⟨List.mem_range.1 this.1,this.2⟩
theorem G.moves_nodup (g:G) (a:Nat):(g.moves a).Nodup:=List.Pairwise.filter _ List.nodup_range
theorem G.widx_none {g:G} {a b:Nat} (h:g.widx a b=none):∀(j d:Nat),(g.moves a)[j]? = some d→g.to a d≠b:=by
 intro j d hj;have:=List.findIdx?_eq_none_iff.1 h d (List.mem_of_getElem? hj)
 simpa using this
theorem G.widx_some {g:G} {a b i:Nat} (h:g.widx a b=some i):∃d:Nat,(g.moves a)[i]? = some d∧g.to a d=b∧∀(j d':Nat),(g.moves a)[j]? = some d'→(g.to a d'=b↔j=i):=by
 obtain ⟨hi,h1,h2⟩:=List.findIdx?_eq_some_iff_getElem.1 h;simp at h1;have hgi:(g.moves a)[i]? = some (g.moves a)[i]:=List.getElem?_eq_getElem hi
 refine ⟨(g.moves a)[i],hgi,h1,fun j d' hj=>⟨fun e=>?_,fun e=>?_⟩⟩
 ·have m1:=G.moves_mem (List.mem_of_getElem? hj)
  have m2:=G.moves_mem (List.getElem_mem hi);have ed:=G.to_inj m1.1 m2.1 m1.2 m2.2 (e.trans h1.symm);rw [ed,←hgi] at hj
  exact (List.getElem?_inj (by exact (List.getElem?_eq_some_iff.1 (hj.trans hgi)).1) (g.moves_nodup a)).1 hj
 ·subst e
  rw [hgi] at hj
  injection hj with hj
  rw [←hj];exact h1
def G.wst (g:G) (a i:Nat):C:=stepC ((g.moves a).getD i 0)
theorem G.widx_E {g:G} {a b:Nat} {e:C} (h:g.E a b e):∃i,g.widx a b=some i∧g.wst a i=e:=by
 obtain ⟨ha,d,hd,hm,hb,he⟩:=h
 have hmem:d∈g.moves a:=by unfold G.moves;exact List.mem_filter.2 ⟨List.mem_range.2 hd,hm⟩
 cases hw:g.widx a b with
 | none=>
  obtain ⟨j,hj⟩:=List.getElem?_of_mem hmem;exact absurd hb.symm (G.widx_none hw j d hj)
 | some i=>
  obtain ⟨d',h1,h2,h3⟩:=G.widx_some hw;have m:=G.moves_mem (List.mem_of_getElem? h1);have ed:d'=d:=G.to_inj m.1 hd m.2 hm (h2.trans hb);refine ⟨i,rfl,?_⟩;unfold G.wst;rw [List.getD_eq_getElem?_getD,h1,he,ed];rfl
def G.wres (g:G) (f:Nat→Int):Nat→Nat ⊕ C
 | 0=>.inr C.zero
 | i+1=>match G.wres g f i with
  | .inl e=>.inl e
  | .inr c=>if g.fault (f i)≠0 then .inl (g.fault (f i)) else if i=0 then .inr c else
   match g.widx (f (i-1)).toNat (f i).toNat with
   | none=>.inl 7
   | some k=>.inr (C.add c (g.wst (f (i-1)).toNat k))
theorem G.wres_stop {g:G} {f:Nat→Int} {i n e:Nat} (h:g.wres f i=.inl e) (hn:i≤n):g.wres f n=.inl e:=by
 induction n with
 | zero => obtain rfl : i = 0 := by omega
           exact h
 | succ n ih=>
  by_cases q:i=n+1
  ·rw [←q];exact h
  ·have:=ih (by omega)
   unfold G.wres;rw [this]
theorem G.wres_ok {g:G} {f:Nat→Int} {i:Nat} {c:C} (h:g.wres f (i+1)=.inr c):∃a:Nat,f i=a∧a<g.n∧g.b a=false:=by
 unfold G.wres at h
 cases hw:g.wres f i with
 | inl e=>rw [hw] at h;simp at h
 | inr c'=>
  rw [hw] at h;simp only at h
  split at h
  ·cases h
  ·rename_i h1
   exact G.fault_zero (by simpa using h1)
def G.wout (g:G) (f:Nat→Int) (n:Nat):C×Nat:=match g.wres f n with
 | .inl e=>(C.zero,e)
 | .inr c=>if n=0 then (C.zero,7) else (c,0)
theorem G.wout_bad {g:G} {f:Nat→Int} {i n e:Nat} (h:g.wres f i=.inl e) (hn:i≤n):g.wout f n=(C.zero,e):=by
 unfold G.wout;rw [G.wres_stop h hn]
theorem G.wout_ok {g:G} {f:Nat→Int} {n:Nat} {c:C} (h:g.wres f n=.inr c) (hn:0<n):g.wout f n=(c,0):=by
 unfold G.wout;rw [h];simp only;rw [if_neg (by omega)]
theorem G.wres_fault {g:G} {f:Nat→Int} {i:Nat} {c:C} (h:g.wres f i=.inr c) (hf:g.fault (f i)≠0):g.wres f (i+1)=.inl (g.fault (f i)):=by
 rw [G.wres,h];simp only;rw [if_pos hf]
theorem G.wres_first {g:G} {f:Nat→Int} (hf:g.fault (f 0)=0):g.wres f 1=.inr C.zero:=by
 rw [G.wres,G.wres];simp [hf]
theorem G.wres_none {g:G} {f:Nat→Int} {i a b:Nat} {c:C} (h:g.wres f (i+1)=.inr c) (hf:g.fault (f (i+1))=0) (ha:f i=a) (hb:f (i+1)=b) (hw:g.widx a b=none):g.wres f (i+2)=.inl 7:=by
 rw [hb] at hf;rw [G.wres,h];simp [hf,ha,hb,hw]
theorem G.wres_some {g:G} {f:Nat→Int} {i a b k:Nat} {c:C} (h:g.wres f (i+1)=.inr c) (hf:g.fault (f (i+1))=0) (ha:f i=a) (hb:f (i+1)=b) (hw:g.widx a b=some k):g.wres f (i+2)=.inr (C.add c (g.wst a k)):=by
 rw [hb] at hf;rw [G.wres,h];simp [hf,ha,hb,hw]
theorem G.wst_le (g:G) (a k:Nat):0≤(g.wst a k).s∧(g.wst a k).s≤1∧0≤(g.wst a k).d∧(g.wst a k).d≤1:=by
 unfold G.wst stepC;split <;> simp
theorem G.wres_bd {g:G} {f:Nat→Int}:∀ {i:Nat} {c:C},g.wres f i=.inr c→0≤c.s∧c.s≤i∧0≤c.d∧c.d≤i
 | 0,c,h=>by
  unfold G.wres at h;injection h with h;subst h;simp [C.zero]
 | i+1,c,h=>by
  unfold G.wres at h
  cases hw:g.wres f i with
  | inl e=>rw [hw] at h;simp at h
  | inr c'=>
   have ih:=G.wres_bd hw;rw [hw] at h;simp only at h
   split at h
   ·cases h
   ·split at h
    ·injection h with h;subst h;omega
    ·split at h
     ·cases h
     ·rename_i k _
      injection h with h;subst h
      have:=g.wst_le (f (i-1)).toNat k;simp only [C.add];omega
theorem G.wres_way {g : G} {f : Nat → Int} {x : Nat → Nat} {c : Nat → C} {n : Nat} (h0 : c 0 = C.zero) (hx : ∀ i, i < n → f i = x i) (hfr : x 0 < g.n ∧ g.b (x 0) = false) (hg : g.ok)
    (hs:∀i,i+1<n→∃e,g.E (x i) (x (i+1)) e∧c (i+1)=C.add (c i) e):∀i,i<n→g.wres f (i+1)=.inr (c i)
 | 0,h=>by
  rw [h0];refine G.wres_first ?_;rw [hx 0 h,G.fault_in hfr.1,hfr.2];rfl
 | i+1,h=>by
  have ih:=G.wres_way h0 hx hfr hg hs i (by omega)
  obtain ⟨e,he,hc⟩:=hs i h;obtain ⟨k,hk,hke⟩:=G.widx_E he;rw [hc,←hke]
  refine G.wres_some ih ?_ (hx i (by omega)) (hx (i+1) h) hk
  rw [hx (i+1) h,G.fault_in (G.E_lt he),(G.E_open hg he).2];rfl
def BackWay (back:Nat→Option Nat) (t:Nat) (l:List Nat):Prop:=l[0]? = some t∧∀i x y,l[i]? = some x→l[i+1]? = some y→back x=some y
namespace FloodOk
variable {g:G} {fr:Nat} {done:Nat→Option C} {back:Nat→Option Nat}
theorem at_fr (H:FloodOk g.E fr g.n done back):done fr=some C.zero:=by
 cases h:done fr with
 | none=>exact absurd (.nil fr) (H.out fr h C.zero)
 | some c=>rw [(H.in_ fr c h).unique (Dist.self (fun _ _ _=>G.E_nn) fr)]
theorem lower (H:FloodOk g.E fr g.n done back) {x y:Nat} (hb:back x=some y):∃c d,done x=some c∧done y=some d∧rk 512 d<rk 512 c:=by
 obtain ⟨c,d,e,h1,h2,h3,h4⟩:=H.b1 x y hb;refine ⟨c,d,h1,h2,?_⟩;have hs:=H.small _ _ h2;refine rk_lt ?_ (mem_box ⟨hs.1,hs.2.2.1⟩ hs.2.1 hs.2.2.2);rw [h4];refine C.lt_add_step (G.E_nn h3) ?_;obtain ⟨_,d',_,_,_,he⟩:=h3
 rw [he];unfold stepC C.zero;split <;> simp
theorem way (hg : g.ok) (H : FloodOk g.E fr g.n done back) (hfr : g.b fr = false) {t : Nat} {l : List Nat} {c : C} (ht : done t = some c) (hw : BackWay back t l) (hl : ∃ l', l = l' ++ [fr]) :
    g.wout (fun i=>(l.reverse.map fun n:Nat=>(n:Int)).getD i 0) l.length=(c,0):=by
 have hd:∀(i x:Nat),l[i]? = some x→∃c,done x=some c:=by
  intro i
  induction i with
  | zero=>intro x hx;rw [hw.1] at hx;injection hx with hx;exact ⟨c,hx▸ht⟩
  | succ i ih=>
   intro x hx;have hlt:=(List.getElem?_eq_some_iff.1 hx).1
   have hy:l[i]? = some l[i]:=List.getElem?_eq_getElem (by omega)
   obtain ⟨_,d,_,h1,_⟩:=H.lower (hw.2 i _ _ hy hx)
   exact ⟨d,by assumption⟩
 have hpos:0<l.length:=(List.getElem?_eq_some_iff.1 hw.1).1
 let r:=l.reverse
 have hr:∀i,i<l.length→r[i]? = l[l.length-1-i]?:=fun i hi=>by
  show l.reverse[i]? = _
  rw [List.getElem?_reverse hi]
 have hrl:r.length=l.length:=by simp [r]
 have hx0:r[0]? = some fr:=by
  obtain ⟨l',e⟩:=hl;rw [hr 0 hpos,e];simp
 have hxe:r[l.length-1]? = some t:=by
  rw [hr _ (by omega),show l.length-1-(l.length-1)=0 by omega];exact hw.1
 have gd:∀(i x:Nat),r[i]? = some x→r.getD i 0=x:=fun i x h=>by rw [List.getD_eq_getElem?_getD,h];rfl
 have key:=G.wres_way (g:=g) (f:=fun i=>(l.reverse.map fun n:Nat=>(n:Int)).getD i 0) (x:=fun i=>r.getD i 0) (c:=fun i=>(done (r.getD i 0)).getD C.zero) (n:=l.length)
  (by simp only [gd 0 fr hx0,H.at_fr];rfl)
  (fun i hi=>by
   have h1:r[i]? = some (r.getD i 0):=by
    have:i<r.length:=by omega
    rw [List.getD_eq_getElem?_getD,List.getElem?_eq_getElem this];rfl
   show (r.map fun n:Nat=>(n:Int)).getD i 0=_
   rw [List.getD_eq_getElem?_getD,List.getElem?_map,h1];rfl)
  (by simp only [gd 0 fr hx0];exact ⟨H.frN,hfr⟩) hg
  (fun i hi=>by
   have h1:r[i]? = some (r.getD i 0):=by
    have:i<r.length:=by omega
    rw [List.getD_eq_getElem?_getD,List.getElem?_eq_getElem this];rfl
   have h2:r[i+1]? = some (r.getD (i+1) 0):=by
    have:i+1<r.length:=by omega
    rw [List.getD_eq_getElem?_getD,List.getElem?_eq_getElem this];rfl
   generalize r.getD i 0=a at *
   generalize r.getD (i+1) 0=b at *
   rw [hr i (by omega)] at h1
   rw [hr (i+1) hi] at h2
   have hb:=hw.2 (l.length-1-(i+1)) b a h2 (by rw [show l.length-1-(i+1)+1=l.length-1-i by omega];exact h1)
   obtain ⟨c1,d1,e,q1,q2,q3,q4⟩:=H.b1 b a hb
   exact ⟨e,q3,by rw [q1,q2];exact q4⟩)
  (l.length-1) (by omega)
 rw [show l.length-1+1=l.length by omega] at key
 simp only [gd _ t hxe,ht] at key;exact G.wout_ok key hpos
end FloodOk
end FR
namespace FR
def Reach (E:Nat→Nat→C→Prop) (src:Nat→C→Prop) (j:Nat) (c:C):Prop:=∃s c0 d,src s c0∧Walk E s j d∧c=C.add c0 d
theorem Reach.snoc {E:Nat→Nat→C→Prop} {src:Nat→C→Prop} {a b:Nat} {c e:C} (h:Reach E src a c) (he:E a b e):Reach E src b (C.add c e):=by
 obtain ⟨s,c0,d,h1,h2,rfl⟩:=h;exact ⟨s,c0,_,h1,h2.snoc he,C.add_assoc _ _ _⟩
theorem Reach.src {E:Nat→Nat→C→Prop} {src:Nat→C→Prop} {s:Nat} {c:C} (h:src s c):Reach E src s c:=⟨s,c,C.zero,h,.nil s,(C.add_zero c).symm⟩
def RDist (E:Nat→Nat→C→Prop) (src:Nat→C→Prop) (j:Nat) (c:C):Prop:=Reach E src j c∧∀d,Reach E src j d→C.le c d
def cntS (L:Nat→Option C) (N:Nat):Nat:=cntN (fun i=>(L i).isSome) N
theorem cntS_le (L:Nat→Option C) (N:Nat):cntS L N≤N:=cntN_le _ _
theorem cntS_upd_le (L:Nat→Option C) (N b:Nat) (c:C):cntS L N≤cntS (upd L b (some c)) N:=by
 unfold cntS;rw [some_upd];exact cntN_upd_le _ _ _
theorem cntS_new {L:Nat→Option C} {N b:Nat} (hb:b<N) (h:L b=none) (c:C):cntS (upd L b (some c)) N=cntS L N+1:=cnt_done hb h c
structure BF (E:Nat→Nat→C→Prop) (src:Nat→C→Prop) (N B M:Nat) (L:Nat→Option C):Prop where
 rng:∀j,L j≠none→j<N
 reach:∀j c,L j=some c→Reach E src j c∧C.Nn c
 bd:∀j c,L j=some c→C.le c ⟨0,((B+M*cntS L N:Nat):Int)⟩
namespace BF
variable {E:Nat→Nat→C→Prop} {src:Nat→C→Prop} {N B M:Nat} {L:Nat→Option C}
def K (N B M:Nat):Nat:=2*(B+M*(N+1))
def meas (N K:Nat) (L:Nat→Option C):Nat:=sumN (fun k=>match L k with | some c=>rk K c | none=>(K+1)*(K+1)+1) N
theorem start:BF E src N B M (fun _=>Option.none) where
 rng:=fun _ h=>absurd rfl h
 reach:=fun _ _ h=>by cases h
 bd:=fun _ _ h=>by cases h
theorem small (H:BF E src N B M L) {j:Nat} {c:C} (h:L j=some c):0≤c.s∧c.s≤2*(B+M*N)∧0≤c.d∧c.d≤2*(B+M*N):=by
 have h1:=H.bd _ _ h;have h2:=(H.reach _ _ h).2;have h3:M*cntS L N≤M*N:=Nat.mul_le_mul_left _ (cntS_le L N)
 obtain ⟨h5,h6⟩:=C.parts_le' h2 (b:=⟨0,((B+M*cntS L N:Nat):Int)⟩) ⟨by simp,by simp only;omega⟩ h1
 obtain ⟨h7,h8⟩:=h2;simp only at h5 h6
 have h9:((M*cntS L N:Nat):Int)≤((M*N:Nat):Int):=by omega
 have e:((M*N:Nat):Int)=(M:Int)*N:=by simp
 omega
theorem put (hN : ∀ j c, Reach E src j c → C.Nn c) (H : BF E src N B M L) {b : Nat} {c : C} (hb : b < N) (hr : Reach E src b c) (hlt : ∀ d, L b = some d → C.lt c d)
    (hbd:L b=Option.none→C.le c ⟨0,((B+M*(cntS L N+1):Nat):Int)⟩):BF E src N B M (upd L b (some c))∧meas N (K N B M) (upd L b (some c))<meas N (K N B M) L:=by
 have hcnt:=cntS_upd_le L N b c;have hnn:=hN _ _ hr
 have hnew:C.le c ⟨0,((B+M*cntS (upd L b (some c)) N:Nat):Int)⟩:=by
  cases hL:L b with
  | none=>rw [cntS_new hb hL];exact hbd hL
  | some d=>exact C.le_trans (C.le_of_lt (hlt d hL)) (C.le_trans (H.bd _ _ hL) (C.le_of_parts (Int.le_refl _) (by have:=Nat.mul_le_mul_left M hcnt;simp only;omega)))
 refine ⟨⟨?_,?_,?_⟩,?_⟩
 ·intro j hj
  unfold upd at hj;split at hj
  ·rename_i e;rw [e];exact hb
  ·exact H.rng j hj
 ·intro j d hj
  unfold upd at hj;split at hj
  ·rename_i e;cases hj;rw [e];exact ⟨hr,hnn⟩
  ·exact H.reach j d hj
 ·intro j d hj
  by_cases e:j=b
  ·subst e;rw [upd_same] at hj;cases hj;exact hnew
  ·rw [upd_ne _ _ e] at hj
   exact C.le_trans (H.bd _ _ hj) (C.le_of_parts (Int.le_refl _) (by have:=Nat.mul_le_mul_left M hcnt;simp only;omega))
 ·have hbox : c ∈ box (K N B M) := by
    obtain ⟨p1,p2⟩:=C.parts_le' hnn (b:=⟨0,((B+M*cntS (upd L b (some c)) N:Nat):Int)⟩) ⟨by simp,by simp only;omega⟩ hnew
    have h3:M*cntS (upd L b (some c)) N≤M*(N+1):=Nat.mul_le_mul_left _ (Nat.le_succ_of_le (cntS_le _ N));simp only at p1 p2
    refine mem_box hnn ?_ ?_ <;> unfold K <;> omega
  apply sumN_lt
  ·intro j _
   by_cases q:j=b
   ·subst q
    rw [upd_same]
    cases hL:L j with
    | none=>exact Nat.le_succ_of_le (rk_le _ _)
    | some d=>exact Nat.le_of_lt (rk_lt (hlt d hL) hbox)
   ·rw [upd_ne _ _ q];exact Nat.le_refl _
  ·refine ⟨b,hb,?_⟩
   rw [upd_same]
   cases hL:L b with
   | none=>exact Nat.lt_succ_of_le (rk_le _ _)
   | some d=>exact rk_lt (hlt d hL) hbox
theorem fin (hN : ∀ j c, Reach E src j c → C.Nn c) (H : BF E src N B M L) (hs : ∀ s c0, src s c0 → ∃ d, L s = some d ∧ C.le d c0) (he : ∀ a c b e, L a = some c → E a b e → ∃ d, L b = some d ∧ C.le d (C.add c e)) (t : Nat) :
    (∀c,L t=some c→RDist E src t c)∧(L t=Option.none→∀c,¬Reach E src t c):=by
 have key:∀s j d,Walk E s j d→∀c0,src s c0→∃d',L j=some d'∧C.le d' (C.add c0 d):=by
  intro s j d hw
  induction hw with
  | nil=>intro c0 h0;rw [C.add_zero];exact hs _ _ h0
  | snoc hw' he' ih=>
   intro c0 h0;obtain ⟨d',h1,h2⟩:=ih c0 h0;obtain ⟨d2,h3,h4⟩:=he _ _ _ _ h1 he'
   exact ⟨d2,h3,C.le_trans h4 (by rw [←C.add_assoc];exact (C.add_le_right _).2 h2)⟩
 refine ⟨fun c h=>⟨(H.reach _ _ h).1,?_⟩,?_⟩
 ·rintro d ⟨s,c0,d',h0,hw,rfl⟩
  obtain ⟨x,h1,h2⟩:=key _ _ _ hw _ h0;rw [h] at h1;cases h1;exact h2
 ·rintro h c ⟨s,c0,d',h0,hw,rfl⟩
  obtain ⟨x,h1,_⟩:=key _ _ _ hw _ h0;rw [h] at h1;cases h1
end BF
end FR
namespace FR
theorem bool_of (P:Nat→Prop):∃f:Nat→Bool,∀u,f u=true↔P u:=⟨fun u=>@decide (P u) (Classical.propDecidable _),fun u=>by simp⟩
def Nearer (E:Nat→Nat→C→Prop) (fr:Nat) (c:C) (f:Nat→Bool):Prop:=∀u,f u=true↔∃d,Dist E fr u d∧C.lt d c
theorem cntN_lt {p q:Nat→Bool} {n m:Nat} (h:∀k,p k=true→q k=true) (hm:m<n) (h1:p m=false) (h2:q m=true):cntN p n+1≤cntN q n:=by
 unfold cntN
 refine sumN_lt n (fun k _=>?_) ⟨m,hm,by rw [h1,h2];decide⟩
 cases hp:p k with
 | false=>simp
 | true=>rw [h k hp];simp
theorem dist_bd {E : Nat → Nat → C → Prop} (hE : ∀ a b c, E a b c → C.Nn c) (hz : ∀ a b c, E a b c → c ≠ C.zero) {M N : Nat} (hM : ∀ a b c, E a b c → C.le c ⟨0, (M : Int)⟩) (hN : ∀ a b c, E a b c → b < N) {fr : Nat} (hf : fr < N) :
    ∀(k:Nat) {t:Nat} {c:C} (f:Nat→Bool),Nearer E fr c f→Dist E fr t c→cntN f N≤k→C.le c ⟨0,((M*k:Nat):Int)⟩:=by
 intro k
 induction k using Nat.strongRecOn with
 | _ k ih=>
  intro t c f hff h hk
  rcases h.1.inv with ⟨_,e⟩ | ⟨m,d,e,h1,h2,h3⟩
  ·rw [e];exact C.nn_le ⟨Int.le_refl 0,by simp only;omega⟩
  ·have hD : Dist E fr m d := ⟨h1, fun d' hd' => by
     have:=h.2 _ (hd'.snoc h2);rw [h3] at this;exact (C.add_le_right _).1 this⟩
   have hlt:C.lt d c:=by rw [h3];exact C.lt_add_step (hE _ _ _ h2) (hz _ _ _ h2)
   have hm:m<N:=by
    rcases h1.inv with ⟨e,_⟩ | ⟨_,_,_,_,he,_⟩
    ·rw [e];exact hf
    ·exact hN _ _ _ he
   obtain ⟨f2,hf2⟩:=bool_of (fun u=>∃x,Dist E fr u x∧C.lt x d)
   have hc:cntN f2 N+1≤cntN f N:=by
    refine cntN_lt (m:=m) (fun u hu=>?_) hm ?_ ?_
    ·obtain ⟨x,x1,x2⟩:=(hf2 u).1 hu
     exact (hff u).2 ⟨x,x1,C.lt_trans x2 hlt⟩
    ·cases hq:f2 m with
     | false=>rfl
     | true=>
      obtain ⟨x,x1,x2⟩:=(hf2 m).1 hq;rw [hD.unique x1] at x2;exact absurd x2 (C.lt_irrefl _)
    ·exact (hff m).2 ⟨d,hD,hlt⟩
   have hi:=ih (cntN f2 N) (by omega) f2 hf2 hD (Nat.le_refl _)
   rw [h3]
   refine C.le_trans (C.add_le_add hi (hM _ _ _ h2)) (C.le_of_parts (by simp [C.add]) ?_)
   simp only [C.add]
   have e1:M*(cntN f2 N+1)≤M*k:=Nat.mul_le_mul_left M (by omega)
   rw [Nat.mul_succ] at e1;omega
theorem dist_parts {E : Nat → Nat → C → Prop} (hE : ∀ a b c, E a b c → C.Nn c) (hz : ∀ a b c, E a b c → c ≠ C.zero) {M N : Nat} (hM : ∀ a b c, E a b c → C.le c ⟨0, (M : Int)⟩) (hN : ∀ a b c, E a b c → b < N) {fr : Nat} (hf : fr < N) {t : Nat} {c : C} (h : Dist E fr t c) :
    0≤c.s∧c.s≤2*(M*N:Nat)∧0≤c.d∧c.d≤2*(M*N:Nat):=by
 obtain ⟨f,hff⟩:=bool_of (fun u=>∃x,Dist E fr u x∧C.lt x c)
 have h1:=dist_bd hE hz hM hN hf N f hff h (cntN_le _ _);have hn:=h.1.nn hE
 have:=C.parts_le' hn ⟨Int.le_refl 0,by simp only;omega⟩ h1
 simp only at this;obtain ⟨a,b⟩:=hn;omega
theorem G.dist_small {g:G} (hg:g.ok) {a t:Nat} {c:C} (ha:a<g.n) (h:Dist g.E a t c):0≤c.s∧c.s≤512∧0≤c.d∧c.d≤512:=by
 have hn:=G.n_le hg
 have:=dist_parts (M:=1) (N:=g.n) (fun _ _ _=>G.E_nn) (fun _ _ c hc=>by
  obtain ⟨_,d,_,_,_,e⟩:=hc
  rw [e];unfold stepC C.zero;split <;> simp) (fun _ _ c hc=>by
  obtain ⟨_,d,_,_,_,e⟩:=hc
  rw [e];unfold stepC;split <;> decide) (fun _ _ _=>G.E_lt) ha h
 omega
end FR
