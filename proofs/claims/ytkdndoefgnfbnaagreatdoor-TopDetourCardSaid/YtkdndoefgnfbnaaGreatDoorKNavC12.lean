/- Lemmas of this claim: Math3, MathGraph, MathReach, MathRepair, MathSel, MathSpan, MathGSet. -/
import Derived.Test.YtkdndoefgnfbnaaGreatDoorKNavC10
import Derived.Test.YtkdndoefgnfbnaaGreatDoorKNavC1
set_option linter.unusedVariables false
set_option linter.unusedSimpArgs false
namespace FR
namespace G
def at_ (g:G) (x y:Int):Nat:=g.cell x.toNat y.toNat
theorem at_XY {g:G} {x y:Int} (h:g.op x y=true):g.at_ x y<g.n∧(g.X (g.at_ x y):Int)=x∧(g.Y (g.at_ x y):Int)=y:=by
 obtain ⟨⟨h1,h2,h3,h4⟩,_⟩:=op_iff.1 h;unfold at_
 rw [X_cell (by omega),Y_cell (by omega)]
 exact ⟨cell_lt (by omega) (by omega),by omega,by omega⟩
theorem at_of {g:G} (c:Nat) {x y:Int} (hx:(g.X c:Int)=x) (hy:(g.Y c:Int)=y):g.at_ x y=c:=by
 subst hx;subst hy;unfold at_;exact cell_XY g c
structure V where
 x:Int
 y:Int
def go (g:G) (x y u v:Int):Prop:=g.op x y=true∧g.op (x+u) (y+v)=true∧g.op (x+u) y=true∧g.op x (y+v)=true
theorem go_straight {g:G} {x y u v:Int} (h:(u=1∧v=0)∨(u = -1∧v=0)∨(u=0∧v=1)∨(u=0∧v = -1)) (h1:g.op x y=true) (h2:g.op (x+u) (y+v)=true):g.go x y u v:=by
 refine ⟨h1,h2,?_,?_⟩
 ·rcases h with ⟨rfl,rfl⟩ | ⟨rfl,rfl⟩ | ⟨rfl,rfl⟩ | ⟨rfl,rfl⟩ <;> simp only [Int.add_zero] at * <;> assumption
 ·rcases h with ⟨rfl,rfl⟩ | ⟨rfl,rfl⟩ | ⟨rfl,rfl⟩ | ⟨rfl,rfl⟩ <;> simp only [Int.add_zero] at * <;> assumption
theorem go_E' {g:G} {x y u v:Int} {d:Nat} (hd:d<8) (hu:dxN d=u) (hv:dyN d=v) (h:g.go x y u v):g.E (g.at_ x y) (g.at_ (x+u) (y+v)) (stepC d):=by
 obtain ⟨h1,h2,h3,h4⟩:=h;obtain ⟨a1,a2,a3⟩:=at_XY h1
 have hm:g.mayC (g.at_ x y) d=true:=by
  unfold mayC;rw [a2,a3,may_iff,hu,hv];exact ⟨h1,h2,h3,h4⟩
 obtain ⟨_,t1,t2⟩:=mayC_to hm
 exact ⟨a1,d,hd,hm,at_of _ (by omega) (by omega),rfl⟩
theorem go_E1 {g:G} {x y u v:Int} (k:(u=1∧v=0)∨(u = -1∧v=0)∨(u=0∧v=1)∨(u=0∧v = -1)) (h:g.go x y u v):g.E (g.at_ x y) (g.at_ (x+u) (y+v)) ⟨1,0⟩:=by
 obtain ⟨h1,h2,h3⟩:=step_dirN' k;have:=go_E' (dirN_lt u v) h1 h2 h;rwa [h3] at this
theorem go_E2 {g:G} {x y u v:Int} (k:(u=1∨u = -1)∧(v=1∨v = -1)) (h:g.go x y u v):g.E (g.at_ x y) (g.at_ (x+u) (y+v)) ⟨0,1⟩:=by
 obtain ⟨h1,h2,h3⟩:=step_dirN k.1 k.2;have:=go_E' (dirN_lt u v) h1 h2 h;rwa [h3] at this
def Corner (g:G) (c:Nat):Prop:=c<g.n∧g.op (g.X c) (g.Y c)=true∧∃u v:Int,(u=1∨u = -1)∧(v=1∨v = -1) ∧
 g.op (g.X c+u) (g.Y c+v)=false∧g.op (g.X c+u) (g.Y c)=true∧g.op (g.X c) (g.Y c+v)=true
theorem corner_at {g:G} {x y u v:Int} (h0:g.op x y=true) (hu:u=1∨u = -1) (hv:v=1∨v = -1) (h1:g.op (x+u) (y+v)=false) (h2:g.op (x+u) y=true) (h3:g.op x (y+v)=true):g.Corner (g.at_ x y):=by
 obtain ⟨a1,a2,a3⟩:=at_XY h0
 refine ⟨a1,by rw [a2,a3];exact h0,u,v,hu,hv,?_,?_,?_⟩ <;> rw [a2,a3] <;> assumption
def Frame (b1 b2 e1 e2:Int):Prop:=((b1=1∨b1 = -1)∧b2=0∧e1=0∧(e2=1∨e2 = -1))∨(b1=0∧(b2=1∨b2 = -1)∧(e1=1∨e1 = -1)∧e2=0)
theorem Frame.b {b1 b2 e1 e2:Int} (h:Frame b1 b2 e1 e2):(b1=1∧b2=0)∨(b1 = -1∧b2=0)∨(b1=0∧b2=1)∨(b1=0∧b2 = -1):=by unfold Frame at h;omega
theorem Frame.e {b1 b2 e1 e2:Int} (h:Frame b1 b2 e1 e2):(e1=1∧e2=0)∨(e1 = -1∧e2=0)∨(e1=0∧e2=1)∨(e1=0∧e2 = -1):=by unfold Frame at h;omega
theorem Frame.a {b1 b2 e1 e2:Int} (h:Frame b1 b2 e1 e2):(b1+e1=1∨b1+e1 = -1)∧(b2+e2=1∨b2+e2 = -1):=by unfold Frame at h;omega
theorem Frame.neg {b1 b2 e1 e2:Int} (h:Frame b1 b2 e1 e2):Frame b1 b2 (-e1) (-e2):=by unfold Frame at *;omega
theorem go_diag {g:G} {x y b1 b2 e1 e2:Int} (h:Frame b1 b2 e1 e2):g.go x y (b1+e1) (b2+e2)↔g.op x y=true∧g.op (x+b1+e1) (y+b2+e2)=true∧g.op (x+b1) (y+b2)=true∧g.op (x+e1) (y+e2)=true:=by
 unfold go
 rw [show x+(b1+e1)=x+b1+e1 by omega,show y+(b2+e2)=y+b2+e2 by omega]
 rcases h with ⟨_,rfl,rfl,_⟩ | ⟨rfl,_,_,rfl⟩ <;> simp only [Int.add_zero] <;> constructor <;> (rintro ⟨h1,h2,h3,h4⟩;refine ⟨h1,h2,?_,?_⟩ <;> assumption)
theorem corner_fr {g:G} {x y b1 b2 e1 e2:Int} (h:Frame b1 b2 e1 e2) (h0:g.op x y=true) (h1:g.op (x+b1+e1) (y+b2+e2)=false) (h2:g.op (x+b1) (y+b2)=true) (h3:g.op (x+e1) (y+e2)=true):g.Corner (g.at_ x y):=by
 rcases h with ⟨k1,rfl,rfl,k2⟩ | ⟨rfl,k1,k2,rfl⟩
 ·simp only [Int.add_zero] at *;exact corner_at h0 k1 k2 h1 h2 h3
 ·simp only [Int.add_zero] at *;exact corner_at h0 k2 k1 h1 h3 h2
theorem Frame.negb {b1 b2 e1 e2:Int} (h:Frame b1 b2 e1 e2):Frame (-b1) (-b2) e1 e2:=by unfold Frame at *;omega
def Turn (g:G) (p e:Nat) (c:C):Prop:=(∃q c1 c2,g.Corner q∧Walk g.E p q c1∧Walk g.E q e c2∧C.add c1 c2=c∧c1≠C.zero∧c2≠C.zero)∨∃c',Walk g.E p e c'∧C.lt c' c
theorem Turn.back {g:G} {p e t:Nat} {c d:C} (h:Turn g p e c) (k:Walk g.E e t d):Turn g p t (C.add c d):=by
 rcases h with ⟨q,c1,c2,h1,h2,h3,h4,h5,h6⟩ | ⟨c',h1,h2⟩
 ·refine .inl ⟨q,c1,_,h1,h2,h3.trans k,by rw [←C.add_assoc,h4],h5,?_⟩
  intro z
  have hn:=k.nn fun _ _ _=>E_nn
  have hm:=h3.nn fun _ _ _=>E_nn
  apply h6
  have z1:=congrArg C.s z;have z2:=congrArg C.d z;simp only [C.add,C.zero] at z1 z2;have:=hn.1;have:=hn.2;have:=hm.1;have:=hm.2
  exact C.ext' (by simp only [C.zero];omega) (by simp only [C.zero];omega)
 ·exact .inr ⟨_,h1.trans k,(C.add_lt_right _).2 h2⟩
inductive Rep (g:G) (u v:Int):Nat→Int→Int→Int→Int→Prop
 | nil (x y:Int):Rep g u v 0 x y x y
 | cons {k:Nat} {x y x' y':Int}:g.go x y u v→Rep g u v k (x+u) (y+v) x' y'→Rep g u v (k+1) x y x' y'
theorem Rep.snoc {g:G} {u v:Int} {k:Nat} {x y x' y':Int} (h:Rep g u v k x y x' y') (l:g.go x' y' u v):Rep g u v (k+1) x y (x'+u) (y'+v):=by
 induction h with
 | nil=>exact .cons l (.nil _ _)
 | cons h1 _ ih=>exact .cons h1 (ih l)
theorem Rep.walk1 {g:G} {u v:Int} (hu:(u=1∧v=0)∨(u = -1∧v=0)∨(u=0∧v=1)∨(u=0∧v = -1)) {k:Nat} {x y x' y':Int} (h:Rep g u v k x y x' y'):Walk g.E (g.at_ x y) (g.at_ x' y') ⟨k,0⟩:=by
 induction h with
 | nil=>exact .nil _
 | cons h1 _ ih=>
  have:=Walk.cons (go_E1 hu h1) ih
  refine cast (congrArg _ (C.ext' ?_ ?_)) this <;> simp only [C.add] <;> omega
theorem Rep.walk2 {g:G} {u v:Int} (hu:(u=1∨u = -1)∧(v=1∨v = -1)) {k:Nat} {x y x' y':Int} (h:Rep g u v k x y x' y'):Walk g.E (g.at_ x y) (g.at_ x' y') ⟨0,k⟩:=by
 induction h with
 | nil=>exact .nil _
 | cons h1 _ ih=>
  have:=Walk.cons (go_E2 hu h1) ih
  refine cast (congrArg _ (C.ext' ?_ ?_)) this <;> simp only [C.add] <;> omega
theorem Turn.less {g:G} {p t:Nat} {c d d':C} (h:Walk g.E p t (C.add c d')) (k:C.lt d' d):Turn g p t (C.add c d):=.inr ⟨_,h,(C.add_lt_left _).2 k⟩
theorem Turn.at {g:G} {p q t:Nat} {c c1 c2:C} (hq:g.Corner q) (h:Walk g.E p q c1) (k:Walk g.E q t c2) (e:c=C.add c1 c2) (h1:c1≠C.zero) (h2:c2≠C.zero):Turn g p t c:=
 .inl ⟨q,c1,c2,hq,h,k,e.symm,h1,h2⟩
theorem add_ne_zero {c d:C} (h:C.Nn c) (k:0≤d.s∧0≤d.d∧0<d.s+d.d):C.add c d≠C.zero:=by
 intro z;have z1:=congrArg C.s z;have z2:=congrArg C.d z;simp only [C.add,C.zero] at z1 z2;have:=h.1;have:=h.2;omega
theorem wnn {g:G} {a b:Nat} {c:C} (h:Walk g.E a b c):C.Nn c:=h.nn fun _ _ _=>E_nn
theorem turn_BD {g : G} {p : Nat} {c : C} {x y b1 b2 e1 e2 : Int} (F : Frame b1 b2 e1 e2) (h : Walk g.E p (g.at_ x y) c) (h1 : g.go x y b1 b2) (h2 : g.go (x+b1) (y+b2) e1 e2) :
    Turn g p (g.at_ (x+b1+e1) (y+b2+e2)) (C.add c ⟨2,0⟩):=by
 cases hm:g.op (x+e1) (y+e2) with
 | true=>
  have hd:g.go x y (b1+e1) (b2+e2):=(go_diag F).2 ⟨h1.1,h2.2.1,h1.2.1,hm⟩;have:=h.snoc (go_E2 F.a hd)
  rw [show x+(b1+e1)=x+b1+e1 by omega,show y+(b2+e2)=y+b2+e2 by omega] at this
  exact .less this (by decide)
 | false=>
  have e1':=go_E1 F.b h1;have e2':=go_E1 F.e h2
  refine .at (corner_fr F.negb h2.1 ?_ ?_ h2.2.1) (h.snoc e1') (.single e2') ?_ (add_ne_zero (wnn h) (by decide)) (by decide)
  ·rw [show x+b1 + -b1+e1=x+e1 by omega,show y+b2 + -b2+e2=y+e2 by omega];exact hm
  ·rw [show x+b1 + -b1=x by omega,show y+b2 + -b2=y by omega];exact h1.1
  ·rw [C.add_assoc];rfl
theorem turn_Bback {g : G} {p : Nat} {c : C} {x y b1 b2 e1 e2 : Int} (F : Frame b1 b2 e1 e2) (h : Walk g.E p (g.at_ x y) c) :
    Turn g p (g.at_ x y) (C.add c ⟨2,0⟩):=.less (d':=C.zero) (by rwa [C.add_zero]) (by decide)
theorem turn_BDB {g : G} {p : Nat} {c : C} {x y b1 b2 e1 e2 : Int} (F : Frame b1 b2 e1 e2) (h : Walk g.E p (g.at_ x y) c) (h1 : g.go x y b1 b2) (h2 : g.go (x+b1) (y+b2) (-b1+e1) (-b2+e2)) :
    Turn g p (g.at_ (x+e1) (y+e2)) (C.add c ⟨1,1⟩):=by
 obtain ⟨_,k2,_,_⟩:=(go_diag F.negb).1 h2
 rw [show x+b1 + -b1+e1=x+e1 by omega,show y+b2 + -b2+e2=y+e2 by omega] at k2
 exact .less (h.snoc (go_E1 F.e (go_straight F.e h1.1 k2))) (by decide)
theorem turn_Aback {g : G} {p : Nat} {c : C} {x y : Int} (h : Walk g.E p (g.at_ x y) c) :
    Turn g p (g.at_ x y) (C.add c ⟨0,2⟩):=.less (d':=C.zero) (by rwa [C.add_zero]) (by decide)
theorem turn_AB {g : G} {p : Nat} {c : C} {x y b1 b2 e1 e2 : Int} (F : Frame b1 b2 e1 e2) (h : Walk g.E p (g.at_ x y) c) (h1 : g.go x y (b1+e1) (b2+e2)) :
    Turn g p (g.at_ (x+e1) (y+e2)) (C.add c ⟨1,1⟩):=by
 obtain ⟨k1,_,_,k4⟩:=(go_diag F).1 h1
 exact .less (h.snoc (go_E1 F.e (go_straight F.e k1 k4))) (by decide)
theorem Frame.swap {b1 b2 e1 e2:Int} (h:Frame b1 b2 e1 e2):Frame e1 e2 b1 b2:=by unfold Frame at *;omega
theorem turn_AA {g : G} {p : Nat} {c : C} {x y b1 b2 e1 e2 : Int} (F : Frame b1 b2 e1 e2) (h : Walk g.E p (g.at_ x y) c) (h1 : g.go x y (b1+e1) (b2+e2)) (h2 : g.go (x+(b1+e1)) (y+(b2+e2)) (b1-e1) (b2-e2)) :
    Turn g p (g.at_ (x+b1+b1) (y+b2+b2)) (C.add c ⟨0,2⟩):=by
 obtain ⟨k1,_,k3,_⟩:=(go_diag F).1 h1;have h2':g.go (x+(b1+e1)) (y+(b2+e2)) (b1+-e1) (b2+-e2):=h2;obtain ⟨_,l2,_,_⟩:=(go_diag F.neg).1 h2'
 rw [show x+(b1+e1)+b1 + -e1=x+b1+b1 by omega,show y+(b2+e2)+b2 + -e2=y+b2+b2 by omega] at l2
 have w1:=h.snoc (go_E1 F.b (go_straight F.b k1 k3));have w2:=w1.snoc (go_E1 F.b (go_straight F.b k3 l2));rw [C.add_assoc] at w2
 exact .less w2 (by decide)
theorem turn_BAD {g : G} {p : Nat} {b1 b2 e1 e2 : Int} (F : Frame b1 b2 e1 e2) : ∀ (k : Nat) (c : C) (x y x' y' : Int), Walk g.E p (g.at_ x y) c → g.go x y b1 b2 →
    Rep g (b1+e1) (b2+e2) k (x+b1) (y+b2) x' y'→g.go x' y' e1 e2→Turn g p (g.at_ (x'+e1) (y'+e2)) (C.add c ⟨2,k⟩)
 | 0,c,x,y,x',y',h,h1,h2,h3=>by cases h2;exact turn_BD F h h1 h3
 | k+1,c,x,y,x',y',h,h1,h2,h3=>by
  cases h2 with
  | cons h2 r=>
  obtain ⟨q1,q2,q3,q4⟩:=(go_diag F).1 h2
  cases hm:g.op (x+e1) (y+e2) with
  | true=>
   have hd:g.go x y (b1+e1) (b2+e2):=(go_diag F).2 ⟨h1.1,q4,q1,hm⟩;have w1:=h.snoc (go_E2 F.a hd)
   have hb:g.go (x+(b1+e1)) (y+(b2+e2)) b1 b2:=go_straight F.b (by rw [show x+(b1+e1)=x+b1+e1 by omega,show y+(b2+e2)=y+b2+e2 by omega];exact q4)
    (by rw [show x+(b1+e1)+b1=x+b1+b1+e1 by omega,show y+(b2+e2)+b2=y+b2+b2+e2 by omega];exact q2)
   have r':Rep g (b1+e1) (b2+e2) k (x+(b1+e1)+b1) (y+(b2+e2)+b2) x' y':=by
    rw [show x+(b1+e1)+b1=x+b1+(b1+e1) by omega,show y+(b2+e2)+b2=y+b2+(b2+e2) by omega];exact r
   have:=turn_BAD F k _ _ _ _ _ w1 hb r' h3
   rwa [C.add_assoc,show C.add ⟨0,1⟩ ⟨2,(k:Int)⟩=⟨2,((k+1:Nat):Int)⟩ from C.ext' rfl (by simp only [C.add];omega)] at this
  | false=>
   have w2:=(Rep.walk2 F.a (.cons h2 r)).snoc (go_E1 F.e h3)
   refine .at (corner_fr F.negb h2.1 ?_ ?_ q4) (h.snoc (go_E1 F.b h1)) w2 ?_ (add_ne_zero (wnn h) (by decide)) (add_ne_zero ⟨by simp only;omega,by simp only;omega⟩ (by decide))
   ·rw [show x+b1 + -b1+e1=x+e1 by omega,show y+b2 + -b2+e2=y+e2 by omega];exact hm
   ·rw [show x+b1 + -b1=x by omega,show y+b2 + -b2=y by omega];exact h1.1
   ·exact C.ext' (by simp only [C.add];omega) (by simp only [C.add];omega)
theorem turn_ABA {g : G} {p : Nat} {b1 b2 e1 e2 : Int} (F : Frame b1 b2 e1 e2) : ∀ (k : Nat) (c : C) (x y x' y' : Int), Walk g.E p (g.at_ x y) c → g.go x y (b1+e1) (b2+e2) →
    Rep g b1 b2 k (x+(b1+e1)) (y+(b2+e2)) x' y'→g.go x' y' (b1-e1) (b2-e2)→Turn g p (g.at_ (x'+(b1-e1)) (y'+(b2-e2))) (C.add c ⟨k,2⟩)
 | 0,c,x,y,x',y',h,h1,h2,h3=>by
  cases h2
  have:=turn_AA F h h1 h3
  rw [show x+(b1+e1)+(b1-e1)=x+b1+b1 by omega,show y+(b2+e2)+(b2-e2)=y+b2+b2 by omega];exact this
 | k+1,c,x,y,x',y',h,h1,h2,h3=>by
  cases h2 with
  | cons h2 r=>
  obtain ⟨q1,q2,q3,q4⟩:=(go_diag F).1 h1
  have a1:g.op (x+b1+e1+b1) (y+b2+e2+b2)=true:=by have:=h2.2.1;rwa [show x+(b1+e1)+b1=x+b1+e1+b1 by omega,show y+(b2+e2)+b2=y+b2+e2+b2 by omega] at this
  cases hm:g.op (x+b1+b1) (y+b2+b2) with
  | true=>
   have w1:=h.snoc (go_E1 F.b (go_straight F.b q1 q3))
   have hd:g.go (x+b1) (y+b2) (b1+e1) (b2+e2):=(go_diag F).2 ⟨q3,by rw [show x+b1+b1+e1=x+b1+e1+b1 by omega,show y+b2+b2+e2=y+b2+e2+b2 by omega];exact a1,hm,q2⟩
   have r':Rep g b1 b2 k (x+b1+(b1+e1)) (y+b2+(b2+e2)) x' y':=by
    rw [show x+b1+(b1+e1)=x+(b1+e1)+b1 by omega,show y+b2+(b2+e2)=y+(b2+e2)+b2 by omega];exact r
   have:=turn_ABA F k _ _ _ _ _ w1 hd r' h3
   rwa [C.add_assoc,show C.add ⟨1,0⟩ ⟨(k:Int),2⟩=⟨((k+1:Nat):Int),2⟩ from C.ext' (by simp only [C.add];omega) rfl] at this
  | false=>
   have h3':g.go x' y' (b1+-e1) (b2+-e2):=h3;have w2:=(Rep.walk1 F.b (.cons h2 r)).snoc (go_E2 F.neg.a h3')
   refine .at (corner_fr F.neg h2.1 ?_ h2.2.1 ?_) (h.snoc (go_E2 F.a h1)) w2 ?_ (add_ne_zero (wnn h) (by decide)) (add_ne_zero ⟨by simp only;omega,by simp only;omega⟩ (by decide))
   ·rw [show x+(b1+e1)+b1 + -e1=x+b1+b1 by omega,show y+(b2+e2)+b2 + -e2=y+b2+b2 by omega];exact hm
   ·rw [show x+(b1+e1) + -e1=x+b1 by omega,show y+(b2+e2) + -e2=y+b2 by omega];exact q3
   ·exact C.ext' (by simp only [C.add];omega) (by simp only [C.add];omega)
theorem Rep.last {g:G} {u v:Int} {k:Nat} {x y x' y':Int} (h:Rep g u v k x y x' y'):(k=0∧x'=x∧y'=y)∨∃j mx my,k=j+1∧Rep g u v j x y mx my∧g.go mx my u v∧x'=mx+u∧y'=my+v:=by
 induction h with
 | nil=>exact .inl ⟨rfl,rfl,rfl⟩
 | cons h1 r ih=>
  rcases ih with ⟨rfl,rfl,rfl⟩ | ⟨j,mx,my,rfl,r',h2,e1,e2⟩
  ·exact .inr ⟨0,_,_,rfl,.nil _ _,h1,rfl,rfl⟩
  ·exact .inr ⟨j+1,mx,my,rfl,.cons h1 r',h2,e1,e2⟩
inductive Tail (g:G) (p:Nat) (b1 b2 e1 e2 x y i j:Int) (c':C):Prop
 | zero (hi:i=0) (hj:j=0)
 | b (c:C) (mx my:Int) (h:Walk g.E p (g.at_ mx my) c) (k:g.go mx my b1 b2) (ex:x=mx+b1) (ey:y=my+b2) (ec:c'=C.add c ⟨1,0⟩) (hi:i=0) (hj:0<j)
 | a (c:C) (mx my:Int) (h:Walk g.E p (g.at_ mx my) c) (k:g.go mx my (b1+e1) (b2+e2)) (ex:x=mx+(b1+e1)) (ey:y=my+(b2+e2)) (ec:c'=C.add c ⟨0,1⟩) (hi:0<i) (hj:j=0)
 | ab (c:C) (k:Nat) (mx my:Int) (h:Walk g.E p (g.at_ mx my) c) (l:g.go mx my (b1+e1) (b2+e2)) (r:Rep g b1 b2 (k+1) (mx+(b1+e1)) (my+(b2+e2)) x y) (ec:c'=C.add c ⟨((k+1:Nat):Int),1⟩) (hi:0<i) (hj:0<j)
 | ba (c:C) (k:Nat) (mx my:Int) (h:Walk g.E p (g.at_ mx my) c) (l:g.go mx my b1 b2) (r:Rep g (b1+e1) (b2+e2) (k+1) (mx+b1) (my+b2) x y) (ec:c'=C.add c ⟨1,((k+1:Nat):Int)⟩) (hi:0<i) (hj:0<j)
structure Inv (g:G) (p:Nat) (x y:Int) (b1 b2 e1 e2 i j:Int):Prop where
 F:Frame b1 b2 e1 e2
 hi:0≤i
 hj:0≤j
 ex:x=g.X p+i*(b1+e1)+j*b1
 ey:y=g.Y p+i*(b2+e2)+j*b2
 w:Walk g.E p (g.at_ x y) ⟨j,i⟩
 t:Tail g p b1 b2 e1 e2 x y i j ⟨j,i⟩
theorem frame_cases {b1 b2 e1 e2 u v : Int} (F : Frame b1 b2 e1 e2) :
    ((u=1∧v=0)∨(u = -1∧v=0)∨(u=0∧v=1)∨(u=0∧v = -1)→(u=b1∧v=b2)∨(u = -b1∧v = -b2)∨(u=e1∧v=e2)∨(u = -e1∧v = -e2)) ∧
    ((u=1∨u = -1)∧(v=1∨v = -1)→(u=b1+e1∧v=b2+e2)∨(u=b1-e1∧v=b2-e2)∨(u = -b1+e1∧v = -b2+e2)∨(u = -b1-e1∧v = -b2-e2)):=by
 unfold Frame at F;constructor <;> intro h <;> omega
theorem Inv.oct {g:G} {p:Nat} {x y b1 b2 e1 e2 i j:Int} (H:Inv g p x y b1 b2 e1 e2 i j):octI (x-g.X p) (y-g.Y p)=⟨j,i⟩:=by
 obtain ⟨F,hi,hj,ex,ey,_,_⟩:=H;unfold octI;unfold Frame at F
 rcases F with ⟨rfl | rfl,rfl,rfl,rfl | rfl⟩ | ⟨rfl,rfl | rfl,rfl | rfl,rfl⟩ <;> split <;> refine C.ext' ?_ ?_ <;> simp only <;> omega
theorem turn_eq {g:G} {p:Nat} {x y x' y':Int} {c c':C} (h:Turn g p (g.at_ x y) c) (ex:x'=x) (ey:y'=y) (ec:c'=c):Turn g p (g.at_ x' y') c':=by subst ex;subst ey;subst ec;exact h
theorem go_eq {g:G} {x y u v x' y' u' v':Int} (h:g.go x y u v) (ex:x'=x) (ey:y'=y) (eu:u'=u) (ev:v'=v):g.go x' y' u' v':=by subst ex;subst ey;subst eu;subst ev;exact h
theorem ceq {a b c d:Int} (h:a=c) (k:b=d):(⟨a,b⟩:C)=⟨c,d⟩:=by rw [h,k]
theorem lastB {g : G} {p : Nat} {c : C} {mx my b1 b2 e1 e2 u v : Int} (F : Frame b1 b2 e1 e2) (h : Walk g.E p (g.at_ mx my) c) (k : g.go mx my b1 b2) (st : g.go (mx+b1) (my+b2) u v)
    (hs:(u = -b1∧v = -b2)∨(u=e1∧v=e2)∨(u = -e1∧v = -e2)):Turn g p (g.at_ (mx+b1+u) (my+b2+v)) (C.add (C.add c ⟨1,0⟩) ⟨1,0⟩):=by
 have e:C.add (C.add c ⟨1,0⟩) ⟨1,0⟩=C.add c ⟨2,0⟩:=by rw [C.add_assoc];rfl
 rw [e]
 rcases hs with ⟨rfl,rfl⟩ | ⟨rfl,rfl⟩ | ⟨rfl,rfl⟩
 ·exact turn_eq (turn_Bback F h) (by omega) (by omega) rfl
 ·exact turn_BD F h k st
 ·exact turn_BD F.neg h k st
theorem lastB' {g : G} {p : Nat} {c : C} {mx my b1 b2 e1 e2 u v : Int} (F : Frame b1 b2 e1 e2) (h : Walk g.E p (g.at_ mx my) c) (k : g.go mx my b1 b2) (st : g.go (mx+b1) (my+b2) u v)
    (hs:(u = -b1+e1∧v = -b2+e2)∨(u = -b1-e1∧v = -b2-e2)):Turn g p (g.at_ (mx+b1+u) (my+b2+v)) (C.add (C.add c ⟨1,0⟩) ⟨0,1⟩):=by
 have e:C.add (C.add c ⟨1,0⟩) ⟨0,1⟩=C.add c ⟨1,1⟩:=by rw [C.add_assoc];rfl
 rw [e]
 rcases hs with ⟨rfl,rfl⟩ | ⟨rfl,rfl⟩
 ·exact turn_eq (turn_BDB F h k st) (by omega) (by omega) rfl
 ·exact turn_eq (turn_BDB F.neg h k st) (by omega) (by omega) rfl
theorem lastA {g : G} {p : Nat} {c : C} {mx my b1 b2 e1 e2 u v : Int} (F : Frame b1 b2 e1 e2) (h : Walk g.E p (g.at_ mx my) c) (k : g.go mx my (b1+e1) (b2+e2))
    (hs:(u = -b1∧v = -b2)∨(u = -e1∧v = -e2)):Turn g p (g.at_ (mx+(b1+e1)+u) (my+(b2+e2)+v)) (C.add (C.add c ⟨0,1⟩) ⟨1,0⟩):=by
 have e:C.add (C.add c ⟨0,1⟩) ⟨1,0⟩=C.add c ⟨1,1⟩:=by rw [C.add_assoc];rfl
 rw [e]
 rcases hs with ⟨rfl,rfl⟩ | ⟨rfl,rfl⟩
 ·exact turn_eq (turn_AB F h k) (by omega) (by omega) rfl
 ·exact turn_eq (turn_AB F.swap h (go_eq k rfl rfl (by omega) (by omega))) (by omega) (by omega) rfl
theorem lastA' {g : G} {p : Nat} {c : C} {mx my b1 b2 e1 e2 u v : Int} (F : Frame b1 b2 e1 e2) (h : Walk g.E p (g.at_ mx my) c) (k : g.go mx my (b1+e1) (b2+e2)) (st : g.go (mx+(b1+e1)) (my+(b2+e2)) u v)
    (hs:(u=b1-e1∧v=b2-e2)∨(u = -b1+e1∧v = -b2+e2)∨(u = -b1-e1∧v = -b2-e2)):Turn g p (g.at_ (mx+(b1+e1)+u) (my+(b2+e2)+v)) (C.add (C.add c ⟨0,1⟩) ⟨0,1⟩):=by
 have e:C.add (C.add c ⟨0,1⟩) ⟨0,1⟩=C.add c ⟨0,2⟩:=by rw [C.add_assoc];rfl
 rw [e]
 rcases hs with ⟨rfl,rfl⟩ | ⟨rfl,rfl⟩ | ⟨rfl,rfl⟩
 ·exact turn_eq (turn_AA F h k st) (by omega) (by omega) rfl
 ·exact turn_eq (turn_AA F.swap h (go_eq k rfl rfl (by omega) (by omega)) (go_eq st (by omega) (by omega) (by omega) (by omega))) (by omega) (by omega) rfl
 ·exact turn_eq (turn_Aback h) (by omega) (by omega) rfl
theorem succ_mul' (i b:Int):(i+1)*b=i*b+b:=by rw [Int.add_mul,Int.one_mul]
theorem inv_straight {g : G} {p : Nat} {x y u v b1 b2 e1 e2 i j : Int} (H : Inv g p x y b1 b2 e1 e2 i j) (st : g.go x y u v) (hu : (u = 1 ∧ v = 0) ∨ (u = -1 ∧ v = 0) ∨ (u = 0 ∧ v = 1) ∨ (u = 0 ∧ v = -1)) :
    (∃b1 b2 e1 e2 j',Inv g p (x+u) (y+v) b1 b2 e1 e2 i j'∧j'=j+1)∨Turn g p (g.at_ (x+u) (y+v)) (C.add ⟨j,i⟩ ⟨1,0⟩):=by
 obtain ⟨F,hi,hj,ex,ey,w,t⟩:=H;have hc:=(frame_cases F).1 hu
 have w':Walk g.E p (g.at_ (x+u) (y+v)) ⟨j+1,i⟩:=by
  have:=w.snoc (go_E1 hu st);rwa [show C.add ⟨j,i⟩ ⟨1,0⟩=⟨j+1,i⟩ from ceq rfl (Int.add_zero _)] at this
 have e1':=succ_mul' j b1;have e2':=succ_mul' j b2
 cases t with
 | zero h1 h2=>
  subst h1;subst h2
  obtain ⟨d1,d2,F'⟩:∃d1 d2,Frame u v d1 d2:=by
   rcases hu with ⟨rfl,rfl⟩ | ⟨rfl,rfl⟩ | ⟨rfl,rfl⟩ | ⟨rfl,rfl⟩
   ·exact ⟨0,1,.inl ⟨.inl rfl,rfl,rfl,.inl rfl⟩⟩
   ·exact ⟨0,1,.inl ⟨.inr rfl,rfl,rfl,.inl rfl⟩⟩
   ·exact ⟨1,0,.inr ⟨rfl,.inl rfl,.inl rfl,rfl⟩⟩
   ·exact ⟨1,0,.inr ⟨rfl,.inr rfl,.inl rfl,rfl⟩⟩
  refine .inl ⟨u,v,d1,d2,1,⟨F',by omega,by omega,by omega,by omega,w',.b ⟨0,0⟩ x y w st rfl rfl rfl rfl (by omega)⟩,rfl⟩
 | b c mx my h k ex' ey' ec h1 h2=>
  subst ex';subst ey'
  rcases hc with ⟨rfl,rfl⟩ | hc
  ·exact .inl ⟨_,_,_,_,_,⟨F,hi,by omega,by omega,by omega,w',.b _ _ _ w st rfl rfl (ceq rfl (Int.add_zero _).symm) h1 (by omega)⟩,rfl⟩
  ·right;rw [ec];exact lastB F h k st hc
 | a c mx my h k ex' ey' ec h1 h2=>
  subst ex';subst ey';subst h2
  rcases hc with ⟨rfl,rfl⟩ | hc | ⟨rfl,rfl⟩ | hc
  ·refine .inl ⟨_,_,_,_,_,⟨F,hi,by omega,by omega,by omega,w',.ab c 0 mx my h k (.cons st (.nil _ _)) ?_ h1 (by omega)⟩,rfl⟩
   have q1:=congrArg C.s ec;have q2:=congrArg C.d ec;simp only [C.add] at q1 q2
   exact C.ext' (by simp only [C.add];omega) (by simp only [C.add];omega)
  ·right;rw [ec];exact lastA F h k (.inl hc)
  ·refine .inl ⟨_,_,_,_,_,⟨F.swap,hi,by omega,by rw [Int.add_comm u b1];omega,by rw [Int.add_comm v b2];omega,w',.ab c 0 mx my h (go_eq k rfl rfl (by omega) (by omega)) ?_ ?_ h1 (by omega)⟩,rfl⟩
   ·rw [Int.add_comm u b1,Int.add_comm v b2];exact .cons st (.nil _ _)
   ·have q1:=congrArg C.s ec;have q2:=congrArg C.d ec
    simp only [C.add] at q1 q2
    exact C.ext' (by simp only [C.add];omega) (by simp only [C.add];omega)
  ·right;rw [ec];exact lastA F h k (.inr hc)
 | ab c k mx my h l r ec h1 h2=>
  rcases hc with ⟨rfl,rfl⟩ | hc
  ·refine .inl ⟨_,_,_,_,_,⟨F,hi,by omega,by omega,by omega,w',.ab c (k+1) mx my h l (r.snoc st) ?_ h1 (by omega)⟩,rfl⟩
   have q1:=congrArg C.s ec;have q2:=congrArg C.d ec;simp only [C.add] at q1 q2
   exact C.ext' (by simp only [C.add];omega) (by simp only [C.add];omega)
  ·right
   rcases r.last with ⟨z,_⟩ | ⟨k',nx,ny,z,r',l',ex',ey'⟩
   ·omega
   ·obtain rfl:k'=k:=by omega
    subst ex';subst ey';have w2:=(h.snoc (go_E2 F.a l)).trans (r'.walk1 F.b);have:=lastB F w2 l' st hc;refine turn_eq this rfl rfl ?_;have q1:=congrArg C.s ec;have q2:=congrArg C.d ec;simp only [C.add] at q1 q2
    exact C.ext' (by simp only [C.add];omega) (by simp only [C.add];omega)
 | ba c k mx my h l r ec h1 h2=>
  have q1:=congrArg C.s ec;have q2:=congrArg C.d ec;simp only [C.add] at q1 q2
  rcases r.last with ⟨z,_⟩ | ⟨k',nx,ny,z,r',l',ex',ey'⟩
  ·omega
  obtain rfl:k'=k:=by omega
  have w2:=(h.snoc (go_E1 F.b l)).trans (r'.walk2 F.a)
  rcases hc with ⟨rfl,rfl⟩ | hc | ⟨rfl,rfl⟩ | hc
  ·refine .inl ⟨_,_,_,_,_,⟨F,hi,by omega,by omega,by omega,w',.ab _ 0 nx ny w2 l' ?_ ?_ h1 (by omega)⟩,rfl⟩
   ·rw [←ex',←ey'];exact .cons st (.nil _ _)
   ·exact C.ext' (by simp only [C.add];omega) (by simp only [C.add];omega)
  ·right;subst ex';subst ey'
   refine turn_eq (lastA F w2 l' (.inl hc)) rfl rfl ?_
   exact C.ext' (by simp only [C.add];omega) (by simp only [C.add];omega)
  ·right
   refine turn_eq (turn_BAD F (k'+1) c mx my x y h l r st) rfl rfl ?_
   exact C.ext' (by simp only [C.add];omega) (by simp only [C.add];omega)
  ·right;subst ex';subst ey'
   refine turn_eq (lastA F w2 l' (.inr hc)) rfl rfl ?_
   exact C.ext' (by simp only [C.add];omega) (by simp only [C.add];omega)
theorem inv_diag {g : G} {p : Nat} {x y u v b1 b2 e1 e2 i j : Int} (H : Inv g p x y b1 b2 e1 e2 i j) (st : g.go x y u v) (hu : (u = 1 ∨ u = -1) ∧ (v = 1 ∨ v = -1)) :
    (∃b1 b2 e1 e2 i',Inv g p (x+u) (y+v) b1 b2 e1 e2 i' j∧i'=i+1)∨Turn g p (g.at_ (x+u) (y+v)) (C.add ⟨j,i⟩ ⟨0,1⟩):=by
 obtain ⟨F,hi,hj,ex,ey,w,t⟩:=H;have hc:=(frame_cases F).2 hu
 have w':Walk g.E p (g.at_ (x+u) (y+v)) ⟨j,i+1⟩:=by
  have:=w.snoc (go_E2 hu st);rwa [show C.add ⟨j,i⟩ ⟨0,1⟩=⟨j,i+1⟩ from ceq (Int.add_zero _) rfl] at this
 have e1':=succ_mul' i (b1+e1);have e2':=succ_mul' i (b2+e2)
 cases t with
 | zero h1 h2=>
  subst h1;subst h2
  refine .inl ⟨u,0,0,v,1,⟨.inl ⟨hu.1,rfl,rfl,hu.2⟩,by omega,by omega,by omega,by omega,w',.a ⟨0,0⟩ x y w (go_eq st rfl rfl (by omega) (by omega)) (by omega) (by omega) rfl (by omega) rfl⟩,rfl⟩
 | b c mx my h k ex' ey' ec h1 h2=>
  subst ex';subst ey';subst h1;have q1:=congrArg C.s ec;have q2:=congrArg C.d ec;simp only [C.add] at q1 q2
  rcases hc with ⟨rfl,rfl⟩ | ⟨rfl,rfl⟩ | hc
  ·exact .inl ⟨_,_,_,_,_,⟨F,by omega,hj,by omega,by omega,w',.ba c 0 mx my h k (.cons st (.nil _ _)) (C.ext' (by simp only [C.add];omega) (by simp only [C.add];omega)) (by omega) h2⟩,rfl⟩
  ·exact .inl ⟨b1,b2,-e1,-e2,_,⟨F.neg,by omega,hj,by omega,by omega,w',.ba c 0 mx my h k (.cons st (.nil _ _)) (C.ext' (by simp only [C.add];omega) (by simp only [C.add];omega)) (by omega) h2⟩,rfl⟩
  ·right;rw [ec];exact lastB' F h k st hc
 | a c mx my h k ex' ey' ec h1 h2=>
  subst ex';subst ey'
  rcases hc with ⟨rfl,rfl⟩ | hc
  ·exact .inl ⟨_,_,_,_,_,⟨F,by omega,hj,by omega,by omega,w',.a _ _ _ w st rfl rfl (ceq (Int.add_zero _).symm rfl) (by omega) h2⟩,rfl⟩
  ·right;rw [ec];exact lastA' F h k st hc
 | ab c k mx my h l r ec h1 h2=>
  have q1:=congrArg C.s ec;have q2:=congrArg C.d ec;simp only [C.add] at q1 q2
  rcases r.last with ⟨z,_⟩ | ⟨k',nx,ny,z,r',l',ex',ey'⟩
  ·omega
  obtain rfl:k'=k:=by omega
  have w2:=(h.snoc (go_E2 F.a l)).trans (r'.walk1 F.b)
  rcases hc with ⟨rfl,rfl⟩ | ⟨rfl,rfl⟩ | hc
  ·refine .inl ⟨_,_,_,_,_,⟨F,by omega,hj,by omega,by omega,w',.ba _ 0 nx ny w2 l' ?_ ?_ (by omega) h2⟩,rfl⟩
   ·rw [←ex',←ey'];exact .cons st (.nil _ _)
   ·exact C.ext' (by simp only [C.add];omega) (by simp only [C.add];omega)
  ·right
   refine turn_eq (turn_ABA F (k'+1) c mx my x y h l r st) rfl rfl ?_
   exact C.ext' (by simp only [C.add];omega) (by simp only [C.add];omega)
  ·right;subst ex';subst ey'
   refine turn_eq (lastB' F w2 l' st hc) rfl rfl ?_
   exact C.ext' (by simp only [C.add];omega) (by simp only [C.add];omega)
 | ba c k mx my h l r ec h1 h2=>
  have q1:=congrArg C.s ec;have q2:=congrArg C.d ec;simp only [C.add] at q1 q2
  rcases hc with ⟨rfl,rfl⟩ | hc
  ·refine .inl ⟨_,_,_,_,_,⟨F,by omega,hj,by omega,by omega,w',.ba c (k+1) mx my h l (r.snoc st) ?_ (by omega) h2⟩,rfl⟩
   exact C.ext' (by simp only [C.add];omega) (by simp only [C.add];omega)
  ·right
   rcases r.last with ⟨z,_⟩ | ⟨k',nx,ny,z,r',l',ex',ey'⟩
   ·omega
   ·obtain rfl:k'=k:=by omega
    subst ex';subst ey';have w2:=(h.snoc (go_E1 F.b l)).trans (r'.walk2 F.a);refine turn_eq (lastA' F w2 l' st hc) rfl rfl ?_
    exact C.ext' (by simp only [C.add];omega) (by simp only [C.add];omega)
theorem turn_main {g:G} {p e:Nat} {c:C} (h:Walk g.E p e c):(∃b1 b2 e1 e2 i j,Inv g p (g.X e) (g.Y e) b1 b2 e1 e2 i j∧c=⟨j,i⟩)∨Turn g p e c:=by
 induction h with
 | nil=>exact .inl ⟨1,0,0,1,0,0,⟨.inl ⟨.inl rfl,rfl,rfl,.inl rfl⟩,by omega,by omega,by omega,by omega,by rw [at_of p rfl rfl];exact .nil _,.zero rfl rfl⟩,rfl⟩
 | @snoc e t c d w ed ih=>
  rcases ih with ⟨b1,b2,e1,e2,i,j,H,rfl⟩ | T
  ·obtain ⟨_,dd,hd,hm,rfl,rfl⟩:=ed
   obtain ⟨hm',hx,hy⟩:=mayC_to hm
   have st:g.go (g.X e) (g.Y e) (dxN dd) (dyN dd):=by have:=hm;unfold mayC at this;exact may_iff.1 this
   rw [hx,hy]
   rcases dN_cases hd with ⟨k1,k2⟩ | ⟨k1,k2⟩
   ·rw [k1]
    rcases inv_straight H st k2 with ⟨b1,b2,e1,e2,j',H',rfl⟩ | T
    ·exact .inl ⟨_,_,_,_,_,_,H',ceq rfl (Int.add_zero _)⟩
    ·right;rwa [←hx,←hy,at_of _ rfl rfl] at T
   ·rw [k1]
    rcases inv_diag H st k2 with ⟨b1,b2,e1,e2,i',H',rfl⟩ | T
    ·exact .inl ⟨_,_,_,_,_,_,H',ceq (Int.add_zero _) rfl⟩
    ·right;rwa [←hx,←hy,at_of _ rfl rfl] at T
  ·exact .inr (T.back (.single ed))
theorem turn_near {g:G} {p e:Nat} {c:C} (h:Walk g.E p e c):c=g.oct p e∨Turn g p e c:=by
 rcases turn_main h with ⟨b1,b2,e1,e2,i,j,H,rfl⟩ | T
 ·left;rw [oct_symm];exact H.oct.symm
 ·exact .inr T
theorem dist_corner {g:G} {p e:Nat} {c:C} (h:Dist g.E p e c) (hn:c≠g.oct p e):∃q c1 c2,g.Corner q∧Dist g.E p q c1∧Dist g.E q e c2∧C.add c1 c2=c∧c1≠C.zero∧c2≠C.zero:=by
 rcases turn_near h.1 with rfl | ⟨q,c1,c2,h1,h2,h3,h4,h5,h6⟩ | ⟨c',h1,h2⟩
 ·exact absurd rfl hn
 ·refine ⟨q,c1,c2,h1,⟨h2,fun d k=>?_⟩,⟨h3,fun d k=>?_⟩,h4,h5,h6⟩
  ·have:=h.2 _ (k.trans h3);rw [←h4] at this;exact (C.add_le_right _).1 this
  ·have:=h.2 _ (h2.trans k);rw [←h4] at this;exact (C.add_le_left _).1 this
 ·exact absurd h2 (h.2 _ h1)
end G
end FR
namespace FR
theorem walk_zero {g:G} {a b:Nat} {c:C} (h:Walk g.E a b c) (h0:c=C.zero):b=a:=by
 rcases h.inv with ⟨e,_⟩ | ⟨m,d,e,h1,h2,h3⟩
 ·exact e
 ·exfalso
  have n1:=G.wnn h1;obtain ⟨_,k,_,_,_,he⟩:=h2;rw [h0] at h3;have e1:=congrArg C.s h3;have e2:=congrArg C.d h3;obtain ⟨p1,p2⟩:=n1
  rcases Nat.mod_two_eq_zero_or_one k with q | q
  ·have:stepC k=⟨1,0⟩:=by unfold stepC;rw [if_neg (by omega)]
   rw [he,this] at e1;simp only [C.add,C.zero] at e1;omega
  ·have:stepC k=⟨0,1⟩:=by unfold stepC;rw [if_pos q]
   rw [he,this] at e2;simp only [C.add,C.zero] at e2;omega
namespace G
variable {g:G}
def Mid (g:G) (a b k:Nat):Prop:=∃p q,Walk g.E a k p∧Walk g.E k b q∧C.add p q=g.oct a b
def Direct (g:G) (a b:Nat):Prop:=g.Near a b∧∀k,g.Corner k→k≠a→k≠b→¬g.Mid a b k
theorem mid_symm {a b k:Nat}:g.Mid a b k↔g.Mid b a k:=by
 have key:∀a b,g.Mid a b k→g.Mid b a k:=by
  rintro a b ⟨p,q,h1,h2,h3⟩
  exact ⟨q,p,Walk.rev (E:=g.E) (fun _ _ _ he=>E_symm he) h2,Walk.rev (E:=g.E) (fun _ _ _ he=>E_symm he) h1,by rw [C.add_comm,h3,oct_symm]⟩
 exact ⟨key a b,key b a⟩
theorem direct_symm {a b:Nat}:g.Direct a b↔g.Direct b a:=by
 have key:∀a b,g.Direct a b→g.Direct b a:=fun a b ⟨h1,h2⟩=>⟨near_symm.1 h1,fun k hk ha hb hm=>h2 k hk hb ha (mid_symm.1 hm)⟩
 exact ⟨key a b,key b a⟩
def GE (g:G) (a b:Nat) (c:C):Prop:=g.Corner a∧g.Corner b∧a≠b∧g.Direct a b∧c=g.oct a b
theorem GE_nn {a b:Nat} {c:C} (h:g.GE a b c):C.Nn c:=h.2.2.2.2▸oct_nn g a b
theorem GE_symm {a b:Nat} {c:C} (h:g.GE a b c):g.GE b a c:=⟨h.2.1,h.1,Ne.symm h.2.2.1,direct_symm.1 h.2.2.2.1,h.2.2.2.2.trans (oct_symm g a b)⟩
theorem GE_walk {a b:Nat} {c:C} (h:Walk g.GE a b c):Walk g.E a b c:=by
 induction h with
 | nil=>exact .nil _
 | snoc _ he ih=>rw [he.2.2.2.2];exact ih.trans he.2.2.2.1.1
theorem sum_lt {c1 c2 c:C} (h1:C.Nn c1) (h2:C.Nn c2) (h:C.add c1 c2=c) (hz:c2≠C.zero):(c1.s+c1.d).toNat<(c.s+c.d).toNat:=by
 obtain ⟨a1,a2⟩:=h1;obtain ⟨b1,b2⟩:=h2
 have:0<c2.s+c2.d:=by
  apply Classical.byContradiction
  intro h3
  exact hz (C.ext' (by simp only [C.zero];omega) (by simp only [C.zero];omega))
 have e1:=congrArg C.s h;have e2:=congrArg C.d h;simp only [C.add] at e1 e2;omega
theorem corners_enough:∀(n:Nat) {a b:Nat} {c:C},(c.s+c.d).toNat≤n→g.Corner a→g.Corner b→Dist g.E a b c→Walk g.GE a b c:=by
 intro n
 induction n using Nat.strongRecOn with
 | _ n ih=>
  intro a b c hn ha hb h
  have split:∀ {q:Nat} {c1 c2:C},g.Corner q→Dist g.E a q c1→Dist g.E q b c2→C.add c1 c2=c→c1≠C.zero→c2≠C.zero→Walk g.GE a b c:=by
   intro q c1 c2 hq h1 h2 e z1 z2;have n1:=wnn h1.1;have n2:=wnn h2.1;have l1:=sum_lt n1 n2 e z2;have l2:=sum_lt n2 n1 (c:=c) ((C.add_comm _ _).trans e) z1;have w1:=ih _ (Nat.lt_of_lt_of_le l1 hn) (Nat.le_refl _) ha hq h1;have w2:=ih _ (Nat.lt_of_lt_of_le l2 hn) (Nat.le_refl _) hq hb h2;rw [←e];exact w1.trans w2
  by_cases hc:c=g.oct a b
  ·by_cases hab:a=b
   ·subst hab
    rw [hc,oct_self];exact .nil _
   ·by_cases hd:g.Direct a b
    ·exact .single ⟨ha,hb,hab,hd,hc⟩
    ·have hnear:g.Near a b:=by unfold Near;rw [←hc];exact h.1
     have:∃k,g.Corner k∧k≠a∧k≠b∧g.Mid a b k:=by
      apply Classical.byContradiction
      intro hno
      exact hd ⟨hnear,fun k h1 h2 h3 h4=>hno ⟨k,h1,h2,h3,h4⟩⟩
     obtain ⟨k,hk,hka,hkb,p,q,h1,h2,h3⟩:=this;rw [←hc] at h3
     refine split hk ⟨h1,fun d k'=>?_⟩ ⟨h2,fun d k'=>?_⟩ h3 (fun e=>hka (walk_zero h1 e)) (fun e=>hkb (walk_zero h2 e).symm)
     ·have:=h.2 _ (k'.trans h2);rw [←h3] at this;exact (C.add_le_right _).1 this
     ·have:=h.2 _ (h1.trans k');rw [←h3] at this;exact (C.add_le_left _).1 this
  ·obtain ⟨q,c1,c2,hq,h1,h2,e,z1,z2⟩:=dist_corner h hc
   exact split hq h1 h2 e z1 z2
end G
end FR
namespace FR
namespace G
variable {g:G} {a b:Nat}
def dOk (g:G) (a b i j:Nat):Prop:=i<g.fI a b∧g.may (g.fx a b i j) (g.fy a b i j) (g.fdg a b)=true
def sOk (g:G) (a b i j:Nat):Prop:=j<g.fJ a b∧g.may (g.fx a b i j) (g.fy a b i j) (g.fst_ a b)=true
def Bef (i' j' i j:Nat):Prop:=i'<i∨(i'=i∧j'<j)
def OnS (g:G) (a b i j:Nat) (p q:Nat):Prop:=p≤g.fI a b∧q≤g.fJ a b∧((p=0∧q=0)∨(∃p',p=p'+1∧Bef p' q i j∧g.On a b p' q∧g.dOk a b p' q)∨(∃q',q=q'+1∧Bef p q' i j∧g.On a b p q'∧g.sOk a b p q'))
theorem ons_start {p q:Nat}:g.OnS a b 0 0 p q↔(p=0∧q=0):=by
 constructor
 ·rintro ⟨_,_,h | ⟨p',_,h,_⟩ | ⟨q',_,h,_⟩⟩
  ·exact h
  ·unfold Bef at h;omega
  ·unfold Bef at h;omega
 ·rintro ⟨rfl,rfl⟩;exact ⟨Nat.zero_le _,Nat.zero_le _,.inl ⟨rfl,rfl⟩⟩
theorem ons_at (hg:g.ok) (hb:b<g.n) (ha:a<g.n) {i j:Nat} (hi:i≤g.fI a b) (hj:j≤g.fJ a b):g.OnS a b i j i j↔g.On a b i j:=by
 rw [on_iff hg hb ha hi hj]
 constructor
 ·rintro ⟨_,_,h | ⟨p',h1,_,h2,h3⟩ | ⟨q',h1,_,h2,h3⟩⟩
  ·exact .inl h
  ·exact .inr (.inl ⟨p',h1,h2,h3.2⟩)
  ·exact .inr (.inr ⟨q',h1,h2,h3.2⟩)
 ·rintro (h | ⟨p',h1,h2,h3⟩ | ⟨q',h1,h2,h3⟩)
  ·exact ⟨hi,hj,.inl h⟩
  ·exact ⟨hi,hj,.inr (.inl ⟨p',h1,by unfold Bef;omega,h2,by omega,h3⟩)⟩
  ·exact ⟨hi,hj,.inr (.inr ⟨q',h1,by unfold Bef;omega,h2,by omega,h3⟩)⟩
theorem ons_no {i j p q:Nat} (h:¬g.On a b i j):g.OnS a b i (j+1) p q↔g.OnS a b i j p q:=by
 have key:∀p' q',g.On a b p' q'→(Bef p' q' i (j+1)↔Bef p' q' i j):=by
  intro p' q' ho;unfold Bef
  constructor
  ·intro hh
   by_cases e:p'=i∧q'=j
   ·rw [e.1,e.2] at ho;exact absurd ho h
   ·omega
  ·omega
 unfold OnS
 constructor
 ·rintro ⟨h1,h2,h' | ⟨p',x1,x2,x3,x4⟩ | ⟨q',x1,x2,x3,x4⟩⟩
  ·exact ⟨h1,h2,.inl h'⟩
  ·exact ⟨h1,h2,.inr (.inl ⟨p',x1,(key _ _ x3).1 x2,x3,x4⟩)⟩
  ·exact ⟨h1,h2,.inr (.inr ⟨q',x1,(key _ _ x3).1 x2,x3,x4⟩)⟩
 ·rintro ⟨h1,h2,h' | ⟨p',x1,x2,x3,x4⟩ | ⟨q',x1,x2,x3,x4⟩⟩
  ·exact ⟨h1,h2,.inl h'⟩
  ·exact ⟨h1,h2,.inr (.inl ⟨p',x1,(key _ _ x3).2 x2,x3,x4⟩)⟩
  ·exact ⟨h1,h2,.inr (.inr ⟨q',x1,(key _ _ x3).2 x2,x3,x4⟩)⟩
theorem ons_step {i j p q:Nat} (hi:i≤g.fI a b) (hj:j≤g.fJ a b) (h:g.On a b i j):g.OnS a b i (j+1) p q↔g.OnS a b i j p q∨(g.dOk a b i j∧p=i+1∧q=j)∨(g.sOk a b i j∧p=i∧q=j+1):=by
 constructor
 ·rintro ⟨h1,h2,h' | ⟨p',x1,x2,x3,x4⟩ | ⟨q',x1,x2,x3,x4⟩⟩
  ·exact .inl ⟨h1,h2,.inl h'⟩
  ·by_cases e:p'=i∧q=j
   ·obtain ⟨rfl,rfl⟩:=e
    exact .inr (.inl ⟨x4,x1,rfl⟩)
   ·exact .inl ⟨h1,h2,.inr (.inl ⟨p',x1,by unfold Bef at *;omega,x3,x4⟩)⟩
  ·by_cases e:p=i∧q'=j
   ·obtain ⟨rfl,rfl⟩:=e
    exact .inr (.inr ⟨x4,rfl,x1⟩)
   ·exact .inl ⟨h1,h2,.inr (.inr ⟨q',x1,by unfold Bef at *;omega,x3,x4⟩)⟩
 ·rintro (⟨h1,h2,h' | ⟨p',x1,x2,x3,x4⟩ | ⟨q',x1,x2,x3,x4⟩⟩ | ⟨x,rfl,rfl⟩ | ⟨x,rfl,rfl⟩)
  ·exact ⟨h1,h2,.inl h'⟩
  ·exact ⟨h1,h2,.inr (.inl ⟨p',x1,by unfold Bef at *;omega,x3,x4⟩)⟩
  ·exact ⟨h1,h2,.inr (.inr ⟨q',x1,by unfold Bef at *;omega,x3,x4⟩)⟩
  ·exact ⟨x.1,hj,.inr (.inl ⟨i,rfl,by unfold Bef;omega,h,x⟩)⟩
  ·exact ⟨hi,x.1,.inr (.inr ⟨j,rfl,by unfold Bef;omega,h,x⟩)⟩
theorem ons_row {i p q:Nat}:g.OnS a b i (g.fJ a b+1) p q↔g.OnS a b (i+1) 0 p q:=by
 unfold OnS
 constructor
 ·rintro ⟨h1,h2,h' | ⟨p',x1,x2,x3,x4⟩ | ⟨q',x1,x2,x3,x4⟩⟩
  ·exact ⟨h1,h2,.inl h'⟩
  ·exact ⟨h1,h2,.inr (.inl ⟨p',x1,by unfold Bef at *;omega,x3,x4⟩)⟩
  ·exact ⟨h1,h2,.inr (.inr ⟨q',x1,by unfold Bef at *;omega,x3,x4⟩)⟩
 ·rintro ⟨h1,h2,h' | ⟨p',x1,x2,x3,x4⟩ | ⟨q',x1,x2,x3,x4⟩⟩
  ·exact ⟨h1,h2,.inl h'⟩
  ·exact ⟨h1,h2,.inr (.inl ⟨p',x1,by unfold Bef at *;omega,x3,x4⟩)⟩
  ·exact ⟨h1,h2,.inr (.inr ⟨q',x1,by unfold Bef at *;omega,x3,x4⟩)⟩
def OnA (g:G) (a b p q:Nat):Prop:=p≤g.fI a b∧q≤g.fJ a b∧g.On a b p q
theorem ons_end (hg:g.ok) (hb:b<g.n) (ha:a<g.n) {p q:Nat}:g.OnS a b (g.fI a b+1) 0 p q↔g.OnA a b p q:=by
 constructor
 ·rintro ⟨h1,h2,h⟩
  refine ⟨h1,h2,(on_iff hg hb ha h1 h2).2 ?_⟩
  rcases h with h | ⟨p',x1,_,x3,x4⟩ | ⟨q',x1,_,x3,x4⟩
  ·exact .inl h
  ·exact .inr (.inl ⟨p',x1,x3,x4.2⟩)
  ·exact .inr (.inr ⟨q',x1,x3,x4.2⟩)
 ·rintro ⟨h1,h2,h⟩
  refine ⟨h1,h2,?_⟩
  rcases (on_iff hg hb ha h1 h2).1 h with h | ⟨p',x1,x3,x4⟩ | ⟨q',x1,x3,x4⟩
  ·exact .inl h
  ·exact .inr (.inl ⟨p',x1,by unfold Bef;omega,x3,by omega,x4⟩)
  ·exact .inr (.inr ⟨q',x1,by unfold Bef;omega,x3,by omega,x4⟩)
def BkS (g:G) (a b i j:Nat) (p q:Nat):Prop:=p≤g.fI a b∧q≤g.fJ a b∧((p=g.fI a b∧q=g.fJ a b)∨((i≤p∨(p+1=i∧j≤q))∧g.Back a b p q))
theorem bks_start {p q:Nat}:g.BkS a b (g.fI a b+1) (g.fJ a b+1) p q↔(p=g.fI a b∧q=g.fJ a b):=by
 constructor
 ·rintro ⟨h1,h2,h | ⟨h,_⟩⟩
  ·exact h
  ·omega
 ·rintro ⟨rfl,rfl⟩;exact ⟨Nat.le_refl _,Nat.le_refl _,.inl ⟨rfl,rfl⟩⟩
theorem bks_step (hg : g.ok) (hb : b < g.n) (ha : a < g.n) {i j p q : Nat} (hi : i ≤ g.fI a b) (hj : j ≤ g.fJ a b) :
    g.BkS a b (i+1) j p q↔g.BkS a b (i+1) (j+1) p q∨(((g.dOk a b i j∧g.BkS a b (i+1) (j+1) (i+1) j)∨(g.sOk a b i j∧g.BkS a b (i+1) (j+1) i (j+1)))∧p=i∧q=j):=by
 have hbk:=back_iff hg hb ha hi hj
 have e1:g.dOk a b i j→(g.BkS a b (i+1) (j+1) (i+1) j↔g.Back a b (i+1) j):=by
  intro hd
  constructor
  ·rintro ⟨h1,h2,⟨h3,h4⟩ | ⟨_,h⟩⟩
   ·rw [back_iff hg hb ha h1 h2];exact .inl ⟨h3,h4⟩
   ·exact h
  ·intro h;exact ⟨hd.1,hj,.inr ⟨.inl (Nat.le_refl _),h⟩⟩
 have e2:g.sOk a b i j→(g.BkS a b (i+1) (j+1) i (j+1)↔g.Back a b i (j+1)):=by
  intro hs
  constructor
  ·rintro ⟨h1,h2,⟨h3,h4⟩ | ⟨_,h⟩⟩
   ·rw [back_iff hg hb ha h1 h2];exact .inl ⟨h3,h4⟩
   ·exact h
  ·intro h;exact ⟨hi,hs.1,.inr ⟨.inr ⟨rfl,Nat.le_refl _⟩,h⟩⟩
 constructor
 ·rintro ⟨h1,h2,h | ⟨h,h'⟩⟩
  ·exact .inl ⟨h1,h2,.inl h⟩
  ·by_cases e:p=i∧q=j
   ·obtain ⟨rfl,rfl⟩:=e
    rcases hbk.1 h' with x | ⟨x1,x2,x3⟩ | ⟨x1,x2,x3⟩
    ·exact .inl ⟨h1,h2,.inl x⟩
    ·exact .inr ⟨.inl ⟨⟨x1,x2⟩,(e1 ⟨x1,x2⟩).2 x3⟩,rfl,rfl⟩
    ·exact .inr ⟨.inr ⟨⟨x1,x2⟩,(e2 ⟨x1,x2⟩).2 x3⟩,rfl,rfl⟩
   ·exact .inl ⟨h1,h2,.inr ⟨by omega,h'⟩⟩
 ·rintro (⟨h1,h2,h | ⟨h,h'⟩⟩ | ⟨h,rfl,rfl⟩)
  ·exact ⟨h1,h2,.inl h⟩
  ·exact ⟨h1,h2,.inr ⟨by omega,h'⟩⟩
  ·refine ⟨hi,hj,.inr ⟨.inr ⟨rfl,Nat.le_refl _⟩,hbk.2 ?_⟩⟩
   rcases h with ⟨x1,x2⟩ | ⟨x1,x2⟩
   ·exact .inr (.inl ⟨x1.1,x1.2,(e1 x1).1 x2⟩)
   ·exact .inr (.inr ⟨x1.1,x1.2,(e2 x1).1 x2⟩)
theorem bks_row {i p q:Nat}:g.BkS a b (i+1) 0 p q↔g.BkS a b i (g.fJ a b+1) p q:=by
 unfold BkS
 constructor
 ·rintro ⟨h1,h2,h | ⟨h,h'⟩⟩
  ·exact ⟨h1,h2,.inl h⟩
  ·exact ⟨h1,h2,.inr ⟨by omega,h'⟩⟩
 ·rintro ⟨h1,h2,h | ⟨h,h'⟩⟩
  ·exact ⟨h1,h2,.inl h⟩
  ·exact ⟨h1,h2,.inr ⟨by omega,h'⟩⟩
def BkA (g:G) (a b p q:Nat):Prop:=p≤g.fI a b∧q≤g.fJ a b∧g.Back a b p q
theorem bks_end (hg:g.ok) (hb:b<g.n) (ha:a<g.n) {j p q:Nat}:g.BkS a b 0 j p q↔g.BkA a b p q:=by
 constructor
 ·rintro ⟨h1,h2,h | ⟨_,h⟩⟩
  ·exact ⟨h1,h2,(back_iff hg hb ha h1 h2).2 (.inl h)⟩
  ·exact ⟨h1,h2,h⟩
 ·rintro ⟨h1,h2,h⟩
  exact ⟨h1,h2,.inr ⟨.inl (Nat.zero_le _),h⟩⟩
theorem fI_le (hg:g.ok) (hb:b<g.n) (ha:a<g.n):g.fI a b≤15∧g.fJ a b≤15:=by
 obtain ⟨o1,o2,o3,o4⟩:=hg;have h1:=X_lt ⟨o1,o2,o3,o4⟩ a;have h2:=X_lt ⟨o1,o2,o3,o4⟩ b;have h3:=Y_lt ha;have h4:=Y_lt hb;unfold fI fJ fdx fdy;omega
def Nxt (g:G) (a b:Nat) (p p':Nat×Nat):Prop:=(g.dOk a b p.1 p.2∧g.BkA a b (p.1+1) p.2∧p'=(p.1+1,p.2))∨(¬(g.dOk a b p.1 p.2∧g.BkA a b (p.1+1) p.2)∧p'=(p.1,p.2+1))
def WayP (g:G) (a b:Nat) (P:Nat→Nat×Nat):Prop:=P 0=(0,0)∧∀k,g.Nxt a b (P k) (P (k+1))
theorem wayP_exist (g:G) (a b:Nat):∃P,g.WayP a b P:=by
 classical
 refine ⟨fun k=>Nat.rec (0,0) (fun _ p=>if g.dOk a b p.1 p.2∧g.BkA a b (p.1+1) p.2 then (p.1+1,p.2) else (p.1,p.2+1)) k,rfl,fun k=>?_⟩
 simp only
 split
 ·rename_i h;exact .inl ⟨h.1,h.2,rfl⟩
 ·rename_i h;exact .inr ⟨h,rfl⟩
theorem nxt_ok (hg : g.ok) (hb : b < g.n) (ha : a < g.n) {i j : Nat} {p' : Nat × Nat} (hn : g.Nxt a b (i, j) p') (hi : i ≤ g.fI a b) (hj : j ≤ g.fJ a b) (ho : g.On a b i j) (hk : g.Back a b i j) (hne : ¬ (i = g.fI a b ∧ j = g.fJ a b)) :
    (p'=(i+1,j)∧g.dOk a b i j∧g.On a b (i+1) j∧g.Back a b (i+1) j)∨(p'=(i,j+1)∧g.sOk a b i j∧g.On a b i (j+1)∧g.Back a b i (j+1)∧¬(g.dOk a b i j∧g.BkA a b (i+1) j)):=by
 rcases hn with ⟨h1,h2,h3⟩ | ⟨h1,h3⟩
 ·exact .inl ⟨h3,h1,(on_iff hg hb ha h1.1 hj).2 (.inr (.inl ⟨i,rfl,ho,h1.2⟩)),h2.2.2⟩
 ·rcases (back_iff hg hb ha hi hj).1 hk with x | ⟨x1,x2,x3⟩ | ⟨x1,x2,x3⟩
  ·exact absurd x hne
  ·exact absurd ⟨⟨x1,x2⟩,x1,hj,x3⟩ h1
  ·exact .inr ⟨h3,⟨x1,x2⟩,(on_iff hg hb ha hi x1).2 (.inr (.inr ⟨j,rfl,ho,x2⟩)),x3,h1⟩
theorem wayP_ok (hg:g.ok) (hb:b<g.n) (ha:a<g.n) (hn:g.Near a b) {P:Nat→Nat×Nat} (hP:g.WayP a b P):∀k,k≤g.fI a b+g.fJ a b→(P k).1≤g.fI a b∧(P k).2≤g.fJ a b∧(P k).1+(P k).2=k∧g.On a b (P k).1 (P k).2∧g.Back a b (P k).1 (P k).2
 | 0,_=>by rw [hP.1];exact ⟨Nat.zero_le _,Nat.zero_le _,rfl,(on_iff hg hb ha (Nat.zero_le _) (Nat.zero_le _)).2 (.inl ⟨rfl,rfl⟩),near_back.1 hn⟩
 | k+1,h=>by
  obtain ⟨h1,h2,h3,h4,h5⟩:=wayP_ok hg hb ha hn hP k (by omega)
  have hx:=hP.2 k
  generalize P (k+1)=p' at *
  generalize P k=p at *
  obtain ⟨i,j⟩:=p;simp only at h1 h2 h3 h4 h5
  rcases nxt_ok hg hb ha hx h1 h2 h4 h5 (by omega) with ⟨e,x1,x2,x3⟩ | ⟨e,x1,x2,x3,_⟩
  ·rw [e];exact ⟨x1.1,h2,by simp only;omega,x2,x3⟩
  ·rw [e];exact ⟨h1,x1.1,by simp only;omega,x2,x3⟩
end G
end FR
namespace FR
namespace G
theorem f_box {g : G} {a b : Nat} (i j : Nat) (hi : i ≤ g.fI a b) (hj : j ≤ g.fJ a b) :
    ((g.X a:Int)≤g.fx a b i j∨(g.X b:Int)≤g.fx a b i j)∧(g.fx a b i j≤g.X a∨g.fx a b i j≤g.X b) ∧
    ((g.Y a:Int)≤g.fy a b i j∨(g.Y b:Int)≤g.fy a b i j)∧(g.fy a b i j≤g.Y a∨g.fy a b i j≤g.Y b):=by
 obtain ⟨e1,e2⟩:=g.fend a b;have H:=g.fDirs a b;unfold fx fy;unfold fdx at e1;unfold fdy at e2
 generalize g.fax a b=ax at *;generalize g.fay a b=ay at *;generalize g.fbx a b=bx at *;generalize g.fby a b=by_ at *
 generalize g.fI a b=I at *;generalize g.fJ a b=J at *
 rcases H.cases with ⟨q1,q2⟩ | ⟨e,h⟩ | ⟨e,h⟩ | h
 ·have:i=0:=by omega
  have:j=0:=by omega
  subst i;subst j;simp only [Int.natCast_zero,Int.zero_mul];omega
 ·have:i=0:=by omega
  subst i;subst e
  rcases h with ⟨rfl,rfl⟩ | ⟨rfl,rfl⟩ | ⟨rfl,rfl⟩ | ⟨rfl,rfl⟩ <;> simp only [Int.natCast_zero,Int.zero_mul] at * <;> omega
 ·have:j=0:=by omega
  subst j;subst e
  rcases h with ⟨rfl,rfl⟩ | ⟨rfl,rfl⟩ | ⟨rfl,rfl⟩ | ⟨rfl,rfl⟩ <;> simp only [Int.natCast_zero,Int.zero_mul] at * <;> omega
 ·rcases h with ⟨rfl,rfl,rfl,rfl⟩ | ⟨rfl,rfl,rfl,rfl⟩ | ⟨rfl,rfl,rfl,rfl⟩ | ⟨rfl,rfl,rfl,rfl⟩ | ⟨rfl,rfl,rfl,rfl⟩ | ⟨rfl,rfl,rfl,rfl⟩ | ⟨rfl,rfl,rfl,rfl⟩ | ⟨rfl,rfl,rfl,rfl⟩ <;> omega
def Btw (g:G) (a b:Nat) (x y:Int):Prop:=
 ((g.X a:Int)-1≤x∨(g.X b:Int)-1≤x)∧(x≤g.X a+1∨x≤g.X b+1)∧((g.Y a:Int)-1≤y∨(g.Y b:Int)-1≤y)∧(y≤g.Y a+1∨y≤g.Y b+1)
structure But (g g':G) (x y:Int):Prop where
 w:g'.w=g.w
 h:g'.h=g.h
 op:∀u v:Int,¬(u=x∧v=y)→g'.op u v=g.op u v
theorem But.symm {g g':G} {x y:Int} (h:But g g' x y):But g' g x y:=⟨h.w.symm,h.h.symm,fun u v k=>(h.op u v k).symm⟩
theorem But.X {g g':G} {x y:Int} (h:But g g' x y) (c:Nat):g'.X c=g.X c:=by unfold G.X;rw [h.w]
theorem But.Y {g g':G} {x y:Int} (h:But g g' x y) (c:Nat):g'.Y c=g.Y c:=by unfold G.Y;rw [h.w]
theorem But.n {g g':G} {x y:Int} (h:But g g' x y):g'.n=g.n:=by unfold G.n;rw [h.w,h.h]
theorem But.ok {g g':G} {x y:Int} (h:But g g' x y) (k:g.ok):g'.ok:=by unfold G.ok at *;rw [h.w,h.h];exact k
theorem But.oct {g g':G} {x y:Int} (h:But g g' x y) (a b:Nat):g'.oct a b=g.oct a b:=by unfold G.oct;rw [h.X,h.X,h.Y,h.Y]
theorem But.to {g g':G} {x y:Int} (h:But g g' x y) (a d:Nat):g'.to a d=g.to a d:=by unfold G.to G.toI;rw [h.w]
theorem But.btw {g g':G} {x y:Int} (h:But g g' x y) (a b:Nat) (u v:Int):g'.Btw a b u v↔g.Btw a b u v:=by unfold Btw;rw [h.X,h.X,h.Y,h.Y]
theorem but_set {g:G} {z:Nat} {t:Bool} (hz:z<g.n):But g ⟨g.w,g.h,upd g.b z t⟩ (g.X z) (g.Y z):=by
 refine ⟨rfl,rfl,fun u v h=>?_⟩
 unfold G.op;simp only
 by_cases hd:0≤u∧u<g.w∧0≤v∧v<g.h
 ·rw [decide_eq_true hd]
  simp only [Bool.true_and]
  congr 1
  refine upd_ne _ _ ?_;intro e
  apply h
  obtain ⟨p,hp⟩:∃p:Nat,u=p:=⟨u.toNat,by omega⟩
  obtain ⟨q,hq⟩:∃q:Nat,v=q:=⟨v.toNat,by omega⟩
  subst hp;subst hq;simp only [Int.toNat_natCast] at e
  have hpw:p<g.w:=by omega
  have e1:=X_cell (g:=g) (y:=q) hpw;have e2:=Y_cell (g:=g) (y:=q) hpw;unfold cell at e1 e2;rw [e] at e1 e2;rw [e1,e2];exact ⟨rfl,rfl⟩
 ·rw [decide_eq_false hd]
  simp
theorem corner_far {g g':G} {x y:Int} (h:But g g' x y) {c:Nat} (hf:¬((g.X c:Int)-1≤x∧x≤g.X c+1∧(g.Y c:Int)-1≤y∧y≤g.Y c+1)):g'.Corner c↔g.Corner c:=by
 have key:∀u v:Int,-1≤u→u≤1→-1≤v→v≤1→g'.op ((g.X c:Int)+u) ((g.Y c:Int)+v)=g.op ((g.X c:Int)+u) ((g.Y c:Int)+v):=fun u v h1 h2 h3 h4=>h.op _ _ (by omega)
 have k0:=key 0 0 (by omega) (by omega) (by omega) (by omega)
 rw [Int.add_zero,Int.add_zero] at k0;unfold Corner;rw [h.n,h.X,h.Y,k0]
 refine and_congr_right fun _=>and_congr_right fun _=>exists_congr fun u=>exists_congr fun v=>and_congr_right fun hu=>and_congr_right fun hv=>?_
 have k1:=key u v (by omega) (by omega) (by omega) (by omega)
 have k2:=key u 0 (by omega) (by omega) (by omega) (by omega)
 have k3:=key 0 v (by omega) (by omega) (by omega) (by omega)
 rw [Int.add_zero] at k2 k3;rw [k1,k2,k3]
theorem mid_box {g : G} (hg : g.ok) {a b : Nat} (hb : b < g.n) (ha : a < g.n) {k : Nat} (h : g.Mid a b k) :
    ((g.X a:Int)≤g.X k∨(g.X b:Int)≤g.X k)∧((g.X k:Int)≤g.X a∨(g.X k:Int)≤g.X b) ∧
    ((g.Y a:Int)≤g.Y k∨(g.Y b:Int)≤g.Y k)∧((g.Y k:Int)≤g.Y a∨(g.Y k:Int)≤g.Y b):=by
 obtain ⟨i,j,h1,h2,rfl,_,_⟩:=(mid_iff hg hb ha).1 h;obtain ⟨_,e1,e2⟩:=fcell_XY hg hb ha h1 h2;rw [e1,e2];exact f_box i j h1 h2
theorem walk_far_keeps {g g' : G} (hg : g.ok) {x y : Int} (h : But g g' x y) {a b : Nat} (hb : b < g.n) (ha : a < g.n) (hf : ¬ g.Btw a b x y) {k : Nat} {p : C} (h1 : Walk g.E a k p) :
    ∀q,Walk g.E k b q→C.add p q=g.oct a b→Walk g'.E a k p:=by
 induction h1 with
 | nil=>intro _ _ _;exact .nil _
 | @snoc m k p e hw he ih=>
  intro q hq hpq
  have hm:Walk g'.E a m p:=ih (C.add e q) (Walk.cons he hq) (by rw [←C.add_assoc];exact hpq)
  have b1:=mid_box hg hb ha ⟨p,C.add e q,hw,Walk.cons he hq,by rw [←C.add_assoc];exact hpq⟩
  have b2:=mid_box hg hb ha ⟨C.add p e,q,hw.snoc he,hq,hpq⟩;refine hm.snoc ?_;obtain ⟨e1,d,e2,e3,e4,e5⟩:=he;obtain ⟨_,x1,y1⟩:=mayC_to e3;rw [←e4] at x1 y1
  refine ⟨by rw [h.n];exact e1,d,e2,?_,by rw [h.to];exact e4,e5⟩
  unfold mayC at e3 ⊢
  rw [may_iff] at e3 ⊢
  rw [h.X,h.Y];obtain ⟨o1,o2,o3,o4⟩:=e3;unfold Btw at hf;refine ⟨?_,?_,?_,?_⟩
  ·rw [h.op _ _ (by omega)];exact o1
  ·rw [h.op _ _ (by omega)];exact o2
  ·rw [h.op _ _ (by omega)];exact o3
  ·rw [h.op _ _ (by omega)];exact o4
theorem btw_symm {g:G} {a b:Nat} {x y:Int}:g.Btw a b x y↔g.Btw b a x y:=by unfold Btw;omega
theorem mid_far {g g':G} (hg:g.ok) {x y:Int} (h:But g g' x y) {a b:Nat} (hb:b<g.n) (ha:a<g.n) (hf:¬g.Btw a b x y) {k:Nat} (hm:g.Mid a b k):g'.Mid a b k:=by
 obtain ⟨p,q,h1,h2,h3⟩:=hm
 refine ⟨p,q,walk_far_keeps hg h hb ha hf h1 q h2 h3,?_,by rw [h.oct];exact h3⟩
 have r1:=Walk.rev (E:=g.E) (fun _ _ _ he=>E_symm he) h2
 have r2:=Walk.rev (E:=g.E) (fun _ _ _ he=>E_symm he) h1
 have r3:=walk_far_keeps hg h ha hb (fun hh=>hf (btw_symm.1 hh)) r1 p r2 (by rw [C.add_comm,h3,oct_symm])
 exact Walk.rev (E:=g'.E) (fun _ _ _ he=>E_symm he) r3
theorem near_far {g g':G} (hg:g.ok) {x y:Int} (h:But g g' x y) {a b:Nat} (hb:b<g.n) (ha:a<g.n) (hf:¬g.Btw a b x y) (hm:g.Near a b):g'.Near a b:=by
 unfold Near at *;rw [h.oct];exact walk_far_keeps hg h hb ha hf hm C.zero (.nil b) (C.add_zero _)
theorem direct_far {g g':G} (hg:g.ok) {x y:Int} (h:But g g' x y) {a b:Nat} (hb:b<g.n) (ha:a<g.n) (hf:¬g.Btw a b x y):g'.Direct a b↔g.Direct a b:=by
 have key:∀ {g g':G},g.ok→But g g' x y→b<g.n→a<g.n→¬g.Btw a b x y→g.Direct a b→g'.Direct a b:=by
  rintro g g' hg h hb ha hf ⟨h1,h2⟩;have hg':=h.ok hg
  have hf':¬g'.Btw a b x y:=fun hh=>hf ((h.btw a b x y).1 hh)
  refine ⟨near_far hg h hb ha hf h1,fun k hk n1 n2 hm=>?_⟩
  have hm':=mid_far hg' h.symm (by rw [h.n];exact hb) (by rw [h.n];exact ha) hf' hm
  have bx:=mid_box hg hb ha hm';refine h2 k ((corner_far h ?_).1 hk) n1 n2 hm';unfold Btw at hf;omega
 exact ⟨key (h.ok hg) h.symm (by rw [h.n];exact hb) (by rw [h.n];exact ha) (fun hh=>hf ((h.btw a b x y).1 hh)),key hg h hb ha hf⟩
end G
end FR
namespace FR
namespace G
variable {g:G} {a b:Nat}
theorem oct_small (hg:g.ok) (hb:b<g.n) (ha:a<g.n):0≤(g.oct a b).s∧(g.oct a b).s≤15∧0≤(g.oct a b).d∧(g.oct a b).d≤15:=by
 obtain ⟨h1,h2⟩:=fI_le hg hb ha;rw [oct_fIJ];simp only;omega
end G
end FR
namespace FR
theorem C.le_dd {s d:Int} (hs:0≤s):C.le ⟨s,d⟩ ⟨0,s+d⟩:=by
 by_cases h:s=0
 ·subst h;rw [Int.zero_add];exact C.le_refl _
 ·refine C.le_of_lt ?_
  unfold C.lt Pos;simp only
  have h2:0<s*s:=mulpos (by omega) (by omega)
  refine .inr (.inr ⟨by omega,by omega,?_⟩)
  have e1:(0-s)*(0-s)=s*s:=by rw [Int.zero_sub,Int.neg_mul_neg]
  have e2:s+d-d=s:=by omega
  rw [e1,e2];omega
namespace G
variable {g:G}
end G
end FR
namespace FR
namespace G
def nigh (g:G) (c z:Nat):Prop:=(g.X c:Int)-1≤g.X z∧(g.X z:Int)≤g.X c+1∧(g.Y c:Int)-1≤g.Y z∧(g.Y z:Int)≤g.Y c+1
def Pd (g:G) (c:Nat) (nx ny:Int) (z:Nat):Prop:=g.nigh c z∧((g.Y z:Int)<ny∨((g.Y z:Int)=ny∧(g.X z:Int)<nx))
def PN (g g':G) (c:Nat) (nx ny:Int) (z:Nat):Prop:=z<g.n∧((g.Pd c nx ny z∧g'.Corner z)∨(¬g.Pd c nx ny z∧g.Corner z))
def PD (g g':G) (c:Nat) (nx ny:Int) (a b:Nat):Prop:=g.Direct a b∧(g.Pd c nx ny a→g.Corner a∧g'.Corner a)∧(g.Pd c nx ny b→g.Corner b∧g'.Corner b)
theorem PD_symm {g g':G} {c:Nat} {nx ny:Int} {a b:Nat} (h:g.PD g' c nx ny a b):g.PD g' c nx ny b a:=⟨direct_symm.1 h.1,h.2.2,h.2.1⟩
theorem Pd_start {g:G} {c z:Nat}:¬g.Pd c ((g.X c:Int)-1) ((g.Y c:Int)-1) z:=by
 rintro ⟨⟨h1,h2,h3,h4⟩,h5⟩;omega
theorem Pd_row {g:G} {c z:Nat} {ny nx:Int} (h:nx=(g.X c:Int)+2):g.Pd c nx ny z↔g.Pd c ((g.X c:Int)-1) (ny+1) z:=by
 unfold Pd nigh;omega
theorem Pd_end {g:G} {c z:Nat} {ny nx:Int} (h:ny=(g.Y c:Int)+2):g.Pd c nx ny z↔g.nigh c z:=by
 unfold Pd nigh;omega
theorem Pd_none {g:G} {c z:Nat} {nx ny:Int} (hg:g.ok) (hz:z<g.n) (ho:¬(0≤nx∧nx<g.w∧0≤ny∧ny<g.h)):g.Pd c (nx+1) ny z↔g.Pd c nx ny z:=by
 have h1:=X_lt hg z;have h2:=Y_lt hz;unfold Pd
 refine and_congr_right fun _=>?_
 omega
theorem Pd_cell {g:G} {c z k:Nat} {nx ny:Int} (hx:(g.X k:Int)=nx) (hy:(g.Y k:Int)=ny) (hk:g.nigh c k):g.Pd c (nx+1) ny z↔g.Pd c nx ny z∨z=k:=by
 constructor
 ·rintro ⟨h1,h2⟩
  by_cases e:(g.X z:Int)=nx∧(g.Y z:Int)=ny
  ·right
   rw [←cell_XY g z,←cell_XY g k,show g.X z=g.X k by omega,show g.Y z=g.Y k by omega]
  ·exact .inl ⟨h1,by omega⟩
 ·rintro (⟨h1,h2⟩ | rfl)
  ·exact ⟨h1,by omega⟩
  ·exact ⟨hk,by omega⟩
theorem Pd_not {g:G} {c k:Nat} {nx ny:Int} (hx:(g.X k:Int)=nx) (hy:(g.Y k:Int)=ny):¬g.Pd c nx ny k:=by
 rintro ⟨_,h⟩;omega
theorem PN_cell {g g':G} {c z k:Nat} {nx ny:Int} (hkn:k<g.n) (hx:(g.X k:Int)=nx) (hy:(g.Y k:Int)=ny) (hk:g.nigh c k):((z=k∧g'.Corner k)∨(z≠k∧g.PN g' c nx ny z))↔g.PN g' c (nx+1) ny z:=by
 unfold PN;rw [Pd_cell hx hy hk];have:=Pd_not (c:=c) hx hy
 by_cases e:z=k
 ·subst e;simp [hkn]
 ·simp [e]
theorem PD_cell {g g' : G} {c k a b : Nat} {nx ny : Int} (hkn : k < g.n) (hx : (g.X k : Int) = nx) (hy : (g.Y k : Int) = ny) (hk : g.nigh c k) (ha : g.PN g' c (nx + 1) ny a) (hb : g.PN g' c (nx + 1) ny b) :
    (g.PD g' c nx ny a b∧((a≠k∧b≠k)∨(g'.Corner k∧g.PN g' c nx ny k)))↔g.PD g' c (nx+1) ny a b:=by
 have hn:=Pd_not (c:=c) hx hy
 have hNk:g.PN g' c nx ny k↔g.Corner k:=by
  unfold PN;simp [hn,hkn]
 rw [hNk];unfold PD;rw [Pd_cell hx hy hk,Pd_cell hx hy hk];unfold PN at ha hb;rw [Pd_cell hx hy hk] at ha hb
 constructor
 ·rintro ⟨⟨h1,h2,h3⟩,h4⟩
  refine ⟨h1,?_,?_⟩
  ·rintro (q | rfl)
   ·exact h2 q
   ·rcases h4 with ⟨r,_⟩ | ⟨r1,r2⟩
    ·exact absurd rfl r
    ·exact ⟨r2,r1⟩
  ·rintro (q | rfl)
   ·exact h3 q
   ·rcases h4 with ⟨_,r⟩ | ⟨r1,r2⟩
    ·exact absurd rfl r
    ·exact ⟨r2,r1⟩
 ·rintro ⟨h1,h2,h3⟩
  refine ⟨⟨h1,fun q=>h2 (.inl q),fun q=>h3 (.inl q)⟩,?_⟩
  by_cases e1:a=k
  ·have:=h2 (.inr e1)
   rw [e1] at this;exact .inr ⟨this.2,this.1⟩
  ·by_cases e2:b=k
   ·have:=h3 (.inr e2)
    rw [e2] at this;exact .inr ⟨this.2,this.1⟩
   ·exact .inl ⟨e1,e2⟩
theorem PN_end {g g':G} {c:Nat} (hb:But g g' (g.X c) (g.Y c)) {nx ny:Int} (h:ny=(g.Y c:Int)+2) (z:Nat):g.PN g' c nx ny z↔g'.Corner z:=by
 unfold PN;rw [Pd_end h]
 have hfar:¬g.nigh c z→(g'.Corner z↔g.Corner z):=fun hn=>corner_far hb (by unfold nigh at hn;omega)
 constructor
 ·rintro ⟨_,⟨_,q⟩ | ⟨q1,q2⟩⟩
  ·exact q
  ·exact (hfar q1).2 q2
 ·intro q
  refine ⟨by have:=q.1;rw [hb.n] at this;exact this,?_⟩
  by_cases hn:g.nigh c z
  ·exact .inl ⟨hn,q⟩
  ·exact .inr ⟨hn,(hfar hn).1 q⟩
theorem PD_far {g g':G} (hg:g.ok) {c:Nat} (hb:But g g' (g.X c) (g.Y c)) {nx ny:Int} (h:ny=(g.Y c:Int)+2) {a b:Nat} (ha:g'.Corner a) (hbc:g'.Corner b) (hf:¬g.Btw a b (g.X c) (g.Y c)):g.PD g' c nx ny a b↔g'.Direct a b:=by
 have hna:¬g.nigh c a:=by unfold nigh Btw at *;omega
 have hnb:¬g.nigh c b:=by unfold nigh Btw at *;omega
 have e:=direct_far hg hb (by have:=hbc.1;rw [hb.n] at this;exact this) (by have:=ha.1;rw [hb.n] at this;exact this) hf
 unfold PD;rw [Pd_end h,Pd_end h]
 constructor
 ·rintro ⟨q,_,_⟩;exact e.2 q
 ·intro q;exact ⟨e.1 q,fun r=>absurd r hna,fun r=>absurd r hnb⟩
end G
end FR
