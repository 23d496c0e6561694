/- Lemmas of this claim: MathAsk7, MathLook, MathEdit. -/
import Derived.Test.YtkdndoefgnfbnaaGreatDoorKNavB39
import Derived.Test.YtkdndoefgnfbnaaGreatDoorKNavB31
import Derived.Test.YtkdndoefgnfbnaaGreatDoorKNavB1
import Derived.Test.YtkdndoefgnfbnaaGreatDoorKNavB10
import Derived.Test.YtkdndoefgnfbnaaGreatDoorKNavB12
import Derived.Test.YtkdndoefgnfbnaaGreatDoorBase
import Derived.Test.YtkdndoefgnfbnaaGreatDoorKNavB2
set_option linter.unusedVariables false
set_option linter.unusedSimpArgs false
/- Grids with the same cells, or with more walls: what asks are answered (plain). -/
namespace Go.Proofs.YtkdndoefgnfbnaaGreatDoor
open FR
def SameG (g2 g:G):Prop:=g2.w=g.w∧g2.h=g.h∧∀c,c<g.n→g2.b c=g.b c
theorem SameG.n {g2 g:G} (h:SameG g2 g):g2.n=g.n:=by unfold G.n;rw [h.1,h.2.1]
theorem SameG.refl (g:G):SameG g g:=⟨rfl,rfl,fun _ _=>rfl⟩
theorem SameG.symm {g2 g:G} (h:SameG g2 g):SameG g g2:=⟨h.1.symm,h.2.1.symm,fun c hc=>(h.2.2 c (by rw [←h.n];exact hc)).symm⟩
theorem SameG.trans {a b c:G} (h:SameG a b) (k:SameG b c):SameG a c:=⟨h.1.trans k.1,h.2.1.trans k.2.1,fun x hx=>(h.2.2 x (by rw [k.n];exact hx)).trans (k.2.2 x hx)⟩
theorem SameG.E {g2 g:G} (h:SameG g2 g):g2.E=g.E:=E_same h.1 h.2.1 h.2.2
theorem SameG.op {g2 g:G} (h:SameG g2 g):g2.op=g.op:=op_same h.1 h.2.1 h.2.2
theorem SameG.ask {g2 g:G} (h:SameG g2 g) {x y:Int} {W:List Nat} {c:C} {e:Nat} (k:AskIs g2 x y W c e):AskIs g x y W c e:=k.same h.1 h.2.1 h.2.2
theorem cntB_congr {b b':Nat→Bool}:∀ {k:Nat},(∀c,c<k→b c=b' c)→cntB b k=cntB b' k
 | 0,_=>rfl
 | k+1,h=>by rw [cntB_succ,cntB_succ,cntB_congr fun c hc=>h c (by omega),h k (by omega)]
theorem SameG.cnt {g2 g:G} (h:SameG g2 g):cntB g2.b g2.n=cntB g.b g.n:=by rw [h.n];exact cntB_congr h.2.2
theorem SameG.cells {g2 g:G} (h:SameG g2 g):∀ {k:Nat},k≤g.n→cellsS g2 k=cellsS g k
 | 0,_=>rfl
 | k+1,hk=>by rw [cellsS_succ,cellsS_succ,SameG.cells h (k:=k) (by omega),h.2.2 k (by omega),h.1]
theorem ask_same {g:G} {x y:Int} {W W':List Nat} {c c':C} {e e':Nat} (h:AskIs g x y W c e) (k:AskIs g x y W' c' e'):c=c'∧e=e':=by
 by_cases h0:flt2 g x y=0
 ·obtain ⟨a,b,rfl,rfl,_,_,_,_,hh⟩:=h.cells h0
  obtain ⟨a',b',e1,e2,_,_,_,_,kk⟩:=k.cells h0
  obtain rfl:a=a':=Int.ofNat_inj.1 e1
  obtain rfl:b=b':=Int.ofNat_inj.1 e2
  rcases hh with ⟨h1,h2,_,h3⟩ | ⟨h1,h2,_⟩ <;> rcases kk with ⟨k1,k2,_,k3⟩ | ⟨k1,k2,_⟩
  ·exact ⟨by rw [h3,k3],by rw [h2,k2]⟩
  ·exact absurd k1.1 (h1 _)
  ·exact absurd h1.1 (k1 _)
  ·exact ⟨Dist.unique h1 k1,by rw [h2,k2]⟩
 ·rcases h with ⟨_,h2,_,h3⟩ | ⟨a,b,rfl,rfl,a1,a2,a3,a4,_⟩
  ·rcases k with ⟨_,k2,_,k3⟩ | ⟨a,b,rfl,rfl,a1,a2,a3,a4,_⟩
   ·exact ⟨by rw [h3,k3],by rw [h2,k2]⟩
   ·exact absurd (flt2_both (by rw [G.fault_in a1,a3];rfl) (by rw [G.fault_in a2,a4];rfl)) h0
  ·exact absurd (flt2_both (by rw [G.fault_in a1,a3];rfl) (by rw [G.fault_in a2,a4];rfl)) h0
def MoreW (g g':G):Prop:=g'.w=g.w∧g'.h=g.h∧∀c,c<g.n→g.b c=true→g'.b c=true
theorem MoreW.n {g g':G} (h:MoreW g g'):g'.n=g.n:=by unfold G.n;rw [h.1,h.2.1]
theorem MoreW.op {g g':G} (h:MoreW g g') {x y:Int} (ho:g'.op x y=true):g.op x y=true:=by
 unfold G.op at ho ⊢
 rw [h.1,h.2.1] at ho
 simp only [Bool.and_eq_true,decide_eq_true_eq,Bool.not_eq_true'] at ho ⊢
 obtain ⟨h1,h2⟩:=ho
 refine ⟨h1,?_⟩
 cases hb:g.b (y.toNat*g.w+x.toNat) with
 | false=>rfl
 | true=>
  rw [h.2.2 _ ?_ hb] at h2
  ·exact h2
  ·obtain ⟨q1,q2,q3,q4⟩:=h1
   have:y.toNat*g.w+x.toNat<(y.toNat+1)*g.w:=by rw [Nat.add_mul];omega
   exact Nat.lt_of_lt_of_le this (by rw [G.n,Nat.mul_comm];exact Nat.mul_le_mul_left _ (by omega))
theorem MoreW.E {g g':G} (h:MoreW g g') {a b:Nat} {c:C} (he:g'.E a b c):g.E a b c:=by
 obtain ⟨h1,h2,u,v,k1,k2,k3,k4,k5,k6,k7,k8,k9,k10⟩:=E_uv.1 he
 have hX:∀c,g'.X c=g.X c:=fun c=>by unfold G.X;rw [h.1]
 have hY:∀c,g'.Y c=g.Y c:=fun c=>by unfold G.Y;rw [h.1]
 simp only [hX,hY] at k5 k6 k7 k8 k9 k10
 rw [h.n] at h1 h2
 exact E_uv.2 ⟨h1,h2,u,v,k1,k2,k3,k4,h.op k5,h.op k6,h.op k7,h.op k8,k9,k10⟩
theorem MoreW.walk {g g':G} (h:MoreW g g') {a b:Nat} {c:C} (hw:Walk g'.E a b c):Walk g.E a b c:=by
 induction hw with
 | nil=>exact .nil _
 | snoc _ he ih=>exact .snoc ih (h.E he)
theorem MoreW.ask {g g' : G} (h : MoreW g g') {x y : Int} (fx : g'.fault x = g.fault x) (fy : g'.fault y = g.fault y) {W W' : List Nat} {c c' : C} {e e' : Nat} (k : AskIs g x y W c e) (k' : AskIs g' x y W' c' e') :
    (e'=0→e=0∧C.le c c')∧(e≠0→e'=e):=by
 have hf:flt2 g' x y=flt2 g x y:=by unfold flt2;rw [fx,fy]
 by_cases h0:flt2 g x y=0
 ·obtain ⟨a,b,rfl,rfl,_,_,_,_,hh⟩:=k.cells h0
  obtain ⟨a',b',e1,e2,_,_,_,_,kk⟩:=k'.cells (hf.trans h0)
  obtain rfl:a=a':=Int.ofNat_inj.1 e1
  obtain rfl:b=b':=Int.ofNat_inj.1 e2
  rcases hh with ⟨h1,h2,_,h3⟩ | ⟨h1,h2,_⟩ <;> rcases kk with ⟨k1,k2,_,k3⟩ | ⟨k1,k2,_⟩
  ·exact ⟨fun q=>by omega,fun _=>by rw [h2,k2]⟩
  ·exact absurd (h.walk k1.1) (h1 _)
  ·exact ⟨fun q=>by omega,fun q=>absurd h2 q⟩
  ·exact ⟨fun _=>⟨h2,h1.2 _ (h.walk k1.1)⟩,fun q=>absurd h2 q⟩
 ·rcases k with ⟨_,h2,_,h3⟩ | ⟨a,b,rfl,rfl,a1,a2,a3,a4,_⟩
  ·rcases k' with ⟨_,k2,_,k3⟩ | ⟨a,b,e1,e2,a1,a2,a3,a4,_⟩
   ·rw [hf] at k2
    exact ⟨fun q=>absurd (k2.symm.trans q) h0,fun _=>by rw [h2,k2]⟩
   ·exact absurd (hf▸flt2_both (by rw [e1,G.fault_in a1,a3];rfl) (by rw [e2,G.fault_in a2,a4];rfl)) h0
  ·exact absurd (flt2_both (by rw [G.fault_in a1,a3];rfl) (by rw [G.fault_in a2,a4];rfl)) h0
theorem MoreW.wres {g g':G} (h:MoreW g g') (hg:g.ok) {f:Nat→Int}:∀ {i:Nat} {d:C},g'.wres f i=.inr d→g.wres f i=.inr d
 | 0,_,k=>k
 | i+1,d,k=>by
  obtain ⟨z,hz,hz1,hz2⟩:=G.wres_ok k
  have hzb:g.b z=false:=by
   cases q:g.b z with
   | false=>rfl
   | true=>rw [h.2.2 z (by rw [←h.n];exact hz1) q] at hz2;cases hz2
  have f1:g'.fault (f i)=0:=by rw [hz,G.fault_in hz1,hz2];rfl
  have f2:g.fault (f i)=0:=by rw [hz,G.fault_in (by rw [←h.n];exact hz1),hzb];rfl
  unfold G.wres at k ⊢
  cases hr:g'.wres f i with
  | inl e=>rw [hr] at k;cases k
  | inr c=>
   rw [hr] at k
   rw [MoreW.wres h hg hr]
   simp only [f1,f2,ne_eq,not_true_eq_false,if_false] at k ⊢
   by_cases hi:i=0
   ·rw [if_pos hi] at k ⊢;exact k
   ·rw [if_neg hi] at k ⊢
    cases hw:g'.widx (f (i-1)).toNat (f i).toNat with
    | none=>rw [hw] at k;cases k
    | some j=>
     rw [hw] at k
     obtain ⟨d',h1,h2,_⟩:=G.widx_some hw
     obtain ⟨m1,m2⟩:=G.moves_mem (List.mem_of_getElem? h1)
     obtain ⟨i0,rfl⟩:∃j,i=j+1:=⟨i-1,by omega⟩
     obtain ⟨y,hy,hy1,hy2⟩:=G.wres_ok hr
     simp only [Nat.add_sub_cancel] at *
     have he:g'.E (f i0).toNat (f (i0+1)).toNat (g'.wst (f i0).toNat j):=⟨by rw [hy];simpa using hy1,d',m1,m2,h2.symm,by unfold G.wst;rw [List.getD_eq_getElem?_getD,h1];rfl⟩
     obtain ⟨j2,q1,q2⟩:=G.widx_E (h.E he)
     rw [q1]
     simp only [q2]
     exact k
end Go.Proofs.YtkdndoefgnfbnaaGreatDoor
/- As far as one may look, so far one comes straight (plain). -/
namespace Go.Proofs.YtkdndoefgnfbnaaGreatDoor
open FR
def kC (d k:Nat):C:=if d % 2=1 then ⟨0,(k:Nat)⟩ else ⟨(k:Nat),0⟩
theorem kC_succ (d k:Nat):C.add (kC d k) (stepC d)=kC d (k+1):=by
 unfold kC stepC C.add
 split <;> simp
theorem octI_line {d:Nat} (hd:d<8) (k:Nat):octI ((k:Int)*dxN d) ((k:Int)*dyN d)=kC d k:=by
 have:d=0∨d=1∨d=2∨d=3∨d=4∨d=5∨d=6∨d=7:=by omega
 rcases this with rfl | rfl | rfl | rfl | rfl | rfl | rfl | rfl <;> simp [octI,kC,dxN,dyN] <;> omega
structure LookZ (g:G) (a d k z:Nat):Prop where
 lt:z<g.n
 x:(g.X z:Int)=g.X a+k*dxN d
 y:(g.Y z:Int)=g.Y a+k*dyN d
 walk:Walk g.E a z (kC d k)
 open_:0<k→g.b a=false
theorem LookZ.start {g:G} {a d:Nat} (ha:a<g.n):LookZ g a d 0 a:=⟨ha,by simp,by simp,by unfold kC;split <;> exact .nil _,fun h=>by omega⟩
theorem LookZ.next {g:G} (hg:g.ok) {a d k z:Nat} (h:LookZ g a d k z) (ha:a<g.n) (hd:d<8) (hk:k<G.clr g d (g.X a) (g.Y a)):g.toI z d=(g.to z d:Nat)∧LookZ g a d (k+1) (g.to z d):=by
 have hr:=(G.clr_spec hg d (g.X a) (g.Y a)).1
 have hm:g.mayC z d=true:=by
  unfold G.mayC
  rw [h.x,h.y]
  exact hr k hk
 obtain ⟨t1,t2,t3⟩:=G.mayC_to hm
 have he:g.E z (g.to z d) (stepC d):=⟨h.lt,d,hd,hm,rfl,rfl⟩
 refine ⟨t1,G.E_lt he,by rw [t2,h.x,Int.natCast_add,Int.add_mul];omega,by rw [t3,h.y,Int.natCast_add,Int.add_mul];omega,by rw [←kC_succ];exact h.walk.snoc he,fun _=>?_⟩
 have h0:=(G.may_iff.1 (hr 0 (by omega))).1
 simp only [Int.natCast_zero,Int.zero_mul,Int.add_zero] at h0
 rw [G.op_cell hg ha] at h0
 simpa using h0
theorem LookZ.fin {g:G} (hg:g.ok) {a d z:Nat} (h:LookZ g a d (G.clr g d (g.X a) (g.Y a)) z):g.may (g.X z) (g.Y z) d=false:=by
 have:=(G.clr_spec hg d (g.X a) (g.Y a)).2
 rw [h.x,h.y]
 exact this
theorem LookZ.ask {g:G} (hg:g.ok) {a d k z:Nat} (h:LookZ g a d k z) (ha:a<g.n) (hd:d<8) (hk:0<k) {W:List Nat} {c:C} {e:Nat} (q:AskIs g (a:Nat) (z:Nat) W c e):e=0∧c=kC d k:=by
 have fa:=h.open_ hk
 obtain ⟨_,fz⟩:=walk_open hg h.walk ha fa
 have ho:g.oct a z=kC d k:=by
  rw [G.oct_symm]
  unfold G.oct
  rw [h.x,h.y,←octI_line hd k]
  congr 1 <;> omega
 have hD:Dist g.E a z (kC d k):=by
  have hn:g.Near a z:=by unfold G.Near;rw [ho];exact h.walk
  rw [←ho]
  exact G.near_dist.1 hn
 obtain ⟨a',z',e1,e2,_,_,_,_,hh⟩:=q.cells (flt2_both (by rw [G.fault_in ha,fa];rfl) (by rw [G.fault_in h.lt,fz];rfl))
 obtain rfl:a=a':=Int.ofNat_inj.1 e1
 obtain rfl:z=z':=Int.ofNat_inj.1 e2
 rcases hh with ⟨h1,_⟩ | ⟨h1,h2,_⟩
 ·exact absurd h.walk (h1 _)
 ·exact ⟨h2,h1.unique hD⟩
theorem clr_small {g:G} (hg:g.ok) (d:Nat) (x y:Int):G.clr g d x y≤15:=G.run_bd hg (G.clr_spec hg d x y).1
theorem ask_zero {g:G} (hg:g.ok) {a c:Nat} (ha:a<g.n) (fa:g.b a=false) (hc:c<g.n) {W:List Nat} {d:C} {e:Nat} (k:AskIs g (a:Nat) (c:Nat) W d e):e=0↔∃d,Walk g.E a c d:=by
 constructor
 ·intro he
  obtain ⟨a',c',e1,e2,_,_,_,_,h,_⟩:=k.ok he
  obtain rfl:a=a':=Int.ofNat_inj.1 e1
  obtain rfl:c=c':=Int.ofNat_inj.1 e2
  exact ⟨_,h.1⟩
 ·rintro ⟨d',hw⟩
  obtain ⟨_,fc⟩:=walk_open hg hw ha fa
  obtain ⟨a',c',e1,e2,_,_,_,_,hh⟩:=k.cells (flt2_both (by rw [G.fault_in ha,fa];rfl) (by rw [G.fault_in hc,fc];rfl))
  obtain rfl:a=a':=Int.ofNat_inj.1 e1
  obtain rfl:c=c':=Int.ofNat_inj.1 e2
  rcases hh with ⟨h1,_⟩ | ⟨_,h2,_⟩
  ·exact absurd hw (h1 _)
  ·exact h2
theorem walk_rev {g:G} {a b:Nat} {c:C} (h:Walk g.E a b c):Walk g.E b a c:=Walk.rev (E:=g.E) (fun _ _ _ he=>G.E_symm he) h
end Go.Proofs.YtkdndoefgnfbnaaGreatDoor
/- Cells set one by one (plain). -/
namespace Go.Proofs.YtkdndoefgnfbnaaGreatDoor
open FR
theorem SameG.gset {g2 g:G} (h:SameG g2 g) (c:Nat) (t:Bool):SameG (gset g2 c t) (gset g c t):=by
 refine ⟨h.1,h.2.1,fun j hj=>?_⟩
 show upd g2.b c t j=upd g.b c t j
 unfold upd
 split
 ·rfl
 ·exact h.2.2 j hj
end Go.Proofs.YtkdndoefgnfbnaaGreatDoor
