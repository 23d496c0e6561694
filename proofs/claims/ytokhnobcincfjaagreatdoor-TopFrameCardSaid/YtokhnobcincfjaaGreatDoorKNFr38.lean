/- Lemmas of this claim: MathAsk7, MathFrm, MathEdit, MathFrm2. -/
import Derived.Test.YtokhnobcincfjaaGreatDoorKNFr36
import Derived.Test.YtokhnobcincfjaaGreatDoorKNFr27
import Derived.Test.YtokhnobcincfjaaGreatDoorBase
import Derived.Test.YtokhnobcincfjaaGreatDoorKNFr4
set_option linter.unusedVariables false
set_option linter.unusedSimpArgs false
namespace Go.Proofs.YtokhnobcincfjaaGreatDoor
open FR
def SameG (g2 g:G):Prop:=g2.w=g.w∧g2.h=g.h∧∀c,c<g.n→g2.b c=g.b c
theorem SameG.n {g2 g:G} (h:SameG g2 g):g2.n=g.n:=by unfold G.n;rw [h.1,h.2.1]
theorem SameG.refl (g:G):SameG g g:=⟨rfl,rfl,fun _ _=>rfl⟩
theorem SameG.symm {g2 g:G} (h:SameG g2 g):SameG g g2:=⟨h.1.symm,h.2.1.symm,fun c hc=>(h.2.2 c (by rw [←h.n];exact hc)).symm⟩
theorem SameG.trans {a b c:G} (h:SameG a b) (k:SameG b c):SameG a c:=⟨h.1.trans k.1,h.2.1.trans k.2.1,fun x hx=>(h.2.2 x (by rw [k.n];exact hx)).trans (k.2.2 x hx)⟩
theorem SameG.E {g2 g:G} (h:SameG g2 g):g2.E=g.E:=E_same h.1 h.2.1 h.2.2
theorem SameG.op {g2 g:G} (h:SameG g2 g):g2.op=g.op:=op_same h.1 h.2.1 h.2.2
theorem SameG.ask {g2 g:G} (h:SameG g2 g) {x y:Int} {W:List Nat} {c:C} {e:Nat} (k:AskIs g2 x y W c e):AskIs g x y W c e:=k.same h.1 h.2.1 h.2.2
theorem cntB_congr {b b':Nat→Bool}:∀ {k:Nat},(∀c,c<k→b c=b' c)→cntB b k=cntB b' k
 | 0,_=>rfl
 | k+1,h=>by rw [cntB_succ,cntB_succ,cntB_congr fun c hc=>h c (by omega),h k (by omega)]
theorem SameG.cnt {g2 g:G} (h:SameG g2 g):cntB g2.b g2.n=cntB g.b g.n:=by rw [h.n];exact cntB_congr h.2.2
theorem SameG.cells {g2 g:G} (h:SameG g2 g):∀ {k:Nat},k≤g.n→cellsS g2 k=cellsS g k
 | 0,_=>rfl
 | k+1,hk=>by rw [cellsS_succ,cellsS_succ,SameG.cells h (k:=k) (by omega),h.2.2 k (by omega),h.1]
theorem ask_same {g:G} {x y:Int} {W W':List Nat} {c c':C} {e e':Nat} (h:AskIs g x y W c e) (k:AskIs g x y W' c' e'):c=c'∧e=e':=by
 by_cases h0:flt2 g x y=0
 ·obtain ⟨a,b,rfl,rfl,_,_,_,_,hh⟩:=h.cells h0
  obtain ⟨a',b',e1,e2,_,_,_,_,kk⟩:=k.cells h0;obtain rfl:a=a':=Int.ofNat_inj.1 e1;obtain rfl:b=b':=Int.ofNat_inj.1 e2
  rcases hh with ⟨h1,h2,_,h3⟩ | ⟨h1,h2,_⟩ <;> rcases kk with ⟨k1,k2,_,k3⟩ | ⟨k1,k2,_⟩
  ·exact ⟨by rw [h3,k3],by rw [h2,k2]⟩
  ·exact absurd k1.1 (h1 _)
  ·exact absurd h1.1 (k1 _)
  ·exact ⟨Dist.unique h1 k1,by rw [h2,k2]⟩
 ·rcases h with ⟨_,h2,_,h3⟩ | ⟨a,b,rfl,rfl,a1,a2,a3,a4,_⟩
  ·rcases k with ⟨_,k2,_,k3⟩ | ⟨a,b,rfl,rfl,a1,a2,a3,a4,_⟩
   ·exact ⟨by rw [h3,k3],by rw [h2,k2]⟩
   ·exact absurd (flt2_both (by rw [G.fault_in a1,a3];rfl) (by rw [G.fault_in a2,a4];rfl)) h0
  ·exact absurd (flt2_both (by rw [G.fault_in a1,a3];rfl) (by rw [G.fault_in a2,a4];rfl)) h0
def MoreW (g g':G):Prop:=g'.w=g.w∧g'.h=g.h∧∀c,c<g.n→g.b c=true→g'.b c=true
theorem MoreW.n {g g':G} (h:MoreW g g'):g'.n=g.n:=by unfold G.n;rw [h.1,h.2.1]
theorem MoreW.op {g g':G} (h:MoreW g g') {x y:Int} (ho:g'.op x y=true):g.op x y=true:=by
 unfold G.op at ho ⊢
 rw [h.1,h.2.1] at ho
 simp only [Bool.and_eq_true,decide_eq_true_eq,Bool.not_eq_true'] at ho ⊢
 obtain ⟨h1,h2⟩:=ho;refine ⟨h1,?_⟩
 cases hb:g.b (y.toNat*g.w+x.toNat) with
 | false=>rfl
 | true=>
  rw [h.2.2 _ ?_ hb] at h2
  ·exact h2
  ·obtain ⟨q1,q2,q3,q4⟩:=h1
   have:y.toNat*g.w+x.toNat<(y.toNat+1)*g.w:=by rw [Nat.add_mul];omega
   exact Nat.lt_of_lt_of_le this (by rw [G.n,Nat.mul_comm];exact Nat.mul_le_mul_left _ (by omega))
theorem MoreW.E {g g':G} (h:MoreW g g') {a b:Nat} {c:C} (he:g'.E a b c):g.E a b c:=by
 obtain ⟨h1,h2,u,v,k1,k2,k3,k4,k5,k6,k7,k8,k9,k10⟩:=E_uv.1 he
 have hX:∀c,g'.X c=g.X c:=fun c=>by unfold G.X;rw [h.1]
 have hY:∀c,g'.Y c=g.Y c:=fun c=>by unfold G.Y;rw [h.1]
 simp only [hX,hY] at k5 k6 k7 k8 k9 k10;rw [h.n] at h1 h2;exact E_uv.2 ⟨h1,h2,u,v,k1,k2,k3,k4,h.op k5,h.op k6,h.op k7,h.op k8,k9,k10⟩
theorem MoreW.walk {g g':G} (h:MoreW g g') {a b:Nat} {c:C} (hw:Walk g'.E a b c):Walk g.E a b c:=by
 induction hw with
 | nil=>exact .nil _
 | snoc _ he ih=>exact .snoc ih (h.E he)
theorem MoreW.ask {g g' : G} (h : MoreW g g') {x y : Int} (fx : g'.fault x = g.fault x) (fy : g'.fault y = g.fault y) {W W' : List Nat} {c c' : C} {e e' : Nat} (k : AskIs g x y W c e) (k' : AskIs g' x y W' c' e') :
    (e'=0→e=0∧C.le c c')∧(e≠0→e'=e):=by
 have hf:flt2 g' x y=flt2 g x y:=by unfold flt2;rw [fx,fy]
 by_cases h0:flt2 g x y=0
 ·obtain ⟨a,b,rfl,rfl,_,_,_,_,hh⟩:=k.cells h0
  obtain ⟨a',b',e1,e2,_,_,_,_,kk⟩:=k'.cells (hf.trans h0);obtain rfl:a=a':=Int.ofNat_inj.1 e1;obtain rfl:b=b':=Int.ofNat_inj.1 e2
  rcases hh with ⟨h1,h2,_,h3⟩ | ⟨h1,h2,_⟩ <;> rcases kk with ⟨k1,k2,_,k3⟩ | ⟨k1,k2,_⟩
  ·exact ⟨fun q=>by omega,fun _=>by rw [h2,k2]⟩
  ·exact absurd (h.walk k1.1) (h1 _)
  ·exact ⟨fun q=>by omega,fun q=>absurd h2 q⟩
  ·exact ⟨fun _=>⟨h2,h1.2 _ (h.walk k1.1)⟩,fun q=>absurd h2 q⟩
 ·rcases k with ⟨_,h2,_,h3⟩ | ⟨a,b,rfl,rfl,a1,a2,a3,a4,_⟩
  ·rcases k' with ⟨_,k2,_,k3⟩ | ⟨a,b,e1,e2,a1,a2,a3,a4,_⟩
   ·rw [hf] at k2
    exact ⟨fun q=>absurd (k2.symm.trans q) h0,fun _=>by rw [h2,k2]⟩
   ·exact absurd (hf▸flt2_both (by rw [e1,G.fault_in a1,a3];rfl) (by rw [e2,G.fault_in a2,a4];rfl)) h0
  ·exact absurd (flt2_both (by rw [G.fault_in a1,a3];rfl) (by rw [G.fault_in a2,a4];rfl)) h0
theorem MoreW.wres {g g':G} (h:MoreW g g') (hg:g.ok) {f:Nat→Int}:∀ {i:Nat} {d:C},g'.wres f i=.inr d→g.wres f i=.inr d
 | 0,_,k=>k
 | i+1,d,k=>by
  obtain ⟨z,hz,hz1,hz2⟩:=G.wres_ok k
  have hzb:g.b z=false:=by
   cases q:g.b z with
   | false=>rfl
   | true=>rw [h.2.2 z (by rw [←h.n];exact hz1) q] at hz2;cases hz2
  have f1:g'.fault (f i)=0:=by rw [hz,G.fault_in hz1,hz2];rfl
  have f2:g.fault (f i)=0:=by rw [hz,G.fault_in (by rw [←h.n];exact hz1),hzb];rfl
  unfold G.wres at k ⊢
  cases hr:g'.wres f i with
  | inl e=>rw [hr] at k;cases k
  | inr c=>
   rw [hr] at k;rw [MoreW.wres h hg hr]
   simp only [f1,f2,ne_eq,not_true_eq_false,if_false] at k ⊢
   by_cases hi:i=0
   ·rw [if_pos hi] at k ⊢;exact k
   ·rw [if_neg hi] at k ⊢
    cases hw:g'.widx (f (i-1)).toNat (f i).toNat with
    | none=>rw [hw] at k;cases k
    | some j=>
     rw [hw] at k;obtain ⟨d',h1,h2,_⟩:=G.widx_some hw;obtain ⟨m1,m2⟩:=G.moves_mem (List.mem_of_getElem? h1)
     obtain ⟨i0,rfl⟩:∃j,i=j+1:=⟨i-1,by omega⟩
     obtain ⟨y,hy,hy1,hy2⟩:=G.wres_ok hr;simp only [Nat.add_sub_cancel] at *
     have he:g'.E (f i0).toNat (f (i0+1)).toNat (g'.wst (f i0).toNat j):=⟨by rw [hy];simpa using hy1,d',m1,m2,h2.symm,by unfold G.wst;rw [List.getD_eq_getElem?_getD,h1];rfl⟩
     obtain ⟨j2,q1,q2⟩:=G.widx_E (h.E he);rw [q1];simp only [q2];exact k
def frmG (g:G):G:=⟨g.w+2,g.h+2,fun c=>!(decide (0<c % (g.w+2)∧c % (g.w+2)≤g.w∧0<c / (g.w+2)∧c / (g.w+2)≤g.h)) || g.b ((c / (g.w+2)-1)*g.w+(c % (g.w+2)-1))⟩
def frmS (g:G) (a:Nat):Nat:=(a / g.w+1)*(g.w+2)+a % g.w+1
theorem frm_op (g:G) (x y:Int):(frmG g).op (x+1) (y+1)=g.op x y:=by
 by_cases h:0≤x∧x<g.w∧0≤y∧y<g.h
 ·obtain ⟨h1,h2,h3,h4⟩:=h
  obtain ⟨i,rfl⟩:=Int.eq_ofNat_of_zero_le h1;obtain ⟨j,rfl⟩:=Int.eq_ofNat_of_zero_le h3;unfold G.op frmG;simp only
  rw [decide_eq_true (by omega),decide_eq_true (show (0:Int)≤(i:Int)∧(i:Int)<g.w∧(0:Int)≤(j:Int)∧(j:Int)<g.h by omega)]
  have e1:((i:Int)+1).toNat=i+1:=by omega
  have e2:((j:Int)+1).toNat=j+1:=by omega
  have m1:((j+1)*(g.w+2)+(i+1)) % (g.w+2)=i+1:=by rw [Nat.mul_comm,Nat.mul_add_mod];exact Nat.mod_eq_of_lt (by omega)
  have m2:((j+1)*(g.w+2)+(i+1)) / (g.w+2)=j+1:=by rw [Nat.mul_comm,Nat.mul_add_div (by omega),Nat.div_eq_of_lt (by omega)];try rfl
  rw [e1,e2,m1,m2,decide_eq_true (by omega)]
  simp
 ·have e1:g.op x y=false:=by unfold G.op;rw [decide_eq_false h];rfl
  rw [e1];unfold G.op
  by_cases h2:0≤x+1∧x+1<((frmG g).w:Nat)∧0≤y+1∧y+1<((frmG g).h:Nat)
  ·rw [decide_eq_true h2]
   obtain ⟨h1,h2,h3,h4⟩:=h2
   simp only [frmG] at h2 h4 ⊢
   obtain ⟨i,hi⟩:=Int.eq_ofNat_of_zero_le h1;obtain ⟨j,hj⟩:=Int.eq_ofNat_of_zero_le h3;rw [hi,hj];simp only [Int.toNat_natCast]
   have m1:(j*(g.w+2)+i) % (g.w+2)=i:=by rw [Nat.mul_comm,Nat.mul_add_mod];exact Nat.mod_eq_of_lt (by omega)
   have m2:(j*(g.w+2)+i) / (g.w+2)=j:=by rw [Nat.mul_comm,Nat.mul_add_div (by omega),Nat.div_eq_of_lt (by omega)];try rfl
   have hd:¬(0<i∧i≤g.w∧0<j∧j≤g.h):=by omega
   simp only [m1,m2];rw [decide_eq_false hd]
   rfl
  ·rw [decide_eq_false h2];rfl
theorem frm_XY (g:G) (hg:g.ok) {a:Nat} (ha:a<g.n):(frmG g).X (frmS g a)=g.X a+1∧(frmG g).Y (frmS g a)=g.Y a+1∧frmS g a<(frmG g).n:=by
 have h1:=G.X_lt hg a;have h2:=G.Y_lt ha
 have e:frmS g a=(frmG g).cell (g.X a+1) (g.Y a+1):=by
  unfold frmS G.cell frmG G.X G.Y;simp only;omega
 rw [e,G.X_cell (by simp only [frmG];omega),G.Y_cell (by simp only [frmG];omega)]
 exact ⟨rfl,rfl,G.cell_lt (by simp only [frmG];omega) (by simp only [frmG];omega)⟩
theorem frm_emb (g:G) (hg:g.ok):Emb g (frmG g) (fun x y=>(x+1,y+1)) false 1 1 (frmS g) where
 op:=frm_op g
 hp:=.inl rfl
 hq:=.inl rfl
 lin:=fun x y u v=>by simp only [Bool.false_eq_true,if_false,Int.one_mul];refine Prod.ext ?_ ?_ <;> simp only <;> omega
 lt:=fun a ha=>(frm_XY g hg ha).2.2
 pl:=fun a ha=>by obtain ⟨h1,h2,_⟩:=frm_XY g hg ha;rw [h1,h2];exact ⟨by simp,by simp⟩
theorem frm_ok {g:G} (hg:g.ok) (hw:g.w≤14) (hh:g.h≤14):(frmG g).ok:=by
 obtain ⟨h1,h2,h3,h4⟩:=hg
 refine ⟨?_,?_,?_,?_⟩ <;> simp only [frmG] <;> omega
theorem frm_cov {g:G} (hg:g.ok):Emb.Cov g (frmG g) (frmS g):=by
 intro y hy;have ho:=hy.2.1;have e:=frm_op g (((frmG g).X y:Int)-1) (((frmG g).Y y:Int)-1)
 rw [show ((frmG g).X y:Int)-1+1=(frmG g).X y by omega,show ((frmG g).Y y:Int)-1+1=(frmG g).Y y by omega,ho] at e
 obtain ⟨h1,h2,h3⟩:=G.at_XY e.symm;refine ⟨_,h1,?_⟩;obtain ⟨k1,k2,_⟩:=frm_XY g hg h1
 exact cell_ext (g:=frmG g) (by omega) (by omega)
theorem gset_self {g:G} {c:Nat} {t:Bool} (h:g.b c=t):gset g c t=g:=by
 have:upd g.b c t=g.b:=by
  funext j
  unfold upd
  split
  ·rename_i e;rw [e,h]
  ·rfl
 unfold gset;rw [this]
theorem SameG.gset {g2 g:G} (h:SameG g2 g) (c:Nat) (t:Bool):SameG (gset g2 c t) (gset g c t):=by
 refine ⟨h.1,h.2.1,fun j hj=>?_⟩
 show upd g2.b c t j=upd g.b c t j
 unfold upd
 split
 ·rfl
 ·exact h.2.2 j hj
def frmP (g:G) (k:Nat):G:=⟨g.w+2,g.h+2,fun c=>decide (c<k) && (frmG g).b c⟩
theorem frmP_zero (g:G):(⟨g.w+2,g.h+2,fun _=>false⟩:G)=frmP g 0:=by
 unfold frmP;simp
theorem frmP_set (g:G) (k:Nat):gset (frmP g k) k ((frmG g).b k)=frmP g (k+1):=by
 unfold gset frmP
 congr 1
 funext c
 simp only [upd]
 by_cases h:c=k
 ·subst h
  simp
 ·rw [if_neg h]
  by_cases h2:c<k
  ·rw [decide_eq_true h2,decide_eq_true (show c<k+1 by omega)]
  ·rw [decide_eq_false h2,decide_eq_false (show ¬c<k+1 by omega)]
theorem frmP_same (g:G):SameG (frmP g (frmG g).n) (frmG g):=⟨rfl,rfl,fun c hc=>by
 show (decide (c<(frmG g).n) && (frmG g).b c)=_
 rw [decide_eq_true hc]
 rfl⟩
theorem frmP_ok {g:G} (h:(frmG g).ok) (k:Nat):(frmP g k).ok:=h
theorem frm_bit_in (g:G) {x y:Nat} (h1:0<x) (h2:x≤g.w) (h3:0<y) (h4:y≤g.h):(frmG g).b (y*(g.w+2)+x)=g.b ((y-1)*g.w+(x-1)):=by
 have m1:(y*(g.w+2)+x) % (g.w+2)=x:=by rw [Nat.mul_comm,Nat.mul_add_mod];exact Nat.mod_eq_of_lt (by omega)
 have m2:(y*(g.w+2)+x) / (g.w+2)=y:=by rw [Nat.mul_comm,Nat.mul_add_div (by omega),Nat.div_eq_of_lt (by omega)];try rfl
 simp only [frmG,m1,m2]
 rw [decide_eq_true (show 0<x∧x≤g.w∧0<y∧y≤g.h from ⟨h1,h2,h3,h4⟩)]
 rfl
theorem frm_bit_out (g:G) {x y:Nat} (hx:x<g.w+2) (h:¬(0<x∧x≤g.w∧0<y∧y≤g.h)):(frmG g).b (y*(g.w+2)+x)=true:=by
 have m1:(y*(g.w+2)+x) % (g.w+2)=x:=by rw [Nat.mul_comm,Nat.mul_add_mod];exact Nat.mod_eq_of_lt (by omega)
 have m2:(y*(g.w+2)+x) / (g.w+2)=y:=by rw [Nat.mul_comm,Nat.mul_add_div (by omega),Nat.div_eq_of_lt (by omega)];try rfl
 simp only [frmG,m1,m2];rw [decide_eq_false h]
 rfl
theorem Emb.same {g g' g2 g3:G} {f:Int→Int→Int×Int} {s:Bool} {p q:Int} {σ:Nat→Nat} (h:Emb g g' f s p q σ) (k:SameG g2 g) (k':SameG g3 g'):Emb g2 g3 f s p q σ where
 op:=fun x y=>by rw [k.op,k'.op];exact h.op x y
 hp:=h.hp
 hq:=h.hq
 lin:=h.lin
 lt:=fun a ha=>by rw [k'.n];exact h.lt a (by rw [←k.n];exact ha)
 pl:=fun a ha=>by
  have:=h.pl a (by rw [←k.n];exact ha)
  simp only [G.X,G.Y] at this ⊢
  rw [k.1,k'.1];exact this
theorem SameG.corner {g2 g:G} (k:SameG g2 g) (y:Nat):g2.Corner y↔g.Corner y:=by
 unfold G.Corner;rw [k.n,k.op];simp only [G.X,G.Y];rw [k.1]
theorem Emb.Cov.same {g g' g2 g3:G} {σ:Nat→Nat} (h:Emb.Cov g g' σ) (k:SameG g2 g) (k':SameG g3 g'):Emb.Cov g2 g3 σ:=fun y hy=>by
 obtain ⟨a,ha,e⟩:=h y ((k'.corner y).1 hy)
 exact ⟨a,by rw [k.n];exact ha,e⟩
end Go.Proofs.YtokhnobcincfjaaGreatDoor
