/- Lemmas of this claim: MathAsk7, MathFrm, MathEdit, MathFrm2. -/
import Derived.Test.YtokhnobcincfjaaGreatDoorKNFt36
import Derived.Test.YtokhnobcincfjaaGreatDoorKNFt27
import Derived.Test.YtokhnobcincfjaaGreatDoorBase
import Derived.Test.YtokhnobcincfjaaGreatDoorKNFt3
set_option linter.unusedVariables false
set_option linter.unusedSimpArgs false
namespace Go.Proofs.YtokhnobcincfjaaGreatDoor
open FR
def SameG (g2 g:G):Prop:=g2.w=g.w∧g2.h=g.h∧∀c,c<g.n→g2.b c=g.b c
theorem SameG.n {g2 g:G} (h:SameG g2 g):g2.n=g.n:=by unfold G.n;rw [h.1,h.2.1]
theorem SameG.trans {a b c:G} (h:SameG a b) (k:SameG b c):SameG a c:=⟨h.1.trans k.1,h.2.1.trans k.2.1,fun x hx=>(h.2.2 x (by rw [k.n];exact hx)).trans (k.2.2 x hx)⟩
theorem SameG.op {g2 g:G} (h:SameG g2 g):g2.op=g.op:=op_same h.1 h.2.1 h.2.2
theorem cntB_congr {b b':Nat→Bool}:∀ {k:Nat},(∀c,c<k→b c=b' c)→cntB b k=cntB b' k
 | 0,_=>rfl
 | k+1,h=>by rw [cntB_succ,cntB_succ,cntB_congr fun c hc=>h c (by omega),h k (by omega)]
def frmG (g:G):G:=⟨g.w+2,g.h+2,fun c=>!(decide (0<c % (g.w+2)∧c % (g.w+2)≤g.w∧0<c / (g.w+2)∧c / (g.w+2)≤g.h)) || g.b ((c / (g.w+2)-1)*g.w+(c % (g.w+2)-1))⟩
def frmS (g:G) (a:Nat):Nat:=(a / g.w+1)*(g.w+2)+a % g.w+1
theorem frm_op (g:G) (x y:Int):(frmG g).op (x+1) (y+1)=g.op x y:=by
 by_cases h:0≤x∧x<g.w∧0≤y∧y<g.h
 ·obtain ⟨h1,h2,h3,h4⟩:=h
  obtain ⟨i,rfl⟩:=Int.eq_ofNat_of_zero_le h1;obtain ⟨j,rfl⟩:=Int.eq_ofNat_of_zero_le h3;unfold G.op frmG;simp only
  rw [decide_eq_true (by omega),decide_eq_true (show (0:Int)≤(i:Int)∧(i:Int)<g.w∧(0:Int)≤(j:Int)∧(j:Int)<g.h by omega)]
  have e1:((i:Int)+1).toNat=i+1:=by omega
  have e2:((j:Int)+1).toNat=j+1:=by omega
  have m1:((j+1)*(g.w+2)+(i+1)) % (g.w+2)=i+1:=by rw [Nat.mul_comm,Nat.mul_add_mod];exact Nat.mod_eq_of_lt (by omega)
  have m2:((j+1)*(g.w+2)+(i+1)) / (g.w+2)=j+1:=by rw [Nat.mul_comm,Nat.mul_add_div (by omega),Nat.div_eq_of_lt (by omega)];try rfl
  rw [e1,e2,m1,m2,decide_eq_true (by omega)]
  simp
 ·have e1:g.op x y=false:=by unfold G.op;rw [decide_eq_false h];rfl
  rw [e1];unfold G.op
  by_cases h2:0≤x+1∧x+1<((frmG g).w:Nat)∧0≤y+1∧y+1<((frmG g).h:Nat)
  ·rw [decide_eq_true h2]
   obtain ⟨h1,h2,h3,h4⟩:=h2
   simp only [frmG] at h2 h4 ⊢
   obtain ⟨i,hi⟩:=Int.eq_ofNat_of_zero_le h1;obtain ⟨j,hj⟩:=Int.eq_ofNat_of_zero_le h3;rw [hi,hj];simp only [Int.toNat_natCast]
   have m1:(j*(g.w+2)+i) % (g.w+2)=i:=by rw [Nat.mul_comm,Nat.mul_add_mod];exact Nat.mod_eq_of_lt (by omega)
   have m2:(j*(g.w+2)+i) / (g.w+2)=j:=by rw [Nat.mul_comm,Nat.mul_add_div (by omega),Nat.div_eq_of_lt (by omega)];try rfl
   have hd:¬(0<i∧i≤g.w∧0<j∧j≤g.h):=by omega
   simp only [m1,m2];rw [decide_eq_false hd]
   rfl
  ·rw [decide_eq_false h2];rfl
theorem frm_XY (g:G) (hg:g.ok) {a:Nat} (ha:a<g.n):(frmG g).X (frmS g a)=g.X a+1∧(frmG g).Y (frmS g a)=g.Y a+1∧frmS g a<(frmG g).n:=by
 have h1:=G.X_lt hg a;have h2:=G.Y_lt ha
 have e:frmS g a=(frmG g).cell (g.X a+1) (g.Y a+1):=by
  unfold frmS G.cell frmG G.X G.Y;simp only;omega
 rw [e,G.X_cell (by simp only [frmG];omega),G.Y_cell (by simp only [frmG];omega)]
 exact ⟨rfl,rfl,G.cell_lt (by simp only [frmG];omega) (by simp only [frmG];omega)⟩
theorem frm_emb (g:G) (hg:g.ok):Emb g (frmG g) (fun x y=>(x+1,y+1)) false 1 1 (frmS g) where
 op:=frm_op g
 hp:=.inl rfl
 hq:=.inl rfl
 lin:=fun x y u v=>by simp only [Bool.false_eq_true,if_false,Int.one_mul];refine Prod.ext ?_ ?_ <;> simp only <;> omega
 lt:=fun a ha=>(frm_XY g hg ha).2.2
 pl:=fun a ha=>by obtain ⟨h1,h2,_⟩:=frm_XY g hg ha;rw [h1,h2];exact ⟨by simp,by simp⟩
theorem frm_ok {g:G} (hg:g.ok) (hw:g.w≤14) (hh:g.h≤14):(frmG g).ok:=by
 obtain ⟨h1,h2,h3,h4⟩:=hg
 refine ⟨?_,?_,?_,?_⟩ <;> simp only [frmG] <;> omega
theorem frm_cov {g:G} (hg:g.ok):Emb.Cov g (frmG g) (frmS g):=by
 intro y hy;have ho:=hy.2.1;have e:=frm_op g (((frmG g).X y:Int)-1) (((frmG g).Y y:Int)-1)
 rw [show ((frmG g).X y:Int)-1+1=(frmG g).X y by omega,show ((frmG g).Y y:Int)-1+1=(frmG g).Y y by omega,ho] at e
 obtain ⟨h1,h2,h3⟩:=G.at_XY e.symm;refine ⟨_,h1,?_⟩;obtain ⟨k1,k2,_⟩:=frm_XY g hg h1
 exact cell_ext (g:=frmG g) (by omega) (by omega)
def trnX (g:G) (t:Nat) (x:Int):Int:=if t % 2=1 then (g.w:Int)-1-x else x
def trnY (g:G) (t:Nat) (y:Int):Int:=if t / 2 % 2=1 then (g.h:Int)-1-y else y
def trnF (g:G) (t:Nat) (x y:Int):Int×Int:=if t / 4 % 2=1 then (trnY g t y,trnX g t x) else (trnX g t x,trnY g t y)
def trnW (g:G) (t:Nat):Nat:=if t / 4 % 2=1 then g.h else g.w
def trnH (g:G) (t:Nat):Nat:=if t / 4 % 2=1 then g.w else g.h
def trnS (g:G) (t a:Nat):Nat:=if t / 4 % 2=1 then (trnX g t (g.X a)).toNat*g.h+(trnY g t (g.Y a)).toNat else (trnY g t (g.Y a)).toNat*g.w+(trnX g t (g.X a)).toNat
theorem trnX_in (g:G) (t:Nat) (x:Int):(0≤trnX g t x∧trnX g t x<g.w)↔(0≤x∧x<g.w):=by unfold trnX;split <;> omega
theorem trnY_in (g:G) (t:Nat) (y:Int):(0≤trnY g t y∧trnY g t y<g.h)↔(0≤y∧y<g.h):=by unfold trnY;split <;> omega
def TrnG (g:G) (t:Nat) (g':G):Prop:=g'.w=trnW g t∧g'.h=trnH g t∧∀a,a<g.n→g'.b (trnS g t a)=g.b a
theorem trn_cell {g:G} (t:Nat) (a:Nat):trnS g t a=(trnF g t (g.X a) (g.Y a)).2.toNat*trnW g t+(trnF g t (g.X a) (g.Y a)).1.toNat:=by
 unfold trnS trnF trnW
 split <;> rfl
theorem trn_in (g:G) (t:Nat) (x y:Int):(0≤(trnF g t x y).1∧(trnF g t x y).1<trnW g t∧0≤(trnF g t x y).2∧(trnF g t x y).2<trnH g t)↔(0≤x∧x<g.w∧0≤y∧y<g.h):=by
 have h1:=trnX_in g t x;have h2:=trnY_in g t y;unfold trnF trnW trnH
 split <;> simp only <;> omega
theorem trn_op {g g':G} {t:Nat} (h:TrnG g t g') (x y:Int):g'.op (trnF g t x y).1 (trnF g t x y).2=g.op x y:=by
 obtain ⟨h1,h2,h3⟩:=h;have hi:=trn_in g t x y;unfold G.op;rw [h1,h2,decide_eq_decide.2 hi]
 by_cases hin:0≤x∧x<g.w∧0≤y∧y<g.h
 ·rw [decide_eq_true hin,Bool.true_and,Bool.true_and]
  obtain ⟨k1,k2,k3,k4⟩:=hin;obtain ⟨i,rfl⟩:=Int.eq_ofNat_of_zero_le k1;obtain ⟨j,rfl⟩:=Int.eq_ofNat_of_zero_le k3
  have hc:=G.cell_lt (g:=g) (x:=i) (y:=j) (by omega) (by omega)
  have:=h3 _ hc
  rw [trn_cell,G.X_cell (by omega),G.Y_cell (by omega)] at this
  simp only [Int.toNat_natCast];rw [this]
  rfl
 ·rw [decide_eq_false hin];rfl
theorem trn_emb {g g':G} {t:Nat} (hg:g.ok) (h:TrnG g t g'):Emb g g' (trnF g t) (decide (t / 4 % 2=1)) (if t % 2=1 then -1 else 1) (if t / 2 % 2=1 then -1 else 1) (trnS g t) where
 op:=trn_op h
 hp:=by split <;> simp
 hq:=by split <;> simp
 lin:=fun x y u v=>by
  unfold trnF trnX trnY
  by_cases h1:t / 4 % 2=1 <;> by_cases h2:t / 2 % 2=1 <;> by_cases h3:t % 2=1 <;> simp only [h1,h2,h3,if_true,if_false,decide_true,decide_false,Bool.false_eq_true] <;> refine Prod.ext ?_ ?_ <;> simp only <;> omega
 lt:=fun a ha=>by
  have h1:=G.X_lt hg a;have h2:=G.Y_lt ha
  have hi:=(trn_in g t (g.X a) (g.Y a)).2 (by omega)
  obtain ⟨e1,e2,_⟩:=h;rw [trn_cell,G.n,e1,e2]
  exact G.cell_lt (g:=⟨trnW g t,trnH g t,fun _=>false⟩) (by simp only;omega) (by simp only;omega)
 pl:=fun a ha=>by
  have h1:=G.X_lt hg a;have h2:=G.Y_lt ha
  have hi:=(trn_in g t (g.X a) (g.Y a)).2 (by omega)
  obtain ⟨e1,e2,_⟩:=h;rw [trn_cell];unfold G.X G.Y;rw [e1]
  have m1:((trnF g t (g.X a) (g.Y a)).2.toNat*trnW g t+(trnF g t (g.X a) (g.Y a)).1.toNat) % trnW g t=(trnF g t (g.X a) (g.Y a)).1.toNat:=by rw [Nat.mul_comm,Nat.mul_add_mod];exact Nat.mod_eq_of_lt (by omega)
  have m2:((trnF g t (g.X a) (g.Y a)).2.toNat*trnW g t+(trnF g t (g.X a) (g.Y a)).1.toNat) / trnW g t=(trnF g t (g.X a) (g.Y a)).2.toNat:=by rw [Nat.mul_comm,Nat.mul_add_div (by omega),Nat.div_eq_of_lt (by omega)];try rfl
  unfold G.X G.Y at m1 m2 hi;rw [m1,m2];omega
theorem trn_cov {g g':G} {t:Nat} (hg:g.ok) (h:TrnG g t g'):Emb.Cov g g' (trnS g t):=by
 intro y hy;have ho:=hy.2.1
 -- back again
 obtain ⟨x0,y0,hxy⟩:∃x0 y0:Int,trnF g t x0 y0=(((g'.X y:Nat):Int),((g'.Y y:Nat):Int)):=by
  unfold trnF trnX trnY
  by_cases h1:t / 4 % 2=1 <;> by_cases h2:t / 2 % 2=1 <;> by_cases h3:t % 2=1 <;> simp only [h1,h2,h3,if_true,if_false]
  ·exact ⟨(g.w:Int)-1-g'.Y y,(g.h:Int)-1-g'.X y,Prod.ext (by simp only;omega) (by simp only;omega)⟩
  ·exact ⟨(g'.Y y:Int),(g.h:Int)-1-g'.X y,Prod.ext (by simp only;omega) (by simp only)⟩
  ·exact ⟨(g.w:Int)-1-g'.Y y,(g'.X y:Int),Prod.ext (by simp only) (by simp only;omega)⟩
  ·exact ⟨(g'.Y y:Int),(g'.X y:Int),rfl⟩
  ·exact ⟨(g.w:Int)-1-g'.X y,(g.h:Int)-1-g'.Y y,Prod.ext (by simp only;omega) (by simp only;omega)⟩
  ·exact ⟨(g'.X y:Int),(g.h:Int)-1-g'.Y y,Prod.ext (by simp only) (by simp only;omega)⟩
  ·exact ⟨(g.w:Int)-1-g'.X y,(g'.Y y:Int),Prod.ext (by simp only;omega) (by simp only)⟩
  ·exact ⟨(g'.X y:Int),(g'.Y y:Int),rfl⟩
 have e:=trn_op h x0 y0;rw [hxy] at e;simp only at e;rw [ho] at e;obtain ⟨k1,k2,k3⟩:=G.at_XY e.symm;refine ⟨_,k1,?_⟩;obtain ⟨p1,p2⟩:=(trn_emb hg h).pl _ k1;rw [k2,k3,hxy] at p1 p2
 exact cell_ext (g:=g') (by simp only at p1;omega) (by simp only at p2;omega)
theorem trn_ok {g g':G} {t:Nat} (hg:g.ok) (h:TrnG g t g'):g'.ok:=by
 obtain ⟨h1,h2,h3,h4⟩:=hg;obtain ⟨e1,e2,_⟩:=h;unfold trnW at e1;unfold trnH at e2
 by_cases h5:t / 4 % 2=1
 ·rw [if_pos h5] at e1 e2
  exact ⟨by omega,by omega,by omega,by omega⟩
 ·rw [if_neg h5] at e1 e2
  exact ⟨by omega,by omega,by omega,by omega⟩
theorem gset_self {g:G} {c:Nat} {t:Bool} (h:g.b c=t):gset g c t=g:=by
 have:upd g.b c t=g.b:=by
  funext j
  unfold upd
  split
  ·rename_i e;rw [e,h]
  ·rfl
 unfold gset;rw [this]
def frmP (g:G) (k:Nat):G:=⟨g.w+2,g.h+2,fun c=>decide (c<k) && (frmG g).b c⟩
theorem frmP_zero (g:G):(⟨g.w+2,g.h+2,fun _=>false⟩:G)=frmP g 0:=by
 unfold frmP;simp
theorem frmP_set (g:G) (k:Nat):gset (frmP g k) k ((frmG g).b k)=frmP g (k+1):=by
 unfold gset frmP
 congr 1
 funext c
 simp only [upd]
 by_cases h:c=k
 ·subst h
  simp
 ·rw [if_neg h]
  by_cases h2:c<k
  ·rw [decide_eq_true h2,decide_eq_true (show c<k+1 by omega)]
  ·rw [decide_eq_false h2,decide_eq_false (show ¬c<k+1 by omega)]
theorem frmP_same (g:G):SameG (frmP g (frmG g).n) (frmG g):=⟨rfl,rfl,fun c hc=>by
 show (decide (c<(frmG g).n) && (frmG g).b c)=_
 rw [decide_eq_true hc]
 rfl⟩
theorem frmP_ok {g:G} (h:(frmG g).ok) (k:Nat):(frmP g k).ok:=h
theorem frm_bit_in (g:G) {x y:Nat} (h1:0<x) (h2:x≤g.w) (h3:0<y) (h4:y≤g.h):(frmG g).b (y*(g.w+2)+x)=g.b ((y-1)*g.w+(x-1)):=by
 have m1:(y*(g.w+2)+x) % (g.w+2)=x:=by rw [Nat.mul_comm,Nat.mul_add_mod];exact Nat.mod_eq_of_lt (by omega)
 have m2:(y*(g.w+2)+x) / (g.w+2)=y:=by rw [Nat.mul_comm,Nat.mul_add_div (by omega),Nat.div_eq_of_lt (by omega)];try rfl
 simp only [frmG,m1,m2]
 rw [decide_eq_true (show 0<x∧x≤g.w∧0<y∧y≤g.h from ⟨h1,h2,h3,h4⟩)]
 rfl
theorem frm_bit_out (g:G) {x y:Nat} (hx:x<g.w+2) (h:¬(0<x∧x≤g.w∧0<y∧y≤g.h)):(frmG g).b (y*(g.w+2)+x)=true:=by
 have m1:(y*(g.w+2)+x) % (g.w+2)=x:=by rw [Nat.mul_comm,Nat.mul_add_mod];exact Nat.mod_eq_of_lt (by omega)
 have m2:(y*(g.w+2)+x) / (g.w+2)=y:=by rw [Nat.mul_comm,Nat.mul_add_div (by omega),Nat.div_eq_of_lt (by omega)];try rfl
 simp only [frmG,m1,m2];rw [decide_eq_false h]
 rfl
theorem Emb.same {g g' g2 g3:G} {f:Int→Int→Int×Int} {s:Bool} {p q:Int} {σ:Nat→Nat} (h:Emb g g' f s p q σ) (k:SameG g2 g) (k':SameG g3 g'):Emb g2 g3 f s p q σ where
 op:=fun x y=>by rw [k.op,k'.op];exact h.op x y
 hp:=h.hp
 hq:=h.hq
 lin:=h.lin
 lt:=fun a ha=>by rw [k'.n];exact h.lt a (by rw [←k.n];exact ha)
 pl:=fun a ha=>by
  have:=h.pl a (by rw [←k.n];exact ha)
  simp only [G.X,G.Y] at this ⊢
  rw [k.1,k'.1];exact this
theorem SameG.corner {g2 g:G} (k:SameG g2 g) (y:Nat):g2.Corner y↔g.Corner y:=by
 unfold G.Corner;rw [k.n,k.op];simp only [G.X,G.Y];rw [k.1]
theorem Emb.Cov.same {g g' g2 g3:G} {σ:Nat→Nat} (h:Emb.Cov g g' σ) (k:SameG g2 g) (k':SameG g3 g'):Emb.Cov g2 g3 σ:=fun y hy=>by
 obtain ⟨a,ha,e⟩:=h y ((k'.corner y).1 hy)
 exact ⟨a,by rw [k.n];exact ha,e⟩
end Go.Proofs.YtokhnobcincfjaaGreatDoor
