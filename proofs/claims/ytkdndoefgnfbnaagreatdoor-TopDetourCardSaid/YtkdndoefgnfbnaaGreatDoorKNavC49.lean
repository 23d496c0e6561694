/- Lemmas of this claim: MathAsk7, MathEdit. -/
import Derived.Test.YtkdndoefgnfbnaaGreatDoorKNavC40
import Derived.Test.YtkdndoefgnfbnaaGreatDoorKNavC32
import Derived.Test.YtkdndoefgnfbnaaGreatDoorBase
import Derived.Test.YtkdndoefgnfbnaaGreatDoorKNavC2
import Derived.Test.YtkdndoefgnfbnaaGreatDoorKNavC3
set_option linter.unusedVariables false
set_option linter.unusedSimpArgs false
namespace Go.Proofs.YtkdndoefgnfbnaaGreatDoor
open FR
def SameG (g2 g:G):Prop:=g2.w=g.w∧g2.h=g.h∧∀c,c<g.n→g2.b c=g.b c
theorem SameG.n {g2 g:G} (h:SameG g2 g):g2.n=g.n:=by unfold G.n;rw [h.1,h.2.1]
theorem SameG.ask {g2 g:G} (h:SameG g2 g) {x y:Int} {W:List Nat} {c:C} {e:Nat} (k:AskIs g2 x y W c e):AskIs g x y W c e:=k.same h.1 h.2.1 h.2.2
theorem cntB_congr {b b':Nat→Bool}:∀ {k:Nat},(∀c,c<k→b c=b' c)→cntB b k=cntB b' k
 | 0,_=>rfl
 | k+1,h=>by rw [cntB_succ,cntB_succ,cntB_congr fun c hc=>h c (by omega),h k (by omega)]
def MoreW (g g':G):Prop:=g'.w=g.w∧g'.h=g.h∧∀c,c<g.n→g.b c=true→g'.b c=true
theorem MoreW.n {g g':G} (h:MoreW g g'):g'.n=g.n:=by unfold G.n;rw [h.1,h.2.1]
theorem MoreW.op {g g':G} (h:MoreW g g') {x y:Int} (ho:g'.op x y=true):g.op x y=true:=by
 unfold G.op at ho ⊢
 rw [h.1,h.2.1] at ho
 simp only [Bool.and_eq_true,decide_eq_true_eq,Bool.not_eq_true'] at ho ⊢
 obtain ⟨h1,h2⟩:=ho;refine ⟨h1,?_⟩
 cases hb:g.b (y.toNat*g.w+x.toNat) with
 | false=>rfl
 | true=>
  rw [h.2.2 _ ?_ hb] at h2
  ·exact h2
  ·obtain ⟨q1,q2,q3,q4⟩:=h1
   have:y.toNat*g.w+x.toNat<(y.toNat+1)*g.w:=by rw [Nat.add_mul];omega
   exact Nat.lt_of_lt_of_le this (by rw [G.n,Nat.mul_comm];exact Nat.mul_le_mul_left _ (by omega))
theorem MoreW.E {g g':G} (h:MoreW g g') {a b:Nat} {c:C} (he:g'.E a b c):g.E a b c:=by
 obtain ⟨h1,h2,u,v,k1,k2,k3,k4,k5,k6,k7,k8,k9,k10⟩:=E_uv.1 he
 have hX:∀c,g'.X c=g.X c:=fun c=>by unfold G.X;rw [h.1]
 have hY:∀c,g'.Y c=g.Y c:=fun c=>by unfold G.Y;rw [h.1]
 simp only [hX,hY] at k5 k6 k7 k8 k9 k10;rw [h.n] at h1 h2;exact E_uv.2 ⟨h1,h2,u,v,k1,k2,k3,k4,h.op k5,h.op k6,h.op k7,h.op k8,k9,k10⟩
theorem MoreW.walk {g g':G} (h:MoreW g g') {a b:Nat} {c:C} (hw:Walk g'.E a b c):Walk g.E a b c:=by
 induction hw with
 | nil=>exact .nil _
 | snoc _ he ih=>exact .snoc ih (h.E he)
theorem MoreW.ask {g g' : G} (h : MoreW g g') {x y : Int} (fx : g'.fault x = g.fault x) (fy : g'.fault y = g.fault y) {W W' : List Nat} {c c' : C} {e e' : Nat} (k : AskIs g x y W c e) (k' : AskIs g' x y W' c' e') :
    (e'=0→e=0∧C.le c c')∧(e≠0→e'=e):=by
 have hf:flt2 g' x y=flt2 g x y:=by unfold flt2;rw [fx,fy]
 by_cases h0:flt2 g x y=0
 ·obtain ⟨a,b,rfl,rfl,_,_,_,_,hh⟩:=k.cells h0
  obtain ⟨a',b',e1,e2,_,_,_,_,kk⟩:=k'.cells (hf.trans h0);obtain rfl:a=a':=Int.ofNat_inj.1 e1;obtain rfl:b=b':=Int.ofNat_inj.1 e2
  rcases hh with ⟨h1,h2,_,h3⟩ | ⟨h1,h2,_⟩ <;> rcases kk with ⟨k1,k2,_,k3⟩ | ⟨k1,k2,_⟩
  ·exact ⟨fun q=>by omega,fun _=>by rw [h2,k2]⟩
  ·exact absurd (h.walk k1.1) (h1 _)
  ·exact ⟨fun q=>by omega,fun q=>absurd h2 q⟩
  ·exact ⟨fun _=>⟨h2,h1.2 _ (h.walk k1.1)⟩,fun q=>absurd h2 q⟩
 ·rcases k with ⟨_,h2,_,h3⟩ | ⟨a,b,rfl,rfl,a1,a2,a3,a4,_⟩
  ·rcases k' with ⟨_,k2,_,k3⟩ | ⟨a,b,e1,e2,a1,a2,a3,a4,_⟩
   ·rw [hf] at k2
    exact ⟨fun q=>absurd (k2.symm.trans q) h0,fun _=>by rw [h2,k2]⟩
   ·exact absurd (hf▸flt2_both (by rw [e1,G.fault_in a1,a3];rfl) (by rw [e2,G.fault_in a2,a4];rfl)) h0
  ·exact absurd (flt2_both (by rw [G.fault_in a1,a3];rfl) (by rw [G.fault_in a2,a4];rfl)) h0
theorem MoreW.wres {g g':G} (h:MoreW g g') (hg:g.ok) {f:Nat→Int}:∀ {i:Nat} {d:C},g'.wres f i=.inr d→g.wres f i=.inr d
 | 0,_,k=>k
 | i+1,d,k=>by
  obtain ⟨z,hz,hz1,hz2⟩:=G.wres_ok k
  have hzb:g.b z=false:=by
   cases q:g.b z with
   | false=>rfl
   | true=>rw [h.2.2 z (by rw [←h.n];exact hz1) q] at hz2;cases hz2
  have f1:g'.fault (f i)=0:=by rw [hz,G.fault_in hz1,hz2];rfl
  have f2:g.fault (f i)=0:=by rw [hz,G.fault_in (by rw [←h.n];exact hz1),hzb];rfl
  unfold G.wres at k ⊢
  cases hr:g'.wres f i with
  | inl e=>rw [hr] at k;cases k
  | inr c=>
   rw [hr] at k;rw [MoreW.wres h hg hr]
   simp only [f1,f2,ne_eq,not_true_eq_false,if_false] at k ⊢
   by_cases hi:i=0
   ·rw [if_pos hi] at k ⊢;exact k
   ·rw [if_neg hi] at k ⊢
    cases hw:g'.widx (f (i-1)).toNat (f i).toNat with
    | none=>rw [hw] at k;cases k
    | some j=>
     rw [hw] at k;obtain ⟨d',h1,h2,_⟩:=G.widx_some hw;obtain ⟨m1,m2⟩:=G.moves_mem (List.mem_of_getElem? h1)
     obtain ⟨i0,rfl⟩:∃j,i=j+1:=⟨i-1,by omega⟩
     obtain ⟨y,hy,hy1,hy2⟩:=G.wres_ok hr;simp only [Nat.add_sub_cancel] at *
     have he:g'.E (f i0).toNat (f (i0+1)).toNat (g'.wst (f i0).toNat j):=⟨by rw [hy];simpa using hy1,d',m1,m2,h2.symm,by unfold G.wst;rw [List.getD_eq_getElem?_getD,h1];rfl⟩
     obtain ⟨j2,q1,q2⟩:=G.widx_E (h.E he);rw [q1];simp only [q2];exact k
theorem wres_walk {g:G} {f:Nat→Int}:∀ {i:Nat} {d:C},g.wres f (i+1)=.inr d→∃a z:Nat,f 0=a∧f i=z∧Walk g.E a z d
 | 0,d,k=>by
  obtain ⟨z,hz,_,_⟩:=G.wres_ok k;unfold G.wres at k
  have:d=C.zero:=by
   simp only [G.wres] at k
   split at k
   ·cases k
   ·simp only [if_true] at k;injection k with k;exact k.symm
  rw [this];exact ⟨z,z,hz,hz,.nil _⟩
 | i+1,d,k=>by
  obtain ⟨z,hz,hz1,hz2⟩:=G.wres_ok k;unfold G.wres at k
  cases hr:g.wres f (i+1) with
  | inl e=>rw [hr] at k;cases k
  | inr c=>
   obtain ⟨a,y,h1,h2,h3⟩:=wres_walk hr;obtain ⟨y',hy,hy1,hy2⟩:=G.wres_ok hr;rw [hr] at k;simp only at k
   split at k
   ·cases k
   ·rw [if_neg (by omega)] at k
    simp only [Nat.add_sub_cancel] at k
    cases hw:g.widx (f i).toNat (f (i+1)).toNat with
    | none=>rw [hw] at k;cases k
    | some j=>
     rw [hw] at k;simp only at k
     injection k with k
     obtain ⟨d',h4,h5,_⟩:=G.widx_some hw;obtain ⟨m1,m2⟩:=G.moves_mem (List.mem_of_getElem? h4)
     have he:g.E (f i).toNat (f (i+1)).toNat (g.wst (f i).toNat j):=⟨by rw [hy];simpa using hy1,d',m1,m2,h5.symm,by unfold G.wst;rw [List.getD_eq_getElem?_getD,h4];rfl⟩
     rw [h2,hz] at he;simp only [Int.toNat_natCast] at he;rw [←k,h2];exact ⟨a,z,h1,hz,h3.snoc he⟩
theorem wres_inl {g:G} {f:Nat→Int}:∀ {i e:Nat},g.wres f i=.inl e→e≠0
 | 0,e,k=>by cases k
 | i+1,e,k=>by
  unfold G.wres at k
  cases hr:g.wres f i with
  | inl q=>rw [hr] at k;simp only at k;injection k with k;rw [←k];exact wres_inl hr
  | inr c=>
   rw [hr] at k;simp only at k
   split at k
   ·rename_i h1;injection k with k;rw [←k];exact h1
   ·split at k
    ·cases k
    ·split at k
     ·injection k with k;rw [←k];decide
     ·cases k
theorem MoreW.detour {g g' : G} (h : MoreW g g') (hg : g.ok) {x y : Int} (fx : g'.fault x = g.fault x) (fy : g'.fault y = g.fault y) {W W' : List Nat} {c c' : C} {e' : Nat} (k : AskIs g x y W c 0) (k' : AskIs g' x y W' c' e')
    (hw:(g'.wout (fun i=>(natI W).getD i 0) W.length).2=0):c=c'∧e'=0:=by
 obtain ⟨a,b,rfl,rfl,a1,a2,a3,a4,hD,hL,hh,ht⟩:=k.ok rfl;have hl:=(k.len hg rfl).2.1;have hwo:=k.wout hg rfl
 obtain ⟨n,hn⟩:∃n,W.length=n+1:=⟨W.length-1,by omega⟩
 rw [hn] at hw hwo
 cases hr:g'.wres (fun i=>(natI W).getD i 0) (n+1) with
 | inl q=>
  rw [G.wout_bad hr (Nat.le_refl _)] at hw;exact absurd hw (wres_inl hr)
 | inr d=>
  obtain ⟨a',z',e1,e2,hW⟩:=wres_walk hr;have hr2:=h.wres hg hr
  rw [G.wout_ok hr2 (by omega)] at hwo
  injection hwo with hwo
  subst hwo;rw [List.head?_eq_getElem?] at hh;rw [List.getLast?_eq_getElem?,hn,Nat.add_sub_cancel] at ht;simp only [natI_getD hh,natI_getD ht] at e1 e2;obtain rfl:a=a':=Int.ofNat_inj.1 e1;obtain rfl:b=z':=Int.ofNat_inj.1 e2
  have hf:flt2 g' (a:Nat) (b:Nat)=0:=by
   unfold flt2;rw [fx,fy,G.fault_in a1,G.fault_in a2,a3,a4];rfl
  obtain ⟨a',b',e1,e2,_,_,_,_,kk⟩:=k'.cells hf;obtain rfl:a=a':=Int.ofNat_inj.1 e1;obtain rfl:b=b':=Int.ofNat_inj.1 e2
  rcases kk with ⟨k1,_⟩ | ⟨k1,k2,_⟩
  ·exact absurd hW (k1 _)
  ·exact ⟨C.le_antisymm (hD.2 _ (h.walk k1.1)) (k1.2 _ hW),k2⟩
theorem gset_self {g:G} {c:Nat} {t:Bool} (h:g.b c=t):gset g c t=g:=by
 have:upd g.b c t=g.b:=by
  funext j
  unfold upd
  split
  ·rename_i e;rw [e,h]
  ·rfl
 unfold gset;rw [this]
def editG (f:Nat→Int×Bool) (g:G):Nat→G
 | 0=>g
 | k+1=>gset (editG f g k) (f k).1.toNat (f k).2
def editN (f:Nat→Int×Bool) (g:G):Nat→Nat
 | 0=>0
 | k+1=>editN f g k+(if (editG f g k).b (f k).1.toNat=(f k).2 then 0 else 1)
theorem editG_size (f:Nat→Int×Bool) (g:G):∀k,(editG f g k).w=g.w∧(editG f g k).h=g.h
 | 0=>⟨rfl,rfl⟩
 | k+1=>editG_size f g k
theorem editG_n (f:Nat→Int×Bool) (g:G) (k:Nat):(editG f g k).n=g.n:=by
 unfold G.n;rw [(editG_size f g k).1,(editG_size f g k).2]
theorem editN_zero {f:Nat→Int×Bool} {g:G}:∀ {k:Nat},editN f g k=0→editG f g k=g
 | 0,_=>rfl
 | k+1,h=>by
  have h1:editN f g k=0:=by unfold editN at h;omega
  have h2:(editG f g k).b (f k).1.toNat=(f k).2:=by
   unfold editN at h
   split at h
   ·assumption
   ·omega
  show gset (editG f g k) _ _=g
  rw [gset_self h2];exact editN_zero h1
theorem editN_le (f:Nat→Int×Bool) (g:G):∀k,editN f g k≤k
 | 0=>Nat.le_refl _
 | k+1=>by
  have:=editN_le f g k;unfold editN
  split <;> omega
theorem SameG.gset {g2 g:G} (h:SameG g2 g) (c:Nat) (t:Bool):SameG (gset g2 c t) (gset g c t):=by
 refine ⟨h.1,h.2.1,fun j hj=>?_⟩
 show upd g2.b c t j=upd g.b c t j
 unfold upd
 split
 ·rfl
 ·exact h.2.2 j hj
theorem editG_more {f:Nat→Int×Bool} {g:G}:∀ {k:Nat},(∀j,j<k→(f j).2=true)→MoreW g (editG f g k)
 | 0,_=>⟨rfl,rfl,fun _ _ h=>h⟩
 | k+1,h=>by
  obtain ⟨h1,h2,h3⟩:=editG_more (g:=g) (k:=k) (fun j hj=>h j (by omega))
  refine ⟨h1,h2,fun c hc hb=>?_⟩
  show upd (editG f g k).b (f k).1.toNat (f k).2 c=true
  unfold upd
  split
  ·exact h k (by omega)
  ·exact h3 c hc hb
theorem editG_other {f:Nat→Int×Bool} {g:G} {c:Nat}:∀ {k:Nat},(∀j,j<k→(f j).1≠(c:Nat)∧0≤(f j).1)→(editG f g k).b c=g.b c
 | 0,_=>rfl
 | k+1,h=>by
  show upd (editG f g k).b (f k).1.toNat (f k).2 c=g.b c
  unfold upd
  split
  ·rename_i e
   have:=h k (by omega)
   omega
  ·exact editG_other fun j hj=>h j (by omega)
end Go.Proofs.YtkdndoefgnfbnaaGreatDoor
