/- Lemmas of this claim: MathWay, Math3, MathGraph, MathReach, MathRepair, MathBd, MathLevels, MathLevels2, MathSel, MathSpan. -/
import Derived.Test.YtokhnobcincfjaaGreatDoorKNFr1
set_option linter.unusedVariables false
set_option linter.unusedSimpArgs false
set_option linter.unusedSectionVars false
namespace FR
def G.fault (g:G) (x:Int):Nat:=if x<0∨(g.n:Int)≤x then 1 else if g.b x.toNat=true then 4 else 0
theorem G.fault_out {g:G} {x:Int} (h:x<0∨(g.n:Int)≤x):g.fault x=1:=if_pos h
theorem G.fault_in {g:G} {c:Nat} (h:c<g.n):g.fault (c:Nat)=if g.b c=true then 4 else 0:=by
 unfold G.fault;rw [if_neg (by omega)];rfl
theorem G.fault_zero {g:G} {x:Int} (h:g.fault x=0):∃c:Nat,x=c∧c<g.n∧g.b c=false:=by
 unfold G.fault at h
 split at h
 ·cases h
 ·rename_i h1
  split at h
  ·cases h
  ·rename_i h2
   exact ⟨x.toNat,by omega,by omega,by simpa using h2⟩
def G.widx (g:G) (a b:Nat):Option Nat:=(g.moves a).findIdx? fun d=>g.to a d == b
theorem G.to_inj {g:G} {a d d':Nat} (hd:d<8) (hd':d'<8) (h:g.mayC a d=true) (h':g.mayC a d'=true) (e:g.to a d=g.to a d'):d=d':=by
 obtain ⟨_,x1,x2⟩:=G.mayC_to h;obtain ⟨_,y1,y2⟩:=G.mayC_to h';have e1:=G.edge_dir hd h rfl (x:=dxN d) (y:=dyN d) x1 x2
 have e2:=G.edge_dir hd' h' rfl (x:=dxN d) (y:=dyN d) (by rw [←e];exact x1) (by rw [←e];exact x2)
 rw [e1,e2]
theorem G.moves_mem {g:G} {a d:Nat} (h:d∈g.moves a):d<8∧g.mayC a d=true:=by
 unfold G.moves at h;have:=List.mem_filter.1 h;exact ⟨List.mem_range.1 this.1,this.2⟩
theorem G.moves_nodup (g:G) (a:Nat):(g.moves a).Nodup:=List.Pairwise.filter _ List.nodup_range
theorem G.widx_none {g:G} {a b:Nat} (h:g.widx a b=none):∀(j d:Nat),(g.moves a)[j]? = some d→g.to a d≠b:=by
 intro j d hj;have:=List.findIdx?_eq_none_iff.1 h d (List.mem_of_getElem? hj)
 simpa using this
theorem G.widx_some {g:G} {a b i:Nat} (h:g.widx a b=some i):∃d:Nat,(g.moves a)[i]? = some d∧g.to a d=b∧∀(j d':Nat),(g.moves a)[j]? = some d'→(g.to a d'=b↔j=i):=by
 obtain ⟨hi,h1,h2⟩:=List.findIdx?_eq_some_iff_getElem.1 h;simp at h1;have hgi:(g.moves a)[i]? = some (g.moves a)[i]:=List.getElem?_eq_getElem hi
 refine ⟨(g.moves a)[i],hgi,h1,fun j d' hj=>⟨fun e=>?_,fun e=>?_⟩⟩
 ·have m1:=G.moves_mem (List.mem_of_getElem? hj)
  have m2:=G.moves_mem (List.getElem_mem hi);have ed:=G.to_inj m1.1 m2.1 m1.2 m2.2 (e.trans h1.symm);rw [ed,←hgi] at hj
  exact (List.getElem?_inj (by exact (List.getElem?_eq_some_iff.1 (hj.trans hgi)).1) (g.moves_nodup a)).1 hj
 ·subst e
  rw [hgi] at hj
  injection hj with hj
  rw [←hj];exact h1
def G.wst (g:G) (a i:Nat):C:=stepC ((g.moves a).getD i 0)
theorem G.widx_E {g:G} {a b:Nat} {e:C} (h:g.E a b e):∃i,g.widx a b=some i∧g.wst a i=e:=by
 obtain ⟨ha,d,hd,hm,hb,he⟩:=h
 have hmem:d∈g.moves a:=by unfold G.moves;exact List.mem_filter.2 ⟨List.mem_range.2 hd,hm⟩
 cases hw:g.widx a b with
 | none=>
  obtain ⟨j,hj⟩:=List.getElem?_of_mem hmem;exact absurd hb.symm (G.widx_none hw j d hj)
 | some i=>
  obtain ⟨d',h1,h2,h3⟩:=G.widx_some hw;have m:=G.moves_mem (List.mem_of_getElem? h1);have ed:d'=d:=G.to_inj m.1 hd m.2 hm (h2.trans hb);refine ⟨i,rfl,?_⟩;unfold G.wst;rw [List.getD_eq_getElem?_getD,h1,he,ed];rfl
def G.wres (g:G) (f:Nat→Int):Nat→Nat ⊕ C
 | 0=>.inr C.zero
 | i+1=>match G.wres g f i with
  | .inl e=>.inl e
  | .inr c=>if g.fault (f i)≠0 then .inl (g.fault (f i)) else if i=0 then .inr c else
   match g.widx (f (i-1)).toNat (f i).toNat with
   | none=>.inl 7
   | some k=>.inr (C.add c (g.wst (f (i-1)).toNat k))
theorem G.wres_stop {g:G} {f:Nat→Int} {i n e:Nat} (h:g.wres f i=.inl e) (hn:i≤n):g.wres f n=.inl e:=by
 induction n with
 | zero => obtain rfl : i = 0 := by omega
           exact h
 | succ n ih=>
  by_cases q:i=n+1
  ·rw [←q];exact h
  ·have:=ih (by omega)
   unfold G.wres;rw [this]
theorem G.wres_ok {g:G} {f:Nat→Int} {i:Nat} {c:C} (h:g.wres f (i+1)=.inr c):∃a:Nat,f i=a∧a<g.n∧g.b a=false:=by
 unfold G.wres at h
 cases hw:g.wres f i with
 | inl e=>rw [hw] at h;simp at h
 | inr c'=>
  rw [hw] at h;simp only at h
  split at h
  ·cases h
  ·rename_i h1
   exact G.fault_zero (by simpa using h1)
def G.wout (g:G) (f:Nat→Int) (n:Nat):C×Nat:=match g.wres f n with
 | .inl e=>(C.zero,e)
 | .inr c=>if n=0 then (C.zero,7) else (c,0)
theorem G.wout_bad {g:G} {f:Nat→Int} {i n e:Nat} (h:g.wres f i=.inl e) (hn:i≤n):g.wout f n=(C.zero,e):=by
 unfold G.wout;rw [G.wres_stop h hn]
theorem G.wout_ok {g:G} {f:Nat→Int} {n:Nat} {c:C} (h:g.wres f n=.inr c) (hn:0<n):g.wout f n=(c,0):=by
 unfold G.wout;rw [h];simp only;rw [if_neg (by omega)]
theorem G.wres_fault {g:G} {f:Nat→Int} {i:Nat} {c:C} (h:g.wres f i=.inr c) (hf:g.fault (f i)≠0):g.wres f (i+1)=.inl (g.fault (f i)):=by
 rw [G.wres,h];simp only;rw [if_pos hf]
theorem G.wres_first {g:G} {f:Nat→Int} (hf:g.fault (f 0)=0):g.wres f 1=.inr C.zero:=by
 rw [G.wres,G.wres];simp [hf]
theorem G.wres_none {g:G} {f:Nat→Int} {i a b:Nat} {c:C} (h:g.wres f (i+1)=.inr c) (hf:g.fault (f (i+1))=0) (ha:f i=a) (hb:f (i+1)=b) (hw:g.widx a b=none):g.wres f (i+2)=.inl 7:=by
 rw [hb] at hf;rw [G.wres,h];simp [hf,ha,hb,hw]
theorem G.wres_some {g:G} {f:Nat→Int} {i a b k:Nat} {c:C} (h:g.wres f (i+1)=.inr c) (hf:g.fault (f (i+1))=0) (ha:f i=a) (hb:f (i+1)=b) (hw:g.widx a b=some k):g.wres f (i+2)=.inr (C.add c (g.wst a k)):=by
 rw [hb] at hf;rw [G.wres,h];simp [hf,ha,hb,hw]
theorem G.wst_le (g:G) (a k:Nat):0≤(g.wst a k).s∧(g.wst a k).s≤1∧0≤(g.wst a k).d∧(g.wst a k).d≤1:=by
 unfold G.wst stepC;split <;> simp
theorem G.wres_bd {g:G} {f:Nat→Int}:∀ {i:Nat} {c:C},g.wres f i=.inr c→0≤c.s∧c.s≤i∧0≤c.d∧c.d≤i
 | 0,c,h=>by
  unfold G.wres at h;injection h with h;subst h;simp [C.zero]
 | i+1,c,h=>by
  unfold G.wres at h
  cases hw:g.wres f i with
  | inl e=>rw [hw] at h;simp at h
  | inr c'=>
   have ih:=G.wres_bd hw;rw [hw] at h;simp only at h
   split at h
   ·cases h
   ·split at h
    ·injection h with h;subst h;omega
    ·split at h
     ·cases h
     ·rename_i k _
      injection h with h;subst h
      have:=g.wst_le (f (i-1)).toNat k;simp only [C.add];omega
theorem G.wres_way {g : G} {f : Nat → Int} {x : Nat → Nat} {c : Nat → C} {n : Nat} (h0 : c 0 = C.zero) (hx : ∀ i, i < n → f i = x i) (hfr : x 0 < g.n ∧ g.b (x 0) = false) (hg : g.ok)
    (hs:∀i,i+1<n→∃e,g.E (x i) (x (i+1)) e∧c (i+1)=C.add (c i) e):∀i,i<n→g.wres f (i+1)=.inr (c i)
 | 0,h=>by
  rw [h0];refine G.wres_first ?_;rw [hx 0 h,G.fault_in hfr.1,hfr.2];rfl
 | i+1,h=>by
  have ih:=G.wres_way h0 hx hfr hg hs i (by omega)
  obtain ⟨e,he,hc⟩:=hs i h;obtain ⟨k,hk,hke⟩:=G.widx_E he;rw [hc,←hke]
  refine G.wres_some ih ?_ (hx i (by omega)) (hx (i+1) h) hk
  rw [hx (i+1) h,G.fault_in (G.E_lt he),(G.E_open hg he).2];rfl
def BackWay (back:Nat→Option Nat) (t:Nat) (l:List Nat):Prop:=l[0]? = some t∧∀i x y,l[i]? = some x→l[i+1]? = some y→back x=some y
theorem BackWay.one (back:Nat→Option Nat) (t:Nat):BackWay back t [t]:=⟨rfl,fun i x y _ h=>by simp at h⟩
theorem BackWay.snoc {back:Nat→Option Nat} {t x y:Nat} {l:List Nat} (h:BackWay back t (l ++ [x])) (hb:back x=some y):BackWay back t (l ++ [x] ++ [y]):=by
 refine ⟨?_,?_⟩
 ·rw [List.getElem?_append_left (by simp)];exact h.1
 ·intro i u v hu hv
  by_cases q:i+1<(l ++ [x]).length
  ·rw [List.getElem?_append_left (by omega)] at hu
   rw [List.getElem?_append_left q] at hv;exact h.2 i u v hu hv
  ·have hl : i + 1 = (l ++ [x]).length := by
     have:=(List.getElem?_eq_some_iff.1 hv).1;simp at this q ⊢;omega
   rw [List.getElem?_append_left (by omega)] at hu
   rw [List.getElem?_append_right (by omega)] at hv
   have e1:i=l.length:=by simp at hl;omega
   subst e1;simp at hu hv;subst hu;subst hv;exact hb
namespace FloodOk
variable {g:G} {fr:Nat} {done:Nat→Option C} {back:Nat→Option Nat}
theorem at_fr (H:FloodOk g.E fr g.n done back):done fr=some C.zero:=by
 cases h:done fr with
 | none=>exact absurd (.nil fr) (H.out fr h C.zero)
 | some c=>rw [(H.in_ fr c h).unique (Dist.self (fun _ _ _=>G.E_nn) fr)]
theorem lower (H:FloodOk g.E fr g.n done back) {x y:Nat} (hb:back x=some y):∃c d,done x=some c∧done y=some d∧rk 512 d<rk 512 c:=by
 obtain ⟨c,d,e,h1,h2,h3,h4⟩:=H.b1 x y hb;refine ⟨c,d,h1,h2,?_⟩;have hs:=H.small _ _ h2;refine rk_lt ?_ (mem_box ⟨hs.1,hs.2.2.1⟩ hs.2.1 hs.2.2.2);rw [h4];refine C.lt_add_step (G.E_nn h3) ?_;obtain ⟨_,d',_,_,_,he⟩:=h3
 rw [he];unfold stepC C.zero;split <;> simp
theorem way (hg : g.ok) (H : FloodOk g.E fr g.n done back) (hfr : g.b fr = false) {t : Nat} {l : List Nat} {c : C} (ht : done t = some c) (hw : BackWay back t l) (hl : ∃ l', l = l' ++ [fr]) :
    g.wout (fun i=>(l.reverse.map fun n:Nat=>(n:Int)).getD i 0) l.length=(c,0):=by
 have hd:∀(i x:Nat),l[i]? = some x→∃c,done x=some c:=by
  intro i
  induction i with
  | zero=>intro x hx;rw [hw.1] at hx;injection hx with hx;exact ⟨c,hx▸ht⟩
  | succ i ih=>
   intro x hx;have hlt:=(List.getElem?_eq_some_iff.1 hx).1
   have hy:l[i]? = some l[i]:=List.getElem?_eq_getElem (by omega)
   obtain ⟨_,d,_,h1,_⟩:=H.lower (hw.2 i _ _ hy hx)
   exact ⟨d,by assumption⟩
 have hpos:0<l.length:=(List.getElem?_eq_some_iff.1 hw.1).1
 let r:=l.reverse
 have hr:∀i,i<l.length→r[i]? = l[l.length-1-i]?:=fun i hi=>by
  show l.reverse[i]? = _
  rw [List.getElem?_reverse hi]
 have hrl:r.length=l.length:=by simp [r]
 have hx0:r[0]? = some fr:=by
  obtain ⟨l',e⟩:=hl;rw [hr 0 hpos,e];simp
 have hxe:r[l.length-1]? = some t:=by
  rw [hr _ (by omega),show l.length-1-(l.length-1)=0 by omega];exact hw.1
 have gd:∀(i x:Nat),r[i]? = some x→r.getD i 0=x:=fun i x h=>by rw [List.getD_eq_getElem?_getD,h];rfl
 have key:=G.wres_way (g:=g) (f:=fun i=>(l.reverse.map fun n:Nat=>(n:Int)).getD i 0) (x:=fun i=>r.getD i 0) (c:=fun i=>(done (r.getD i 0)).getD C.zero) (n:=l.length)
  (by simp only [gd 0 fr hx0,H.at_fr];rfl)
  (fun i hi=>by
   have h1:r[i]? = some (r.getD i 0):=by
    have:i<r.length:=by omega
    rw [List.getD_eq_getElem?_getD,List.getElem?_eq_getElem this];rfl
   show (r.map fun n:Nat=>(n:Int)).getD i 0=_
   rw [List.getD_eq_getElem?_getD,List.getElem?_map,h1];rfl)
  (by simp only [gd 0 fr hx0];exact ⟨H.frN,hfr⟩) hg
  (fun i hi=>by
   have h1:r[i]? = some (r.getD i 0):=by
    have:i<r.length:=by omega
    rw [List.getD_eq_getElem?_getD,List.getElem?_eq_getElem this];rfl
   have h2:r[i+1]? = some (r.getD (i+1) 0):=by
    have:i+1<r.length:=by omega
    rw [List.getD_eq_getElem?_getD,List.getElem?_eq_getElem this];rfl
   generalize r.getD i 0=a at *
   generalize r.getD (i+1) 0=b at *
   rw [hr i (by omega)] at h1
   rw [hr (i+1) hi] at h2
   have hb:=hw.2 (l.length-1-(i+1)) b a h2 (by rw [show l.length-1-(i+1)+1=l.length-1-i by omega];exact h1)
   obtain ⟨c1,d1,e,q1,q2,q3,q4⟩:=H.b1 b a hb
   exact ⟨e,q3,by rw [q1,q2];exact q4⟩)
  (l.length-1) (by omega)
 rw [show l.length-1+1=l.length by omega] at key
 simp only [gd _ t hxe,ht] at key;exact G.wout_ok key hpos
end FloodOk
end FR
namespace FR
namespace G
def at_ (g:G) (x y:Int):Nat:=g.cell x.toNat y.toNat
theorem at_XY {g:G} {x y:Int} (h:g.op x y=true):g.at_ x y<g.n∧(g.X (g.at_ x y):Int)=x∧(g.Y (g.at_ x y):Int)=y:=by
 obtain ⟨⟨h1,h2,h3,h4⟩,_⟩:=op_iff.1 h;unfold at_
 rw [X_cell (by omega),Y_cell (by omega)]
 exact ⟨cell_lt (by omega) (by omega),by omega,by omega⟩
theorem at_of {g:G} (c:Nat) {x y:Int} (hx:(g.X c:Int)=x) (hy:(g.Y c:Int)=y):g.at_ x y=c:=by grind [at_,cell_XY]
structure V where
 x:Int
 y:Int
def V.unit (v:V):Prop:=(v.x=1∧v.y=0)∨(v.x = -1∧v.y=0)∨(v.x=0∧v.y=1)∨(v.x=0∧v.y = -1)
def go (g:G) (x y u v:Int):Prop:=g.op x y=true∧g.op (x+u) (y+v)=true∧g.op (x+u) y=true∧g.op x (y+v)=true
theorem go_straight {g:G} {x y u v:Int} (h:(u=1∧v=0)∨(u = -1∧v=0)∨(u=0∧v=1)∨(u=0∧v = -1)) (h1:g.op x y=true) (h2:g.op (x+u) (y+v)=true):g.go x y u v:=by
 refine ⟨h1,h2,?_,?_⟩
 ·rcases h with ⟨rfl,rfl⟩ | ⟨rfl,rfl⟩ | ⟨rfl,rfl⟩ | ⟨rfl,rfl⟩ <;> simp only [Int.add_zero] at * <;> assumption
 ·rcases h with ⟨rfl,rfl⟩ | ⟨rfl,rfl⟩ | ⟨rfl,rfl⟩ | ⟨rfl,rfl⟩ <;> simp only [Int.add_zero] at * <;> assumption
theorem go_E' {g:G} {x y u v:Int} {d:Nat} (hd:d<8) (hu:dxN d=u) (hv:dyN d=v) (h:g.go x y u v):g.E (g.at_ x y) (g.at_ (x+u) (y+v)) (stepC d):=by
 obtain ⟨h1,h2,h3,h4⟩:=h;obtain ⟨a1,a2,a3⟩:=at_XY h1
 have hm:g.mayC (g.at_ x y) d=true:=by
  unfold mayC;rw [a2,a3,may_iff,hu,hv];exact ⟨h1,h2,h3,h4⟩
 obtain ⟨_,t1,t2⟩:=mayC_to hm
 exact ⟨a1,d,hd,hm,at_of _ (by omega) (by omega),rfl⟩
theorem go_E1 {g:G} {x y u v:Int} (k:(u=1∧v=0)∨(u = -1∧v=0)∨(u=0∧v=1)∨(u=0∧v = -1)) (h:g.go x y u v):g.E (g.at_ x y) (g.at_ (x+u) (y+v)) ⟨1,0⟩:=by
 obtain ⟨h1,h2,h3⟩:=step_dirN' k;have:=go_E' (dirN_lt u v) h1 h2 h;rwa [h3] at this
theorem go_E2 {g:G} {x y u v:Int} (k:(u=1∨u = -1)∧(v=1∨v = -1)) (h:g.go x y u v):g.E (g.at_ x y) (g.at_ (x+u) (y+v)) ⟨0,1⟩:=by
 obtain ⟨h1,h2,h3⟩:=step_dirN k.1 k.2;have:=go_E' (dirN_lt u v) h1 h2 h;rwa [h3] at this
def Corner (g:G) (c:Nat):Prop:=c<g.n∧g.op (g.X c) (g.Y c)=true∧∃u v:Int,(u=1∨u = -1)∧(v=1∨v = -1) ∧
 g.op (g.X c+u) (g.Y c+v)=false∧g.op (g.X c+u) (g.Y c)=true∧g.op (g.X c) (g.Y c+v)=true
theorem corner_at {g:G} {x y u v:Int} (h0:g.op x y=true) (hu:u=1∨u = -1) (hv:v=1∨v = -1) (h1:g.op (x+u) (y+v)=false) (h2:g.op (x+u) y=true) (h3:g.op x (y+v)=true):g.Corner (g.at_ x y):=by
 obtain ⟨a1,a2,a3⟩:=at_XY h0
 refine ⟨a1,by rw [a2,a3];exact h0,u,v,hu,hv,?_,?_,?_⟩ <;> rw [a2,a3] <;> assumption
def Frame (b1 b2 e1 e2:Int):Prop:=((b1=1∨b1 = -1)∧b2=0∧e1=0∧(e2=1∨e2 = -1))∨(b1=0∧(b2=1∨b2 = -1)∧(e1=1∨e1 = -1)∧e2=0)
theorem Frame.b {b1 b2 e1 e2:Int} (h:Frame b1 b2 e1 e2):(b1=1∧b2=0)∨(b1 = -1∧b2=0)∨(b1=0∧b2=1)∨(b1=0∧b2 = -1):=by unfold Frame at h;omega
theorem Frame.e {b1 b2 e1 e2:Int} (h:Frame b1 b2 e1 e2):(e1=1∧e2=0)∨(e1 = -1∧e2=0)∨(e1=0∧e2=1)∨(e1=0∧e2 = -1):=by unfold Frame at h;omega
theorem Frame.a {b1 b2 e1 e2:Int} (h:Frame b1 b2 e1 e2):(b1+e1=1∨b1+e1 = -1)∧(b2+e2=1∨b2+e2 = -1):=by unfold Frame at h;omega
theorem Frame.neg {b1 b2 e1 e2:Int} (h:Frame b1 b2 e1 e2):Frame b1 b2 (-e1) (-e2):=by unfold Frame at *;omega
theorem go_diag {g:G} {x y b1 b2 e1 e2:Int} (h:Frame b1 b2 e1 e2):g.go x y (b1+e1) (b2+e2)↔g.op x y=true∧g.op (x+b1+e1) (y+b2+e2)=true∧g.op (x+b1) (y+b2)=true∧g.op (x+e1) (y+e2)=true:=by
 unfold go
 rw [show x+(b1+e1)=x+b1+e1 by omega,show y+(b2+e2)=y+b2+e2 by omega]
 rcases h with ⟨_,rfl,rfl,_⟩ | ⟨rfl,_,_,rfl⟩ <;> simp only [Int.add_zero] <;> constructor <;> (rintro ⟨h1,h2,h3,h4⟩;refine ⟨h1,h2,?_,?_⟩ <;> assumption)
theorem corner_fr {g:G} {x y b1 b2 e1 e2:Int} (h:Frame b1 b2 e1 e2) (h0:g.op x y=true) (h1:g.op (x+b1+e1) (y+b2+e2)=false) (h2:g.op (x+b1) (y+b2)=true) (h3:g.op (x+e1) (y+e2)=true):g.Corner (g.at_ x y):=by
 rcases h with ⟨k1,rfl,rfl,k2⟩ | ⟨rfl,k1,k2,rfl⟩
 ·simp only [Int.add_zero] at *;exact corner_at h0 k1 k2 h1 h2 h3
 ·simp only [Int.add_zero] at *;exact corner_at h0 k2 k1 h1 h3 h2
theorem Frame.negb {b1 b2 e1 e2:Int} (h:Frame b1 b2 e1 e2):Frame (-b1) (-b2) e1 e2:=by unfold Frame at *;omega
def Turn (g:G) (p e:Nat) (c:C):Prop:=(∃q c1 c2,g.Corner q∧Walk g.E p q c1∧Walk g.E q e c2∧C.add c1 c2=c∧c1≠C.zero∧c2≠C.zero)∨∃c',Walk g.E p e c'∧C.lt c' c
theorem Turn.back {g:G} {p e t:Nat} {c d:C} (h:Turn g p e c) (k:Walk g.E e t d):Turn g p t (C.add c d):=by
 rcases h with ⟨q,c1,c2,h1,h2,h3,h4,h5,h6⟩ | ⟨c',h1,h2⟩
 ·refine .inl ⟨q,c1,_,h1,h2,h3.trans k,by rw [←C.add_assoc,h4],h5,?_⟩
  intro z
  have hn:=k.nn fun _ _ _=>E_nn
  have hm:=h3.nn fun _ _ _=>E_nn
  apply h6
  have z1:=congrArg C.s z;have z2:=congrArg C.d z;simp only [C.add,C.zero] at z1 z2;have:=hn.1;have:=hn.2;have:=hm.1;have:=hm.2
  exact C.ext' (by simp only [C.zero];omega) (by simp only [C.zero];omega)
 ·exact .inr ⟨_,h1.trans k,(C.add_lt_right _).2 h2⟩
inductive Rep (g:G) (u v:Int):Nat→Int→Int→Int→Int→Prop
 | nil (x y:Int):Rep g u v 0 x y x y
 | cons {k:Nat} {x y x' y':Int}:g.go x y u v→Rep g u v k (x+u) (y+v) x' y'→Rep g u v (k+1) x y x' y'
theorem Rep.snoc {g:G} {u v:Int} {k:Nat} {x y x' y':Int} (h:Rep g u v k x y x' y') (l:g.go x' y' u v):Rep g u v (k+1) x y (x'+u) (y'+v):=by
 induction h with
 | nil=>exact .cons l (.nil _ _)
 | cons h1 _ ih=>exact .cons h1 (ih l)
theorem Rep.walk1 {g:G} {u v:Int} (hu:(u=1∧v=0)∨(u = -1∧v=0)∨(u=0∧v=1)∨(u=0∧v = -1)) {k:Nat} {x y x' y':Int} (h:Rep g u v k x y x' y'):Walk g.E (g.at_ x y) (g.at_ x' y') ⟨k,0⟩:=by
 induction h with
 | nil=>exact .nil _
 | cons h1 _ ih=>
  have:=Walk.cons (go_E1 hu h1) ih
  refine cast (congrArg _ (C.ext' ?_ ?_)) this <;> simp only [C.add] <;> omega
theorem Rep.walk2 {g:G} {u v:Int} (hu:(u=1∨u = -1)∧(v=1∨v = -1)) {k:Nat} {x y x' y':Int} (h:Rep g u v k x y x' y'):Walk g.E (g.at_ x y) (g.at_ x' y') ⟨0,k⟩:=by
 induction h with
 | nil=>exact .nil _
 | cons h1 _ ih=>
  have:=Walk.cons (go_E2 hu h1) ih
  refine cast (congrArg _ (C.ext' ?_ ?_)) this <;> simp only [C.add] <;> omega
theorem Turn.less {g:G} {p t:Nat} {c d d':C} (h:Walk g.E p t (C.add c d')) (k:C.lt d' d):Turn g p t (C.add c d):=.inr ⟨_,h,(C.add_lt_left _).2 k⟩
theorem Turn.at {g:G} {p q t:Nat} {c c1 c2:C} (hq:g.Corner q) (h:Walk g.E p q c1) (k:Walk g.E q t c2) (e:c=C.add c1 c2) (h1:c1≠C.zero) (h2:c2≠C.zero):Turn g p t c:=
 .inl ⟨q,c1,c2,hq,h,k,e.symm,h1,h2⟩
theorem add_ne_zero {c d:C} (h:C.Nn c) (k:0≤d.s∧0≤d.d∧0<d.s+d.d):C.add c d≠C.zero:=by
 intro z;have z1:=congrArg C.s z;have z2:=congrArg C.d z;simp only [C.add,C.zero] at z1 z2;have:=h.1;have:=h.2;omega
theorem wnn {g:G} {a b:Nat} {c:C} (h:Walk g.E a b c):C.Nn c:=h.nn fun _ _ _=>E_nn
theorem turn_BD {g : G} {p : Nat} {c : C} {x y b1 b2 e1 e2 : Int} (F : Frame b1 b2 e1 e2) (h : Walk g.E p (g.at_ x y) c) (h1 : g.go x y b1 b2) (h2 : g.go (x+b1) (y+b2) e1 e2) :
    Turn g p (g.at_ (x+b1+e1) (y+b2+e2)) (C.add c ⟨2,0⟩):=by
 cases hm:g.op (x+e1) (y+e2) with
 | true=>
  have hd:g.go x y (b1+e1) (b2+e2):=(go_diag F).2 ⟨h1.1,h2.2.1,h1.2.1,hm⟩;have:=h.snoc (go_E2 F.a hd)
  rw [show x+(b1+e1)=x+b1+e1 by omega,show y+(b2+e2)=y+b2+e2 by omega] at this
  exact .less this (by decide)
 | false=>
  have e1':=go_E1 F.b h1;have e2':=go_E1 F.e h2
  refine .at (corner_fr F.negb h2.1 ?_ ?_ h2.2.1) (h.snoc e1') (.single e2') ?_ (add_ne_zero (wnn h) (by decide)) (by decide)
  ·rw [show x+b1 + -b1+e1=x+e1 by omega,show y+b2 + -b2+e2=y+e2 by omega];exact hm
  ·rw [show x+b1 + -b1=x by omega,show y+b2 + -b2=y by omega];exact h1.1
  ·rw [C.add_assoc];rfl
theorem turn_Bback {g : G} {p : Nat} {c : C} {x y b1 b2 e1 e2 : Int} (F : Frame b1 b2 e1 e2) (h : Walk g.E p (g.at_ x y) c) :
    Turn g p (g.at_ x y) (C.add c ⟨2,0⟩):=.less (d':=C.zero) (by rwa [C.add_zero]) (by decide)
theorem turn_BDB {g : G} {p : Nat} {c : C} {x y b1 b2 e1 e2 : Int} (F : Frame b1 b2 e1 e2) (h : Walk g.E p (g.at_ x y) c) (h1 : g.go x y b1 b2) (h2 : g.go (x+b1) (y+b2) (-b1+e1) (-b2+e2)) :
    Turn g p (g.at_ (x+e1) (y+e2)) (C.add c ⟨1,1⟩):=by
 obtain ⟨_,k2,_,_⟩:=(go_diag F.negb).1 h2
 rw [show x+b1 + -b1+e1=x+e1 by omega,show y+b2 + -b2+e2=y+e2 by omega] at k2
 exact .less (h.snoc (go_E1 F.e (go_straight F.e h1.1 k2))) (by decide)
theorem turn_Aback {g : G} {p : Nat} {c : C} {x y : Int} (h : Walk g.E p (g.at_ x y) c) :
    Turn g p (g.at_ x y) (C.add c ⟨0,2⟩):=.less (d':=C.zero) (by rwa [C.add_zero]) (by decide)
theorem turn_AB {g : G} {p : Nat} {c : C} {x y b1 b2 e1 e2 : Int} (F : Frame b1 b2 e1 e2) (h : Walk g.E p (g.at_ x y) c) (h1 : g.go x y (b1+e1) (b2+e2)) :
    Turn g p (g.at_ (x+e1) (y+e2)) (C.add c ⟨1,1⟩):=by
 obtain ⟨k1,_,_,k4⟩:=(go_diag F).1 h1
 exact .less (h.snoc (go_E1 F.e (go_straight F.e k1 k4))) (by decide)
theorem Frame.swap {b1 b2 e1 e2:Int} (h:Frame b1 b2 e1 e2):Frame e1 e2 b1 b2:=by unfold Frame at *;omega
theorem turn_AA {g : G} {p : Nat} {c : C} {x y b1 b2 e1 e2 : Int} (F : Frame b1 b2 e1 e2) (h : Walk g.E p (g.at_ x y) c) (h1 : g.go x y (b1+e1) (b2+e2)) (h2 : g.go (x+(b1+e1)) (y+(b2+e2)) (b1-e1) (b2-e2)) :
    Turn g p (g.at_ (x+b1+b1) (y+b2+b2)) (C.add c ⟨0,2⟩):=by
 obtain ⟨k1,_,k3,_⟩:=(go_diag F).1 h1;have h2':g.go (x+(b1+e1)) (y+(b2+e2)) (b1+-e1) (b2+-e2):=h2;obtain ⟨_,l2,_,_⟩:=(go_diag F.neg).1 h2'
 rw [show x+(b1+e1)+b1 + -e1=x+b1+b1 by omega,show y+(b2+e2)+b2 + -e2=y+b2+b2 by omega] at l2
 have w1:=h.snoc (go_E1 F.b (go_straight F.b k1 k3));have w2:=w1.snoc (go_E1 F.b (go_straight F.b k3 l2));rw [C.add_assoc] at w2
 exact .less w2 (by decide)
theorem turn_BAD {g : G} {p : Nat} {b1 b2 e1 e2 : Int} (F : Frame b1 b2 e1 e2) : ∀ (k : Nat) (c : C) (x y x' y' : Int), Walk g.E p (g.at_ x y) c → g.go x y b1 b2 →
    Rep g (b1+e1) (b2+e2) k (x+b1) (y+b2) x' y'→g.go x' y' e1 e2→Turn g p (g.at_ (x'+e1) (y'+e2)) (C.add c ⟨2,k⟩)
 | 0,c,x,y,x',y',h,h1,h2,h3=>by cases h2;exact turn_BD F h h1 h3
 | k+1,c,x,y,x',y',h,h1,h2,h3=>by
  cases h2 with
  | cons h2 r=>
  obtain ⟨q1,q2,q3,q4⟩:=(go_diag F).1 h2
  cases hm:g.op (x+e1) (y+e2) with
  | true=>
   have hd:g.go x y (b1+e1) (b2+e2):=(go_diag F).2 ⟨h1.1,q4,q1,hm⟩;have w1:=h.snoc (go_E2 F.a hd)
   have hb:g.go (x+(b1+e1)) (y+(b2+e2)) b1 b2:=go_straight F.b (by rw [show x+(b1+e1)=x+b1+e1 by omega,show y+(b2+e2)=y+b2+e2 by omega];exact q4)
    (by rw [show x+(b1+e1)+b1=x+b1+b1+e1 by omega,show y+(b2+e2)+b2=y+b2+b2+e2 by omega];exact q2)
   have r':Rep g (b1+e1) (b2+e2) k (x+(b1+e1)+b1) (y+(b2+e2)+b2) x' y':=by
    rw [show x+(b1+e1)+b1=x+b1+(b1+e1) by omega,show y+(b2+e2)+b2=y+b2+(b2+e2) by omega];exact r
   have:=turn_BAD F k _ _ _ _ _ w1 hb r' h3
   rwa [C.add_assoc,show C.add ⟨0,1⟩ ⟨2,(k:Int)⟩=⟨2,((k+1:Nat):Int)⟩ from C.ext' rfl (by simp only [C.add];omega)] at this
  | false=>
   have w2:=(Rep.walk2 F.a (.cons h2 r)).snoc (go_E1 F.e h3)
   refine .at (corner_fr F.negb h2.1 ?_ ?_ q4) (h.snoc (go_E1 F.b h1)) w2 ?_ (add_ne_zero (wnn h) (by decide)) (add_ne_zero ⟨by simp only;omega,by simp only;omega⟩ (by decide))
   ·rw [show x+b1 + -b1+e1=x+e1 by omega,show y+b2 + -b2+e2=y+e2 by omega];exact hm
   ·rw [show x+b1 + -b1=x by omega,show y+b2 + -b2=y by omega];exact h1.1
   ·exact C.ext' (by simp only [C.add];omega) (by simp only [C.add];omega)
theorem turn_ABA {g : G} {p : Nat} {b1 b2 e1 e2 : Int} (F : Frame b1 b2 e1 e2) : ∀ (k : Nat) (c : C) (x y x' y' : Int), Walk g.E p (g.at_ x y) c → g.go x y (b1+e1) (b2+e2) →
    Rep g b1 b2 k (x+(b1+e1)) (y+(b2+e2)) x' y'→g.go x' y' (b1-e1) (b2-e2)→Turn g p (g.at_ (x'+(b1-e1)) (y'+(b2-e2))) (C.add c ⟨k,2⟩)
 | 0,c,x,y,x',y',h,h1,h2,h3=>by
  cases h2
  have:=turn_AA F h h1 h3
  rw [show x+(b1+e1)+(b1-e1)=x+b1+b1 by omega,show y+(b2+e2)+(b2-e2)=y+b2+b2 by omega];exact this
 | k+1,c,x,y,x',y',h,h1,h2,h3=>by
  cases h2 with
  | cons h2 r=>
  obtain ⟨q1,q2,q3,q4⟩:=(go_diag F).1 h1
  have a1:g.op (x+b1+e1+b1) (y+b2+e2+b2)=true:=by have:=h2.2.1;rwa [show x+(b1+e1)+b1=x+b1+e1+b1 by omega,show y+(b2+e2)+b2=y+b2+e2+b2 by omega] at this
  cases hm:g.op (x+b1+b1) (y+b2+b2) with
  | true=>
   have w1:=h.snoc (go_E1 F.b (go_straight F.b q1 q3))
   have hd:g.go (x+b1) (y+b2) (b1+e1) (b2+e2):=(go_diag F).2 ⟨q3,by rw [show x+b1+b1+e1=x+b1+e1+b1 by omega,show y+b2+b2+e2=y+b2+e2+b2 by omega];exact a1,hm,q2⟩
   have r':Rep g b1 b2 k (x+b1+(b1+e1)) (y+b2+(b2+e2)) x' y':=by
    rw [show x+b1+(b1+e1)=x+(b1+e1)+b1 by omega,show y+b2+(b2+e2)=y+(b2+e2)+b2 by omega];exact r
   have:=turn_ABA F k _ _ _ _ _ w1 hd r' h3
   rwa [C.add_assoc,show C.add ⟨1,0⟩ ⟨(k:Int),2⟩=⟨((k+1:Nat):Int),2⟩ from C.ext' (by simp only [C.add];omega) rfl] at this
  | false=>
   have h3':g.go x' y' (b1+-e1) (b2+-e2):=h3;have w2:=(Rep.walk1 F.b (.cons h2 r)).snoc (go_E2 F.neg.a h3')
   refine .at (corner_fr F.neg h2.1 ?_ h2.2.1 ?_) (h.snoc (go_E2 F.a h1)) w2 ?_ (add_ne_zero (wnn h) (by decide)) (add_ne_zero ⟨by simp only;omega,by simp only;omega⟩ (by decide))
   ·rw [show x+(b1+e1)+b1 + -e1=x+b1+b1 by omega,show y+(b2+e2)+b2 + -e2=y+b2+b2 by omega];exact hm
   ·rw [show x+(b1+e1) + -e1=x+b1 by omega,show y+(b2+e2) + -e2=y+b2 by omega];exact q3
   ·exact C.ext' (by simp only [C.add];omega) (by simp only [C.add];omega)
theorem Rep.last {g:G} {u v:Int} {k:Nat} {x y x' y':Int} (h:Rep g u v k x y x' y'):(k=0∧x'=x∧y'=y)∨∃j mx my,k=j+1∧Rep g u v j x y mx my∧g.go mx my u v∧x'=mx+u∧y'=my+v:=by
 induction h with
 | nil=>exact .inl ⟨rfl,rfl,rfl⟩
 | cons h1 r ih=>
  rcases ih with ⟨rfl,rfl,rfl⟩ | ⟨j,mx,my,rfl,r',h2,e1,e2⟩
  ·exact .inr ⟨0,_,_,rfl,.nil _ _,h1,rfl,rfl⟩
  ·exact .inr ⟨j+1,mx,my,rfl,.cons h1 r',h2,e1,e2⟩
inductive Tail (g:G) (p:Nat) (b1 b2 e1 e2 x y i j:Int) (c':C):Prop
 | zero (hi:i=0) (hj:j=0)
 | b (c:C) (mx my:Int) (h:Walk g.E p (g.at_ mx my) c) (k:g.go mx my b1 b2) (ex:x=mx+b1) (ey:y=my+b2) (ec:c'=C.add c ⟨1,0⟩) (hi:i=0) (hj:0<j)
 | a (c:C) (mx my:Int) (h:Walk g.E p (g.at_ mx my) c) (k:g.go mx my (b1+e1) (b2+e2)) (ex:x=mx+(b1+e1)) (ey:y=my+(b2+e2)) (ec:c'=C.add c ⟨0,1⟩) (hi:0<i) (hj:j=0)
 | ab (c:C) (k:Nat) (mx my:Int) (h:Walk g.E p (g.at_ mx my) c) (l:g.go mx my (b1+e1) (b2+e2)) (r:Rep g b1 b2 (k+1) (mx+(b1+e1)) (my+(b2+e2)) x y) (ec:c'=C.add c ⟨((k+1:Nat):Int),1⟩) (hi:0<i) (hj:0<j)
 | ba (c:C) (k:Nat) (mx my:Int) (h:Walk g.E p (g.at_ mx my) c) (l:g.go mx my b1 b2) (r:Rep g (b1+e1) (b2+e2) (k+1) (mx+b1) (my+b2) x y) (ec:c'=C.add c ⟨1,((k+1:Nat):Int)⟩) (hi:0<i) (hj:0<j)
structure Inv (g:G) (p:Nat) (x y:Int) (b1 b2 e1 e2 i j:Int):Prop where
 F:Frame b1 b2 e1 e2
 hi:0≤i
 hj:0≤j
 ex:x=g.X p+i*(b1+e1)+j*b1
 ey:y=g.Y p+i*(b2+e2)+j*b2
 w:Walk g.E p (g.at_ x y) ⟨j,i⟩
 t:Tail g p b1 b2 e1 e2 x y i j ⟨j,i⟩
theorem frame_cases {b1 b2 e1 e2 u v : Int} (F : Frame b1 b2 e1 e2) :
    ((u=1∧v=0)∨(u = -1∧v=0)∨(u=0∧v=1)∨(u=0∧v = -1)→(u=b1∧v=b2)∨(u = -b1∧v = -b2)∨(u=e1∧v=e2)∨(u = -e1∧v = -e2)) ∧
    ((u=1∨u = -1)∧(v=1∨v = -1)→(u=b1+e1∧v=b2+e2)∨(u=b1-e1∧v=b2-e2)∨(u = -b1+e1∧v = -b2+e2)∨(u = -b1-e1∧v = -b2-e2)):=by grind [Frame]
theorem Inv.oct {g:G} {p:Nat} {x y b1 b2 e1 e2 i j:Int} (H:Inv g p x y b1 b2 e1 e2 i j):octI (x-g.X p) (y-g.Y p)=⟨j,i⟩:=by grind [octI,Frame,G,Inv]
theorem turn_eq {g:G} {p:Nat} {x y x' y':Int} {c c':C} (h:Turn g p (g.at_ x y) c) (ex:x'=x) (ey:y'=y) (ec:c'=c):Turn g p (g.at_ x' y') c':=by grind
theorem go_eq {g:G} {x y u v x' y' u' v':Int} (h:g.go x y u v) (ex:x'=x) (ey:y'=y) (eu:u'=u) (ev:v'=v):g.go x' y' u' v':=by grind
theorem ceq {a b c d:Int} (h:a=c) (k:b=d):(⟨a,b⟩:C)=⟨c,d⟩:=by rw [h,k]
theorem lastB {g : G} {p : Nat} {c : C} {mx my b1 b2 e1 e2 u v : Int} (F : Frame b1 b2 e1 e2) (h : Walk g.E p (g.at_ mx my) c) (k : g.go mx my b1 b2) (st : g.go (mx+b1) (my+b2) u v)
    (hs:(u = -b1∧v = -b2)∨(u=e1∧v=e2)∨(u = -e1∧v = -e2)):Turn g p (g.at_ (mx+b1+u) (my+b2+v)) (C.add (C.add c ⟨1,0⟩) ⟨1,0⟩):=by
 have e:C.add (C.add c ⟨1,0⟩) ⟨1,0⟩=C.add c ⟨2,0⟩:=by rw [C.add_assoc];rfl
 rw [e]
 rcases hs with ⟨rfl,rfl⟩ | ⟨rfl,rfl⟩ | ⟨rfl,rfl⟩
 ·exact turn_eq (turn_Bback F h) (by omega) (by omega) rfl
 ·exact turn_BD F h k st
 ·exact turn_BD F.neg h k st
theorem lastB' {g : G} {p : Nat} {c : C} {mx my b1 b2 e1 e2 u v : Int} (F : Frame b1 b2 e1 e2) (h : Walk g.E p (g.at_ mx my) c) (k : g.go mx my b1 b2) (st : g.go (mx+b1) (my+b2) u v)
    (hs:(u = -b1+e1∧v = -b2+e2)∨(u = -b1-e1∧v = -b2-e2)):Turn g p (g.at_ (mx+b1+u) (my+b2+v)) (C.add (C.add c ⟨1,0⟩) ⟨0,1⟩):=by
 have e:C.add (C.add c ⟨1,0⟩) ⟨0,1⟩=C.add c ⟨1,1⟩:=by rw [C.add_assoc];rfl
 rw [e]
 rcases hs with ⟨rfl,rfl⟩ | ⟨rfl,rfl⟩
 ·exact turn_eq (turn_BDB F h k st) (by omega) (by omega) rfl
 ·exact turn_eq (turn_BDB F.neg h k st) (by omega) (by omega) rfl
theorem lastA {g : G} {p : Nat} {c : C} {mx my b1 b2 e1 e2 u v : Int} (F : Frame b1 b2 e1 e2) (h : Walk g.E p (g.at_ mx my) c) (k : g.go mx my (b1+e1) (b2+e2))
    (hs:(u = -b1∧v = -b2)∨(u = -e1∧v = -e2)):Turn g p (g.at_ (mx+(b1+e1)+u) (my+(b2+e2)+v)) (C.add (C.add c ⟨0,1⟩) ⟨1,0⟩):=by
 have e:C.add (C.add c ⟨0,1⟩) ⟨1,0⟩=C.add c ⟨1,1⟩:=by rw [C.add_assoc];rfl
 rw [e]
 rcases hs with ⟨rfl,rfl⟩ | ⟨rfl,rfl⟩
 ·exact turn_eq (turn_AB F h k) (by omega) (by omega) rfl
 ·exact turn_eq (turn_AB F.swap h (go_eq k rfl rfl (by omega) (by omega))) (by omega) (by omega) rfl
theorem lastA' {g : G} {p : Nat} {c : C} {mx my b1 b2 e1 e2 u v : Int} (F : Frame b1 b2 e1 e2) (h : Walk g.E p (g.at_ mx my) c) (k : g.go mx my (b1+e1) (b2+e2)) (st : g.go (mx+(b1+e1)) (my+(b2+e2)) u v)
    (hs:(u=b1-e1∧v=b2-e2)∨(u = -b1+e1∧v = -b2+e2)∨(u = -b1-e1∧v = -b2-e2)):Turn g p (g.at_ (mx+(b1+e1)+u) (my+(b2+e2)+v)) (C.add (C.add c ⟨0,1⟩) ⟨0,1⟩):=by
 have e:C.add (C.add c ⟨0,1⟩) ⟨0,1⟩=C.add c ⟨0,2⟩:=by rw [C.add_assoc];rfl
 rw [e]
 rcases hs with ⟨rfl,rfl⟩ | ⟨rfl,rfl⟩ | ⟨rfl,rfl⟩
 ·exact turn_eq (turn_AA F h k st) (by omega) (by omega) rfl
 ·exact turn_eq (turn_AA F.swap h (go_eq k rfl rfl (by omega) (by omega)) (go_eq st (by omega) (by omega) (by omega) (by omega))) (by omega) (by omega) rfl
 ·exact turn_eq (turn_Aback h) (by omega) (by omega) rfl
theorem succ_mul' (i b:Int):(i+1)*b=i*b+b:=by rw [Int.add_mul,Int.one_mul]
theorem inv_straight {g : G} {p : Nat} {x y u v b1 b2 e1 e2 i j : Int} (H : Inv g p x y b1 b2 e1 e2 i j) (st : g.go x y u v) (hu : (u = 1 ∧ v = 0) ∨ (u = -1 ∧ v = 0) ∨ (u = 0 ∧ v = 1) ∨ (u = 0 ∧ v = -1)) :
    (∃b1 b2 e1 e2 j',Inv g p (x+u) (y+v) b1 b2 e1 e2 i j'∧j'=j+1)∨Turn g p (g.at_ (x+u) (y+v)) (C.add ⟨j,i⟩ ⟨1,0⟩):=by
 obtain ⟨F,hi,hj,ex,ey,w,t⟩:=H;have hc:=(frame_cases F).1 hu
 have w':Walk g.E p (g.at_ (x+u) (y+v)) ⟨j+1,i⟩:=by
  have:=w.snoc (go_E1 hu st);rwa [show C.add ⟨j,i⟩ ⟨1,0⟩=⟨j+1,i⟩ from ceq rfl (Int.add_zero _)] at this
 have e1':=succ_mul' j b1;have e2':=succ_mul' j b2
 cases t with
 | zero h1 h2=>
  subst h1;subst h2
  obtain ⟨d1,d2,F'⟩:∃d1 d2,Frame u v d1 d2:=by
   rcases hu with ⟨rfl,rfl⟩ | ⟨rfl,rfl⟩ | ⟨rfl,rfl⟩ | ⟨rfl,rfl⟩
   ·exact ⟨0,1,.inl ⟨.inl rfl,rfl,rfl,.inl rfl⟩⟩
   ·exact ⟨0,1,.inl ⟨.inr rfl,rfl,rfl,.inl rfl⟩⟩
   ·exact ⟨1,0,.inr ⟨rfl,.inl rfl,.inl rfl,rfl⟩⟩
   ·exact ⟨1,0,.inr ⟨rfl,.inr rfl,.inl rfl,rfl⟩⟩
  refine .inl ⟨u,v,d1,d2,1,⟨F',by omega,by omega,by omega,by omega,w',.b ⟨0,0⟩ x y w st rfl rfl rfl rfl (by omega)⟩,rfl⟩
 | b c mx my h k ex' ey' ec h1 h2=>
  subst ex';subst ey'
  rcases hc with ⟨rfl,rfl⟩ | hc
  ·exact .inl ⟨_,_,_,_,_,⟨F,hi,by omega,by omega,by omega,w',.b _ _ _ w st rfl rfl (ceq rfl (Int.add_zero _).symm) h1 (by omega)⟩,rfl⟩
  ·right;rw [ec];exact lastB F h k st hc
 | a c mx my h k ex' ey' ec h1 h2=>
  subst ex';subst ey';subst h2
  rcases hc with ⟨rfl,rfl⟩ | hc | ⟨rfl,rfl⟩ | hc
  ·refine .inl ⟨_,_,_,_,_,⟨F,hi,by omega,by omega,by omega,w',.ab c 0 mx my h k (.cons st (.nil _ _)) ?_ h1 (by omega)⟩,rfl⟩
   have q1:=congrArg C.s ec;have q2:=congrArg C.d ec;simp only [C.add] at q1 q2
   exact C.ext' (by simp only [C.add];omega) (by simp only [C.add];omega)
  ·right;rw [ec];exact lastA F h k (.inl hc)
  ·refine .inl ⟨_,_,_,_,_,⟨F.swap,hi,by omega,by rw [Int.add_comm u b1];omega,by rw [Int.add_comm v b2];omega,w',.ab c 0 mx my h (go_eq k rfl rfl (by omega) (by omega)) ?_ ?_ h1 (by omega)⟩,rfl⟩
   ·rw [Int.add_comm u b1,Int.add_comm v b2];exact .cons st (.nil _ _)
   ·have q1:=congrArg C.s ec;have q2:=congrArg C.d ec
    simp only [C.add] at q1 q2
    exact C.ext' (by simp only [C.add];omega) (by simp only [C.add];omega)
  ·right;rw [ec];exact lastA F h k (.inr hc)
 | ab c k mx my h l r ec h1 h2=>
  rcases hc with ⟨rfl,rfl⟩ | hc
  ·refine .inl ⟨_,_,_,_,_,⟨F,hi,by omega,by omega,by omega,w',.ab c (k+1) mx my h l (r.snoc st) ?_ h1 (by omega)⟩,rfl⟩
   have q1:=congrArg C.s ec;have q2:=congrArg C.d ec;simp only [C.add] at q1 q2
   exact C.ext' (by simp only [C.add];omega) (by simp only [C.add];omega)
  ·right
   rcases r.last with ⟨z,_⟩ | ⟨k',nx,ny,z,r',l',ex',ey'⟩
   ·omega
   ·obtain rfl:k'=k:=by omega
    subst ex';subst ey';have w2:=(h.snoc (go_E2 F.a l)).trans (r'.walk1 F.b);have:=lastB F w2 l' st hc;refine turn_eq this rfl rfl ?_;have q1:=congrArg C.s ec;have q2:=congrArg C.d ec;simp only [C.add] at q1 q2
    exact C.ext' (by simp only [C.add];omega) (by simp only [C.add];omega)
 | ba c k mx my h l r ec h1 h2=>
  have q1:=congrArg C.s ec;have q2:=congrArg C.d ec;simp only [C.add] at q1 q2
  rcases r.last with ⟨z,_⟩ | ⟨k',nx,ny,z,r',l',ex',ey'⟩
  ·omega
  obtain rfl:k'=k:=by omega
  have w2:=(h.snoc (go_E1 F.b l)).trans (r'.walk2 F.a)
  rcases hc with ⟨rfl,rfl⟩ | hc | ⟨rfl,rfl⟩ | hc
  ·refine .inl ⟨_,_,_,_,_,⟨F,hi,by omega,by omega,by omega,w',.ab _ 0 nx ny w2 l' ?_ ?_ h1 (by omega)⟩,rfl⟩
   ·rw [←ex',←ey'];exact .cons st (.nil _ _)
   ·exact C.ext' (by simp only [C.add];omega) (by simp only [C.add];omega)
  ·right;subst ex';subst ey'
   refine turn_eq (lastA F w2 l' (.inl hc)) rfl rfl ?_
   exact C.ext' (by simp only [C.add];omega) (by simp only [C.add];omega)
  ·right
   refine turn_eq (turn_BAD F (k'+1) c mx my x y h l r st) rfl rfl ?_
   exact C.ext' (by simp only [C.add];omega) (by simp only [C.add];omega)
  ·right;subst ex';subst ey'
   refine turn_eq (lastA F w2 l' (.inr hc)) rfl rfl ?_
   exact C.ext' (by simp only [C.add];omega) (by simp only [C.add];omega)
theorem inv_diag {g : G} {p : Nat} {x y u v b1 b2 e1 e2 i j : Int} (H : Inv g p x y b1 b2 e1 e2 i j) (st : g.go x y u v) (hu : (u = 1 ∨ u = -1) ∧ (v = 1 ∨ v = -1)) :
    (∃b1 b2 e1 e2 i',Inv g p (x+u) (y+v) b1 b2 e1 e2 i' j∧i'=i+1)∨Turn g p (g.at_ (x+u) (y+v)) (C.add ⟨j,i⟩ ⟨0,1⟩):=by
 obtain ⟨F,hi,hj,ex,ey,w,t⟩:=H;have hc:=(frame_cases F).2 hu
 have w':Walk g.E p (g.at_ (x+u) (y+v)) ⟨j,i+1⟩:=by
  have:=w.snoc (go_E2 hu st);rwa [show C.add ⟨j,i⟩ ⟨0,1⟩=⟨j,i+1⟩ from ceq (Int.add_zero _) rfl] at this
 have e1':=succ_mul' i (b1+e1);have e2':=succ_mul' i (b2+e2)
 cases t with
 | zero h1 h2=>
  subst h1;subst h2
  refine .inl ⟨u,0,0,v,1,⟨.inl ⟨hu.1,rfl,rfl,hu.2⟩,by omega,by omega,by omega,by omega,w',.a ⟨0,0⟩ x y w (go_eq st rfl rfl (by omega) (by omega)) (by omega) (by omega) rfl (by omega) rfl⟩,rfl⟩
 | b c mx my h k ex' ey' ec h1 h2=>
  subst ex';subst ey';subst h1;have q1:=congrArg C.s ec;have q2:=congrArg C.d ec;simp only [C.add] at q1 q2
  rcases hc with ⟨rfl,rfl⟩ | ⟨rfl,rfl⟩ | hc
  ·exact .inl ⟨_,_,_,_,_,⟨F,by omega,hj,by omega,by omega,w',.ba c 0 mx my h k (.cons st (.nil _ _)) (C.ext' (by simp only [C.add];omega) (by simp only [C.add];omega)) (by omega) h2⟩,rfl⟩
  ·exact .inl ⟨b1,b2,-e1,-e2,_,⟨F.neg,by omega,hj,by omega,by omega,w',.ba c 0 mx my h k (.cons st (.nil _ _)) (C.ext' (by simp only [C.add];omega) (by simp only [C.add];omega)) (by omega) h2⟩,rfl⟩
  ·right;rw [ec];exact lastB' F h k st hc
 | a c mx my h k ex' ey' ec h1 h2=>
  subst ex';subst ey'
  rcases hc with ⟨rfl,rfl⟩ | hc
  ·exact .inl ⟨_,_,_,_,_,⟨F,by omega,hj,by omega,by omega,w',.a _ _ _ w st rfl rfl (ceq (Int.add_zero _).symm rfl) (by omega) h2⟩,rfl⟩
  ·right;rw [ec];exact lastA' F h k st hc
 | ab c k mx my h l r ec h1 h2=>
  have q1:=congrArg C.s ec;have q2:=congrArg C.d ec;simp only [C.add] at q1 q2
  rcases r.last with ⟨z,_⟩ | ⟨k',nx,ny,z,r',l',ex',ey'⟩
  ·omega
  obtain rfl:k'=k:=by omega
  have w2:=(h.snoc (go_E2 F.a l)).trans (r'.walk1 F.b)
  rcases hc with ⟨rfl,rfl⟩ | ⟨rfl,rfl⟩ | hc
  ·refine .inl ⟨_,_,_,_,_,⟨F,by omega,hj,by omega,by omega,w',.ba _ 0 nx ny w2 l' ?_ ?_ (by omega) h2⟩,rfl⟩
   ·rw [←ex',←ey'];exact .cons st (.nil _ _)
   ·exact C.ext' (by simp only [C.add];omega) (by simp only [C.add];omega)
  ·right
   refine turn_eq (turn_ABA F (k'+1) c mx my x y h l r st) rfl rfl ?_
   exact C.ext' (by simp only [C.add];omega) (by simp only [C.add];omega)
  ·right;subst ex';subst ey'
   refine turn_eq (lastB' F w2 l' st hc) rfl rfl ?_
   exact C.ext' (by simp only [C.add];omega) (by simp only [C.add];omega)
 | ba c k mx my h l r ec h1 h2=>
  have q1:=congrArg C.s ec;have q2:=congrArg C.d ec;simp only [C.add] at q1 q2
  rcases hc with ⟨rfl,rfl⟩ | hc
  ·refine .inl ⟨_,_,_,_,_,⟨F,by omega,hj,by omega,by omega,w',.ba c (k+1) mx my h l (r.snoc st) ?_ (by omega) h2⟩,rfl⟩
   exact C.ext' (by simp only [C.add];omega) (by simp only [C.add];omega)
  ·right
   rcases r.last with ⟨z,_⟩ | ⟨k',nx,ny,z,r',l',ex',ey'⟩
   ·omega
   ·obtain rfl:k'=k:=by omega
    subst ex';subst ey';have w2:=(h.snoc (go_E1 F.b l)).trans (r'.walk2 F.a);refine turn_eq (lastA' F w2 l' st hc) rfl rfl ?_
    exact C.ext' (by simp only [C.add];omega) (by simp only [C.add];omega)
theorem turn_main {g:G} {p e:Nat} {c:C} (h:Walk g.E p e c):(∃b1 b2 e1 e2 i j,Inv g p (g.X e) (g.Y e) b1 b2 e1 e2 i j∧c=⟨j,i⟩)∨Turn g p e c:=by
 induction h with
 | nil=>exact .inl ⟨1,0,0,1,0,0,⟨.inl ⟨.inl rfl,rfl,rfl,.inl rfl⟩,by omega,by omega,by omega,by omega,by rw [at_of p rfl rfl];exact .nil _,.zero rfl rfl⟩,rfl⟩
 | @snoc e t c d w ed ih=>
  rcases ih with ⟨b1,b2,e1,e2,i,j,H,rfl⟩ | T
  ·obtain ⟨_,dd,hd,hm,rfl,rfl⟩:=ed
   obtain ⟨hm',hx,hy⟩:=mayC_to hm
   have st:g.go (g.X e) (g.Y e) (dxN dd) (dyN dd):=by have:=hm;unfold mayC at this;exact may_iff.1 this
   rw [hx,hy]
   rcases dN_cases hd with ⟨k1,k2⟩ | ⟨k1,k2⟩
   ·rw [k1]
    rcases inv_straight H st k2 with ⟨b1,b2,e1,e2,j',H',rfl⟩ | T
    ·exact .inl ⟨_,_,_,_,_,_,H',ceq rfl (Int.add_zero _)⟩
    ·right;rwa [←hx,←hy,at_of _ rfl rfl] at T
   ·rw [k1]
    rcases inv_diag H st k2 with ⟨b1,b2,e1,e2,i',H',rfl⟩ | T
    ·exact .inl ⟨_,_,_,_,_,_,H',ceq (Int.add_zero _) rfl⟩
    ·right;rwa [←hx,←hy,at_of _ rfl rfl] at T
  ·exact .inr (T.back (.single ed))
theorem turn_near {g:G} {p e:Nat} {c:C} (h:Walk g.E p e c):c=g.oct p e∨Turn g p e c:=by
 rcases turn_main h with ⟨b1,b2,e1,e2,i,j,H,rfl⟩ | T
 ·left;rw [oct_symm];exact H.oct.symm
 ·exact .inr T
theorem dist_corner {g:G} {p e:Nat} {c:C} (h:Dist g.E p e c) (hn:c≠g.oct p e):∃q c1 c2,g.Corner q∧Dist g.E p q c1∧Dist g.E q e c2∧C.add c1 c2=c∧c1≠C.zero∧c2≠C.zero:=by
 rcases turn_near h.1 with rfl | ⟨q,c1,c2,h1,h2,h3,h4,h5,h6⟩ | ⟨c',h1,h2⟩
 ·exact absurd rfl hn
 ·refine ⟨q,c1,c2,h1,⟨h2,fun d k=>?_⟩,⟨h3,fun d k=>?_⟩,h4,h5,h6⟩
  ·have:=h.2 _ (k.trans h3);rw [←h4] at this;exact (C.add_le_right _).1 this
  ·have:=h.2 _ (h2.trans k);rw [←h4] at this;exact (C.add_le_left _).1 this
 ·exact absurd h2 (h.2 _ h1)
end G
end FR
namespace FR
theorem walk_zero {g:G} {a b:Nat} {c:C} (h:Walk g.E a b c) (h0:c=C.zero):b=a:=by
 rcases h.inv with ⟨e,_⟩ | ⟨m,d,e,h1,h2,h3⟩
 ·exact e
 ·exfalso
  have n1:=G.wnn h1;obtain ⟨_,k,_,_,_,he⟩:=h2;rw [h0] at h3;have e1:=congrArg C.s h3;have e2:=congrArg C.d h3;obtain ⟨p1,p2⟩:=n1
  rcases Nat.mod_two_eq_zero_or_one k with q | q
  ·have:stepC k=⟨1,0⟩:=by unfold stepC;rw [if_neg (by omega)]
   rw [he,this] at e1;simp only [C.add,C.zero] at e1;omega
  ·have:stepC k=⟨0,1⟩:=by unfold stepC;rw [if_pos q]
   rw [he,this] at e2;simp only [C.add,C.zero] at e2;omega
namespace G
variable {g:G}
def Mid (g:G) (a b k:Nat):Prop:=∃p q,Walk g.E a k p∧Walk g.E k b q∧C.add p q=g.oct a b
def Direct (g:G) (a b:Nat):Prop:=g.Near a b∧∀k,g.Corner k→k≠a→k≠b→¬g.Mid a b k
theorem mid_symm {a b k:Nat}:g.Mid a b k↔g.Mid b a k:=by
 have key:∀a b,g.Mid a b k→g.Mid b a k:=by
  rintro a b ⟨p,q,h1,h2,h3⟩
  exact ⟨q,p,Walk.rev (E:=g.E) (fun _ _ _ he=>E_symm he) h2,Walk.rev (E:=g.E) (fun _ _ _ he=>E_symm he) h1,by rw [C.add_comm,h3,oct_symm]⟩
 exact ⟨key a b,key b a⟩
theorem direct_symm {a b:Nat}:g.Direct a b↔g.Direct b a:=by
 have key:∀a b,g.Direct a b→g.Direct b a:=fun a b ⟨h1,h2⟩=>⟨near_symm.1 h1,fun k hk ha hb hm=>h2 k hk hb ha (mid_symm.1 hm)⟩
 exact ⟨key a b,key b a⟩
def GE (g:G) (a b:Nat) (c:C):Prop:=g.Corner a∧g.Corner b∧a≠b∧g.Direct a b∧c=g.oct a b
theorem GE_nn {a b:Nat} {c:C} (h:g.GE a b c):C.Nn c:=h.2.2.2.2▸oct_nn g a b
theorem GE_symm {a b:Nat} {c:C} (h:g.GE a b c):g.GE b a c:=⟨h.2.1,h.1,Ne.symm h.2.2.1,direct_symm.1 h.2.2.2.1,h.2.2.2.2.trans (oct_symm g a b)⟩
theorem GE_walk {a b:Nat} {c:C} (h:Walk g.GE a b c):Walk g.E a b c:=by
 induction h with
 | nil=>exact .nil _
 | snoc _ he ih=>rw [he.2.2.2.2];exact ih.trans he.2.2.2.1.1
theorem sum_lt {c1 c2 c:C} (h1:C.Nn c1) (h2:C.Nn c2) (h:C.add c1 c2=c) (hz:c2≠C.zero):(c1.s+c1.d).toNat<(c.s+c.d).toNat:=by
 obtain ⟨a1,a2⟩:=h1;obtain ⟨b1,b2⟩:=h2
 have:0<c2.s+c2.d:=by
  apply Classical.byContradiction
  intro h3
  exact hz (C.ext' (by simp only [C.zero];omega) (by simp only [C.zero];omega))
 have e1:=congrArg C.s h;have e2:=congrArg C.d h;simp only [C.add] at e1 e2;omega
theorem corners_enough:∀(n:Nat) {a b:Nat} {c:C},(c.s+c.d).toNat≤n→g.Corner a→g.Corner b→Dist g.E a b c→Walk g.GE a b c:=by
 intro n
 induction n using Nat.strongRecOn with
 | _ n ih=>
  intro a b c hn ha hb h
  have split:∀ {q:Nat} {c1 c2:C},g.Corner q→Dist g.E a q c1→Dist g.E q b c2→C.add c1 c2=c→c1≠C.zero→c2≠C.zero→Walk g.GE a b c:=by
   intro q c1 c2 hq h1 h2 e z1 z2;have n1:=wnn h1.1;have n2:=wnn h2.1;have l1:=sum_lt n1 n2 e z2;have l2:=sum_lt n2 n1 (c:=c) ((C.add_comm _ _).trans e) z1;have w1:=ih _ (Nat.lt_of_lt_of_le l1 hn) (Nat.le_refl _) ha hq h1;have w2:=ih _ (Nat.lt_of_lt_of_le l2 hn) (Nat.le_refl _) hq hb h2;rw [←e];exact w1.trans w2
  by_cases hc:c=g.oct a b
  ·by_cases hab:a=b
   ·subst hab
    rw [hc,oct_self];exact .nil _
   ·by_cases hd:g.Direct a b
    ·exact .single ⟨ha,hb,hab,hd,hc⟩
    ·have hnear:g.Near a b:=by unfold Near;rw [←hc];exact h.1
     have:∃k,g.Corner k∧k≠a∧k≠b∧g.Mid a b k:=by
      apply Classical.byContradiction
      intro hno
      exact hd ⟨hnear,fun k h1 h2 h3 h4=>hno ⟨k,h1,h2,h3,h4⟩⟩
     obtain ⟨k,hk,hka,hkb,p,q,h1,h2,h3⟩:=this;rw [←hc] at h3
     refine split hk ⟨h1,fun d k'=>?_⟩ ⟨h2,fun d k'=>?_⟩ h3 (fun e=>hka (walk_zero h1 e)) (fun e=>hkb (walk_zero h2 e).symm)
     ·have:=h.2 _ (k'.trans h2);rw [←h3] at this;exact (C.add_le_right _).1 this
     ·have:=h.2 _ (h1.trans k');rw [←h3] at this;exact (C.add_le_left _).1 this
  ·obtain ⟨q,c1,c2,hq,h1,h2,e,z1,z2⟩:=dist_corner h hc
   exact split hq h1 h2 e z1 z2
end G
end FR
namespace FR
namespace G
variable {g:G} {a b:Nat}
def dOk (g:G) (a b i j:Nat):Prop:=i<g.fI a b∧g.may (g.fx a b i j) (g.fy a b i j) (g.fdg a b)=true
def sOk (g:G) (a b i j:Nat):Prop:=j<g.fJ a b∧g.may (g.fx a b i j) (g.fy a b i j) (g.fst_ a b)=true
def Bef (i' j' i j:Nat):Prop:=i'<i∨(i'=i∧j'<j)
def OnS (g:G) (a b i j:Nat) (p q:Nat):Prop:=p≤g.fI a b∧q≤g.fJ a b∧((p=0∧q=0)∨(∃p',p=p'+1∧Bef p' q i j∧g.On a b p' q∧g.dOk a b p' q)∨(∃q',q=q'+1∧Bef p q' i j∧g.On a b p q'∧g.sOk a b p q'))
theorem ons_start {p q:Nat}:g.OnS a b 0 0 p q↔(p=0∧q=0):=by
 constructor
 ·rintro ⟨_,_,h | ⟨p',_,h,_⟩ | ⟨q',_,h,_⟩⟩
  ·exact h
  ·unfold Bef at h;omega
  ·unfold Bef at h;omega
 ·rintro ⟨rfl,rfl⟩;exact ⟨Nat.zero_le _,Nat.zero_le _,.inl ⟨rfl,rfl⟩⟩
theorem ons_at (hg:g.ok) (hb:b<g.n) (ha:a<g.n) {i j:Nat} (hi:i≤g.fI a b) (hj:j≤g.fJ a b):g.OnS a b i j i j↔g.On a b i j:=by
 rw [on_iff hg hb ha hi hj]
 constructor
 ·rintro ⟨_,_,h | ⟨p',h1,_,h2,h3⟩ | ⟨q',h1,_,h2,h3⟩⟩
  ·exact .inl h
  ·exact .inr (.inl ⟨p',h1,h2,h3.2⟩)
  ·exact .inr (.inr ⟨q',h1,h2,h3.2⟩)
 ·rintro (h | ⟨p',h1,h2,h3⟩ | ⟨q',h1,h2,h3⟩)
  ·exact ⟨hi,hj,.inl h⟩
  ·exact ⟨hi,hj,.inr (.inl ⟨p',h1,by unfold Bef;omega,h2,by omega,h3⟩)⟩
  ·exact ⟨hi,hj,.inr (.inr ⟨q',h1,by unfold Bef;omega,h2,by omega,h3⟩)⟩
theorem ons_no {i j p q:Nat} (h:¬g.On a b i j):g.OnS a b i (j+1) p q↔g.OnS a b i j p q:=by
 have key:∀p' q',g.On a b p' q'→(Bef p' q' i (j+1)↔Bef p' q' i j):=by
  intro p' q' ho;unfold Bef
  constructor
  ·intro hh
   by_cases e:p'=i∧q'=j
   ·rw [e.1,e.2] at ho;exact absurd ho h
   ·omega
  ·omega
 unfold OnS
 constructor
 ·rintro ⟨h1,h2,h' | ⟨p',x1,x2,x3,x4⟩ | ⟨q',x1,x2,x3,x4⟩⟩
  ·exact ⟨h1,h2,.inl h'⟩
  ·exact ⟨h1,h2,.inr (.inl ⟨p',x1,(key _ _ x3).1 x2,x3,x4⟩)⟩
  ·exact ⟨h1,h2,.inr (.inr ⟨q',x1,(key _ _ x3).1 x2,x3,x4⟩)⟩
 ·rintro ⟨h1,h2,h' | ⟨p',x1,x2,x3,x4⟩ | ⟨q',x1,x2,x3,x4⟩⟩
  ·exact ⟨h1,h2,.inl h'⟩
  ·exact ⟨h1,h2,.inr (.inl ⟨p',x1,(key _ _ x3).2 x2,x3,x4⟩)⟩
  ·exact ⟨h1,h2,.inr (.inr ⟨q',x1,(key _ _ x3).2 x2,x3,x4⟩)⟩
theorem ons_step {i j p q:Nat} (hi:i≤g.fI a b) (hj:j≤g.fJ a b) (h:g.On a b i j):g.OnS a b i (j+1) p q↔g.OnS a b i j p q∨(g.dOk a b i j∧p=i+1∧q=j)∨(g.sOk a b i j∧p=i∧q=j+1):=by
 constructor
 ·rintro ⟨h1,h2,h' | ⟨p',x1,x2,x3,x4⟩ | ⟨q',x1,x2,x3,x4⟩⟩
  ·exact .inl ⟨h1,h2,.inl h'⟩
  ·by_cases e:p'=i∧q=j
   ·obtain ⟨rfl,rfl⟩:=e
    exact .inr (.inl ⟨x4,x1,rfl⟩)
   ·exact .inl ⟨h1,h2,.inr (.inl ⟨p',x1,by unfold Bef at *;omega,x3,x4⟩)⟩
  ·by_cases e:p=i∧q'=j
   ·obtain ⟨rfl,rfl⟩:=e
    exact .inr (.inr ⟨x4,rfl,x1⟩)
   ·exact .inl ⟨h1,h2,.inr (.inr ⟨q',x1,by unfold Bef at *;omega,x3,x4⟩)⟩
 ·rintro (⟨h1,h2,h' | ⟨p',x1,x2,x3,x4⟩ | ⟨q',x1,x2,x3,x4⟩⟩ | ⟨x,rfl,rfl⟩ | ⟨x,rfl,rfl⟩)
  ·exact ⟨h1,h2,.inl h'⟩
  ·exact ⟨h1,h2,.inr (.inl ⟨p',x1,by unfold Bef at *;omega,x3,x4⟩)⟩
  ·exact ⟨h1,h2,.inr (.inr ⟨q',x1,by unfold Bef at *;omega,x3,x4⟩)⟩
  ·exact ⟨x.1,hj,.inr (.inl ⟨i,rfl,by unfold Bef;omega,h,x⟩)⟩
  ·exact ⟨hi,x.1,.inr (.inr ⟨j,rfl,by unfold Bef;omega,h,x⟩)⟩
theorem ons_row {i p q:Nat}:g.OnS a b i (g.fJ a b+1) p q↔g.OnS a b (i+1) 0 p q:=by
 unfold OnS
 constructor
 ·rintro ⟨h1,h2,h' | ⟨p',x1,x2,x3,x4⟩ | ⟨q',x1,x2,x3,x4⟩⟩
  ·exact ⟨h1,h2,.inl h'⟩
  ·exact ⟨h1,h2,.inr (.inl ⟨p',x1,by unfold Bef at *;omega,x3,x4⟩)⟩
  ·exact ⟨h1,h2,.inr (.inr ⟨q',x1,by unfold Bef at *;omega,x3,x4⟩)⟩
 ·rintro ⟨h1,h2,h' | ⟨p',x1,x2,x3,x4⟩ | ⟨q',x1,x2,x3,x4⟩⟩
  ·exact ⟨h1,h2,.inl h'⟩
  ·exact ⟨h1,h2,.inr (.inl ⟨p',x1,by unfold Bef at *;omega,x3,x4⟩)⟩
  ·exact ⟨h1,h2,.inr (.inr ⟨q',x1,by unfold Bef at *;omega,x3,x4⟩)⟩
def OnA (g:G) (a b p q:Nat):Prop:=p≤g.fI a b∧q≤g.fJ a b∧g.On a b p q
theorem ons_end (hg:g.ok) (hb:b<g.n) (ha:a<g.n) {p q:Nat}:g.OnS a b (g.fI a b+1) 0 p q↔g.OnA a b p q:=by
 constructor
 ·rintro ⟨h1,h2,h⟩
  refine ⟨h1,h2,(on_iff hg hb ha h1 h2).2 ?_⟩
  rcases h with h | ⟨p',x1,_,x3,x4⟩ | ⟨q',x1,_,x3,x4⟩
  ·exact .inl h
  ·exact .inr (.inl ⟨p',x1,x3,x4.2⟩)
  ·exact .inr (.inr ⟨q',x1,x3,x4.2⟩)
 ·rintro ⟨h1,h2,h⟩
  refine ⟨h1,h2,?_⟩
  rcases (on_iff hg hb ha h1 h2).1 h with h | ⟨p',x1,x3,x4⟩ | ⟨q',x1,x3,x4⟩
  ·exact .inl h
  ·exact .inr (.inl ⟨p',x1,by unfold Bef;omega,x3,by omega,x4⟩)
  ·exact .inr (.inr ⟨q',x1,by unfold Bef;omega,x3,by omega,x4⟩)
def BkS (g:G) (a b i j:Nat) (p q:Nat):Prop:=p≤g.fI a b∧q≤g.fJ a b∧((p=g.fI a b∧q=g.fJ a b)∨((i≤p∨(p+1=i∧j≤q))∧g.Back a b p q))
theorem bks_start {p q:Nat}:g.BkS a b (g.fI a b+1) (g.fJ a b+1) p q↔(p=g.fI a b∧q=g.fJ a b):=by
 constructor
 ·rintro ⟨h1,h2,h | ⟨h,_⟩⟩
  ·exact h
  ·omega
 ·rintro ⟨rfl,rfl⟩;exact ⟨Nat.le_refl _,Nat.le_refl _,.inl ⟨rfl,rfl⟩⟩
theorem bks_step (hg : g.ok) (hb : b < g.n) (ha : a < g.n) {i j p q : Nat} (hi : i ≤ g.fI a b) (hj : j ≤ g.fJ a b) :
    g.BkS a b (i+1) j p q↔g.BkS a b (i+1) (j+1) p q∨(((g.dOk a b i j∧g.BkS a b (i+1) (j+1) (i+1) j)∨(g.sOk a b i j∧g.BkS a b (i+1) (j+1) i (j+1)))∧p=i∧q=j):=by
 have hbk:=back_iff hg hb ha hi hj
 have e1:g.dOk a b i j→(g.BkS a b (i+1) (j+1) (i+1) j↔g.Back a b (i+1) j):=by
  intro hd
  constructor
  ·rintro ⟨h1,h2,⟨h3,h4⟩ | ⟨_,h⟩⟩
   ·rw [back_iff hg hb ha h1 h2];exact .inl ⟨h3,h4⟩
   ·exact h
  ·intro h;exact ⟨hd.1,hj,.inr ⟨.inl (Nat.le_refl _),h⟩⟩
 have e2:g.sOk a b i j→(g.BkS a b (i+1) (j+1) i (j+1)↔g.Back a b i (j+1)):=by
  intro hs
  constructor
  ·rintro ⟨h1,h2,⟨h3,h4⟩ | ⟨_,h⟩⟩
   ·rw [back_iff hg hb ha h1 h2];exact .inl ⟨h3,h4⟩
   ·exact h
  ·intro h;exact ⟨hi,hs.1,.inr ⟨.inr ⟨rfl,Nat.le_refl _⟩,h⟩⟩
 constructor
 ·rintro ⟨h1,h2,h | ⟨h,h'⟩⟩
  ·exact .inl ⟨h1,h2,.inl h⟩
  ·by_cases e:p=i∧q=j
   ·obtain ⟨rfl,rfl⟩:=e
    rcases hbk.1 h' with x | ⟨x1,x2,x3⟩ | ⟨x1,x2,x3⟩
    ·exact .inl ⟨h1,h2,.inl x⟩
    ·exact .inr ⟨.inl ⟨⟨x1,x2⟩,(e1 ⟨x1,x2⟩).2 x3⟩,rfl,rfl⟩
    ·exact .inr ⟨.inr ⟨⟨x1,x2⟩,(e2 ⟨x1,x2⟩).2 x3⟩,rfl,rfl⟩
   ·exact .inl ⟨h1,h2,.inr ⟨by omega,h'⟩⟩
 ·rintro (⟨h1,h2,h | ⟨h,h'⟩⟩ | ⟨h,rfl,rfl⟩)
  ·exact ⟨h1,h2,.inl h⟩
  ·exact ⟨h1,h2,.inr ⟨by omega,h'⟩⟩
  ·refine ⟨hi,hj,.inr ⟨.inr ⟨rfl,Nat.le_refl _⟩,hbk.2 ?_⟩⟩
   rcases h with ⟨x1,x2⟩ | ⟨x1,x2⟩
   ·exact .inr (.inl ⟨x1.1,x1.2,(e1 x1).1 x2⟩)
   ·exact .inr (.inr ⟨x1.1,x1.2,(e2 x1).1 x2⟩)
theorem bks_row {i p q:Nat}:g.BkS a b (i+1) 0 p q↔g.BkS a b i (g.fJ a b+1) p q:=by
 unfold BkS
 constructor
 ·rintro ⟨h1,h2,h | ⟨h,h'⟩⟩
  ·exact ⟨h1,h2,.inl h⟩
  ·exact ⟨h1,h2,.inr ⟨by omega,h'⟩⟩
 ·rintro ⟨h1,h2,h | ⟨h,h'⟩⟩
  ·exact ⟨h1,h2,.inl h⟩
  ·exact ⟨h1,h2,.inr ⟨by omega,h'⟩⟩
def BkA (g:G) (a b p q:Nat):Prop:=p≤g.fI a b∧q≤g.fJ a b∧g.Back a b p q
theorem bks_end (hg:g.ok) (hb:b<g.n) (ha:a<g.n) {j p q:Nat}:g.BkS a b 0 j p q↔g.BkA a b p q:=by
 constructor
 ·rintro ⟨h1,h2,h | ⟨_,h⟩⟩
  ·exact ⟨h1,h2,(back_iff hg hb ha h1 h2).2 (.inl h)⟩
  ·exact ⟨h1,h2,h⟩
 ·rintro ⟨h1,h2,h⟩
  exact ⟨h1,h2,.inr ⟨.inl (Nat.zero_le _),h⟩⟩
theorem fI_le (hg:g.ok) (hb:b<g.n) (ha:a<g.n):g.fI a b≤15∧g.fJ a b≤15:=by
 obtain ⟨o1,o2,o3,o4⟩:=hg;have h1:=X_lt ⟨o1,o2,o3,o4⟩ a;have h2:=X_lt ⟨o1,o2,o3,o4⟩ b;have h3:=Y_lt ha;have h4:=Y_lt hb;unfold fI fJ fdx fdy;omega
def Nxt (g:G) (a b:Nat) (p p':Nat×Nat):Prop:=(g.dOk a b p.1 p.2∧g.BkA a b (p.1+1) p.2∧p'=(p.1+1,p.2))∨(¬(g.dOk a b p.1 p.2∧g.BkA a b (p.1+1) p.2)∧p'=(p.1,p.2+1))
def WayP (g:G) (a b:Nat) (P:Nat→Nat×Nat):Prop:=P 0=(0,0)∧∀k,g.Nxt a b (P k) (P (k+1))
theorem wayP_exist (g:G) (a b:Nat):∃P,g.WayP a b P:=by
 classical
 refine ⟨fun k=>Nat.rec (0,0) (fun _ p=>if g.dOk a b p.1 p.2∧g.BkA a b (p.1+1) p.2 then (p.1+1,p.2) else (p.1,p.2+1)) k,rfl,fun k=>?_⟩
 simp only
 split
 ·rename_i h;exact .inl ⟨h.1,h.2,rfl⟩
 ·rename_i h;exact .inr ⟨h,rfl⟩
theorem nxt_ok (hg : g.ok) (hb : b < g.n) (ha : a < g.n) {i j : Nat} {p' : Nat × Nat} (hn : g.Nxt a b (i, j) p') (hi : i ≤ g.fI a b) (hj : j ≤ g.fJ a b) (ho : g.On a b i j) (hk : g.Back a b i j) (hne : ¬ (i = g.fI a b ∧ j = g.fJ a b)) :
    (p'=(i+1,j)∧g.dOk a b i j∧g.On a b (i+1) j∧g.Back a b (i+1) j)∨(p'=(i,j+1)∧g.sOk a b i j∧g.On a b i (j+1)∧g.Back a b i (j+1)∧¬(g.dOk a b i j∧g.BkA a b (i+1) j)):=by
 rcases hn with ⟨h1,h2,h3⟩ | ⟨h1,h3⟩
 ·exact .inl ⟨h3,h1,(on_iff hg hb ha h1.1 hj).2 (.inr (.inl ⟨i,rfl,ho,h1.2⟩)),h2.2.2⟩
 ·rcases (back_iff hg hb ha hi hj).1 hk with x | ⟨x1,x2,x3⟩ | ⟨x1,x2,x3⟩
  ·exact absurd x hne
  ·exact absurd ⟨⟨x1,x2⟩,x1,hj,x3⟩ h1
  ·exact .inr ⟨h3,⟨x1,x2⟩,(on_iff hg hb ha hi x1).2 (.inr (.inr ⟨j,rfl,ho,x2⟩)),x3,h1⟩
theorem wayP_ok (hg:g.ok) (hb:b<g.n) (ha:a<g.n) (hn:g.Near a b) {P:Nat→Nat×Nat} (hP:g.WayP a b P):∀k,k≤g.fI a b+g.fJ a b→(P k).1≤g.fI a b∧(P k).2≤g.fJ a b∧(P k).1+(P k).2=k∧g.On a b (P k).1 (P k).2∧g.Back a b (P k).1 (P k).2
 | 0,_=>by rw [hP.1];exact ⟨Nat.zero_le _,Nat.zero_le _,rfl,(on_iff hg hb ha (Nat.zero_le _) (Nat.zero_le _)).2 (.inl ⟨rfl,rfl⟩),near_back.1 hn⟩
 | k+1,h=>by
  obtain ⟨h1,h2,h3,h4,h5⟩:=wayP_ok hg hb ha hn hP k (by omega)
  have hx:=hP.2 k
  generalize P (k+1)=p' at *
  generalize P k=p at *
  obtain ⟨i,j⟩:=p;simp only at h1 h2 h3 h4 h5
  rcases nxt_ok hg hb ha hx h1 h2 h4 h5 (by omega) with ⟨e,x1,x2,x3⟩ | ⟨e,x1,x2,x3,_⟩
  ·rw [e];exact ⟨x1.1,h2,by simp only;omega,x2,x3⟩
  ·rw [e];exact ⟨h1,x1.1,by simp only;omega,x2,x3⟩
end G
end FR
namespace FR
namespace G
structure But (g g':G) (x y:Int):Prop where
 w:g'.w=g.w
 h:g'.h=g.h
 op:∀u v:Int,¬(u=x∧v=y)→g'.op u v=g.op u v
theorem But.symm {g g':G} {x y:Int} (h:But g g' x y):But g' g x y:=⟨h.w.symm,h.h.symm,fun u v k=>(h.op u v k).symm⟩
theorem But.X {g g':G} {x y:Int} (h:But g g' x y) (c:Nat):g'.X c=g.X c:=by unfold G.X;rw [h.w]
theorem But.Y {g g':G} {x y:Int} (h:But g g' x y) (c:Nat):g'.Y c=g.Y c:=by unfold G.Y;rw [h.w]
theorem But.n {g g':G} {x y:Int} (h:But g g' x y):g'.n=g.n:=by unfold G.n;rw [h.w,h.h]
theorem But.ok {g g':G} {x y:Int} (h:But g g' x y) (k:g.ok):g'.ok:=by unfold G.ok at *;rw [h.w,h.h];exact k
theorem But.oct {g g':G} {x y:Int} (h:But g g' x y) (a b:Nat):g'.oct a b=g.oct a b:=by unfold G.oct;rw [h.X,h.X,h.Y,h.Y]
theorem But.to {g g':G} {x y:Int} (h:But g g' x y) (a d:Nat):g'.to a d=g.to a d:=by unfold G.to G.toI;rw [h.w]
end G
end FR
namespace FR
theorem bool_of (P:Nat→Prop):∃f:Nat→Bool,∀u,f u=true↔P u:=⟨fun u=>@decide (P u) (Classical.propDecidable _),fun u=>by simp⟩
def Nearer (E:Nat→Nat→C→Prop) (fr:Nat) (c:C) (f:Nat→Bool):Prop:=∀u,f u=true↔∃d,Dist E fr u d∧C.lt d c
theorem cntN_lt {p q:Nat→Bool} {n m:Nat} (h:∀k,p k=true→q k=true) (hm:m<n) (h1:p m=false) (h2:q m=true):cntN p n+1≤cntN q n:=by
 unfold cntN
 refine sumN_lt n (fun k _=>?_) ⟨m,hm,by rw [h1,h2];decide⟩
 cases hp:p k with
 | false=>simp
 | true=>rw [h k hp];simp
theorem dist_bd {E : Nat → Nat → C → Prop} (hE : ∀ a b c, E a b c → C.Nn c) (hz : ∀ a b c, E a b c → c ≠ C.zero) {M N : Nat} (hM : ∀ a b c, E a b c → C.le c ⟨0, (M : Int)⟩) (hN : ∀ a b c, E a b c → b < N) {fr : Nat} (hf : fr < N) :
    ∀(k:Nat) {t:Nat} {c:C} (f:Nat→Bool),Nearer E fr c f→Dist E fr t c→cntN f N≤k→C.le c ⟨0,((M*k:Nat):Int)⟩:=by
 intro k
 induction k using Nat.strongRecOn with
 | _ k ih=>
  intro t c f hff h hk
  rcases h.1.inv with ⟨_,e⟩ | ⟨m,d,e,h1,h2,h3⟩
  ·rw [e];exact C.nn_le ⟨Int.le_refl 0,by simp only;omega⟩
  ·have hD : Dist E fr m d := ⟨h1, fun d' hd' => by
     have:=h.2 _ (hd'.snoc h2);rw [h3] at this;exact (C.add_le_right _).1 this⟩
   have hlt:C.lt d c:=by rw [h3];exact C.lt_add_step (hE _ _ _ h2) (hz _ _ _ h2)
   have hm:m<N:=by
    rcases h1.inv with ⟨e,_⟩ | ⟨_,_,_,_,he,_⟩
    ·rw [e];exact hf
    ·exact hN _ _ _ he
   obtain ⟨f2,hf2⟩:=bool_of (fun u=>∃x,Dist E fr u x∧C.lt x d)
   have hc:cntN f2 N+1≤cntN f N:=by
    refine cntN_lt (m:=m) (fun u hu=>?_) hm ?_ ?_
    ·obtain ⟨x,x1,x2⟩:=(hf2 u).1 hu
     exact (hff u).2 ⟨x,x1,C.lt_trans x2 hlt⟩
    ·cases hq:f2 m with
     | false=>rfl
     | true=>
      obtain ⟨x,x1,x2⟩:=(hf2 m).1 hq;rw [hD.unique x1] at x2;exact absurd x2 (C.lt_irrefl _)
    ·exact (hff m).2 ⟨d,hD,hlt⟩
   have hi:=ih (cntN f2 N) (by omega) f2 hf2 hD (Nat.le_refl _)
   rw [h3]
   refine C.le_trans (C.add_le_add hi (hM _ _ _ h2)) (C.le_of_parts (by simp [C.add]) ?_)
   simp only [C.add]
   have e1:M*(cntN f2 N+1)≤M*k:=Nat.mul_le_mul_left M (by omega)
   rw [Nat.mul_succ] at e1;omega
theorem dist_parts {E : Nat → Nat → C → Prop} (hE : ∀ a b c, E a b c → C.Nn c) (hz : ∀ a b c, E a b c → c ≠ C.zero) {M N : Nat} (hM : ∀ a b c, E a b c → C.le c ⟨0, (M : Int)⟩) (hN : ∀ a b c, E a b c → b < N) {fr : Nat} (hf : fr < N) {t : Nat} {c : C} (h : Dist E fr t c) :
    0≤c.s∧c.s≤2*(M*N:Nat)∧0≤c.d∧c.d≤2*(M*N:Nat):=by
 obtain ⟨f,hff⟩:=bool_of (fun u=>∃x,Dist E fr u x∧C.lt x c)
 have h1:=dist_bd hE hz hM hN hf N f hff h (cntN_le _ _);have hn:=h.1.nn hE
 have:=C.parts_le' hn ⟨Int.le_refl 0,by simp only;omega⟩ h1
 simp only at this;obtain ⟨a,b⟩:=hn;omega
theorem G.dist_small {g:G} (hg:g.ok) {a t:Nat} {c:C} (ha:a<g.n) (h:Dist g.E a t c):0≤c.s∧c.s≤512∧0≤c.d∧c.d≤512:=by
 have hn:=G.n_le hg
 have:=dist_parts (M:=1) (N:=g.n) (fun _ _ _=>G.E_nn) (fun _ _ c hc=>by
  obtain ⟨_,d,_,_,_,e⟩:=hc
  rw [e];unfold stepC C.zero;split <;> simp) (fun _ _ c hc=>by
  obtain ⟨_,d,_,_,_,e⟩:=hc
  rw [e];unfold stepC;split <;> decide) (fun _ _ _=>G.E_lt) ha h
 omega
end FR
namespace FR
open Classical
structure LS where
 lev:Nat→Nat
 eg:Nat→Nat→Option (C×Int)
namespace LS
def Lf (S:LS) (x y:Nat) (c:C):Prop:=S.lev x=0∧S.lev y=0∧∃m,S.eg x y=some (c,m)
def Lw (S:LS) (n x y:Nat) (c:C):Prop:=S.Lf x y c∧x≠n∧y≠n
def cost (S:LS) (x y:Nat):C:=match S.eg x y with | some (c,_)=>c | none=>C.zero
def Need (S:LS) (n a b:Nat):Prop:=¬ ∃c,Walk (S.Lw n) a b c∧C.le c (C.add (S.cost n a) (S.cost n b))
noncomputable def nb (S:LS) (N n:Nat):List Nat:=(List.range N).filter fun t=>decide ((S.eg n t).isSome=true∧S.lev t=0)
def pairsL:List Nat→List (Nat×Nat)
 | []=>[]
 | a :: l=>l.map (fun b=>(a,b)) ++ pairsL l
noncomputable def more (S:LS) (N n:Nat):List (Nat×Nat):=(pairsL (S.nb N n)).filter fun p=>decide (S.Need n p.1 p.2)
noncomputable def pass (S:LS) (N n top:Nat):LS where
 lev:=upd S.lev n top
 eg:=fun x y=>if (x,y)∈S.more N n∨(y,x)∈S.more N n then some (C.add (S.cost n x) (S.cost n y),(n:Int)) else S.eg x y
end LS
structure RS where
 S:LS
 near:Nat→Bool
 some_:Bool
namespace RS
noncomputable def step (N top:Nat) (R:RS) (n:Nat):RS:=
 if R.S.lev n≠0∨R.near n=true then R
 else if (R.S.nb N n).length<(R.S.more N n).length then R
 else ⟨R.S.pass N n top,fun t=>R.near t || decide (t∈R.S.nb N n),true⟩
noncomputable def run (N top:Nat) (nodes:List Nat) (S:LS):RS:=nodes.foldl (step N top) ⟨S,fun _=>false,false⟩
end RS
namespace LS
noncomputable def rounds (N:Nat) (nodes:List Nat):Nat→Nat→LS→LS×Nat
 | 0,top,S=>(S,top)
 | k+1,top,S=>if (RS.run N top nodes S).some_=true then rounds N nodes k (top+1) (RS.run N top nodes S).S else ((RS.run N top nodes S).S,top)
def close (S:LS) (nodes:List Nat) (top:Nat):LS where
 lev:=fun n=>if n∈nodes∧S.lev n=0 then top else S.lev n
 eg:=S.eg
theorem mem_nb {S:LS} {N n t:Nat}:t∈S.nb N n↔t<N∧(S.eg n t).isSome=true∧S.lev t=0:=by
 unfold nb;simp
theorem nb_sorted (S:LS) (N n:Nat):(S.nb N n).Pairwise (· < ·):=List.Pairwise.filter _ List.pairwise_lt_range
theorem mem_pairsL:∀ {l:List Nat},l.Pairwise (· < ·)→∀ {a b:Nat},(a,b)∈pairsL l↔a∈l∧b∈l∧a<b
 | [],_,a,b=>by simp [pairsL]
 | x :: l,h,a,b=>by
  rw [List.pairwise_cons] at h;unfold pairsL;rw [List.mem_append,mem_pairsL h.2]
  constructor
  ·rintro (q | ⟨q1,q2,q3⟩)
   ·rw [List.mem_map] at q
    obtain ⟨y,hy,e⟩:=q
    injection e with e1 e2
    subst e1;subst e2
    exact ⟨by simp,by simp [hy],h.1 _ hy⟩
   ·exact ⟨by simp [q1],by simp [q2],q3⟩
  ·rintro ⟨q1,q2,q3⟩
   rcases List.mem_cons.1 q1 with r1 | r1
   ·rcases List.mem_cons.1 q2 with r2 | r2
    ·omega
    ·exact .inl (List.mem_map.2 ⟨b,r2,by rw [r1]⟩)
   ·rcases List.mem_cons.1 q2 with r2 | r2
    ·have:=h.1 a r1;omega
    ·exact .inr ⟨r1,r2,q3⟩
theorem mem_more {S:LS} {N n a b:Nat}:(a,b)∈S.more N n↔a∈S.nb N n∧b∈S.nb N n∧a<b∧S.Need n a b:=by
 unfold more;rw [List.mem_filter,mem_pairsL (nb_sorted S N n)];simp [and_assoc]
theorem need_symm {S:LS} (hs:∀x y,S.eg x y=S.eg y x) {n a b:Nat}:S.Need n a b↔S.Need n b a:=by
 have key:∀a b,S.Need n a b→S.Need n b a:=by
  rintro a b h ⟨c,h1,h2⟩
  refine h ⟨c,Walk.rev (E:=S.Lw n) (fun x y c ⟨⟨q1,q2,m,q3⟩,q4,q5⟩=>⟨⟨q2,q1,m,by rw [hs];exact q3⟩,q5,q4⟩) h1,?_⟩
  rw [C.add_comm];exact h2
 exact ⟨key a b,key b a⟩
theorem cost_eq {S:LS} {x y:Nat} {c:C} {m:Int} (h:S.eg x y=some (c,m)):S.cost x y=c:=by unfold cost;rw [h]
theorem pass_eg {S : LS} (hs : ∀ x y, S.eg x y = S.eg y x) {N n top x y : Nat} :
    (S.pass N n top).eg x y=if x∈S.nb N n∧y∈S.nb N n∧x≠y∧S.Need n x y then some (C.add (S.cost n x) (S.cost n y),(n:Int)) else S.eg x y:=by
 unfold pass;simp only [mem_more]
 by_cases h:x∈S.nb N n∧y∈S.nb N n∧x≠y∧S.Need n x y
 ·rw [if_pos h]
  obtain ⟨h1,h2,h3,h4⟩:=h
  rcases Nat.lt_or_gt_of_ne h3 with q | q
  ·rw [if_pos (.inl ⟨h1,h2,q,h4⟩)]
  ·rw [if_pos (.inr ⟨h2,h1,q,(need_symm hs).1 h4⟩)]
 ·rw [if_neg h,if_neg]
  rintro (⟨h1,h2,h3,h4⟩ | ⟨h1,h2,h3,h4⟩)
  ·exact h ⟨h1,h2,by omega,h4⟩
  ·exact h ⟨h2,h1,by omega,(need_symm hs).1 h4⟩
def Up (S:LS) (x y:Nat) (c:C):Prop:=S.lev x≠0∧(S.lev y=0∨S.lev x<S.lev y)∧∃m,S.eg x y=some (c,m)
def UD (S:LS) (s t:Nat) (c:C):Prop:=
 (∃m c1 c2,Walk S.Up s m c1∧Walk S.Up t m c2∧C.le (C.add c1 c2) c) ∨
 ∃p q c1 c0 c2,Walk S.Up s p c1∧Walk S.Lf p q c0∧Walk S.Up t q c2∧S.lev p=0∧S.lev q=0∧C.le (C.add (C.add c1 c0) c2) c
structure Inv (g:FR.G) (N top K:Nat) (S:LS) (nr:Nat→Bool):Prop where
 nN:g.n≤N
 pos:0<top
 corner:∀a b,S.eg a b≠none→g.Corner a∧g.Corner b∧a≠b
 symm:∀a b,S.eg a b=S.eg b a
 orig:∀a b c m,S.eg a b=some (c,m)→m<0→m = -1∧g.GE a b c
 sum:∀a b c m,S.eg a b=some (c,m)→0≤m→∃k:Nat,m=k∧S.lev k≠0∧(S.lev a=0∨S.lev k<S.lev a)∧(S.lev b=0∨S.lev k<S.lev b) ∧
  ∃c1 m1 c2 m2,S.eg a k=some (c1,m1)∧S.eg k b=some (c2,m2)∧c=C.add c1 c2
 walk:∀a b c m,S.eg a b=some (c,m)→Walk g.GE a b c
 levs:∀a,S.lev a≤top
 apart:∀a b,S.eg a b≠none→S.lev a=S.lev b→S.lev a=0
 near:∀a b,S.eg a b≠none→S.lev a=top→S.lev b=0→nr b=true
 small:∀a b c m,S.eg a b=some (c,m)→0≤c.s∧c.s≤2*K∧0≤c.d∧c.d≤2*K∧(S.lev a=0→nr a=false→c.s≤K∧c.d≤K)
 keep:∀a b c,g.GE a b c→S.eg a b≠none
 ud:∀s t c,g.Corner s→g.Corner t→Walk g.GE s t c→S.UD s t c
theorem lf_symm {S:LS} (hs:∀x y,S.eg x y=S.eg y x):∀x y c,S.Lf x y c→S.Lf y x c:=fun x y c ⟨h1,h2,m,h3⟩=>⟨h2,h1,m,by rw [hs];exact h3⟩
section pass
variable {g:FR.G} {N top K:Nat} {S:LS} {near:Nat→Bool} (H:Inv g N top K S near) {n:Nat} (h0:S.lev n=0)
include H h0
theorem nb_of {x:Nat} {c:C} (h:S.Lf n x c):x∈S.nb N n:=by
 obtain ⟨_,h2,m,h3⟩:=h
 refine mem_nb.2 ⟨Nat.lt_of_lt_of_le ?_ H.nN,by rw [h3];rfl,h2⟩
 exact (H.corner n x (by rw [h3];simp)).2.1.1
theorem eg_self {x:Nat}:S.eg x x=none:=by
 cases h:S.eg x x with
 | none=>rfl
 | some _=>exact absurd rfl (H.corner x x (by rw [h];simp)).2.2
theorem pass_n {y:Nat}:(S.pass N n top).eg n y=S.eg n y:=by
 rw [pass_eg H.symm,if_neg];rintro ⟨h1,_⟩;have:=(mem_nb.1 h1).2.1;rw [eg_self H h0] at this
 cases this
theorem pass_le {x y:Nat} {c:C} (h:S.Lf x y c) (hx:x≠n) (hy:y≠n):∃c',(S.pass N n top).Lf x y c'∧C.le c' c:=by
 have lx:(S.pass N n top).lev x=0:=by show upd S.lev n top x=0;rw [upd_ne _ _ hx];exact h.1
 have ly:(S.pass N n top).lev y=0:=by show upd S.lev n top y=0;rw [upd_ne _ _ hy];exact h.2.1
 have e:=pass_eg (S:=S) H.symm (N:=N) (n:=n) (top:=top) (x:=x) (y:=y)
 by_cases hc:x∈S.nb N n∧y∈S.nb N n∧x≠y∧S.Need n x y
 ·rw [if_pos hc] at e
  refine ⟨_,⟨lx,ly,_,e⟩,?_⟩
  rcases C.le_total c (C.add (S.cost n x) (S.cost n y)) with q | q
  ·exact absurd ⟨c,Walk.single ⟨h,hx,hy⟩,q⟩ hc.2.2.2
  ·exact q
 ·rw [if_neg hc] at e
  obtain ⟨_,_,m,h3⟩:=h
  exact ⟨c,⟨lx,ly,m,by rw [e];exact h3⟩,C.le_refl _⟩
theorem pass_walk {x y:Nat} {c:C} (h:Walk (S.Lw n) x y c):∃c',Walk (S.pass N n top).Lf x y c'∧C.le c' c:=by
 induction h with
 | nil=>exact ⟨_,.nil _,C.le_refl _⟩
 | snoc _ he ih=>
  obtain ⟨c1,h1,h2⟩:=ih;obtain ⟨c2,h3,h4⟩:=pass_le H h0 he.1 he.2.1 he.2.2;exact ⟨_,h1.snoc h3,C.add_le_add h2 h4⟩
theorem pass_two {x y:Nat} {c1 c2:C} (hx:S.Lf n x c1) (hy:S.Lf n y c2) (hne:x≠y):∃c',Walk (S.pass N n top).Lf x y c'∧C.le c' (C.add c1 c2):=by
 have nx:=nb_of H h0 hx;have ny:=nb_of H h0 hy;obtain ⟨_,lx,mx,ex⟩:=hx;obtain ⟨_,ly,my,ey⟩:=hy
 have xn:x≠n:=by rintro rfl;rw [eg_self H h0] at ex;cases ex
 have yn:y≠n:=by rintro rfl;rw [eg_self H h0] at ey;cases ey
 by_cases hN:S.Need n x y
 ·have e:=pass_eg (S:=S) H.symm (N:=N) (n:=n) (top:=top) (x:=x) (y:=y)
  rw [if_pos ⟨nx,ny,hne,hN⟩,cost_eq ex,cost_eq ey] at e;refine ⟨_,Walk.single ⟨?_,?_,_,e⟩,C.le_refl _⟩
  ·show upd S.lev n top x=0;rw [upd_ne _ _ xn];exact lx
  ·show upd S.lev n top y=0;rw [upd_ne _ _ yn];exact ly
 ·unfold Need at hN
  obtain ⟨c,h1,h2⟩:=Classical.not_not.1 hN;rw [cost_eq ex,cost_eq ey] at h2;obtain ⟨c',h3,h4⟩:=pass_walk H h0 h1;exact ⟨c',h3,C.le_trans h4 h2⟩
theorem pass_all {a b : Nat} {c : C} (h : Walk S.Lf a b c) (ha : a ≠ n) :
    (b≠n→∃c',Walk (S.pass N n top).Lf a b c'∧C.le c' c)∧(b=n→∃x c1 e,Walk (S.pass N n top).Lf a x c1∧x≠n∧S.Lf x n e∧C.le (C.add c1 e) c):=by
 induction h with
 | nil=>exact ⟨fun _=>⟨_,.nil _,C.le_refl _⟩,fun e=>absurd e ha⟩
 | @snoc m b d e hw he ih=>
  have hnn:C.Nn e:=by
   obtain ⟨_,_,k,hk⟩:=he;have:=H.small _ _ _ _ hk;exact ⟨this.1,this.2.2.1⟩
  by_cases hm:m=n
  ·subst hm
   obtain ⟨x,c1,e1,h1,h2,h3,h4⟩:=ih.2 rfl
   have hb:b≠m:=by
    rintro rfl;obtain ⟨_,_,k,hk⟩:=he;rw [eg_self H h0] at hk;cases hk
   refine ⟨fun _=>?_,fun e=>absurd e hb⟩
   by_cases hxb:x=b
   ·subst hxb
    refine ⟨c1,h1,C.le_trans (C.le_trans (C.le_add_self ?_) h4) (C.le_add_self hnn)⟩;obtain ⟨_,_,k,hk⟩:=h3;have:=H.small _ _ _ _ hk;exact ⟨this.1,this.2.2.1⟩
   ·obtain ⟨c2,h5,h6⟩:=pass_two H h0 (lf_symm H.symm _ _ _ h3) he hxb
    refine ⟨_,h1.trans h5,?_⟩;refine C.le_trans (C.add_le_add (C.le_refl c1) h6) ?_;rw [←C.add_assoc];exact C.add_le_add h4 (C.le_refl _)
  ·obtain ⟨c1,h1,h2⟩:=ih.1 hm
   refine ⟨fun hb=>?_,fun hb=>?_⟩
   ·obtain ⟨c2,h3,h4⟩:=pass_le H h0 he hm hb
    exact ⟨_,h1.snoc h3,C.add_le_add h2 h4⟩
   ·subst hb
    exact ⟨m,c1,e,h1,hm,he,C.add_le_add h2 (C.le_refl _)⟩
theorem pass_up {x y:Nat} {c:C} (htop:∀y,S.eg n y≠none→S.lev y≠top) (h:Walk S.Up x y c):Walk (S.pass N n top).Up x y c:=by
 refine Walk.mono (fun a b c ⟨h1,h2,m,h3⟩=>?_) h
 have ha:a≠n:=by rintro rfl;exact h1 h0
 have e:(S.pass N n top).eg a b=some (c,m):=by
  rw [pass_eg H.symm,if_neg]
  ·exact h3
  ·rintro ⟨q,_⟩;exact h1 (mem_nb.1 q).2.2
 have la:(S.pass N n top).lev a=S.lev a:=upd_ne _ _ ha
 refine ⟨by rw [la];exact h1,?_,m,e⟩
 rw [la]
 by_cases hb:b=n
 ·subst hb
  right
  show S.lev a<upd S.lev b top b
  rw [upd_same];have l1:=H.levs a
  have:S.lev a≠top:=htop a (by rw [H.symm,h3];simp)
  omega
 ·have lb:(S.pass N n top).lev b=S.lev b:=upd_ne _ _ hb
  rw [lb];exact h2
theorem walk_nn {a b:Nat} {c:C} (h:Walk S.Lf a b c):C.Nn c:=by
 refine h.nn fun a b c ⟨_,_,m,hm⟩=>?_
 have:=H.small _ _ _ _ hm;exact ⟨this.1,this.2.2.1⟩
theorem up_of {x:Nat} {e:C} (htop:∀y,S.eg n y≠none→S.lev y≠top) (h:S.Lf x n e):(S.pass N n top).Up n x e∧(S.pass N n top).lev x=0:=by
 obtain ⟨h1,h2,m,h3⟩:=h
 have hx:x≠n:=by rintro rfl;rw [eg_self H h0] at h3;cases h3
 have lx:(S.pass N n top).lev x=0:=by show upd S.lev n top x=0;rw [upd_ne _ _ hx];exact h1
 refine ⟨⟨?_,.inl lx,m,by rw [pass_n H h0,H.symm];exact h3⟩,lx⟩
 show upd S.lev n top n≠0
 rw [upd_same];have:=H.pos;omega
theorem pass_ud {s t:Nat} {c:C} (htop:∀y,S.eg n y≠none→S.lev y≠top) (h:S.UD s t c):(S.pass N n top).UD s t c:=by
 rcases h with ⟨m,c1,c2,h1,h2,h3⟩ | ⟨p,q,c1,d,c2,h1,h2,h3,lp,lq,h4⟩
 ·exact .inl ⟨m,c1,c2,pass_up H h0 htop h1,pass_up H h0 htop h2,h3⟩
 ·have u1:=pass_up H h0 htop h1
  have u2:=pass_up H h0 htop h3
  by_cases hp:p=n
  ·subst hp
   by_cases hq:q=p
   ·subst hq
    refine .inl ⟨_,c1,c2,u1,u2,C.le_trans (C.add_le_add ?_ (C.le_refl _)) h4⟩;exact C.le_add_self (walk_nn H h0 h2)
   ·obtain ⟨x,d1,e,k1,k2,k3,k4⟩:=(pass_all H h0 (Walk.rev (E:=S.Lf) (lf_symm H.symm) h2) hq).2 rfl
    obtain ⟨k5,k6⟩:=up_of H h0 htop k3
    have lq':(S.pass N p top).lev q=0:=by show upd S.lev p top q=0;rw [upd_ne _ _ hq];exact lq
    have hs':∀x y,(S.pass N p top).eg x y=(S.pass N p top).eg y x:=fun x y=>by
     rw [pass_eg H.symm,pass_eg H.symm,H.symm x y,C.add_comm]
     by_cases hh:x∈S.nb N p∧y∈S.nb N p∧x≠y∧S.Need p x y
     ·rw [if_pos hh,if_pos ⟨hh.2.1,hh.1,Ne.symm hh.2.2.1,(need_symm H.symm).1 hh.2.2.2⟩]
     ·rw [if_neg hh,if_neg (fun k=>hh ⟨k.2.1,k.1,Ne.symm k.2.2.1,(need_symm H.symm).1 k.2.2.2⟩)]
    refine .inr ⟨x,q,C.add c1 e,d1,c2,u1.snoc k5,Walk.rev (E:=(S.pass N p top).Lf) (lf_symm hs') k1,u2,k6,lq',?_⟩;refine C.le_trans (C.add_le_add ?_ (C.le_refl _)) h4;rw [C.add_assoc,C.add_comm e];exact C.add_le_add (C.le_refl _) k4
  ·have lp':(S.pass N n top).lev p=0:=by show upd S.lev n top p=0;rw [upd_ne _ _ hp];exact lp
   by_cases hq:q=n
   ·subst hq
    obtain ⟨x,d1,e,k1,k2,k3,k4⟩:=(pass_all H h0 h2 hp).2 rfl;obtain ⟨k5,k6⟩:=up_of H h0 htop k3;refine .inr ⟨p,x,c1,d1,C.add c2 e,u1,k1,u2.snoc k5,lp',k6,?_⟩;refine C.le_trans ?_ h4;rw [C.add_comm c2,←C.add_assoc,C.add_assoc c1];exact C.add_le_add (C.add_le_add (C.le_refl _) k4) (C.le_refl _)
   ·obtain ⟨d1,k1,k2⟩:=(pass_all H h0 h2 hp).1 hq
    have lq':(S.pass N n top).lev q=0:=by show upd S.lev n top q=0;rw [upd_ne _ _ hq];exact lq
    exact .inr ⟨p,q,c1,d1,c2,u1,k1,u2,lp',lq',C.le_trans (C.add_le_add (C.add_le_add (C.le_refl _) k2) (C.le_refl _)) h4⟩
theorem pass_inv (hn:near n=false) (hc:g.Corner n):Inv g N top K (S.pass N n top) (fun t=>near t || decide (t∈S.nb N n)):=by
 have htop:∀y,S.eg n y≠none→S.lev y≠top:=fun y hy hl=>by
  have:=H.near y n (by rw [H.symm];exact hy) hl h0
  rw [hn] at this;cases this
 have nbf:∀x,x∈S.nb N n→∃c m,S.eg n x=some (c,m)∧S.lev x=0∧x≠n∧c.s≤K∧c.d≤K∧0≤c.s∧0≤c.d∧S.cost n x=c:=by
  intro x hx;obtain ⟨h1,h2,h3⟩:=mem_nb.1 hx
  cases he:S.eg n x with
  | none=>rw [he] at h2;cases h2
  | some cm=>
   obtain ⟨c,m⟩:=cm;obtain ⟨a1,a2,a3,a4,a5⟩:=H.small _ _ _ _ he;obtain ⟨a6,a7⟩:=a5 h0 hn
   exact ⟨c,m,rfl,h3,(by rintro rfl;rw [eg_self H h0] at he;cases he),a6,a7,a1,a3,cost_eq he⟩
 have lv:∀x,(S.pass N n top).lev x=upd S.lev n top x:=fun _=>rfl
 have hpos:=H.pos
 have old:∀a b c m,(S.pass N n top).eg a b=some (c,m)→(S.eg a b=some (c,m)∧(¬(a∈S.nb N n∧b∈S.nb N n∧a≠b∧S.Need n a b)))∨(a∈S.nb N n∧b∈S.nb N n∧a≠b∧S.Need n a b∧c=C.add (S.cost n a) (S.cost n b)∧m=n):=by
  intro a b c m h;rw [pass_eg H.symm] at h
  split at h
  ·rename_i q
   injection h with h
   injection h with e1 e2
   exact .inr ⟨q.1,q.2.1,q.2.2.1,q.2.2.2,e1.symm,e2.symm⟩
  ·rename_i q
   exact .inl ⟨h,q⟩
 have old':∀a b,(S.pass N n top).eg a b≠none→S.eg a b≠none∨(a∈S.nb N n∧b∈S.nb N n∧a≠b):=by
  intro a b h
  cases he:(S.pass N n top).eg a b with
  | none=>exact absurd he h
  | some cm=>
   rcases old a b cm.1 cm.2 he with q | q
   ·exact .inl (by rw [q.1];simp)
   ·exact .inr ⟨q.1,q.2.1,q.2.2.1⟩
 refine ⟨H.nN,H.pos,?_,?_,?_,?_,?_,?_,?_,?_,?_,?_,fun s t c hs ht hw=>pass_ud H h0 htop (H.ud s t c hs ht hw)⟩
 ·intro a b h
  rcases old' a b h with q | ⟨q1,q2,q3⟩
  ·exact H.corner a b q
  ·obtain ⟨c1,m1,e1,_⟩:=nbf a q1
   obtain ⟨c2,m2,e2,_⟩:=nbf b q2
   exact ⟨(H.corner n a (by rw [e1];simp)).2.1,(H.corner n b (by rw [e2];simp)).2.1,q3⟩
 ·intro x y
  rw [pass_eg H.symm,pass_eg H.symm,H.symm x y,C.add_comm]
  by_cases hh:x∈S.nb N n∧y∈S.nb N n∧x≠y∧S.Need n x y
  ·rw [if_pos hh,if_pos ⟨hh.2.1,hh.1,Ne.symm hh.2.2.1,(need_symm H.symm).1 hh.2.2.2⟩]
  ·rw [if_neg hh,if_neg (fun k=>hh ⟨k.2.1,k.1,Ne.symm k.2.2.1,(need_symm H.symm).1 k.2.2.2⟩)]
 ·intro a b c m h hm
  rcases old a b c m h with ⟨q,_⟩ | ⟨_,_,_,_,_,q⟩
  ·exact H.orig a b c m q hm
  ·omega
 ·intro a b c m h hm
  rcases old a b c m h with ⟨q,_⟩ | ⟨q1,q2,q3,q4,q5,q6⟩
  ·obtain ⟨k,e1,e2,e3,e4,c1,m1,c2,m2,e5,e6,e7⟩:=H.sum a b c m q hm
   have kn:k≠n:=by rintro rfl;exact e2 h0
   have ka:k∉S.nb N n:=fun hh=>e2 (mem_nb.1 hh).2.2
   have lk:(S.pass N n top).lev k=S.lev k:=upd_ne _ _ kn
   have up:∀a c1 m1,S.eg a k=some (c1,m1)→(S.lev a=0∨S.lev k<S.lev a)→((S.pass N n top).lev a=0∨(S.pass N n top).lev k<(S.pass N n top).lev a):=by
    intro a c1 m1 he hl;rw [lk,lv]
    by_cases e:a=n
    ·subst e
     rw [upd_same]
     right
     have:=H.levs k
     have:=htop k (by rw [he];simp)
     omega
    ·rw [upd_ne _ _ e];exact hl
   refine ⟨k,e1,by rw [lk];exact e2,up a c1 m1 e5 e3,up b c2 m2 (by rw [H.symm];exact e6) e4,c1,m1,c2,m2,?_,?_,e7⟩
   ·rw [pass_eg H.symm,if_neg (fun hh=>ka hh.2.1)];exact e5
   ·rw [pass_eg H.symm,if_neg (fun hh=>ka hh.1)];exact e6
  ·obtain ⟨c1,m1,e1,l1,n1,_,_,_,_,k1⟩:=nbf a q1
   obtain ⟨c2,m2,e2,l2,n2,_,_,_,_,k2⟩:=nbf b q2
   refine ⟨n,q6,by rw [lv,upd_same];omega,.inl (by rw [lv,upd_ne _ _ n1];exact l1),.inl (by rw [lv,upd_ne _ _ n2];exact l2),c1,m1,c2,m2,?_,?_,by rw [q5,k1,k2]⟩
   ·rw [pass_eg H.symm,if_neg (fun hh=>(nbf n hh.2.1).elim fun _ q=>q.elim fun _ q=>q.2.2.1 rfl),H.symm];exact e1
   ·rw [pass_n H h0];exact e2
 ·intro a b c m h
  rcases old a b c m h with ⟨q,_⟩ | ⟨q1,q2,q3,q4,q5,q6⟩
  ·exact H.walk a b c m q
  ·obtain ⟨c1,m1,e1,l1,n1,_,_,_,_,k1⟩:=nbf a q1
   obtain ⟨c2,m2,e2,l2,n2,_,_,_,_,k2⟩:=nbf b q2;rw [q5,k1,k2]
   exact (H.walk a n c1 m1 (by rw [H.symm];exact e1)).trans (H.walk n b c2 m2 e2)
 ·intro a
  rw [lv]
  by_cases e:a=n
  ·subst e;rw [upd_same];exact Nat.le_refl _
  ·rw [upd_ne _ _ e];exact H.levs a
 ·intro a b h hl
  rw [lv,lv] at hl;rw [lv]
  have key:∀y,(S.pass N n top).eg n y≠none→y≠n→S.lev y≠top:=fun y hy _=>htop y (by rw [pass_n H h0] at hy;exact hy)
  have hsy:(S.pass N n top).eg b a≠none:=by
   rw [pass_eg H.symm];rw [pass_eg H.symm] at h
   by_cases hh:a∈S.nb N n∧b∈S.nb N n∧a≠b∧S.Need n a b
   ·rw [if_pos ⟨hh.2.1,hh.1,Ne.symm hh.2.2.1,(need_symm H.symm).1 hh.2.2.2⟩];simp
   ·rw [if_neg hh] at h
    rw [if_neg (fun k=>hh ⟨k.2.1,k.1,Ne.symm k.2.2.1,(need_symm H.symm).1 k.2.2.2⟩),H.symm];exact h
  by_cases ea:a=n
  ·by_cases eb:b=n
   ·subst ea;subst eb
    rw [pass_n H h0,eg_self H h0] at h;exact absurd rfl h
   ·subst ea
    rw [upd_same,upd_ne _ _ eb] at hl;exact absurd hl.symm (key b h eb)
  ·by_cases eb:b=n
   ·subst eb
    rw [upd_same,upd_ne _ _ ea] at hl;exact absurd hl (key a hsy ea)
   ·rw [upd_ne _ _ ea,upd_ne _ _ eb] at hl
    rw [upd_ne _ _ ea]
    rcases old' a b h with q | ⟨q1,q2,_⟩
    ·exact H.apart a b q hl
    ·exact (mem_nb.1 q1).2.2
 ·intro a b h hl hl2
  rw [lv] at hl hl2
  show (near b || decide (b∈S.nb N n))=true
  have eb:b≠n:=by rintro rfl;rw [upd_same] at hl2;omega
  rw [upd_ne _ _ eb] at hl2
  by_cases ea:a=n
  ·subst ea
   rw [pass_n H h0] at h
   have:b∈S.nb N a:=by
    refine mem_nb.2 ⟨Nat.lt_of_lt_of_le (H.corner a b h).2.1.1 H.nN,?_,hl2⟩
    cases he:S.eg a b with
    | none=>exact absurd he h
    | some _=>rfl
   simp [this]
  ·rw [upd_ne _ _ ea] at hl
   rcases old' a b h with q | ⟨q1,q2,_⟩
   ·rw [H.near a b q hl hl2];rfl
   ·simp [q2]
 ·intro a b c m h
  rcases old a b c m h with ⟨q,hq⟩ | ⟨q1,q2,q3,q4,q5,q6⟩
  ·obtain ⟨a1,a2,a3,a4,a5⟩:=H.small a b c m q
   refine ⟨a1,a2,a3,a4,fun hl hnr=>?_⟩
   simp only [Bool.or_eq_false_iff] at hnr
   have ea:a≠n:=by rintro rfl;rw [lv,upd_same] at hl;omega
   rw [lv,upd_ne _ _ ea] at hl;exact a5 hl hnr.1
  ·obtain ⟨c1,m1,e1,l1,n1,s1,s2,s3,s4,k1⟩:=nbf a q1
   obtain ⟨c2,m2,e2,l2,n2,t1,t2,t3,t4,k2⟩:=nbf b q2;rw [q5,k1,k2];simp only [C.add]
   refine ⟨by omega,by omega,by omega,by omega,fun _ hnr=>?_⟩
   simp [q1] at hnr
 ·intro a b c h
  rw [pass_eg H.symm]
  split
  ·simp
  ·exact H.keep a b c h
end pass
end LS
end FR
namespace FR
open Classical
namespace LS
noncomputable def first (g:FR.G):LS where
 lev:=fun _=>0
 eg:=fun a b=>if g.GE a b (g.oct a b) then some (g.oct a b,-1) else none
theorem first_eg {g:FR.G} {a b:Nat} {c:C} {m:Int} (h:(first g).eg a b=some (c,m)):g.GE a b c∧c=g.oct a b∧m = -1:=by
 unfold first at h
 simp only at h
 split at h
 ·rename_i q;injection h with h;injection h with e1 e2;subst e1;subst e2;exact ⟨q,rfl,rfl⟩
 ·cases h
theorem GE_oct {g:FR.G} {a b:Nat} {c:C} (h:g.GE a b c):g.GE a b (g.oct a b):=⟨h.1,h.2.1,h.2.2.1,h.2.2.2.1,rfl⟩
theorem first_of {g:FR.G} {a b:Nat} {c:C} (h:g.GE a b c):(first g).eg a b=some (c,-1):=by
 unfold first
 simp only;rw [if_pos (GE_oct h),h.2.2.2.2]
theorem first_inv {g:FR.G} (hg:g.ok) (N:Nat) (hN:g.n≤N):Inv g N 1 15 (first g) (fun _=>false):=by
 have hne:∀ {a b},(first g).eg a b≠none→g.GE a b (g.oct a b):=fun {a b} h=>by
  cases he:(first g).eg a b with
  | none=>exact absurd he h
  | some cm=>obtain ⟨q1,q2,_⟩:=first_eg (c:=cm.1) (m:=cm.2) he;rw [←q2];exact q1
 refine ⟨hN,by omega,fun a b h=>?_,fun a b=>?_,fun a b c m h _=>?_,fun a b c m h hm=>?_,fun a b c m h=>Walk.single (first_eg h).1,fun _=>Nat.zero_le _,fun _ _ _ _=>rfl,fun a b _ h=>?_,fun a b c m h=>?_,fun a b c h=>by rw [first_of h];simp,fun s t c hs ht hw=>?_⟩
 ·exact ⟨(hne h).1,(hne h).2.1,(hne h).2.2.1⟩
 ·unfold first
  simp only
  by_cases h:g.GE a b (g.oct a b)
  ·rw [if_pos h,if_pos (GE_oct (G.GE_symm h)),G.oct_symm]
  ·rw [if_neg h,if_neg (fun k=>h (GE_oct (G.GE_symm k)))]
 ·exact ⟨(first_eg h).2.2,(first_eg h).1⟩
 ·have:=(first_eg h).2.2;omega
 ·exact absurd h (by show (0:Nat)≠1;omega)
 ·obtain ⟨q,e,_⟩:=first_eg h
  have hnn:=G.GE_nn q;have ha:=(q.1).1;have hb:=(q.2.1).1;have x1:=G.X_lt hg a;have x2:=G.X_lt hg b;have y1:=G.Y_lt ha;have y2:=G.Y_lt hb;have w1:=hg.2.1;have h1:=hg.2.2.2
  have k:c.s≤15∧c.d≤15:=by
   rw [e];unfold G.oct octI
   split <;> (simp only;omega)
  obtain ⟨n1,n2⟩:=hnn
  exact ⟨n1,by omega,n2,by omega,fun _ _=>by exact ⟨by omega,by omega⟩⟩
 ·refine .inr ⟨s,t,C.zero,c,C.zero,.nil _,?_,.nil _,rfl,rfl,?_⟩
  ·exact Walk.mono (fun a b c h=>⟨rfl,rfl,-1,first_of h⟩) hw
  ·rw [C.zero_add,C.add_zero];exact C.le_refl _
theorem Inv.next {g:FR.G} {N top K:Nat} {S:LS} {nr:Nat→Bool} (H:Inv g N top K S nr):Inv g N (top+1) (2*K) S (fun _=>false):=by
 refine ⟨H.nN,by omega,H.corner,H.symm,H.orig,H.sum,H.walk,fun a=>Nat.le_succ_of_le (H.levs a),H.apart,fun a b _ h=>?_,fun a b c m h=>?_,H.keep,H.ud⟩
 ·have:=H.levs a;omega
 ·obtain ⟨h1,h2,h3,h4,_⟩:=H.small a b c m h
  refine ⟨h1,?_,h3,?_,fun _ _=>⟨?_,?_⟩⟩ <;> omega
theorem step_inv {g:FR.G} {N top K:Nat} {R:RS} (H:Inv g N top K R.S R.near) {n:Nat} (hn:g.Corner n):Inv g N top K (RS.step N top R n).S (RS.step N top R n).near:=by
 unfold RS.step
 split
 ·exact H
 ·rename_i h
  split
  ·exact H
  ·have h0 : R.S.lev n = 0 := by
     apply Classical.byContradiction;intro k;exact h (.inl k)
   have h1:R.near n=false:=by
    cases k:R.near n with
    | false=>rfl
    | true=>exact absurd (.inr k) h
   exact pass_inv H h0 h1 hn
theorem fold_inv {g:FR.G} {N top K:Nat}:∀(l:List Nat) (R:RS),Inv g N top K R.S R.near→(∀n∈l,g.Corner n)→Inv g N top K (l.foldl (RS.step N top) R).S (l.foldl (RS.step N top) R).near
 | [],_,H,_=>H
 | n :: l,R,H,hl=>fold_inv l _ (step_inv H (hl n (by simp))) (fun m hm=>hl m (by simp [hm]))
theorem step_same {N top:Nat} {R:RS} {n:Nat} (h:(RS.step N top R n).some_=false):RS.step N top R n=R:=by
 unfold RS.step at *
 split
 ·rfl
 ·split
  ·rfl
  ·rename_i h1 h2
   rw [if_neg h1,if_neg h2] at h
   cases h
theorem fold_same {N top:Nat}:∀(l:List Nat) (R:RS),(l.foldl (RS.step N top) R).some_=false→l.foldl (RS.step N top) R=R
 | [],_,_=>rfl
 | n :: l,R,h=>by
  have h2:=fold_same l _ h;simp only [List.foldl_cons] at *;rw [h2];rw [h2] at h;exact step_same h
structure Fin (g:FR.G) (top:Nat) (S:LS):Prop where
 pos:0<top
 corner:∀a b,S.eg a b≠none→g.Corner a∧g.Corner b∧a≠b
 symm:∀a b,S.eg a b=S.eg b a
 orig:∀a b c m,S.eg a b=some (c,m)→m<0→m = -1∧g.GE a b c
 sum:∀a b c m,S.eg a b=some (c,m)→0≤m→∃k:Nat,m=k∧S.lev k<S.lev a∧S.lev k<S.lev b ∧
  ∃c1 m1 c2 m2,S.eg a k=some (c1,m1)∧S.eg k b=some (c2,m2)∧c=C.add c1 c2
 walk:∀a b c m,S.eg a b=some (c,m)→Walk g.GE a b c
 levs:∀a,g.Corner a→1≤S.lev a∧S.lev a≤top
 apart:∀a b,S.eg a b≠none→S.lev a=S.lev b→S.lev a=top
 small:∀a b c m,S.eg a b=some (c,m)→0≤c.s∧c.s≤2000∧0≤c.d∧c.d≤2000
 ud:∀s t c,g.Corner s→g.Corner t→Walk g.GE s t c→∃p q c1 c0 c2,
  Walk (fun x y c=>S.lev x<S.lev y∧∃m,S.eg x y=some (c,m)) s p c1∧Walk (fun x y c=>S.lev y=top∧∃m,S.eg x y=some (c,m)) p q c0 ∧
  Walk (fun x y c=>S.lev x<S.lev y∧∃m,S.eg x y=some (c,m)) t q c2∧C.le (C.add (C.add c1 c0) c2) c
theorem close_fin {g:FR.G} {N top K:Nat} {S:LS} {nr:Nat→Bool} (H:Inv g N top K S nr) (hlt:∀a,S.lev a<top) (nodes:List Nat) (hn:∀a,a∈nodes↔g.Corner a) (hK:K≤1000):Fin g top (S.close nodes top):=by
 have lv:∀a,g.Corner a→(S.close nodes top).lev a=if S.lev a=0 then top else S.lev a:=fun a ha=>by
  unfold close;simp only
  by_cases h:S.lev a=0
  ·rw [if_pos ⟨(hn a).2 ha,h⟩,if_pos h]
  ·rw [if_neg (fun k=>h k.2),if_neg h]
 have hup:∀x y,S.eg x y≠none→S.lev x≠0→(S.lev y=0∨S.lev x<S.lev y)→(S.close nodes top).lev x<(S.close nodes top).lev y:=by
  intro x y he h1 h2;obtain ⟨hx,hy,_⟩:=H.corner x y he;rw [lv x hx,lv y hy,if_neg h1];have:=hlt x
  split <;> omega
 have hpos:=H.pos;refine ⟨H.pos,H.corner,H.symm,H.orig,?_,H.walk,?_,?_,?_,?_⟩
 ·intro a b c m h hm
  obtain ⟨k,e1,e2,e3,e4,c1,m1,c2,m2,e5,e6,e7⟩:=H.sum a b c m h hm
  exact ⟨k,e1,hup k a (by rw [H.symm,e5];simp) e2 e3,hup k b (by rw [e6];simp) e2 e4,c1,m1,c2,m2,e5,e6,e7⟩
 ·intro a ha
  rw [lv a ha];have:=hlt a
  split <;> omega
 ·intro a b he hl
  obtain ⟨ha,hb,_⟩:=H.corner a b he;rw [lv a ha,lv b hb] at hl;rw [lv a ha];have h1:=hlt a;have h2:=hlt b
  split
  ·rfl
  ·rename_i h3
   rw [if_neg h3] at hl
   split at hl
   ·omega
   ·exact absurd (H.apart a b he hl) h3
 ·intro a b c m h
  obtain ⟨a1,a2,a3,a4,_⟩:=H.small a b c m h
  refine ⟨a1,?_,a3,?_⟩ <;> omega
 ·intro s t c hs ht hw
  have mono:∀ {x y c},Walk S.Up x y c→Walk (fun x y c=>(S.close nodes top).lev x<(S.close nodes top).lev y∧∃m,(S.close nodes top).eg x y=some (c,m)) x y c:=
   fun h=>Walk.mono (fun a b c ⟨h1,h2,m,h3⟩=>⟨hup a b (by rw [h3];simp) h1 h2,m,h3⟩) h
  rcases H.ud s t c hs ht hw with ⟨m,c1,c2,h1,h2,h3⟩ | ⟨p,q,c1,c0,c2,h1,h2,h3,_,_,h4⟩
  ·exact ⟨m,m,c1,C.zero,c2,mono h1,.nil _,mono h2,by rw [C.add_zero];exact h3⟩
  ·refine ⟨p,q,c1,c0,c2,mono h1,Walk.mono (fun a b c ⟨q1,q2,m,q3⟩=>⟨?_,m,q3⟩) h2,mono h3,h4⟩
   rw [lv b (H.corner a b (by rw [q3];simp)).2.1,if_pos q2]
theorem rounds_inv {g : FR.G} {N : Nat} (nodes : List Nat) (hn : ∀ n ∈ nodes, g.Corner n) : ∀ (k top K : Nat) (S : LS), Inv g N top K S (fun _ => false) → (∀ a, S.lev a < top) →
    ∃K' nr,Inv g N (rounds N nodes k top S).2 K' (rounds N nodes k top S).1 nr∧(∀a,(rounds N nodes k top S).1.lev a<(rounds N nodes k top S).2)∧K'≤2 ^ k*K∧(rounds N nodes k top S).2≤top+k∧top≤(rounds N nodes k top S).2
 | 0,top,K,S,H,hlt=>⟨K,_,H,hlt,by simp,by simp [rounds],by simp [rounds]⟩
 | k+1,top,K,S,H,hlt=>by
  have H2:=fold_inv nodes ⟨S,fun _=>false,false⟩ H hn
  unfold rounds
  split
  ·obtain ⟨K',nr,a1,a2,a3,a4,a5⟩:=rounds_inv nodes hn k (top+1) (2*K) (RS.run N top nodes S).S H2.next (fun a=>Nat.lt_succ_of_le (H2.levs a))
   refine ⟨K',nr,a1,a2,?_,by omega,by omega⟩
   rw [Nat.pow_succ,Nat.mul_assoc];exact a3
  ·rename_i h
   have h':(RS.run N top nodes S).some_=false:=by cases q:(RS.run N top nodes S).some_ with | false=>rfl | true=>exact absurd q h
   have e:=fold_same nodes ⟨S,fun _=>false,false⟩ h'
   have e2:(RS.run N top nodes S).S=S:=by unfold RS.run;rw [e]
   refine ⟨K,_,H2,?_,Nat.le_mul_of_pos_left _ (Nat.two_pow_pos _),by omega,by omega⟩
   show ∀a,(RS.run N top nodes S).S.lev a<top
   rw [e2];exact hlt
noncomputable def all (g:FR.G) (nodes:List Nat) (most:Nat):LS×Nat:=
 ((rounds g.n nodes (most-1) 1 (first g)).1.close nodes (rounds g.n nodes (most-1) 1 (first g)).2,(rounds g.n nodes (most-1) 1 (first g)).2)
theorem all_fin {g:FR.G} (hg:g.ok) (nodes:List Nat) (hn:∀a,a∈nodes↔g.Corner a) {most:Nat} (h1:1≤most) (h2:most≤6):Fin g (all g nodes most).2 (all g nodes most).1∧1≤(all g nodes most).2∧(all g nodes most).2≤most:=by
 obtain ⟨K',nr,a1,a2,a3,a4,a5⟩:=rounds_inv nodes (fun n h=>(hn n).1 h) (most-1) 1 15 (first g) (first_inv hg g.n (Nat.le_refl _)) (fun _=>by show (0:Nat)<1;omega)
 have:K'≤1000:=by
  have h3:2 ^ (most-1)≤2 ^ 5:=Nat.pow_le_pow_right (by omega) (by omega)
  have h4:2 ^ (most-1)*15≤2 ^ 5*15:=Nat.mul_le_mul_right _ h3;omega
 exact ⟨close_fin a1 a2 nodes hn this,by exact a5,by show (rounds g.n nodes (most-1) 1 (first g)).2≤most;omega⟩
inductive Unp (S:LS):Nat→Nat→List Nat→Prop
 | edge {a b:Nat} {c:C} {m:Int}:S.eg a b=some (c,m)→m<0→Unp S a b [a,b]
 | two {a b k:Nat} {c:C} {m:Int} {L M:List Nat}:S.eg a b=some (c,m)→m=k→Unp S a k L→Unp S k b M→Unp S a b (L ++ M.tail)
inductive LW (E:Nat→Nat→C→Prop):List Nat→C→Prop
 | one (a:Nat):LW E [a] C.zero
 | cons {a b:Nat} {l:List Nat} {e c:C}:E a b e→LW E (b :: l) c→LW E (a :: b :: l) (C.add e c)
theorem LW.append {E:Nat→Nat→C→Prop}:∀ {l:List Nat} {x:Nat} {m:List Nat} {c d:C},LW E (l ++ [x]) c→LW E (x :: m) d→LW E (l ++ x :: m) (C.add c d)
 | [],x,m,c,d,h,k=>by
  cases h
  rw [C.zero_add];exact k
 | [a],x,m,c,d,h,k=>by
  cases h with
  | cons he h=>rw [C.add_assoc];exact .cons he (LW.append (l:=[]) h k)
 | a :: b :: l,x,m,c,d,h,k=>by
  cases h with
  | cons he h=>rw [C.add_assoc];exact .cons he (LW.append (l:=b :: l) h k)
theorem LW.walk {E:Nat→Nat→C→Prop}:∀ {l:List Nat} {a b:Nat} {c:C},LW E (a :: l) c→(a :: l).getLast? = some b→Walk E a b c
 | [],a,b,c,h,hb=>by cases h;simp at hb;subst hb;exact .nil _
 | x :: l,a,b,c,h,hb=>by
  cases h with
  | cons he h=>exact Walk.cons he (LW.walk h (by simpa using hb))
theorem Unp.ends {S:LS} {a b:Nat} {L:List Nat} (h:Unp S a b L):∃M,L=a :: (M ++ [b]):=by
 induction h with
 | edge=>exact ⟨[],rfl⟩
 | two _ _ _ _ ih1 ih2=>
  obtain ⟨M1,rfl⟩:=ih1;obtain ⟨M2,rfl⟩:=ih2
  exact ⟨M1 ++ _ :: M2,by simp;rfl⟩
theorem Unp.det {S:LS} {a b:Nat} {L M:List Nat} (h:Unp S a b L) (k:Unp S a b M):L=M:=by
 induction h generalizing M with
 | edge h1 h2=>
  cases k with
  | edge=>rfl
  | two k1 k2=>rw [h1] at k1;injection k1 with k1;injection k1 with _ e;omega
 | two h1 h2 _ _ ih1 ih2=>
  cases k with
  | edge k1 k2=>rw [h1] at k1;injection k1 with k1;injection k1 with _ e;omega
  | two k1 k2 k3 k4=>
   rw [h1] at k1;injection k1 with k1;injection k1 with _ e
   have e2:(_:Nat)=_:=Int.ofNat_inj.1 (h2.symm.trans (e.trans k2));subst e2;rw [ih1 k3,ih2 k4]
theorem Fin.unp {g:FR.G} {top:Nat} {S:LS} (H:Fin g top S):∀(n:Nat) {a b:Nat} {c:C} {m:Int},S.lev a+S.lev b≤n→S.eg a b=some (c,m)→∃L,Unp S a b L∧LW g.GE L c∧L.length≤2 ^ n+1:=by
 intro n
 induction n using Nat.strongRecOn with
 | _ n ih=>
  intro a b c m hn h
  by_cases hm:m<0
  ·obtain ⟨_,h2⟩:=H.orig a b c m h hm
   refine ⟨[a,b],.edge h hm,?_,?_⟩
   ·have:=LW.cons h2 (.one b)
    rwa [C.add_zero] at this
   ·have:=Nat.two_pow_pos n
    simp only [List.length_cons,List.length_nil];omega
  ·obtain ⟨k,e1,e2,e3,c1,m1,c2,m2,e4,e5,e6⟩:=H.sum a b c m h (by omega)
   have hpn:2 ^ n=2 ^ (n-1)+2 ^ (n-1):=by
    have:n=n-1+1:=by omega
    rw [this,Nat.pow_succ];simp;omega
   obtain ⟨L,u1,w1,l1⟩:=ih (n-1) (by omega) (by omega) e4
   obtain ⟨M,u2,w2,l2⟩:=ih (n-1) (by omega) (by omega) e5
   obtain ⟨L',rfl⟩:=u1.ends;obtain ⟨M',rfl⟩:=u2.ends;refine ⟨_,.two h e1 u1 u2,?_,?_⟩
   ·rw [e6]
    have:=LW.append (E:=g.GE) (l:=a :: L') (x:=k) (m:=M' ++ [b]) w1 w2
    simpa using this
   ·simp at l1 l2 ⊢;omega
end LS
end FR
namespace FR
namespace G
variable {g:G} {a b:Nat}
theorem oct_small (hg:g.ok) (hb:b<g.n) (ha:a<g.n):0≤(g.oct a b).s∧(g.oct a b).s≤15∧0≤(g.oct a b).d∧(g.oct a b).d≤15:=by
 obtain ⟨h1,h2⟩:=fI_le hg hb ha;rw [oct_fIJ];simp only;omega
end G
end FR
namespace FR
theorem C.le_dd {s d:Int} (hs:0≤s):C.le ⟨s,d⟩ ⟨0,s+d⟩:=by
 by_cases h:s=0
 ·subst h;rw [Int.zero_add];exact C.le_refl _
 ·refine C.le_of_lt ?_
  unfold C.lt Pos;simp only
  have h2:0<s*s:=mulpos (by omega) (by omega)
  refine .inr (.inr ⟨by omega,by omega,?_⟩)
  have e1:(0-s)*(0-s)=s*s:=by rw [Int.zero_sub,Int.neg_mul_neg]
  have e2:s+d-d=s:=by omega
  rw [e1,e2];omega
namespace G
variable {g:G}
end G
end FR
