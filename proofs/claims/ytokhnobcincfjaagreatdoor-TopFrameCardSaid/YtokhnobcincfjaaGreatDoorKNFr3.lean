/- Lemmas of this claim: MathLv3, MathAsk, MathSearch, MathSr, MathGSet. -/
import Derived.Test.YtokhnobcincfjaaGreatDoorKNFr2
import Derived.Test.YtokhnobcincfjaaGreatDoorKNFr1
set_option linter.unusedVariables false
set_option linter.unusedSimpArgs false
set_option linter.unusedSectionVars false
namespace FR
open Classical
structure FM (E:Nat→Nat→C→Prop) (fr N:Nat) (done hp:Nat→Option C) (k:Nat) (pend:Nat→C→Prop):Prop where
 dij:Dij E fr done hp k pend
 frN:fr<N
 rngD:∀j,done j≠none→j<N
 rngH:∀j,hp j≠none→j<N
 c1:∀j c,done j=some c→c.s≤2000*((cntN (fun i=>(done i).isSome) N:Int)-1)∧c.d≤2000*((cntN (fun i=>(done i).isSome) N:Int)-1)
 c2:∀j c,hp j=some c→c.s≤2000*(cntN (fun i=>(done i).isSome) N:Int)∧c.d≤2000*(cntN (fun i=>(done i).isSome) N:Int)
 last:∀c,done k=some c→∀i d,done i=some d→C.le d c
namespace FM
variable {E:Nat→Nat→C→Prop} {fr N:Nat} {done hp:Nat→Option C} {k:Nat} {pend:Nat→C→Prop}
theorem start (h:fr<N) (k:Nat):FM E fr N (fun _=>none) (upd (fun _=>none) fr (some C.zero)) k (fun _ _=>False) where
 dij:=Dij.start fr k
 frN:=h
 rngD:=fun j hj=>absurd rfl hj
 rngH:=fun j hj=>by
  unfold upd at hj;split at hj
  ·rename_i e;rw [e];exact h
  ·exact absurd rfl hj
 c1:=fun j c h=>by cases h
 c2:=fun j c h=>by
  unfold upd at h;split at h
  ·cases h;simp only [C.zero];exact ⟨by omega,by omega⟩
  ·cases h
 last:=fun c h=>by cases h
theorem weaken {pend':Nat→C→Prop} (H:FM E fr N done hp k pend) (h:∀b e,pend b e→pend' b e):FM E fr N done hp k pend':=
 { H with dij:=⟨H.dij.i1,H.dij.i2,H.dij.i2',fun a c b e x y=>(H.dij.i3 a c b e x y).imp_left fun ⟨p,q⟩=>⟨p,h _ _ q⟩,H.dij.i4⟩ }
theorem pop (hE : ∀ a b c, E a b c → C.Nn c) (H : FM E fr N done hp k fun _ _ => False) {t : Nat} {c : C} (ht : hp t = some c) (hmin : ∀ j d, hp j = some d → C.le c d) :
    FM E fr N (upd done t (some c)) (upd hp t none) t (E t):=by
 have htN:=H.rngH t (by rw [ht];simp)
 have hdt:=(H.dij.i2 t c ht).1;have hcnt:=cnt_done htN hdt c;refine ⟨H.dij.pop hE ht hmin,H.frN,?_,?_,?_,?_,?_⟩
 ·intro j hj
  unfold upd at hj;split at hj
  ·rename_i e;rw [e];exact htN
  ·exact H.rngD j hj
 ·intro j hj
  unfold upd at hj;split at hj
  ·exact absurd rfl hj
  ·exact H.rngH j hj
 ·intro j d hj
  rw [hcnt];unfold upd at hj;split at hj
  ·cases hj
   have:=H.c2 _ _ ht;omega
  ·have:=H.c1 _ _ hj
   omega
 ·intro j d hj
  rw [hcnt];unfold upd at hj;split at hj
  ·cases hj
  ·have:=H.c2 _ _ hj
   omega
 ·intro c' hc i d hi
  rw [upd_same] at hc
  cases hc
  unfold upd at hi;split at hi
  ·cases hi;exact C.le_refl _
  ·exact H.dij.i2' _ _ ht _ _ hi
theorem skip {pend':Nat→C→Prop} (H:FM E fr N done hp k pend) {b:Nat} (hb:done b≠none) (hp':∀b' e',pend b' e'→pend' b' e'∨b'=b):FM E fr N done hp k pend':=
 { H with dij:=H.dij.skip hb hp' }
theorem keep {pend':Nat→C→Prop} (H:FM E fr N done hp k pend) {b:Nat} {c e d:C} (hk:done k=some c) (hb:hp b=some d) (hle:C.le d (C.add c e)) (hp':∀b' e',pend b' e'→pend' b' e'∨(b'=b∧e'=e)):FM E fr N done hp k pend':=
 { H with dij:=H.dij.keep hk hb hle hp' }
theorem push (hE : ∀ a b c, E a b c → C.Nn c) {pend' : Nat → C → Prop} (H : FM E fr N done hp k pend) {b : Nat} {c e : C} (hk : done k = some c) (he : E k b e) (he1 : e.s ≤ 2000 ∧ e.d ≤ 2000) (hbN : b < N)
    (hd:done b=none) (hb:∀d,hp b=some d→C.lt (C.add c e) d) (hp':∀b' e',pend b' e'→pend' b' e'∨(b'=b∧e'=e)) :
    FM E fr N done (upd hp b (some (C.add c e))) k pend':=by
 refine ⟨H.dij.push hE hk he hd hb (H.last _ hk) hp',H.frN,H.rngD,?_,H.c1,?_,H.last⟩
 ·intro j hj
  unfold upd at hj;split at hj
  ·rename_i q;rw [q];exact hbN
  ·exact H.rngH j hj
 ·intro j d hj
  unfold upd at hj;split at hj
  ·cases hj
   have:=H.c1 _ _ hk;simp only [C.add];omega
  ·exact H.c2 _ _ hj
theorem small (hE:∀a b c,E a b c→C.Nn c) (H:FM E fr N done hp k pend) (hN:N≤256) {j:Nat} {c:C} (h:done j=some c∨hp j=some c):0≤c.s∧c.s≤512000∧0≤c.d∧c.d≤512000:=by
 have h3:=cntN_le (fun i=>(done i).isSome) N
 have h2:C.Nn c:=by
  rcases h with h | h
  ·exact (H.dij.i1 _ _ h).1.nn hE
  ·exact (H.dij.i2 _ _ h).2.nn hE
 obtain ⟨h7,h8⟩:=h2
 rcases h with h | h
 ·have:=H.c1 _ _ h
  omega
 ·have:=H.c2 _ _ h
  omega
end FM
namespace LS
noncomputable def part (S:LS) (n top:Nat) (T:Nat→Nat→Prop):LS where
 lev:=upd S.lev n top
 eg:=fun x y=>if T x y∨T y x then some (C.add (S.cost n x) (S.cost n y),(n:Int)) else S.eg x y
theorem part_yes {S:LS} {n top:Nat} {T:Nat→Nat→Prop} {x y:Nat} (h:T x y∨T y x):(S.part n top T).eg x y=some (C.add (S.cost n x) (S.cost n y),(n:Int)):=if_pos h
theorem part_no {S:LS} {n top:Nat} {T:Nat→Nat→Prop} {x y:Nat} (h:¬(T x y∨T y x)):(S.part n top T).eg x y=S.eg x y:=if_neg h
theorem part_same {S:LS} {n top:Nat} {T T':Nat→Nat→Prop} {x y:Nat} (h:(T x y∨T y x)↔(T' x y∨T' y x)):(S.part n top T).eg x y=(S.part n top T').eg x y:=by
 by_cases q:T x y∨T y x
 ·rw [part_yes q,part_yes (h.1 q)]
 ·rw [part_no q,part_no (fun r=>q (h.2 r))]
theorem part_all {S:LS} {N n top:Nat} {T:Nat→Nat→Prop} (h:∀a b,T a b↔(a,b)∈S.more N n):S.part n top T=S.pass N n top:=by
 unfold part pass
 congr 1
 funext x y
 simp only [h]
theorem part_none {S:LS} {n top:Nat} {T:Nat→Nat→Prop} (h:∀a b,¬T a b):(S.part n top T).eg=S.eg:=by
 funext x y
 show (if T x y∨T y x then _ else _)=_
 rw [if_neg (fun q=>q.elim (h _ _) (h _ _))]
theorem step_lev_ne {N top:Nat} {R:RS} {n a:Nat} (h:a≠n):(RS.step N top R n).S.lev a=R.S.lev a:=by
 unfold RS.step
 split
 ·rfl
 ·split
  ·rfl
  ·show upd R.S.lev n top a=_
   rw [upd_ne _ _ h]
theorem fold_lev_out {N top:Nat}:∀(l:List Nat) (R:RS) {a:Nat},a∉l→(l.foldl (RS.step N top) R).S.lev a=R.S.lev a
 | [],_,_,_=>rfl
 | n :: l,R,a,h=>by
  rw [List.foldl_cons,fold_lev_out l _ (fun q=>h (by simp [q])),step_lev_ne (fun q=>h (by simp [q]))]
theorem fold_left {N top:Nat}:∀(l:List Nat) (R:RS),l.Nodup→l.foldl (RS.step N top) R=(l.filter fun a=>decide (R.S.lev a=0)).foldl (RS.step N top) R
 | [],_,_=>rfl
 | n :: l,R,h=>by
  rw [List.nodup_cons] at h
  by_cases h0:R.S.lev n=0
  ·rw [List.filter_cons,if_pos (by simpa using h0),List.foldl_cons,List.foldl_cons,fold_left l _ h.2]
   congr 1
   apply List.filter_congr
   intro a ha;rw [step_lev_ne];rintro rfl;exact h.1 ha
  ·rw [List.filter_cons,if_neg (by simpa using h0),List.foldl_cons]
   have:RS.step N top R n=R:=by unfold RS.step;rw [if_pos (.inl h0)]
   rw [this];exact fold_left l R h.2
theorem need_iff {S : LS} {n a b : Nat} {done : Nat → Option C} (h1 : ∀ c, done b = some c → Dist (S.Lw n) a b c) (h2 : done b = none → ∀ c, ¬ Walk (S.Lw n) a b c) :
    S.Need n a b↔∀d,done b=some d→C.lt (C.add (S.cost n a) (S.cost n b)) d:=by
 unfold Need
 constructor
 ·intro h d hd
  apply Classical.byContradiction
  intro hn;exact h ⟨d,(h1 d hd).1,hn⟩
 ·rintro h ⟨c,hw,hc⟩
  cases hb:done b with
  | none=>exact h2 hb c hw
  | some d=>exact C.le_trans ((h1 d hb).2 c hw) hc (h d hb)
end LS
end FR
namespace Go.Proofs.YtokhnobcincfjaaGreatDoor
open FR
def wayC (g:G) (a b:Nat) (P:Nat→Nat×Nat) (n:Nat):List Nat:=(List.range n).map fun k=>g.fcell a b (P k).1 (P k).2
theorem wayC_succ (g:G) (a b:Nat) (P:Nat→Nat×Nat) (n:Nat):wayC g a b P (n+1)=wayC g a b P n ++ [g.fcell a b (P n).1 (P n).2]:=by simp [wayC,List.range_succ]
theorem way_lw {g : G} (hg : g.ok) {a b : Nat} (hb : b < g.n) (ha : a < g.n) (hn : g.Near a b) {P : Nat → Nat × Nat} (hP : g.WayP a b P) :
    ∀k,k≤g.fI a b+g.fJ a b→LS.LW g.E (wayC g a b P (k+1)) ⟨((P k).2:Nat),((P k).1:Nat)⟩
 | 0,_=>by
  rw [wayC_succ,hP.1];exact LS.LW.one _
 | k+1,h=>by
  have ih:=way_lw hg hb ha hn hP k (by omega)
  obtain ⟨h1,h2,h3,h4,h5⟩:=G.wayP_ok hg hb ha hn hP k (by omega)
  have hx:=hP.2 k
  have st:∃e,g.E (g.fcell a b (P k).1 (P k).2) (g.fcell a b (P (k+1)).1 (P (k+1)).2) e∧(⟨((P (k+1)).2:Nat),((P (k+1)).1:Nat)⟩:C)=C.add ⟨((P k).2:Nat),((P k).1:Nat)⟩ e:=by
   generalize P (k+1)=p' at *
   generalize P k=p at *
   obtain ⟨i0,j0⟩:=p;simp only at h1 h2 h3 h4 h5
   rcases G.nxt_ok hg hb ha hx h1 h2 h4 h5 (by omega) with ⟨e,x1,_⟩ | ⟨e,x1,_⟩
   ·rw [e]
    exact ⟨⟨0,1⟩,G.edge_i hg hb ha x1.1 h2 x1.2,by simp [C.add]⟩
   ·rw [e]
    exact ⟨⟨1,0⟩,G.edge_j hg hb ha h1 x1.1 x1.2,by simp [C.add]⟩
  obtain ⟨e,he,hc⟩:=st;rw [hc,wayC_succ,wayC_succ,List.append_assoc];rw [wayC_succ] at ih;have:=LS.LW.append ih (LS.LW.cons he (LS.LW.one _));rw [C.add_zero] at this;exact this
theorem way_piece {g : G} (hg : g.ok) {a b : Nat} (hb : b < g.n) (ha : a < g.n) (hn : g.Near a b) {P : Nat → Nat × Nat} (hP : g.WayP a b P) :
    ∃M,wayC g a b P (g.fI a b+g.fJ a b+1)=a :: M∧LS.LW g.E (a :: M) (g.oct a b)∧(a :: M).getLast? = some b:=by
 have h:=way_lw hg hb ha hn hP (g.fI a b+g.fJ a b) (Nat.le_refl _);obtain ⟨h1,h2,h3,_⟩:=G.wayP_ok hg hb ha hn hP (g.fI a b+g.fJ a b) (Nat.le_refl _)
 have e1:(P (g.fI a b+g.fJ a b)).1=g.fI a b:=by omega
 have e2:(P (g.fI a b+g.fJ a b)).2=g.fJ a b:=by omega
 rw [e1,e2,←G.oct_fIJ] at h
 have h0:wayC g a b P (g.fI a b+g.fJ a b+1)=a :: (wayC g a b P (g.fI a b+g.fJ a b+1)).tail:=by
  unfold wayC;rw [List.range_succ_eq_map];simp only [List.map_cons,List.tail_cons,hP.1];rw [G.fcell_zero]
 refine ⟨_,h0,h0▸h,?_⟩;rw [←h0,wayC_succ,e1,e2,G.fcell_end hg hb ha];simp
theorem lw_sums {E:Nat→Nat→C→Prop}:∀ {W:List Nat} {c:C},LS.LW E W c→∃f:Nat→C,f 0=C.zero∧(∀i,i+1<W.length→∃e,E (W.getD i 0) (W.getD (i+1) 0) e∧f (i+1)=C.add (f i) e)∧f (W.length-1)=c∧0<W.length
 | _,_,.one a=>⟨fun _=>C.zero,rfl,fun i hi=>by simp at hi,rfl,by simp⟩
 | _,_,.cons (a:=a) (b:=b) (l:=l) (e:=e) (c:=c) he h=>by
  obtain ⟨f,f0,f1,f2,f3⟩:=lw_sums h
  refine ⟨fun i=>match i with | 0=>C.zero | i+1=>C.add e (f i),rfl,fun i hi=>?_,?_,by simp⟩
  ·cases i with
   | zero=>exact ⟨e,he,by simp only [f0];rw [C.add_zero,C.zero_add]⟩
   | succ i=>
    obtain ⟨e',h1,h2⟩:=f1 i (by simpa using hi)
    refine ⟨e',h1,?_⟩
    show C.add e (f (i+1))=C.add (C.add e (f i)) e'
    rw [h2,C.add_assoc]
  ·show (match (a :: b :: l).length-1 with | 0=>C.zero | i+1=>C.add e (f i))=_
   have:(a :: b :: l).length-1=((b :: l).length-1)+1:=by simp
   rw [this];simp only [f2]
theorem lw_wout {g : G} (hg : g.ok) {W : List Nat} {c : C} {a : Nat} (h : LS.LW g.E W c) (ha : W.head? = some a) (hl : a < g.n) (hf : g.b a = false) :
    g.wout (fun i=>(W.map fun n:Nat=>(n:Int)).getD i 0) W.length=(c,0):=by
 obtain ⟨f,f0,f1,f2,f3⟩:=lw_sums h
 have hW0:W.getD 0 0=a:=by
  cases W with
  | nil=>simp at ha
  | cons x l=>simpa using ha
 have key:=G.wres_way (g:=g) (f:=fun i=>(W.map fun n:Nat=>(n:Int)).getD i 0) (x:=fun i=>W.getD i 0) (c:=f) (n:=W.length) f0
  (fun i hi=>by simp [List.getD_eq_getElem?_getD,List.getElem?_map,List.getElem?_eq_getElem hi]) (by simp only [hW0];exact ⟨hl,hf⟩) hg f1 (W.length-1) (by omega)
 rw [show W.length-1+1=W.length by omega,f2] at key
 exact G.wout_ok key f3
def NrE (g:G) (a b:Nat) (c:C):Prop:=a<g.n∧b<g.n∧g.b a=false∧g.b b=false∧g.Near a b∧c=g.oct a b
end Go.Proofs.YtokhnobcincfjaaGreatDoor
namespace FR
structure Hu (E:Nat→Nat→C→Prop) (src:Nat→C→Prop) (h:Nat→C) (lab hp:Nat→Option C) (back:Nat→Int) (k:Nat) (pend:Nat→C→Prop) (ps:Nat→C→Prop):Prop where
 reach:∀j c,lab j=some c→Reach E src j c
 key:∀j f,hp j=some f→∃c,lab j=some c∧f=C.add c (h j)
 closed:∀a c b e,lab a=some c→E a b e→(a=k∧pend b e)∨hp a≠none∨∃d,lab b=some d∧C.le d (C.add c e)
 srcs:∀s c,src s c→ps s c∨∃d,lab s=some d∧C.le d c
 back:∀j c,lab j=some c→(back j = -1∧src j c)∨∃(a:Nat) (d e:C),back j=a∧lab a=some d∧E a j e∧C.le (C.add d e) c
namespace Hu
variable {E:Nat→Nat→C→Prop} {src:Nat→C→Prop} {h:Nat→C} {lab hp:Nat→Option C} {back:Nat→Int} {k:Nat} {pend ps:Nat→C→Prop}
theorem start (k:Nat) (back:Nat→Int):Hu E src h (fun _=>none) (fun _=>none) back k (fun _ _=>False) src where
 reach:=fun _ _ h=>by cases h
 key:=fun _ _ h=>by cases h
 closed:=fun _ _ _ _ h=>by cases h
 srcs:=fun _ _ h=>.inl h
 back:=fun _ _ h=>by cases h
theorem onway (hh : ∀ j t d, Walk E j t d → t = k → C.le (h j) d) {hp : Nat → Option C} {k' : Nat} (H : Hu E src h lab hp back k' (fun _ _ => False) (fun _ _ => False)) {s t : Nat} {c0 p : C} (hs : src s c0) (hw : Walk E s t p) :
    ∀q,Walk E t k q→(∃j f,hp j=some f∧C.le f (C.add (C.add c0 p) q))∨(hp t=none∧∃d,lab t=some d∧C.le d (C.add c0 p)):=by
 have fin:∀t c q,Walk E t k q→(∃d,lab t=some d∧C.le d c)→(∃j f,hp j=some f∧C.le f (C.add c q))∨(hp t=none∧∃d,lab t=some d∧C.le d c):=by
  intro t c q hq ⟨d,h1,h2⟩
  cases hx:hp t with
  | none=>exact .inr ⟨rfl,d,h1,h2⟩
  | some f=>
   obtain ⟨c',e1,e2⟩:=H.key t f hx
   rw [h1] at e1;injection e1 with e1;subst e1
   refine .inl ⟨t,f,hx,?_⟩;rw [e2];exact C.add_le_add h2 (hh t k q hq rfl)
 induction hw with
 | nil=>
  intro q hq;refine fin _ _ q hq ?_
  rcases H.srcs _ _ hs with x | x
  ·exact x.elim
  ·rw [C.add_zero];exact x
 | @snoc b t c e hw he ih=>
  intro q hq
  rcases ih (C.add e q) (Walk.cons he hq) with ⟨j,f,h1,h2⟩ | ⟨h0,d,h1,h2⟩
  ·refine .inl ⟨j,f,h1,?_⟩
   rw [←C.add_assoc,C.add_assoc c0] at h2;exact h2
  ·refine fin _ _ q hq ?_
   rcases H.closed b d t e h1 he with x | x | ⟨d2,h3,h4⟩
   ·exact x.2.elim
   ·exact absurd h0 x
   ·refine ⟨d2,h3,C.le_trans h4 ?_⟩
    rw [←C.add_assoc];exact C.add_le_add h2 (C.le_refl _)
theorem found (hh : ∀ j t d, Walk E j t d → t = k → C.le (h j) d) (h0 : h k = C.zero) {k' : Nat} (H : Hu E src h lab hp back k' (fun _ _ => False) (fun _ _ => False)) {f : C} (hf : hp k = some f) (hmin : ∀ j f', hp j = some f' → C.le f f') :
    lab k=some f∧RDist E src k f:=by
 obtain ⟨c,e1,e2⟩:=H.key k f hf;rw [h0,C.add_zero] at e2;subst e2;refine ⟨e1,H.reach k f e1,?_⟩;rintro d ⟨s,c0,p,hs,hw,rfl⟩
 rcases H.onway hh hs hw C.zero (.nil k) with ⟨j,f',h1,h2⟩ | ⟨h1,_⟩
 ·rw [C.add_zero] at h2
  exact C.le_trans (hmin j f' h1) h2
 ·rw [hf] at h1;cases h1
theorem lost (hh:∀j t d,Walk E j t d→t=k→C.le (h j) d) {k':Nat} (H:Hu E src h lab hp back k' (fun _ _=>False) (fun _ _=>False)) (he:∀j,hp j=none) (hk:lab k=none):∀d,¬Reach E src k d:=by
 rintro d ⟨s,c0,p,hs,hw,rfl⟩
 rcases H.onway hh hs hw C.zero (.nil k) with ⟨j,f',h1,_⟩ | ⟨_,d',h1,_⟩
 ·rw [he j] at h1;cases h1
 ·rw [hk] at h1;cases h1
theorem pop {t:Nat} (H:Hu E src h lab hp back k (fun _ _=>False) (fun _ _=>False)):Hu E src h lab (upd hp t none) back t (E t) (fun _ _=>False) where
 reach:=H.reach
 key:=fun j f hj=>by
  unfold upd at hj;split at hj
  ·cases hj
  ·exact H.key j f hj
 closed:=fun a c b e ha he=>by
  by_cases q:a=t
  ·subst q;exact .inl ⟨rfl,he⟩
  ·rcases H.closed a c b e ha he with x | x | x
   ·exact x.2.elim
   ·right;left;rw [upd_ne _ _ q];exact x
   ·exact .inr (.inr x)
 srcs:=H.srcs
 back:=H.back
theorem keep {pend' ps' : Nat → C → Prop} (H : Hu E src h lab hp back k pend ps) {b : Nat} {x d : C} (hb : lab b = some d) (hle : C.le d x)
    (hp':∀b' e',pend b' e'→pend' b' e'∨(b'=b∧∀c,lab k=some c→C.le x (C.add c e'))) (hs':∀s c,ps s c→ps' s c∨(s=b∧C.le x c)):Hu E src h lab hp back k pend' ps' where
 reach:=H.reach
 key:=H.key
 closed:=fun a c b' e ha he=>by
  rcases H.closed a c b' e ha he with ⟨q1,q2⟩ | q | q
  ·rcases hp' b' e q2 with r | ⟨r1,r2⟩
   ·exact .inl ⟨q1,r⟩
   ·subst q1;subst r1
    exact .inr (.inr ⟨d,hb,C.le_trans hle (r2 c ha)⟩)
  ·exact .inr (.inl q)
  ·exact .inr (.inr q)
 srcs:=fun s c hs=>by
  rcases H.srcs s c hs with q | q
  ·rcases hs' s c q with r | ⟨r1,r2⟩
   ·exact .inl r
   ·subst r1;exact .inr ⟨d,hb,C.le_trans hle r2⟩
  ·exact .inr q
 back:=H.back
theorem put {pend' ps' : Nat → C → Prop} (H : Hu E src h lab hp back k pend ps) {b : Nat} {x : C} {z : Int} (hr : Reach E src b x) (hlt : ∀ d, lab b = some d → C.lt x d) (hbk : b ≠ k ∨ (∀ b' e', ¬ pend b' e'))
    (hz:(z = -1∧src b x)∨∃(a:Nat) (d e:C),z=a∧lab a=some d∧a≠b∧E a b e∧C.le (C.add d e) x)
    (hp':∀b' e',pend b' e'→pend' b' e'∨(b'=b∧∀c,lab k=some c→C.le x (C.add c e'))) (hs':∀s c,ps s c→ps' s c∨(s=b∧C.le x c)) :
    Hu E src h (upd lab b (some x)) (upd hp b (some (C.add x (h b)))) (upd back b z) k pend' ps' where
 reach:=fun j c hj=>by
  unfold upd at hj;split at hj
  ·rename_i e;injection hj with hj;subst hj;rw [e];exact hr
  ·exact H.reach j c hj
 key:=fun j f hj=>by
  by_cases e:j=b
  ·subst e
   rw [upd_same] at hj;injection hj with hj
   exact ⟨x,upd_same _ _ _,hj.symm⟩
  ·rw [upd_ne _ _ e] at hj ⊢
   exact H.key j f hj
 closed:=fun a c b' e ha he=>by
  by_cases q:a=b
  ·subst q
   right;left;rw [upd_same];simp
  ·rw [upd_ne _ _ q] at ha ⊢
   have low:∀d y,lab b'=some d→C.le d y→∃d',upd lab b (some x) b'=some d'∧C.le d' y:=fun d y hd hy=>by
    by_cases r:b'=b
    ·subst r;exact ⟨x,upd_same _ _ _,C.le_trans (C.le_of_lt (hlt d hd)) hy⟩
    ·exact ⟨d,by rw [upd_ne _ _ r];exact hd,hy⟩
   rcases H.closed a c b' e ha he with ⟨q1,q2⟩ | r | ⟨d,r1,r2⟩
   ·rcases hp' b' e q2 with r | ⟨r1,r2⟩
    ·exact .inl ⟨q1,r⟩
    ·subst q1;subst r1
     exact .inr (.inr ⟨x,upd_same _ _ _,r2 c ha⟩)
   ·exact .inr (.inl r)
   ·exact .inr (.inr (low d _ r1 r2))
 srcs:=fun s c hs=>by
  have low:∀d,lab s=some d→C.le d c→∃d',upd lab b (some x) s=some d'∧C.le d' c:=fun d hd hy=>by
   by_cases r:s=b
   ·subst r;exact ⟨x,upd_same _ _ _,C.le_trans (C.le_of_lt (hlt d hd)) hy⟩
   ·exact ⟨d,by rw [upd_ne _ _ r];exact hd,hy⟩
  rcases H.srcs s c hs with q | ⟨d,q1,q2⟩
  ·rcases hs' s c q with r | ⟨r1,r2⟩
   ·exact .inl r
   ·subst r1;exact .inr ⟨x,upd_same _ _ _,r2⟩
  ·exact .inr (low d q1 q2)
 back:=fun j c hj=>by
  have low:∀(a:Nat) (d e y:C),lab a=some d→C.le (C.add d e) y→∃d',upd lab b (some x) a=some d'∧C.le (C.add d' e) y:=fun a d e y hd hy=>by
   by_cases r:a=b
   ·subst r;exact ⟨x,upd_same _ _ _,C.le_trans (C.add_le_add (C.le_of_lt (hlt d hd)) (C.le_refl _)) hy⟩
   ·exact ⟨d,by rw [upd_ne _ _ r];exact hd,hy⟩
  by_cases e:j=b
  ·subst e
   rw [upd_same] at hj;injection hj with hj;subst hj
   rw [upd_same]
   rcases hz with q | ⟨a,d,e,q1,q2,q3,q4,q5⟩
   ·exact .inl q
   ·obtain ⟨d',r1,r2⟩:=low a d e x q2 q5
    exact .inr ⟨a,d',e,q1,r1,q4,r2⟩
  ·rw [upd_ne _ _ e] at hj ⊢
   rcases H.back j c hj with q | ⟨a,d,e',q1,q2,q4,q5⟩
   ·exact .inl q
   ·obtain ⟨d',r1,r2⟩:=low a d e' c q2 q5
    exact .inr ⟨a,d',e',q1,r1,q4,r2⟩
theorem done {k':Nat} (H:Hu E src h lab hp back k pend ps) (hp':∀b e,¬pend b e) (hs:∀s c,¬ps s c):Hu E src h lab hp back k' (fun _ _=>False) (fun _ _=>False) where
 reach:=H.reach
 key:=H.key
 closed:=fun a c b e ha he=>by
  rcases H.closed a c b e ha he with q | q | q
  ·exact absurd q.2 (hp' b e)
  ·exact .inr (.inl q)
  ·exact .inr (.inr q)
 srcs:=fun s c h=>by
  rcases H.srcs s c h with q | q
  ·exact absurd q (hs s c)
  ·exact .inr q
 back:=H.back
end Hu
namespace LS
def SE (S:LS) (top T:Nat) (mark:Nat→Prop) (fin:Nat→Option C) (a b:Nat) (e:C):Prop:=
 (a≠T∧b≠T∧(S.lev a<S.lev b∨S.lev b=top∨mark b)∧∃m,S.eg a b=some (e,m))∨(a≠T∧b=T∧fin a=some e)
def Marked (S:LS) (ends:Nat→Prop) (b:Nat):Prop:=∃t c,ends t∧Walk (fun x y c=>S.lev x<S.lev y∧∃m,S.eg x y=some (c,m)) t b c
def Tot (g:FR.G) (src:Nat→C→Prop) (fin:Nat→Option C) (c:C):Prop:=∃s c0 t d e,src s c0∧g.Corner s∧Walk g.GE s t d∧fin t=some e∧c=C.add (C.add c0 d) e
theorem se_tot {g : FR.G} {top : Nat} {S : LS} (H : Fin g top S) {T : Nat} (hT : g.n ≤ T) {mark : Nat → Prop} {src : Nat → C → Prop} {fin : Nat → Option C} (hsrc : ∀ s c, src s c → g.Corner s) {c : C}
    (h:Reach (S.SE top T mark fin) src T c):Tot g src fin c:=by
 obtain ⟨s,c0,p,hs,hw,rfl⟩:=h
 have key:∀ {a b p},Walk (S.SE top T mark fin) a b p→a≠T→(b≠T→Walk g.GE a b p)∧(b=T→∃t d e,Walk g.GE a t d∧fin t=some e∧p=C.add d e):=by
  intro a b p hw ha
  induction hw with
  | nil=>exact ⟨fun _=>.nil _,fun e=>absurd e ha⟩
  | @snoc m b d e hw he ih=>
   rcases he with ⟨m1,b1,_,k,hk⟩ | ⟨m1,b1,hf⟩
   ·exact ⟨fun _=>(ih.1 m1).trans (H.walk _ _ _ _ hk),fun e=>absurd e b1⟩
   ·exact ⟨fun e=>absurd b1 e,fun _=>⟨m,d,e,ih.1 m1,hf,rfl⟩⟩
 have hsT:s≠T:=by have:=(hsrc s c0 hs).1;omega
 obtain ⟨t,d,e,h1,h2,rfl⟩:=(key hw hsT).2 rfl;exact ⟨s,c0,t,d,e,hs,hsrc s c0 hs,h1,h2,(C.add_assoc _ _ _).symm⟩
theorem tot_se {g : FR.G} {top : Nat} {S : LS} (H : Fin g top S) {T : Nat} (hT : g.n ≤ T) {mark : Nat → Prop} {src : Nat → C → Prop} {fin : Nat → Option C} (hm : ∀ b, Marked S (fun t => g.Corner t ∧ fin t ≠ none) b → mark b) {c : C}
    (h:Tot g src fin c):∃c',Reach (S.SE top T mark fin) src T c'∧C.le c' c:=by
 obtain ⟨s,c0,t,d,e,hs,hsc,hw,hf,rfl⟩:=h
 have htc:g.Corner t:=by
  have:∀ {a b c},Walk g.GE a b c→g.Corner a→g.Corner b:=fun hw ha=>hw.keeps (P:=g.Corner) (fun a b c _ he=>he.2.1) ha
  exact this hw hsc
 obtain ⟨p,q,c1,d1,c2,h1,h2,h3,h4⟩:=H.ud s t d hsc htc hw
 have nT:∀ {x y c m},S.eg x y=some (c,m)→x≠T∧y≠T:=fun {x y c m} he=>by
  obtain ⟨a,b,_⟩:=H.corner x y (by rw [he];simp)
  have:=a.1;have:=b.1
  exact ⟨by omega,by omega⟩
 have w1:Walk (S.SE top T mark fin) s p c1:=Walk.mono (fun a b c ⟨k1,m,k2⟩=>.inl ⟨(nT k2).1,(nT k2).2,.inl k1,m,k2⟩) h1
 have w2:Walk (S.SE top T mark fin) p q d1:=Walk.mono (fun a b c ⟨k1,m,k2⟩=>.inl ⟨(nT k2).1,(nT k2).2,.inr (.inl k1),m,k2⟩) h2
 have w3:Walk (S.SE top T mark fin) q t c2:=by
  have key:∀ {b c},Walk (fun x y c=>S.lev x<S.lev y∧∃m,S.eg x y=some (c,m)) t b c→Walk (S.SE top T mark fin) b t c:=by
   intro b c hw
   induction hw with
   | nil=>exact .nil _
   | @snoc m b d e hw he ih=>
    obtain ⟨k1,k,k2⟩:=he;rw [C.add_comm]
    refine Walk.cons (.inl ⟨(nT k2).2,(nT k2).1,.inr (.inr (hm m ⟨t,_,⟨htc,by rw [hf];simp⟩,hw⟩)),k,by rw [H.symm];exact k2⟩) ih
  exact key h3
 refine ⟨_,⟨s,c0,_,hs,((w1.trans w2).trans w3).snoc (.inr ⟨by have:=htc.1;omega,rfl,hf⟩),rfl⟩,?_⟩
 exact C.le_trans (C.add_le_add (C.le_refl c0) (C.add_le_add h4 (C.le_refl e))) (C.le_of_eq (C.add_assoc _ _ _).symm)
theorem search_dist {g : FR.G} {top : Nat} {S : LS} (H : Fin g top S) {T : Nat} (hT : g.n ≤ T) {mark : Nat → Prop} {src : Nat → C → Prop} {fin : Nat → Option C} (hsrc : ∀ s c, src s c → g.Corner s) (hm : ∀ b, Marked S (fun t => g.Corner t ∧ fin t ≠ none) b → mark b) {c : C} :
    RDist (S.SE top T mark fin) src T c↔Tot g src fin c∧∀d,Tot g src fin d→C.le c d:=by
 constructor
 ·rintro ⟨h1,h2⟩
  refine ⟨se_tot H hT hsrc h1,fun d hd=>?_⟩
  obtain ⟨c',k1,k2⟩:=tot_se H hT hm hd;exact C.le_trans (h2 c' k1) k2
 ·rintro ⟨h1,h2⟩
  obtain ⟨c',k1,k2⟩:=tot_se H hT hm h1;have:=h2 c' (se_tot H hT hsrc k1);have e:=C.le_antisymm this k2;subst e
  exact ⟨k1,fun d hd=>h2 d (se_tot H hT hsrc hd)⟩
end LS
end FR
namespace FR
structure SB (N T B M F:Nat) (lab:Nat→Option C):Prop where
 rng:∀j,lab j≠none→j<N∨j=T
 nn:∀j c,lab j=some c→C.Nn c
 bd:∀j c,lab j=some c→j<N→C.le c ⟨0,((B+M*cntS lab N:Nat):Int)⟩
 bdT:∀j c,lab j=some c→¬j<N→C.le c ⟨0,((F+(B+M*N):Nat):Int)⟩
namespace SB
variable {N T B M F:Nat} {lab:Nat→Option C}
def K (N B M F:Nat):Nat:=2*(F+(B+M*(N+1)))
def me (N T B M F:Nat) (lab:Nat→Option C):Nat:=BF.meas (T+1) (K N B M F) lab
theorem start:SB N T B M F (fun _=>none):=⟨fun _ h=>absurd rfl h,fun _ _ h=>(nomatch h),fun _ _ h=>(nomatch h),fun _ _ h=>(nomatch h)⟩
theorem le_all (H:SB N T B M F lab) {j:Nat} {c:C} (h:lab j=some c):C.le c ⟨0,((F+(B+M*N):Nat):Int)⟩:=by
 by_cases hj:j<N
 ·refine C.le_trans (H.bd j c h hj) (C.le_of_parts (Int.le_refl _) ?_)
  have:=Nat.mul_le_mul_left M (cntS_le lab N);simp only;omega
 ·exact H.bdT j c h hj
theorem small (H:SB N T B M F lab) {j:Nat} {c:C} (h:lab j=some c):0≤c.s∧c.s≤2*((F+(B+M*N):Nat):Int)∧0≤c.d∧c.d≤2*((F+(B+M*N):Nat):Int):=by
 have h2:=H.nn j c h
 obtain ⟨h5,h6⟩:=C.parts_le' h2 (b:=⟨0,((F+(B+M*N):Nat):Int)⟩) ⟨by simp,by simp only;omega⟩ (H.le_all h)
 obtain ⟨h7,h8⟩:=h2;simp only at h5 h6;omega
theorem put (H : SB N T B M F lab) (hNT : N ≤ T) {b : Nat} {c : C} (hb : b < N ∨ b = T) (hnn : C.Nn c) (hlt : ∀ d, lab b = some d → C.lt c d)
    (hbd:b<N→lab b=none→C.le c ⟨0,((B+M*(cntS lab N+1):Nat):Int)⟩) (hbT:¬b<N→C.le c ⟨0,((F+(B+M*N):Nat):Int)⟩) :
    SB N T B M F (upd lab b (some c))∧me N T B M F (upd lab b (some c))<me N T B M F lab:=by
 have hcnt:=cntS_upd_le lab N b c;have hmul:=Nat.mul_le_mul_left M hcnt
 have hnew:b<N→C.le c ⟨0,((B+M*cntS (upd lab b (some c)) N:Nat):Int)⟩:=fun hbn=>by
  cases hL:lab b with
  | none=>rw [cntS_new hbn hL];exact hbd hbn hL
  | some d=>exact C.le_trans (C.le_of_lt (hlt d hL)) (C.le_trans (H.bd b _ hL hbn) (C.le_of_parts (Int.le_refl _) (by simp only;omega)))
 have hall:C.le c ⟨0,((F+(B+M*N):Nat):Int)⟩:=by
  by_cases hbn:b<N
  ·refine C.le_trans (hnew hbn) (C.le_of_parts (Int.le_refl _) ?_)
   have:=Nat.mul_le_mul_left M (cntS_le (upd lab b (some c)) N);simp only;omega
  ·exact hbT hbn
 refine ⟨⟨?_,?_,?_,?_⟩,?_⟩
 ·intro j hj
  unfold upd at hj;split at hj
  ·rename_i e;rw [e];exact hb
  ·exact H.rng j hj
 ·intro j d hj
  unfold upd at hj;split at hj
  ·cases hj;exact hnn
  ·exact H.nn j d hj
 ·intro j d hj hjn
  by_cases e:j=b
  ·subst e;rw [upd_same] at hj;cases hj;exact hnew hjn
  ·rw [upd_ne _ _ e] at hj
   exact C.le_trans (H.bd j _ hj hjn) (C.le_of_parts (Int.le_refl _) (by simp only;omega))
 ·intro j d hj hjn
  by_cases e:j=b
  ·subst e;rw [upd_same] at hj;cases hj;exact hall
  ·rw [upd_ne _ _ e] at hj
   exact H.bdT j _ hj hjn
 ·have hbox : c ∈ box (K N B M F) := by
    obtain ⟨p1,p2⟩:=C.parts_le' hnn (b:=⟨0,((F+(B+M*N):Nat):Int)⟩) ⟨by simp,by simp only;omega⟩ hall
    have h3:M*N≤M*(N+1):=Nat.mul_le_mul_left _ (Nat.le_succ _);simp only at p1 p2
    refine mem_box hnn ?_ ?_ <;> unfold K <;> omega
  unfold me BF.meas
  apply sumN_lt
  ·intro j _
   by_cases q:j=b
   ·subst q
    rw [upd_same]
    cases hL:lab j with
    | none=>exact Nat.le_succ_of_le (rk_le _ _)
    | some d=>exact Nat.le_of_lt (rk_lt (hlt d hL) hbox)
   ·rw [upd_ne _ _ q];exact Nat.le_refl _
  ·refine ⟨b,by rcases hb with h | h <;> omega,?_⟩
   rw [upd_same]
   cases hL:lab b with
   | none=>exact Nat.lt_succ_of_le (rk_le _ _)
   | some d=>exact rk_lt (hlt d hL) hbox
end SB
theorem cntS_put_le (L:Nat→Option C) (N b:Nat) (c:C):cntS (upd L b (some c)) N≤cntS L N+1:=by
 by_cases hb:b<N
 ·cases h:L b with
  | none=>rw [cntS_new hb h];exact Nat.le_refl _
  | some d=>unfold cntS;rw [cnt_hkeep N (by rw [h];simp) c];exact Nat.le_succ _
 ·have : cntS (upd L b (some c)) N = cntS L N := by
    unfold cntS cntN
    refine sumN_congr N fun k hk=>?_
    show (if (upd L b (some c) k).isSome=true then 1 else 0)=if (L k).isSome=true then 1 else 0
    rw [upd_ne (j:=k) (k:=b) _ _ (by omega)]
  omega
end FR
namespace FR
namespace G
def nigh (g:G) (c z:Nat):Prop:=(g.X c:Int)-1≤g.X z∧(g.X z:Int)≤g.X c+1∧(g.Y c:Int)-1≤g.Y z∧(g.Y z:Int)≤g.Y c+1
def Pd (g:G) (c:Nat) (nx ny:Int) (z:Nat):Prop:=g.nigh c z∧((g.Y z:Int)<ny∨((g.Y z:Int)=ny∧(g.X z:Int)<nx))
def PN (g g':G) (c:Nat) (nx ny:Int) (z:Nat):Prop:=z<g.n∧((g.Pd c nx ny z∧g'.Corner z)∨(¬g.Pd c nx ny z∧g.Corner z))
def PD (g g':G) (c:Nat) (nx ny:Int) (a b:Nat):Prop:=g.Direct a b∧(g.Pd c nx ny a→g.Corner a∧g'.Corner a)∧(g.Pd c nx ny b→g.Corner b∧g'.Corner b)
theorem Pd_row {g:G} {c z:Nat} {ny nx:Int} (h:nx=(g.X c:Int)+2):g.Pd c nx ny z↔g.Pd c ((g.X c:Int)-1) (ny+1) z:=by
 unfold Pd nigh;omega
theorem Pd_none {g:G} {c z:Nat} {nx ny:Int} (hg:g.ok) (hz:z<g.n) (ho:¬(0≤nx∧nx<g.w∧0≤ny∧ny<g.h)):g.Pd c (nx+1) ny z↔g.Pd c nx ny z:=by
 have h1:=X_lt hg z;have h2:=Y_lt hz
 grind [Pd]
theorem Pd_cell {g:G} {c z k:Nat} {nx ny:Int} (hx:(g.X k:Int)=nx) (hy:(g.Y k:Int)=ny) (hk:g.nigh c k):g.Pd c (nx+1) ny z↔g.Pd c nx ny z∨z=k:=by
 constructor
 ·rintro ⟨h1,h2⟩
  by_cases e:(g.X z:Int)=nx∧(g.Y z:Int)=ny
  ·grind [cell_XY]
  ·exact .inl ⟨h1,by omega⟩
 ·rintro (⟨h1,h2⟩ | rfl)
  ·exact ⟨h1,by omega⟩
  ·exact ⟨hk,by omega⟩
theorem Pd_not {g:G} {c k:Nat} {nx ny:Int} (hx:(g.X k:Int)=nx) (hy:(g.Y k:Int)=ny):¬g.Pd c nx ny k:=by
 rintro ⟨_,h⟩;omega
theorem PN_cell {g g':G} {c z k:Nat} {nx ny:Int} (hkn:k<g.n) (hx:(g.X k:Int)=nx) (hy:(g.Y k:Int)=ny) (hk:g.nigh c k):((z=k∧g'.Corner k)∨(z≠k∧g.PN g' c nx ny z))↔g.PN g' c (nx+1) ny z:=by
 grind [PN,Pd_cell,Pd_not]
theorem PD_cell {g g' : G} {c k a b : Nat} {nx ny : Int} (hkn : k < g.n) (hx : (g.X k : Int) = nx) (hy : (g.Y k : Int) = ny) (hk : g.nigh c k) (ha : g.PN g' c (nx + 1) ny a) (hb : g.PN g' c (nx + 1) ny b) :
    (g.PD g' c nx ny a b∧((a≠k∧b≠k)∨(g'.Corner k∧g.PN g' c nx ny k)))↔g.PD g' c (nx+1) ny a b:=by
 grind [Pd_not,PN,PD,Pd_cell]
end G
end FR
