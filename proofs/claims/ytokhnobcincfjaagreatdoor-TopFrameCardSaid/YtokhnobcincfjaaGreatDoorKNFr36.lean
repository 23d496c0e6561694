/- Lemmas of this claim: MathAsk2, MathAsk3, HntA, SrG, MathAsk4, MathAsk5, MathAsk6, MathEmb, MathEmb2, MathDeg. -/
import Derived.Test.YtokhnobcincfjaaGreatDoorKNFr3
import Derived.Test.YtokhnobcincfjaaGreatDoorKNFr21
import Derived.Test.YtokhnobcincfjaaGreatDoorSr7
import Derived.Test.YtokhnobcincfjaaGreatDoorKNFr22
import Derived.Test.YtokhnobcincfjaaGreatDoorKNFr16
set_option linter.unusedVariables false
set_option linter.unusedSimpArgs false
namespace Go.Proofs.YtokhnobcincfjaaGreatDoor
open FR
theorem corner_open {g:G} (hok:g.ok) {c:Nat} (h:g.Corner c):g.b c=false:=by
 have:=G.op_cell hok h.1;rw [h.2.1] at this
 simpa using this.symm
theorem ge_nr {g:G} (hok:g.ok) {a b:Nat} {c:C} (h:g.GE a b c):NrE g a b c:=⟨h.1.1,h.2.1.1,corner_open hok h.1,corner_open hok h.2.1,h.2.2.2.1.1,h.2.2.2.2⟩
theorem nr_walk {g:G} {a b:Nat} {c:C} (h:NrE g a b c):Walk g.E a b c:=by
 obtain ⟨_,_,_,_,h,rfl⟩:=h;exact h
theorem lw_map {E F:Nat→Nat→C→Prop} (hE:∀a b c,E a b c→F a b c):∀ {W:List Nat} {c:C},LS.LW E W c→LS.LW F W c
 | _,_,.one a=>.one a
 | _,_,.cons he h=>.cons (hE _ _ _ he) (lw_map hE h)
theorem lw_nr_walk {g:G}:∀ {W:List Nat} {a b:Nat} {c:C},LS.LW (NrE g) (a :: W) c→(a :: W).getLast? = some b→Walk g.E a b c
 | [],a,b,c,h,hb=>by cases h;simp at hb;subst hb;exact .nil _
 | x :: l,a,b,c,h,hb=>by
  cases h with
  | cons he h=>exact (nr_walk he).trans (lw_nr_walk h (by simpa using hb))
theorem last_cons (x:Nat) (W:List Nat) (y:Nat):(x :: (W ++ [y])).getLast? = some y:=by
 rw [show x :: (W ++ [y])=(x :: W) ++ [y] from rfl,List.getLast?_append];rfl
theorem best_dist {g:G} {x y:Nat} {b:C} (h:BestIs g (eAt g x) (eAt g y) b true) (hn:¬g.Near x y):Dist g.E x y b:=by
 have hw:=tot_walk (h.2 rfl).1
 obtain ⟨d,hd⟩:=Dist.exist (fun _ _ _ he=>G.E_nn he) hw
 have ht:TotL g (eAt g x) (eAt g y) d:=eAt_tot.2 (G2.by_corners hd hn);obtain rfl:b=d:=C.le_antisymm ((h.2 rfl).2 _ ht) (hd.2 _ hw);exact hd
theorem best_none {g:G} {x y:Nat} {b:C} (h:BestIs g (eAt g x) (eAt g y) b false) (hn:¬g.Near x y) (c:C):¬Walk g.E x y c:=fun hw=>by
 obtain ⟨d,hd⟩:=Dist.exist (fun _ _ _ he=>G.E_nn he) hw
 exact (h.1 rfl).2 _ (eAt_tot.2 (G2.by_corners hd hn))
theorem stops_of {g : G} (hok : g.ok) {x y : Nat} (hx : x < g.n) (hy : y < g.n) (fx : g.b x = false) (fy : g.b y = false) {cT : C} {Wy : List Nat} {f : Int → Option C} (hB : BestIs g (eAt g x) (eAt g y) cT true)
    (hF:FinK (eAt g y) (eAt g y).length f) (hW:WayIs g (srF f) (eAt g x) cT Wy) (hn:¬g.Near x y):LS.LW (NrE g) (x :: (Wy ++ [y])) cT:=by
 obtain ⟨s,t,d,cw,e,h1,h2,h3,h4,h5,h6⟩:=hW;obtain ⟨q1,q2,rfl⟩:=eAt_src.1 h1
 obtain ⟨e',he',hto,rfl⟩:=hF.some_ _ _ (show f (t:Nat)=some e from h5)
 obtain ⟨z,r1,_,r2,rfl⟩:=mem_eUp.1 he';obtain rfl:z=t:=Int.ofNat_inj.1 hto
 have l1:LS.LW (NrE g) Wy cw:=lw_map (fun _ _ _=>ge_nr hok) h4
 have n1:NrE g x s (g.oct x s):=⟨hx,q1.1,fx,corner_open hok q1,q2.1,rfl⟩;have n2:NrE g z y (g.oct y z):=⟨r1.1,hy,corner_open hok r1,fy,G.near_symm.1 r2.1,G.oct_symm ..⟩
 have l2:LS.LW (NrE g) (Wy ++ [y]) (C.add cw (g.oct y z)):=by
  have:=lw_join l1 h3 (LS.LW.cons n2 (LS.LW.one y))
  rwa [C.add_zero] at this
 have l3:LS.LW (NrE g) (x :: (Wy ++ [y])) (C.add (g.oct x s) (C.add cw (g.oct y z))):=by
  cases Wy with
  | nil=>simp at h2
  | cons w l=>
   simp at h2;subst h2;exact LS.LW.cons n1 l2
 have hw:Walk g.E x y (C.add (g.oct x s) (C.add cw (g.oct y z))):=lw_nr_walk l3 (last_cons ..);have e:C.add (g.oct x s) (C.add cw (g.oct y z))=cT:=C.le_antisymm h6 ((best_dist hB hn).2 _ hw);rw [←e];exact l3
def AskIs (g:G) (x y:Int) (W:List Nat) (c:C) (e:Nat):Prop:=
 (flt2 g x y≠0∧e=flt2 g x y∧W=[]∧c=C.zero) ∨
 ∃a b:Nat,x=(a:Nat)∧y=(b:Nat)∧a<g.n∧b<g.n∧g.b a=false∧g.b b=false ∧
  (((∀d,¬Walk g.E a b d)∧e=5∧W=[]∧c=C.zero)∨(Dist g.E a b c∧e=0∧LS.LW g.E W c∧W.head? = some a∧W.getLast? = some b))
theorem flt2_both {g:G} {x y:Int} (h1:g.fault x=0) (h2:g.fault y=0):flt2 g x y=0:=by
 unfold flt2;rw [if_neg (by simp [h1]),h2]
theorem AskIs.cells {g : G} {x y : Int} {W : List Nat} {c : C} {e : Nat} (h : AskIs g x y W c e) (h0 : flt2 g x y = 0) :
    ∃a b:Nat,x=(a:Nat)∧y=(b:Nat)∧a<g.n∧b<g.n∧g.b a=false∧g.b b=false ∧
     (((∀d,¬Walk g.E a b d)∧e=5∧W=[]∧c=C.zero)∨(Dist g.E a b c∧e=0∧LS.LW g.E W c∧W.head? = some a∧W.getLast? = some b)):=by
 rcases h with ⟨h,_⟩ | h
 ·exact absurd h0 h
 ·exact h
theorem AskIs.ok {g : G} {x y : Int} {W : List Nat} {c : C} {e : Nat} (h : AskIs g x y W c e) (he : e = 0) :
    ∃a b:Nat,x=(a:Nat)∧y=(b:Nat)∧a<g.n∧b<g.n∧g.b a=false∧g.b b=false∧Dist g.E a b c∧LS.LW g.E W c∧W.head? = some a∧W.getLast? = some b:=by
 rcases h with ⟨h1,h2,_⟩ | ⟨a,b,h1,h2,h3,h4,h5,h6,h7 | ⟨h7,_,h8⟩⟩
 ·exact absurd (h2.symm.trans he) h1
 ·omega
 ·exact ⟨a,b,h1,h2,h3,h4,h5,h6,h7,h8⟩
end Go.Proofs.YtokhnobcincfjaaGreatDoor
namespace Go.Proofs.YtokhnobcincfjaaGreatDoor
open Go.RowKit Go.Sort FR Go.Lib
theorem callEnter {f:FuncId} {fn:Func} {c:Code} (hf:Tryz.prog.funcs[f]? = some fn) (hname:(fn.name == "runtime.NumGoroutine")=false) (hb:fn.body=some c) (args:Array Value) (w:World):(callFunc f args).run Tryz.prog w=.ok (.enter f args) w:=by
 have h1:fn.name ≠ "runtime.NumGoroutine":=by simpa using hname
 simp [callFunc,hf,h1,hb]
def octH (g:G) (x:Nat) (n:Nat):C:=if n=256 then C.zero else g.oct n x
theorem octH_256 (g:G) (x:Nat):octH g x 256=C.zero:=if_pos rfl
theorem octH_at {g:G} (hok:g.ok) (x:Nat) {n:Nat} (hn:n<g.n):octH g x n=g.oct n x:=if_neg (by have:=G.n_le hok;omega)
theorem octH_small {g:G} (hok:g.ok) {x:Nat} (hx:x<g.n):∀j,g.Corner j→0≤(octH g x j).s∧(octH g x j).s≤1000∧0≤(octH g x j).d∧(octH g x j).d≤1000:=fun j hj=>by
 rw [octH_at hok x hj.1];have:=G.oct_small hok hx hj.1;omega
theorem srE_walk {g:G} {tp:Nat} {S:LS} (H:LS.Fin g tp S) {mark:Nat→Bool} {fin:Nat→Option C} {a b:Nat} {p:C} (hw:Walk (srE S tp mark fin) a b p) (ha:a≠256):(b≠256→Walk g.GE a b p)∧(b=256→∃t d e,Walk g.GE a t d∧fin t=some e∧p=C.add d e):=by
 induction hw with
 | nil=>exact ⟨fun _=>.nil _,fun e=>absurd e ha⟩
 | @snoc m b d e hw he ih=>
  rcases he with ⟨m1,b1,_,k,hk⟩ | ⟨m1,b1,hf⟩
  ·exact ⟨fun _=>(ih.1 m1).trans (H.walk _ _ _ _ hk),fun e=>absurd e b1⟩
  ·exact ⟨fun e=>absurd b1 e,fun _=>⟨m,d,e,ih.1 m1,hf,rfl⟩⟩
theorem srE_from {S:LS} {tp:Nat} {mark:Nat→Bool} {fin:Nat→Option C} {b:Nat} {p:C} (hw:Walk (srE S tp mark fin) 256 b p):p=C.zero∧b=256:=by
 induction hw with
 | nil=>exact ⟨rfl,rfl⟩
 | @snoc m b d e hw he ih=>
  rcases he with ⟨m1,_⟩ | ⟨m1,_⟩
  ·exact absurd ih.2 m1
  ·exact absurd ih.2 m1
theorem hh_oct {g:G} (hok:g.ok) {tp:Nat} {S:LS} (H:LS.Fin g tp S) {inn:List Ed} {x:Nat} (hi:∀e∈inn,∀t:Nat,e.to_=t→C.le (g.oct t x) e.c) (mkB:Nat→Bool) (f:Int→Option C) (hf:FinK inn inn.length f):∀j t d,Walk (srE S tp mkB (srF f)) j t d→t=256→C.le (octH g x j) d:=by
 intro j t d hw ht
 by_cases hj:j=256
 ·subst hj
  rw [octH_256,(srE_from hw).1];exact C.le_refl _
 ·obtain ⟨t',d1,e,h1,h2,rfl⟩:=(srE_walk H hw hj).2 ht
  obtain ⟨y,hy,h3,rfl⟩:=hf.some_ _ _ h2;have h4:=hi y hy t' h3;have h5:octH g x j=g.oct j x:=if_neg hj;rw [h5];exact C.le_trans (G.oct_tri g j t' x) (C.add_le_add (G.oct_le (G.GE_walk h1)) h4)
end Go.Proofs.YtokhnobcincfjaaGreatDoor
namespace Go.Proofs.YtokhnobcincfjaaGreatDoor
open FR
theorem lw_len {g:G}:∀ {W:List Nat} {c:C},LS.LW g.E W c→(W.length:Int)=c.s+c.d+1
 | _,_,.one a=>by simp [C.zero]
 | _,_,.cons (l:=l) (b:=b) he h=>by
  have ih:=lw_len h;obtain ⟨_,d,_,_,_,e⟩:=he;rw [e]
  simp only [List.length_cons] at ih ⊢
  unfold stepC C.add
  split <;> simp only <;> omega
theorem AskIs.len {g:G} (hok:g.ok) {x y:Int} {W:List Nat} {c:C} {e:Nat} (h:AskIs g x y W c e) (he:e=0):W.length≤1025∧0<W.length∧0≤c.s∧c.s≤512∧0≤c.d∧c.d≤512:=by
 obtain ⟨a,b,_,_,h1,_,_,_,hd,hl,hh,_⟩:=h.ok he;have:=lw_len hl;obtain ⟨q1,q2,q3,q4⟩:=G.dist_small hok h1 hd
 refine ⟨by omega,by omega,q1,q2,q3,q4⟩
theorem AskIs.zero {g:G} {x y:Int} {W:List Nat} {c:C} {e:Nat} (h:AskIs g x y W c e) (he:e≠0):W=[]∧c=C.zero:=by
 rcases h with ⟨_,_,h1,h2⟩ | ⟨_,_,_,_,_,_,_,_,⟨_,_,h1,h2⟩ | ⟨_,h0,_⟩⟩
 ·exact ⟨h1,h2⟩
 ·exact ⟨h1,h2⟩
 ·exact absurd h0 he
theorem AskIs.wout {g:G} (hok:g.ok) {x y:Int} {W:List Nat} {c:C} {e:Nat} (h:AskIs g x y W c e) (he:e=0):g.wout (fun i=>(natI W).getD i 0) W.length=(c,0):=by
 obtain ⟨a,b,_,_,h1,_,h3,_,hd,hl,hh,_⟩:=h.ok he;exact lw_wout hok hl hh h1 h3
theorem op_same {g g2:G} (hw:g2.w=g.w) (hh:g2.h=g.h) (hb:∀c,c<g.n→g2.b c=g.b c):g2.op=g.op:=by
 funext x y
 unfold G.op;rw [hw,hh]
 by_cases h:0≤x∧x<g.w∧0≤y∧y<g.h
 ·rw [hb]
  obtain ⟨h1,h2,h3,h4⟩:=h
  have:y.toNat*g.w+x.toNat<(y.toNat+1)*g.w:=by rw [Nat.add_mul];omega
  exact Nat.lt_of_lt_of_le this (by rw [G.n,Nat.mul_comm];exact Nat.mul_le_mul_left _ (by omega))
 ·rw [decide_eq_false h,Bool.false_and,Bool.false_and]
theorem E_same {g g2:G} (hw:g2.w=g.w) (hh:g2.h=g.h) (hb:∀c,c<g.n→g2.b c=g.b c):g2.E=g.E:=by
 have h1:=op_same hw hh hb
 have hm:g2.may=g.may:=by funext x y d;unfold G.may;rw [h1]
 have hX:g2.X=g.X:=by funext c;unfold G.X;rw [hw]
 have hY:g2.Y=g.Y:=by funext c;unfold G.Y;rw [hw]
 have hc:g2.mayC=g.mayC:=by funext c d;unfold G.mayC;rw [hm,hX,hY]
 have ht:g2.to=g.to:=by funext c d;unfold G.to G.toI;rw [hw]
 have hn:g2.n=g.n:=by unfold G.n;rw [hw,hh]
 funext a b c
 unfold G.E;rw [hn,hc,ht]
theorem fault_same {g g2:G} (hw:g2.w=g.w) (hh:g2.h=g.h) (hb:∀c,c<g.n→g2.b c=g.b c) (x:Int):g2.fault x=g.fault x:=by
 have hn:g2.n=g.n:=by unfold G.n;rw [hw,hh]
 unfold G.fault;rw [hn]
 split
 ·rfl
 ·rw [hb _ (by omega)]
theorem AskIs.same {g g2:G} (hw:g2.w=g.w) (hh:g2.h=g.h) (hb:∀c,c<g.n→g2.b c=g.b c) {x y:Int} {W:List Nat} {c:C} {e:Nat} (h:AskIs g2 x y W c e):AskIs g x y W c e:=by
 have hn:g2.n=g.n:=by unfold G.n;rw [hw,hh]
 have hE:=E_same hw hh hb
 unfold AskIs at h ⊢
 have hf:flt2 g2 x y=flt2 g x y:=by unfold flt2;rw [fault_same hw hh hb,fault_same hw hh hb]
 rw [hf,hE,hn] at h
 rcases h with h | ⟨a,b,h1,h2,h3,h4,h5,h6,h7⟩
 ·exact .inl h
 ·exact .inr ⟨a,b,h1,h2,h3,h4,by rw [←hb a h3];exact h5,by rw [←hb b h4];exact h6,h7⟩
theorem uv_dir {u v:Int} (hu:u = -1∨u=0∨u=1) (hv:v = -1∨v=0∨v=1) (h:u≠0∨v≠0):∃d,d<8∧dxN d=u∧dyN d=v∧stepC d=if u≠0∧v≠0 then ⟨0,1⟩ else ⟨1,0⟩:=by
 rcases hu with rfl | rfl | rfl <;> rcases hv with rfl | rfl | rfl
 ·exact ⟨7,by decide,rfl,rfl,by decide⟩
 ·exact ⟨6,by decide,rfl,rfl,by decide⟩
 ·exact ⟨5,by decide,rfl,rfl,by decide⟩
 ·exact ⟨0,by decide,rfl,rfl,by decide⟩
 ·omega
 ·exact ⟨4,by decide,rfl,rfl,by decide⟩
 ·exact ⟨1,by decide,rfl,rfl,by decide⟩
 ·exact ⟨2,by decide,rfl,rfl,by decide⟩
 ·exact ⟨3,by decide,rfl,rfl,by decide⟩
theorem dir_uv {d:Nat} (h:d<8):(dxN d = -1∨dxN d=0∨dxN d=1)∧(dyN d = -1∨dyN d=0∨dyN d=1)∧(dxN d≠0∨dyN d≠0)∧stepC d=if dxN d≠0∧dyN d≠0 then ⟨0,1⟩ else ⟨1,0⟩:=by
 have:d=0∨d=1∨d=2∨d=3∨d=4∨d=5∨d=6∨d=7:=by omega
 rcases this with rfl | rfl | rfl | rfl | rfl | rfl | rfl | rfl <;> decide
def Stp (g:G) (a b:Nat) (c:C) (u v:Int):Prop:=
 (u = -1∨u=0∨u=1)∧(v = -1∨v=0∨v=1)∧(u≠0∨v≠0)∧c=(if u≠0∧v≠0 then ⟨0,1⟩ else ⟨1,0⟩) ∧
 g.op (g.X a) (g.Y a)=true∧g.op (g.X a+u) (g.Y a+v)=true∧g.op (g.X a+u) (g.Y a)=true∧g.op (g.X a) (g.Y a+v)=true∧(g.X b:Int)=g.X a+u∧(g.Y b:Int)=g.Y a+v
theorem cell_ext {g:G} {a b:Nat} (h1:(g.X a:Int)=g.X b) (h2:(g.Y a:Int)=g.Y b):a=b:=by
 rw [←G.cell_XY g a,←G.cell_XY g b,Int.ofNat_inj.1 h1,Int.ofNat_inj.1 h2]
theorem E_uv {g:G} {a b:Nat} {c:C}:g.E a b c↔a<g.n∧b<g.n∧∃u v,Stp g a b c u v:=by
 constructor
 ·intro h
  have hb:=G.E_lt h;obtain ⟨ha,d,hd,hm,rfl,rfl⟩:=h;obtain ⟨_,t1,t2⟩:=G.mayC_to hm;obtain ⟨m1,m2,m3,m4⟩:=G.may_iff.1 hm;obtain ⟨d1,d2,d3,d4⟩:=dir_uv hd;exact ⟨ha,hb,dxN d,dyN d,d1,d2,d3,d4,m1,m2,m3,m4,t1,t2⟩
 ·rintro ⟨ha,hb,u,v,h1,h2,h3,rfl,h5,h6,h7,h8,h9,h10⟩
  obtain ⟨d,hd,rfl,rfl,e⟩:=uv_dir h1 h2 h3;have hm:g.mayC a d=true:=G.may_iff.2 ⟨h5,h6,h7,h8⟩;obtain ⟨_,t1,t2⟩:=G.mayC_to hm
  exact ⟨ha,d,hd,hm,cell_ext (g:=g) (by omega) (by omega),e.symm⟩
structure Emb (g g':G) (f:Int→Int→Int×Int) (s:Bool) (p q:Int) (σ:Nat→Nat):Prop where
 op:∀x y,g'.op (f x y).1 (f x y).2=g.op x y
 hp:p=1∨p = -1
 hq:q=1∨q = -1
 lin:∀x y u v,f (x+u) (y+v)=if s then ((f x y).1+q*v,(f x y).2+p*u) else ((f x y).1+p*u,(f x y).2+q*v)
 lt:∀a,a<g.n→σ a<g'.n
 pl:∀a,a<g.n→(g'.X (σ a):Int)=(f (g.X a) (g.Y a)).1∧(g'.Y (σ a):Int)=(f (g.X a) (g.Y a)).2
namespace Emb
variable {g g':G} {f:Int→Int→Int×Int} {s:Bool} {p q:Int} {σ:Nat→Nat}
theorem opA (h:Emb g g' f s p q σ) {a:Nat} (ha:a<g.n) (u v:Int):g.op (g.X a+u) (g.Y a+v)=if s then g'.op (g'.X (σ a)+q*v) (g'.Y (σ a)+p*u) else g'.op (g'.X (σ a)+p*u) (g'.Y (σ a)+q*v):=by
 obtain ⟨h1,h2⟩:=h.pl a ha;rw [←h.op,h.lin,h1,h2]
 cases s <;> rfl
theorem inj (h:Emb g g' f s p q σ) {a b:Nat} (ha:a<g.n) (hb:b<g.n) (e:σ a=σ b):a=b:=by
 obtain ⟨a1,a2⟩:=h.pl a ha;obtain ⟨b1,b2⟩:=h.pl b hb;rw [e] at a1 a2;have hl:=h.lin (g.X a) (g.Y a) ((g.X b:Int)-g.X a) ((g.Y b:Int)-g.Y a)
 rw [show (g.X a:Int)+((g.X b:Int)-g.X a)=g.X b by omega,show (g.Y a:Int)+((g.Y b:Int)-g.Y a)=g.Y b by omega] at hl
 have h1:=congrArg Prod.fst hl;have h2:=congrArg Prod.snd hl;have hp:=h.hp;have hq:=h.hq
 cases s
 ·simp only [Bool.false_eq_true,if_false] at h1 h2
  refine cell_ext (g:=g) ?_ ?_
  ·rcases hp with rfl | rfl <;> omega
  ·rcases hq with rfl | rfl <;> omega
 ·simp only [if_true] at h1 h2
  refine cell_ext (g:=g) ?_ ?_
  ·rcases hp with rfl | rfl <;> omega
  ·rcases hq with rfl | rfl <;> omega
theorem fwd (h:Emb g g' f s p q σ) {a b:Nat} {c:C} (he:g.E a b c):g'.E (σ a) (σ b) c:=by
 obtain ⟨ha,hb,u,v,h1,h2,h3,rfl,h5,h6,h7,h8,h9,h10⟩:=E_uv.1 he;obtain ⟨a1,a2⟩:=h.pl a ha;obtain ⟨b1,b2⟩:=h.pl b hb;have o0:=h.opA ha 0 0;have o1:=h.opA ha u v;have o2:=h.opA ha u 0;have o3:=h.opA ha 0 v;have hl:=h.lin (g.X a) (g.Y a) u v;rw [h9,h10,hl] at b1 b2;simp only [Int.add_zero,Int.mul_zero] at o0 o1 o2 o3;rw [h5] at o0;rw [h6] at o1;rw [h7] at o2;rw [h8] at o3;have hp:=h.hp;have hq:=h.hq;refine E_uv.2 ⟨h.lt a ha,h.lt b hb,?_⟩
 cases s
 ·simp only [Bool.false_eq_true,if_false] at o0 o1 o2 o3 b1 b2
  refine ⟨p*u,q*v,?_,?_,?_,?_,o0.symm,o1.symm,o2.symm,o3.symm,by rw [b1,a1],by rw [b2,a2]⟩
  ·rcases hp with rfl | rfl <;> omega
  ·rcases hq with rfl | rfl <;> omega
  ·rcases hp with rfl | rfl <;> rcases hq with rfl | rfl <;> omega
  ·have e:(u≠0∧v≠0)↔(p*u≠0∧q*v≠0):=by rcases hp with rfl | rfl <;> rcases hq with rfl | rfl <;> omega
   simp only [e]
 ·simp only [if_true] at o0 o1 o2 o3 b1 b2
  refine ⟨q*v,p*u,?_,?_,?_,?_,o0.symm,o1.symm,o3.symm,o2.symm,by rw [b1,a1],by rw [b2,a2]⟩
  ·rcases hq with rfl | rfl <;> omega
  ·rcases hp with rfl | rfl <;> omega
  ·rcases hp with rfl | rfl <;> rcases hq with rfl | rfl <;> omega
  ·have e:(u≠0∧v≠0)↔(q*v≠0∧p*u≠0):=by rcases hp with rfl | rfl <;> rcases hq with rfl | rfl <;> omega
   simp only [e]
theorem bwd (h:Emb g g' f s p q σ) {a y:Nat} {c:C} (ha:a<g.n) (he:g'.E (σ a) y c):∃b,b<g.n∧y=σ b∧g.E a b c:=by
 obtain ⟨_,hy,u',v',h1,h2,h3,rfl,h5,h6,h7,h8,h9,h10⟩:=E_uv.1 he;obtain ⟨a1,a2⟩:=h.pl a ha;have hp:=h.hp;have hq:=h.hq
 obtain ⟨u,v,e1,e2⟩:∃u v:Int,u'=(if s then q*v else p*u)∧v'=(if s then p*u else q*v):=by
  cases s
  ·exact ⟨p*u',q*v',by rcases hp with rfl | rfl <;> simp,by rcases hq with rfl | rfl <;> simp⟩
  ·exact ⟨p*v',q*u',by rcases hq with rfl | rfl <;> simp,by rcases hp with rfl | rfl <;> simp⟩
 have o0:=h.opA ha 0 0;have o1:=h.opA ha u v;have o2:=h.opA ha u 0;have o3:=h.opA ha 0 v;simp only [Int.add_zero,Int.mul_zero] at o0 o1 o2 o3
 have key:g.op (g.X a) (g.Y a)=true∧g.op (g.X a+u) (g.Y a+v)=true∧g.op (g.X a+u) (g.Y a)=true∧g.op (g.X a) (g.Y a+v)=true:=by
  cases s
  ·simp only [Bool.false_eq_true,if_false] at o0 o1 o2 o3 e1 e2
   subst e1;subst e2
   exact ⟨by rw [o0,h5],by rw [o1,h6],by rw [o2,h7],by rw [o3,h8]⟩
  ·simp only [if_true] at o0 o1 o2 o3 e1 e2
   subst e1;subst e2
   exact ⟨by rw [o0,h5],by rw [o1,h6],by rw [o2,h8],by rw [o3,h7]⟩
 obtain ⟨k0,k1,k2,k3⟩:=key;obtain ⟨q1,q2,q3⟩:=G.at_XY k1;refine ⟨_,q1,?_,E_uv.2 ⟨ha,q1,u,v,?_,?_,?_,?_,k0,k1,k2,k3,q2,q3⟩⟩
 ·obtain ⟨b1,b2⟩:=h.pl _ q1
  rw [q2,q3,h.lin] at b1 b2
  cases s
  ·simp only [Bool.false_eq_true,if_false] at b1 b2 e1 e2
   exact cell_ext (g:=g') (by omega) (by omega)
  ·simp only [if_true] at b1 b2 e1 e2
   exact cell_ext (g:=g') (by omega) (by omega)
 ·cases s <;> simp only [Bool.false_eq_true,if_false,if_true] at e1 e2 <;> rcases hp with rfl | rfl <;> omega
 ·cases s <;> simp only [Bool.false_eq_true,if_false,if_true] at e1 e2 <;> rcases hq with rfl | rfl <;> omega
 ·cases s <;> simp only [Bool.false_eq_true,if_false,if_true] at e1 e2 <;> rcases hp with rfl | rfl <;> rcases hq with rfl | rfl <;> omega
 ·have e : (u ≠ 0 ∧ v ≠ 0) ↔ (u' ≠ 0 ∧ v' ≠ 0) := by
    cases s <;> simp only [Bool.false_eq_true,if_false,if_true] at e1 e2 <;> rcases hp with rfl | rfl <;> rcases hq with rfl | rfl <;> omega
  simp only [e]
theorem walk (h:Emb g g' f s p q σ) {a b:Nat} {c:C} (hw:Walk g.E a b c):Walk g'.E (σ a) (σ b) c:=by
 induction hw with
 | nil=>exact .nil _
 | snoc _ he ih=>exact .snoc ih (h.fwd he)
theorem back (h:Emb g g' f s p q σ) {a y:Nat} {c:C} (ha:a<g.n) (hw:Walk g'.E (σ a) y c):∃b,b<g.n∧y=σ b∧Walk g.E a b c:=by
 generalize hz:σ a=z at hw
 induction hw with
 | nil=>exact ⟨a,ha,hz.symm,.nil _⟩
 | snoc _ he ih=>
  obtain ⟨m,hm,rfl,hw⟩:=ih;obtain ⟨b,hb,rfl,he'⟩:=h.bwd hm he;exact ⟨b,hb,rfl,.snoc hw he'⟩
theorem dist (h:Emb g g' f s p q σ) {a b:Nat} {c:C} (ha:a<g.n) (hb:b<g.n):Dist g.E a b c↔Dist g'.E (σ a) (σ b) c:=by
 have hbk:∀d,Walk g'.E (σ a) (σ b) d→Walk g.E a b d:=fun d hw=>by
  obtain ⟨b',hb',e,hw'⟩:=h.back ha hw
  rwa [h.inj hb hb' e]
 exact ⟨fun k=>⟨h.walk k.1,fun d hw=>k.2 d (hbk d hw)⟩,fun k=>⟨hbk _ k.1,fun d hw=>k.2 d (h.walk hw)⟩⟩
theorem bl (h:Emb g g' f s p q σ) (hg:g.ok) (hg':g'.ok) {a:Nat} (ha:a<g.n):g'.b (σ a)=g.b a:=by
 have o:=h.opA ha 0 0;simp only [Int.add_zero,Int.mul_zero,ite_self] at o;rw [G.op_cell hg ha,G.op_cell hg' (h.lt a ha)] at o
 revert o
 cases g.b a <;> cases g'.b (σ a) <;> simp
theorem ask (h:Emb g g' f s p q σ) (hg:g.ok) (hg':g'.ok) {a b:Nat} (ha:a<g.n) (hb:b<g.n) {W W':List Nat} {c c':C} {e e':Nat} (k:AskIs g (a:Nat) (b:Nat) W c e) (k':AskIs g' (σ a:Nat) (σ b:Nat) W' c' e'):c=c'∧e=e':=by
 have hf:flt2 g' (σ a:Nat) (σ b:Nat)=flt2 g (a:Nat) (b:Nat):=by
  unfold flt2;rw [G.fault_in ha,G.fault_in hb,G.fault_in (h.lt a ha),G.fault_in (h.lt b hb),h.bl hg hg' ha,h.bl hg hg' hb]
 by_cases h0:flt2 g (a:Nat) (b:Nat)=0
 ·obtain ⟨a1,b1,e1,e2,_,_,_,_,hh⟩:=k.cells h0
  obtain rfl:a=a1:=Int.ofNat_inj.1 e1;obtain rfl:b=b1:=Int.ofNat_inj.1 e2;obtain ⟨a1,b1,e1,e2,_,_,_,_,hh'⟩:=k'.cells (hf.trans h0);obtain rfl:σ a=a1:=Int.ofNat_inj.1 e1;obtain rfl:σ b=b1:=Int.ofNat_inj.1 e2
  rcases hh with ⟨x1,x2,_,x3⟩ | ⟨x1,x2,_⟩ <;> rcases hh' with ⟨y1,y2,_,y3⟩ | ⟨y1,y2,_⟩
  ·exact ⟨by rw [x3,y3],by rw [x2,y2]⟩
  ·exact absurd ((h.dist ha hb).2 y1).1 (x1 _)
  ·exact absurd ((h.dist ha hb).1 x1).1 (y1 _)
  ·exact ⟨((h.dist ha hb).1 x1).unique y1,by rw [x2,y2]⟩
 ·rcases k with ⟨_,x2,_,x3⟩ | ⟨a1,b1,e1,e2,a3,a4,a5,a6,_⟩
  ·rcases k' with ⟨_,y2,_,y3⟩ | ⟨a1,b1,e1,e2,a3,a4,a5,a6,_⟩
   ·exact ⟨by rw [x3,y3],by rw [x2,y2,hf]⟩
   ·exact absurd (hf▸flt2_both (by rw [e1,G.fault_in a3,a5];rfl) (by rw [e2,G.fault_in a4,a6];rfl)) h0
  ·exact absurd (flt2_both (by rw [e1,G.fault_in a3,a5];rfl) (by rw [e2,G.fault_in a4,a6];rfl)) h0
end Emb
end Go.Proofs.YtokhnobcincfjaaGreatDoor
namespace Go.Proofs.YtokhnobcincfjaaGreatDoor
open FR
theorem octI_abs (x y x' y':Int) (h1:x.natAbs=x'.natAbs) (h2:y.natAbs=y'.natAbs):octI x y=octI x' y':=by unfold octI;rw [h1,h2]
namespace Emb
variable {g g':G} {f:Int→Int→Int×Int} {s:Bool} {p q:Int} {σ:Nat→Nat}
theorem opT (h:Emb g g' f s p q σ) {a:Nat} (ha:a<g.n) (u v:Int):g'.op (g'.X (σ a)+u) (g'.Y (σ a)+v)=if s then g.op (g.X a+p*v) (g.Y a+q*u) else g.op (g.X a+p*u) (g.Y a+q*v):=by
 have hp:=h.hp;have hq:=h.hq
 cases s
 ·have o:=h.opA ha (p*u) (q*v)
  simp only [Bool.false_eq_true,if_false] at o ⊢
  rw [o]
  congr 1
  ·rcases hp with rfl | rfl <;> omega
  ·rcases hq with rfl | rfl <;> omega
 ·have o:=h.opA ha (p*v) (q*u)
  simp only [if_true] at o ⊢
  rw [o]
  congr 1
  ·rcases hq with rfl | rfl <;> omega
  ·rcases hp with rfl | rfl <;> omega
theorem corner (h:Emb g g' f s p q σ) {a:Nat} (ha:a<g.n):g'.Corner (σ a)↔g.Corner a:=by
 have hp:=h.hp;have hq:=h.hq;have o0:=h.opT ha 0 0;simp only [Int.add_zero,Int.mul_zero,ite_self] at o0
 have pm:∀ {p u:Int},(p=1∨p = -1)→(u=1∨u = -1)→(p*u=1∨p*u = -1):=by
  intro p u h1 h2
  rcases h1 with rfl | rfl <;> rcases h2 with rfl | rfl <;> decide
 constructor
 ·rintro ⟨_,h2,u,v,hu,hv,h3,h4,h5⟩
  have o1:=h.opT ha u v;have o2:=h.opT ha u 0;have o3:=h.opT ha 0 v;simp only [Int.add_zero,Int.mul_zero] at o1 o2 o3
  refine ⟨ha,by rw [←o0];exact h2,?_⟩
  cases s
  ·simp only [Bool.false_eq_true,if_false] at o1 o2 o3
   exact ⟨p*u,q*v,pm hp hu,pm hq hv,by rw [←o1];exact h3,by rw [←o2];exact h4,by rw [←o3];exact h5⟩
  ·simp only [if_true] at o1 o2 o3
   exact ⟨p*v,q*u,pm hp hv,pm hq hu,by rw [←o1];exact h3,by rw [←o3];exact h5,by rw [←o2];exact h4⟩
 ·rintro ⟨_,h2,u,v,hu,hv,h3,h4,h5⟩
  have o1:=h.opA ha u v;have o2:=h.opA ha u 0;have o3:=h.opA ha 0 v;simp only [Int.add_zero,Int.mul_zero] at o1 o2 o3
  refine ⟨h.lt a ha,by rw [o0];exact h2,?_⟩
  cases s
  ·simp only [Bool.false_eq_true,if_false] at o1 o2 o3
   exact ⟨p*u,q*v,pm hp hu,pm hq hv,by rw [←o1];exact h3,by rw [←o2];exact h4,by rw [←o3];exact h5⟩
  ·simp only [if_true] at o1 o2 o3
   exact ⟨q*v,p*u,pm hq hv,pm hp hu,by rw [←o1];exact h3,by rw [←o3];exact h5,by rw [←o2];exact h4⟩
theorem oct (h:Emb g g' f s p q σ) {a b:Nat} (ha:a<g.n) (hb:b<g.n):g'.oct (σ a) (σ b)=g.oct a b:=by
 obtain ⟨a1,a2⟩:=h.pl a ha;obtain ⟨b1,b2⟩:=h.pl b hb;have hp:=h.hp;have hq:=h.hq;have hl:=h.lin (g.X a) (g.Y a) ((g.X b:Int)-g.X a) ((g.Y b:Int)-g.Y a)
 rw [show (g.X a:Int)+((g.X b:Int)-g.X a)=g.X b by omega,show (g.Y a:Int)+((g.Y b:Int)-g.Y a)=g.Y b by omega] at hl
 rw [hl] at b1 b2;unfold G.oct;rw [a1,a2,b1,b2]
 cases s
 ·simp only [Bool.false_eq_true,if_false]
  refine octI_abs _ _ _ _ ?_ ?_
  ·rcases hp with rfl | rfl <;> omega
  ·rcases hq with rfl | rfl <;> omega
 ·simp only [if_true]
  rw [octI_swap];refine octI_abs _ _ _ _ ?_ ?_
  ·rcases hp with rfl | rfl <;> omega
  ·rcases hq with rfl | rfl <;> omega
theorem walkB (h:Emb g g' f s p q σ) {a b:Nat} {c:C} (ha:a<g.n) (hb:b<g.n):Walk g'.E (σ a) (σ b) c↔Walk g.E a b c:=by
 refine ⟨fun hw=>?_,h.walk⟩
 obtain ⟨b',hb',e,hw'⟩:=h.back ha hw
 rwa [h.inj hb hb' e]
theorem near (h:Emb g g' f s p q σ) {a b:Nat} (ha:a<g.n) (hb:b<g.n):g'.Near (σ a) (σ b)↔g.Near a b:=by
 unfold G.Near;rw [h.oct ha hb];exact h.walkB ha hb
theorem mid (h:Emb g g' f s p q σ) {a b k:Nat} (ha:a<g.n) (hb:b<g.n) (hk:k<g.n):g'.Mid (σ a) (σ b) (σ k)↔g.Mid a b k:=by
 unfold G.Mid;rw [h.oct ha hb]
 constructor
 ·rintro ⟨x,y,h1,h2,h3⟩
  exact ⟨x,y,(h.walkB ha hk).1 h1,(h.walkB hk hb).1 h2,h3⟩
 ·rintro ⟨x,y,h1,h2,h3⟩
  exact ⟨x,y,(h.walkB ha hk).2 h1,(h.walkB hk hb).2 h2,h3⟩
def Cov (g g':G) (σ:Nat→Nat):Prop:=∀y,g'.Corner y→∃a,a<g.n∧y=σ a
theorem direct (h:Emb g g' f s p q σ) (hc:Cov g g' σ) {a b:Nat} (ha:a<g.n) (hb:b<g.n):g'.Direct (σ a) (σ b)↔g.Direct a b:=by
 unfold G.Direct;rw [h.near ha hb]
 constructor
 ·rintro ⟨h1,h2⟩
  refine ⟨h1,fun k hk n1 n2 hm=>?_⟩
  exact h2 (σ k) ((h.corner hk.1).2 hk) (fun e=>n1 (h.inj hk.1 ha e)) (fun e=>n2 (h.inj hk.1 hb e)) ((h.mid ha hb hk.1).2 hm)
 ·rintro ⟨h1,h2⟩
  refine ⟨h1,fun y hy n1 n2 hm=>?_⟩
  obtain ⟨k,hk,rfl⟩:=hc y hy
  exact h2 k ((h.corner hk).1 hy) (fun e=>n1 (by rw [e])) (fun e=>n2 (by rw [e])) ((h.mid ha hb hk).1 hm)
theorem ge (h:Emb g g' f s p q σ) (hc:Cov g g' σ) {a b:Nat} {c:C} (ha:a<g.n) (hb:b<g.n):g'.GE (σ a) (σ b) c↔g.GE a b c:=by
 unfold G.GE;rw [h.corner ha,h.corner hb,h.direct hc ha hb,h.oct ha hb]
 have:σ a≠σ b↔a≠b:=⟨fun k e=>k (by rw [e]),fun k e=>k (h.inj ha hb e)⟩
 rw [this]
theorem corners (h:Emb g g' f s p q σ) (hc:Cov g g' σ):(cornersN g').Perm ((cornersN g).map σ):=by
 have nd:∀g:G,(cornersN g).Nodup:=fun g=>(cornersN_sorted g).imp (fun h=>Nat.ne_of_lt h)
 refine (List.perm_ext_iff_of_nodup (nd g') ?_).2 (fun y=>?_)
 ·exact List.Pairwise.map _ (fun a b k=>k) (List.Pairwise.imp_of_mem (fun {a b} ha hb k e=>k (h.inj (mem_cornersN.1 ha).1 (mem_cornersN.1 hb).1 e)) (nd g))
 ·rw [mem_cornersN,List.mem_map]
  constructor
  ·intro hy
   obtain ⟨a,ha,rfl⟩:=hc y hy;exact ⟨a,mem_cornersN.2 ((h.corner ha).1 hy),rfl⟩
  ·rintro ⟨a,ha,rfl⟩
   exact (h.corner (mem_cornersN.1 ha).1).2 (mem_cornersN.1 ha)
theorem nodes (h:Emb g g' f s p q σ) (hc:Cov g g' σ):(cornersN g').length=(cornersN g).length:=by
 rw [(h.corners hc).length_eq,List.length_map]
end Emb
open Classical in
noncomputable def degN (g:G) (a:Nat):Nat:=((cornersN g).filter fun b=>decide (g.GE a b (g.oct a b))).length
noncomputable def degS (g:G):Nat:=((cornersN g).map (degN g)).sum
end Go.Proofs.YtokhnobcincfjaaGreatDoor
namespace Go.Proofs.YtokhnobcincfjaaGreatDoor
open FR
theorem deg_len {g:G} {E:Int→Option (List Ed)} (h:GSpec g (fun _ _=>True) E) {c:Nat} {L:List Ed} (hc:E (c:Nat)=some L):L.length=degN g c:=by
 obtain ⟨hs,hm⟩:=h.2 c L hc
 obtain ⟨c',e,hcc⟩:=(h.1 (c:Nat)).1 (by rw [hc];simp)
 obtain rfl:c=c':=Int.ofNat_inj.1 e
 have nd:(cornersN g).Nodup:=(cornersN_sorted g).imp (fun h=>Nat.ne_of_lt h)
 unfold degN
 have hp:L.Perm (((cornersN g).filter fun b=>@decide (g.GE c b (g.oct c b)) (Classical.propDecidable _)).map fun y:Nat=>(⟨(y:Nat),g.oct c y,-1⟩:Ed)):=by
  have hn:L.Nodup:=by
   refine List.pairwise_iff_getElem.2 (fun i j hi hj hij e=>?_)
   have:=hs i j _ _ hij (List.getElem?_eq_getElem hi) (List.getElem?_eq_getElem hj);rw [e] at this;omega
  refine (List.perm_ext_iff_of_nodup hn ?_).2 (fun e=>?_)
  ·exact List.Pairwise.map _ (fun a b k e=>k (by injection e with e;exact Int.ofNat_inj.1 e)) (nd.filter _)
  ·rw [hm e,List.mem_map]
   constructor
   ·rintro ⟨y,h1,h2,_,h4,rfl⟩
    refine ⟨y,?_,rfl⟩;rw [List.mem_filter]
    exact ⟨mem_cornersN.2 h1,by simp only [decide_eq_true_eq];exact ⟨hcc,h1,fun e=>h2 e.symm,h4,rfl⟩⟩
   ·rintro ⟨y,hy,rfl⟩
    rw [List.mem_filter] at hy;obtain ⟨h1,h2⟩:=hy;simp only [decide_eq_true_eq] at h2;obtain ⟨_,k2,k3,k4,_⟩:=h2
    exact ⟨y,k2,fun e=>k3 e.symm,trivial,k4,rfl⟩
 rw [hp.length_eq,List.length_map]
end Go.Proofs.YtokhnobcincfjaaGreatDoor
