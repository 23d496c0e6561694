/- Lemmas of this claim: NavTop, Asks, RRight, AnsOwn, Batch. -/
import Derived.Test.YtnifggkjieemeaaGreatDoorKNNs38
import Derived.Test.YtnifggkjieemeaaGreatDoorRTx2
set_option linter.unusedVariables false
set_option linter.unusedSimpArgs false
set_option maxHeartbeats 6400000
set_option maxRecDepth 100000
open Go.Proofs.Tryz
namespace Go.Proofs.YtnifggkjieemeaaGreatDoor
open Go.Lib (hid)
open Go.RowKit Go.Sort FR Go.Lib
variable {g:G}{B k most n:Nat}{f:Nat->Int×Int}{A:Option Addr}{v:Value}{w w':World}
def qC(W:World)(A:Option Addr)(n:Nat)(f:Nat->Int×Int):Prop:=
 0<n->∃b o,A=some ⟨b,o,none⟩/\b<W.heap.size/\∀k,k<n->W.cell? ⟨b,o+k*2,none⟩=some (rI (f k).1)/\W.cell? ⟨b,o+k*2+1,none⟩=some (rI (f k).2)
structure Yt (W:World) (A:Option Addr) (n:Nat) (f:Nat->Int×Int):Prop where
 ask:qC W A n f
 len:n<=9223372036854775807
theorem qC.below(h:qC w A n f)(m:Below w.heap.size w w'):qC w' A n f:=λI=>by
 obtain⟨b,o,e,F,u⟩:=h I;exact⟨b,o,e,Zf F m.size,λk z=>⟨af m (u k z).1,af m (u k z).2⟩⟩
theorem EG{b o n m k:Nat}(h:A=some ⟨b,o,none⟩)(z:k<n)(u:World):(Instr.indexAt 43 (.slice A n m) (rI (k:Nat))).run prog u=.ok (.pointer (some ⟨b,o+k*2,none⟩)) u:=by
 subst h;have q:(k:Int)<(n:Int):=om;go_simp
theorem Qw(w:World)(xb q:Nat)(g:G)(v:Int)(hx:w.cell? ⟨xb,0,none⟩=some (vP q))(P:aG w q g v)(fr ai:Int)(A:Option Addr)(n m:Nat)(Wy:List Nat)(hn:Wy.length=n)(cs cd:Int)(er:Nat)(hA:jg g fr ai Wy ⟨cs,cd⟩ er)(hI:Ints w A n (λk=>(cK Wy).getD k 0)):Calls prog 14 #[vP xb,rI fr,rI ai,.agg #[.slice A n m,rI cs,rI cd,rI (er:Nat)]] w (Rt w (.bool true)):=by
 go_enter func14,ntmps14;go_upto_region 1 with(fail);refine aB ?_;intro W hW;have HW:Below w.heap.size w W:=by rw[hW];exact be
 have Q:W.cell? ⟨w.heap.size,0,none⟩=some (.slice A n m):=by rw[hW];go_simp
 have T:W.cell? ⟨w.heap.size,1,none⟩=some (rI cs):=by rw[hW];go_simp
 have U:W.cell? ⟨w.heap.size,2,none⟩=some (rI cd):=by rw[hW];go_simp
 have c3:W.cell? ⟨w.heap.size,3,none⟩=some (rI (er:Nat)):=by rw[hW];go_simp
 obtain⟨b7,bt⟩:=rX w.heap.size;rw[bt]at Q T U c3⊢;clear hW bt;replace hx:=af HW hx;replace P:=hid (P.below HW P.lt);replace hI:=hid (hI.below HW);replace hA:=hid hA;replace hn:=hid hn;by_cases ac:g.fault fr=0
 case neg=>
  obtain⟨fz,am⟩:∃z:Int,((g.fault fr:Nat):Int)=z:=⟨_,rfl⟩;have B:=zw W q g v fr P.out;rw[am]at B;replace B:=hid B;have h1:iH g fr ai=g.fault fr:=by unfold iH;rw[if_pos ac]
  have hz:=hA.out;rcases hz with⟨_,rfl,rfl,he⟩|⟨a,b,rfl,rfl,a1,a2,a3,a4,_⟩
  case inr=>exact absurd (by rw[G.bQ a1,a3];rfl) ac
  cases he;have ag:=hn.out;simp only[List.length_nil]at ag;subst ag;rw[h1,am]at c3;have p1:¬fz=0:=om;have p2:(fz==0)=false:=by rw[Zq];exact p1
  have p3:(0:Int)<fz:=om;clear ac am h1 hI hA hn;go_wp2_with fail;refine B.out.mono ?_;rintro e w1 ⟨rfl,u⟩;replace Q:=af u Q;replace T:=af u T;replace U:=af u U;replace c3:=af u c3;have ao:=ae HW u;clear B u
  go_upto_region 5 with(fail);refine aB ?_;intro W2 M;have F:Below w1.heap.size w1 W2:=by rw[M];exact be
  replace Q:=af F Q;replace T:=af F T;replace U:=af F U;replace c3:=af F c3;have a8:=ae ao F;clear M F;go_wp2_with fail;go_ret;exact⟨rfl,a8⟩
 have ap:=zw W q g v fr P.out;rw[ac]at ap;replace ap:=hid ap;go_wp2_with fail;refine ap.out.mono ?_;rintro e w0 ⟨rfl,R⟩;replace Q:=af R Q;replace T:=af R T;replace U:=af R U;replace c3:=af R c3;replace hx:=af R hx;replace P:=hid (P.out.below R P.out.lt);replace hI:=hid (hI.out.below R);have a7:=ae HW R;clear R ap HW
 by_cases ax:g.fault ai=0
 case neg=>
  obtain⟨fz,am⟩:∃z:Int,((g.fault ai:Nat):Int)=z:=⟨_,rfl⟩;have B:=zw w0 q g v ai P.out;rw[am]at B;replace B:=hid B;have h1:iH g fr ai=g.fault ai:=by unfold iH;rw[if_neg (λk=>k ac)]
  have hz:=hA.out;rcases hz with⟨_,rfl,rfl,he⟩|⟨a,b,rfl,rfl,a1,a2,a3,a4,_⟩
  case inr=>exact absurd (by rw[G.bQ a2,a4];rfl) ax
  cases he;have ag:=hn.out;simp only[List.length_nil]at ag;subst ag;rw[h1,am]at c3;have p1:¬fz=0:=om;have p2:(fz==0)=false:=by rw[Zq];exact p1
  have p3:(0:Int)<fz:=om;clear ac ax am h1 hI hA hn;go_wp2_with fail;refine B.out.mono ?_;rintro e w1 ⟨rfl,u⟩;replace Q:=af u Q;replace T:=af u T;replace U:=af u U;replace c3:=af u c3;have ao:=ae a7 u;clear B u
  go_upto_region 5 with(fail);refine aB ?_;intro W2 M;have F:Below w1.heap.size w1 W2:=by rw[M];exact be
  replace Q:=af F Q;replace T:=af F T;replace U:=af F U;replace c3:=af F c3;have a8:=ae ao F;clear M F;go_wp2_with fail;go_ret;exact⟨rfl,a8⟩
 obtain⟨a,rfl,ha,fa⟩:=G.iP ac;obtain⟨b,rfl,hb,fb⟩:=G.iP ax;have B:=zw w0 q g v (b:Nat) P.out;rw[ax]at B;replace B:=hid B;clear ac ax;have b8:=G.bA P.out.1;have ay:=hid (rN ha (rN hb (rN fa fb)));clear fa fb;go_wp2_with fail;refine B.out.mono ?_;rintro e w1 ⟨rfl,u⟩;replace Q:=af u Q;replace T:=af u T;replace U:=af u U
 replace c3:=af u c3;replace hx:=af u hx;replace P:=hid (P.out.below u P.out.lt);replace hI:=hid (hI.out.below u);have ao:=ae a7 u;clear B u a7;go_upto_region 5 with(fail);refine aB ?_;intro W2 M;have F:Below w1.heap.size w1 W2:=by rw[M];exact be
 obtain⟨J,O⟩:=rX w1.heap.size;have z0:W2.cell? ⟨J,0,none⟩=some (rI 0):=by rw[M,<-O];go_simp
 have a0:W2.cell? ⟨J,1,none⟩=some (rI 0):=by rw[M,<-O];go_simp
 have f0:W2.frozen? ⟨J,0,none⟩=false:=by rw[M,<-O];go_simp
 have f1:W2.frozen? ⟨J,1,none⟩=false:=by rw[M,<-O];go_simp
 have bg:J<W2.heap.size:=by rw[M,<-O];simp
 rw[O];have b5:=af F hx;have bh:w1.heap.size<=J:=Nat.le_of_eq O;clear M O;go_wp2_with fail;(with_reducible refine(Qu _ q g v a (P.out.below F P.out.lt) ha).mono ?_);rintro e w3 ⟨fa,ia,rfl,bq,ba⟩;obtain⟨Z1,aq⟩:∃Z,Z=rowOf (dG fa) 512:=⟨_,rfl⟩;obtain⟨Z2,ar⟩:∃Z,Z=rowOf (eB ia) 256:=⟨_,rfl⟩;have z1:Z1.size=512:=by rw[aq,di]
 have z2:Z2.size=256:=by rw[ar,di]
 have o1:Z1.all (·.oneCell')=true:=by rw[aq];exact Array.all_eq_true_iff_forall_mem.2 (λv hv=>row_one (f:=dG fa) (λk=>by unfold dG;split<;>rfl) 512 v (by simpa using hv))
 have o2:Z2.all (·.oneCell')=true:=by rw[ar];exact Array.all_eq_true_iff_forall_mem.2 (λv hv=>row_one (f:=eB ia) (λk=>rfl) 256 v (by simpa using hv))
 rw[<-aq,<-ar];have bl:=hid aq;have bm:=hid ar;clear aq ar;obtain⟨W3,W4,r1,r2,hA1,hA2,bv⟩:=IY w3 Z1 Z2 z1 z2 o1 o2;rw[bl.out]at hA1;rw[bm.out]at hA2;have hA1:=hid hA1;have hA2:=hid hA2;clear bl bm o1 o2;have al:=ae ba bv;replace z0:=af al z0;replace a0:=af al a0;replace f0:=(al.frozen (p:=⟨J,0,none⟩) bg).trans f0;replace f1:=(al.frozen (p:=⟨J,1,none⟩) bg).trans f1;have bp:=ae F al;go_upto_region 7 with(fail);obtain⟨b2,a5⟩:=rX w3.heap.size;rw[a5]at hA1 hA2⊢;obtain⟨bo,a6⟩:=rX (b2+1);rw[a6]at hA2⊢;have ci:=Vf hA2.out br (show b<256 by omega);obtain⟨x1,x2⟩:=Vg hA1.out br (show b<256 by omega);have q0:(0:Int)<=(b:Int):=om;have q1:(b:Int)<256:=om;have aa:=bq b;obtain⟨⟨xs,xd⟩,b0⟩:=rX (fa b);rw[b0]at x1 x2 aa;simp only at x1 x2;replace aa:=hid aa;have bi:bo≠J:=by have:=al.size;have:=ba.size;omega
 clear r1 r2 a5 a6 bv F ba z1 z2 hA1 hA2 bq b0 al;go_upto_region 8 with(fail);refine aB ?_;intro I aE;have S:Below w1.heap.size w1 I:=by rw[aE];exact(bp.setCell (p:=⟨J,0,none⟩) bh _).setCell (p:=⟨J,1,none⟩) bh _
 obtain⟨y0,y1⟩:I.cell? ⟨J,0,none⟩=some (rI xs)/\I.cell? ⟨J,1,none⟩=some (rI xd):=by rw[aE];exact dJ z0 a0
 have b3:I.cell? ⟨bo,b,none⟩=some (.bool (ia b)):=by
  rw[aE];exact(World.cell?_of_block ((Below.heap_setCell _ _ _ _ (by exact bi)).trans (Below.heap_setCell _ _ _ _ (by exact bi)))).trans ci
 replace Q:=af S Q;replace T:=af S T;replace U:=af S U;replace c3:=af S c3;replace hx:=af S hx;replace P:=hid (P.out.below S P.out.lt);replace hI:=hid (hI.out.below S);have bk:=ae ao S;clear aE ci x1 x2 z0 a0 f0 f1 bi bp bh bg S ao b5;have h0:iH g (a:Nat) (b:Nat)=0:=uI (by rw[G.bQ ay.out.1,ay.out.2.2.1];rfl) (by rw[G.bQ ay.out.2.1,ay.out.2.2.2];rfl);obtain⟨a',b',e1,e2,_,_,_,_,hh⟩:=hA.out.cells h0;obtain rfl:a=a':=Int.ofNat_inj.1 e1;obtain rfl:b=b':=Int.ofNat_inj.1 e2;clear e1 e2 h0;obtain⟨ib,bw⟩:=rX (ia b);rw[bw]at b3 aa;clear bw;cases ib with
 |false=>
  have bz:=aa.out.2 rfl;rcases hh with⟨_,rfl,rfl,he⟩|⟨h1,_⟩
  case inr=>exact absurd h1.1 (bz _)
  cases he;have ag:=hn.out;simp only[List.length_nil]at ag;subst ag;have c3:I.cell? ⟨b7,3,none⟩=some (rI 5):=c3;clear bz hI hA hn aa;go_wp2_with fail;go_ret;exact⟨rfl,bk⟩
 |true=>
  obtain⟨hD,_⟩:=aa.out.1 rfl;rcases hh with⟨h1,_⟩|⟨h1,rfl,hl,bc,bd⟩
  .exact absurd hD.1 (h1 _)
  have b4:=df.unique h1 hD;injection b4 with ea eb
  subst ea;subst eb;obtain⟨l1,l2,_⟩:=hA.out.len P.out.1 rfl;have bj:=hA.out.vK P.out.1 rfl;rw[hn.out]at l1 l2 bj;obtain⟨ad,a9,_,hc⟩:=hI.out l2;have e0:=hc 0 l2;have el:=hc (n-1) om;rw[List.head?_eq_getElem?]at bc;rw[List.getLast?_eq_getElem?,hn.out]at bd;simp only[A8 bc,add_zero']at e0;simp only[A8 bd]at el;have b6:∀wx,(Instr.indexAt 51 (.slice A n m) (rI 0)).run prog wx=.ok (.pointer (some ad)) wx:=λwx=>by have:=aP (m:=m) (k:=0) a9 l2 wx;rw[add_zero']at this;exact this
  have bx:=λwx=>aP (m:=m) (n:=n) (k:=n-1) a9 om wx;rw[show((n-1:Nat):Int)=(n:Int)-1 by omega]at bx;have b9:IntKind.i64.wrap ((n:Int)-1)=(n:Int)-1:=IntWalk.i64_in _ om;have cW:=λw'(hb:Below I.heap.size I w')=>Xm w' q g v A n m _ (P.out.below hb P.out.lt) (hI.out.below hb) om;rw[bj]at cW;replace cW:=hid cW;have c3:I.cell? ⟨b7,3,none⟩=some (rI 0):=c3;clear bj a9 hc bc bd hl h1 hD aa hA hn;have hd:=aj (Below.refl I.heap.size I);have j1:I.drew.cell? ⟨xb,0,none⟩=some (vP q):=af hd hx;have j2:I.drew.cell? ⟨b7,0,none⟩=some (.slice A n m):=af hd Q;go_upto_region 12 with(fail);have aw:Below I.heap.size I (I.alloc (.cells #[rI 0,rI 0] 53)).drew:=aj (ah br);have j3:=af aw hx;have j4:=af aw Q
  go_region_with
   (first
    |(go_at_call 42
      (with_reducible refine(cW.out _ hd).mono ?_);rintro e wA ⟨bb,ab⟩;obtain rfl:e=.returned (.tuple #[.agg #[rI cs,rI cd],rI 0]):=bb)
    |(go_at_call 42
      (with_reducible refine(cW.out _ aw).mono ?_);rintro e wA ⟨bb,ab⟩;obtain rfl:e=.returned (.tuple #[.agg #[rI cs,rI cd],rI 0]):=bb;have s0:wA.cell? ⟨I.heap.size,0,none⟩=some (rI 0):=af ab (by go_simp);have s1:wA.cell? ⟨I.heap.size,1,none⟩=some (rI 0):=af ab (by go_simp);have s2:wA.frozen? ⟨I.heap.size,0,none⟩=false:=(ab.frozen (p:=⟨I.heap.size,0,none⟩) rS).trans (by go_simp);have s3:wA.frozen? ⟨I.heap.size,1,none⟩=false:=(ab.frozen (p:=⟨I.heap.size,1,none⟩) rS).trans (by go_simp)))
  all_goals
   clear j1 j2 j3 j4 cW
   first
    |(have L:Below I.heap.size I (wA.alloc (.cells #[rI cs,rI cd] 53)):=ah (ae hd ab)
      have u0:(wA.alloc (.cells #[rI cs,rI cd] 53)).cell? ⟨wA.heap.size,0,none⟩=some (rI cs):=by go_simp
      have u1:(wA.alloc (.cells #[rI cs,rI cd] 53)).cell? ⟨wA.heap.size,1,none⟩=some (rI cd):=by go_simp
      obtain⟨W6,aS⟩:∃z,wA.alloc (.cells #[rI cs,rI cd] 53)=z:=⟨_,rfl⟩;rw[aS]at L u0 u1⊢)
    |(have L:Below I.heap.size I ((wA.setCell ⟨I.heap.size,0,none⟩ (rI cs)).setCell ⟨I.heap.size,1,none⟩ (rI cd)):=((ae aw ab).setCell (p:=⟨I.heap.size,0,none⟩) (Zi _) _).setCell (p:=⟨I.heap.size,1,none⟩) (Zi _) _
      obtain⟨u0,u1⟩:=dJ (x:=rI cs) (y:=rI cd) s0 s1;obtain⟨W6,aS⟩:∃z,(wA.setCell ⟨I.heap.size,0,none⟩ (rI cs)).setCell ⟨I.heap.size,1,none⟩ (rI cd)=z:=⟨_,rfl⟩;rw[aS]at L u0 u1⊢;clear s0 s1 s2 s3)
   replace Q:=af L Q;replace T:=af L T;replace U:=af L U;replace c3:=af L c3;replace y0:=af L y0;replace y1:=af L y1;replace e0:=af L e0;replace el:=af L el;have b1:=ae bk L;clear aS L ab hd aw;go_wp2;go_ret;exact⟨rfl,b1⟩
structure lF where
 A:Option Addr
 n:Nat
 m:Nat
 s:Int
 d:Int
 e:Int
instance:Inhabited lF:=⟨⟨none,0,0,0,0,0⟩⟩
def yg(x:lF):List Value:=[.slice x.A x.n x.m,rI x.s,rI x.d,rI x.e]
def yh(L:List lF):List Value:=L.flatMap yg
theorem Od(L:List lF):∀(k:Nat)(e:lF),L[k]? =some e->(yh L)[k*4]? =some (.slice e.A e.n e.m)/\(yh L)[k*4+1]? =some (rI e.s)/\(yh L)[k*4+2]? =some (rI e.d)/\(yh L)[k*4+3]? =some (rI e.e):=by
 induction L with
 |nil=>intro k e h;simp at h
 |cons x L z=>
  intro k e h;cases k with
  |zero=>simp at h;subst h;simp[yh,yg]
  |succ k=>
   obtain m:=z k e (by simpa using h);have u:(k+1)*4=k*4+1+1+1+1:=om;rw[u];simp only[yh,List.flatMap_cons,yg,List.cons_append,List.nil_append,List.getElem?_cons_succ]at m⊢;exact m
def jF(w:World)(B:Nat)(v:Value)(L:List lF):Prop:=w.ownsRow B 56 4 v L.length (yh L)
theorem jF.nil(w:World)(B:Nat):jF w B (.slice none 0 0) []:=⟨rfl,.inl ⟨rfl,rfl⟩⟩
theorem jF.below{L:List lF}(h:jF w B v L)(m:Below w.heap.size w w'):jF w' B v L:=
 World.ownsRow.kept (row:=none) h ⟨m.os,m.tape,m.output,m.size,λk u _=>m.block k u⟩ (by cases z:v.ownBlock<;>simp)
def I1(W:World)(A:Option Addr)(L:List lF):Prop:=
 ∀k x,L[k]? =some x->∃b,A=some ⟨b,0,none⟩/\W.cell? ⟨b,k*4,none⟩=some (.slice x.A x.n x.m)/\W.cell? ⟨b,k*4+1,none⟩=some (rI x.s)/\W.cell? ⟨b,k*4+2,none⟩=some (rI x.d)/\W.cell? ⟨b,k*4+3,none⟩=some (rI x.e)
theorem jF.ans{L:List lF}(h:jF w B v L):∃A m,v=.slice A L.length m/\I1 w A L/\∀u,A=some u->B<=u.block/\u.block<w.heap.size:=by
 have U:=λk(z:v.ownBlock=some k)=>World.ownsRow.lt h k z;rcases h.2 with⟨rfl,Z⟩|⟨g,F,P,rfl,hg,hh,hc,hm,hs,ht⟩
 .rw[Z];exact⟨none,0,rfl,λk x z=>by have:=(Zb.1 z).1;omega,λu e=>by cases e⟩
 .refine⟨_,F,rfl,λk x z=>⟨g,rfl,?_⟩,λu e=>by cases e;exact U g rfl⟩
  obtain⟨Q,R,S,T⟩:=Od L k _ z;have I:=World.ownsRow.cells h (g:=g) rfl (k*4) _ Q;have J:=World.ownsRow.cells h (g:=g) rfl (k*4+1) _ R;have M:=World.ownsRow.cells h (g:=g) rfl (k*4+2) _ S;have O:=World.ownsRow.cells h (g:=g) rfl (k*4+3) _ T;rw[Addr.add_lit,Zx]at I J M O;exact⟨I,J,M,O⟩
theorem I1.below{L:List lF}(h:I1 w A L)(m:Below w.heap.size w w'):I1 w' A L:=λk x M=>by
 obtain⟨b,u,z,F,I,J⟩:=h k x M;exact⟨b,u,af m z,af m F,af m I,af m J⟩
theorem LM{b n m k:Nat}(h:A=some ⟨b,0,none⟩)(z:k<n)(u:World):(Instr.indexAt 109 (.slice A n m) (rI (k:Nat))).run prog u=.ok (.pointer (some ⟨b,k*4,none⟩)) u:=by
 subst h;have q:(k:Int)<(n:Int):=om;go_simp
theorem Oe:(prog.info? 56).map (λi=>(i.zero.map λz=>z.cells.size,i.size,i.bytes))=some (some 4,4,48):=kr
theorem KS:∃i z,prog.info? 56=some i/\i.zero=some z/\i.size=4/\i.bytes=48/\z.cells.size=4:=by
 obtain⟨i,J,h⟩:=Option.map_eq_some_iff.1 Oe;simp only[Prod.mk.injEq]at h;obtain⟨m,u,F⟩:=h;obtain⟨z,L,I⟩:=Option.map_eq_some_iff.1 m;exact⟨i,z,J,L,u,F,I⟩
theorem vL{J:Array Oper}{z:List Oper}{o:Oper}{a:Act}{Q:Exit->Act->World->Prop}(w:World)(P:o.guard=none)(s x:Operand)(ho:o.op=.call {callee:=.builtin .append,args:=#[s,x],argTypes:=#[109,109]})(B:Nat)(v:Value)(L:List lF)(e:lF)(hs:a.eval s=v)(I:jF w B v L)(ad:Addr)(hx:a.eval x=.slice (some ad) 1 1)(O:w.cell? ad=some (.slice e.A e.n e.m)/\w.cell? (ad.add 1)=some (rI e.s)/\w.cell? (ad.add 2)=some (rI e.d)/\w.cell? (ad.add 3)=some (rI e.e))(hl:L.length<=100000)(hB:B<=w.heap.size)(h:∀F M,jF M B F (L++[e])->w.grownBy M v.ownBlock->(F.ownBlock=v.ownBlock\/F.ownBlock=some w.heap.size)->wpList prog J Q z (a.put o.dst F) M):wpList prog J Q (o::z) a w:=by
 obtain⟨i0,z0,hi,R,S,T,U⟩:=KS;refine wpList_append_own_at w P s x 109 ho B 56 i0 z0 4 48 underlying109 hi R S T U rD v L.length (yh L) hs I ad 1 1 (yg e) hx rfl ?_ ?_ ?_ ?_ hB ?_
 .intro j u m
  match j with
  |0=>simp[yg]at m;subst m;simpa[Addr.add]using O.1
  |1=>simp[yg]at m;subst m;exact O.2.1
  |2=>simp[yg]at m;subst m;exact O.2.2.1
  |3=>simp[yg]at m;subst m;exact O.2.2.2
  |j+4=>simp[yg]at m
 .intro u m
  simp[yg]at m;rcases m with rfl|rfl|rfl|rfl<;>rfl
 .unfold maxLen;omega
 .omega
 .intro F M Z g _ k
  refine h F M ?_ g k;unfold jF;rw[Zp];have:yh (L++[e])=yh L++yg e:=by simp[yh]
  rw[this];exact Z
theorem zU{W w w':World}{L:List lF}(m:Below B W w)(F:B<=w.heap.size)(h:jF w B v L)(u:w.grownBy w' v.ownBlock):Below B W w':=
 m.grown u F (λk z=>(World.ownsRow.lt h k z).1)
def nV(w:World)(B:Nat)(g:G)(most:Nat)(x y:Int)(a:lF):Prop:=
 ∃(W:List Nat)(c:C)(er:Nat),Gi g most x y W c er/\a.n=W.length/\a.s=c.s/\a.d=c.d/\a.e=(er:Nat)/\Ints w a.A W.length (λk=>(cK W).getD k 0)/\(∀ad,a.A=some ad->B<=ad.block)/\(0<a.n->UR w a.A)
theorem nV.kept{S:List Nat}{x y:Int}{a:lF}(h:nV w B g most x y a)(F:Kept S w w')(z:0<a.n->∀m,a.A=some m->m.block∉S):nV w' B g most x y a:=by
 obtain⟨W,c,I,J,L,M,O,P,Q,R,T⟩:=h;exact⟨W,c,I,J,L,M,O,P,Q.iC F (λu m e=>z om m e),R,λu=>(T u).kept F (z u)⟩
theorem nV.below{x y:Int}{a:lF}(h:nV w B g most x y a)(m:Below w.heap.size w w'):nV w' B g most x y a:=h.kept (S:=[]) (.of_below m) (λ_ _ _=>rS)
def xk(w:World)(B:Nat)(g:G)(most:Nat)(f:Nat->Int×Int)(k:Nat)(v:Value):Prop:=
 ∃L:List lF,L.length=k/\jF w B v L/\∀i a,L[i]? =some a->nV w B g most (f i).1 (f i).2 a/\(0<a.n->∀ad,a.A=some ad->v.ownBlock≠some ad.block)
theorem xk.below(h:xk w B g most f k v)(u:Below w.heap.size w w'):xk w' B g most f k v:=by
 obtain⟨L,F,I,m⟩:=h;exact⟨L,F,I.below u,λi a z=>⟨(m i a z).1.below u,(m i a z).2⟩⟩
theorem xk.nil(w:World)(B:Nat)(g:G)(most:Nat)(f:Nat->Int×Int):xk w B g most f 0 (.slice none 0 0):=⟨[],rfl,jF.nil w B,λi a h=>by simp at h⟩
theorem xk.push{v I:Value}{L:List lF}{e:lF}(T:L.length=k)(h2:jF w B v L)(U:∀i a,L[i]? =some a->nV w B g most (f i).1 (f i).2 a/\(0<a.n->∀m,a.A=some m->v.ownBlock≠some m.block))(he:nV w B g most (f k).1 (f k).2 e)(Q:0<e.n->∀m,e.A=some m->v.ownBlock≠some m.block)(ho:jF w' B I (L++[e]))(u:w.grownBy w' v.ownBlock)(P:I.ownBlock=v.ownBlock\/I.ownBlock=some w.heap.size):xk w' B g most f (k+1) I:=by
 have hk:Kept v.ownBlock.toList w w':=⟨u.os,u.tape,u.output,u.size,λq hq M=>u.block q hq (λe=>M (by rw[<-e];simp))⟩
 have F:∀(a:lF)(x y:Int),nV w B g most x y a->(0<a.n->∀m,a.A=some m->v.ownBlock≠some m.block)->nV w' B g most x y a/\(0<a.n->∀m,a.A=some m->I.ownBlock≠some m.block):=by
  intro a x y Z M;refine⟨Z.kept hk (λO m e hm=>M O m e (by rw[Zv]at hm;exact hm)),λO m e=>?_⟩;rcases P with q|q
  .rw[q];exact M O m e
  .rw[q]
   intro S;injection S with S
   obtain⟨W,c,er,_,R,_,_,_,q6,_⟩:=Z;obtain⟨aa,J,hl,_⟩:=q6 om;rw[e]at J;injection J with J;subst J
   omega
 refine⟨L++[e],by simp[T],ho,λi a z=>?_⟩;by_cases ab:i<k
 .rw[List.getElem?_append_left om]at z
  exact F a _ _ (U i a z).1 (U i a z).2
 .rw[Zz om]at z
  obtain⟨q1,R⟩:=Zb.1 z;simp at q1;obtain rfl:i=k:=om;simp[T]at R;subst R;exact F e _ _ he Q
def XE(w:World)(g:G)(most:Nat)(f:Nat->Int×Int)(n:Nat)(e:Ending)(w':World):Prop:=∃v,e=.returned (.tuple #[v,.nilIface])/\xk w' w.heap.size g most f n v/\Below w.heap.size w w'
theorem zX(w:World)(s:Nat)(A:Option Addr)(n m:Nat)(F:40<n)(z:n<=9223372036854775807):Calls prog 45 #[vP s,.slice A n m] w (Rt w (.tuple #[.slice none 0 0,.iface 54 (rI 2)])):=by
 go_enter func45,ntmps45;go_wp2_with fail;go_ret2;exact⟨rfl,br⟩
theorem P6(w:World)(s:Nat)(g:G)(v:Int)(most:Nat)(h:gH w s g v most)(A:Option Addr)(n m:Nat)(f:Nat->Int×Int)(hA:qC w A n f)(hn:n<=40):Calls prog 45 #[vP s,.slice A n m] w (XE w g most f n):=by
 have HS:=hid h;have HA:=hid hA;clear h hA;go_enter func45,ntmps45;go_wp2_with fail;go_loopw [6,15] (λlv iv wr=>∃(k:Nat),k<=n/\iv=rI (k:Nat)/\xk wr w.heap.size g most f k lv/\Below w.heap.size w wr) (λ_ iv _=>n-(intOf iv).toNat)
 case atStart=>exact⟨0,Zw _,rfl,xk.nil _ _ _ _ _,br⟩
 case round=>
  obtain⟨k,hk,rfl,hL,hB⟩:=hrel;by_cases ai:k<n
  .obtain⟨ba,o,ab,_,hc⟩:=HA.out om
   obtain⟨S,T⟩:=hc k ai;have ag:=λwx=>EG (A:=A) (m:=m) ab ai wx;obtain⟨⟨x,y⟩,Q⟩:=rX (f k);rw[Q]at S T;simp only at S T;obtain⟨ok,am⟩:=rX (o+k*2);rw[am]at S T ag;replace S:=af hB S;replace T:=af hB T;have ao:=hid Q;replace hL:=hid hL;have HB:=hid hB;clear ab hc Q am hB;go_upto_region 7 with(fail);refine aB ?_;intro W2 I;have O:Below wr.heap.size wr W2:=by rw[I];exact be
   have e0:W2.cell? ⟨wr.heap.size,0,none⟩=some (rI x):=by rw[I];go_simp
   have e1:W2.cell? ⟨wr.heap.size,1,none⟩=some (rI y):=by rw[I];go_simp
   have M:=hid (ae HB.out O);have B:=hid (hL.out.below O);have cA:=hid (J9 W2 s g v most (HS.out.below M.out) x y);clear I O hL S T ag HB;go_wp2_with fail;refine cA.out.mono ?_;rintro e w3 ⟨Wy,⟨cs,cd⟩,er,U,mw,hU,rfl,hI,hf,J⟩;have Z:=hid (ae M.out J);obtain⟨L,h1,h2,h3⟩:=B.out;have aa:=h2;replace h2:=h2.below J;have ar:=Z.out.size
   have ap:=M.out.size;obtain⟨nw,P⟩:=rX Wy.length;rw[P]
   have hE:nV w3 w.heap.size g most (f k).1 (f k).2 ⟨U,nw,mw,cs,cd,(er:Nat)⟩:=by
    rw[ao.out];exact⟨Wy,_,er,hU,P.symm,rfl,rfl,rfl,hI,λR e=>Zg ap (hf.1 R e),λ_=>hf.2⟩
   have al:0<nw->∀R,U=some R->u6.ownBlock≠some R.block:=λ_ R e e2=>by
    have:=(World.ownsRow.lt aa _ e2).2;have:=hf.1 R e;omega
   have HE:=hid (rN hE al);have H3:=hid (rN h1 (rN h2 (λi a hi=>rN ((h3 i a hi).1.below J) (h3 i a hi).2)));have hl:=h1;have aq:k<=40:=om;clear hU hI hf J cA h2 aa h1 h3 hE al P B e0 e1;go_wp2_with (at_builtin;refine vL _ rfl _ _ rfl w.heap.size _ L ⟨U,nw,mw,cs,cd,(er:Nat)⟩ rfl (H3.out.2.1.below (Below.alloc br (Zi _) _)) ⟨w3.heap.size,0,none⟩ rfl ⟨by go_simp,by go_simp,by go_simp,by go_simp⟩ om so ?_;intro v' w9 F u ac)
   have hF:xk w9 w.heap.size g most f (k+1) v':=by
    obtain⟨q1,q2,q3⟩:=H3.out;have hd:Below w3.heap.size w3 (w3.alloc (.cells #[.slice U nw mw,rI cs,rI cd,rI (er:Nat)] 56)):=Below.alloc br (Zi _) _;exact xk.push q1 (q2.below hd) (λi a hi=>⟨(q3 i a hi).1.below hd,(q3 i a hi).2⟩) (HE.out.1.below hd) HE.out.2 F u ac
   have HF:=hid (rN hF (zU (Z.out.alloc om (.cells #[.slice U nw mw,rI cs,rI cd,rI (er:Nat)] 56 (0,0))) so (H3.out.2.1.below (Below.alloc br (Zi _) _)) u));clear hF F u ac HE H3;go_wp2;go_roundw
   case rel=>refine rR ?_;exact⟨k+1,om,by go_num,HF.out.1,HF.out.2⟩
   case measure=>exact rM
  .obtain rfl:k=n:=om
   go_wp2_with fail;go_ret2;exact⟨_,rfl,hL,hB⟩
