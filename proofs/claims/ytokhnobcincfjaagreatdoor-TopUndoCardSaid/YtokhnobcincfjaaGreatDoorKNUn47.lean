/- Lemmas of this claim: NavTop, Asks, SameA, AnsOwn. -/
import Derived.Test.YtokhnobcincfjaaGreatDoorKNUn42
import Derived.Test.YtokhnobcincfjaaGreatDoorKNUn29
import Derived.Test.YtokhnobcincfjaaGreatDoorRTx2
import Derived.Test.YtokhnobcincfjaaGreatDoorKNUn41
import Derived.Test.YtokhnobcincfjaaGreatDoorKNUn6
import Derived.Test.YtokhnobcincfjaaGreatDoorBase
import Derived.Test.YtokhnobcincfjaaGreatDoorKNUn4
set_option linter.unusedVariables false
set_option linter.unusedSimpArgs false
set_option maxHeartbeats 1600000
set_option maxRecDepth 100000
namespace Go.Proofs.YtokhnobcincfjaaGreatDoor
open Go.RowKit Go.Sort FR Go.Lib
theorem laid_split3 {w w' : World} {e : Ending} (h : Laid w e w') : (e = .returned (.tuple #[.pointer none, .pointer none, .bool false]) ∧ Below w.heap.size w w') ∨
    ∃p q g v,e=.returned (.tuple #[.pointer (some ⟨p,0,none⟩),.pointer (some ⟨q,0,none⟩),.bool true])∧RGridAt w' q g v∧(w.heap.size≤q∧0≤v∧v≤300)∧Below w.heap.size w w':=by
 rcases h with h | ⟨p,q,g,v,h1,k1,k2,h2,h3,k3,k4,h4⟩
 ·exact .inl h
 ·exact .inr ⟨p,q,g,v,h1,h3,⟨by omega,k3,k4⟩,h4⟩
def ldG (g:G):G:=match parseS (printS g) with
 | .ok a b R=>partG a b R (b*a)
 | .bad _=>g
def LdG (g2 g:G):Prop:=g2=ldG g∧SameG g2 g
theorem navLoad_print (w : World) (hV : LibS w) (g : G) (hok : g.ok) (m : Nat) (h1 : 1 ≤ m) (h2 : m ≤ 6) :
    Calls Tryz.prog 17 #[.string (bs (printS g)),.int .i64 (m:Nat)] w fun e w'=>∃s g2,e=.returned (.tuple #[.pointer (some ⟨s,0,none⟩),.nilIface])∧LdG g2 g∧ServFr w.heap.size w' s g2 ((cntB g.b g.n:Nat):Int) m∧Below w.heap.size w w':=by
 refine (navLoad w hV (printS g) (m:Nat)).mono ?_;obtain ⟨R1,hp1,_,hb1⟩:=parse_print g hok
 rintro e w' (⟨k,_,_,_,h | ⟨_,h,_⟩⟩ | ⟨a,b,R,m',s,hp,hm,_,_,he,hS,hb⟩)
 ·rw [hp1] at h;cases h
 ·omega
 ·rw [hp1] at hp
  cases hp
  obtain rfl:m'=m:=by omega
  have e1:cntB (rowsB g.w R1) (g.h*g.w)=cntB g.b g.n:=by
   rw [Nat.mul_comm]
   exact cntB_congr (fun c hc=>hb1 c hc)
  rw [e1] at hS
  refine ⟨s,partG g.w g.h R1 (g.h*g.w),he,⟨by unfold ldG;rw [hp1],rfl,rfl,fun c hc=>?_⟩,hS,hb⟩
  rw [←hb1 c hc];unfold partG;simp only
  rw [decide_eq_true (by rw [Nat.mul_comm];exact hc),Bool.true_and]
def ServeD (w:World) (most:Int) (e:Ending) (w':World):Prop:=
 Below w.heap.size w w'∧((∃x p,e=.returned (.tuple #[x,.pointer p,.bool false])) ∨
  ∃s q g g2 v m,e=.returned (.tuple #[.pointer (some ⟨s,0,none⟩),.pointer (some ⟨q,0,none⟩),.bool true])∧LdG g2 g∧(RGridAt w' q g v∧0≤v∧v≤300∧g.n≤120∧w.heap.size≤q)∧ServFr (q+1) w' s g2 ((cntB g.b g.n:Nat):Int) m∧most=((m:Nat):Int))
theorem serve_any (W0 : World) (hV : LibS W0) (a b : Int) (A : Option Addr) (n m : Nat) (f : Nat → Int) (h : Ints W0 A n f) (hn : n ≤ 9223372036854775807) (most : Int) :
    Calls Tryz.prog 12 #[.agg #[.int .i64 a,.int .i64 b,.slice A n m],.int .i64 most] W0 (ServeD W0 most):=by
 replace hV:=Lib.hid hV;replace hn:=Lib.hid hn;go_enter Tryz.func12,Tryz.ntmps12
 go_upto_region 1 with (fail)
 refine wp_name ?_;intro W hW
 have HW:Below W0.heap.size W0 W:=by rw [hW];(repeat' (first | exact Below.refl _ _ | assumption | apply bel_drewN | apply bel_drew | apply bel_alloc | (refine bel_trans ?_ (by assumption))))
 have c0:W.cell? ⟨W0.heap.size,0,none⟩=some (.int .i64 a):=by rw [hW];go_simp
 have c1:W.cell? ⟨W0.heap.size,1,none⟩=some (.int .i64 b):=by rw [hW];go_simp
 have c2:W.cell? ⟨W0.heap.size,2,none⟩=some (.slice A n m):=by rw [hW];go_simp
 clear hW;go_wp2_with fail;refine (laid_any a b A n m f _ (h.below HW) hn.out).mono ?_;intro e w2 hL
 rcases laid_split3 hL with ⟨rfl,hb2⟩ | ⟨p,q,g,v,rfl,hR,hq,hb2⟩
 ·have HB2:=bel_trans HW hb2
  clear hL c0 c1 c2 HW hb2
  go_upto_region 2 with (fail)
  refine wp_region_quiet_below (by kernel_rfl) (by kernel_rfl) ?_
  repeat (first | go_big_quiet_step (fail) | quiet_step (fail))
  refine wpQuiet_nil ?_;intro _ hw';obtain ⟨⟨dq,osq⟩,hw''⟩:=hw';have HB3:=bel_trans HB2 (below_regrown w2 dq osq);have hb2:=below_regrown w2 dq osq;subst hw''
  generalize grow (redrawn w2 dq) osq=w3 at HB3 hb2 ⊢
  go_wp2_with fail;go_ret3;exact ⟨HB3,.inl ⟨_,_,rfl⟩⟩
 have HB2:=bel_trans HW hb2;have hqw:=HW.size;replace hq:=Lib.hid hq;clear hL c0 c1 c2 HW hb2;obtain ⟨s1,s2⟩:=hR.size;have hok:=hR.1;have hgn:=G.n_le hok
 have en:((g.n:Nat):Int)=(g.w:Int)*g.h:=by unfold G.n;simp
 have hw:IntKind.i64.wrap ((g.w:Int)*g.h)=(g.w:Int)*g.h:=IntWalk.i64_in _ (by omega)
 have s1q:=cell_regrown s1;have s2q:=cell_regrown s2;replace hok:=Lib.hid hok;replace hR:=Lib.hid hR
 by_cases hbig:120<(g.w:Int)*g.h
 ·have hd:decide (120<(g.w:Int)*g.h)=true:=by simp;omega
  clear hbig en hgn
  go_upto_region 2 with (fail)
  refine wp_region_quiet_below (by kernel_rfl) (by kernel_rfl) ?_
  repeat (first | go_big_quiet_step (fail) | quiet_step (fail))
  refine wpQuiet_nil ?_;intro _ hw';obtain ⟨⟨dq,osq⟩,hw''⟩:=hw';have HB3:=bel_trans HB2 (below_regrown w2 dq osq);have hb2:=below_regrown w2 dq osq;subst hw''
  generalize grow (redrawn w2 dq) osq=w3 at HB3 hb2 ⊢
  go_wp2_with fail;go_ret3;exact ⟨HB3,.inl ⟨_,_,rfl⟩⟩
 have hd:decide (120<(g.w:Int)*g.h)=false:=by simp;omega
 have hn120:g.n≤120:=by omega
 clear hbig en hgn
 go_upto_region 2 with (fail)
 refine wp_region_quiet_below (by kernel_rfl) (by kernel_rfl) ?_
 repeat (first | go_big_quiet_step (fail) | quiet_step (fail))
 refine wpQuiet_nil ?_;intro _ hw';obtain ⟨⟨dq,osq⟩,hw''⟩:=hw';have HB3:=bel_trans HB2 (below_regrown w2 dq osq);have hb2:=below_regrown w2 dq osq;subst hw''
 generalize grow (redrawn w2 dq) osq=w3 at HB3 hb2 ⊢
 have hR3:=Lib.hid (hR.out.below hb2 hR.out.lt);clear s1 s2 s1q s2q hw hd hR HB2 hb2 osq dq;have cP:=Lib.hid (rPrint w3 q g v hR3.out);go_wp2_with fail;refine cP.out.mono ?_;rintro e w4 ⟨rfl,hb4⟩;have HB4:=bel_trans HB3 hb4;have hql:=hR3.out.lt
 by_cases hm:1≤most∧most≤6
 ·obtain ⟨m,rfl⟩:=Int.eq_ofNat_of_zero_le (show 0≤most by omega)
  have cL:=Lib.hid (navLoad_print w4 (hV.out.below HB4) g hok.out m (by omega) (by omega))
  have h34:=hb4.size;replace hR3:=Lib.hid (hR3.out.below hb4 hR3.out.lt);clear cP hb4 HB3 hm;go_wp2_with fail;refine cL.out.mono ?_;rintro e w5 ⟨s,g2,rfl,hSm,hS,hb5⟩
  have hF:ServeD W0 ((m:Nat):Int) (.returned (.tuple #[.pointer (some ⟨s,0,none⟩),.pointer (some ⟨q,0,none⟩),.bool true])) w5:=
   ⟨bel_trans HB4 hb5,.inr ⟨s,q,g,g2,v,m,rfl,hSm,⟨hR3.out.below hb5 hR3.out.lt,hq.out.2.1,hq.out.2.2,hn120,by have:=hq.out.1;omega⟩,hS.mono (by omega),rfl⟩⟩
  replace hF:=Lib.hid hF;clear hS hSm hb5;go_wp2_with fail;go_ret3;exact hF.out
 ·have cL:=Lib.hid (navLoad w4 (hV.out.below HB4) (printS g) most)
  clear cP hb4 HB3;go_wp2_with fail;refine cL.out.mono ?_
  rintro e w5 (⟨k,hk,rfl,hb5,_⟩ | ⟨a',b',R,m',s,hp,rfl,h1,h2,_⟩)
  ·have HB5:=bel_trans HB4 hb5
   clear hm;go_wp2_with fail;go_ret3;exact ⟨HB5,.inl ⟨_,_,rfl⟩⟩
  ·exact absurd (by omega) hm
def g22:G:=⟨2,2,fun _=>false⟩
theorem g22_near:g22.Near 0 3:=by
 have e:g22.E 0 3 (g22.oct 0 3):=⟨by decide,3,by decide,by decide +kernel,by decide +kernel,by decide +kernel⟩
 have:=Walk.snoc (.nil 0) e
 rwa [C.zero_add] at this
theorem navNew22 (w:World):Calls Tryz.prog 30 #[.int .i64 2,.int .i64 2,.int .i64 1] w (ServD w g22 0 1):=by
 go_enter Tryz.func30,Tryz.ntmps30;go_wp2_with fail
 (with_reducible refine (gridNew_ex 2 2 _ (by decide)).mono ?_)
 rintro e w1 ⟨p0,rfl,hp0,hG,hb1⟩
 have cO:=Lib.hid (navOver_ok w1 p0 g22 0 1 hG (by decide) (by decide))
 clear hG;go_wp2_with fail;refine cO.out.mono ?_;intro e w2 hO;obtain ⟨s,rfl,hS,hb2⟩:=hO.fr hb1 hp0;replace hS:=Lib.hid hS;clear hO;go_wp2_with fail;go_ret2;exact ⟨s,rfl,hS.out,hb2⟩
theorem ask22 {W:List Nat} {c:C} {er:Nat} (h:AskIs g22 0 3 W c er):er=0∧c=⟨0,1⟩∧W.length=2:=by
 rcases h with ⟨h,_⟩ | ⟨a,b,ha,hb,h1,h2,h3,h4,hh⟩
 ·exact absurd (by decide +kernel) h
 ·obtain rfl:a=0:=by omega
  obtain rfl:b=3:=by omega
  rcases hh with ⟨h,_⟩ | ⟨h5,h6,h7,_⟩
  ·exact absurd g22_near (h _)
  ·obtain rfl:c=⟨0,1⟩:=Dist.unique h5 (G.near_dist.1 g22_near)
   have:=lw_len h7;simp only at this
   exact ⟨h6,rfl,by omega⟩
theorem works_true (w:World):Calls Tryz.prog 11 #[] w fun e w'=>e=.returned (.bool true)∧Below w.heap.size w w':=by
 go_enter Tryz.func11,Tryz.ntmps11;go_wp2_with fail;refine (navNew22 w).mono ?_;rintro e w1 ⟨s,rfl,hS,hb1⟩;have cA:=Lib.hid (navAsk w1 s g22 0 1 hS.serv 0 3);clear hS;go_wp2_with fail;refine cA.out.mono ?_;rintro e w2 ⟨W,c,er,A,m,hA,rfl,hI,_,hb2⟩;obtain ⟨rfl,rfl,hl⟩:=ask22 hA;rw [hl];have HB:=bel_trans hb1 hb2;clear hA hI cA
 rw [show (Value.agg #[.slice A 2 m,.int .i64 (⟨0,1⟩:C).s,.int .i64 (⟨0,1⟩:C).d,.int .i64 ((0:Nat):Int)])=.agg #[.slice A 2 m,.int .i64 0,.int .i64 1,.int .i64 0] from rfl]
 go_upto_region 5 with (fail)
 refine wp_name ?_;intro W3 hW3
 have hb3:Below w2.heap.size w2 W3:=by rw [hW3];(repeat' (first | exact Below.refl _ _ | assumption | apply bel_drewN | apply bel_drew | apply bel_alloc | (refine bel_trans ?_ (by assumption))))
 have c0:W3.cell? ⟨w2.heap.size,0,none⟩=some (.slice A 2 m):=by rw [hW3];go_simp
 have c1:W3.cell? ⟨w2.heap.size,1,none⟩=some (.int .i64 0):=by rw [hW3];go_simp
 have c2:W3.cell? ⟨w2.heap.size,2,none⟩=some (.int .i64 1):=by rw [hW3];go_simp
 have c3:W3.cell? ⟨w2.heap.size,3,none⟩=some (.int .i64 0):=by rw [hW3];go_simp
 replace HB:=bel_trans HB hb3;clear hW3 hb3 hb1 hb2;go_wp2_with fail;go_ret;exact ⟨rfl,HB⟩
def AsksAt (W:World) (A:Option Addr) (n:Nat) (f:Nat→Int×Int):Prop:=
 0<n→∃b o,A=some ⟨b,o,none⟩∧b<W.heap.size∧∀k,k<n→W.cell? ⟨b,o+k*2,none⟩=some (.int .i64 (f k).1)∧W.cell? ⟨b,o+k*2+1,none⟩=some (.int .i64 (f k).2)
structure SlA (W:World) (A:Option Addr) (n:Nat) (f:Nat→Int×Int):Prop where
 ask:AsksAt W A n f
 len:n≤9223372036854775807
theorem AsksAt.below {w w':World} {A:Option Addr} {n:Nat} {f:Nat→Int×Int} (h:AsksAt w A n f) (hb:Below w.heap.size w w'):AsksAt w' A n f:=fun hn=>by
 obtain ⟨b,o,e,hl,hc⟩:=h hn
 exact ⟨b,o,e,Nat.lt_of_lt_of_le hl hb.size,fun k hk=>⟨bel_cell hb (hc k hk).1,bel_cell hb (hc k hk).2⟩⟩
theorem idx_runA {A:Option Addr} {b o n m k:Nat} (h:A=some ⟨b,o,none⟩) (hk:k<n) (wx:World):(Instr.indexAt 54 (.slice A n m) (.int .i64 (k:Nat))).run Tryz.prog wx=.ok (.pointer (some ⟨b,o+k*2,none⟩)) wx:=by
 subst h
 have q:(k:Int)<(n:Int):=by omega
 go_simp
theorem sameAns (w : World) (A1 A2 : Option Addr) (n m1 m2 : Nat) (f : Nat → Int) (cs cd er : Int) (h1 : Ints w A1 n f) (h2 : Ints w A2 n f) (hn : n < 1099511627776) :
    Calls Tryz.prog 22 #[.agg #[.slice A1 n m1,.int .i64 cs,.int .i64 cd,.int .i64 er],.agg #[.slice A2 n m2,.int .i64 cs,.int .i64 cd,.int .i64 er]] w fun e w'=>e=.returned (.bool true)∧Below w.heap.size w w':=by
 have cN:=Lib.hid (fun w' (hb:Below w.heap.size w w')=>sameNumbers w' A1 A2 n m1 m2 f (h1.below hb) (h2.below hb) hn)
 clear h1 h2 hn;go_enter Tryz.func22,Tryz.ntmps22
 go_upto_region 1 with (fail)
 refine wp_name ?_;intro W hW
 have HW:Below w.heap.size w W:=by rw [hW];(repeat' (first | exact Below.refl _ _ | assumption | apply bel_drewN | apply bel_drew | apply bel_alloc | (refine bel_trans ?_ (by assumption))))
 have c00:W.cell? ⟨w.heap.size,0,none⟩=some (.slice A1 n m1):=by rw [hW];go_simp
 have c01:W.cell? ⟨w.heap.size,1,none⟩=some (.int .i64 cs):=by rw [hW];go_simp
 have c02:W.cell? ⟨w.heap.size,2,none⟩=some (.int .i64 cd):=by rw [hW];go_simp
 have c03:W.cell? ⟨w.heap.size,3,none⟩=some (.int .i64 er):=by rw [hW];go_simp
 have c10:W.cell? ⟨w.heap.size+1,0,none⟩=some (.slice A2 n m2):=by rw [hW];go_simp
 have c11:W.cell? ⟨w.heap.size+1,1,none⟩=some (.int .i64 cs):=by rw [hW];go_simp
 have c12:W.cell? ⟨w.heap.size+1,2,none⟩=some (.int .i64 cd):=by rw [hW];go_simp
 have c13:W.cell? ⟨w.heap.size+1,3,none⟩=some (.int .i64 er):=by rw [hW];go_simp
 clear hW;go_wp2_with fail;refine (cN.out _ HW).mono ?_;rintro e w2 ⟨rfl,hb2⟩;have HB:=bel_trans HW hb2;go_wp2_with fail;go_ret;exact ⟨rfl,HB⟩
theorem ask_len {g:G} (hok:g.ok) {x y:Int} {W:List Nat} {c:C} {e:Nat} (h:AskIs g x y W c e):W.length<1099511627776:=by
 by_cases h0:e=0
 ·have:=(h.len hok h0).1
  omega
 ·rw [(h.zero h0).1];simp
structure AnsV where
 A:Option Addr
 n:Nat
 m:Nat
 s:Int
 d:Int
 e:Int
instance:Inhabited AnsV:=⟨⟨none,0,0,0,0,0⟩⟩
def ansC (x:AnsV):List Value:=[.slice x.A x.n x.m,.int .i64 x.s,.int .i64 x.d,.int .i64 x.e]
def ansL (L:List AnsV):List Value:=L.flatMap ansC
theorem ansL_get (L:List AnsV):∀(k:Nat) (e:AnsV),L[k]? = some e→(ansL L)[k*4]? = some (.slice e.A e.n e.m)∧(ansL L)[k*4+1]? = some (.int .i64 e.s)∧(ansL L)[k*4+2]? = some (.int .i64 e.d)∧(ansL L)[k*4+3]? = some (.int .i64 e.e):=by
 induction L with
 | nil=>intro k e h;simp at h
 | cons x L ih=>
  intro k e h
  cases k with
  | zero=>simp at h;subst h;simp [ansL,ansC]
  | succ k=>
   obtain h1:=ih k e (by simpa using h)
   have e1:(k+1)*4=k*4+1+1+1+1:=by omega
   rw [e1]
   simp only [ansL,List.flatMap_cons,ansC,List.cons_append,List.nil_append,List.getElem?_cons_succ] at h1 ⊢
   exact h1
def OwnAn (w:World) (B:Nat) (v:Value) (L:List AnsV):Prop:=w.ownsRow B 47 4 v L.length (ansL L)
theorem OwnAn.nil (w:World) (B:Nat):OwnAn w B (.slice none 0 0) []:=⟨rfl,.inl ⟨rfl,rfl⟩⟩
theorem OwnAn.below {w w':World} {B:Nat} {v:Value} {L:List AnsV} (h:OwnAn w B v L) (hb:Below w.heap.size w w'):OwnAn w' B v L:=
 World.ownsRow.kept (row:=none) h ⟨hb.os,hb.tape,hb.output,hb.size,fun k hk _=>hb.block k hk⟩ (by cases hv:v.ownBlock <;> simp)
def AnsAt (W:World) (A:Option Addr) (L:List AnsV):Prop:=
 ∀k x,L[k]? = some x→∃b,A=some ⟨b,0,none⟩∧W.cell? ⟨b,k*4,none⟩=some (.slice x.A x.n x.m)∧W.cell? ⟨b,k*4+1,none⟩=some (.int .i64 x.s)∧W.cell? ⟨b,k*4+2,none⟩=some (.int .i64 x.d)∧W.cell? ⟨b,k*4+3,none⟩=some (.int .i64 x.e)
theorem OwnAn.ans {w:World} {B:Nat} {v:Value} {L:List AnsV} (h:OwnAn w B v L):∃A m,v=.slice A L.length m∧AnsAt w A L∧∀ad,A=some ad→B≤ad.block∧ad.block<w.heap.size:=by
 have hl:=fun k (hk:v.ownBlock=some k)=>World.ownsRow.lt h k hk
 rcases h.2 with ⟨rfl,hn⟩ | ⟨g,cap,cur,rfl,hg,hh,hc,hm,hs,ht⟩
 ·rw [hn];exact ⟨none,0,rfl,fun k x hk=>by have:=(List.getElem?_eq_some_iff.1 hk).1;omega,fun ad e=>by cases e⟩
 ·refine ⟨_,cap,rfl,fun k x hk=>⟨g,rfl,?_⟩,fun ad e=>by cases e;exact hl g rfl⟩
  obtain ⟨h0,h1,h2,h3⟩:=ansL_get L k _ hk;have q0:=World.ownsRow.cells h (g:=g) rfl (k*4) _ h0;have q1:=World.ownsRow.cells h (g:=g) rfl (k*4+1) _ h1;have q2:=World.ownsRow.cells h (g:=g) rfl (k*4+2) _ h2;have q3:=World.ownsRow.cells h (g:=g) rfl (k*4+3) _ h3;rw [Addr.add_lit,Nat.zero_add] at q0 q1 q2 q3;exact ⟨q0,q1,q2,q3⟩
theorem idx_runAn {A:Option Addr} {b n m k:Nat} (h:A=some ⟨b,0,none⟩) (hk:k<n) (wx:World):(Instr.indexAt 55 (.slice A n m) (.int .i64 (k:Nat))).run Tryz.prog wx=.ok (.pointer (some ⟨b,k*4,none⟩)) wx:=by
 subst h
 have q:(k:Int)<(n:Int):=by omega
 go_simp
theorem ans_info:(Tryz.prog.info? 47).map (fun i=>(i.zero.map fun z=>z.cells.size,i.size,i.bytes))=some (some 4,4,48):=by kernel_rfl
theorem ans_parts:∃i z,Tryz.prog.info? 47=some i∧i.zero=some z∧i.size=4∧i.bytes=48∧z.cells.size=4:=by
 obtain ⟨i,hi,h⟩:=Option.map_eq_some_iff.1 ans_info;simp only [Prod.mk.injEq] at h;obtain ⟨h1,h2,h3⟩:=h;obtain ⟨z,hz,h4⟩:=Option.map_eq_some_iff.1 h1;exact ⟨i,z,hi,hz,h2,h3,h4⟩
theorem step_append_An {ops : Array Oper} {o : Oper} {a : Act} {w : World} {K : Act → World → Prop} {Q : Exit → Act → World → Prop} {X : Prop} (hg : o.guard = none) (s x : Operand)
    (ho:o.op=.call { callee:=.builtin .append,args:=#[s,x],argTypes:=#[55,55] }) (B:Nat) (v:Value) (L:List AnsV) (e:AnsV) (hs:a.eval s=v) (hown:OwnAn w B v L) (ad:Addr) (hx:a.eval x=.slice (some ad) 1 1)
    (hc:∀j u,(ansC e)[j]? = some u→w.cell? (ad.add j)=some u) (hl:L.length≤100000) (hB:B≤w.heap.size)
    (h:∀v' w',OwnAn w' B v' (L ++ [e])→w.grownBy w' v.ownBlock→(v'.ownBlock=v.ownBlock∨v'.ownBlock=some w.heap.size)→K (a.put o.dst v') w'):if Region.wanted o (yielded ops a.tmps)=true then Oper.wp Tryz.prog o a w K Q else X:=by
 obtain ⟨i0,z0,hi,hz0,hz1,hz2,hz3⟩:=ans_parts
 obtain ⟨v',w',hr,h2,h3,h4,h5⟩:=run_append_own_at (P:=Tryz.prog) w B 55 o.type 47 i0 z0 4 48 Tryz.underlying55 hi hz0 hz1 hz2 hz3 (by decide) v L.length (ansL L) hown ad 1 1 (ansC e) rfl hc (by
  intro u hu;simp [ansC] at hu
  rcases hu with rfl | rfl | rfl | rfl <;> rfl) (by unfold maxLen;omega) (by omega) hB
 have hw:Region.wanted o (yielded ops a.tmps)=true:=by simp [Region.wanted,hg]
 rw [if_pos hw];unfold Oper.wp
 have hO:OwnAn w' B v' (L ++ [e]):=by
  unfold OwnAn;rw [List.length_append]
  have:ansL (L ++ [e])=ansL L ++ ansC e:=by simp [ansL]
  rw [this];exact h2
 simp [execOp,ho,resolve,invoke,builtin,hs,hx,hr,Result.andThen];exact h v' w' hO h3 h5
theorem new_ans {w:World} {b:Nat} {e:AnsV} {T:TypeId} (h:w.heap[b]? = some (.cells #[.slice e.A e.n e.m,.int .i64 e.s,.int .i64 e.d,.int .i64 e.e] T (0,0))):∀j u,(ansC e)[j]? = some u→w.cell? ((⟨b,0,none⟩:Addr).add j)=some u:=by
 intro j u hj;rw [Addr.add_lit,Nat.zero_add,Lib.cell_of_heap h]
 simpa [ansC] using hj
theorem below_grownAn {B:Nat} {W w w':World} {v:Value} {L:List AnsV} (hB:Below B W w) (hs:B≤w.heap.size) (h:OwnAn w B v L) (hg:w.grownBy w' v.ownBlock):Below B W w':=
 hB.grown hg hs (fun k hk=>(World.ownsRow.lt h k hk).1)
def AnsIs (w:World) (B:Nat) (g:G) (most:Nat) (x y:Int) (a:AnsV):Prop:=
 ∃(W:List Nat) (c:C) (er:Nat),AskU g most x y W c er∧a.n=W.length∧a.s=c.s∧a.d=c.d∧a.e=(er:Nat)∧Ints w a.A W.length (fun k=>(natI W).getD k 0)∧(∀ad,a.A=some ad→B≤ad.block)∧(0<a.n→FzA w a.A)
theorem AnsIs.kept {S:List Nat} {w w':World} {B:Nat} {g:G} {most:Nat} {x y:Int} {a:AnsV} (h:AnsIs w B g most x y a) (hk:Kept S w w') (hS:0<a.n→∀ad,a.A=some ad→ad.block∉S):AnsIs w' B g most x y a:=by
 obtain ⟨W,c,er,h1,h2,h3,h4,h5,h6,h7,h8⟩:=h
 exact ⟨W,c,er,h1,h2,h3,h4,h5,h6.kept0 hk (fun h0 ad e=>hS (by omega) ad e),h7,fun h0=>(h8 h0).kept hk (hS h0)⟩
theorem AnsIs.below {w w':World} {B:Nat} {g:G} {most:Nat} {x y:Int} {a:AnsV} (h:AnsIs w B g most x y a) (hb:Below w.heap.size w w'):AnsIs w' B g most x y a:=h.kept (S:=[]) (.of_below hb) (fun _ _ _=>by simp)
def AnsS (w:World) (B:Nat) (g:G) (most:Nat) (f:Nat→Int×Int) (k:Nat) (v:Value):Prop:=
 ∃L:List AnsV,L.length=k∧OwnAn w B v L∧∀i a,L[i]? = some a→AnsIs w B g most (f i).1 (f i).2 a∧(0<a.n→∀ad,a.A=some ad→v.ownBlock≠some ad.block)
theorem AnsS.below {w w':World} {B:Nat} {g:G} {most:Nat} {f:Nat→Int×Int} {k:Nat} {v:Value} (h:AnsS w B g most f k v) (hb:Below w.heap.size w w'):AnsS w' B g most f k v:=by
 obtain ⟨L,h1,h2,h3⟩:=h
 exact ⟨L,h1,h2.below hb,fun i a hi=>⟨(h3 i a hi).1.below hb,(h3 i a hi).2⟩⟩
theorem AnsS.nil (w:World) (B:Nat) (g:G) (most:Nat) (f:Nat→Int×Int):AnsS w B g most f 0 (.slice none 0 0):=⟨[],rfl,OwnAn.nil w B,fun i a h=>by simp at h⟩
theorem AnsS.push {w w' : World} {B : Nat} {g : G} {most : Nat} {f : Nat → Int × Int} {k : Nat} {v v' : Value} {L : List AnsV} {e : AnsV} (h1 : L.length = k) (h2 : OwnAn w B v L) (h3 : ∀ i a, L[i]? = some a → AnsIs w B g most (f i).1 (f i).2 a ∧ (0 < a.n → ∀ ad, a.A = some ad → v.ownBlock ≠ some ad.block))
    (he:AnsIs w B g most (f k).1 (f k).2 e) (hne:0<e.n→∀ad,e.A=some ad→v.ownBlock≠some ad.block) (ho:OwnAn w' B v' (L ++ [e])) (hg:w.grownBy w' v.ownBlock) (hat:v'.ownBlock=v.ownBlock∨v'.ownBlock=some w.heap.size):AnsS w' B g most f (k+1) v':=by
 have hk:Kept v.ownBlock.toList w w':=⟨hg.os,hg.tape,hg.output,hg.size,fun q hq hn=>hg.block q hq (fun e=>hn (by rw [←e];simp))⟩
 have key:∀(a:AnsV) (x y:Int),AnsIs w B g most x y a→(0<a.n→∀ad,a.A=some ad→v.ownBlock≠some ad.block)→AnsIs w' B g most x y a∧(0<a.n→∀ad,a.A=some ad→v'.ownBlock≠some ad.block):=by
  intro a x y ha hn
  refine ⟨ha.kept hk (fun h0 ad e hm=>hn h0 ad e (by rw [Option.mem_toList] at hm;exact hm)),fun h0 ad e=>?_⟩
  rcases hat with q | q
  ·rw [q];exact hn h0 ad e
  ·rw [q]
   intro e2
   injection e2 with e2
   obtain ⟨W,c,er,_,q2,_,_,_,q6,_⟩:=ha
   obtain ⟨ad',e',hl,_⟩:=q6 (by omega)
   rw [e] at e';injection e' with e';subst e'
   omega
 refine ⟨L ++ [e],by simp [h1],ho,fun i a hi=>?_⟩
 by_cases hik:i<k
 ·rw [List.getElem?_append_left (by omega)] at hi
  exact key a _ _ (h3 i a hi).1 (h3 i a hi).2
 ·rw [List.getElem?_append_right (by omega)] at hi
  obtain ⟨q1,q2⟩:=List.getElem?_eq_some_iff.1 hi;simp at q1
  obtain rfl:i=k:=by omega
  simp [h1] at q2;subst q2;exact key e _ _ he hne
theorem AnsS.kept {S:List Nat} {w w':World} {B:Nat} {g:G} {most:Nat} {f:Nat→Int×Int} {k:Nat} {v:Value} (h:AnsS w B g most f k v) (hk:Kept S w w') (hS:∀q∈S,q<B):AnsS w' B g most f k v:=by
 obtain ⟨L,h1,h2,h3⟩:=h
 refine ⟨L,h1,?_,fun i a hi=>⟨(h3 i a hi).1.kept hk (fun _ ad e hm=>?_),(h3 i a hi).2⟩⟩
 ·rcases h2.2 with ⟨e0,h0⟩ | ⟨g',cap,cur,e1,hb,hh,hr⟩
  ·exact ⟨h2.1,.inl ⟨e0,h0⟩⟩
  ·exact ⟨h2.1,.inr ⟨g',cap,cur,e1,hb,(hk.block g' (Array.getElem?_eq_some_iff.1 hh).1 (fun hm=>by have:=hS _ hm;omega)).trans hh,hr⟩⟩
 ·obtain ⟨_,_,_,_,_,_,_,_,_,q,_⟩:=(h3 i a hi).1
  have:=q ad e;have:=hS _ hm;omega
theorem AsksAt.kept {S:List Nat} {w w':World} {A:Option Addr} {n:Nat} {f:Nat→Int×Int} (h:AsksAt w A n f) (hk:Kept S w w') (hS:0<n→∀ad,A=some ad→ad.block∉S):AsksAt w' A n f:=fun hn=>by
 obtain ⟨b,o,e,hl,hc⟩:=h hn;have hb':b∉S:=hS hn ⟨b,o,none⟩ e
 exact ⟨b,o,e,Nat.lt_of_lt_of_le hl hk.size,fun k hk'=>⟨keptc (p:=⟨b,_,none⟩) hk hb' (hc k hk').1,keptc (p:=⟨b,_,none⟩) hk hb' (hc k hk').2⟩⟩
theorem Kept.two {S S':List Nat} {w w1 w2:World} (h:Kept S w w1) (k:Kept S' w1 w2) (hS:∀q∈S',q∈S∨w.heap.size≤q):Kept S w w2:=
 ⟨k.os.trans h.os,k.tape.trans h.tape,k.output.trans h.output,Nat.le_trans h.size k.size,fun q hq hn=>(k.block q (Nat.lt_of_lt_of_le hq h.size) (fun hm=>by
  rcases hS q hm with r | r
  ·exact hn r
  ·omega)).trans (h.block q hq hn)⟩
end Go.Proofs.YtokhnobcincfjaaGreatDoor
