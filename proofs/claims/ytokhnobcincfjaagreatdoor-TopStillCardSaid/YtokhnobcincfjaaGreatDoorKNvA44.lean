/- Lemmas of this claim: NavTop, Asks, SameA, AnsOwn, Batch, TopStill. -/
import Derived.Test.YtokhnobcincfjaaGreatDoorKNvA39
import Derived.Test.YtokhnobcincfjaaGreatDoorKNvA29
import Derived.Test.YtokhnobcincfjaaGreatDoorRTx2
import Derived.Test.YtokhnobcincfjaaGreatDoorKNvA5
import Derived.Test.YtokhnobcincfjaaGreatDoorBase
import Derived.Test.YtokhnobcincfjaaGreatDoorKNvA3
set_option linter.unusedVariables false
set_option linter.unusedSimpArgs false
set_option maxHeartbeats 6400000
set_option maxRecDepth 100000
namespace Go.Proofs.YtokhnobcincfjaaGreatDoor
open Go.RowKit Go.Sort FR Go.Lib
theorem laid_split3 {w w' : World} {e : Ending} (h : Laid w e w') : (e = .returned (.tuple #[.pointer none, .pointer none, .bool false]) ∧ Below w.heap.size w w') ∨
    ∃p q g v,e=.returned (.tuple #[.pointer (some ⟨p,0,none⟩),.pointer (some ⟨q,0,none⟩),.bool true])∧RGridAt w' q g v∧(w.heap.size≤q∧0≤v∧v≤300)∧Below w.heap.size w w':=by
 rcases h with h | ⟨p,q,g,v,h1,k1,k2,h2,h3,k3,k4,h4⟩
 ·exact .inl h
 ·exact .inr ⟨p,q,g,v,h1,h3,⟨by omega,k3,k4⟩,h4⟩
def ldG (g:G):G:=match parseS (printS g) with
 | .ok a b R=>partG a b R (b*a)
 | .bad _=>g
def LdG (g2 g:G):Prop:=g2=ldG g∧SameG g2 g
theorem navLoad_print (w : World) (hV : LibS w) (g : G) (hok : g.ok) (m : Nat) (h1 : 1 ≤ m) (h2 : m ≤ 6) :
    Calls Tryz.prog 17 #[.string (bs (printS g)),.int .i64 (m:Nat)] w fun e w'=>∃s g2,e=.returned (.tuple #[.pointer (some ⟨s,0,none⟩),.nilIface])∧LdG g2 g∧ServFr w.heap.size w' s g2 ((cntB g.b g.n:Nat):Int) m∧Below w.heap.size w w':=by
 refine (navLoad w hV (printS g) (m:Nat)).mono ?_;obtain ⟨R1,hp1,_,hb1⟩:=parse_print g hok
 rintro e w' (⟨k,_,_,_,h | ⟨_,h,_⟩⟩ | ⟨a,b,R,m',s,hp,hm,_,_,he,hS,hb⟩)
 ·rw [hp1] at h;cases h
 ·omega
 ·rw [hp1] at hp
  cases hp
  obtain rfl:m'=m:=by omega
  have e1:cntB (rowsB g.w R1) (g.h*g.w)=cntB g.b g.n:=by
   rw [Nat.mul_comm]
   exact cntB_congr (fun c hc=>hb1 c hc)
  rw [e1] at hS
  refine ⟨s,partG g.w g.h R1 (g.h*g.w),he,⟨by unfold ldG;rw [hp1],rfl,rfl,fun c hc=>?_⟩,hS,hb⟩
  rw [←hb1 c hc];unfold partG;simp only
  rw [decide_eq_true (by rw [Nat.mul_comm];exact hc),Bool.true_and]
def ServeD (w:World) (most:Int) (e:Ending) (w':World):Prop:=
 Below w.heap.size w w'∧((∃x y,e=.returned (.tuple #[x,y,.bool false])) ∨
  ∃s q g g2 v m,e=.returned (.tuple #[.pointer (some ⟨s,0,none⟩),.pointer (some ⟨q,0,none⟩),.bool true])∧LdG g2 g∧(RGridAt w' q g v∧0≤v∧v≤300∧g.n≤120∧w.heap.size≤q)∧ServFr (q+1) w' s g2 ((cntB g.b g.n:Nat):Int) m∧most=((m:Nat):Int))
theorem serve_any (W0 : World) (hV : LibS W0) (a b : Int) (A : Option Addr) (n m : Nat) (f : Nat → Int) (h : Ints W0 A n f) (hn : n ≤ 9223372036854775807) (most : Int) :
    Calls Tryz.prog 12 #[.agg #[.int .i64 a,.int .i64 b,.slice A n m],.int .i64 most] W0 (ServeD W0 most):=by
 replace hV:=Lib.hid hV;replace hn:=Lib.hid hn;go_enter Tryz.func12,Tryz.ntmps12
 go_upto_region 1 with (fail)
 refine wp_name ?_;intro W hW
 have HW:Below W0.heap.size W0 W:=by rw [hW];(repeat' (first | exact Below.refl _ _ | assumption | apply bel_drewN | apply bel_drew | apply bel_alloc | (refine bel_trans ?_ (by assumption))))
 have c0:W.cell? ⟨W0.heap.size,0,none⟩=some (.int .i64 a):=by rw [hW];go_simp
 have c1:W.cell? ⟨W0.heap.size,1,none⟩=some (.int .i64 b):=by rw [hW];go_simp
 have c2:W.cell? ⟨W0.heap.size,2,none⟩=some (.slice A n m):=by rw [hW];go_simp
 clear hW;go_wp2_with fail;refine (laid_any a b A n m f _ (h.below HW) hn.out).mono ?_;intro e w2 hL
 rcases laid_split3 hL with ⟨rfl,hb2⟩ | ⟨p,q,g,v,rfl,hR,hq,hb2⟩
 ·have HB2:=bel_trans HW hb2
  clear hL c0 c1 c2 HW hb2
  go_upto_region 2 with (fail)
  refine wp_region_quiet_below (by kernel_rfl) (by kernel_rfl) ?_
  repeat (first | go_big_quiet_step (fail) | quiet_step (fail))
  refine wpQuiet_nil ?_;intro _ hw';obtain ⟨⟨dq,osq⟩,hw''⟩:=hw';have HB3:=bel_trans HB2 (below_regrown w2 dq osq);have hb2:=below_regrown w2 dq osq;subst hw''
  generalize grow (redrawn w2 dq) osq=w3 at HB3 hb2 ⊢
  go_wp2_with fail;go_ret3;exact ⟨HB3,.inl ⟨_,_,rfl⟩⟩
 have HB2:=bel_trans HW hb2;have hqw:=HW.size;replace hq:=Lib.hid hq;clear hL c0 c1 c2 HW hb2;obtain ⟨s1,s2⟩:=hR.size;have hok:=hR.1;have hgn:=G.n_le hok
 have en:((g.n:Nat):Int)=(g.w:Int)*g.h:=by unfold G.n;simp
 have hw:IntKind.i64.wrap ((g.w:Int)*g.h)=(g.w:Int)*g.h:=IntWalk.i64_in _ (by omega)
 have s1q:=cell_regrown s1;have s2q:=cell_regrown s2;replace hok:=Lib.hid hok;replace hR:=Lib.hid hR
 by_cases hbig:120<(g.w:Int)*g.h
 ·have hd:decide (120<(g.w:Int)*g.h)=true:=by simp;omega
  clear hbig en hgn
  go_upto_region 2 with (fail)
  refine wp_region_quiet_below (by kernel_rfl) (by kernel_rfl) ?_
  repeat (first | go_big_quiet_step (fail) | quiet_step (fail))
  refine wpQuiet_nil ?_;intro _ hw';obtain ⟨⟨dq,osq⟩,hw''⟩:=hw';have HB3:=bel_trans HB2 (below_regrown w2 dq osq);have hb2:=below_regrown w2 dq osq;subst hw''
  generalize grow (redrawn w2 dq) osq=w3 at HB3 hb2 ⊢
  go_wp2_with fail;go_ret3;exact ⟨HB3,.inl ⟨_,_,rfl⟩⟩
 have hd:decide (120<(g.w:Int)*g.h)=false:=by simp;omega
 have hn120:g.n≤120:=by omega
 clear hbig en hgn
 go_upto_region 2 with (fail)
 refine wp_region_quiet_below (by kernel_rfl) (by kernel_rfl) ?_
 repeat (first | go_big_quiet_step (fail) | quiet_step (fail))
 refine wpQuiet_nil ?_;intro _ hw';obtain ⟨⟨dq,osq⟩,hw''⟩:=hw';have HB3:=bel_trans HB2 (below_regrown w2 dq osq);have hb2:=below_regrown w2 dq osq;subst hw''
 generalize grow (redrawn w2 dq) osq=w3 at HB3 hb2 ⊢
 have hR3:=Lib.hid (hR.out.below hb2 hR.out.lt);clear s1 s2 s1q s2q hw hd hR HB2 hb2 osq dq;have cP:=Lib.hid (rPrint w3 q g v hR3.out);go_wp2_with fail;refine cP.out.mono ?_;rintro e w4 ⟨rfl,hb4⟩;have HB4:=bel_trans HB3 hb4;have hql:=hR3.out.lt
 by_cases hm:1≤most∧most≤6
 ·obtain ⟨m,rfl⟩:=Int.eq_ofNat_of_zero_le (show 0≤most by omega)
  have cL:=Lib.hid (navLoad_print w4 (hV.out.below HB4) g hok.out m (by omega) (by omega))
  have h34:=hb4.size;replace hR3:=Lib.hid (hR3.out.below hb4 hR3.out.lt);clear cP hb4 HB3 hm;go_wp2_with fail;refine cL.out.mono ?_;rintro e w5 ⟨s,g2,rfl,hSm,hS,hb5⟩
  have hF:ServeD W0 ((m:Nat):Int) (.returned (.tuple #[.pointer (some ⟨s,0,none⟩),.pointer (some ⟨q,0,none⟩),.bool true])) w5:=
   ⟨bel_trans HB4 hb5,.inr ⟨s,q,g,g2,v,m,rfl,hSm,⟨hR3.out.below hb5 hR3.out.lt,hq.out.2.1,hq.out.2.2,hn120,by have:=hq.out.1;omega⟩,hS.mono (by omega),rfl⟩⟩
  replace hF:=Lib.hid hF;clear hS hSm hb5;go_wp2_with fail;go_ret3;exact hF.out
 ·have cL:=Lib.hid (navLoad w4 (hV.out.below HB4) (printS g) most)
  clear cP hb4 HB3;go_wp2_with fail;refine cL.out.mono ?_
  rintro e w5 (⟨k,hk,rfl,hb5,_⟩ | ⟨a',b',R,m',s,hp,rfl,h1,h2,_⟩)
  ·have HB5:=bel_trans HB4 hb5
   clear hm;go_wp2_with fail;go_ret3;exact ⟨HB5,.inl ⟨_,_,rfl⟩⟩
  ·exact absurd (by omega) hm
def g22:G:=⟨2,2,fun _=>false⟩
theorem g22_near:g22.Near 0 3:=by
 have e:g22.E 0 3 (g22.oct 0 3):=⟨by decide,3,by decide,by decide +kernel,by decide +kernel,by decide +kernel⟩
 have:=Walk.snoc (.nil 0) e
 rwa [C.zero_add] at this
theorem navNew22 (w:World):Calls Tryz.prog 30 #[.int .i64 2,.int .i64 2,.int .i64 1] w (ServD w g22 0 1):=by
 go_enter Tryz.func30,Tryz.ntmps30;go_wp2_with fail
 (with_reducible refine (gridNew_ex 2 2 _ (by decide)).mono ?_)
 rintro e w1 ⟨p0,rfl,hp0,hG,hb1⟩
 have cO:=Lib.hid (navOver_ok w1 p0 g22 0 1 hG (by decide) (by decide))
 clear hG;go_wp2_with fail;refine cO.out.mono ?_;intro e w2 hO;obtain ⟨s,rfl,hS,hb2⟩:=hO.fr hb1 hp0;replace hS:=Lib.hid hS;clear hO;go_wp2_with fail;go_ret2;exact ⟨s,rfl,hS.out,hb2⟩
theorem ask22 {W:List Nat} {c:C} {er:Nat} (h:AskIs g22 0 3 W c er):er=0∧c=⟨0,1⟩∧W.length=2:=by
 rcases h with ⟨h,_⟩ | ⟨a,b,ha,hb,h1,h2,h3,h4,hh⟩
 ·exact absurd (by decide +kernel) h
 ·obtain rfl:a=0:=by omega
  obtain rfl:b=3:=by omega
  rcases hh with ⟨h,_⟩ | ⟨h5,h6,h7,_⟩
  ·exact absurd g22_near (h _)
  ·obtain rfl:c=⟨0,1⟩:=Dist.unique h5 (G.near_dist.1 g22_near)
   have:=lw_len h7;simp only at this
   exact ⟨h6,rfl,by omega⟩
theorem works_true (w:World):Calls Tryz.prog 11 #[] w fun e w'=>e=.returned (.bool true)∧Below w.heap.size w w':=by
 go_enter Tryz.func11,Tryz.ntmps11;go_wp2_with fail;refine (navNew22 w).mono ?_;rintro e w1 ⟨s,rfl,hS,hb1⟩;have cA:=Lib.hid (navAsk w1 s g22 0 1 hS.serv 0 3);clear hS;go_wp2_with fail;refine cA.out.mono ?_;rintro e w2 ⟨W,c,er,A,m,hA,rfl,hI,_,hb2⟩;obtain ⟨rfl,rfl,hl⟩:=ask22 hA;rw [hl];have HB:=bel_trans hb1 hb2;clear hA hI cA
 rw [show (Value.agg #[.slice A 2 m,.int .i64 (⟨0,1⟩:C).s,.int .i64 (⟨0,1⟩:C).d,.int .i64 ((0:Nat):Int)])=.agg #[.slice A 2 m,.int .i64 0,.int .i64 1,.int .i64 0] from rfl]
 go_upto_region 5 with (fail)
 refine wp_name ?_;intro W3 hW3
 have hb3:Below w2.heap.size w2 W3:=by rw [hW3];(repeat' (first | exact Below.refl _ _ | assumption | apply bel_drewN | apply bel_drew | apply bel_alloc | (refine bel_trans ?_ (by assumption))))
 have c0:W3.cell? ⟨w2.heap.size,0,none⟩=some (.slice A 2 m):=by rw [hW3];go_simp
 have c1:W3.cell? ⟨w2.heap.size,1,none⟩=some (.int .i64 0):=by rw [hW3];go_simp
 have c2:W3.cell? ⟨w2.heap.size,2,none⟩=some (.int .i64 1):=by rw [hW3];go_simp
 have c3:W3.cell? ⟨w2.heap.size,3,none⟩=some (.int .i64 0):=by rw [hW3];go_simp
 replace HB:=bel_trans HB hb3;clear hW3 hb3 hb1 hb2;go_wp2_with fail;go_ret;exact ⟨rfl,HB⟩
def AsksAt (W:World) (A:Option Addr) (n:Nat) (f:Nat→Int×Int):Prop:=
 0<n→∃b o,A=some ⟨b,o,none⟩∧b<W.heap.size∧∀k,k<n→W.cell? ⟨b,o+k*2,none⟩=some (.int .i64 (f k).1)∧W.cell? ⟨b,o+k*2+1,none⟩=some (.int .i64 (f k).2)
structure SlA (W:World) (A:Option Addr) (n:Nat) (f:Nat→Int×Int):Prop where
 ask:AsksAt W A n f
 len:n≤9223372036854775807
theorem AsksAt.below {w w':World} {A:Option Addr} {n:Nat} {f:Nat→Int×Int} (h:AsksAt w A n f) (hb:Below w.heap.size w w'):AsksAt w' A n f:=fun hn=>by
 obtain ⟨b,o,e,hl,hc⟩:=h hn
 exact ⟨b,o,e,Nat.lt_of_lt_of_le hl hb.size,fun k hk=>⟨bel_cell hb (hc k hk).1,bel_cell hb (hc k hk).2⟩⟩
theorem idx_runA {A:Option Addr} {b o n m k:Nat} (h:A=some ⟨b,o,none⟩) (hk:k<n) (wx:World):(Instr.indexAt 54 (.slice A n m) (.int .i64 (k:Nat))).run Tryz.prog wx=.ok (.pointer (some ⟨b,o+k*2,none⟩)) wx:=by
 subst h
 have q:(k:Int)<(n:Int):=by omega
 go_simp
theorem sameAns (w : World) (A1 A2 : Option Addr) (n m1 m2 : Nat) (f : Nat → Int) (cs cd er : Int) (h1 : Ints w A1 n f) (h2 : Ints w A2 n f) (hn : n < 1099511627776) :
    Calls Tryz.prog 22 #[.agg #[.slice A1 n m1,.int .i64 cs,.int .i64 cd,.int .i64 er],.agg #[.slice A2 n m2,.int .i64 cs,.int .i64 cd,.int .i64 er]] w fun e w'=>e=.returned (.bool true)∧Below w.heap.size w w':=by
 have cN:=Lib.hid (fun w' (hb:Below w.heap.size w w')=>sameNumbers w' A1 A2 n m1 m2 f (h1.below hb) (h2.below hb) hn)
 clear h1 h2 hn;go_enter Tryz.func22,Tryz.ntmps22
 go_upto_region 1 with (fail)
 refine wp_name ?_;intro W hW
 have HW:Below w.heap.size w W:=by rw [hW];(repeat' (first | exact Below.refl _ _ | assumption | apply bel_drewN | apply bel_drew | apply bel_alloc | (refine bel_trans ?_ (by assumption))))
 have c00:W.cell? ⟨w.heap.size,0,none⟩=some (.slice A1 n m1):=by rw [hW];go_simp
 have c01:W.cell? ⟨w.heap.size,1,none⟩=some (.int .i64 cs):=by rw [hW];go_simp
 have c02:W.cell? ⟨w.heap.size,2,none⟩=some (.int .i64 cd):=by rw [hW];go_simp
 have c03:W.cell? ⟨w.heap.size,3,none⟩=some (.int .i64 er):=by rw [hW];go_simp
 have c10:W.cell? ⟨w.heap.size+1,0,none⟩=some (.slice A2 n m2):=by rw [hW];go_simp
 have c11:W.cell? ⟨w.heap.size+1,1,none⟩=some (.int .i64 cs):=by rw [hW];go_simp
 have c12:W.cell? ⟨w.heap.size+1,2,none⟩=some (.int .i64 cd):=by rw [hW];go_simp
 have c13:W.cell? ⟨w.heap.size+1,3,none⟩=some (.int .i64 er):=by rw [hW];go_simp
 clear hW;go_wp2_with fail;refine (cN.out _ HW).mono ?_;rintro e w2 ⟨rfl,hb2⟩;have HB:=bel_trans HW hb2;go_wp2_with fail;go_ret;exact ⟨rfl,HB⟩
theorem ask_len {g:G} (hok:g.ok) {x y:Int} {W:List Nat} {c:C} {e:Nat} (h:AskIs g x y W c e):W.length<1099511627776:=by
 by_cases h0:e=0
 ·have:=(h.len hok h0).1
  omega
 ·rw [(h.zero h0).1];simp
theorem ldG_idem {g g2 g3:G} (hok:g.ok) (h:LdG g2 g) (k:LdG g3 g2):g3=g2:=by
 obtain ⟨R1,hp1,_⟩:=parse_print g hok;rw [k.1,h.1]
 have e:printS (ldG g)=printS g:=by rw [←h.1];exact h.2.print
 have e2:ldG g=partG g.w g.h R1 (g.h*g.w):=by unfold ldG;rw [hp1]
 show (match parseS (printS (ldG g)) with | .ok a b R=>partG a b R (b*a) | .bad _=>ldG g)=_
 rw [e,hp1,e2]
structure AnsV where
 A:Option Addr
 n:Nat
 m:Nat
 s:Int
 d:Int
 e:Int
instance:Inhabited AnsV:=⟨⟨none,0,0,0,0,0⟩⟩
def ansC (x:AnsV):List Value:=[.slice x.A x.n x.m,.int .i64 x.s,.int .i64 x.d,.int .i64 x.e]
def ansL (L:List AnsV):List Value:=L.flatMap ansC
theorem ansL_get (L:List AnsV):∀(k:Nat) (e:AnsV),L[k]? = some e→(ansL L)[k*4]? = some (.slice e.A e.n e.m)∧(ansL L)[k*4+1]? = some (.int .i64 e.s)∧(ansL L)[k*4+2]? = some (.int .i64 e.d)∧(ansL L)[k*4+3]? = some (.int .i64 e.e):=by
 induction L with
 | nil=>intro k e h;simp at h
 | cons x L ih=>
  intro k e h
  cases k with
  | zero=>simp at h;subst h;simp [ansL,ansC]
  | succ k=>
   obtain h1:=ih k e (by simpa using h)
   have e1:(k+1)*4=k*4+1+1+1+1:=by omega
   rw [e1]
   simp only [ansL,List.flatMap_cons,ansC,List.cons_append,List.nil_append,List.getElem?_cons_succ] at h1 ⊢
   exact h1
def OwnAn (w:World) (B:Nat) (v:Value) (L:List AnsV):Prop:=w.ownsRow B 47 4 v L.length (ansL L)
theorem OwnAn.nil (w:World) (B:Nat):OwnAn w B (.slice none 0 0) []:=⟨rfl,.inl ⟨rfl,rfl⟩⟩
theorem OwnAn.below {w w':World} {B:Nat} {v:Value} {L:List AnsV} (h:OwnAn w B v L) (hb:Below w.heap.size w w'):OwnAn w' B v L:=
 World.ownsRow.kept (row:=none) h ⟨hb.os,hb.tape,hb.output,hb.size,fun k hk _=>hb.block k hk⟩ (by cases hv:v.ownBlock <;> simp)
def AnsAt (W:World) (A:Option Addr) (L:List AnsV):Prop:=
 ∀k x,L[k]? = some x→∃b,A=some ⟨b,0,none⟩∧W.cell? ⟨b,k*4,none⟩=some (.slice x.A x.n x.m)∧W.cell? ⟨b,k*4+1,none⟩=some (.int .i64 x.s)∧W.cell? ⟨b,k*4+2,none⟩=some (.int .i64 x.d)∧W.cell? ⟨b,k*4+3,none⟩=some (.int .i64 x.e)
theorem OwnAn.ans {w:World} {B:Nat} {v:Value} {L:List AnsV} (h:OwnAn w B v L):∃A m,v=.slice A L.length m∧AnsAt w A L∧∀ad,A=some ad→B≤ad.block∧ad.block<w.heap.size:=by
 have hl:=fun k (hk:v.ownBlock=some k)=>World.ownsRow.lt h k hk
 rcases h.2 with ⟨rfl,hn⟩ | ⟨g,cap,cur,rfl,hg,hh,hc,hm,hs,ht⟩
 ·rw [hn];exact ⟨none,0,rfl,fun k x hk=>by have:=(List.getElem?_eq_some_iff.1 hk).1;omega,fun ad e=>by cases e⟩
 ·refine ⟨_,cap,rfl,fun k x hk=>⟨g,rfl,?_⟩,fun ad e=>by cases e;exact hl g rfl⟩
  obtain ⟨h0,h1,h2,h3⟩:=ansL_get L k _ hk;have q0:=World.ownsRow.cells h (g:=g) rfl (k*4) _ h0;have q1:=World.ownsRow.cells h (g:=g) rfl (k*4+1) _ h1;have q2:=World.ownsRow.cells h (g:=g) rfl (k*4+2) _ h2;have q3:=World.ownsRow.cells h (g:=g) rfl (k*4+3) _ h3;rw [Addr.add_lit,Nat.zero_add] at q0 q1 q2 q3;exact ⟨q0,q1,q2,q3⟩
theorem AnsAt.below {w w':World} {A:Option Addr} {L:List AnsV} (h:AnsAt w A L) (hb:Below w.heap.size w w'):AnsAt w' A L:=fun k x hk=>by
 obtain ⟨b,h1,h2,h3,h4,h5⟩:=h k x hk;exact ⟨b,h1,bel_cell hb h2,bel_cell hb h3,bel_cell hb h4,bel_cell hb h5⟩
theorem idx_runAn {A:Option Addr} {b n m k:Nat} (h:A=some ⟨b,0,none⟩) (hk:k<n) (wx:World):(Instr.indexAt 55 (.slice A n m) (.int .i64 (k:Nat))).run Tryz.prog wx=.ok (.pointer (some ⟨b,k*4,none⟩)) wx:=by
 subst h
 have q:(k:Int)<(n:Int):=by omega
 go_simp
theorem ans_info:(Tryz.prog.info? 47).map (fun i=>(i.zero.map fun z=>z.cells.size,i.size,i.bytes))=some (some 4,4,48):=by kernel_rfl
theorem ans_parts:∃i z,Tryz.prog.info? 47=some i∧i.zero=some z∧i.size=4∧i.bytes=48∧z.cells.size=4:=by
 obtain ⟨i,hi,h⟩:=Option.map_eq_some_iff.1 ans_info;simp only [Prod.mk.injEq] at h;obtain ⟨h1,h2,h3⟩:=h;obtain ⟨z,hz,h4⟩:=Option.map_eq_some_iff.1 h1;exact ⟨i,z,hi,hz,h2,h3,h4⟩
theorem wpList_append_An {ops : Array Oper} {rest : List Oper} {o : Oper} {a : Act} {Q : Exit → Act → World → Prop} (w : World) (hgd : o.guard = none) (s x : Operand)
    (ho:o.op=.call { callee:=.builtin .append,args:=#[s,x],argTypes:=#[55,55] })
    (B:Nat) (v:Value) (L:List AnsV) (e:AnsV) (hs:a.eval s=v) (hown:OwnAn w B v L) (ad:Addr) (hx:a.eval x=.slice (some ad) 1 1)
    (hc:w.cell? ad=some (.slice e.A e.n e.m)∧w.cell? (ad.add 1)=some (.int .i64 e.s)∧w.cell? (ad.add 2)=some (.int .i64 e.d)∧w.cell? (ad.add 3)=some (.int .i64 e.e)) (hl:L.length≤100000) (hB:B≤w.heap.size)
    (h:∀v' w',OwnAn w' B v' (L ++ [e])→w.grownBy w' v.ownBlock→(v'.ownBlock=v.ownBlock∨v'.ownBlock=some w.heap.size)→wpList Tryz.prog ops Q rest (a.put o.dst v') w'):wpList Tryz.prog ops Q (o :: rest) a w:=by
 obtain ⟨i0,z0,hi,hz0,hz1,hz2,hz3⟩:=ans_parts
 refine wpList_append_own_at w hgd s x 55 ho B 47 i0 z0 4 48 Tryz.underlying55 hi hz0 hz1 hz2 hz3 (by decide) v L.length (ansL L) hs hown ad 1 1 (ansC e) hx rfl ?_ ?_ ?_ ?_ hB ?_
 ·intro j u hu
  match j with
  | 0=>simp [ansC] at hu;subst hu;simpa [Addr.add] using hc.1
  | 1=>simp [ansC] at hu;subst hu;exact hc.2.1
  | 2=>simp [ansC] at hu;subst hu;exact hc.2.2.1
  | 3=>simp [ansC] at hu;subst hu;exact hc.2.2.2
  | j+4=>simp [ansC] at hu
 ·intro u hu
  simp [ansC] at hu
  rcases hu with rfl | rfl | rfl | rfl <;> rfl
 ·unfold maxLen;omega
 ·omega
 ·intro v' w' h1 h2 _ h4
  refine h v' w' ?_ h2 h4;unfold OwnAn;rw [List.length_append]
  have:ansL (L ++ [e])=ansL L ++ ansC e:=by simp [ansL]
  rw [this];exact h1
theorem below_grownAn {B:Nat} {W w w':World} {v:Value} {L:List AnsV} (hB:Below B W w) (hs:B≤w.heap.size) (h:OwnAn w B v L) (hg:w.grownBy w' v.ownBlock):Below B W w':=
 hB.grown hg hs (fun k hk=>(World.ownsRow.lt h k hk).1)
def AnsIs (w:World) (B:Nat) (g:G) (most:Nat) (x y:Int) (a:AnsV):Prop:=
 ∃(W:List Nat) (c:C) (er:Nat),AskU g most x y W c er∧a.n=W.length∧a.s=c.s∧a.d=c.d∧a.e=(er:Nat)∧Ints w a.A W.length (fun k=>(natI W).getD k 0)∧(∀ad,a.A=some ad→B≤ad.block)∧(0<a.n→FzA w a.A)
theorem AnsIs.kept {S:List Nat} {w w':World} {B:Nat} {g:G} {most:Nat} {x y:Int} {a:AnsV} (h:AnsIs w B g most x y a) (hk:Kept S w w') (hS:0<a.n→∀ad,a.A=some ad→ad.block∉S):AnsIs w' B g most x y a:=by
 obtain ⟨W,c,er,h1,h2,h3,h4,h5,h6,h7,h8⟩:=h
 exact ⟨W,c,er,h1,h2,h3,h4,h5,h6.kept0 hk (fun h0 ad e=>hS (by omega) ad e),h7,fun h0=>(h8 h0).kept hk (hS h0)⟩
theorem AnsIs.below {w w':World} {B:Nat} {g:G} {most:Nat} {x y:Int} {a:AnsV} (h:AnsIs w B g most x y a) (hb:Below w.heap.size w w'):AnsIs w' B g most x y a:=h.kept (S:=[]) (.of_below hb) (fun _ _ _=>by simp)
def AnsS (w:World) (B:Nat) (g:G) (most:Nat) (f:Nat→Int×Int) (k:Nat) (v:Value):Prop:=
 ∃L:List AnsV,L.length=k∧OwnAn w B v L∧∀i a,L[i]? = some a→AnsIs w B g most (f i).1 (f i).2 a∧(0<a.n→∀ad,a.A=some ad→v.ownBlock≠some ad.block)
theorem AnsS.below {w w':World} {B:Nat} {g:G} {most:Nat} {f:Nat→Int×Int} {k:Nat} {v:Value} (h:AnsS w B g most f k v) (hb:Below w.heap.size w w'):AnsS w' B g most f k v:=by
 obtain ⟨L,h1,h2,h3⟩:=h
 exact ⟨L,h1,h2.below hb,fun i a hi=>⟨(h3 i a hi).1.below hb,(h3 i a hi).2⟩⟩
theorem AnsS.nil (w:World) (B:Nat) (g:G) (most:Nat) (f:Nat→Int×Int):AnsS w B g most f 0 (.slice none 0 0):=⟨[],rfl,OwnAn.nil w B,fun i a h=>by simp at h⟩
theorem AnsS.push {w w' : World} {B : Nat} {g : G} {most : Nat} {f : Nat → Int × Int} {k : Nat} {v v' : Value} {L : List AnsV} {e : AnsV} (h1 : L.length = k) (h2 : OwnAn w B v L) (h3 : ∀ i a, L[i]? = some a → AnsIs w B g most (f i).1 (f i).2 a ∧ (0 < a.n → ∀ ad, a.A = some ad → v.ownBlock ≠ some ad.block))
    (he:AnsIs w B g most (f k).1 (f k).2 e) (hne:0<e.n→∀ad,e.A=some ad→v.ownBlock≠some ad.block) (ho:OwnAn w' B v' (L ++ [e])) (hg:w.grownBy w' v.ownBlock) (hat:v'.ownBlock=v.ownBlock∨v'.ownBlock=some w.heap.size):AnsS w' B g most f (k+1) v':=by
 have hk:Kept v.ownBlock.toList w w':=⟨hg.os,hg.tape,hg.output,hg.size,fun q hq hn=>hg.block q hq (fun e=>hn (by rw [←e];simp))⟩
 have key:∀(a:AnsV) (x y:Int),AnsIs w B g most x y a→(0<a.n→∀ad,a.A=some ad→v.ownBlock≠some ad.block)→AnsIs w' B g most x y a∧(0<a.n→∀ad,a.A=some ad→v'.ownBlock≠some ad.block):=by
  intro a x y ha hn
  refine ⟨ha.kept hk (fun h0 ad e hm=>hn h0 ad e (by rw [Option.mem_toList] at hm;exact hm)),fun h0 ad e=>?_⟩
  rcases hat with q | q
  ·rw [q];exact hn h0 ad e
  ·rw [q]
   intro e2
   injection e2 with e2
   obtain ⟨W,c,er,_,q2,_,_,_,q6,_⟩:=ha
   obtain ⟨ad',e',hl,_⟩:=q6 (by omega)
   rw [e] at e';injection e' with e';subst e'
   omega
 refine ⟨L ++ [e],by simp [h1],ho,fun i a hi=>?_⟩
 by_cases hik:i<k
 ·rw [List.getElem?_append_left (by omega)] at hi
  exact key a _ _ (h3 i a hi).1 (h3 i a hi).2
 ·rw [List.getElem?_append_right (by omega)] at hi
  obtain ⟨q1,q2⟩:=List.getElem?_eq_some_iff.1 hi;simp at q1
  obtain rfl:i=k:=by omega
  simp [h1] at q2;subst q2;exact key e _ _ he hne
def AnsM (w:World) (B:Nat) (a:AnsV):Prop:=∃f,Ints w a.A a.n f∧(0<a.n→FzA w a.A)∧∀ad,a.A=some ad→B≤ad.block
theorem AnsIs.m {w:World} {B:Nat} {g:G} {most:Nat} {x y:Int} {a:AnsV} (h:AnsIs w B g most x y a):AnsM w B a:=by
 obtain ⟨W,c,er,h1,h2,h3,h4,h5,h6,h7,h8⟩:=h
 exact ⟨_,by rw [h2];exact h6,h8,h7⟩
theorem AnsM.below {w w':World} {B:Nat} {a:AnsV} (h:AnsM w B a) (hb:Below w.heap.size w w'):AnsM w' B a:=by
 obtain ⟨f,h1,h2,h3⟩:=h
 exact ⟨f,h1.below hb,fun h0=>(h2 h0).kept (S:=[]) (.of_below hb) (fun _ _=>by simp),h3⟩
theorem AnsM.cell {w:World} {B:Nat} {a:AnsV} (h:AnsM w B a) {k:Nat} (hk:k<a.n):∃b o z,(∀wx,(Instr.indexAt 22 (.slice a.A a.n a.m) (.int .i64 (k:Nat))).run Tryz.prog wx=.ok (.pointer (some ⟨b,o,none⟩)) wx)∧w.cell? ⟨b,o,none⟩=some (.int .i64 z)∧w.frozen? ⟨b,o,none⟩=false∧B≤b∧∃ad,a.A=some ad∧ad.block=b:=by
 obtain ⟨f,h1,h2,h3⟩:=h
 obtain ⟨ad,e,hl,hc⟩:=h1 (by omega)
 have hck:=hc k hk
 obtain ⟨b,o,hbo⟩:∃b o,ad.add k=⟨b,o,none⟩:=by
  have hs:(ad.add k).spot=none:=by
   unfold World.cell? at hck
   split at hck
   ·cases hs:(ad.add k).spot with
    | none=>rfl
    | some s=>simp [hs] at hck
   ·cases hck
  generalize ad.add k=p at hs
  obtain ⟨b,o,s⟩:=p;simp only at hs;subst hs;exact ⟨b,o,rfl⟩
 have hb:ad.block=b:=by rw [←add_block ad k,hbo]
 refine ⟨b,o,f k,fun wx=>?_,by rw [←hbo];exact hck,?_,by rw [←hb];exact h3 ad e,ad,e,hb⟩
 ·rw [←hbo];exact idx_run e hk wx
 ·rw [←hb];exact ((h2 (by omega)) ad e).2 o
theorem AnsM.set {w:World} {B:Nat} {a:AnsV} (h:AnsM w B a) {b o:Nat} {z z':Int} (hc:w.cell? ⟨b,o,none⟩=some (.int .i64 z)):AnsM (w.setCell ⟨b,o,none⟩ (.int .i64 z')) B a:=by
 obtain ⟨f,h1,h2,h3⟩:=h
 refine ⟨fun k=>match a.A with | some ad=>if ad.add k=⟨b,o,none⟩ then z' else f k | none=>0,fun h0=>?_,fun h0 ad e=>?_,h3⟩
 ·obtain ⟨ad,e,hl,hcc⟩:=h1 h0
  refine ⟨ad,e,by simpa using hl,fun k hk=>?_⟩
  rw [e];simp only
  by_cases hq:ad.add k=⟨b,o,none⟩
  ·rw [if_pos hq,hq];exact World.cell?_setCell_same (w:=_) (a:=_) (v:=_) hc
  ·rw [if_neg hq,World.cell?_setCell_other (w:=_) (a:=_) (b:=_) (v:=_) (fun e=>hq e.symm)];exact hcc k hk
 ·obtain ⟨q1,q2⟩:=h2 h0 ad e
  exact ⟨by simpa using q1,fun o'=>by rw [World.frozen?_setCell];exact q2 o'⟩
theorem AnsAt.set {w:World} {A:Option Addr} {L:List AnsV} (h:AnsAt w A L) {b o:Nat} {v:Value} (hb:∀ad,A=some ad→ad.block≠b):AnsAt (w.setCell ⟨b,o,none⟩ v) A L:=fun k x hk=>by
 obtain ⟨g,h1,h2,h3,h4,h5⟩:=h k x hk;have hg:=hb _ h1;simp only at hg
 have key:∀j,(w.setCell ⟨b,o,none⟩ v).cell? ⟨g,j,none⟩=w.cell? ⟨g,j,none⟩:=fun j=>World.cell?_setCell_other (w:=_) (a:=_) (b:=_) (v:=_) (fun e=>hg (by injection e with e;exact e.symm))
 exact ⟨g,h1,by rw [key];exact h2,by rw [key];exact h3,by rw [key];exact h4,by rw [key];exact h5⟩
def BatD (w:World) (g:G) (most:Nat) (f:Nat→Int×Int) (n:Nat) (e:Ending) (w':World):Prop:=∃v,e=.returned (.tuple #[v,.nilIface])∧AnsS w' w.heap.size g most f n v∧Below w.heap.size w w'
theorem navBatch (w : World) (s : Nat) (g : G) (v : Int) (most : Nat) (h : ServAt w s g v most) (A : Option Addr) (n m : Nat) (f : Nat → Int × Int) (hA : AsksAt w A n f) (hn : n ≤ 40) :
    Calls Tryz.prog 21 #[.pointer (some ⟨s,0,none⟩),.slice A n m] w (BatD w g most f n):=by
 have HS:=Lib.hid h;have HA:=Lib.hid hA;clear h hA;go_enter Tryz.func21,Tryz.ntmps21;go_wp2_with fail
 go_loopw [6,15] (fun lv iv wr=>∃(k:Nat),k≤n∧iv=.int .i64 (k:Nat)∧AnsS wr w.heap.size g most f k lv∧Below w.heap.size w wr) (fun _ iv _=>n-(intOf iv).toNat)
 case atStart=>exact ⟨0,Nat.zero_le _,rfl,AnsS.nil _ _ _ _ _,Below.refl _ _⟩
 case round=>
  obtain ⟨k,hk,rfl,hL,hB⟩:=hrel
  by_cases hlt:k<n
  ·obtain ⟨ba,o,hAe,_,hc⟩:=HA.out (by omega)
   obtain ⟨x1,x2⟩:=hc k hlt
   have hix:=fun wx=>idx_runA (A:=A) (m:=m) hAe hlt wx
   obtain ⟨⟨x,y⟩,hxy⟩:∃z,f k=z:=⟨_,rfl⟩;rw [hxy] at x1 x2;simp only at x1 x2;obtain ⟨ok,hok⟩:∃z,o+k*2=z:=⟨_,rfl⟩;rw [hok] at x1 x2 hix;replace x1:=bel_cell hB x1;replace x2:=bel_cell hB x2;have Hxy:=Lib.hid hxy;replace hL:=Lib.hid hL;have HB:=Lib.hid hB;clear hAe hc hxy hok hB
   go_upto_region 7 with (fail)
   refine wp_name ?_;intro W2 hW2
   have hb2:Below wr.heap.size wr W2:=by rw [hW2];(repeat' (first | exact Below.refl _ _ | assumption | apply bel_drewN | apply bel_drew | apply bel_alloc | (refine bel_trans ?_ (by assumption))))
   have e0:W2.cell? ⟨wr.heap.size,0,none⟩=some (.int .i64 x):=by rw [hW2];go_simp
   have e1:W2.cell? ⟨wr.heap.size,1,none⟩=some (.int .i64 y):=by rw [hW2];go_simp
   have HB2:=Lib.hid (bel_trans HB.out hb2);have HL2:=Lib.hid (hL.out.below hb2);have cA:=Lib.hid (navAskX W2 s g v most (HS.out.below HB2.out) x y);clear hW2 hb2 hL x1 x2 hix HB;go_wp2_with fail;refine cA.out.mono ?_;rintro e w3 ⟨Wy,⟨cs,cd⟩,er,Aw,mw,hU,rfl,hI,hf,hb3⟩;have HB3:=Lib.hid (bel_trans HB2.out hb3);obtain ⟨L,h1,h2,h3⟩:=HL2.out;have h2':=h2;replace h2:=h2.below hb3;have hsz:=HB3.out.size
   have hws:=HB2.out.size;obtain ⟨nw,hnw⟩:∃z,Wy.length=z:=⟨_,rfl⟩;rw [hnw]
   have hE:AnsIs w3 w.heap.size g most (f k).1 (f k).2 ⟨Aw,nw,mw,cs,cd,(er:Nat)⟩:=by
    rw [Hxy.out]
    exact ⟨Wy,_,er,hU,hnw.symm,rfl,rfl,rfl,hI,fun ad e=>Nat.le_trans hws (hf.1 ad e),fun _=>hf.2⟩
   have hne:0<nw→∀ad,Aw=some ad→u6.ownBlock≠some ad.block:=fun _ ad e e2=>by
    have:=(World.ownsRow.lt h2' _ e2).2;have:=hf.1 ad e;omega
   have HE:=Lib.hid (And.intro hE hne)
   have H3:=Lib.hid (And.intro h1 (And.intro h2 (fun i a hi=>And.intro ((h3 i a hi).1.below hb3) (h3 i a hi).2)))
   have hl:=h1
   have hk40:k≤40:=by omega
   clear hU hI hf hb3 cA h2 h2' h1 h3 hE hne hnw HL2 e0 e1
   go_wp2_with (at_builtin;refine wpList_append_An _ rfl _ _ rfl w.heap.size _ L ⟨Aw,nw,mw,cs,cd,(er:Nat)⟩ rfl (H3.out.2.1.below (Below.alloc (Below.refl _ _) (Nat.le_refl _) _)) ⟨w3.heap.size,0,none⟩ rfl ⟨by go_simp,by go_simp,by go_simp,by go_simp⟩ (by omega) (by simp;omega) ?_;intro v' w9 hown9 hgrow hat)
   have hF:AnsS w9 w.heap.size g most f (k+1) v':=by
    obtain ⟨q1,q2,q3⟩:=H3.out;have hd:Below w3.heap.size w3 (w3.alloc (.cells #[.slice Aw nw mw,.int .i64 cs,.int .i64 cd,.int .i64 (er:Nat)] 47)):=Below.alloc (Below.refl _ _) (Nat.le_refl _) _
    exact AnsS.push q1 (q2.below hd) (fun i a hi=>⟨(q3 i a hi).1.below hd,(q3 i a hi).2⟩) (HE.out.1.below hd) HE.out.2 hown9 hgrow hat
   have HF:=Lib.hid (And.intro hF (below_grownAn (HB3.out.alloc (by omega) (.cells #[.slice Aw nw mw,.int .i64 cs,.int .i64 cd,.int .i64 (er:Nat)] 47 (0,0))) (by simp;omega) (H3.out.2.1.below (Below.alloc (Below.refl _ _) (Nat.le_refl _) _)) hgrow))
   clear hF hown9 hgrow hat HE H3;go_wp2;go_roundw
   case rel=>first | exact ⟨k+1,by omega,by go_num,HF.out.1,HF.out.2⟩ | ((repeat apply Exists.intro);exact ⟨⟨k+1,by omega,by go_num,HF.out.1,HF.out.2⟩,rfl⟩)
   case measure=>simp [intOf];omega
  ·obtain rfl:k=n:=by omega
   go_wp2_with fail;go_ret2;exact ⟨_,rfl,hL,hB⟩
theorem topStill (W0 : World) (hV : LibS W0) (a b : Int) (A0 : Option Addr) (n0 m0 : Nat) (f0 : Nat → Int) (h0 : SlI W0 A0 n0 f0) (mx : Int) (hmx : -9223372036854775808 ≤ mx ∧ mx ≤ 9223372036854775807)
    (A1:Option Addr) (n1 m1:Nat) (f1:Nat→Int×Int) (h1:SlA W0 A1 n1 f1) :
    Calls Tryz.prog 5 #[.agg #[.int .i64 a,.int .i64 b,.slice A0 n0 m0],.int .i64 mx,.slice A1 n1 m1] W0 fun e w'=>e=.returned (.bool true)∧Below W0.heap.size W0 w':=by
 obtain ⟨hA1,hl1⟩:=h1;replace hA1:=Lib.hid hA1;replace hl1:=Lib.hid hl1;clear hmx;obtain ⟨hI0,hl0,_⟩:=h0;replace hl0:=Lib.hid hl0;replace hV:=Lib.hid hV;go_enter Tryz.func5,Tryz.ntmps5
 go_upto_region 1 with (fail)
 refine wp_name ?_;intro W hW
 have HW:Below W0.heap.size W0 W:=by rw [hW];(repeat' (first | exact Below.refl _ _ | assumption | apply bel_drewN | apply bel_drew | apply bel_alloc | (refine bel_trans ?_ (by assumption))))
 have c0:W.cell? ⟨W0.heap.size,0,none⟩=some (.int .i64 a):=by rw [hW];go_simp
 have c1:W.cell? ⟨W0.heap.size,1,none⟩=some (.int .i64 b):=by rw [hW];go_simp
 have c2:W.cell? ⟨W0.heap.size,2,none⟩=some (.slice A0 n0 m0):=by rw [hW];go_simp
 clear hW;go_wp2_with fail;refine (works_true _).mono ?_;rintro e w1 ⟨rfl,hb1⟩;have HB1:=bel_trans HW hb1;replace c0:=bel_cell hb1 c0;replace c1:=bel_cell hb1 c1;replace c2:=bel_cell hb1 c2;have cS:=Lib.hid (serve_any w1 (hV.out.below HB1) a b A0 n0 m0 f0 (hI0.below HB1) hl0.out mx);clear HW hb1;go_wp2_with fail;refine cS.out.mono ?_
 rintro e w2 ⟨hb2,(⟨u1,u2,rfl⟩ | ⟨s,q,g,g2,v,m,rfl,hld,hq,hF,rfl⟩)⟩
 ·have HB2:=bel_trans HB1 hb2
  go_wp2_with fail;go_ret;exact ⟨rfl,HB2⟩
 have HB2:=Lib.hid (bel_trans HB1 hb2);have hw12:=HB1.size
 have hq0:W0.heap.size≤q:=by have:=hq.2.2.2.2;omega
 have HLd:=Lib.hid hld;have HR:=Lib.hid hq.1;have HQ:=Lib.hid (And.intro hq.2.1 (And.intro hq.2.2.1 (And.intro hq.2.2.2.1 hq0)));have hV2:=Lib.hid (hV.out.below HB2.out);obtain ⟨v2,hv2⟩:∃z,((cntB g.b g.n:Nat):Int)=z:=⟨_,rfl⟩;rw [hv2] at hF;have Hok:=Lib.hid HR.out.1;have HS:=Lib.hid hF.serv;have HF:=Lib.hid hF;have Hv2:=Lib.hid hv2;clear c0 c1 c2 cS hb2 HB1 hld hq hF hv2 hw12 hq0 hV
 by_cases h25:25<n1
 ·go_wp2_with fail
  go_ret;exact ⟨rfl,HB2.out⟩
 replace hA1:=Lib.hid (hA1.out.below HB2.out);have Hok2:=Lib.hid HS.out.ok;have cT:=Lib.hid (navStats w2 s g2 v2 m HS.out);go_wp2_with fail;refine cT.out.mono ?_;rintro e w3 ⟨sn,sf,sd,se,sa,tp,rfl,hst,hb3⟩
 go_upto_region 8 with (fail)
 refine wp_name ?_;intro W4 hW4;obtain ⟨b5,hb5⟩:∃z,w3.heap.size=z:=⟨_,rfl⟩
 have hb34:Below w3.heap.size w3 W4:=by rw [hW4];(repeat' (first | exact Below.refl _ _ | assumption | apply bel_drewN | apply bel_drew | apply bel_alloc | (refine bel_trans ?_ (by assumption))))
 have k0:W4.cell? ⟨b5,0,none⟩=some (.int .i64 (sn:Nat)):=by rw [hW4,←hb5];go_simp
 have k1:W4.cell? ⟨b5,1,none⟩=some (.int .i64 (sf:Nat)):=by rw [hW4,←hb5];go_simp
 have k2:W4.cell? ⟨b5,2,none⟩=some (.int .i64 (sd:Nat)):=by rw [hW4,←hb5];go_simp
 have k3:W4.cell? ⟨b5,3,none⟩=some (.int .i64 (se:Nat)):=by rw [hW4,←hb5];go_simp
 have k4:W4.cell? ⟨b5,4,none⟩=some (.int .i64 (sa:Nat)):=by rw [hW4,←hb5];go_simp
 have k5:W4.cell? ⟨b5,5,none⟩=some (.int .i64 (tp:Nat)):=by rw [hW4,←hb5];go_simp
 have k6:W4.cell? ⟨b5,6,none⟩=some (.int .i64 v2):=by rw [hW4,←hb5];go_simp
 rw [hb5];have HK:=Lib.hid (And.intro k0 (And.intro k1 (And.intro k2 (And.intro k3 (And.intro k4 (And.intro k5 k6))))));have Hst:=Lib.hid hst;have h24:=bel_trans hb3 hb34;have HB4:=Lib.hid (bel_trans HB2.out h24);replace HS:=Lib.hid (HS.out.below h24);replace hA1:=Lib.hid (hA1.out.below h24)
 have cB:=Lib.hid (navBatch W4 s g2 v2 m HS.out A1 n1 m1 f1 hA1.out (by omega))
 clear hW4 hb5 hb34 hb3 h24 hst cT k0 k1 k2 k3 k4 k5 k6 HB2 HR hV2;go_wp2_with fail;refine cB.out.mono ?_;rintro e w5 ⟨vv,rfl,⟨L,hL,hO,hIs⟩,hb5⟩;obtain ⟨AL,mL,rfl,hAns,hAd⟩:=hO.ans
 rw [hL] at hIs ⊢
 have hIsL:=Lib.hid hIs;have HL:=Lib.hid (And.intro hL hAd);have HAns:=Lib.hid hAns;replace hb5:=Lib.hid hb5;clear hL hO hIs hAd hAns cB;go_wp2_with fail
 go_loopw [13] (fun iv wr=>∃(k:Nat) (x:Int),x=(k:Int)-1∧k≤n1∧iv=.int .i64 x∧Below w5.heap.size w5 wr) (fun iv _=>(intOf iv+1).toNat)
 case atStart=>exact ⟨n1,_,rfl,Nat.le_refl _,rfl,Below.refl _ _⟩
 case round=>
  obtain ⟨k,xi,hxi,hk,rfl,hB⟩:=hrel
  by_cases hlt:0<k
  ·obtain ⟨j,rfl⟩:∃j,k=j+1:=⟨k-1,by omega⟩
   obtain rfl:xi=(j:Nat):=by omega
   have HBk:=Lib.hid (bel_trans hb5.out hB);clear hxi
   obtain ⟨ba,o,hAe,_,hc⟩:=hA1.out (by omega)
   obtain ⟨x1,x2⟩:=hc j (by omega)
   have hix:=fun wx=>idx_runA (A:=A1) (m:=m1) hAe (show j<n1 by omega) wx
   obtain ⟨⟨x,y⟩,hxy⟩:∃z,f1 j=z:=⟨_,rfl⟩;rw [hxy] at x1 x2;simp only at x1 x2;obtain ⟨ok,hok⟩:∃z,o+j*2=z:=⟨_,rfl⟩;rw [hok] at x1 x2 hix
   obtain ⟨an,han⟩:∃an,L[j]? = some an:=⟨_,List.getElem?_eq_getElem (by have:=HL.out.1;omega)⟩
   obtain ⟨gA,eA,a0,a1,a2,a3⟩:=HAns.out j an han;obtain ⟨W2,⟨cs2,cd2⟩,er2,hU2,e1,e2,e3,e4,hI2,_⟩:=(hIsL.out j an han).1;rw [hxy] at hU2;obtain ⟨A2,n2,m2,s2,d2,z2⟩:=an;simp only at a0 a1 a2 a3 e1 e2 e3 e4 hI2 hU2;subst e1;subst e2;subst e3;subst e4
   have hiy:=fun wx=>idx_runAn (m:=mL) eA (show j<n1 by omega) wx
   obtain ⟨jo,hjo⟩:∃z,j*4=z:=⟨_,rfl⟩;rw [hjo] at a0 a1 a2 a3 hiy;have Hcc:=Lib.hid (And.intro (bel_cell HBk.out x1) (And.intro (bel_cell HBk.out x2) (And.intro (bel_cell hB a0) (And.intro (bel_cell hB a1) (And.intro (bel_cell hB a2) (bel_cell hB a3))))));have HU2:=Lib.hid hU2;have HI2:=Lib.hid (hI2.below hB);have HSk:=Lib.hid (HS.out.below HBk.out);replace hB:=Lib.hid hB;clear hAe hc x1 x2 hxy hok han eA a0 a1 a2 a3 hU2 hI2 hjo
   go_upto_region 14 with (fail)
   go_cut [14] from 57 to 79 (fun sv wx=>sv=.bool true∧Below wr.heap.size wr wx)
   case first=>
    have cA:=Lib.hid (fun w' (hb:Below wr.heap.size wr w')=>navAskX w' s g2 v2 m (HSk.out.below hb) x y)
    have hBQ:Below wr.heap.size wr wr.drew:=bel_drew (Below.refl wr.heap.size wr)
    have kS:wr.drew.cell? ⟨ba,ok,none⟩=some (.int .i64 x)∧wr.drew.cell? ⟨ba,ok+1,none⟩=some (.int .i64 y)∧wr.drew.cell? ⟨gA,jo,none⟩=some (.slice A2 W2.length m2)∧wr.drew.cell? ⟨gA,jo+1,none⟩=some (.int .i64 s2)∧wr.drew.cell? ⟨gA,jo+2,none⟩=some (.int .i64 d2)∧wr.drew.cell? ⟨gA,jo+3,none⟩=some (.int .i64 (er2:Nat)):=
     ⟨bel_cell hBQ Hcc.out.1,bel_cell hBQ Hcc.out.2.1,bel_cell hBQ Hcc.out.2.2.1,bel_cell hBQ Hcc.out.2.2.2.1,bel_cell hBQ Hcc.out.2.2.2.2.1,bel_cell hBQ Hcc.out.2.2.2.2.2⟩
    go_region_held3 (fun w'=>w'.cell? ⟨ba,ok,none⟩=some (.int .i64 x)∧w'.cell? ⟨ba,ok+1,none⟩=some (.int .i64 y)∧w'.cell? ⟨gA,jo,none⟩=some (.slice A2 W2.length m2)∧w'.cell? ⟨gA,jo+1,none⟩=some (.int .i64 s2)∧w'.cell? ⟨gA,jo+2,none⟩=some (.int .i64 d2)∧w'.cell? ⟨gA,jo+3,none⟩=some (.int .i64 (er2:Nat)))
     (first
      | with_reducible exact kS
      | with_reducible exact ⟨bel_cell hBQ Hcc.out.1,bel_cell hBQ Hcc.out.2.1,bel_cell hBQ Hcc.out.2.2.1,bel_cell hBQ Hcc.out.2.2.2.1,bel_cell hBQ Hcc.out.2.2.2.2.1,bel_cell hBQ Hcc.out.2.2.2.2.2⟩)
     (first
      | (go_at_call 19
         with_reducible refine (cA.out _ hBQ).mono ?_
         rintro e wA ⟨Wy1,⟨cs1,cd1⟩,er1,Aw1,mw1,hU1,rfl,hI1,hf1,hb1⟩;have hBQ:=bel_trans hBQ hb1;have zz:=hU1.det HU2.out;have hXl:=ask_len Hok2.out hU1.1;obtain ⟨rfl,hce,rfl⟩:=zz
         injection hce with hc1 hc2
         subst hc1;subst hc2)
      | (go_at_call 22
         have hX2:=HI2.out.below hBQ
         with_reducible refine (sameAns wA Aw1 A2 _ mw1 m2 _ _ _ _ hI1 hX2 hXl).mono ?_
         rintro e wC ⟨rfl,hb3⟩;have hBQ:=bel_trans hBQ hb3))
    all_goals
     go_wp2;go_meet
     case rel=>exact ⟨rfl,hBQ⟩
   case rest=>
    obtain ⟨rfl,hbx⟩:=hcut;have HF:=Lib.hid (bel_trans hB.out hbx)
    have hw1:IntKind.i64.wrap ((j:Int)-1)=(j:Int)-1:=IntWalk.i64_in _ (by omega)
    clear hbx hix hiy HSk;go_wp2;go_roundw
    case rel=>first | exact ⟨j,_,rfl,by omega,rfl,HF.out⟩ | ((repeat apply Exists.intro);exact ⟨⟨j,_,rfl,by omega,rfl,HF.out⟩,rfl⟩)
    case measure=>simp [intOf]
  ·obtain rfl:k=0:=by omega
   have hx0:¬0≤xi:=by omega
   have hd0:decide (0≤xi)=false:=by simp;omega
   clear hxi;go_wp2_with fail
   have HM0:AnsAt wr AL L∧(∀(i:Nat) (a:AnsV),L[i]? = some a→AnsM wr W4.heap.size a)∧Below W4.heap.size W4 wr:=⟨HAns.out.below hB,fun i a hi=>(hIsL.out i a hi).1.m.below hB,bel_trans hb5.out hB⟩
   have hNe:=Lib.hid (fun (i:Nat) (a:AnsV) (hi:L[i]? = some a)=>(hIsL.out i a hi).2)
   have hLen:=Lib.hid (fun (i:Nat) (a:AnsV) (hi:L[i]? = some a)=>(show a.n<1099511627776 by
    obtain ⟨W,c,er,q1,q2,_⟩:=(hIsL.out i a hi).1;rw [q2];exact ask_len Hok2.out q1.1))
   have hWh:=Lib.hid hb5.out.size;clear hB hx0 hd0 hlt hk hIsL HAns
   go_loopw [15] (fun iv wr=>∃(k:Nat),k≤n1∧iv=.int .i64 (k:Nat)∧AnsAt wr AL L∧(∀(i:Nat) (a:AnsV),L[i]? = some a→AnsM wr W4.heap.size a)∧Below W4.heap.size W4 wr) (fun iv _=>n1-(intOf iv).toNat)
   case atStart=>exact ⟨0,Nat.zero_le _,rfl,HM0⟩
   case round=>
    clear HM0;obtain ⟨k,hk,rfl,hAt,hM,hB⟩:=hrel
    by_cases hlt:k<n1
    ·obtain ⟨an,han⟩:∃an,L[k]? = some an:=⟨_,List.getElem?_eq_getElem (by have:=HL.out.1;omega)⟩
     have HM:=Lib.hid (And.intro hAt (And.intro hM hB));have Han:=Lib.hid han;clear hAt hM hB han;go_wp2_with fail;obtain ⟨wo,rfl⟩:∃wo:World,wo=wr:=⟨_,rfl⟩
     go_loopw [16] (fun iv wr=>∃(j:Nat),j≤an.n∧iv=.int .i64 (j:Nat)∧AnsAt wr AL L∧(∀(i:Nat) (a:AnsV),L[i]? = some a→AnsM wr W4.heap.size a)∧Below W4.heap.size W4 wr) (fun iv _=>an.n-(intOf iv).toNat)
     case atStart=>exact ⟨0,Nat.zero_le _,rfl,HM.out⟩
     case round=>
      clear HM;obtain ⟨j,hj,rfl,hAt,hM,hB⟩:=hrel;obtain ⟨gA,eA,a0,_,_,_⟩:=hAt k an Han.out
      have hiy:=fun wx=>idx_runAn (m:=mL) eA hlt wx
      have hMk:=hM k an Han.out;have HM:=Lib.hid (And.intro hAt (And.intro hM hB));have HeA:=Lib.hid eA;have hnb:=hLen.out k an Han.out;obtain ⟨nn,hnn⟩:∃z,an.n=z:=⟨_,rfl⟩;rw [hnn] at hnb;obtain ⟨mm,hmm⟩:∃z,an.m=z:=⟨_,rfl⟩;obtain ⟨AA,hAA⟩:∃z,an.A=z:=⟨_,rfl⟩
      by_cases hjl:j<nn
      ·obtain ⟨bw,ow,zw,hiw,hcw,hfw,hbw,adw,haw,haw2⟩:=hMk.cell (k:=j) (by omega)
       rw [hnn,hmm,hAA] at a0;rw [hnn,hmm,hAA] at hiw
       rw [hnn] at hj ⊢
       have hgw:gA≠bw:=fun e=>hNe.out k an Han.out (by omega) adw haw (by rw [HeA.out];simp only [Value.ownBlock];rw [haw2,e])
       have hF:AnsAt (wr.setCell ⟨bw,ow,none⟩ (.int .i64 (-7))) AL L∧(∀(i:Nat) (a:AnsV),L[i]? = some a→AnsM (wr.setCell ⟨bw,ow,none⟩ (.int .i64 (-7))) W4.heap.size a)∧Below W4.heap.size W4 (wr.setCell ⟨bw,ow,none⟩ (.int .i64 (-7))):=
        ⟨HM.out.1.set (fun ad e=>by rw [HeA.out] at e;injection e with e;subst e;exact hgw),fun i a hi=>(HM.out.2.1 i a hi).set hcw,HM.out.2.2.setCell (p:=⟨bw,ow,none⟩) hbw _⟩
       replace hF:=Lib.hid hF
       have hjq:(j:Int)<(nn:Int):=by omega
       clear hAt hM hB eA hMk HM hnn hmm hAA hbw haw haw2 hgw;go_wp2;go_roundw
       case rel=>first | exact ⟨j+1,by omega,by go_num,hF.out⟩ | ((repeat apply Exists.intro);exact ⟨⟨j+1,by omega,by go_num,hF.out⟩,rfl⟩)
       case measure=>simp [intOf];omega
      ·obtain rfl:nn=j:=by omega
       rw [hnn,hmm,hAA] at a0;clear hAt hM hB eA hMk hnn hmm hAA;go_wp2;go_roundw
       case rel=>first | exact ⟨k+1,by omega,by go_num,HM.out⟩ | ((repeat apply Exists.intro);exact ⟨⟨k+1,by omega,by go_num,HM.out⟩,rfl⟩)
       case measure=>simp [intOf];omega
    ·obtain rfl:n1=k:=by omega
     have HB6:=Lib.hid hB;have HB06:=Lib.hid (bel_trans HB4.out hB)
     have cB:=Lib.hid (navBatch wr s g2 v2 m (HS.out.below hB) A1 n1 m1 f1 (hA1.out.below hB) (by omega))
     clear hAt hM hB hLen hWh hNe HL;go_wp2_with fail;refine cB.out.mono ?_;rintro e w7 ⟨vv,rfl,⟨L2,hL,hO,hIs⟩,hb7⟩;obtain ⟨AL2,mL,rfl,hAns,hAd⟩:=hO.ans
     rw [hL] at hIs ⊢
     have hIsL:=Lib.hid hIs;have HL:=Lib.hid (And.intro hL hAd);have HAns:=Lib.hid hAns;have HB7:=Lib.hid (bel_trans HB6.out hb7);clear hL hO hIs hAns hAd cB hb7;go_wp2_with fail
     go_loopw [18] (fun iv wr=>∃(k:Nat),k≤n1∧iv=.int .i64 (k:Nat)∧Below w7.heap.size w7 wr) (fun iv _=>n1-(intOf iv).toNat)
     case atStart=>exact ⟨0,Nat.zero_le _,rfl,Below.refl _ _⟩
     case round=>
      obtain ⟨j,hj,rfl,hB⟩:=hrel
      by_cases hlt:j<n1
      ·have HBk:=Lib.hid (bel_trans HB7.out hB)
       obtain ⟨wv,rfl⟩:∃wv:World,wv=wr:=⟨_,rfl⟩
       obtain ⟨ba,o,hAe,_,hc⟩:=hA1.out (by omega)
       obtain ⟨x1,x2⟩:=hc j (by omega)
       have hix:=fun wx=>idx_runA (A:=A1) (m:=m1) hAe (show j<n1 by omega) wx
       obtain ⟨⟨x,y⟩,hxy⟩:∃z,f1 j=z:=⟨_,rfl⟩;rw [hxy] at x1 x2;simp only at x1 x2;obtain ⟨ok,hok⟩:∃z,o+j*2=z:=⟨_,rfl⟩;rw [hok] at x1 x2 hix
       obtain ⟨an,han⟩:∃an,L2[j]? = some an:=⟨_,List.getElem?_eq_getElem (by have:=HL.out.1;omega)⟩
       obtain ⟨gA,eA,a0,a1,a2,a3⟩:=HAns.out j an han;obtain ⟨W2,⟨cs2,cd2⟩,er2,hU2,e1,e2,e3,e4,hI2,_⟩:=(hIsL.out j an han).1;rw [hxy] at hU2;obtain ⟨A2,n2,m2,s2,d2,z2⟩:=an;simp only at a0 a1 a2 a3 e1 e2 e3 e4 hI2 hU2;subst e1;subst e2;subst e3;subst e4
       have hiy:=fun wx=>idx_runAn (m:=mL) eA (show j<n1 by omega) wx
       obtain ⟨jo,hjo⟩:∃z,j*4=z:=⟨_,rfl⟩;rw [hjo] at a0 a1 a2 a3 hiy;have Hcc:=Lib.hid (And.intro (bel_cell HBk.out x1) (And.intro (bel_cell HBk.out x2) (And.intro (bel_cell hB a0) (And.intro (bel_cell hB a1) (And.intro (bel_cell hB a2) (bel_cell hB a3))))));have HU2:=Lib.hid hU2;have HI2:=Lib.hid (hI2.below hB);have HSk:=Lib.hid (HS.out.below HBk.out);replace hB:=Lib.hid hB;clear hAe hc x1 x2 hxy hok han eA a0 a1 a2 a3 hU2 hI2 hjo
       go_upto_region 28 with (fail)
       go_cut [19] from 109 to 133 (fun sv wx=>sv=.bool true∧Below wv.heap.size wv wx)
       case first=>
        have cA:=Lib.hid (fun w' (hb:Below wv.heap.size wv w')=>navAskX w' s g2 v2 m (HSk.out.below hb) x y)
        have hBQ:Below wv.heap.size wv wv.drew:=bel_drew (Below.refl wv.heap.size wv)
        have kS:wv.drew.cell? ⟨ba,ok,none⟩=some (.int .i64 x)∧wv.drew.cell? ⟨ba,ok+1,none⟩=some (.int .i64 y)∧wv.drew.cell? ⟨gA,jo,none⟩=some (.slice A2 W2.length m2)∧wv.drew.cell? ⟨gA,jo+1,none⟩=some (.int .i64 s2)∧wv.drew.cell? ⟨gA,jo+2,none⟩=some (.int .i64 d2)∧wv.drew.cell? ⟨gA,jo+3,none⟩=some (.int .i64 (er2:Nat)):=
         ⟨bel_cell hBQ Hcc.out.1,bel_cell hBQ Hcc.out.2.1,bel_cell hBQ Hcc.out.2.2.1,bel_cell hBQ Hcc.out.2.2.2.1,bel_cell hBQ Hcc.out.2.2.2.2.1,bel_cell hBQ Hcc.out.2.2.2.2.2⟩
        go_region_held3 (fun w'=>w'.cell? ⟨ba,ok,none⟩=some (.int .i64 x)∧w'.cell? ⟨ba,ok+1,none⟩=some (.int .i64 y)∧w'.cell? ⟨gA,jo,none⟩=some (.slice A2 W2.length m2)∧w'.cell? ⟨gA,jo+1,none⟩=some (.int .i64 s2)∧w'.cell? ⟨gA,jo+2,none⟩=some (.int .i64 d2)∧w'.cell? ⟨gA,jo+3,none⟩=some (.int .i64 (er2:Nat)))
         (first
          | with_reducible exact kS
          | with_reducible exact ⟨bel_cell hBQ Hcc.out.1,bel_cell hBQ Hcc.out.2.1,bel_cell hBQ Hcc.out.2.2.1,bel_cell hBQ Hcc.out.2.2.2.1,bel_cell hBQ Hcc.out.2.2.2.2.1,bel_cell hBQ Hcc.out.2.2.2.2.2⟩)
         (first
          | (go_at_call 19
             with_reducible refine (cA.out _ hBQ).mono ?_
             rintro e wA ⟨Wy1,⟨cs1,cd1⟩,er1,Aw1,mw1,hU1,rfl,hI1,hf1,hb1⟩;have hBQ:=bel_trans hBQ hb1;have zz:=hU1.det HU2.out;have hXl:=ask_len Hok2.out hU1.1;obtain ⟨rfl,hce,rfl⟩:=zz
             injection hce with hc1 hc2
             subst hc1;subst hc2)
          | (go_at_call 22
             have hX2:=HI2.out.below hBQ
             with_reducible refine (sameAns wA Aw1 A2 _ mw1 m2 _ _ _ _ hI1 hX2 hXl).mono ?_
             rintro e wC ⟨rfl,hb3⟩;have hBQ:=bel_trans hBQ hb3))
        all_goals
         go_wp2;go_meet
         case rel=>exact ⟨rfl,hBQ⟩
       case rest=>
        obtain ⟨rfl,hbx⟩:=hcut;have HF:=Lib.hid (bel_trans hB.out hbx);clear hbx hix hiy HSk;go_wp2;go_roundw
        case rel=>first | exact ⟨j+1,by omega,by go_num,HF.out⟩ | ((repeat apply Exists.intro);exact ⟨⟨j+1,by omega,by go_num,HF.out⟩,rfl⟩)
        case measure=>simp [intOf];omega
      ·obtain rfl:n1=j:=by omega
       have HBk:=Lib.hid (bel_trans HB7.out hB)
       have cT:∀w',Below wr.heap.size wr w'→Calls Tryz.prog 20 #[.pointer (some ⟨s,0,none⟩)] w' fun e w''=>e=.returned (.agg #[.int .i64 (sn:Nat),.int .i64 (sf:Nat),.int .i64 (sd:Nat),.int .i64 (se:Nat),.int .i64 (sa:Nat),.int .i64 (tp:Nat),.int .i64 v2])∧Below w'.heap.size w' w'':=fun w' hb=>(navStats w' s g2 v2 m (HS.out.below (bel_trans HBk.out hb))).mono (by
        rintro e w'' ⟨sn2,sf2,sd2,se2,sa2,tp2,rfl,⟨r1,r2,r3,r4,r5,r6⟩,hb8⟩;obtain ⟨q1,q2,q3,q4,q5,q6⟩:=Hst.out;rw [r1,r2,r3,r4,r5,r6,q1,q2,q3,q4,q5,q6];exact ⟨rfl,hb8⟩)
       replace cT:=Lib.hid cT;obtain ⟨k0,k1,k2,k3,k4,k5,k6⟩:=HK.out;replace k0:=cell_regrown (bel_cell HBk.out k0);replace k1:=cell_regrown (bel_cell HBk.out k1);replace k2:=cell_regrown (bel_cell HBk.out k2);replace k3:=cell_regrown (bel_cell HBk.out k3);replace k4:=cell_regrown (bel_cell HBk.out k4);replace k5:=cell_regrown (bel_cell HBk.out k5);replace k6:=cell_regrown (bel_cell HBk.out k6);have HF:=Lib.hid (bel_trans HB4.out HBk.out)
       have HRr:=Below.refl wr.heap.size wr;clear hB
       go_upto_region 31 with (fail)
       refine wp_region_quiet_below (by kernel_rfl) (by kernel_rfl) ?_
       repeat (first | go_big_quiet_step (with_reducible exact Calls.regrown_of (cT.out _ (below_regrown _ _ _))) | quiet_step (with_reducible exact Calls.regrown_of (cT.out _ (below_regrown _ _ _))))
       refine wpQuiet_nil ?_;intro _ hw';obtain ⟨⟨dq,osq⟩,hw''⟩:=hw';have HR9:=bel_trans HRr (below_regrown wr dq osq);have hb2:=below_regrown wr dq osq;subst hw''
       generalize grow (redrawn wr dq) osq=w9 at HR9 hb2 ⊢
       go_wp2_with fail;go_ret;exact ⟨rfl,bel_trans HF.out HR9⟩
end Go.Proofs.YtokhnobcincfjaaGreatDoor
