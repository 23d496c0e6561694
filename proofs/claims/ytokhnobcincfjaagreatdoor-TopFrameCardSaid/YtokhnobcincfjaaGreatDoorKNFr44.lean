/- Lemmas of this claim: NavTop, Asks. -/
import Derived.Test.YtokhnobcincfjaaGreatDoorKNFr39
import Derived.Test.YtokhnobcincfjaaGreatDoorKNFr29
import Derived.Test.YtokhnobcincfjaaGreatDoorRTx2
import Derived.Test.YtokhnobcincfjaaGreatDoorKNFr38
set_option linter.unusedVariables false
set_option linter.unusedSimpArgs false
set_option maxHeartbeats 1600000
set_option maxRecDepth 100000
namespace Go.Proofs.YtokhnobcincfjaaGreatDoor
open Go.RowKit Go.Sort FR Go.Lib
theorem laid_split3 {w w' : World} {e : Ending} (h : Laid w e w') : (e = .returned (.tuple #[.pointer none, .pointer none, .bool false]) ∧ Below w.heap.size w w') ∨
    ∃p q g v,e=.returned (.tuple #[.pointer (some ⟨p,0,none⟩),.pointer (some ⟨q,0,none⟩),.bool true])∧RGridAt w' q g v∧(w.heap.size≤q∧0≤v∧v≤300)∧Below w.heap.size w w':=by
 rcases h with h | ⟨p,q,g,v,h1,k1,k2,h2,h3,k3,k4,h4⟩
 ·exact .inl h
 ·exact .inr ⟨p,q,g,v,h1,h3,⟨by omega,k3,k4⟩,h4⟩
def ldG (g:G):G:=match parseS (printS g) with
 | .ok a b R=>partG a b R (b*a)
 | .bad _=>g
def LdG (g2 g:G):Prop:=g2=ldG g∧SameG g2 g
theorem navLoad_print (w : World) (hV : LibS w) (g : G) (hok : g.ok) (m : Nat) (h1 : 1 ≤ m) (h2 : m ≤ 6) :
    Calls Tryz.prog 17 #[.string (bs (printS g)),.int .i64 (m:Nat)] w fun e w'=>∃s g2,e=.returned (.tuple #[.pointer (some ⟨s,0,none⟩),.nilIface])∧LdG g2 g∧ServFr w.heap.size w' s g2 ((cntB g.b g.n:Nat):Int) m∧Below w.heap.size w w':=by
 refine (navLoad w hV (printS g) (m:Nat)).mono ?_;obtain ⟨R1,hp1,_,hb1⟩:=parse_print g hok
 rintro e w' (⟨k,_,_,_,h | ⟨_,h,_⟩⟩ | ⟨a,b,R,m',s,hp,hm,_,_,he,hS,hb⟩)
 ·rw [hp1] at h;cases h
 ·omega
 ·rw [hp1] at hp
  cases hp
  obtain rfl:m'=m:=by omega
  have e1:cntB (rowsB g.w R1) (g.h*g.w)=cntB g.b g.n:=by
   rw [Nat.mul_comm]
   exact cntB_congr (fun c hc=>hb1 c hc)
  rw [e1] at hS
  refine ⟨s,partG g.w g.h R1 (g.h*g.w),he,⟨by unfold ldG;rw [hp1],rfl,rfl,fun c hc=>?_⟩,hS,hb⟩
  rw [←hb1 c hc];unfold partG;simp only
  rw [decide_eq_true (by rw [Nat.mul_comm];exact hc),Bool.true_and]
def ServeD (w:World) (most:Int) (e:Ending) (w':World):Prop:=
 Below w.heap.size w w'∧((∃x p,e=.returned (.tuple #[x,.pointer p,.bool false])) ∨
  ∃s q g g2 v m,e=.returned (.tuple #[.pointer (some ⟨s,0,none⟩),.pointer (some ⟨q,0,none⟩),.bool true])∧LdG g2 g∧(RGridAt w' q g v∧0≤v∧v≤300∧g.n≤120∧w.heap.size≤q)∧ServFr (q+1) w' s g2 ((cntB g.b g.n:Nat):Int) m∧most=((m:Nat):Int))
theorem serve_any (W0 : World) (hV : LibS W0) (a b : Int) (A : Option Addr) (n m : Nat) (f : Nat → Int) (h : Ints W0 A n f) (hn : n ≤ 9223372036854775807) (most : Int) :
    Calls Tryz.prog 12 #[.agg #[.int .i64 a,.int .i64 b,.slice A n m],.int .i64 most] W0 (ServeD W0 most):=by
 replace hV:=Lib.hid hV;replace hn:=Lib.hid hn;go_enter Tryz.func12,Tryz.ntmps12
 go_upto_region 1 with (fail)
 refine wp_name ?_;intro W hW
 have HW:Below W0.heap.size W0 W:=by rw [hW];(repeat' (first | exact Below.refl _ _ | assumption | apply bel_drewN | apply bel_drew | apply bel_alloc | (refine bel_trans ?_ (by assumption))))
 have c0:W.cell? ⟨W0.heap.size,0,none⟩=some (.int .i64 a):=by rw [hW];go_simp
 have c1:W.cell? ⟨W0.heap.size,1,none⟩=some (.int .i64 b):=by rw [hW];go_simp
 have c2:W.cell? ⟨W0.heap.size,2,none⟩=some (.slice A n m):=by rw [hW];go_simp
 clear hW;go_wp2_with fail;refine (laid_any a b A n m f _ (h.below HW) hn.out).mono ?_;intro e w2 hL
 rcases laid_split3 hL with ⟨rfl,hb2⟩ | ⟨p,q,g,v,rfl,hR,hq,hb2⟩
 ·have HB2:=bel_trans HW hb2
  clear hL c0 c1 c2 HW hb2
  go_upto_region 2 with (fail)
  refine wp_region_quiet_below (by kernel_rfl) (by kernel_rfl) ?_
  repeat (first | go_big_quiet_step (fail) | quiet_step (fail))
  refine wpQuiet_nil ?_;intro _ hw';obtain ⟨⟨dq,osq⟩,hw''⟩:=hw';have HB3:=bel_trans HB2 (below_regrown w2 dq osq);have hb2:=below_regrown w2 dq osq;subst hw''
  generalize grow (redrawn w2 dq) osq=w3 at HB3 hb2 ⊢
  go_wp2_with fail;go_ret3;exact ⟨HB3,.inl ⟨_,_,rfl⟩⟩
 have HB2:=bel_trans HW hb2;have hqw:=HW.size;replace hq:=Lib.hid hq;clear hL c0 c1 c2 HW hb2;obtain ⟨s1,s2⟩:=hR.size;have hok:=hR.1;have hgn:=G.n_le hok
 have en:((g.n:Nat):Int)=(g.w:Int)*g.h:=by unfold G.n;simp
 have hw:IntKind.i64.wrap ((g.w:Int)*g.h)=(g.w:Int)*g.h:=IntWalk.i64_in _ (by omega)
 have s1q:=cell_regrown s1;have s2q:=cell_regrown s2;replace hok:=Lib.hid hok;replace hR:=Lib.hid hR
 by_cases hbig:120<(g.w:Int)*g.h
 ·have hd:decide (120<(g.w:Int)*g.h)=true:=by simp;omega
  clear hbig en hgn
  go_upto_region 2 with (fail)
  refine wp_region_quiet_below (by kernel_rfl) (by kernel_rfl) ?_
  repeat (first | go_big_quiet_step (fail) | quiet_step (fail))
  refine wpQuiet_nil ?_;intro _ hw';obtain ⟨⟨dq,osq⟩,hw''⟩:=hw';have HB3:=bel_trans HB2 (below_regrown w2 dq osq);have hb2:=below_regrown w2 dq osq;subst hw''
  generalize grow (redrawn w2 dq) osq=w3 at HB3 hb2 ⊢
  go_wp2_with fail;go_ret3;exact ⟨HB3,.inl ⟨_,_,rfl⟩⟩
 have hd:decide (120<(g.w:Int)*g.h)=false:=by simp;omega
 have hn120:g.n≤120:=by omega
 clear hbig en hgn
 go_upto_region 2 with (fail)
 refine wp_region_quiet_below (by kernel_rfl) (by kernel_rfl) ?_
 repeat (first | go_big_quiet_step (fail) | quiet_step (fail))
 refine wpQuiet_nil ?_;intro _ hw';obtain ⟨⟨dq,osq⟩,hw''⟩:=hw';have HB3:=bel_trans HB2 (below_regrown w2 dq osq);have hb2:=below_regrown w2 dq osq;subst hw''
 generalize grow (redrawn w2 dq) osq=w3 at HB3 hb2 ⊢
 have hR3:=Lib.hid (hR.out.below hb2 hR.out.lt);clear s1 s2 s1q s2q hw hd hR HB2 hb2 osq dq;have cP:=Lib.hid (rPrint w3 q g v hR3.out);go_wp2_with fail;refine cP.out.mono ?_;rintro e w4 ⟨rfl,hb4⟩;have HB4:=bel_trans HB3 hb4;have hql:=hR3.out.lt
 by_cases hm:1≤most∧most≤6
 ·obtain ⟨m,rfl⟩:=Int.eq_ofNat_of_zero_le (show 0≤most by omega)
  have cL:=Lib.hid (navLoad_print w4 (hV.out.below HB4) g hok.out m (by omega) (by omega))
  have h34:=hb4.size;replace hR3:=Lib.hid (hR3.out.below hb4 hR3.out.lt);clear cP hb4 HB3 hm;go_wp2_with fail;refine cL.out.mono ?_;rintro e w5 ⟨s,g2,rfl,hSm,hS,hb5⟩
  have hF:ServeD W0 ((m:Nat):Int) (.returned (.tuple #[.pointer (some ⟨s,0,none⟩),.pointer (some ⟨q,0,none⟩),.bool true])) w5:=
   ⟨bel_trans HB4 hb5,.inr ⟨s,q,g,g2,v,m,rfl,hSm,⟨hR3.out.below hb5 hR3.out.lt,hq.out.2.1,hq.out.2.2,hn120,by have:=hq.out.1;omega⟩,hS.mono (by omega),rfl⟩⟩
  replace hF:=Lib.hid hF;clear hS hSm hb5;go_wp2_with fail;go_ret3;exact hF.out
 ·have cL:=Lib.hid (navLoad w4 (hV.out.below HB4) (printS g) most)
  clear cP hb4 HB3;go_wp2_with fail;refine cL.out.mono ?_
  rintro e w5 (⟨k,hk,rfl,hb5,_⟩ | ⟨a',b',R,m',s,hp,rfl,h1,h2,_⟩)
  ·have HB5:=bel_trans HB4 hb5
   clear hm;go_wp2_with fail;go_ret3;exact ⟨HB5,.inl ⟨_,_,rfl⟩⟩
  ·exact absurd (by omega) hm
def g22:G:=⟨2,2,fun _=>false⟩
theorem g22_near:g22.Near 0 3:=by
 have e:g22.E 0 3 (g22.oct 0 3):=⟨by decide,3,by decide,by decide +kernel,by decide +kernel,by decide +kernel⟩
 have:=Walk.snoc (.nil 0) e
 rwa [C.zero_add] at this
theorem navNew22 (w:World):Calls Tryz.prog 30 #[.int .i64 2,.int .i64 2,.int .i64 1] w (ServD w g22 0 1):=by
 go_enter Tryz.func30,Tryz.ntmps30;go_wp2_with fail
 (with_reducible refine (gridNew_ex 2 2 _ (by decide)).mono ?_)
 rintro e w1 ⟨p0,rfl,hp0,hG,hb1⟩
 have cO:=Lib.hid (navOver_ok w1 p0 g22 0 1 hG (by decide) (by decide))
 clear hG;go_wp2_with fail;refine cO.out.mono ?_;intro e w2 hO;obtain ⟨s,rfl,hS,hb2⟩:=hO.fr hb1 hp0;replace hS:=Lib.hid hS;clear hO;go_wp2_with fail;go_ret2;exact ⟨s,rfl,hS.out,hb2⟩
theorem ask22 {W:List Nat} {c:C} {er:Nat} (h:AskIs g22 0 3 W c er):er=0∧c=⟨0,1⟩∧W.length=2:=by
 rcases h with ⟨h,_⟩ | ⟨a,b,ha,hb,h1,h2,h3,h4,hh⟩
 ·exact absurd (by decide +kernel) h
 ·obtain rfl:a=0:=by omega
  obtain rfl:b=3:=by omega
  rcases hh with ⟨h,_⟩ | ⟨h5,h6,h7,_⟩
  ·exact absurd g22_near (h _)
  ·obtain rfl:c=⟨0,1⟩:=Dist.unique h5 (G.near_dist.1 g22_near)
   have:=lw_len h7;simp only at this
   exact ⟨h6,rfl,by omega⟩
theorem works_true (w:World):Calls Tryz.prog 11 #[] w fun e w'=>e=.returned (.bool true)∧Below w.heap.size w w':=by
 go_enter Tryz.func11,Tryz.ntmps11;go_wp2_with fail;refine (navNew22 w).mono ?_;rintro e w1 ⟨s,rfl,hS,hb1⟩;have cA:=Lib.hid (navAsk w1 s g22 0 1 hS.serv 0 3);clear hS;go_wp2_with fail;refine cA.out.mono ?_;rintro e w2 ⟨W,c,er,A,m,hA,rfl,hI,_,hb2⟩;obtain ⟨rfl,rfl,hl⟩:=ask22 hA;rw [hl];have HB:=bel_trans hb1 hb2;clear hA hI cA
 rw [show (Value.agg #[.slice A 2 m,.int .i64 (⟨0,1⟩:C).s,.int .i64 (⟨0,1⟩:C).d,.int .i64 ((0:Nat):Int)])=.agg #[.slice A 2 m,.int .i64 0,.int .i64 1,.int .i64 0] from rfl]
 go_upto_region 5 with (fail)
 refine wp_name ?_;intro W3 hW3
 have hb3:Below w2.heap.size w2 W3:=by rw [hW3];(repeat' (first | exact Below.refl _ _ | assumption | apply bel_drewN | apply bel_drew | apply bel_alloc | (refine bel_trans ?_ (by assumption))))
 have c0:W3.cell? ⟨w2.heap.size,0,none⟩=some (.slice A 2 m):=by rw [hW3];go_simp
 have c1:W3.cell? ⟨w2.heap.size,1,none⟩=some (.int .i64 0):=by rw [hW3];go_simp
 have c2:W3.cell? ⟨w2.heap.size,2,none⟩=some (.int .i64 1):=by rw [hW3];go_simp
 have c3:W3.cell? ⟨w2.heap.size,3,none⟩=some (.int .i64 0):=by rw [hW3];go_simp
 replace HB:=bel_trans HB hb3;clear hW3 hb3 hb1 hb2;go_wp2_with fail;go_ret;exact ⟨rfl,HB⟩
def AsksAt (W:World) (A:Option Addr) (n:Nat) (f:Nat→Int×Int):Prop:=
 0<n→∃b o,A=some ⟨b,o,none⟩∧b<W.heap.size∧∀k,k<n→W.cell? ⟨b,o+k*2,none⟩=some (.int .i64 (f k).1)∧W.cell? ⟨b,o+k*2+1,none⟩=some (.int .i64 (f k).2)
structure SlA (W:World) (A:Option Addr) (n:Nat) (f:Nat→Int×Int):Prop where
 ask:AsksAt W A n f
 len:n≤9223372036854775807
theorem AsksAt.below {w w':World} {A:Option Addr} {n:Nat} {f:Nat→Int×Int} (h:AsksAt w A n f) (hb:Below w.heap.size w w'):AsksAt w' A n f:=fun hn=>by
 obtain ⟨b,o,e,hl,hc⟩:=h hn
 exact ⟨b,o,e,Nat.lt_of_lt_of_le hl hb.size,fun k hk=>⟨bel_cell hb (hc k hk).1,bel_cell hb (hc k hk).2⟩⟩
theorem bel_set' {w X:World} {B b:Nat} (h:Below B w X) (hb:B≤b) (k:Nat) (x:Value):Below B w (X.setCell ⟨b,k,none⟩ x):=h.setCell (p:=⟨b,k,none⟩) hb x
def AskBox (wr:World) (g:G) (x y:Int) (sv:Value) (wx:World):Prop:=
 ∃bt Wy cs cd er A mw,sv=.pointer (some ⟨bt,0,none⟩)∧AskIs g x y Wy ⟨cs,cd⟩ er∧wx.heap[bt]? = some (.cells #[.slice A Wy.length mw,.int .i64 cs,.int .i64 cd,.int .i64 (er:Nat)] 47 (0,0))∧Below wr.heap.size wr wx
theorem AskBox.new {wr wA : World} {g : G} {x y : Int} {Wy : List Nat} {cs cd : Int} {er mw : Nat} {A : Option Addr} (hA : AskIs g x y Wy ⟨cs, cd⟩ er) (hb : Below wr.heap.size wr wA) :
    AskBox wr g x y (.pointer (some ⟨wA.heap.size,0,none⟩)) (wA.alloc (.cells #[.slice A Wy.length mw,.int .i64 cs,.int .i64 cd,.int .i64 (er:Nat)] 47 (0,0))):=
 ⟨_,_,_,_,_,_,_,rfl,hA,heap_alloc_new _ _,bel_alloc hb⟩
theorem AskBox.old {wr wA : World} {g : G} {x y : Int} {Wy : List Nat} {cs cd : Int} {er mw b : Nat} {A : Option Addr} {u0 u1 u2 u3 : Value} (hA : AskIs g x y Wy ⟨cs, cd⟩ er) (hZ : wA.heap[b]? = some (.cells #[u0, u1, u2, u3] 47 (0, 0))) (hb : Below wr.heap.size wr wA) (hl : wr.heap.size ≤ b) :
    AskBox wr g x y (.pointer (some ⟨b,0,none⟩)) ((((wA.setCell ⟨b,0,none⟩ (.slice A Wy.length mw)).setCell ⟨b,1,none⟩ (.int .i64 cs)).setCell ⟨b,2,none⟩ (.int .i64 cd)).setCell ⟨b,3,none⟩ (.int .i64 (er:Nat))):=
 ⟨_,_,_,_,_,_,_,rfl,hA,set_four _ _ _ _ hZ,bel_set' (bel_set' (bel_set' (bel_set' hb hl 0 _) hl 1 _) hl 2 _) hl 3 _⟩
end Go.Proofs.YtokhnobcincfjaaGreatDoor
