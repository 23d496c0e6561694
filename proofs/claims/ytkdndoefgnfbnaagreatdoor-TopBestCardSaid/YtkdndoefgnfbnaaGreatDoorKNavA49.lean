/- Lemmas of this claim: TxMaps, NavTop, RRight, Asks, TopBest. -/
import Derived.Test.YtkdndoefgnfbnaaGreatDoorTxParse
import Derived.Test.YtkdndoefgnfbnaaGreatDoorNav4
import Derived.Test.YtkdndoefgnfbnaaGreatDoorRTx2
import Derived.Test.YtkdndoefgnfbnaaGreatDoorMathAsk7
import Derived.Test.YtkdndoefgnfbnaaGreatDoorKNavA39
import Derived.Test.YtkdndoefgnfbnaaGreatDoorKNavA11
import Derived.Test.YtkdndoefgnfbnaaGreatDoorKNavA4
import Derived.Test.YtkdndoefgnfbnaaGreatDoorKNavA5
import Derived.Test.YtkdndoefgnfbnaaGreatDoorKNavA16
import Derived.Test.YtkdndoefgnfbnaaGreatDoorKNavA23
set_option linter.unusedVariables false
set_option linter.unusedSimpArgs false
/- What printing and reading give together. -/
namespace Go.Proofs.YtkdndoefgnfbnaaGreatDoor
open Go.RowKit Go.Sort FR
theorem ParsedG.two {w w':World} {l:List UInt8} {e:Ending} (h:ParsedG w l e w'):(∃x y,e=.returned (.tuple #[x,y]))∧Below w.heap.size w w':=by
 rcases h with ⟨k,_,_,h,hb⟩ | ⟨a,b,R,p,_,h,_,_,hb⟩
 ·exact ⟨⟨_,_,h⟩,hb⟩
 ·exact ⟨⟨_,_,h⟩,hb⟩
end Go.Proofs.YtkdndoefgnfbnaaGreatDoor
/- Services for the laws: works, serve. -/
namespace Go.Proofs.YtkdndoefgnfbnaaGreatDoor
open Go.RowKit Go.Sort FR Go.Lib
theorem laid_split3 {w w' : World} {e : Ending} (h : Laid w e w') : (e = .returned (.tuple #[.pointer none, .pointer none, .bool false]) ∧ Below w.heap.size w w') ∨
    ∃p q g v,e=.returned (.tuple #[.pointer (some ⟨p,0,none⟩),.pointer (some ⟨q,0,none⟩),.bool true])∧RGridAt w' q g v∧(w.heap.size≤q∧0≤v∧v≤300)∧Below w.heap.size w w':=by
 rcases h with h | ⟨p,q,g,v,h1,k1,k2,h2,h3,k3,k4,h4⟩
 ·exact .inl h
 ·exact .inr ⟨p,q,g,v,h1,h3,⟨by omega,k3,k4⟩,h4⟩
def ldG (g:G):G:=match parseS (printS g) with
 | .ok a b R=>partG a b R (b*a)
 | .bad _=>g
def LdG (g2 g:G):Prop:=g2=ldG g∧SameG g2 g
theorem navLoad_print (w : World) (hV : LibS w) (g : G) (hok : g.ok) (m : Nat) (h1 : 1 ≤ m) (h2 : m ≤ 6) :
    Calls Tryz.prog 28 #[.string (bs (printS g)),.int .i64 (m:Nat)] w fun e w'=>∃s g2,e=.returned (.tuple #[.pointer (some ⟨s,0,none⟩),.nilIface])∧LdG g2 g∧ServFr w.heap.size w' s g2 ((cntB g.b g.n:Nat):Int) m∧Below w.heap.size w w':=by
 refine (navLoad w hV (printS g) (m:Nat)).mono ?_
 obtain ⟨R1,hp1,_,hb1⟩:=parse_print g hok
 rintro e w' (⟨k,_,_,_,h | ⟨_,h,_⟩⟩ | ⟨a,b,R,m',s,hp,hm,_,_,he,hS,hb⟩)
 ·rw [hp1] at h;cases h
 ·omega
 ·rw [hp1] at hp
  cases hp
  obtain rfl:m'=m:=by omega
  have e1:cntB (rowsB g.w R1) (g.h*g.w)=cntB g.b g.n:=by
   rw [Nat.mul_comm]
   exact cntB_congr (fun c hc=>hb1 c hc)
  rw [e1] at hS
  refine ⟨s,partG g.w g.h R1 (g.h*g.w),he,⟨by unfold ldG;rw [hp1],rfl,rfl,fun c hc=>?_⟩,hS,hb⟩
  rw [←hb1 c hc]
  unfold partG
  simp only
  rw [decide_eq_true (by rw [Nat.mul_comm];exact hc),Bool.true_and]
def ServeD (w:World) (most:Int) (e:Ending) (w':World):Prop:=
 Below w.heap.size w w'∧((∃x y,e=.returned (.tuple #[x,y,.bool false])) ∨
  ∃s q g g2 v m,e=.returned (.tuple #[.pointer (some ⟨s,0,none⟩),.pointer (some ⟨q,0,none⟩),.bool true])∧LdG g2 g∧(RGridAt w' q g v∧0≤v∧v≤300∧g.n≤120∧w.heap.size≤q)∧ServFr (q+1) w' s g2 ((cntB g.b g.n:Nat):Int) m∧most=((m:Nat):Int))
set_option maxRecDepth 100000 in
set_option maxHeartbeats 1600000 in
theorem serve_any (W0 : World) (hV : LibS W0) (a b : Int) (A : Option Addr) (n m : Nat) (f : Nat → Int) (h : Ints W0 A n f) (hn : n ≤ 9223372036854775807) (most : Int) :
    Calls Tryz.prog 17 #[.agg #[.int .i64 a,.int .i64 b,.slice A n m],.int .i64 most] W0 (ServeD W0 most):=by
 replace hV:=Lib.hid hV
 replace hn:=Lib.hid hn
 go_enter Tryz.func17,Tryz.ntmps17
 go_upto_region 1 with (fail)
 refine wp_name ?_
 intro W hW
 have HW:Below W0.heap.size W0 W:=by rw [hW];(repeat' (first | exact Below.refl _ _ | assumption | apply bel_drewN | apply bel_drew | apply bel_alloc | (refine bel_trans ?_ (by assumption))))
 have c0:W.cell? ⟨W0.heap.size,0,none⟩=some (.int .i64 a):=by rw [hW];go_simp
 have c1:W.cell? ⟨W0.heap.size,1,none⟩=some (.int .i64 b):=by rw [hW];go_simp
 have c2:W.cell? ⟨W0.heap.size,2,none⟩=some (.slice A n m):=by rw [hW];go_simp
 clear hW
 go_wp2_with fail
 refine (laid_any a b A n m f _ (h.below HW) hn.out).mono ?_
 intro e w2 hL
 rcases laid_split3 hL with ⟨rfl,hb2⟩ | ⟨p,q,g,v,rfl,hR,hq,hb2⟩
 ·have HB2:=bel_trans HW hb2
  clear hL c0 c1 c2 HW hb2
  go_upto_region 2 with (fail)
  refine wp_region_quiet_below (by kernel_rfl) (by kernel_rfl) ?_
  repeat (first | go_big_quiet_step (fail) | quiet_step (fail))
  refine wpQuiet_nil ?_
  intro _ hw'
  obtain ⟨⟨dq,osq⟩,hw''⟩:=hw'
  have HB3:=bel_trans HB2 (below_regrown w2 dq osq)
  have hb2:=below_regrown w2 dq osq
  subst hw''
  generalize grow (redrawn w2 dq) osq=w3 at HB3 hb2 ⊢
  go_wp2_with fail
  go_ret3
  exact ⟨HB3,.inl ⟨_,_,rfl⟩⟩
 have HB2:=bel_trans HW hb2
 have hqw:=HW.size
 replace hq:=Lib.hid hq
 clear hL c0 c1 c2 HW hb2
 obtain ⟨s1,s2⟩:=hR.size
 have hok:=hR.1
 have hgn:=G.n_le hok
 have en:((g.n:Nat):Int)=(g.w:Int)*g.h:=by unfold G.n;simp
 have hw:IntKind.i64.wrap ((g.w:Int)*g.h)=(g.w:Int)*g.h:=IntWalk.i64_in _ (by omega)
 have s1q:=cell_regrown s1
 have s2q:=cell_regrown s2
 replace hok:=Lib.hid hok
 replace hR:=Lib.hid hR
 by_cases hbig:120<(g.w:Int)*g.h
 ·have hd:decide (120<(g.w:Int)*g.h)=true:=by simp;omega
  clear hbig en hgn
  go_upto_region 2 with (fail)
  refine wp_region_quiet_below (by kernel_rfl) (by kernel_rfl) ?_
  repeat (first | go_big_quiet_step (fail) | quiet_step (fail))
  refine wpQuiet_nil ?_
  intro _ hw'
  obtain ⟨⟨dq,osq⟩,hw''⟩:=hw'
  have HB3:=bel_trans HB2 (below_regrown w2 dq osq)
  have hb2:=below_regrown w2 dq osq
  subst hw''
  generalize grow (redrawn w2 dq) osq=w3 at HB3 hb2 ⊢
  go_wp2_with fail
  go_ret3
  exact ⟨HB3,.inl ⟨_,_,rfl⟩⟩
 have hd:decide (120<(g.w:Int)*g.h)=false:=by simp;omega
 have hn120:g.n≤120:=by omega
 clear hbig en hgn
 go_upto_region 2 with (fail)
 refine wp_region_quiet_below (by kernel_rfl) (by kernel_rfl) ?_
 repeat (first | go_big_quiet_step (fail) | quiet_step (fail))
 refine wpQuiet_nil ?_
 intro _ hw'
 obtain ⟨⟨dq,osq⟩,hw''⟩:=hw'
 have HB3:=bel_trans HB2 (below_regrown w2 dq osq)
 have hb2:=below_regrown w2 dq osq
 subst hw''
 generalize grow (redrawn w2 dq) osq=w3 at HB3 hb2 ⊢
 have hR3:=Lib.hid (hR.out.below hb2 hR.out.lt)
 clear s1 s2 s1q s2q hw hd hR HB2 hb2 osq dq
 have cP:=Lib.hid (rPrint w3 q g v hR3.out)
 go_wp2_with fail
 refine cP.out.mono ?_
 rintro e w4 ⟨rfl,hb4⟩
 have HB4:=bel_trans HB3 hb4
 have hql:=hR3.out.lt
 by_cases hm:1≤most∧most≤6
 ·obtain ⟨m,rfl⟩:=Int.eq_ofNat_of_zero_le (show 0≤most by omega)
  have cL:=Lib.hid (navLoad_print w4 (hV.out.below HB4) g hok.out m (by omega) (by omega))
  have h34:=hb4.size
  replace hR3:=Lib.hid (hR3.out.below hb4 hR3.out.lt)
  clear cP hb4 HB3 hm
  go_wp2_with fail
  refine cL.out.mono ?_
  rintro e w5 ⟨s,g2,rfl,hSm,hS,hb5⟩
  have hF:ServeD W0 ((m:Nat):Int) (.returned (.tuple #[.pointer (some ⟨s,0,none⟩),.pointer (some ⟨q,0,none⟩),.bool true])) w5:=
   ⟨bel_trans HB4 hb5,.inr ⟨s,q,g,g2,v,m,rfl,hSm,⟨hR3.out.below hb5 hR3.out.lt,hq.out.2.1,hq.out.2.2,hn120,by have:=hq.out.1;omega⟩,hS.mono (by omega),rfl⟩⟩
  replace hF:=Lib.hid hF
  clear hS hSm hb5
  go_wp2_with fail
  go_ret3
  exact hF.out
 ·have cL:=Lib.hid (navLoad w4 (hV.out.below HB4) (printS g) most)
  clear cP hb4 HB3
  go_wp2_with fail
  refine cL.out.mono ?_
  rintro e w5 (⟨k,hk,rfl,hb5,_⟩ | ⟨a',b',R,m',s,hp,rfl,h1,h2,_⟩)
  ·have HB5:=bel_trans HB4 hb5
   clear hm
   go_wp2_with fail
   go_ret3
   exact ⟨HB5,.inl ⟨_,_,rfl⟩⟩
  ·exact absurd (by omega) hm
def g22:G:=⟨2,2,fun _=>false⟩
theorem g22_near:g22.Near 0 3:=by
 have e:g22.E 0 3 (g22.oct 0 3):=⟨by decide,3,by decide,by decide +kernel,by decide +kernel,by decide +kernel⟩
 have:=Walk.snoc (.nil 0) e
 rwa [C.zero_add] at this
set_option maxRecDepth 100000 in
theorem navNew22 (w:World):Calls Tryz.prog 40 #[.int .i64 2,.int .i64 2,.int .i64 1] w (ServD w g22 0 1):=by
 go_enter Tryz.func40,Tryz.ntmps40
 go_wp2_with fail
 (with_reducible refine (gridNew_ex 2 2 _ (by decide)).mono ?_)
 rintro e w1 ⟨p0,rfl,hp0,hG,hb1⟩
 have cO:=Lib.hid (navOver_ok w1 p0 g22 0 1 hG (by decide) (by decide))
 clear hG
 go_wp2_with fail
 refine cO.out.mono ?_
 intro e w2 hO
 obtain ⟨s,rfl,hS,hb2⟩:=hO.fr hb1 hp0
 replace hS:=Lib.hid hS
 clear hO
 go_wp2_with fail
 go_ret2
 exact ⟨s,rfl,hS.out,hb2⟩
theorem ask22 {W:List Nat} {c:C} {er:Nat} (h:AskIs g22 0 3 W c er):er=0∧c=⟨0,1⟩∧W.length=2:=by
 rcases h with ⟨h,_⟩ | ⟨a,b,ha,hb,h1,h2,h3,h4,hh⟩
 ·exact absurd (by decide +kernel) h
 ·obtain rfl:a=0:=by omega
  obtain rfl:b=3:=by omega
  rcases hh with ⟨h,_⟩ | ⟨h5,h6,h7,_⟩
  ·exact absurd g22_near (h _)
  ·obtain rfl:c=⟨0,1⟩:=Dist.unique h5 (G.near_dist.1 g22_near)
   have:=lw_len h7
   simp only at this
   exact ⟨h6,rfl,by omega⟩
set_option maxRecDepth 100000 in
set_option maxHeartbeats 1600000 in
theorem works_true (w:World):Calls Tryz.prog 16 #[] w fun e w'=>e=.returned (.bool true)∧Below w.heap.size w w':=by
 go_enter Tryz.func16,Tryz.ntmps16
 go_wp2_with fail
 refine (navNew22 w).mono ?_
 rintro e w1 ⟨s,rfl,hS,hb1⟩
 have cA:=Lib.hid (navAsk w1 s g22 0 1 hS.serv 0 3)
 clear hS
 go_wp2_with fail
 refine cA.out.mono ?_
 rintro e w2 ⟨W,c,er,A,m,hA,rfl,hI,_,hb2⟩
 obtain ⟨rfl,rfl,hl⟩:=ask22 hA
 rw [hl]
 have HB:=bel_trans hb1 hb2
 clear hA hI cA
 rw [show (Value.agg #[.slice A 2 m,.int .i64 (⟨0,1⟩:C).s,.int .i64 (⟨0,1⟩:C).d,.int .i64 ((0:Nat):Int)])=.agg #[.slice A 2 m,.int .i64 0,.int .i64 1,.int .i64 0] from rfl]
 go_upto_region 5 with (fail)
 refine wp_name ?_
 intro W3 hW3
 have hb3:Below w2.heap.size w2 W3:=by rw [hW3];(repeat' (first | exact Below.refl _ _ | assumption | apply bel_drewN | apply bel_drew | apply bel_alloc | (refine bel_trans ?_ (by assumption))))
 have c0:W3.cell? ⟨w2.heap.size,0,none⟩=some (.slice A 2 m):=by rw [hW3];go_simp
 have c1:W3.cell? ⟨w2.heap.size,1,none⟩=some (.int .i64 0):=by rw [hW3];go_simp
 have c2:W3.cell? ⟨w2.heap.size,2,none⟩=some (.int .i64 1):=by rw [hW3];go_simp
 have c3:W3.cell? ⟨w2.heap.size,3,none⟩=some (.int .i64 0):=by rw [hW3];go_simp
 replace HB:=bel_trans HB hb3
 clear hW3 hb3 hb1 hb2
 go_wp2_with fail
 go_ret
 exact ⟨rfl,HB⟩
end Go.Proofs.YtkdndoefgnfbnaaGreatDoor
/- The document's Service.Right: an answer that is right. -/
namespace Go.Proofs.YtkdndoefgnfbnaaGreatDoor
open Go.RowKit Go.Sort FR Go.Lib
set_option maxRecDepth 100000 in
set_option maxHeartbeats 6400000 in
theorem rRight (w : World) (xb q : Nat) (g : G) (v : Int) (hx : w.cell? ⟨xb, 0, none⟩ = some (.pointer (some ⟨q, 0, none⟩))) (hR : RGridAt w q g v) (fr to_ : Int) (A : Option Addr) (n m : Nat) (Wy : List Nat) (hn : Wy.length = n) (cs cd : Int) (er : Nat) (hA : AskIs g fr to_ Wy ⟨cs, cd⟩ er) (hI : Ints w A n (fun k => (natI Wy).getD k 0)) :
    Calls Tryz.prog 18 #[.pointer (some ⟨xb,0,none⟩),.int .i64 fr,.int .i64 to_,.agg #[.slice A n m,.int .i64 cs,.int .i64 cd,.int .i64 (er:Nat)]] w fun e w'=>e=.returned (.bool true)∧Below w.heap.size w w':=by
 go_enter Tryz.func18,Tryz.ntmps18
 go_upto_region 1 with (fail)
 refine wp_name ?_
 intro W hW
 have HW:Below w.heap.size w W:=by rw [hW];(repeat' (first | exact Below.refl _ _ | assumption | apply bel_drewN | apply bel_drew | apply bel_alloc | (refine bel_trans ?_ (by assumption))))
 have c0:W.cell? ⟨w.heap.size,0,none⟩=some (.slice A n m):=by rw [hW];go_simp
 have c1:W.cell? ⟨w.heap.size,1,none⟩=some (.int .i64 cs):=by rw [hW];go_simp
 have c2:W.cell? ⟨w.heap.size,2,none⟩=some (.int .i64 cd):=by rw [hW];go_simp
 have c3:W.cell? ⟨w.heap.size,3,none⟩=some (.int .i64 (er:Nat)):=by rw [hW];go_simp
 obtain ⟨b7,hb7⟩:∃z,w.heap.size=z:=⟨_,rfl⟩
 rw [hb7] at c0 c1 c2 c3 ⊢
 clear hW hb7
 replace hx:=bel_cell HW hx
 replace hR:=Lib.hid (hR.below HW hR.lt)
 replace hI:=Lib.hid (hI.below HW)
 replace hA:=Lib.hid hA
 replace hn:=Lib.hid hn
 by_cases hf1:g.fault fr=0
 case neg=>
  obtain ⟨fz,hfz⟩:∃z:Int,((g.fault fr:Nat):Int)=z:=⟨_,rfl⟩
  have cF:=rFault W q g v fr hR.out
  rw [hfz] at cF
  replace cF:=Lib.hid cF
  have h1:flt2 g fr to_=g.fault fr:=by unfold flt2;rw [if_pos hf1]
  have hz:=hA.out
  rcases hz with ⟨_,rfl,rfl,he⟩ | ⟨a,b,rfl,rfl,a1,a2,a3,a4,_⟩
  case inr=>exact absurd (by rw [G.fault_in a1,a3];rfl) hf1
  cases he
  have hn0:=hn.out
  simp only [List.length_nil] at hn0
  subst hn0
  rw [h1,hfz] at c3
  have p1:¬fz=0:=by omega
  have p2:(fz == 0)=false:=by rw [beq_eq_false_iff_ne];exact p1
  have p3:(0:Int)<fz:=by omega
  clear hf1 hfz h1 hI hA hn
  go_wp2_with fail
  refine cF.out.mono ?_
  rintro e w1 ⟨rfl,hb1⟩
  replace c0:=bel_cell hb1 c0
  replace c1:=bel_cell hb1 c1
  replace c2:=bel_cell hb1 c2
  replace c3:=bel_cell hb1 c3
  have HB1:=bel_trans HW hb1
  clear cF hb1
  go_upto_region 5 with (fail)
  refine wp_name ?_
  intro W2 hW2
  have hb2:Below w1.heap.size w1 W2:=by rw [hW2];(repeat' (first | exact Below.refl _ _ | assumption | apply bel_drewN | apply bel_drew | apply bel_alloc | (refine bel_trans ?_ (by assumption))))
  replace c0:=bel_cell hb2 c0
  replace c1:=bel_cell hb2 c1
  replace c2:=bel_cell hb2 c2
  replace c3:=bel_cell hb2 c3
  have HB2:=bel_trans HB1 hb2
  clear hW2 hb2
  go_wp2_with fail
  go_ret
  exact ⟨rfl,HB2⟩
 have cF1:=rFault W q g v fr hR.out
 rw [hf1] at cF1
 replace cF1:=Lib.hid cF1
 go_wp2_with fail
 refine cF1.out.mono ?_
 rintro e w0 ⟨rfl,hb0⟩
 replace c0:=bel_cell hb0 c0
 replace c1:=bel_cell hb0 c1
 replace c2:=bel_cell hb0 c2
 replace c3:=bel_cell hb0 c3
 replace hx:=bel_cell hb0 hx
 replace hR:=Lib.hid (hR.out.below hb0 hR.out.lt)
 replace hI:=Lib.hid (hI.out.below hb0)
 have HB0:=bel_trans HW hb0
 clear hb0 cF1 HW
 by_cases hf2:g.fault to_=0
 case neg=>
  obtain ⟨fz,hfz⟩:∃z:Int,((g.fault to_:Nat):Int)=z:=⟨_,rfl⟩
  have cF:=rFault w0 q g v to_ hR.out
  rw [hfz] at cF
  replace cF:=Lib.hid cF
  have h1:flt2 g fr to_=g.fault to_:=by unfold flt2;rw [if_neg (fun k=>k hf1)]
  have hz:=hA.out
  rcases hz with ⟨_,rfl,rfl,he⟩ | ⟨a,b,rfl,rfl,a1,a2,a3,a4,_⟩
  case inr=>exact absurd (by rw [G.fault_in a2,a4];rfl) hf2
  cases he
  have hn0:=hn.out
  simp only [List.length_nil] at hn0
  subst hn0
  rw [h1,hfz] at c3
  have p1:¬fz=0:=by omega
  have p2:(fz == 0)=false:=by rw [beq_eq_false_iff_ne];exact p1
  have p3:(0:Int)<fz:=by omega
  clear hf1 hf2 hfz h1 hI hA hn
  go_wp2_with fail
  refine cF.out.mono ?_
  rintro e w1 ⟨rfl,hb1⟩
  replace c0:=bel_cell hb1 c0
  replace c1:=bel_cell hb1 c1
  replace c2:=bel_cell hb1 c2
  replace c3:=bel_cell hb1 c3
  have HB1:=bel_trans HB0 hb1
  clear cF hb1
  go_upto_region 5 with (fail)
  refine wp_name ?_
  intro W2 hW2
  have hb2:Below w1.heap.size w1 W2:=by rw [hW2];(repeat' (first | exact Below.refl _ _ | assumption | apply bel_drewN | apply bel_drew | apply bel_alloc | (refine bel_trans ?_ (by assumption))))
  replace c0:=bel_cell hb2 c0
  replace c1:=bel_cell hb2 c1
  replace c2:=bel_cell hb2 c2
  replace c3:=bel_cell hb2 c3
  have HB2:=bel_trans HB1 hb2
  clear hW2 hb2
  go_wp2_with fail
  go_ret
  exact ⟨rfl,HB2⟩
 obtain ⟨a,rfl,ha,fa⟩:=G.fault_zero hf1
 obtain ⟨b,rfl,hb,fb⟩:=G.fault_zero hf2
 have cF:=rFault w0 q g v (b:Nat) hR.out
 rw [hf2] at cF
 replace cF:=Lib.hid cF
 clear hf1 hf2
 have hgn:=G.n_le hR.out.1
 have Hab:=Lib.hid (And.intro ha (And.intro hb (And.intro fa fb)))
 clear fa fb
 go_wp2_with fail
 refine cF.out.mono ?_
 rintro e w1 ⟨rfl,hb1⟩
 replace c0:=bel_cell hb1 c0
 replace c1:=bel_cell hb1 c1
 replace c2:=bel_cell hb1 c2
 replace c3:=bel_cell hb1 c3
 replace hx:=bel_cell hb1 hx
 replace hR:=Lib.hid (hR.out.below hb1 hR.out.lt)
 replace hI:=Lib.hid (hI.out.below hb1)
 have HB1:=bel_trans HB0 hb1
 clear cF hb1 HB0
 go_upto_region 5 with (fail)
 refine wp_name ?_
 intro W2 hW2
 have hb2:Below w1.heap.size w1 W2:=by rw [hW2];(repeat' (first | exact Below.refl _ _ | assumption | apply bel_drewN | apply bel_drew | apply bel_alloc | (refine bel_trans ?_ (by assumption))))
 obtain ⟨b10,hb10⟩:∃z,w1.heap.size=z:=⟨_,rfl⟩
 have z0:W2.cell? ⟨b10,0,none⟩=some (.int .i64 0):=by rw [hW2,←hb10];go_simp
 have z1':W2.cell? ⟨b10,1,none⟩=some (.int .i64 0):=by rw [hW2,←hb10];go_simp
 have f0:W2.frozen? ⟨b10,0,none⟩=false:=by rw [hW2,←hb10];go_simp
 have f1:W2.frozen? ⟨b10,1,none⟩=false:=by rw [hW2,←hb10];go_simp
 have hl2:b10<W2.heap.size:=by rw [hW2,←hb10];simp
 rw [hb10]
 have hx2:=bel_cell hb2 hx
 have hle:w1.heap.size≤b10:=Nat.le_of_eq hb10
 clear hW2 hb10
 go_wp2_with fail
 (with_reducible refine (rFlood _ q g v a (hR.out.below hb2 hR.out.lt) ha).mono ?_)
 rintro e w3 ⟨fa,ia,rfl,hFa,hb3⟩
 obtain ⟨Z1,hZ1⟩:∃Z,Z=rowOf (ccell fa) 512:=⟨_,rfl⟩
 obtain ⟨Z2,hZ2⟩:∃Z,Z=rowOf (icell ia) 256:=⟨_,rfl⟩
 have z1:Z1.size=512:=by rw [hZ1,rowOf_size]
 have z2:Z2.size=256:=by rw [hZ2,rowOf_size]
 have o1:Z1.all (·.oneCell')=true:=by rw [hZ1];exact Array.all_eq_true_iff_forall_mem.2 (fun v hv=>row_one (f:=ccell fa) (fun k=>by unfold ccell;split <;> rfl) 512 v (by simpa using hv))
 have o2:Z2.all (·.oneCell')=true:=by rw [hZ2];exact Array.all_eq_true_iff_forall_mem.2 (fun v hv=>row_one (f:=icell ia) (fun k=>rfl) 256 v (by simpa using hv))
 rw [←hZ1,←hZ2]
 have HZ1:=Lib.hid hZ1
 have HZ2:=Lib.hid hZ2
 clear hZ1 hZ2
 obtain ⟨W3,W4,r1,r2,hA1,hA2,hbW⟩:=two_arrays w3 Z1 Z2 z1 z2 o1 o2
 rw [HZ1.out] at hA1
 rw [HZ2.out] at hA2
 have hA1:=Lib.hid hA1
 have hA2:=Lib.hid hA2
 clear HZ1 HZ2 o1 o2
 have h24:=bel_trans hb3 hbW
 replace z0:=bel_cell h24 z0
 replace z1':=bel_cell h24 z1'
 replace f0:=(h24.frozen (p:=⟨b10,0,none⟩) hl2).trans f0
 replace f1:=(h24.frozen (p:=⟨b10,1,none⟩) hl2).trans f1
 have h14:=bel_trans hb2 h24
 go_upto_region 7 with (fail)
 obtain ⟨b11,hb11⟩:∃b,w3.heap.size=b:=⟨_,rfl⟩
 rw [hb11] at hA1 hA2 ⊢
 obtain ⟨b12,hb12⟩:∃b,b11+1=b:=⟨_,rfl⟩
 rw [hb12] at hA2 ⊢
 have ci:=arr_b' hA2.out (Below.refl _ _) (show b<256 by omega)
 obtain ⟨x1,x2⟩:=arr_c' hA1.out (Below.refl _ _) (show b<256 by omega)
 have q0:(0:Int)≤(b:Int):=by omega
 have q1:(b:Int)<256:=by omega
 have hFb:=hFa b
 obtain ⟨⟨xs,xd⟩,hx1⟩:∃z,fa b=z:=⟨_,rfl⟩
 rw [hx1] at x1 x2 hFb
 simp only at x1 x2
 replace hFb:=Lib.hid hFb
 have hne:b12≠b10:=by have:=h24.size;have:=hb3.size;omega
 clear r1 r2 hb11 hb12 hbW hb2 hb3 z1 z2 hA1 hA2 hFa hx1 h24
 go_upto_region 8 with (fail)
 refine wp_name ?_
 intro W5 hW5
 have hb5:Below w1.heap.size w1 W5:=by rw [hW5];exact (h14.setCell (p:=⟨b10,0,none⟩) hle _).setCell (p:=⟨b10,1,none⟩) hle _
 obtain ⟨y0,y1⟩:W5.cell? ⟨b10,0,none⟩=some (.int .i64 xs)∧W5.cell? ⟨b10,1,none⟩=some (.int .i64 xd):=by rw [hW5];exact set_two z0 z1'
 have ci5:W5.cell? ⟨b12,b,none⟩=some (.bool (ia b)):=by
  rw [hW5]
  exact (World.cell?_of_block ((Below.heap_setCell _ _ _ _ (by exact hne)).trans (Below.heap_setCell _ _ _ _ (by exact hne)))).trans ci
 replace c0:=bel_cell hb5 c0
 replace c1:=bel_cell hb5 c1
 replace c2:=bel_cell hb5 c2
 replace c3:=bel_cell hb5 c3
 replace hx:=bel_cell hb5 hx
 replace hR:=Lib.hid (hR.out.below hb5 hR.out.lt)
 replace hI:=Lib.hid (hI.out.below hb5)
 have HB5:=bel_trans HB1 hb5
 clear hW5 ci x1 x2 z0 z1' f0 f1 hne h14 hle hl2 hb5 HB1 hx2
 have h0:flt2 g (a:Nat) (b:Nat)=0:=flt2_both (by rw [G.fault_in Hab.out.1,Hab.out.2.2.1];rfl) (by rw [G.fault_in Hab.out.2.1,Hab.out.2.2.2];rfl)
 obtain ⟨a',b',e1,e2,_,_,_,_,hh⟩:=hA.out.cells h0
 obtain rfl:a=a':=Int.ofNat_inj.1 e1
 obtain rfl:b=b':=Int.ofNat_inj.1 e2
 clear e1 e2 h0
 obtain ⟨ib,hib⟩:∃z,ia b=z:=⟨_,rfl⟩
 rw [hib] at ci5 hFb
 clear hib
 cases ib with
 | false=>
  have hno:=hFb.out.2 rfl
  rcases hh with ⟨_,rfl,rfl,he⟩ | ⟨h1,_⟩
  case inr=>exact absurd h1.1 (hno _)
  cases he
  have hn0:=hn.out
  simp only [List.length_nil] at hn0
  subst hn0
  have c3:W5.cell? ⟨b7,3,none⟩=some (.int .i64 5):=c3
  clear hno hI hA hn hFb
  go_wp2_with fail
  go_ret
  exact ⟨rfl,HB5⟩
 | true=>
  obtain ⟨hD,_⟩:=hFb.out.1 rfl
  rcases hh with ⟨h1,_⟩ | ⟨h1,rfl,hl,hh1,hh2⟩
  ·exact absurd hD.1 (h1 _)
  have hcc:=Dist.unique h1 hD
  injection hcc with ea eb
  subst ea
  subst eb
  obtain ⟨l1,l2,_⟩:=hA.out.len hR.out.1 rfl
  have hwo:=hA.out.wout hR.out.1 rfl
  rw [hn.out] at l1 l2 hwo
  obtain ⟨ad,hAd,_,hc⟩:=hI.out l2
  have e0:=hc 0 l2
  have el:=hc (n-1) (by omega)
  rw [List.head?_eq_getElem?] at hh1
  rw [List.getLast?_eq_getElem?,hn.out] at hh2
  simp only [natI_getD hh1,add_zero'] at e0
  simp only [natI_getD hh2] at el
  have hix0:∀wx,(Instr.indexAt 22 (.slice A n m) (.int .i64 0)).run Tryz.prog wx=.ok (.pointer (some ad)) wx:=fun wx=>by have:=idx_run (m:=m) (k:=0) hAd l2 wx;rw [add_zero'] at this;exact this
  have hixl:=fun wx=>idx_run (m:=m) (n:=n) (k:=n-1) hAd (by omega) wx
  rw [show ((n-1:Nat):Int)=(n:Int)-1 by omega] at hixl
  have hwr:IntKind.i64.wrap ((n:Int)-1)=(n:Int)-1:=IntWalk.i64_in _ (by omega)
  have cW:=fun w' (hb:Below W5.heap.size W5 w')=>rWalk w' q g v A n m _ (hR.out.below hb hR.out.lt) (hI.out.below hb) (by omega)
  rw [hwo] at cW
  replace cW:=Lib.hid cW
  have c3:W5.cell? ⟨b7,3,none⟩=some (.int .i64 0):=c3
  clear hwo hAd hc hh1 hh2 hl h1 hD hFb hA hn
  have hd:=bel_drew (Below.refl W5.heap.size W5)
  have j1:W5.drew.cell? ⟨xb,0,none⟩=some (.pointer (some ⟨q,0,none⟩)):=bel_cell hd hx
  have j2:W5.drew.cell? ⟨b7,0,none⟩=some (.slice A n m):=bel_cell hd c0
  go_upto_region 12 with (fail)
  have hd2:Below W5.heap.size W5 (W5.alloc (.cells #[.int .i64 0,.int .i64 0] 38)).drew:=bel_drew (bel_alloc (Below.refl _ _))
  have j3:=bel_cell hd2 hx
  have j4:=bel_cell hd2 c0
  go_region_with
   (first
    | (go_at_call 37
       (with_reducible refine (cW.out _ hd).mono ?_)
       rintro e wA ⟨heA,hbA⟩
       obtain rfl:e=.returned (.tuple #[.agg #[.int .i64 cs,.int .i64 cd],.int .i64 0]):=heA)
    | (go_at_call 37
       (with_reducible refine (cW.out _ hd2).mono ?_)
       rintro e wA ⟨heA,hbA⟩
       obtain rfl:e=.returned (.tuple #[.agg #[.int .i64 cs,.int .i64 cd],.int .i64 0]):=heA
       have s0:wA.cell? ⟨W5.heap.size,0,none⟩=some (.int .i64 0):=bel_cell hbA (by go_simp)
       have s1:wA.cell? ⟨W5.heap.size,1,none⟩=some (.int .i64 0):=bel_cell hbA (by go_simp)
       have s2:wA.frozen? ⟨W5.heap.size,0,none⟩=false:=(hbA.frozen (p:=⟨W5.heap.size,0,none⟩) (by simp)).trans (by go_simp)
       have s3:wA.frozen? ⟨W5.heap.size,1,none⟩=false:=(hbA.frozen (p:=⟨W5.heap.size,1,none⟩) (by simp)).trans (by go_simp)))
  all_goals
   clear j1 j2 j3 j4 cW
   first
    | (have h56 : Below W5.heap.size W5 (wA.alloc (.cells #[.int .i64 cs, .int .i64 cd] 38)) := bel_alloc (bel_trans hd hbA)
       have u0:(wA.alloc (.cells #[.int .i64 cs,.int .i64 cd] 38)).cell? ⟨wA.heap.size,0,none⟩=some (.int .i64 cs):=by go_simp
       have u1:(wA.alloc (.cells #[.int .i64 cs,.int .i64 cd] 38)).cell? ⟨wA.heap.size,1,none⟩=some (.int .i64 cd):=by go_simp
       obtain ⟨W6,hW6⟩:∃z,wA.alloc (.cells #[.int .i64 cs,.int .i64 cd] 38)=z:=⟨_,rfl⟩
       rw [hW6] at h56 u0 u1 ⊢)
    | (have h56 : Below W5.heap.size W5 ((wA.setCell ⟨W5.heap.size, 0, none⟩ (.int .i64 cs)).setCell ⟨W5.heap.size, 1, none⟩ (.int .i64 cd)) := ((bel_trans hd2 hbA).setCell (p := ⟨W5.heap.size, 0, none⟩) (Nat.le_refl _) _).setCell (p := ⟨W5.heap.size, 1, none⟩) (Nat.le_refl _) _
       obtain ⟨u0,u1⟩:=set_two (x:=.int .i64 cs) (y:=.int .i64 cd) s0 s1
       obtain ⟨W6,hW6⟩:∃z,(wA.setCell ⟨W5.heap.size,0,none⟩ (.int .i64 cs)).setCell ⟨W5.heap.size,1,none⟩ (.int .i64 cd)=z:=⟨_,rfl⟩
       rw [hW6] at h56 u0 u1 ⊢
       clear s0 s1 s2 s3)
   replace c0:=bel_cell h56 c0
   replace c1:=bel_cell h56 c1
   replace c2:=bel_cell h56 c2
   replace c3:=bel_cell h56 c3
   replace y0:=bel_cell h56 y0
   replace y1:=bel_cell h56 y1
   replace e0:=bel_cell h56 e0
   replace el:=bel_cell h56 el
   have HB6:=bel_trans HB5 h56
   clear hW6 h56 hbA hd hd2
   go_wp2
   go_ret
   exact ⟨rfl,HB6⟩
end Go.Proofs.YtkdndoefgnfbnaaGreatDoor
/- A slice of asks, in memory. -/
namespace Go.Proofs.YtkdndoefgnfbnaaGreatDoor
open Go.RowKit Go.Sort FR Go.Lib
def AsksAt (W:World) (A:Option Addr) (n:Nat) (f:Nat→Int×Int):Prop:=
 0<n→∃b o,A=some ⟨b,o,none⟩∧b<W.heap.size∧∀k,k<n→W.cell? ⟨b,o+k*2,none⟩=some (.int .i64 (f k).1)∧W.cell? ⟨b,o+k*2+1,none⟩=some (.int .i64 (f k).2)
structure SlA (W:World) (A:Option Addr) (n:Nat) (f:Nat→Int×Int):Prop where
 ask:AsksAt W A n f
 len:n≤9223372036854775807
theorem AsksAt.below {w w':World} {A:Option Addr} {n:Nat} {f:Nat→Int×Int} (h:AsksAt w A n f) (hb:Below w.heap.size w w'):AsksAt w' A n f:=fun hn=>by
 obtain ⟨b,o,e,hl,hc⟩:=h hn
 exact ⟨b,o,e,Nat.lt_of_lt_of_le hl hb.size,fun k hk=>⟨bel_cell hb (hc k hk).1,bel_cell hb (hc k hk).2⟩⟩
theorem idx_runA {A:Option Addr} {b o n m k:Nat} (h:A=some ⟨b,o,none⟩) (hk:k<n) (wx:World):(Instr.indexAt 25 (.slice A n m) (.int .i64 (k:Nat))).run Tryz.prog wx=.ok (.pointer (some ⟨b,o+k*2,none⟩)) wx:=by
 subst h
 have q:(k:Int)<(n:Int):=by omega
 go_simp
end Go.Proofs.YtkdndoefgnfbnaaGreatDoor
/- The law TopBest: for any plot, so many levels at most, and any asks, it returns true. -/
namespace Go.Proofs.YtkdndoefgnfbnaaGreatDoor
open Go.RowKit Go.Sort FR Go.Lib
set_option maxRecDepth 100000 in
set_option maxHeartbeats 6400000 in
theorem topBest (W0 : World) (hV : LibS W0) (a b : Int) (A0 : Option Addr) (n0 m0 : Nat) (f0 : Nat → Int) (h0 : SlI W0 A0 n0 f0) (mx : Int) (hmx : -9223372036854775808 ≤ mx ∧ mx ≤ 9223372036854775807)
    (A1:Option Addr) (n1 m1:Nat) (f1:Nat→Int×Int) (h1:SlA W0 A1 n1 f1) :
    Calls Tryz.prog 3 #[.agg #[.int .i64 a,.int .i64 b,.slice A0 n0 m0],.int .i64 mx,.slice A1 n1 m1] W0 fun e w'=>e=.returned (.bool true)∧Below W0.heap.size W0 w':=by
 obtain ⟨hI0,hl0,_⟩:=h0
 replace hl0:=Lib.hid hl0
 replace hV:=Lib.hid hV
 obtain ⟨hA1,hl1⟩:=h1
 replace hA1:=Lib.hid hA1
 replace hl1:=Lib.hid hl1
 clear hmx
 go_enter Tryz.func3,Tryz.ntmps3
 go_upto_region 1 with (fail)
 refine wp_name ?_
 intro W hW
 have HW:Below W0.heap.size W0 W:=by rw [hW];(repeat' (first | exact Below.refl _ _ | assumption | apply bel_drewN | apply bel_drew | apply bel_alloc | (refine bel_trans ?_ (by assumption))))
 have c0:W.cell? ⟨W0.heap.size,0,none⟩=some (.int .i64 a):=by rw [hW];go_simp
 have c1:W.cell? ⟨W0.heap.size,1,none⟩=some (.int .i64 b):=by rw [hW];go_simp
 have c2:W.cell? ⟨W0.heap.size,2,none⟩=some (.slice A0 n0 m0):=by rw [hW];go_simp
 clear hW
 go_wp2_with fail
 refine (works_true _).mono ?_
 rintro e w1 ⟨rfl,hb1⟩
 have HB1:=bel_trans HW hb1
 replace c0:=bel_cell hb1 c0
 replace c1:=bel_cell hb1 c1
 replace c2:=bel_cell hb1 c2
 have cS:=Lib.hid (serve_any w1 (hV.out.below HB1) a b A0 n0 m0 f0 (hI0.below HB1) hl0.out mx)
 clear HW hb1
 go_wp2_with fail
 refine cS.out.mono ?_
 rintro e w2 ⟨hb2,(⟨u1,u2,rfl⟩ | ⟨s,q,g,g2,v,m,rfl,hsm,⟨hR,_⟩,hF,rfl⟩)⟩
 ·have HB2:=bel_trans HB1 hb2
  go_wp2_with fail
  go_ret
  exact ⟨rfl,HB2⟩
 have HB2:=Lib.hid (bel_trans HB1 hb2)
 have Hs:=Lib.hid hsm.2
 have hS:=hF.serv
 obtain ⟨v2,hv2⟩:∃z,((cntB g.b g.n:Nat):Int)=z:=⟨_,rfl⟩
 rw [hv2] at hS
 have HR:=Lib.hid hR
 have HS:=Lib.hid hS
 replace hA1:=Lib.hid (hA1.out.below HB2.out)
 clear c0 c1 c2 cS hb2 HB1 hsm hR hS hF hv2
 by_cases h30:30<n1
 ·go_wp2_with fail
  go_ret
  exact ⟨rfl,HB2.out⟩
 go_upto_region 8 with (fail)
 refine wp_name ?_
 intro W3 hW3
 have hb3:Below w2.heap.size w2 W3:=by rw [hW3];(repeat' (first | exact Below.refl _ _ | assumption | apply bel_drewN | apply bel_drew | apply bel_alloc | (refine bel_trans ?_ (by assumption))))
 obtain ⟨bx,hbx⟩:∃z,w2.heap.size=z:=⟨_,rfl⟩
 have kx:W3.cell? ⟨bx,0,none⟩=some (.pointer (some ⟨q,0,none⟩)):=by rw [hW3,←hbx];go_simp
 rw [hbx]
 have HB3:=Lib.hid (bel_trans HB2.out hb3)
 replace HR:=Lib.hid (HR.out.below hb3 HR.out.lt)
 replace HS:=Lib.hid (HS.out.below hb3)
 replace hA1:=Lib.hid (hA1.out.below hb3)
 clear hW3 hb3 hbx HB2
 go_wp2_with fail
 go_loopw [11] (fun iv wr=>∃(k:Nat),k≤n1∧iv=.int .i64 (k:Nat)∧Below W3.heap.size W3 wr) (fun iv _=>n1-(intOf iv).toNat)
 case atStart=>exact ⟨0,Nat.zero_le _,rfl,Below.refl _ _⟩
 case round=>
  obtain ⟨k,hk,rfl,hB⟩:=hrel
  by_cases hlt:k<n1
  ·have hd:=bel_drew (Below.refl wr.heap.size wr)
   have hBd:=bel_trans hB hd
   obtain ⟨ba,o,hAe,_,hc⟩:=hA1.out (by omega)
   obtain ⟨x1,x2⟩:=hc k hlt
   have hix:=fun wx=>idx_runA (A:=A1) (m:=m1) hAe hlt wx
   obtain ⟨⟨x,y⟩,hxy⟩:∃z,f1 k=z:=⟨_,rfl⟩
   rw [hxy] at x1 x2
   simp only at x1 x2
   obtain ⟨ok,hok⟩:∃z,o+k*2=z:=⟨_,rfl⟩
   rw [hok] at x1 x2 hix
   have q0:wr.drew.cell? ⟨ba,ok,none⟩=some (.int .i64 x)∧wr.drew.cell? ⟨ba,ok+1,none⟩=some (.int .i64 y):=⟨bel_cell hBd x1,bel_cell hBd x2⟩
   have cA:=Lib.hid (navAsk wr.drew s g2 v2 m (HS.out.below hBd) x y)
   have HBd:=Lib.hid hBd
   replace hk:=Lib.hid hk
   replace kx:=Lib.hid kx
   replace HB3:=Lib.hid (bel_trans HB3.out hB)
   clear hc x1 x2 hxy hok hAe hB
   go_upto_region 11 with (fail)
   go_region_held3 (fun w'=>w'.cell? ⟨ba,ok,none⟩=some (.int .i64 x)∧w'.cell? ⟨ba,ok+1,none⟩=some (.int .i64 y))
    (first
     | exact q0
     | exact q1
     | exact q2)
    (first
     | (go_at_call 19
        refine cA.out.mono ?_
        rintro e wA ⟨Wy,⟨cs,cd⟩,er,Aw,mw,hA,rfl,hI,hf,hbA⟩
        have q1:wA.cell? ⟨ba,ok,none⟩=some (.int .i64 x)∧wA.cell? ⟨ba,ok+1,none⟩=some (.int .i64 y):=⟨bel_cell hbA q0.1,bel_cell hbA q0.2⟩)
     | (go_at_call 18
        refine (rRight wA bx q g v (bel_cell (bel_trans HBd.out hbA) kx.out) (HR.out.below (bel_trans HBd.out hbA) HR.out.lt) x y Aw Wy.length mw Wy rfl cs cd er (hA.same Hs.out.1 Hs.out.2.1 Hs.out.2.2) hI).mono ?_
        rintro e wB ⟨rfl,hbB⟩
        have q2:wB.cell? ⟨ba,ok,none⟩=some (.int .i64 x)∧wB.cell? ⟨ba,ok+1,none⟩=some (.int .i64 y):=⟨bel_cell hbB q1.1,bel_cell hbB q1.2⟩))
   have HF:=Lib.hid (bel_trans HBd.out (bel_trans hbA hbB))
   clear q0 q1 q2 hbA hbB hI hf hA cA hd hix
   go_wp2
   go_roundw
   case rel=>first | exact ⟨k+1,by omega,by go_num,HF.out⟩ | ((repeat apply Exists.intro);exact ⟨⟨k+1,by omega,by go_num,HF.out⟩,rfl⟩)
   case measure=>simp [intOf];omega
  ·obtain rfl:k=n1:=by omega
   have HF:=Lib.hid (bel_trans HB3.out hB)
   clear hB
   go_wp2_with fail
   go_ret
   exact ⟨rfl,HF.out⟩
end Go.Proofs.YtkdndoefgnfbnaaGreatDoor
