/- Lemmas of this claim: RRight. -/
import Derived.Test.YtkdndoefgnfbnaaGreatDoorNavTop
import Derived.Test.YtkdndoefgnfbnaaGreatDoorKNavC40
import Derived.Test.YtkdndoefgnfbnaaGreatDoorKNavC11
import Derived.Test.YtkdndoefgnfbnaaGreatDoorKNavC4
import Derived.Test.YtkdndoefgnfbnaaGreatDoorKNavC5
import Derived.Test.YtkdndoefgnfbnaaGreatDoorKNavC15
import Derived.Test.YtkdndoefgnfbnaaGreatDoorKNavC23
set_option linter.unusedVariables false
set_option linter.unusedSimpArgs false
set_option maxHeartbeats 6400000
set_option maxRecDepth 100000
namespace Go.Proofs.YtkdndoefgnfbnaaGreatDoor
open Go.RowKit Go.Sort FR Go.Lib
theorem rRight (w : World) (xb q : Nat) (g : G) (v : Int) (hx : w.cell? ⟨xb, 0, none⟩ = some (.pointer (some ⟨q, 0, none⟩))) (hR : RGridAt w q g v) (fr to_ : Int) (A : Option Addr) (n m : Nat) (Wy : List Nat) (hn : Wy.length = n) (cs cd : Int) (er : Nat) (hA : AskIs g fr to_ Wy ⟨cs, cd⟩ er) (hI : Ints w A n (fun k => (natI Wy).getD k 0)) :
    Calls Tryz.prog 18 #[.pointer (some ⟨xb,0,none⟩),.int .i64 fr,.int .i64 to_,.agg #[.slice A n m,.int .i64 cs,.int .i64 cd,.int .i64 (er:Nat)]] w fun e w'=>e=.returned (.bool true)∧Below w.heap.size w w':=by
 go_enter Tryz.func18,Tryz.ntmps18
 go_upto_region 1 with (fail)
 refine wp_name ?_;intro W hW
 have HW:Below w.heap.size w W:=by rw [hW];(repeat' (first | exact Below.refl _ _ | assumption | apply bel_drewN | apply bel_drew | apply bel_alloc | (refine bel_trans ?_ (by assumption))))
 have c0:W.cell? ⟨w.heap.size,0,none⟩=some (.slice A n m):=by rw [hW];go_simp
 have c1:W.cell? ⟨w.heap.size,1,none⟩=some (.int .i64 cs):=by rw [hW];go_simp
 have c2:W.cell? ⟨w.heap.size,2,none⟩=some (.int .i64 cd):=by rw [hW];go_simp
 have c3:W.cell? ⟨w.heap.size,3,none⟩=some (.int .i64 (er:Nat)):=by rw [hW];go_simp
 obtain ⟨b7,hb7⟩:∃z,w.heap.size=z:=⟨_,rfl⟩
 rw [hb7] at c0 c1 c2 c3 ⊢
 clear hW hb7;replace hx:=bel_cell HW hx;replace hR:=Lib.hid (hR.below HW hR.lt);replace hI:=Lib.hid (hI.below HW);replace hA:=Lib.hid hA;replace hn:=Lib.hid hn
 by_cases hf1:g.fault fr=0
 case neg=>
  obtain ⟨fz,hfz⟩:∃z:Int,((g.fault fr:Nat):Int)=z:=⟨_,rfl⟩;have cF:=rFault W q g v fr hR.out;rw [hfz] at cF;replace cF:=Lib.hid cF
  have h1:flt2 g fr to_=g.fault fr:=by unfold flt2;rw [if_pos hf1]
  have hz:=hA.out
  rcases hz with ⟨_,rfl,rfl,he⟩ | ⟨a,b,rfl,rfl,a1,a2,a3,a4,_⟩
  case inr=>exact absurd (by rw [G.fault_in a1,a3];rfl) hf1
  cases he
  have hn0:=hn.out;simp only [List.length_nil] at hn0;subst hn0;rw [h1,hfz] at c3
  have p1:¬fz=0:=by omega
  have p2:(fz == 0)=false:=by rw [beq_eq_false_iff_ne];exact p1
  have p3:(0:Int)<fz:=by omega
  clear hf1 hfz h1 hI hA hn;go_wp2_with fail;refine cF.out.mono ?_;rintro e w1 ⟨rfl,hb1⟩;replace c0:=bel_cell hb1 c0;replace c1:=bel_cell hb1 c1;replace c2:=bel_cell hb1 c2;replace c3:=bel_cell hb1 c3;have HB1:=bel_trans HW hb1;clear cF hb1
  go_upto_region 5 with (fail)
  refine wp_name ?_;intro W2 hW2
  have hb2:Below w1.heap.size w1 W2:=by rw [hW2];(repeat' (first | exact Below.refl _ _ | assumption | apply bel_drewN | apply bel_drew | apply bel_alloc | (refine bel_trans ?_ (by assumption))))
  replace c0:=bel_cell hb2 c0;replace c1:=bel_cell hb2 c1;replace c2:=bel_cell hb2 c2;replace c3:=bel_cell hb2 c3;have HB2:=bel_trans HB1 hb2;clear hW2 hb2;go_wp2_with fail;go_ret;exact ⟨rfl,HB2⟩
 have cF1:=rFault W q g v fr hR.out;rw [hf1] at cF1;replace cF1:=Lib.hid cF1;go_wp2_with fail;refine cF1.out.mono ?_;rintro e w0 ⟨rfl,hb0⟩;replace c0:=bel_cell hb0 c0;replace c1:=bel_cell hb0 c1;replace c2:=bel_cell hb0 c2;replace c3:=bel_cell hb0 c3;replace hx:=bel_cell hb0 hx;replace hR:=Lib.hid (hR.out.below hb0 hR.out.lt);replace hI:=Lib.hid (hI.out.below hb0);have HB0:=bel_trans HW hb0;clear hb0 cF1 HW
 by_cases hf2:g.fault to_=0
 case neg=>
  obtain ⟨fz,hfz⟩:∃z:Int,((g.fault to_:Nat):Int)=z:=⟨_,rfl⟩;have cF:=rFault w0 q g v to_ hR.out;rw [hfz] at cF;replace cF:=Lib.hid cF
  have h1:flt2 g fr to_=g.fault to_:=by unfold flt2;rw [if_neg (fun k=>k hf1)]
  have hz:=hA.out
  rcases hz with ⟨_,rfl,rfl,he⟩ | ⟨a,b,rfl,rfl,a1,a2,a3,a4,_⟩
  case inr=>exact absurd (by rw [G.fault_in a2,a4];rfl) hf2
  cases he
  have hn0:=hn.out;simp only [List.length_nil] at hn0;subst hn0;rw [h1,hfz] at c3
  have p1:¬fz=0:=by omega
  have p2:(fz == 0)=false:=by rw [beq_eq_false_iff_ne];exact p1
  have p3:(0:Int)<fz:=by omega
  clear hf1 hf2 hfz h1 hI hA hn;go_wp2_with fail;refine cF.out.mono ?_;rintro e w1 ⟨rfl,hb1⟩;replace c0:=bel_cell hb1 c0;replace c1:=bel_cell hb1 c1;replace c2:=bel_cell hb1 c2;replace c3:=bel_cell hb1 c3;have HB1:=bel_trans HB0 hb1;clear cF hb1
  go_upto_region 5 with (fail)
  refine wp_name ?_;intro W2 hW2
  have hb2:Below w1.heap.size w1 W2:=by rw [hW2];(repeat' (first | exact Below.refl _ _ | assumption | apply bel_drewN | apply bel_drew | apply bel_alloc | (refine bel_trans ?_ (by assumption))))
  replace c0:=bel_cell hb2 c0;replace c1:=bel_cell hb2 c1;replace c2:=bel_cell hb2 c2;replace c3:=bel_cell hb2 c3;have HB2:=bel_trans HB1 hb2;clear hW2 hb2;go_wp2_with fail;go_ret;exact ⟨rfl,HB2⟩
 obtain ⟨a,rfl,ha,fa⟩:=G.fault_zero hf1;obtain ⟨b,rfl,hb,fb⟩:=G.fault_zero hf2;have cF:=rFault w0 q g v (b:Nat) hR.out;rw [hf2] at cF;replace cF:=Lib.hid cF;clear hf1 hf2;have hgn:=G.n_le hR.out.1;have Hab:=Lib.hid (And.intro ha (And.intro hb (And.intro fa fb)));clear fa fb;go_wp2_with fail;refine cF.out.mono ?_;rintro e w1 ⟨rfl,hb1⟩;replace c0:=bel_cell hb1 c0;replace c1:=bel_cell hb1 c1;replace c2:=bel_cell hb1 c2
 replace c3:=bel_cell hb1 c3;replace hx:=bel_cell hb1 hx;replace hR:=Lib.hid (hR.out.below hb1 hR.out.lt);replace hI:=Lib.hid (hI.out.below hb1);have HB1:=bel_trans HB0 hb1;clear cF hb1 HB0
 go_upto_region 5 with (fail)
 refine wp_name ?_;intro W2 hW2
 have hb2:Below w1.heap.size w1 W2:=by rw [hW2];(repeat' (first | exact Below.refl _ _ | assumption | apply bel_drewN | apply bel_drew | apply bel_alloc | (refine bel_trans ?_ (by assumption))))
 obtain ⟨b10,hb10⟩:∃z,w1.heap.size=z:=⟨_,rfl⟩
 have z0:W2.cell? ⟨b10,0,none⟩=some (.int .i64 0):=by rw [hW2,←hb10];go_simp
 have z1':W2.cell? ⟨b10,1,none⟩=some (.int .i64 0):=by rw [hW2,←hb10];go_simp
 have f0:W2.frozen? ⟨b10,0,none⟩=false:=by rw [hW2,←hb10];go_simp
 have f1:W2.frozen? ⟨b10,1,none⟩=false:=by rw [hW2,←hb10];go_simp
 have hl2:b10<W2.heap.size:=by rw [hW2,←hb10];simp
 rw [hb10];have hx2:=bel_cell hb2 hx;have hle:w1.heap.size≤b10:=Nat.le_of_eq hb10;clear hW2 hb10;go_wp2_with fail
 (with_reducible refine (rFlood _ q g v a (hR.out.below hb2 hR.out.lt) ha).mono ?_)
 rintro e w3 ⟨fa,ia,rfl,hFa,hb3⟩;obtain ⟨Z1,hZ1⟩:∃Z,Z=rowOf (ccell fa) 512:=⟨_,rfl⟩;obtain ⟨Z2,hZ2⟩:∃Z,Z=rowOf (icell ia) 256:=⟨_,rfl⟩
 have z1:Z1.size=512:=by rw [hZ1,rowOf_size]
 have z2:Z2.size=256:=by rw [hZ2,rowOf_size]
 have o1:Z1.all (·.oneCell')=true:=by rw [hZ1];exact Array.all_eq_true_iff_forall_mem.2 (fun v hv=>row_one (f:=ccell fa) (fun k=>by unfold ccell;split <;> rfl) 512 v (by simpa using hv))
 have o2:Z2.all (·.oneCell')=true:=by rw [hZ2];exact Array.all_eq_true_iff_forall_mem.2 (fun v hv=>row_one (f:=icell ia) (fun k=>rfl) 256 v (by simpa using hv))
 rw [←hZ1,←hZ2];have HZ1:=Lib.hid hZ1;have HZ2:=Lib.hid hZ2;clear hZ1 hZ2;obtain ⟨W3,W4,r1,r2,hA1,hA2,hbW⟩:=two_arrays w3 Z1 Z2 z1 z2 o1 o2;rw [HZ1.out] at hA1;rw [HZ2.out] at hA2;have hA1:=Lib.hid hA1;have hA2:=Lib.hid hA2;clear HZ1 HZ2 o1 o2;have h24:=bel_trans hb3 hbW;replace z0:=bel_cell h24 z0;replace z1':=bel_cell h24 z1';replace f0:=(h24.frozen (p:=⟨b10,0,none⟩) hl2).trans f0;replace f1:=(h24.frozen (p:=⟨b10,1,none⟩) hl2).trans f1
 have h14:=bel_trans hb2 h24
 go_upto_region 7 with (fail)
 obtain ⟨b11,hb11⟩:∃b,w3.heap.size=b:=⟨_,rfl⟩
 rw [hb11] at hA1 hA2 ⊢
 obtain ⟨b12,hb12⟩:∃b,b11+1=b:=⟨_,rfl⟩
 rw [hb12] at hA2 ⊢
 have ci:=arr_b' hA2.out (Below.refl _ _) (show b<256 by omega)
 obtain ⟨x1,x2⟩:=arr_c' hA1.out (Below.refl _ _) (show b<256 by omega)
 have q0:(0:Int)≤(b:Int):=by omega
 have q1:(b:Int)<256:=by omega
 have hFb:=hFa b;obtain ⟨⟨xs,xd⟩,hx1⟩:∃z,fa b=z:=⟨_,rfl⟩;rw [hx1] at x1 x2 hFb;simp only at x1 x2;replace hFb:=Lib.hid hFb
 have hne:b12≠b10:=by have:=h24.size;have:=hb3.size;omega
 clear r1 r2 hb11 hb12 hbW hb2 hb3 z1 z2 hA1 hA2 hFa hx1 h24
 go_upto_region 8 with (fail)
 refine wp_name ?_;intro W5 hW5
 have hb5:Below w1.heap.size w1 W5:=by rw [hW5];exact (h14.setCell (p:=⟨b10,0,none⟩) hle _).setCell (p:=⟨b10,1,none⟩) hle _
 obtain ⟨y0,y1⟩:W5.cell? ⟨b10,0,none⟩=some (.int .i64 xs)∧W5.cell? ⟨b10,1,none⟩=some (.int .i64 xd):=by rw [hW5];exact set_two z0 z1'
 have ci5:W5.cell? ⟨b12,b,none⟩=some (.bool (ia b)):=by
  rw [hW5]
  exact (World.cell?_of_block ((Below.heap_setCell _ _ _ _ (by exact hne)).trans (Below.heap_setCell _ _ _ _ (by exact hne)))).trans ci
 replace c0:=bel_cell hb5 c0;replace c1:=bel_cell hb5 c1;replace c2:=bel_cell hb5 c2;replace c3:=bel_cell hb5 c3;replace hx:=bel_cell hb5 hx;replace hR:=Lib.hid (hR.out.below hb5 hR.out.lt);replace hI:=Lib.hid (hI.out.below hb5);have HB5:=bel_trans HB1 hb5;clear hW5 ci x1 x2 z0 z1' f0 f1 hne h14 hle hl2 hb5 HB1 hx2
 have h0:flt2 g (a:Nat) (b:Nat)=0:=flt2_both (by rw [G.fault_in Hab.out.1,Hab.out.2.2.1];rfl) (by rw [G.fault_in Hab.out.2.1,Hab.out.2.2.2];rfl)
 obtain ⟨a',b',e1,e2,_,_,_,_,hh⟩:=hA.out.cells h0;obtain rfl:a=a':=Int.ofNat_inj.1 e1;obtain rfl:b=b':=Int.ofNat_inj.1 e2;clear e1 e2 h0;obtain ⟨ib,hib⟩:∃z,ia b=z:=⟨_,rfl⟩;rw [hib] at ci5 hFb;clear hib
 cases ib with
 | false=>
  have hno:=hFb.out.2 rfl
  rcases hh with ⟨_,rfl,rfl,he⟩ | ⟨h1,_⟩
  case inr=>exact absurd h1.1 (hno _)
  cases he
  have hn0:=hn.out;simp only [List.length_nil] at hn0;subst hn0;have c3:W5.cell? ⟨b7,3,none⟩=some (.int .i64 5):=c3;clear hno hI hA hn hFb;go_wp2_with fail;go_ret;exact ⟨rfl,HB5⟩
 | true=>
  obtain ⟨hD,_⟩:=hFb.out.1 rfl
  rcases hh with ⟨h1,_⟩ | ⟨h1,rfl,hl,hh1,hh2⟩
  ·exact absurd hD.1 (h1 _)
  have hcc:=Dist.unique h1 hD
  injection hcc with ea eb
  subst ea;subst eb;obtain ⟨l1,l2,_⟩:=hA.out.len hR.out.1 rfl;have hwo:=hA.out.wout hR.out.1 rfl;rw [hn.out] at l1 l2 hwo;obtain ⟨ad,hAd,_,hc⟩:=hI.out l2;have e0:=hc 0 l2
  have el:=hc (n-1) (by omega)
  rw [List.head?_eq_getElem?] at hh1;rw [List.getLast?_eq_getElem?,hn.out] at hh2;simp only [natI_getD hh1,add_zero'] at e0;simp only [natI_getD hh2] at el
  have hix0:∀wx,(Instr.indexAt 22 (.slice A n m) (.int .i64 0)).run Tryz.prog wx=.ok (.pointer (some ad)) wx:=fun wx=>by have:=idx_run (m:=m) (k:=0) hAd l2 wx;rw [add_zero'] at this;exact this
  have hixl:=fun wx=>idx_run (m:=m) (n:=n) (k:=n-1) hAd (by omega) wx
  rw [show ((n-1:Nat):Int)=(n:Int)-1 by omega] at hixl
  have hwr:IntKind.i64.wrap ((n:Int)-1)=(n:Int)-1:=IntWalk.i64_in _ (by omega)
  have cW:=fun w' (hb:Below W5.heap.size W5 w')=>rWalk w' q g v A n m _ (hR.out.below hb hR.out.lt) (hI.out.below hb) (by omega)
  rw [hwo] at cW;replace cW:=Lib.hid cW;have c3:W5.cell? ⟨b7,3,none⟩=some (.int .i64 0):=c3;clear hwo hAd hc hh1 hh2 hl h1 hD hFb hA hn;have hd:=bel_drew (Below.refl W5.heap.size W5);have j1:W5.drew.cell? ⟨xb,0,none⟩=some (.pointer (some ⟨q,0,none⟩)):=bel_cell hd hx;have j2:W5.drew.cell? ⟨b7,0,none⟩=some (.slice A n m):=bel_cell hd c0
  go_upto_region 12 with (fail)
  have hd2:Below W5.heap.size W5 (W5.alloc (.cells #[.int .i64 0,.int .i64 0] 38)).drew:=bel_drew (bel_alloc (Below.refl _ _));have j3:=bel_cell hd2 hx;have j4:=bel_cell hd2 c0
  go_region_with
   (first
    | (go_at_call 37
       (with_reducible refine (cW.out _ hd).mono ?_)
       rintro e wA ⟨heA,hbA⟩;obtain rfl:e=.returned (.tuple #[.agg #[.int .i64 cs,.int .i64 cd],.int .i64 0]):=heA)
    | (go_at_call 37
       (with_reducible refine (cW.out _ hd2).mono ?_)
       rintro e wA ⟨heA,hbA⟩;obtain rfl:e=.returned (.tuple #[.agg #[.int .i64 cs,.int .i64 cd],.int .i64 0]):=heA
       have s0:wA.cell? ⟨W5.heap.size,0,none⟩=some (.int .i64 0):=bel_cell hbA (by go_simp)
       have s1:wA.cell? ⟨W5.heap.size,1,none⟩=some (.int .i64 0):=bel_cell hbA (by go_simp)
       have s2:wA.frozen? ⟨W5.heap.size,0,none⟩=false:=(hbA.frozen (p:=⟨W5.heap.size,0,none⟩) (by simp)).trans (by go_simp)
       have s3:wA.frozen? ⟨W5.heap.size,1,none⟩=false:=(hbA.frozen (p:=⟨W5.heap.size,1,none⟩) (by simp)).trans (by go_simp)))
  all_goals
   clear j1 j2 j3 j4 cW
   first
    | (have h56 : Below W5.heap.size W5 (wA.alloc (.cells #[.int .i64 cs, .int .i64 cd] 38)) := bel_alloc (bel_trans hd hbA)
       have u0:(wA.alloc (.cells #[.int .i64 cs,.int .i64 cd] 38)).cell? ⟨wA.heap.size,0,none⟩=some (.int .i64 cs):=by go_simp
       have u1:(wA.alloc (.cells #[.int .i64 cs,.int .i64 cd] 38)).cell? ⟨wA.heap.size,1,none⟩=some (.int .i64 cd):=by go_simp
       obtain ⟨W6,hW6⟩:∃z,wA.alloc (.cells #[.int .i64 cs,.int .i64 cd] 38)=z:=⟨_,rfl⟩;rw [hW6] at h56 u0 u1 ⊢)
    | (have h56 : Below W5.heap.size W5 ((wA.setCell ⟨W5.heap.size, 0, none⟩ (.int .i64 cs)).setCell ⟨W5.heap.size, 1, none⟩ (.int .i64 cd)) := ((bel_trans hd2 hbA).setCell (p := ⟨W5.heap.size, 0, none⟩) (Nat.le_refl _) _).setCell (p := ⟨W5.heap.size, 1, none⟩) (Nat.le_refl _) _
       obtain ⟨u0,u1⟩:=set_two (x:=.int .i64 cs) (y:=.int .i64 cd) s0 s1;obtain ⟨W6,hW6⟩:∃z,(wA.setCell ⟨W5.heap.size,0,none⟩ (.int .i64 cs)).setCell ⟨W5.heap.size,1,none⟩ (.int .i64 cd)=z:=⟨_,rfl⟩
       rw [hW6] at h56 u0 u1 ⊢
       clear s0 s1 s2 s3)
   replace c0:=bel_cell h56 c0;replace c1:=bel_cell h56 c1;replace c2:=bel_cell h56 c2;replace c3:=bel_cell h56 c3;replace y0:=bel_cell h56 y0;replace y1:=bel_cell h56 y1;replace e0:=bel_cell h56 e0;replace el:=bel_cell h56 el;have HB6:=bel_trans HB5 h56;clear hW6 h56 hbA hd hd2;go_wp2;go_ret;exact ⟨rfl,HB6⟩
end Go.Proofs.YtkdndoefgnfbnaaGreatDoor
