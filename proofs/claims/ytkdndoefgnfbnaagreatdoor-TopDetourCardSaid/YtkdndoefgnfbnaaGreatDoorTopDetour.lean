/- Lemmas of this claim: TopDetour. -/
import Derived.Test.YtkdndoefgnfbnaaGreatDoorRRight
import Derived.Test.YtkdndoefgnfbnaaGreatDoorNavEd
import Derived.Test.YtkdndoefgnfbnaaGreatDoorKNavC5
set_option linter.unusedVariables false
set_option linter.unusedSimpArgs false
set_option maxHeartbeats 6400000
set_option maxRecDepth 100000
namespace Go.Proofs.YtkdndoefgnfbnaaGreatDoor
open Go.RowKit Go.Sort FR Go.Lib
theorem gset_more {g:G} (c:Nat):MoreW g (gset g c true):=⟨rfl,rfl,fun j _ h=>by
 show upd g.b c true j=true
 unfold upd
 split
 ·rfl
 ·exact h⟩
theorem gset_fault {g:G} {c:Nat} {t:Bool} {x:Int} (h:(c:Int)≠x):(gset g c t).fault x=g.fault x:=by
 unfold G.fault;have hn:(gset g c t).n=g.n:=rfl;rw [hn]
 split
 ·rfl
 ·show (if upd g.b c t x.toNat=true then 4 else 0)=_
  rw [upd_ne _ _ (by omega)]
theorem edits_one (w:World) (c:Int) (t:Bool):EditsAt (w.alloc (.cells #[.int .i64 c,.bool t] 74 (0,0))) (some ⟨w.heap.size,0,none⟩) 1 (fun _=>(c,t)):=fun _=>
 ⟨w.heap.size,0,rfl,by simp,fun k hk=>by
  obtain rfl:k=0:=by omega
  exact ⟨by go_simp,by go_simp⟩⟩
theorem sameAns_nil (w : World) (cs cd : Int) :
    Calls Tryz.prog 33 #[.agg #[.slice none 0 0,.int .i64 cs,.int .i64 cd,.int .i64 0],.agg #[.slice none 0 0,.int .i64 cs,.int .i64 cd,.int .i64 0]] w fun e w'=>e=.returned (.bool true)∧Below w.heap.size w w':=by
 have cN:=Lib.hid (fun w'=>sameNumbers w' none none 0 0 0 (fun _=>0) (fun h=>absurd h (by simp)) (fun h=>absurd h (by simp)) (by omega))
 go_enter Tryz.func33,Tryz.ntmps33
 go_upto_region 1 with (fail)
 refine wp_name ?_;intro W hW
 have HW:Below w.heap.size w W:=by rw [hW];(repeat' (first | exact Below.refl _ _ | assumption | apply bel_drewN | apply bel_drew | apply bel_alloc | (refine bel_trans ?_ (by assumption))))
 have c00:W.cell? ⟨w.heap.size,0,none⟩=some (.slice none 0 0):=by rw [hW];go_simp
 have c01:W.cell? ⟨w.heap.size,1,none⟩=some (.int .i64 cs):=by rw [hW];go_simp
 have c02:W.cell? ⟨w.heap.size,2,none⟩=some (.int .i64 cd):=by rw [hW];go_simp
 have c03:W.cell? ⟨w.heap.size,3,none⟩=some (.int .i64 0):=by rw [hW];go_simp
 have c10:W.cell? ⟨w.heap.size+1,0,none⟩=some (.slice none 0 0):=by rw [hW];go_simp
 have c11:W.cell? ⟨w.heap.size+1,1,none⟩=some (.int .i64 cs):=by rw [hW];go_simp
 have c12:W.cell? ⟨w.heap.size+1,2,none⟩=some (.int .i64 cd):=by rw [hW];go_simp
 have c13:W.cell? ⟨w.heap.size+1,3,none⟩=some (.int .i64 0):=by rw [hW];go_simp
 clear hW;go_wp2_with fail;refine (cN.out _).mono ?_;rintro e w2 ⟨rfl,hb2⟩;have HB:=bel_trans HW hb2;go_wp2_with fail;go_ret;exact ⟨rfl,HB⟩
theorem topDetour (W0 : World) (hV : LibS W0) (a b : Int) (A0 : Option Addr) (n0 m0 : Nat) (f0 : Nat → Int) (h0 : SlI W0 A0 n0 f0) (mx : Int) (hmx : -9223372036854775808 ≤ mx ∧ mx ≤ 9223372036854775807)
    (x:Int) (hx:-9223372036854775808≤x∧x≤9223372036854775807) (y:Int) (hy:-9223372036854775808≤y∧y≤9223372036854775807) (z:Int) (hz:-9223372036854775808≤z∧z≤9223372036854775807) :
    Calls Tryz.prog 13 #[.agg #[.int .i64 a,.int .i64 b,.slice A0 n0 m0],.int .i64 mx,.int .i64 x,.int .i64 y,.int .i64 z] W0 fun e w'=>e=.returned (.bool true)∧Below W0.heap.size W0 w':=by
 clear hmx hx hy hz;obtain ⟨hI0,hl0,_⟩:=h0;replace hl0:=Lib.hid hl0;replace hV:=Lib.hid hV;go_enter Tryz.func13,Tryz.ntmps13
 go_upto_region 1 with (fail)
 refine wp_name ?_;intro W hW
 have HW:Below W0.heap.size W0 W:=by rw [hW];(repeat' (first | exact Below.refl _ _ | assumption | apply bel_drewN | apply bel_drew | apply bel_alloc | (refine bel_trans ?_ (by assumption))))
 have c0:W.cell? ⟨W0.heap.size,0,none⟩=some (.int .i64 a):=by rw [hW];go_simp
 have c1:W.cell? ⟨W0.heap.size,1,none⟩=some (.int .i64 b):=by rw [hW];go_simp
 have c2:W.cell? ⟨W0.heap.size,2,none⟩=some (.slice A0 n0 m0):=by rw [hW];go_simp
 clear hW;go_wp2_with fail;refine (works_true _).mono ?_;rintro e w1 ⟨rfl,hb1⟩;have HB1:=bel_trans HW hb1;replace c0:=bel_cell hb1 c0;replace c1:=bel_cell hb1 c1;replace c2:=bel_cell hb1 c2;have cS:=Lib.hid (serve_any w1 (hV.out.below HB1) a b A0 n0 m0 f0 (hI0.below HB1) hl0.out mx);clear HW hb1;go_wp2_with fail;refine cS.out.mono ?_
 rintro e w2 ⟨hb2,(⟨u1,u2,rfl⟩ | ⟨s,q,g,g2,v,m,rfl,hld,hq,hF,rfl⟩)⟩
 ·have HB2:=bel_trans HB1 hb2
  go_wp2_with fail;go_ret;exact ⟨rfl,HB2⟩
 have HB2:=Lib.hid (bel_trans HB1 hb2);have hw12:=HB1.size
 have hq0:W0.heap.size≤q:=by have:=hq.2.2.2.2;omega
 have HLd:=Lib.hid hld;have HR:=Lib.hid hq.1;have HQ:=Lib.hid (And.intro hq.2.1 (And.intro hq.2.2.1 (And.intro hq.2.2.2.1 hq0)));have hV2:=Lib.hid (hV.out.below HB2.out);obtain ⟨v2,hv2⟩:∃z,((cntB g.b g.n:Nat):Int)=z:=⟨_,rfl⟩;rw [hv2] at hF;have Hok:=Lib.hid HR.out.1;have HS:=Lib.hid hF.serv;have HF:=Lib.hid hF;have Hv2:=Lib.hid hv2;clear c0 c1 c2 cS hb2 HB1 hld hq hF hv2 hw12 hq0 hV;have hgn:=G.n_le Hok.out
 have hn2:=HLd.out.2.n
 by_cases hzi:0≤z∧z<(g.n:Nat)
 case neg=>
  have cI:=Lib.hid (rIs_out w2 q g v z HR.out (by omega))
  go_wp2_with fail;refine cI.out.mono ?_;rintro e w3 ⟨rfl,hb3⟩;have HB3:=bel_trans HB2.out hb3;go_wp2_with fail;go_ret;exact ⟨rfl,HB3⟩
 obtain ⟨c,rfl⟩:=Int.eq_ofNat_of_zero_le hzi.1
 have hc:c<g.n:=by omega
 have cI:=Lib.hid (rIs_in w2 q g v c HR.out hc);clear hzi;go_wp2_with fail;refine cI.out.mono ?_;rintro e w3 ⟨rfl,hb3⟩;have HB3:=Lib.hid (bel_trans HB2.out hb3)
 by_cases hzx:((c:Nat):Int)=x
 ·have d1:(((c:Nat):Int) == x)=true:=by simp [hzx]
  clear hzx;go_wp2_with fail;go_ret;exact ⟨rfl,HB3.out⟩
 have d1:(((c:Nat):Int) == x)=false:=by simp;exact hzx
 by_cases hzy:((c:Nat):Int)=y
 ·have d2:(((c:Nat):Int) == y)=true:=by simp [hzy]
  clear hzy;go_wp2_with fail;go_ret;exact ⟨rfl,HB3.out⟩
 have d2:(((c:Nat):Int) == y)=false:=by simp;exact hzy
 obtain ⟨T,hT,hTq⟩:=HF.out;have hTl:=hT.lt;have HT3:=Lib.hid (hT.below hb3);have HS3:=Lib.hid (HS.out.below hb3);have HR3:=Lib.hid (HR.out.below hb3 HR.out.lt);have h23:=hb3.size;have HTq:=Lib.hid (And.intro hTl hTq);have Hzz:=Lib.hid (And.intro hzx hzy)
 have hv2:0≤v2∧v2≤1000000:=by
  rw [←Hv2.out]
  have:cntB g.b g.n≤g.n:=by unfold cntB;exact Nat.le_trans (List.length_filter_le _ _) (by simp)
  omega
 have Hvv:=Lib.hid hv2;clear hT hTl hTq hb3 cI hv2 hzx hzy;have cA:=Lib.hid (navAsk w3 s g2 v2 m HS3.out x y);go_wp2_with fail;refine cA.out.mono ?_;rintro e w4 ⟨Wy1,⟨cs1,cd1⟩,er1,Aw1,mw1,hA1,rfl,hI1,hf1,hbA⟩
 go_upto_region 8 with (fail)
 refine wp_name ?_;intro W4 hWB;obtain ⟨b1,hb1⟩:∃z,w4.heap.size=z:=⟨_,rfl⟩
 have hbB:Below w4.heap.size w4 W4:=by rw [hWB];(repeat' (first | exact Below.refl _ _ | assumption | apply bel_drewN | apply bel_drew | apply bel_alloc | (refine bel_trans ?_ (by assumption))))
 have k10:W4.cell? ⟨b1,0,none⟩=some (.slice Aw1 Wy1.length mw1):=by rw [hWB,←hb1];go_simp
 have k11:W4.cell? ⟨b1,1,none⟩=some (.int .i64 cs1):=by rw [hWB,←hb1];go_simp
 have k12:W4.cell? ⟨b1,2,none⟩=some (.int .i64 cd1):=by rw [hWB,←hb1];go_simp
 have k13:W4.cell? ⟨b1,3,none⟩=some (.int .i64 (er1:Nat)):=by rw [hWB,←hb1];go_simp
 try rw [hb1]
 have hbl1:w3.heap.size≤b1:=by rw [←hb1];exact hbA.size
 have hAB:=bel_trans hbA hbB;have HB4:=Lib.hid (bel_trans HB3.out hAB);replace hA1:=Lib.hid hA1;replace hI1:=Lib.hid (hI1.below hbB);replace hf1:=Lib.hid hf1;clear hWB hb1 hbA hbB cA;clear d1 d2;have HT4:=Lib.hid (HT3.out.below hAB);have HR4:=Lib.hid (HR3.out.below hAB HR3.out.lt);have h34:=hAB.size;have hq3:=HR3.out.lt
 have HR4':q<b1:=by omega
 clear hAB HS3 HT3 HR3 HS;obtain ⟨n1,hn1⟩:∃z,Wy1.length=z:=⟨_,rfl⟩;rw [hn1] at k10 hI1;have Hn1:=Lib.hid hn1;clear hn1;go_wp2_with fail;obtain ⟨W5,hW5⟩:∃z,W4.alloc (.cells #[.int .i64 (c:Nat),.bool true] 74 (0,0))=z:=⟨_,rfl⟩
 have h45:Below W4.heap.size W4 W5:=by rw [←hW5];(repeat' (first | exact Below.refl _ _ | assumption | apply bel_drewN | apply bel_drew | apply bel_alloc | (refine bel_trans ?_ (by assumption))))
 obtain ⟨bE,hbE⟩:∃z,W4.heap.size=z:=⟨_,rfl⟩;have hEd:=edits_one W4 ((c:Nat):Int) true;rw [hW5,hbE] at hEd;rw [hW5,hbE]
 have cE:=navEdit_ok W5 s g2 v2 m T (HT4.out.below h45) (some ⟨bE,0,none⟩) 1 1 _ hEd (by omega) (fun ad e=>by cases e;intro hm;have:=HTq.out.1 bE hm;omega) Hvv.out (fun j _=>by simp only;rw [hn2];omega)
 replace cE:=Lib.hid cE;replace k10:=bel_cell h45 k10;replace k11:=bel_cell h45 k11;replace k12:=bel_cell h45 k12;replace k13:=bel_cell h45 k13;have HI5:=Lib.hid (hI1.out.below h45);have HR5:=Lib.hid (HR4.out.below h45 HR4.out.lt);have HB5:=Lib.hid (bel_trans HB4.out h45)
 have hbE5:bE<W5.heap.size:=by rw [←hW5,←hbE];simp
 have hb1q:b1∉T:=fun hm=>by have:=HTq.out.1 b1 hm;omega
 clear hW5 h45 hEd hI1 HR4 HT4;go_wp2_with fail;refine cE.out.mono ?_;rintro e w6 ⟨rfl,T2,hIn2,hT2,hk6⟩
 have hqT:q∉T:=fun hm=>by have:=HTq.out.2 q hm;omega
 obtain ⟨ne,hne⟩:∃z,editN (fun _=>(((c:Nat):Int),true)) g2 1=z:=⟨_,rfl⟩
 rw [hne] at hIn2 ⊢
 have hge:editG (fun _=>(((c:Nat):Int),true)) g2 1=gset g2 c true:=by
  show gset g2 (((c:Nat):Int)).toNat true=_
  simp
 rw [hge] at hIn2;replace k10:=keptc hk6 (p:=⟨b1,0,none⟩) hb1q k10;replace k11:=keptc hk6 (p:=⟨b1,1,none⟩) hb1q k11;replace k12:=keptc hk6 (p:=⟨b1,2,none⟩) hb1q k12;replace k13:=keptc hk6 (p:=⟨b1,3,none⟩) hb1q k13
 have HI6:=Lib.hid (HI5.out.kept0 hk6 (fun _ ad e hm=>by have:=HTq.out.1 _ hm;have:=hf1.out ad e;omega))
 have HR6:=Lib.hid (HR5.out.kept hk6 hqT)
 have HB6:Below W0.heap.size W0 w6:=Kept.below HB5.out hk6 HB5.out.size (fun i hi=>by have:=HTq.out.2 i hi;have:=HQ.out.2.2.2;omega)
 replace HB6:=Lib.hid HB6;have hlt1:b1<w6.heap.size:=World.block_lt_of_cell? (a:=⟨b1,0,none⟩) w6 k10
 have hT2q:q∉T2:=fun hm=>by
  rcases hT2 q hm with r | r
  ·exact hqT r
  ·have:=HR5.out.lt;omega
 have HS6:=Lib.hid (show ServAt w6 s (gset g2 c true) _ m from ⟨T2,hIn2⟩)
 clear hIn2 hT2 hk6 hge hne HI5 HR5 HB5 cE hqT hb1q hbE hbE5;have cA:=Lib.hid (navAsk w6 s (gset g2 c true) _ m HS6.out x y);go_wp2_with fail;refine cA.out.mono ?_;rintro e w7 ⟨Wy2,⟨cs2,cd2⟩,er2,Aw2,mw2,hA2,rfl,hI2,hf2,hbA⟩
 go_upto_region 10 with (fail)
 refine wp_name ?_;intro W7 hWB;obtain ⟨b2,hb2⟩:∃z,w7.heap.size=z:=⟨_,rfl⟩
 have hbB:Below w7.heap.size w7 W7:=by rw [hWB];(repeat' (first | exact Below.refl _ _ | assumption | apply bel_drewN | apply bel_drew | apply bel_alloc | (refine bel_trans ?_ (by assumption))))
 have k20:W7.cell? ⟨b2,0,none⟩=some (.slice Aw2 Wy2.length mw2):=by rw [hWB,←hb2];go_simp
 have k21:W7.cell? ⟨b2,1,none⟩=some (.int .i64 cs2):=by rw [hWB,←hb2];go_simp
 have k22:W7.cell? ⟨b2,2,none⟩=some (.int .i64 cd2):=by rw [hWB,←hb2];go_simp
 have k23:W7.cell? ⟨b2,3,none⟩=some (.int .i64 (er2:Nat)):=by rw [hWB,←hb2];go_simp
 try rw [hb2]
 have hbl2:w6.heap.size≤b2:=by rw [←hb2];exact hbA.size
 have hAB:=bel_trans hbA hbB;have HB7:=Lib.hid (bel_trans HB6.out hAB);replace hA2:=Lib.hid hA2;replace hI2:=Lib.hid (hI2.below hbB);replace hf2:=Lib.hid hf2;clear hWB hb2 hbA hbB cA;replace k10:=bel_cell hAB k10;replace k11:=bel_cell hAB k11;replace k12:=bel_cell hAB k12;replace k13:=bel_cell hAB k13;have HI7:=Lib.hid (HI6.out.below hAB);have HR7:=Lib.hid (HR6.out.below hAB HR6.out.lt);have hlq:q<b2:=Nat.lt_of_lt_of_le HR6.out.lt hbl2
 have hl12:b1≠q:=by have:=HR4';omega
 clear hAB HI6 HR6 HS6
 have cR:=Lib.hid (rSet_ed W7 q g v c true HR7.out hc (by have:=HQ.out;omega))
 go_wp2_with fail;refine cR.out.mono ?_;rintro e w8 ⟨rfl,hR8,hk8⟩
 obtain ⟨v8,hv8⟩:∃z,v+((if g.b c=true then 0 else 1:Nat):Int)=z:=⟨_,rfl⟩
 rw [hv8] at hR8
 have hb2q:b2≠q:=by omega
 replace k10:=keptc hk8 (p:=⟨b1,0,none⟩) (by simp;omega) k10
 replace k11:=keptc hk8 (p:=⟨b1,1,none⟩) (by simp;omega) k11
 replace k12:=keptc hk8 (p:=⟨b1,2,none⟩) (by simp;omega) k12
 replace k13:=keptc hk8 (p:=⟨b1,3,none⟩) (by simp;omega) k13
 replace k20:=keptc hk8 (p:=⟨b2,0,none⟩) (by simp;omega) k20
 replace k21:=keptc hk8 (p:=⟨b2,1,none⟩) (by simp;omega) k21
 replace k22:=keptc hk8 (p:=⟨b2,2,none⟩) (by simp;omega) k22
 replace k23:=keptc hk8 (p:=⟨b2,3,none⟩) (by simp;omega) k23
 have HI8:=Lib.hid (HI7.out.kept0 hk8 (fun _ ad e=>by have:=hf1.out ad e;simp;omega))
 have HJ8:=Lib.hid (hI2.out.kept0 hk8 (fun _ ad e=>by have:=hf2.out ad e;simp;omega))
 have HB8:Below W0.heap.size W0 w8:=Kept.below HB7.out hk8 HB7.out.size (fun i hi=>by simp at hi;have:=HQ.out.2.2.2;omega)
 replace HB8:=Lib.hid HB8;have HR8:=Lib.hid hR8;clear hk8 hR8 hv8 cR HR7 HI7 hI2 HB7
 go_upto_region 12 with (fail)
 refine wp_name ?_;intro W9 hW9
 have h89:Below w8.heap.size w8 W9:=by rw [hW9];(repeat' (first | exact Below.refl _ _ | assumption | apply bel_drewN | apply bel_drew | apply bel_alloc | (refine bel_trans ?_ (by assumption))))
 obtain ⟨bx,hbx⟩:∃z,w8.heap.size=z:=⟨_,rfl⟩
 have kx:W9.cell? ⟨bx,0,none⟩=some (.pointer (some ⟨q,0,none⟩)):=by rw [hW9,←hbx];go_simp
 try rw [hbx]
 replace k10:=bel_cell h89 k10;replace k11:=bel_cell h89 k11;replace k12:=bel_cell h89 k12;replace k13:=bel_cell h89 k13;replace k20:=bel_cell h89 k20;replace k21:=bel_cell h89 k21;replace k22:=bel_cell h89 k22;replace k23:=bel_cell h89 k23;have HI9:=Lib.hid (HI8.out.below h89);have HJ9:=Lib.hid (HJ8.out.below h89);have HR9:=Lib.hid (HR8.out.below h89 HR8.out.lt);have HB9:=Lib.hid (bel_trans HB8.out h89)
 clear hW9 h89 hbx HI8 HJ8 HR8 HB8;have hA2':AskIs (gset g c true) x y Wy2 ⟨cs2,cd2⟩ er2:=(HLd.out.2.gset c true).ask hA2.out;have cT:=Lib.hid (rRight W9 bx q (gset g c true) v8 kx HR9.out x y Aw2 Wy2.length mw2 Wy2 rfl cs2 cd2 er2 hA2' HJ9.out);have HA2:=Lib.hid hA2';clear kx hA2' hA2;go_wp2_with fail;refine cT.out.mono ?_;rintro e w10 ⟨rfl,hb10⟩;replace k10:=bel_cell hb10 k10;replace k11:=bel_cell hb10 k11
 replace k12:=bel_cell hb10 k12;replace k13:=bel_cell hb10 k13;replace k21:=bel_cell hb10 k21;replace k22:=bel_cell hb10 k22;have HI10:=Lib.hid (HI9.out.below hb10);have HR10:=Lib.hid (HR9.out.below hb10 HR9.out.lt);have HB10:=Lib.hid (bel_trans HB9.out hb10);clear hb10 cT HI9 HJ9 HR9 HB9 k20 k23;go_wp2_with fail
 have hn1b:n1≤1025:=by
  by_cases h:er1=0
  ·have:=(hA1.out.len (by have:=Hok.out;obtain ⟨e1,e2,_⟩:=HLd.out.2;unfold G.ok;rw [e1,e2];exact this) h).1;have:=Hn1.out;omega
  ·have:=(hA1.out.zero h).1;have e:=Hn1.out;rw [this] at e;simp at e;omega
 go_loopw [19] (fun iv wr=>∃(k:Nat),k≤n1∧iv=.int .i64 (k:Nat)∧Below w10.heap.size w10 wr) (fun iv _=>n1-(intOf iv).toNat)
 case atStart=>exact ⟨0,Nat.zero_le _,rfl,Below.refl _ _⟩
 case round=>
  obtain ⟨k,hk,rfl,hB⟩:=hrel;have HBr:=Lib.hid (bel_trans HB10.out hB);have HBw:=Lib.hid hB;replace k10:=bel_cell hB k10
  by_cases hlt:k<n1
  ·obtain ⟨u,hu⟩:∃u,Wy1[k]? = some u:=⟨_,List.getElem?_eq_getElem (by have:=Hn1.out;omega)⟩
   obtain ⟨ad,hAd,_,hcc⟩:=(HI10.out.below hB) (by omega)
   have hcz:=hcc k hlt;simp only [natI_getD hu] at hcz
   have hix:=fun wx=>idx_run (A:=Aw1) (m:=mw1) hAd hlt wx
   clear hB hcc hAd hu
   by_cases hu2:u=c
   ·have d3:(((u:Nat):Int) == ((c:Nat):Int))=true:=by simp;omega
    go_wp2;go_ret;exact ⟨rfl,HBr.out⟩
   ·have d3:(((u:Nat):Int) == ((c:Nat):Int))=false:=by simp;omega
    go_wp2;go_roundw
    case rel=>exact ⟨k+1,by omega,by go_num,HBw.out⟩
    case measure=>simp [intOf];omega
  ·obtain rfl:n1=k:=by omega
   have cW:=Lib.hid (rWalk wr q (gset g c true) v8 Aw1 n1 mw1 _ (HR10.out.below hB HR10.out.lt) (HI10.out.below hB) (by omega))
   replace k11:=bel_cell hB k11;replace k12:=bel_cell hB k12;replace k13:=bel_cell hB k13;replace k21:=bel_cell hB k21;replace k22:=bel_cell hB k22
   obtain ⟨⟨ws,wd⟩,hwc⟩:∃z,((gset g c true).wout (fun i=>(natI Wy1).getD i 0) n1).1=z:=⟨_,rfl⟩
   obtain ⟨wf,hwf⟩:∃z,((gset g c true).wout (fun i=>(natI Wy1).getD i 0) n1).2=z:=⟨_,rfl⟩
   have hpair:(gset g c true).wout (fun i=>(natI Wy1).getD i 0) n1=(⟨ws,wd⟩,wf):=Prod.ext hwc hwf
   rw [hpair] at cW;have Hwf:=Lib.hid hwf;clear hwc hwf hpair hB;go_wp2_with fail;refine cW.out.mono ?_;rintro e w11 ⟨he,hb11⟩;obtain rfl:e=.returned (.tuple #[.agg #[.int .i64 ws,.int .i64 wd],.int .i64 (wf:Nat)]):=he;replace k11:=bel_cell hb11 k11;replace k12:=bel_cell hb11 k12;replace k13:=bel_cell hb11 k13;replace k21:=bel_cell hb11 k21;replace k22:=bel_cell hb11 k22;have HB11:=Lib.hid (bel_trans HBr.out hb11)
   clear hb11 cW k10
   go_upto_region 21 with (fail)
   refine wp_name ?_;intro W12 hW12
   have hbC:Below w11.heap.size w11 W12:=by rw [hW12];(repeat' (first | exact Below.refl _ _ | assumption | apply bel_drewN | apply bel_drew | apply bel_alloc | (refine bel_trans ?_ (by assumption))))
   replace k11:=bel_cell hbC k11;replace k12:=bel_cell hbC k12;replace k13:=bel_cell hbC k13;replace k21:=bel_cell hbC k21;replace k22:=bel_cell hbC k22;have HB12:=Lib.hid (bel_trans HB11.out hbC);clear hW12 hbC HB11 HBr
   by_cases h1:er1=0
   case neg=>
    obtain ⟨fz,hfz⟩:∃z:Int,((er1:Nat):Int)=z:=⟨_,rfl⟩;rw [hfz] at k13
    have hu2:(fz != 0)=true:=by simp;omega
    have hu3:¬fz=0:=by omega
    clear hfz h1;go_wp2_with fail;go_ret;exact ⟨rfl,HB12.out⟩
   subst h1
   by_cases h2:wf=0
   case neg=>
    obtain ⟨fz,hfz⟩:∃z:Int,((wf:Nat):Int)=z:=⟨_,rfl⟩;rw [hfz]
    have hu2:decide (0<fz)=true:=by simp;omega
    clear hfz h2;go_wp2_with fail;go_ret;exact ⟨rfl,HB12.out⟩
   subst h2
   obtain ⟨hce,he2⟩:=(gset_more (g:=g) c).detour Hok.out (gset_fault Hzz.out.1) (gset_fault Hzz.out.2) (HLd.out.2.ask hA1.out) HA2.out (by rw [Hn1.out];exact Hwf.out)
   cases hce;subst he2
   have cS:=Lib.hid (fun w=>sameAns_nil w cs1 cd1)
   go_wp2_with fail;refine (cS.out _).mono ?_;rintro e w13 ⟨rfl,hb13⟩;have HF:=bel_trans HB12.out hb13;go_wp2_with fail;go_ret;exact ⟨rfl,HF⟩
end Go.Proofs.YtkdndoefgnfbnaaGreatDoor
