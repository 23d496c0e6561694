/- Lemmas of this claim: TopParts. -/
import Derived.Test.YtkdndoefgnfbnaaGreatDoorKNavA49
import Derived.Test.YtkdndoefgnfbnaaGreatDoorKNavA39
set_option linter.unusedVariables false
set_option linter.unusedSimpArgs false
/- The law TopParts: for any plot, so many levels at most, and any two cells, it returns true. -/
namespace Go.Proofs.YtkdndoefgnfbnaaGreatDoor
open Go.RowKit Go.Sort FR Go.Lib
set_option maxRecDepth 100000 in
set_option maxHeartbeats 6400000 in
theorem topParts (W0 : World) (hV : LibS W0) (a b : Int) (A0 : Option Addr) (n0 m0 : Nat) (f0 : Nat → Int) (h0 : SlI W0 A0 n0 f0) (mx : Int) (hmx : -9223372036854775808 ≤ mx ∧ mx ≤ 9223372036854775807)
    (x:Int) (hx:-9223372036854775808≤x∧x≤9223372036854775807) (y:Int) (hy:-9223372036854775808≤y∧y≤9223372036854775807) :
    Calls Tryz.prog 4 #[.agg #[.int .i64 a,.int .i64 b,.slice A0 n0 m0],.int .i64 mx,.int .i64 x,.int .i64 y] W0 fun e w'=>e=.returned (.bool true)∧Below W0.heap.size W0 w':=by
 obtain ⟨hI0,hl0,_⟩:=h0
 replace hl0:=Lib.hid hl0
 replace hV:=Lib.hid hV
 clear hmx hx hy
 go_enter Tryz.func4,Tryz.ntmps4
 go_upto_region 1 with (fail)
 refine wp_name ?_
 intro W hW
 have HW:Below W0.heap.size W0 W:=by rw [hW];(repeat' (first | exact Below.refl _ _ | assumption | apply bel_drewN | apply bel_drew | apply bel_alloc | (refine bel_trans ?_ (by assumption))))
 have c0:W.cell? ⟨W0.heap.size,0,none⟩=some (.int .i64 a):=by rw [hW];go_simp
 have c1:W.cell? ⟨W0.heap.size,1,none⟩=some (.int .i64 b):=by rw [hW];go_simp
 have c2:W.cell? ⟨W0.heap.size,2,none⟩=some (.slice A0 n0 m0):=by rw [hW];go_simp
 clear hW
 go_wp2_with fail
 refine (works_true _).mono ?_
 rintro e w1 ⟨rfl,hb1⟩
 have HB1:=bel_trans HW hb1
 replace c0:=bel_cell hb1 c0
 replace c1:=bel_cell hb1 c1
 replace c2:=bel_cell hb1 c2
 have cS:=Lib.hid (serve_any w1 (hV.out.below HB1) a b A0 n0 m0 f0 (hI0.below HB1) hl0.out mx)
 clear HW hb1
 go_wp2_with fail
 refine cS.out.mono ?_
 rintro e w2 ⟨hb2,(⟨u1,u2,rfl⟩ | ⟨s,q,g,g2,v,m,rfl,_,_,hF,rfl⟩)⟩
 ·have HB2:=bel_trans HB1 hb2
  go_wp2_with fail
  go_ret
  exact ⟨rfl,HB2⟩
 have HB2:=Lib.hid (bel_trans HB1 hb2)
 have hS:=hF.serv
 have hok:g2.ok:=hS.ok
 obtain ⟨v2,hv2⟩:∃z,((cntB g.b g.n:Nat):Int)=z:=⟨_,rfl⟩
 rw [hv2] at hS
 replace hok:=Lib.hid hok
 have HS:=Lib.hid hS
 clear c0 c1 c2 cS hb2 HB1 hS hF hv2
 have cA:=Lib.hid (navAsk w2 s g2 v2 m HS.out x y)
 go_wp2_with fail
 refine cA.out.mono ?_
 rintro e w3 ⟨Wy1,⟨cs1,cd1⟩,er1,Aw1,mw1,hA1,rfl,hI1,hf1,hbA⟩
 go_upto_region 8 with (fail)
 refine wp_name ?_
 intro W3 hWB
 obtain ⟨b1,hb1⟩:∃z,w3.heap.size=z:=⟨_,rfl⟩
 have hbB:Below w3.heap.size w3 W3:=by rw [hWB];(repeat' (first | exact Below.refl _ _ | assumption | apply bel_drewN | apply bel_drew | apply bel_alloc | (refine bel_trans ?_ (by assumption))))
 have k10:W3.cell? ⟨b1,0,none⟩=some (.slice Aw1 Wy1.length mw1):=by rw [hWB,←hb1];go_simp
 have k11:W3.cell? ⟨b1,1,none⟩=some (.int .i64 cs1):=by rw [hWB,←hb1];go_simp
 have k12:W3.cell? ⟨b1,2,none⟩=some (.int .i64 cd1):=by rw [hWB,←hb1];go_simp
 have k13:W3.cell? ⟨b1,3,none⟩=some (.int .i64 (er1:Nat)):=by rw [hWB,←hb1];go_simp
 rw [hb1]
 have hAB:=bel_trans hbA hbB
 have HB3:=Lib.hid (bel_trans HB2.out hAB)
 replace HS:=Lib.hid (HS.out.below hAB)
 replace hA1:=Lib.hid hA1
 replace hI1:=Lib.hid (hI1.below hbB)
 replace hf1:=Lib.hid hf1
 clear hWB hb1 hbA hbB cA
 clear hAB
 obtain ⟨n1,hn1⟩:∃z,Wy1.length=z:=⟨_,rfl⟩
 rw [hn1] at k10 hI1
 replace hn1:=Lib.hid hn1
 have hn1b:n1≤1025:=by
  by_cases h:er1=0
  ·have:=(hA1.out.len hok.out h).1;have:=hn1.out;omega
  ·have:=(hA1.out.zero h).1;have e:=hn1.out;rw [this] at e;simp at e;omega
 go_wp2_with fail
 go_loopw [13] (fun iv wr=>∃(k:Nat),k≤n1∧iv=.int .i64 (k:Nat)∧Below W3.heap.size W3 wr) (fun iv _=>n1-(intOf iv).toNat)
 case atStart=>exact ⟨0,Nat.zero_le _,rfl,Below.refl _ _⟩
 case round=>
  obtain ⟨k,hk,rfl,hB⟩:=hrel
  replace k10:=bel_cell hB k10
  replace k11:=bel_cell hB k11
  replace k12:=bel_cell hB k12
  replace HS:=Lib.hid (HS.out.below hB)
  replace hI1:=Lib.hid (hI1.out.below hB)
  have HBr:=Lib.hid (bel_trans HB3.out hB)
  have HBw:=Lib.hid hB
  by_cases hlt:k<n1
  ·obtain ⟨z,hz⟩:∃z,Wy1[k]? = some z:=⟨_,List.getElem?_eq_getElem (by have:=hn1.out;omega)⟩
   obtain ⟨ad,hAd,_,hc⟩:=hI1.out (by omega)
   have hcz:=hc k hlt
   simp only [natI_getD hz] at hcz
   have hix:=fun wx=>idx_run (A:=Aw1) (m:=mw1) hAd hlt wx
   replace hz:=Lib.hid hz
   replace hk:=Lib.hid hk
   clear hAd hc hB
   have cA:=Lib.hid (navAsk wr s g2 v2 m HS.out x ((z:Nat):Int))
   go_wp2_with fail
   refine cA.out.mono ?_
   rintro e w5 ⟨Wy3,⟨cs3,cd3⟩,er3,Aw3,mw3,hA3,rfl,hI3,hf3,hbA⟩
   go_upto_region 12 with (fail)
   refine wp_name ?_
   intro W5 hWB
   obtain ⟨b3,hb3⟩:∃z,w5.heap.size=z:=⟨_,rfl⟩
   have hbB:Below w5.heap.size w5 W5:=by rw [hWB];(repeat' (first | exact Below.refl _ _ | assumption | apply bel_drewN | apply bel_drew | apply bel_alloc | (refine bel_trans ?_ (by assumption))))
   have k30:W5.cell? ⟨b3,0,none⟩=some (.slice Aw3 Wy3.length mw3):=by rw [hWB,←hb3];go_simp
   have k31:W5.cell? ⟨b3,1,none⟩=some (.int .i64 cs3):=by rw [hWB,←hb3];go_simp
   have k32:W5.cell? ⟨b3,2,none⟩=some (.int .i64 cd3):=by rw [hWB,←hb3];go_simp
   have k33:W5.cell? ⟨b3,3,none⟩=some (.int .i64 (er3:Nat)):=by rw [hWB,←hb3];go_simp
   rw [hb3]
   have hAB:=bel_trans hbA hbB
   have HB5:=Lib.hid (bel_trans HBr.out hAB)
   replace HS:=Lib.hid (HS.out.below hAB)
   replace hA3:=Lib.hid hA3
   replace hI3:=Lib.hid (hI3.below hbB)
   replace hf3:=Lib.hid hf3
   clear hWB hb3 hbA hbB cA
   replace HBw:=Lib.hid (bel_trans HBw.out hAB)
   replace k10:=bel_cell hAB k10
   replace k11:=bel_cell hAB k11
   replace k12:=bel_cell hAB k12
   replace hcz:=bel_cell hAB hcz
   clear hAB
   have cA:=Lib.hid (navAsk W5 s g2 v2 m HS.out ((z:Nat):Int) y)
   go_wp2_with fail
   refine cA.out.mono ?_
   rintro e w6 ⟨Wy4,⟨cs4,cd4⟩,er4,Aw4,mw4,hA4,rfl,hI4,hf4,hbA⟩
   go_upto_region 13 with (fail)
   refine wp_name ?_
   intro W6 hWB
   obtain ⟨b4,hb4⟩:∃z,w6.heap.size=z:=⟨_,rfl⟩
   have hbB:Below w6.heap.size w6 W6:=by rw [hWB];(repeat' (first | exact Below.refl _ _ | assumption | apply bel_drewN | apply bel_drew | apply bel_alloc | (refine bel_trans ?_ (by assumption))))
   have k40:W6.cell? ⟨b4,0,none⟩=some (.slice Aw4 Wy4.length mw4):=by rw [hWB,←hb4];go_simp
   have k41:W6.cell? ⟨b4,1,none⟩=some (.int .i64 cs4):=by rw [hWB,←hb4];go_simp
   have k42:W6.cell? ⟨b4,2,none⟩=some (.int .i64 cd4):=by rw [hWB,←hb4];go_simp
   have k43:W6.cell? ⟨b4,3,none⟩=some (.int .i64 (er4:Nat)):=by rw [hWB,←hb4];go_simp
   rw [hb4]
   have hAB:=bel_trans hbA hbB
   have HB6:=Lib.hid (bel_trans HB5.out hAB)
   replace HS:=Lib.hid (HS.out.below hAB)
   replace hA4:=Lib.hid hA4
   replace hI4:=Lib.hid (hI4.below hbB)
   replace hf4:=Lib.hid hf4
   clear hWB hb4 hbA hbB cA
   replace HBw:=Lib.hid (bel_trans HBw.out hAB)
   replace k10:=bel_cell hAB k10
   replace k11:=bel_cell hAB k11
   replace k12:=bel_cell hAB k12
   replace k31:=bel_cell hAB k31
   replace k32:=bel_cell hAB k32
   replace k33:=bel_cell hAB k33
   clear hAB hcz hix
   obtain ⟨rfl,rfl,hadd,rfl⟩:=ask_part hok.out hA1.out hz.out hA3.out hA4.out
   obtain ⟨_,_,q1,q2,q3,q4⟩:=hA3.out.len hok.out rfl
   obtain ⟨_,_,r1,r2,r3,r4⟩:=hA4.out.len hok.out rfl
   simp only at q1 q2 q3 q4 r1 r2 r3 r4
   injection hadd with ea eb
   simp only at ea eb
   have cAd:=fun w=>costAdd cs3 cd3 cs4 cd4 w (by unfold inC;omega) (by unfold inC;omega) (by unfold inC;omega) (by unfold inC;omega)
   rw [ea,eb] at cAd
   replace cAd:=Lib.hid cAd
   clear ea eb q1 q2 q3 q4 r1 r2 r3 r4
   go_upto_region 13 with (fail)
   have g11:=cell_regrown k11
   have g12:=cell_regrown k12
   have g31:=cell_regrown k31
   have g32:=cell_regrown k32
   have g33:=cell_regrown k33
   have g41:=cell_regrown k41
   have g42:=cell_regrown k42
   have g43:=cell_regrown k43
   have HR:=Below.refl W6.heap.size W6
   refine wp_region_quiet_below (by kernel_rfl) (by kernel_rfl) ?_
   repeat (first | go_big_quiet_step ((with_reducible exact Calls.regrown_of (cAd.out _))) | quiet_step ((with_reducible exact Calls.regrown_of (cAd.out _))))
   refine wpQuiet_nil ?_
   intro _ hw'
   obtain ⟨⟨dq,osq⟩,hw''⟩:=hw'
   have HR7:=bel_trans HR (below_regrown W6 dq osq)
   have hb2:=below_regrown W6 dq osq
   subst hw''
   generalize grow (redrawn W6 dq) osq=W7 at HR7 hb2 ⊢
   have HF:=Lib.hid (bel_trans HBw.out HR7)
   clear g11 g12 g31 g32 g33 g41 g42 g43 HR HR7 hb2
   go_wp2_with fail
   go_roundw
   case rel=>first | exact ⟨k+1,by omega,by go_num,HF.out⟩ | ((repeat apply Exists.intro);exact ⟨⟨k+1,by omega,by go_num,HF.out⟩,rfl⟩)
   case measure=>simp [intOf];omega
  ·obtain rfl:k=n1:=by omega
   clear hB
   go_wp2_with fail
   go_ret
   exact ⟨rfl,HBr.out⟩
end Go.Proofs.YtkdndoefgnfbnaaGreatDoor
