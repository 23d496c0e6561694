/- Lemmas of this claim: TopLook. -/
import Derived.Test.YtkdndoefgnfbnaaGreatDoorKNavB50
import Derived.Test.YtkdndoefgnfbnaaGreatDoorKNavB48
import Derived.Test.YtkdndoefgnfbnaaGreatDoorNav5
import Derived.Test.YtkdndoefgnfbnaaGreatDoorKNavB5
set_option linter.unusedVariables false
set_option linter.unusedSimpArgs false
/- The law TopLook: for any plot, so many levels at most, a cell and a direction, it returns true. -/
namespace Go.Proofs.YtkdndoefgnfbnaaGreatDoor
open Go.RowKit Go.Sort FR Go.Lib
theorem SameG.clr {g2 g:G} (h:SameG g2 g) (d:Nat):∀(n:Nat) (x y:Int),G.clrN g2 d n x y=G.clrN g d n x y
 | 0,_,_=>rfl
 | n+1,x,y=>by
  have hm:g2.may x y d=g.may x y d:=by unfold G.may;rw [h.op]
  unfold G.clrN
  rw [hm,SameG.clr h d n]
theorem SameG.clrC {g2 g:G} (h:SameG g2 g) (c d:Nat):clrC g2 c d=clrC g c d:=by
 unfold Go.Proofs.YtkdndoefgnfbnaaGreatDoor.clrC G.clr G.X G.Y
 rw [h.clr,h.1]
set_option maxRecDepth 100000 in
set_option maxHeartbeats 6400000 in
theorem topLook (W0 : World) (hV : LibS W0) (a b : Int) (A0 : Option Addr) (n0 m0 : Nat) (f0 : Nat → Int) (h0 : SlI W0 A0 n0 f0) (mx : Int) (hmx : -9223372036854775808 ≤ mx ∧ mx ≤ 9223372036854775807)
    (x:Int) (hx:-9223372036854775808≤x∧x≤9223372036854775807) (y:Int) (hy:-9223372036854775808≤y∧y≤9223372036854775807) :
    Calls Tryz.prog 5 #[.agg #[.int .i64 a,.int .i64 b,.slice A0 n0 m0],.int .i64 mx,.int .i64 x,.int .i64 y] W0 fun e w'=>e=.returned (.bool true)∧Below W0.heap.size W0 w':=by
 clear hmx hx hy
 obtain ⟨hI0,hl0,_⟩:=h0
 replace hl0:=Lib.hid hl0
 replace hV:=Lib.hid hV
 go_enter Tryz.func5,Tryz.ntmps5
 go_upto_region 1 with (fail)
 refine wp_name ?_
 intro W hW
 have HW:Below W0.heap.size W0 W:=by rw [hW];(repeat' (first | exact Below.refl _ _ | assumption | apply bel_drewN | apply bel_drew | apply bel_alloc | (refine bel_trans ?_ (by assumption))))
 have c0:W.cell? ⟨W0.heap.size,0,none⟩=some (.int .i64 a):=by rw [hW];go_simp
 have c1:W.cell? ⟨W0.heap.size,1,none⟩=some (.int .i64 b):=by rw [hW];go_simp
 have c2:W.cell? ⟨W0.heap.size,2,none⟩=some (.slice A0 n0 m0):=by rw [hW];go_simp
 clear hW
 go_wp2_with fail
 refine (works_true _).mono ?_
 rintro e w1 ⟨rfl,hb1⟩
 have HB1:=bel_trans HW hb1
 replace c0:=bel_cell hb1 c0
 replace c1:=bel_cell hb1 c1
 replace c2:=bel_cell hb1 c2
 have cS:=Lib.hid (serve_any w1 (hV.out.below HB1) a b A0 n0 m0 f0 (hI0.below HB1) hl0.out mx)
 clear HW hb1
 go_wp2_with fail
 refine cS.out.mono ?_
 rintro e w2 ⟨hb2,(⟨u1,u2,rfl⟩ | ⟨s,q,g,g2,v,m,rfl,hld,hq,hF,rfl⟩)⟩
 ·have HB2:=bel_trans HB1 hb2
  go_wp2_with fail
  go_ret
  exact ⟨rfl,HB2⟩
 have HB2:=Lib.hid (bel_trans HB1 hb2)
 have hw12:=HB1.size
 have hq0:W0.heap.size≤q:=by have:=hq.2.2.2.2;omega
 have HLd:=Lib.hid hld
 have HR:=Lib.hid hq.1
 have HQ:=Lib.hid (And.intro hq.2.1 (And.intro hq.2.2.1 (And.intro hq.2.2.2.1 hq0)))
 have hV2:=Lib.hid (hV.out.below HB2.out)
 obtain ⟨v2,hv2⟩:∃z,((cntB g.b g.n:Nat):Int)=z:=⟨_,rfl⟩
 rw [hv2] at hF
 have Hok:=Lib.hid HR.out.1
 have HS:=Lib.hid hF.serv
 have HF:=Lib.hid hF
 have Hv2:=Lib.hid hv2
 clear c0 c1 c2 cS hb2 HB1 hld hq hF hv2 hw12 hq0 hV
 have hgn:=G.n_le Hok.out
 have hn2:=HLd.out.2.n
 by_cases hin:(0≤x∧x<(g.n:Nat))∧0≤y∧y≤7
 case neg=>
  have cL:=Lib.hid (navLook_bad w2 s g2 v2 m HS.out x y (by rw [hn2];omega))
  go_wp2_with fail
  refine cL.out.mono ?_
  rintro e w3 ⟨rfl,hb3⟩
  have HB3:=Lib.hid (bel_trans HB2.out hb3)
  have HR3:=Lib.hid (HR.out.below hb3 HR.out.lt)
  clear cL hb3
  by_cases hx1:0≤x∧x<(g.n:Nat)
  ·obtain ⟨c,rfl⟩:=Int.eq_ofNat_of_zero_le hx1.1
   have cI:=Lib.hid (rIs_in w3 q g v c HR3.out (by omega))
   go_wp2_with fail
   refine cI.out.mono ?_
   rintro e w4 ⟨rfl,hb4⟩
   have HB4:=bel_trans HB3.out hb4
   by_cases hy0:y<0
   ·have d1:decide (y<0)=true:=by simp;omega
    go_wp2_with fail
    go_ret
    exact ⟨rfl,HB4⟩
   ·have d1:decide (y<0)=false:=by simp;omega
    have d2:decide (7<y)=true:=by simp;omega
    go_wp2_with fail
    go_ret
    exact ⟨rfl,HB4⟩
  ·have cI:=Lib.hid (rIs_out w3 q g v x HR3.out (by omega))
   go_wp2_with fail
   refine cI.out.mono ?_
   rintro e w4 ⟨rfl,hb4⟩
   have HB4:=bel_trans HB3.out hb4
   go_wp2_with fail
   go_ret
   exact ⟨rfl,HB4⟩
 obtain ⟨c,rfl⟩:=Int.eq_ofNat_of_zero_le hin.1.1
 obtain ⟨d,rfl⟩:=Int.eq_ofNat_of_zero_le hin.2.1
 have hc:c<g.n:=by omega
 have hd:d<8:=by omega
 clear hin
 have cL:=navLook_in w2 s g2 v2 m HS.out c d (by rw [hn2];exact hc) hd
 rw [HLd.out.2.clrC] at cL
 obtain ⟨nn,hnn⟩:∃z,G.clr g d (g.X c:Nat) (g.Y c:Nat)=z:=⟨_,rfl⟩
 unfold clrC at cL
 rw [hnn] at cL
 have hnn15:nn≤15:=by rw [←hnn];exact clr_small Hok.out d _ _
 replace cL:=Lib.hid cL
 replace hnn:=Lib.hid hnn
 clear hn2
 go_wp2_with fail
 refine cL.out.mono ?_
 rintro e w3 ⟨rfl,hb3⟩
 have HB3:=Lib.hid (bel_trans HB2.out hb3)
 have HR3:=Lib.hid (HR.out.below hb3 HR.out.lt)
 have HS3:=Lib.hid (HS.out.below hb3)
 clear cL hb3
 go_wp2_with fail
 go_loopw [14,15] (fun av iv wr=>∃(k z:Nat),k≤nn∧iv=.int .i64 ((k+1:Nat):Int)∧av=.int .i64 (z:Nat)∧LookZ g c d k z∧Below w3.heap.size w3 wr) (fun _ iv _=>nn+1-(intOf iv).toNat)
 case atStart=>exact ⟨0,c,Nat.zero_le _,rfl,rfl,.start hc,Below.refl _ _⟩
 case round=>
  obtain ⟨k,z,hk,rfl,rfl,hZ,hB⟩:=hrel
  have HBr:=Lib.hid (bel_trans HB3.out hB)
  have HBw:=Lib.hid hB
  have HRr:=Lib.hid (HR3.out.below hB HR3.out.lt)
  have HSr:=Lib.hid (HS3.out.below hB)
  by_cases hlt:k<nn
  ·obtain ⟨hto,hZ2⟩:=hZ.next Hok.out hc hd (by rw [hnn.out];exact hlt)
   obtain ⟨z2,hz2⟩:∃q,g.to z d=q:=⟨_,rfl⟩
   rw [hz2] at hto hZ2
   have cT:=Lib.hid (rTo_eq wr q g v z d _ HRr.out hZ.lt hd hto)
   have HZ2:=Lib.hid hZ2
   clear hB hZ hZ2 hto hz2
   go_wp2_with fail
   refine cT.out.mono ?_
   rintro e w4 ⟨rfl,hb4⟩
   have HS4:=HSr.out.below hb4
   have HB4:=Lib.hid (bel_trans HBr.out hb4)
   replace HBw:=Lib.hid (bel_trans HBw.out hb4)
   have HS0:=HS
   replace HS:=Lib.hid HS4
   clear cT hb4 HS4
   have cA:=Lib.hid (navAsk w4 s g2 v2 m HS.out ((c:Nat):Int) ((z2:Nat):Int))
   go_wp2_with fail
   refine cA.out.mono ?_
   rintro e w5 ⟨Wy1,⟨cs1,cd1⟩,er1,Aw1,mw1,hA1,rfl,hI1,hf1,hbA⟩
   go_upto_region 16 with (fail)
   refine wp_name ?_
   intro W5 hWB
   obtain ⟨b1,hb1⟩:∃z,w5.heap.size=z:=⟨_,rfl⟩
   have hbB:Below w5.heap.size w5 W5:=by rw [hWB];(repeat' (first | exact Below.refl _ _ | assumption | apply bel_drewN | apply bel_drew | apply bel_alloc | (refine bel_trans ?_ (by assumption))))
   have k10:W5.cell? ⟨b1,0,none⟩=some (.slice Aw1 Wy1.length mw1):=by rw [hWB,←hb1];go_simp
   have k11:W5.cell? ⟨b1,1,none⟩=some (.int .i64 cs1):=by rw [hWB,←hb1];go_simp
   have k12:W5.cell? ⟨b1,2,none⟩=some (.int .i64 cd1):=by rw [hWB,←hb1];go_simp
   have k13:W5.cell? ⟨b1,3,none⟩=some (.int .i64 (er1:Nat)):=by rw [hWB,←hb1];go_simp
   rw [hb1]
   have hAB:=bel_trans hbA hbB
   have HB5:=Lib.hid (bel_trans HB4.out hAB)
   replace HS:=Lib.hid (HS.out.below hAB)
   replace hA1:=Lib.hid hA1
   replace hI1:=Lib.hid (hI1.below hbB)
   replace hf1:=Lib.hid hf1
   clear hWB hb1 hbA hbB cA
   obtain ⟨rfl,hcc⟩:=HZ2.out.ask Hok.out hc hd (by omega) (HLd.out.2.ask hA1.out)
   have HBw5:=Lib.hid (bel_trans HBw.out hAB)
   have HZ2':=HZ2
   have l5:b1<W5.heap.size:=World.block_lt_of_cell? (a:=⟨b1,1,none⟩) W5 k11
   clear hAB hA1 hI1 hf1 k10 HS HS0 HBr HRr HSr
   go_upto_region 17 with (fail)
   refine wp_name ?_
   intro W6 hW6
   have h56:Below W5.heap.size W5 W6:=by rw [hW6];(repeat' (first | exact Below.refl _ _ | assumption | apply bel_drewN | apply bel_drew | apply bel_alloc | (refine bel_trans ?_ (by assumption))))
   obtain ⟨b6,hb6⟩:∃z,W5.heap.size=z:=⟨_,rfl⟩
   have c60:W6.cell? ⟨b6,0,none⟩=some (.int .i64 ((k:Int)+1)):=by rw [hW6,←hb6];go_simp
   have c61:W6.cell? ⟨b6,1,none⟩=some (.int .i64 0):=by rw [hW6,←hb6];go_simp
   have f60:W6.frozen? ⟨b6,0,none⟩=false:=by rw [hW6,←hb6];go_simp
   have f61:W6.frozen? ⟨b6,1,none⟩=false:=by rw [hW6,←hb6];go_simp
   replace k11:=bel_cell h56 k11
   replace k12:=bel_cell h56 k12
   replace k13:=bel_cell h56 k13
   have HB6:=Lib.hid (bel_trans HBw5.out h56)
   have hb6w0:w3.heap.size≤b6:=by rw [←hb6];exact HBw5.out.size
   have l5:b1<b6:=by rw [←hb6];exact l5
   try rw [hb6]
   clear hW6 h56 hb6 HBw5 HBw
   by_cases hp:d % 2=1
   ·have e2:(((d:Nat):Int) % 2 == 1)=true:=by simp;omega
    unfold kC at hcc
    rw [if_pos hp] at hcc
    injection hcc with ea eb
    have eb':cd1=(k:Int)+1:=by rw [eb];simp
    subst ea
    subst eb'
    clear eb
    go_upto_region 19 with (fail)
    refine wp_name ?_
    intro W7 hW7
    obtain ⟨y0,y1⟩:W7.cell? ⟨b6,0,none⟩=some (.int .i64 0)∧W7.cell? ⟨b6,1,none⟩=some (.int .i64 ((k:Int)+1)):=by rw [hW7];exact set_two c60 c61
    have hK7:Kept [b6] W6 W7:=by rw [hW7];exact ((Kept.refl [b6] W6).setCell (p:=⟨b6,0,none⟩) (.inl (by simp))).setCell (p:=⟨b6,1,none⟩) (.inl (by simp))
    have hb6w:w3.heap.size≤b6:=hb6w0
    have hb7:Below w3.heap.size w3 W7:=Kept.below HB6.out hK7 HB6.out.size (by simp;omega)
    have k11:=keptc hK7 (p:=⟨b1,1,none⟩) (by simp;omega) k11
    have k12:=keptc hK7 (p:=⟨b1,2,none⟩) (by simp;omega) k12
    have k13:=keptc hK7 (p:=⟨b1,3,none⟩) (by simp;omega) k13
    have HF:=Lib.hid (And.intro HZ2'.out hb7)
    clear hW7 hK7 c60 c61 f60 f61 e2 HB6 hb7
    go_wp2
    go_roundw
    case rel=>first | exact ⟨k+1,z2,by omega,by go_num,rfl,HF.out.1,HF.out.2⟩ | ((repeat apply Exists.intro);exact ⟨⟨k+1,z2,by omega,by go_num,rfl,HF.out.1,HF.out.2⟩,rfl⟩)
    case measure=>simp [intOf];omega
   ·have e2:(((d:Nat):Int) % 2 == 1)=false:=by simp;omega
    unfold kC at hcc
    rw [if_neg hp] at hcc
    injection hcc with ea eb
    have ea':cs1=(k:Int)+1:=by rw [ea];simp
    subst eb
    subst ea'
    clear f60 f61 ea
    have HF:=Lib.hid (And.intro HZ2'.out HB6.out)
    go_wp2
    go_roundw
    case rel=>first | exact ⟨k+1,z2,by omega,by go_num,rfl,HF.out.1,HF.out.2⟩ | ((repeat apply Exists.intro);exact ⟨⟨k+1,z2,by omega,by go_num,rfl,HF.out.1,HF.out.2⟩,rfl⟩)
    case measure=>simp [intOf];omega
  ·obtain rfl:nn=k:=by omega
   have hfin:g.mayC z d=false:=by
    have h2:=hZ
    rw [←hnn.out] at h2
    exact h2.fin Hok.out
   have hzl:=hZ.lt
   have hin:=inPG Hok.out hzl
   have eX:(z:Int) % g.w=(g.X z:Nat):=by unfold G.X;simp
   have eY:(z:Int) / g.w=(g.Y z:Nat):=by unfold G.Y;simp
   have hY16:=G.Y_lt hzl
   obtain ⟨o1,o2,o3,o4⟩:=Hok.out
   have y1:0≤(z:Int) / g.w:=by omega
   have y2:(z:Int) / g.w≤256:=by omega
   have hf:=Lib.hid (And.intro eX eY)
   have hR8:=HRr.out
   have s1:=hR8.size.1
   have s2:=cell_regrown s1
   have HRe:=Below.refl wr.heap.size wr
   clear eX eY hZ hB hY16
   go_wp2_with fail
   refine wp_region_quiet_below (by kernel_rfl) (by kernel_rfl) ?_
   repeat (first | go_big_quiet_step ((with_reducible exact Calls.regrown_of (rMay_eq _ q g v z d _ _ (hR8.below (below_regrown wr _ _) hR8.lt) hd hin hf.out.1 hf.out.2))) | quiet_step ((with_reducible exact Calls.regrown_of (rMay_eq _ q g v z d _ _ (hR8.below (below_regrown wr _ _) hR8.lt) hd hin hf.out.1 hf.out.2))))
   refine wpQuiet_nil ?_
   intro _ hw'
   obtain ⟨⟨dq,osq⟩,hw''⟩:=hw'
   have HR9:=bel_trans HRe (below_regrown wr dq osq)
   have hb2:=below_regrown wr dq osq
   subst hw''
   generalize grow (redrawn wr dq) osq=w9 at HR9 hb2 ⊢
   have HF:=Lib.hid (bel_trans HBr.out HR9)
   clear s1 s2 y1 y2 hb2 hR8
   go_wp2_with fail
   go_ret
   exact ⟨rfl,HF.out⟩
end Go.Proofs.YtkdndoefgnfbnaaGreatDoor
