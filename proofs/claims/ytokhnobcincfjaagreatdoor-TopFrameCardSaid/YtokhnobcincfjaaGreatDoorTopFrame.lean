/- Lemmas of this claim: Nav5, TopFrame. -/
import Derived.Test.YtokhnobcincfjaaGreatDoorNav1
import Derived.Test.YtokhnobcincfjaaGreatDoorRTx2
import Derived.Test.YtokhnobcincfjaaGreatDoorKNFr38
import Derived.Test.YtokhnobcincfjaaGreatDoorBase
import Derived.Test.YtokhnobcincfjaaGreatDoorKNFr4
import Derived.Test.YtokhnobcincfjaaGreatDoorKNFr44
import Derived.Test.YtokhnobcincfjaaGreatDoorKNFr39
import Derived.Lib.MinMax
import Derived.Deep.DeepCutAuto
set_option linter.unusedVariables false
set_option linter.unusedSimpArgs false
set_option maxHeartbeats 6400000
set_option maxRecDepth 100000
namespace Go.Proofs.YtokhnobcincfjaaGreatDoor
open Go.RowKit Go.Sort FR Go.Lib
theorem rSet_ed (w : World) (q : Nat) (g : G) (v : Int) (c : Nat) (t : Bool) (h : RGridAt w q g v) (hc : c < g.n) (hv : 0 ≤ v ∧ v ≤ 1099511627776) :
    Calls Tryz.prog 16 #[.pointer (some ⟨q,0,none⟩),.int .i64 (c:Nat),.bool t] w fun e w'=>
     e=.returned (.tuple #[.bool (g.b c != t),.int .i64 0])∧RGridAt w' q (gset g c t) (v+(if g.b c=t then 0 else 1:Nat))∧Kept [q] w w':=by
 by_cases hs:g.b c=t
 ·subst hs
  refine (rSet_same w q g v c h hc).mono fun e w' ⟨h1,h2⟩=>⟨by simpa using h1,?_,.of_below h2⟩
  rw [gset_self rfl,if_pos rfl]
  simpa using h.below h2 h.lt
 ·have ht:g.b c=!t:=by cases h:g.b c <;> cases t <;> simp_all
  refine (rSet_new w q g v c t h hc ht hv).mono fun e w' ⟨h1,h2,h3⟩=>⟨by rw [ht];simpa using h1,?_,h3⟩
  rw [if_neg hs]
  simpa using h2
theorem topFrame (W0 : World) (hV : LibS W0) (a b : Int) (A0 : Option Addr) (n0 m0 : Nat) (f0 : Nat → Int) (h0 : SlI W0 A0 n0 f0) (mx : Int) (hmx : -9223372036854775808 ≤ mx ∧ mx ≤ 9223372036854775807)
    (x:Int) (hx:-9223372036854775808≤x∧x≤9223372036854775807) (y:Int) (hy:-9223372036854775808≤y∧y≤9223372036854775807) :
    Calls Tryz.prog 4 #[.agg #[.int .i64 a,.int .i64 b,.slice A0 n0 m0],.int .i64 mx,.int .i64 x,.int .i64 y] W0 fun e w'=>e=.returned (.bool true)∧Below W0.heap.size W0 w':=by
 clear hmx hx hy;have hVV:=Lib.hid hV;obtain ⟨hI0,hl0,_⟩:=h0;replace hl0:=Lib.hid hl0;replace hV:=Lib.hid hV;go_enter Tryz.func4,Tryz.ntmps4
 go_upto_region 1 with (fail)
 refine wp_name ?_;intro W hW
 have HW:Below W0.heap.size W0 W:=by rw [hW];(repeat' (first | exact Below.refl _ _ | assumption | apply bel_drewN | apply bel_drew | apply bel_alloc | (refine bel_trans ?_ (by assumption))))
 have c0:W.cell? ⟨W0.heap.size,0,none⟩=some (.int .i64 a):=by rw [hW];go_simp
 have c1:W.cell? ⟨W0.heap.size,1,none⟩=some (.int .i64 b):=by rw [hW];go_simp
 have c2:W.cell? ⟨W0.heap.size,2,none⟩=some (.slice A0 n0 m0):=by rw [hW];go_simp
 clear hW;go_wp2_with fail;refine (works_true _).mono ?_;rintro e w1 ⟨rfl,hb1⟩;have HB1:=bel_trans HW hb1;replace c0:=bel_cell hb1 c0;replace c1:=bel_cell hb1 c1;replace c2:=bel_cell hb1 c2;have cS:=Lib.hid (serve_any w1 (hV.out.below HB1) a b A0 n0 m0 f0 (hI0.below HB1) hl0.out mx);clear HW hb1;go_wp2_with fail;refine cS.out.mono ?_
 rintro e w2 ⟨hb2,(⟨u1,u2,rfl⟩ | ⟨s,q,g,g2,v,m,rfl,hld,hq,hF,rfl⟩)⟩
 ·have HB2:=bel_trans HB1 hb2
  go_wp2_with fail;go_ret;exact ⟨rfl,HB2⟩
 have HB2:=Lib.hid (bel_trans HB1 hb2);have hw12:=HB1.size
 have hq0:W0.heap.size≤q:=by have:=hq.2.2.2.2;omega
 have HLd:=Lib.hid hld;have HR:=Lib.hid hq.1;have HQ:=Lib.hid (And.intro hq.2.1 (And.intro hq.2.2.1 (And.intro hq.2.2.2.1 hq0)));have hV2:=Lib.hid (hV.out.below HB2.out);obtain ⟨v2,hv2⟩:∃z,((cntB g.b g.n:Nat):Int)=z:=⟨_,rfl⟩;rw [hv2] at hF;have Hok:=Lib.hid HR.out.1;have HS:=Lib.hid hF.serv;have HF:=Lib.hid hF;have Hv2:=Lib.hid hv2;clear c0 c1 c2 cS hb2 HB1 hld hq hF hv2 hw12 hq0 hV;have hgn:=G.n_le Hok.out
 obtain ⟨o1,o2,o3,o4⟩:=Hok.out;obtain ⟨kw,kh⟩:=HR.out.size
 by_cases hw:14<g.w
 ·go_wp2_with fail
  go_ret;exact ⟨rfl,HB2.out⟩
 by_cases hh:14<g.h
 ·go_wp2_with fail
  go_ret;exact ⟨rfl,HB2.out⟩
 have dw:decide (14<(g.w:Int))=false:=by simp;omega
 have dh:decide (14<(g.h:Int))=false:=by simp;omega
 by_cases hai:0≤x∧x<(g.n:Nat)
 case neg=>
  have cI:=Lib.hid (rIs_out w2 q g v x HR.out (by omega))
  go_wp2_with fail;refine cI.out.mono ?_;rintro e w3 ⟨rfl,hb3⟩;have HB3:=bel_trans HB2.out hb3;go_wp2_with fail;go_ret;exact ⟨rfl,HB3⟩
 obtain ⟨c,rfl⟩:=Int.eq_ofNat_of_zero_le hai.1
 have hc:c<g.n:=by omega
 have cI:=Lib.hid (rIs_in w2 q g v c HR.out hc);clear hai;go_wp2_with fail;refine cI.out.mono ?_;rintro e w3 ⟨rfl,hb3⟩;have HB3:=Lib.hid (bel_trans HB2.out hb3);have HR3:=Lib.hid (HR.out.below hb3 HR.out.lt);replace HS:=Lib.hid (HS.out.below hb3);clear hb3 cI kw kh;obtain ⟨kw,kh⟩:=HR3.out.size
 by_cases hbi:0≤y∧y<(g.n:Nat)
 case neg=>
  have cI:=Lib.hid (rIs_out w3 q g v y HR3.out (by omega))
  go_wp2_with fail;refine cI.out.mono ?_;rintro e w4 ⟨rfl,hb4⟩;have HB4:=bel_trans HB3.out hb4;go_wp2_with fail;go_ret;exact ⟨rfl,HB4⟩
 obtain ⟨d,rfl⟩:=Int.eq_ofNat_of_zero_le hbi.1
 have hd:d<g.n:=by omega
 have cI:=Lib.hid (rIs_in w3 q g v d HR3.out hd);clear hbi;go_wp2_with fail;refine cI.out.mono ?_;rintro e w4 ⟨rfl,hb4⟩;have HB4:=Lib.hid (bel_trans HB3.out hb4);have HR4:=Lib.hid (HR3.out.below hb4 HR3.out.lt);replace HS:=Lib.hid (HS.out.below hb4);clear hb4 cI kw kh HR3 HB3;obtain ⟨kw,kh⟩:=HR4.out.size
 have cN:=Lib.hid (fun w'=>rNew_ex (((g.w+2:Nat)):Int) (((g.h+2:Nat)):Int) w' (by omega))
 go_wp2_with fail
 have e1:(g.w:Int)+2=((g.w+2:Nat):Int):=by omega
 have e2:(g.h:Int)+2=((g.h+2:Nat):Int):=by omega
 rw [e1,e2];refine (cN.out _).mono ?_;rintro e w5 ⟨p,rfl,hp,hR5,hb5⟩;rw [Int.toNat_natCast,Int.toNat_natCast,frmP_zero] at hR5;have HB5:=Lib.hid (bel_trans HB4.out hb5);have HQ5:=Lib.hid (HR4.out.below hb5 HR4.out.lt)
 have hm16:1≤m∧m≤6:=by
  obtain ⟨_,_,_,_,_,_,_,_,_,_,_,_,_,_,m1,m2,_⟩:=HS.out;exact ⟨m1,m2⟩
 replace hm16:=Lib.hid hm16;obtain ⟨T,hT⟩:=HS.out;have HTl:=Lib.hid hT.lt;have HT5:=Lib.hid (hT.below hb5);clear hT HS
 have hqp:q≠p:=by have:=HR4.out.lt;omega
 have hqs:=hb5.size;have hpl:=hR5.lt;clear cN hb5 kw kh HR4 e1 e2 dw dh;obtain ⟨nw,hnw⟩:∃z,g.w+2=z:=⟨_,rfl⟩
 have hfok:=frm_ok Hok.out (by omega) (by omega)
 have hfn:=G.n_le hfok
 have hfe:(frmG g).n=(g.w+2)*(g.h+2):=by first | rfl | (unfold G.n;rfl) | (unfold G.n;exact Nat.mul_comm _ _)
 have Hfok:=Lib.hid hfok;clear hfok;rw [hnw];go_wp2_with fail
 go_loopw [15] (fun iv wr=>∃(k:Nat) (vv:Int),k≤g.h+2∧iv=.int .i64 (k:Nat)∧RGridAt wr p (frmP g (k*nw)) vv∧0≤vv∧vv≤((k*nw:Nat):Int)∧Kept [p] w5 wr) (fun iv _=>(g.h+2)-(intOf iv).toNat)
 case atStart=>exact ⟨0,0,Nat.zero_le _,rfl,by rw [Nat.zero_mul];exact hR5,by omega,by omega,Kept.refl _ _⟩
 case round=>
  obtain ⟨k,vv,hk,rfl,hRk,hv0,hv1,hK⟩:=hrel
  by_cases hlt:k<g.h+2
  ·have HQk:=Lib.hid (RGridAt.kept HQ5.out hK (by simp [hqp]))
   obtain ⟨kw,kh⟩:=HQk.out.size;replace hK:=Lib.hid hK;replace hRk:=Lib.hid hRk
   have dk:decide ((k:Int)<(g.h:Int)+2)=true:=by simp;omega
   go_wp2_with fail;clear dk;obtain ⟨wo,rfl⟩:∃wo:World,wo=wr:=⟨_,rfl⟩
   go_loopw [16] (fun iv wr=>∃(j:Nat) (vv:Int),j≤nw∧iv=.int .i64 (j:Nat)∧RGridAt wr p (frmP g (k*nw+j)) vv∧0≤vv∧vv≤((k*nw+j:Nat):Int)∧Kept [p] w5 wr) (fun iv _=>nw-(intOf iv).toNat)
   case atStart=>exact ⟨0,vv,Nat.zero_le _,rfl,hRk.out,hv0,hv1,hK.out⟩
   case round=>
    clear HQk kw kh hK hRk hv0 hv1 vv;obtain ⟨j,vv,hj,rfl,hRj,hv0,hv1,hK⟩:=hrel
    by_cases hjl:j<nw
    ·have HQk:=Lib.hid (RGridAt.kept HQ5.out hK (by simp [hqp]))
     obtain ⟨kw,kh⟩:=HQk.out.size
     go_upto_region 15 with (fail)
     go_cut [17] from 84 to 148 (fun sv wx=>∃t:Bool,sv=.bool t∧(t=true↔(0<j∧j≤g.w∧0<k∧k≤g.h))∧wx=wr)
     case first=>
      go_wp2
      all_goals (go_meet;(case rel=>exact ⟨_,rfl,by simp;omega,rfl⟩))
     case rest=>
      obtain ⟨t,rfl,ht,hwc⟩:=hcut;rw [hwc];clear hwc;have Hj:=Lib.hid (And.intro hv0 hv1);have HK:=Lib.hid hK;have HRj:=Lib.hid hRj
      have hkb:k*nw+j<(frmG g).n:=by
       rw [hfe,hnw]
       have:(k+1)*nw≤nw*(g.h+2):=by rw [Nat.mul_comm nw];exact Nat.mul_le_mul_right _ (by omega)
       rw [Nat.add_mul] at this;omega
      have cS0:=rSet_ed wr.drew p (frmP g (k*nw+j)) vv (k*nw+j) ((frmG g).b (k*nw+j)) hRj hkb (by omega)
      rw [frmP_set] at cS0
      obtain ⟨v',hv'⟩:∃z,vv+((if (frmP g (k*nw+j)).b (k*nw+j)=(frmG g).b (k*nw+j) then 0 else 1:Nat):Int)=z:=⟨_,rfl⟩
      rw [hv'] at cS0
      have hvb:0≤v'∧v'≤((k*nw+(j+1):Nat):Int):=by rw [←hv'];split <;> omega
      have Hvb:=Lib.hid hvb
      rw [show ((k*nw+j:Nat):Int)=(k:Int)*nw+j by simp] at cS0
      have m1:0≤(k:Int)*nw:=Int.mul_nonneg (by omega) (by omega)
      have m2:(k:Int)*nw+j≤256:=by
       have:=hkb
       have e:((k*nw+j:Nat):Int)=(k:Int)*nw+j:=by simp
       omega
      have hkn:=hK.size;clear hv' hvb hkb hRj hK hv0 hv1
      have w1:IntKind.i64.wrap ((k:Int)*nw)=(k:Int)*nw:=IntWalk.i64_in _ (by omega)
      have w2:IntKind.i64.wrap ((k:Int)*nw+j)=(k:Int)*nw+j:=IntWalk.i64_in _ (by omega)
      cases t
      ·have hb:=frm_bit_out g (x:=j) (y:=k) (by omega) (fun h=>by simp at ht;omega)
       rw [hnw] at hb;rw [hb] at cS0;replace cS0:=Lib.hid cS0;clear ht hb
       go_upto_region 16 with (fail)
       refine wp_region_any (by kernel_rfl) ?_
       try (change wpAny _ _ _ _ _ _ _ (World.drew _))
       refine wpAny_take (i:=0) (v:=?v0) rfl (by kernel_rfl) (by kernel_rfl) (by kernel_rfl) (fun _ _ _ h=>h) (Or.inl ⟨by rfl,?h0⟩) ?_
       case h0=>(intro w;first | (go_simp;done) | (go_simp;with_reducible rfl))
       refine wpAny_take (i:=1) (v:=?v1) rfl (by kernel_rfl) (by kernel_rfl) (by kernel_rfl) (fun _ _ _ h=>h) (Or.inl ⟨by rfl,?h1⟩) ?_
       case h1=>(intro w;first | (go_simp;done) | (go_simp;with_reducible rfl))
       refine wpAny_take (i:=2) (v:=?v2) rfl (by kernel_rfl) (by kernel_rfl) (by kernel_rfl) (fun _ _ _ h=>h) (Or.inl ⟨by rfl,?h2⟩) ?_
       case h2=>(intro w;first | (go_simp;done) | (go_simp;with_reducible rfl))
       refine wpAny_take (i:=3) (v:=?v3) rfl (by kernel_rfl) (by kernel_rfl) (by kernel_rfl) (fun _ _ _ h=>h) (Or.inl ⟨by rfl,?h3⟩) ?_
       case h3=>(intro w;first | (go_simp;done) | (go_simp;with_reducible rfl))
       refine wpAny_take (i:=4) (v:=?v4) rfl (by kernel_rfl) (by kernel_rfl) (by kernel_rfl) (fun _ _ _ h=>h) (Or.inl ⟨by rfl,?h4⟩) ?_
       case h4=>(intro w;first | (go_simp;done) | (go_simp;with_reducible rfl))
       refine wpAny_take (i:=5) (v:=?v5) rfl (by kernel_rfl) (by kernel_rfl) (by kernel_rfl) (fun _ _ _ h=>h) (Or.inl ⟨by rfl,?h5⟩) ?_
       case h5=>(intro w;first | (go_simp;done) | (go_simp;with_reducible rfl))
       refine wpAny_take (i:=6) (v:=?v6) rfl (by kernel_rfl) (by kernel_rfl) (by kernel_rfl) (fun _ _ _ h=>h) (Or.inl ⟨by rfl,?h6⟩) ?_
       case h6=>(intro w;first | (go_simp;done) | (go_simp;with_reducible rfl))
       refine wpAny_take (i:=7) (v:=?v7) rfl (by kernel_rfl) (by kernel_rfl) (by kernel_rfl) (fun _ _ _ h=>h) (Or.inl ⟨by rfl,?h7⟩) ?_
       case h7=>(intro w;first | (go_simp;done) | (go_simp;with_reducible rfl))
       refine wpAny_take (i:=8) (v:=?v8) rfl (by kernel_rfl) (by kernel_rfl) (by kernel_rfl) (fun _ _ _ h=>h) (Or.inl ⟨by rfl,?h8⟩) ?_
       case h8=>(intro w;first | (go_simp;done) | (go_simp;with_reducible rfl))
       refine wpAny_take (i:=9) (v:=undef) rfl (by kernel_rfl) (by kernel_rfl) (by kernel_rfl) (fun _ _ _ h=>h) (Or.inr ⟨by kernel_rfl,rfl⟩) ?_
       refine wpAny_take (i:=10) (v:=undef) rfl (by kernel_rfl) (by kernel_rfl) (by kernel_rfl) (fun _ _ _ h=>h) (Or.inr ⟨by kernel_rfl,rfl⟩) ?_
       refine wpAny_take (i:=11) (v:=undef) rfl (by kernel_rfl) (by kernel_rfl) (by kernel_rfl) (fun _ _ _ h=>h) (Or.inr ⟨by kernel_rfl,rfl⟩) ?_
       refine wpAny_take (i:=12) (v:=undef) rfl (by kernel_rfl) (by kernel_rfl) (by kernel_rfl) (fun _ _ _ h=>h) (Or.inr ⟨by kernel_rfl,rfl⟩) ?_
       refine wpAny_take (i:=13) (v:=undef) rfl (by kernel_rfl) (by kernel_rfl) (by kernel_rfl) (fun _ _ _ h=>h) (Or.inr ⟨by kernel_rfl,rfl⟩) ?_
       refine wpAny_take (i:=14) (v:=undef) rfl (by kernel_rfl) (by kernel_rfl) (by kernel_rfl) (fun _ _ _ h=>h) (Or.inr ⟨by kernel_rfl,rfl⟩) ?_
       refine wpAny_take (i:=15) (v:=undef) rfl (by kernel_rfl) (by kernel_rfl) (by kernel_rfl) (fun _ _ _ h=>h) (Or.inr ⟨by kernel_rfl,rfl⟩) ?_
       refine wpAny_take (i:=16) (v:=undef) rfl (by kernel_rfl) (by kernel_rfl) (by kernel_rfl) (fun _ _ _ h=>h) (Or.inr ⟨by kernel_rfl,rfl⟩) ?_
       refine wpAny_take (i:=17) (v:=undef) rfl (by kernel_rfl) (by kernel_rfl) (by kernel_rfl) (fun _ _ _ h=>h) (Or.inr ⟨by kernel_rfl,rfl⟩) ?_
       refine wpAny_take (i:=18) (v:=undef) rfl (by kernel_rfl) (by kernel_rfl) (by kernel_rfl) (fun _ _ _ h=>h) (Or.inr ⟨by kernel_rfl,rfl⟩) ?_
       refine wpAny_take (i:=19) (v:=undef) rfl (by kernel_rfl) (by kernel_rfl) (by kernel_rfl) (fun _ _ _ h=>h) (Or.inr ⟨by kernel_rfl,rfl⟩) ?_
       refine wpAny_take (i:=20) (v:=undef) rfl (by kernel_rfl) (by kernel_rfl) (by kernel_rfl) (fun _ _ _ h=>h) (Or.inr ⟨by kernel_rfl,rfl⟩) ?_
       refine wpAny_take (i:=21) (v:=undef) rfl (by kernel_rfl) (by kernel_rfl) (by kernel_rfl) (fun _ _ _ h=>h) (Or.inr ⟨by kernel_rfl,rfl⟩) ?_
       refine wpAny_take (i:=22) (v:=undef) rfl (by kernel_rfl) (by kernel_rfl) (by kernel_rfl) (fun _ _ _ h=>h) (Or.inr ⟨by kernel_rfl,rfl⟩) ?_
       refine wpAny_take (i:=23) (v:=undef) rfl (by kernel_rfl) (by kernel_rfl) (by kernel_rfl) (fun _ _ _ h=>h) (Or.inr ⟨by kernel_rfl,rfl⟩) ?_
       refine wpAny_take (i:=24) (v:=undef) rfl (by kernel_rfl) (by kernel_rfl) (by kernel_rfl) (fun _ _ _ h=>h) (Or.inr ⟨by kernel_rfl,rfl⟩) ?_
       refine wpAny_take (i:=25) (v:=undef) rfl (by kernel_rfl) (by kernel_rfl) (by kernel_rfl) (fun _ _ _ h=>h) (Or.inr ⟨by kernel_rfl,rfl⟩) ?_
       refine wpAny_take (i:=26) (v:=undef) rfl (by kernel_rfl) (by kernel_rfl) (by kernel_rfl) (fun _ _ _ h=>h) (Or.inr ⟨by kernel_rfl,rfl⟩) ?_
       refine wpAny_take (i:=27) (v:=undef) rfl (by kernel_rfl) (by kernel_rfl) (by kernel_rfl) (fun _ _ _ h=>h) (Or.inr ⟨by kernel_rfl,rfl⟩) ?_
       refine wpAny_take (i:=28) (v:=undef) rfl (by kernel_rfl) (by kernel_rfl) (by kernel_rfl) (fun _ _ _ h=>h) (Or.inr ⟨by kernel_rfl,rfl⟩) ?_
       refine wpAny_take (i:=29) (v:=undef) rfl (by kernel_rfl) (by kernel_rfl) (by kernel_rfl) (fun _ _ _ h=>h) (Or.inr ⟨by kernel_rfl,rfl⟩) ?_
       refine wpAny_take (i:=30) (v:=undef) rfl (by kernel_rfl) (by kernel_rfl) (by kernel_rfl) (fun _ _ _ h=>h) (Or.inr ⟨by kernel_rfl,rfl⟩) ?_
       refine wpAny_take (i:=31) (v:=undef) rfl (by kernel_rfl) (by kernel_rfl) (by kernel_rfl) (fun _ _ _ h=>h) (Or.inr ⟨by kernel_rfl,rfl⟩) ?_
       refine wpAny_take (i:=32) (v:=undef) rfl (by kernel_rfl) (by kernel_rfl) (by kernel_rfl) (fun _ _ _ h=>h) (Or.inr ⟨by kernel_rfl,rfl⟩) ?_
       refine wpAny_take (i:=33) (v:=undef) rfl (by kernel_rfl) (by kernel_rfl) (by kernel_rfl) (fun _ _ _ h=>h) (Or.inr ⟨by kernel_rfl,rfl⟩) ?_
       refine wpAny_take (i:=34) (v:=undef) rfl (by kernel_rfl) (by kernel_rfl) (by kernel_rfl) (fun _ _ _ h=>h) (Or.inr ⟨by kernel_rfl,rfl⟩) ?_
       refine wpAny_take (i:=35) (v:=undef) rfl (by kernel_rfl) (by kernel_rfl) (by kernel_rfl) (fun _ _ _ h=>h) (Or.inr ⟨by kernel_rfl,rfl⟩) ?_
       refine wpAny_take (i:=36) (v:=?v36) rfl (by kernel_rfl) (by kernel_rfl) (by kernel_rfl) (fun _ _ _ h=>h) (Or.inl ⟨by rfl,?h36⟩) ?_
       case h36=>(intro w;first | (go_simp;done) | (go_simp;with_reducible rfl))
       refine wpAny_ready (rs:=[37]) (by kernel_rfl) (by simp) ?_
       refine AllReady.cons rfl (fun K hK=>?_) AllReady.nil
       go_simp
       try simp only [w1,w2]
       go_at_call 16
       with_reducible refine (cS0.out).mono ?_
       rintro e w6 ⟨rfl,hR6,hk6⟩;go_wp2_with fail
       try (refine hK _ _ ?_;clear hK K)
       refine wpAny_done (by kernel_rfl) ?_ _
       have hK6:=HK.out.drew.trans hk6;go_wp2_with fail;go_roundw
       case rel=>first | exact ⟨j+1,v',by omega,by go_num,hR6,Hvb.out.1,Hvb.out.2,hK6⟩ | ((repeat apply Exists.intro);exact ⟨⟨j+1,v',by omega,by go_num,hR6,Hvb.out.1,Hvb.out.2,hK6⟩,rfl⟩)
       case measure=>simp [intOf];omega
      ·obtain ⟨j1,j2,j3,j4⟩:=ht.1 rfl
       have hb:=frm_bit_in g (x:=j) (y:=k) j1 j2 j3 j4;rw [hnw] at hb;obtain ⟨cc,hcc⟩:∃z,(k-1)*g.w+(j-1)=z:=⟨_,rfl⟩
       have hccn:cc<g.n:=by
        have:(k-1+1)*g.w≤g.w*g.h:=by rw [Nat.mul_comm g.w];exact Nat.mul_le_mul_right _ (by omega)
        rw [Nat.add_mul] at this;unfold G.n;omega
       have hgn2:(g.w:Int)*g.h=(g.n:Nat):=by unfold G.n;simp
       have hcci:((k:Int)-1)*g.w+j-1=(cc:Nat):=by
        rw [←hcc]
        have e:(((k-1)*g.w:Nat):Int)=((k:Int)-1)*g.w:=by rw [Int.natCast_mul,Int.natCast_sub j3];rfl
        omega
       have q1:=HQk.out.bit cc (by omega)
       rw [hcc] at hb;obtain ⟨bv,hbv⟩:∃z,g.b cc=z:=⟨_,rfl⟩;rw [hbv] at hb q1;rw [hb] at cS0;replace cS0:=Lib.hid cS0
       have p0:0≤((k:Int)-1)*g.w:=Int.mul_nonneg (by omega) (by omega)
       have p1:((k:Int)-1)*g.w≤256:=by omega
       have p2:IntKind.i64.wrap (((k:Int)-1)*g.w)=((k:Int)-1)*g.w:=IntWalk.i64_in _ (by omega)
       have p3:IntKind.i64.wrap ((g.w:Int)*g.h)=(g.n:Nat):=by rw [hgn2];exact IntWalk.i64_in _ (by omega)
       have p5:IntKind.i64.wrap ((k:Int)-1)=(k:Int)-1:=IntWalk.i64_in _ (by omega)
       have p6:IntKind.i64.wrap (((k:Int)-1)*g.w+j)=((k:Int)-1)*g.w+j:=IntWalk.i64_in _ (by omega)
       have p7:IntKind.i64.wrap (((k:Int)-1)*g.w+j-1)=(cc:Nat):=by rw [hcci];exact IntWalk.i64_in _ (by omega)
       have p8:IntKind.i64.wrap (((g.n:Nat):Int)-1)=((g.n:Nat):Int)-1:=IntWalk.i64_in _ (by omega)
       have p4:max 0 (min (IntKind.i64.wrap (IntKind.i64.wrap (IntKind.i64.wrap (IntKind.i64.wrap ((k:Int)-1)*g.w)+j)-1)) (IntKind.i64.wrap (IntKind.i64.wrap ((g.w:Int)*g.h)-1)))=(cc:Nat):=by rw [p5,p2,p6,p7,p3,p8];omega
       clear ht hb hcc hbv hgn2 hcci p0 p1 p2 p3 p5 p6 p7 p8
       go_upto_region 16 with (fail)
       have hcl:(cc:Int)<256:=by omega
       have hcl2:cc<256:=by omega
       have kS:wr.drew.cell? ⟨q,0,none⟩=some (.int .i64 g.w)∧wr.drew.cell? ⟨q,1,none⟩=some (.int .i64 g.h)∧wr.drew.cell? ⟨q,2+cc,none⟩=some (.bool bv):=⟨kw,kh,q1⟩
       refine wp_region_any (by kernel_rfl) ?_
       try (change wpAny _ _ _ _ _ _ _ (World.drew _))
       refine wpAny_of_held (S:=fun w'=>w'.cell? ⟨q,0,none⟩=some (.int .i64 g.w)∧w'.cell? ⟨q,1,none⟩=some (.int .i64 g.h)∧w'.cell? ⟨q,2+cc,none⟩=some (.bool bv)) _ _ _ _ ?_
       refine wpAnyH_take (i:=0) (v:=?v0) rfl (by kernel_rfl) (by kernel_rfl) (by kernel_rfl) (fun _ _ _ h=>h) (Or.inl ⟨by kernel_rfl,?h0⟩) kS ?_
       case h0=>(intro w hS;obtain ⟨s0,s1,s2⟩:=hS;first | (go_simp;done) | (go_simp;with_reducible rfl))
       refine wpAnyH_take (i:=1) (v:=?v1) rfl (by kernel_rfl) (by kernel_rfl) (by kernel_rfl) (fun _ _ _ h=>h) (Or.inl ⟨by kernel_rfl,?h1⟩) kS ?_
       case h1=>(intro w hS;obtain ⟨s0,s1,s2⟩:=hS;first | (go_simp;done) | (go_simp;with_reducible rfl))
       refine wpAnyH_take (i:=2) (v:=?v2) rfl (by kernel_rfl) (by kernel_rfl) (by kernel_rfl) (fun _ _ _ h=>h) (Or.inl ⟨by kernel_rfl,?h2⟩) kS ?_
       case h2=>(intro w hS;obtain ⟨s0,s1,s2⟩:=hS;first | (go_simp;done) | (go_simp;with_reducible rfl))
       refine wpAnyH_take (i:=3) (v:=?v3) rfl (by kernel_rfl) (by kernel_rfl) (by kernel_rfl) (fun _ _ _ h=>h) (Or.inl ⟨by kernel_rfl,?h3⟩) kS ?_
       case h3=>(intro w hS;obtain ⟨s0,s1,s2⟩:=hS;first | (go_simp;done) | (go_simp;with_reducible rfl))
       refine wpAnyH_take (i:=4) (v:=?v4) rfl (by kernel_rfl) (by kernel_rfl) (by kernel_rfl) (fun _ _ _ h=>h) (Or.inl ⟨by kernel_rfl,?h4⟩) kS ?_
       case h4=>(intro w hS;obtain ⟨s0,s1,s2⟩:=hS;first | (go_simp;done) | (go_simp;with_reducible rfl))
       refine wpAnyH_take (i:=5) (v:=?v5) rfl (by kernel_rfl) (by kernel_rfl) (by kernel_rfl) (fun _ _ _ h=>h) (Or.inl ⟨by kernel_rfl,?h5⟩) kS ?_
       case h5=>(intro w hS;obtain ⟨s0,s1,s2⟩:=hS;first | (go_simp;done) | (go_simp;with_reducible rfl))
       refine wpAnyH_take (i:=6) (v:=.bool true) rfl (by kernel_rfl) (by kernel_rfl) (by kernel_rfl) (fun _ _ _ h=>h) (Or.inl ⟨by kernel_rfl,?h6⟩) kS ?_
       case h6=>(intro w hS;obtain ⟨s0,s1,s2⟩:=hS;first | (go_simp;done) | (go_simp;with_reducible rfl))
       refine wpAnyH_take (i:=7) (v:=.bool false) rfl (by kernel_rfl) (by kernel_rfl) (by kernel_rfl) (fun _ _ _ h=>h) (Or.inl ⟨by kernel_rfl,?h7⟩) kS ?_
       case h7=>(intro w hS;obtain ⟨s0,s1,s2⟩:=hS;first | (go_simp;done) | (go_simp;with_reducible rfl))
       refine wpAnyH_take (i:=8) (v:=.bool false) rfl (by kernel_rfl) (by kernel_rfl) (by kernel_rfl) (fun _ _ _ h=>h) (Or.inl ⟨by kernel_rfl,?h8⟩) kS ?_
       case h8=>(intro w hS;obtain ⟨s0,s1,s2⟩:=hS;first | (go_simp;done) | (go_simp;with_reducible rfl))
       refine wpAnyH_take (i:=9) (v:=?v9) rfl (by kernel_rfl) (by kernel_rfl) (by kernel_rfl) (fun _ _ _ h=>h) (Or.inl ⟨by kernel_rfl,?h9⟩) kS ?_
       case h9=>(intro w hS;obtain ⟨s0,s1,s2⟩:=hS;first | (go_simp;done) | (go_simp;with_reducible rfl))
       refine wpAnyH_take (i:=10) (v:=?v10) rfl (by kernel_rfl) (by kernel_rfl) (by kernel_rfl) (fun _ _ _ h=>h) (Or.inl ⟨by kernel_rfl,?h10⟩) kS ?_
       case h10=>(intro w hS;obtain ⟨s0,s1,s2⟩:=hS;first | (go_simp;done) | (go_simp;with_reducible rfl))
       refine wpAnyH_take (i:=11) (v:=?v11) rfl (by kernel_rfl) (by kernel_rfl) (by kernel_rfl) (fun _ _ _ h=>h) (Or.inl ⟨by kernel_rfl,?h11⟩) kS ?_
       case h11=>(intro w hS;obtain ⟨s0,s1,s2⟩:=hS;first | (go_simp;done) | (go_simp;with_reducible rfl))
       refine wpAnyH_take (i:=12) (v:=?v12) rfl (by kernel_rfl) (by kernel_rfl) (by kernel_rfl) (fun _ _ _ h=>h) (Or.inl ⟨by kernel_rfl,?h12⟩) kS ?_
       case h12=>(intro w hS;obtain ⟨s0,s1,s2⟩:=hS;first | (go_simp;done) | (go_simp;with_reducible rfl))
       refine wpAnyH_take (i:=13) (v:=?v13) rfl (by kernel_rfl) (by kernel_rfl) (by kernel_rfl) (fun _ _ _ h=>h) (Or.inl ⟨by kernel_rfl,?h13⟩) kS ?_
       case h13=>(intro w hS;obtain ⟨s0,s1,s2⟩:=hS;first | (go_simp;done) | (go_simp;with_reducible rfl))
       refine wpAnyH_take (i:=14) (v:=?v14) rfl (by kernel_rfl) (by kernel_rfl) (by kernel_rfl) (fun _ _ _ h=>h) (Or.inl ⟨by kernel_rfl,?h14⟩) kS ?_
       case h14=>(intro w hS;obtain ⟨s0,s1,s2⟩:=hS;first | (go_simp;done) | (go_simp;with_reducible rfl))
       refine wpAnyH_take (i:=15) (v:=?v15) rfl (by kernel_rfl) (by kernel_rfl) (by kernel_rfl) (fun _ _ _ h=>h) (Or.inl ⟨by kernel_rfl,?h15⟩) kS ?_
       case h15=>(intro w hS;obtain ⟨s0,s1,s2⟩:=hS;first | (go_simp;done) | (go_simp;with_reducible rfl))
       refine wpAnyH_take (i:=16) (v:=?v16) rfl (by kernel_rfl) (by kernel_rfl) (by kernel_rfl) (fun _ _ _ h=>h) (Or.inl ⟨by kernel_rfl,?h16⟩) kS ?_
       case h16=>(intro w hS;obtain ⟨s0,s1,s2⟩:=hS;first | (go_simp;done) | (go_simp;with_reducible rfl))
       refine wpAnyH_take (i:=17) (v:=?v17) rfl (by kernel_rfl) (by kernel_rfl) (by kernel_rfl) (fun _ _ _ h=>h) (Or.inl ⟨by kernel_rfl,?h17⟩) kS ?_
       case h17=>(intro w hS;obtain ⟨s0,s1,s2⟩:=hS;first | (go_simp;done) | (go_simp;with_reducible rfl))
       refine wpAnyH_take (i:=18) (v:=?v18) rfl (by kernel_rfl) (by kernel_rfl) (by kernel_rfl) (fun _ _ _ h=>h) (Or.inl ⟨by kernel_rfl,?h18⟩) kS ?_
       case h18=>(intro w hS;obtain ⟨s0,s1,s2⟩:=hS;first | (go_simp;done) | (go_simp;with_reducible rfl))
       refine wpAnyH_take (i:=19) (v:=?v19) rfl (by kernel_rfl) (by kernel_rfl) (by kernel_rfl) (fun _ _ _ h=>h) (Or.inl ⟨by kernel_rfl,?h19⟩) kS ?_
       case h19=>(intro w hS;obtain ⟨s0,s1,s2⟩:=hS;first | (go_simp;done) | (go_simp;with_reducible rfl))
       refine wpAnyH_take (i:=20) (v:=?v20) rfl (by kernel_rfl) (by kernel_rfl) (by kernel_rfl) (fun _ _ _ h=>h) (Or.inl ⟨by kernel_rfl,?h20⟩) kS ?_
       case h20=>(intro w hS;obtain ⟨s0,s1,s2⟩:=hS;first | (go_simp;done) | (go_simp;with_reducible rfl))
       refine wpAnyH_take (i:=21) (v:=?v21) rfl (by kernel_rfl) (by kernel_rfl) (by kernel_rfl) (fun _ _ _ h=>h) (Or.inl ⟨by kernel_rfl,?h21⟩) kS ?_
       case h21=>(intro w hS;obtain ⟨s0,s1,s2⟩:=hS;first | (go_simp;done) | (go_simp;with_reducible rfl))
       refine wpAnyH_take (i:=22) (v:=?v22) rfl (by kernel_rfl) (by kernel_rfl) (by kernel_rfl) (fun _ _ _ h=>h) (Or.inl ⟨by kernel_rfl,?h22⟩) kS ?_
       case h22=>(intro w hS;obtain ⟨s0,s1,s2⟩:=hS;first | (go_simp;done) | (go_simp;with_reducible rfl))
       refine wpAnyH_take (i:=23) (v:=?v23) rfl (by kernel_rfl) (by kernel_rfl) (by kernel_rfl) (fun _ _ _ h=>h) (Or.inl ⟨by kernel_rfl,?h23⟩) kS ?_
       case h23=>(intro w hS;obtain ⟨s0,s1,s2⟩:=hS;first | (go_simp;done) | (go_simp;with_reducible rfl))
       refine wpAnyH_take (i:=24) (v:=?v24) rfl (by kernel_rfl) (by kernel_rfl) (by kernel_rfl) (fun _ _ _ h=>h) (Or.inl ⟨by kernel_rfl,?h24⟩) kS ?_
       case h24=>(intro w hS;obtain ⟨s0,s1,s2⟩:=hS;first | (go_simp;done) | (go_simp;with_reducible rfl))
       refine wpAnyH_take (i:=25) (v:=?v25) rfl (by kernel_rfl) (by kernel_rfl) (by kernel_rfl) (fun _ _ _ h=>h) (Or.inl ⟨by kernel_rfl,?h25⟩) kS ?_
       case h25=>(intro w hS;obtain ⟨s0,s1,s2⟩:=hS;first | (go_simp;done) | (go_simp;with_reducible rfl))
       refine wpAnyH_take (i:=26) (v:=?v26) rfl (by kernel_rfl) (by kernel_rfl) (by kernel_rfl) (fun _ _ _ h=>h) (Or.inl ⟨by kernel_rfl,?h26⟩) kS ?_
       case h26=>(intro w hS;obtain ⟨s0,s1,s2⟩:=hS;first | (go_simp;done) | (go_simp;with_reducible rfl))
       refine wpAnyH_take (i:=27) (v:=?v27) rfl (by kernel_rfl) (by kernel_rfl) (by kernel_rfl) (fun _ _ _ h=>h) (Or.inl ⟨by kernel_rfl,?h27⟩) kS ?_
       case h27=>(intro w hS;obtain ⟨s0,s1,s2⟩:=hS;first | (go_simp;done) | (go_simp;with_reducible rfl))
       refine wpAnyH_take (i:=28) (v:=?v28) rfl (by kernel_rfl) (by kernel_rfl) (by kernel_rfl) (fun _ _ _ h=>h) (Or.inl ⟨by kernel_rfl,?h28⟩) kS ?_
       case h28=>(intro w hS;obtain ⟨s0,s1,s2⟩:=hS;first | (go_simp;done) | (go_simp;with_reducible rfl))
       refine wpAnyH_take (i:=29) (v:=?v29) rfl (by kernel_rfl) (by kernel_rfl) (by kernel_rfl) (fun _ _ _ h=>h) (Or.inl ⟨by kernel_rfl,?h29⟩) kS ?_
       case h29=>(intro w hS;obtain ⟨s0,s1,s2⟩:=hS;first | (go_simp;done) | (go_simp;with_reducible rfl))
       refine wpAnyH_take (i:=30) (v:=?v30) rfl (by kernel_rfl) (by kernel_rfl) (by kernel_rfl) (fun _ _ _ h=>h) (Or.inl ⟨by kernel_rfl,?h30⟩) kS ?_
       case h30=>(intro w hS;obtain ⟨s0,s1,s2⟩:=hS;first | (go_simp;done) | (go_simp;with_reducible rfl))
       refine wpAnyH_take (i:=31) (v:=.int .i64 (cc:Nat)) rfl (by kernel_rfl) (by kernel_rfl) (by kernel_rfl) (fun _ _ _ h=>h) (Or.inl ⟨by kernel_rfl,?h31⟩) kS ?_
       case h31=>(intro w hS;obtain ⟨s0,s1,s2⟩:=hS;first | (go_simp;done) | (go_simp;with_reducible rfl) | (go_simp;exact p4))
       refine wpAnyH_take (i:=32) (v:=?v32) rfl (by kernel_rfl) (by kernel_rfl) (by kernel_rfl) (fun _ _ _ h=>h) (Or.inl ⟨by kernel_rfl,?h32⟩) kS ?_
       case h32=>(intro w hS;obtain ⟨s0,s1,s2⟩:=hS;first | (go_simp;done) | (go_simp;with_reducible rfl))
       refine wpAnyH_take (i:=33) (v:=?v33) rfl (by kernel_rfl) (by kernel_rfl) (by kernel_rfl) (fun _ _ _ h=>h) (Or.inl ⟨by kernel_rfl,?h33⟩) kS ?_
       case h33=>(intro w hS;obtain ⟨s0,s1,s2⟩:=hS;first | (go_simp;done) | (go_simp;with_reducible rfl))
       refine wpAnyH_take (i:=34) (v:=.pointer (some ⟨q,2+cc,none⟩)) rfl (by kernel_rfl) (by kernel_rfl) (by kernel_rfl) (fun _ _ _ h=>h) (Or.inl ⟨by kernel_rfl,?h34⟩) kS ?_
       case h34=>(intro w hS;obtain ⟨s0,s1,s2⟩:=hS;first | (go_simp;done) | (go_simp;with_reducible rfl))
       refine wpAnyH_take (i:=35) (v:=.bool bv) rfl (by kernel_rfl) (by kernel_rfl) (by kernel_rfl) (fun _ _ _ h=>h) (Or.inl ⟨by kernel_rfl,?h35⟩) kS ?_
       case h35=>(intro w hS;obtain ⟨s0,s1,s2⟩:=hS;first | (go_simp;done) | (go_simp;with_reducible rfl))
       refine wpAnyH_take (i:=36) (v:=.bool bv) rfl (by kernel_rfl) (by kernel_rfl) (by kernel_rfl) (fun _ _ _ h=>h) (Or.inl ⟨by kernel_rfl,?h36⟩) kS ?_
       case h36=>(intro w hS;obtain ⟨s0,s1,s2⟩:=hS;first | (go_simp;done) | (go_simp;with_reducible rfl))
       refine wpAnyH_ready (rs:=[37]) (by kernel_rfl) (by simp) ?_
       refine AllReadyH.cons rfl (fun K hK=>?_) AllReadyH.nil
       go_simp
       try simp only [w1,w2]
       go_at_call 16
       with_reducible refine (cS0.out).mono ?_
       rintro e w6 ⟨rfl,hR6,hk6⟩
       have kS6:w6.cell? ⟨q,0,none⟩=some (.int .i64 g.w)∧w6.cell? ⟨q,1,none⟩=some (.int .i64 g.h)∧w6.cell? ⟨q,2+cc,none⟩=some (.bool bv):=⟨keptc hk6 (by simp;exact hqp) kS.1,keptc hk6 (by simp;exact hqp) kS.2.1,keptc hk6 (by simp;exact hqp) kS.2.2⟩
       go_wp2_with fail
       try (refine hK.out _ _ kS6 (fun _=>?_);clear hK K)
       refine wpAnyH_done (by kernel_rfl) ?_ _
       have hK6:=HK.out.drew.trans hk6;go_wp2_with fail;go_roundw
       case rel=>first | exact ⟨j+1,v',by omega,by go_num,hR6,Hvb.out.1,Hvb.out.2,hK6⟩ | ((repeat apply Exists.intro);exact ⟨⟨j+1,v',by omega,by go_num,hR6,Hvb.out.1,Hvb.out.2,hK6⟩,rfl⟩)
       case measure=>simp [intOf];omega
    ·obtain rfl:j=nw:=by omega
     go_wp2_with fail;go_roundw
     case rel=>first | exact ⟨k+1,vv,by omega,by go_num,by rw [Nat.add_mul,Nat.one_mul];exact hRj,hv0,by rw [Nat.add_mul,Nat.one_mul];exact hv1,hK⟩ | ((repeat apply Exists.intro);exact ⟨⟨k+1,vv,by omega,by go_num,by rw [Nat.add_mul,Nat.one_mul];exact hRj,hv0,by rw [Nat.add_mul,Nat.one_mul];exact hv1,hK⟩,rfl⟩)
     case measure=>simp [intOf];omega
  ·obtain rfl:k=g.h+2:=by omega
   have hRs:=hRk
   rw [show (g.h+2)*nw=(frmG g).n by rw [hfe,hnw,Nat.mul_comm]] at hRs
   have hsm:=frmP_same g;obtain ⟨gf,hgf⟩:∃z,frmP g (frmG g).n=z:=⟨_,rfl⟩;have hgfok:=frmP_ok Hfok.out (frmG g).n;rw [hgf] at hRs hsm hgfok
   have hHB:Below W0.heap.size W0 wr:=Kept.below HB5.out hK HB5.out.size (fun i hi=>by simp at hi;have:=HB4.out.size;omega)
   have HSw:=Lib.hid (show ServAt wr s g2 v2 m from ⟨T,HT5.out.kept hK (fun i hi=>by simp;have:=HTl.out i hi;omega)⟩)
   have cP:=Lib.hid (rPrint wr p gf vv hRs);have HBw:=Lib.hid hHB
   have HQk:=Lib.hid (RGridAt.kept HQ5.out hK (by simp [hqp]))
   have Hsm:=Lib.hid (And.intro hsm hgfok);have Hcd:=Lib.hid (And.intro hc hd);have Hnw:=Lib.hid hnw
   have hg14:=Lib.hid (show 1≤g.w∧g.w≤14∧nw=g.w+2 from ⟨o1,by omega,hnw.symm⟩)
   obtain ⟨kw,kh⟩:=HQk.out.size
   have dk:decide (((g.h+2:Nat):Int)<(g.h:Int)+2)=false:=by simp
   clear hHB hRs hRk hK hv0 hv1 HT5 HTl hsm hgfok hgf hfn hfe Hfok hlt hk hR5 hpl hqs hqp HQ5 HB5 hnw;go_wp2_with fail;refine cP.out.mono ?_;rintro e w6 ⟨rfl,hb6⟩;have HB6:=Lib.hid (bel_trans HBw.out hb6);have cL:=Lib.hid (navLoad_print w6 (hVV.out.below HB6.out) gf Hsm.out.2 m hm16.out.1 hm16.out.2);replace HSw:=Lib.hid (HSw.out.below hb6);replace HQk:=Lib.hid (HQk.out.below hb6 HQk.out.lt);clear cP hb6 dk kw kh
   go_wp2_with fail;refine cL.out.mono ?_;rintro e w7 ⟨s',g3,rfl,hld3,hS3,hb7⟩;have HL3:=Lib.hid (hld3.2.trans Hsm.out.1);obtain ⟨v3,hv3⟩:∃z,((cntB gf.b gf.n:Nat):Int)=z:=⟨_,rfl⟩;rw [hv3] at hS3;have HS3:=Lib.hid hS3.serv;replace HSw:=Lib.hid (HSw.out.below hb7);replace HQk:=Lib.hid (HQk.out.below hb7 HQk.out.lt);have HB7:=Lib.hid (bel_trans HB6.out hb7);clear hld3 hv3 hS3 hb7 cL;have cA:=Lib.hid (navAsk w7 s g2 v2 m HSw.out (c:Nat) (d:Nat))
   go_wp2_with fail;refine cA.out.mono ?_;rintro e w8 ⟨Wy1,⟨cs1,cd1⟩,er1,Aw1,mw1,hA1,rfl,hI1,hf1,hbA⟩
   go_upto_region 21 with (fail)
   refine wp_name ?_;intro W8 hWB;obtain ⟨b1,hb1⟩:∃z,w8.heap.size=z:=⟨_,rfl⟩
   have hbB:Below w8.heap.size w8 W8:=by rw [hWB];(repeat' (first | exact Below.refl _ _ | assumption | apply bel_drewN | apply bel_drew | apply bel_alloc | (refine bel_trans ?_ (by assumption))))
   have k10:W8.cell? ⟨b1,0,none⟩=some (.slice Aw1 Wy1.length mw1):=by rw [hWB,←hb1];go_simp
   have k11:W8.cell? ⟨b1,1,none⟩=some (.int .i64 cs1):=by rw [hWB,←hb1];go_simp
   have k12:W8.cell? ⟨b1,2,none⟩=some (.int .i64 cd1):=by rw [hWB,←hb1];go_simp
   have k13:W8.cell? ⟨b1,3,none⟩=some (.int .i64 (er1:Nat)):=by rw [hWB,←hb1];go_simp
   try rw [hb1]
   have hbl1:w7.heap.size≤b1:=by rw [←hb1];exact hbA.size
   have hAB:=bel_trans hbA hbB;have HB8:=Lib.hid (bel_trans HB7.out hAB);replace hA1:=Lib.hid hA1;replace hI1:=Lib.hid (hI1.below hbB);replace hf1:=Lib.hid hf1;clear hWB hb1 hbA hbB cA;replace HSw:=Lib.hid (HSw.out.below hAB);replace HS3:=Lib.hid (HS3.out.below hAB);replace HQk:=Lib.hid (HQk.out.below hAB HQk.out.lt);obtain ⟨ka,hka⟩:∃z,c / g.w=z:=⟨_,rfl⟩;obtain ⟨la,hla⟩:∃z,c % g.w=z:=⟨_,rfl⟩;obtain ⟨kb,hkb⟩:∃z,d / g.w=z:=⟨_,rfl⟩
   obtain ⟨lb,hlb⟩:∃z,d % g.w=z:=⟨_,rfl⟩;have hcb:=Hcd.out.1;have hdb:=Hcd.out.2;have hn256:=G.n_le Hok.out
   have hnw16:nw≤16:=by have:=hg14.out;omega
   have b1a:ka≤256∧la<g.w:=by rw [←hka,←hla];exact ⟨Nat.le_trans (Nat.div_le_self _ _) (by omega),Nat.mod_lt _ (by omega)⟩
   have b1b:kb≤256∧lb<g.w:=by rw [←hkb,←hlb];exact ⟨Nat.le_trans (Nat.div_le_self _ _) (by omega),Nat.mod_lt _ (by omega)⟩
   obtain ⟨ma,hma⟩:∃z,(ka+1)*nw=z:=⟨_,rfl⟩;obtain ⟨mb,hmb⟩:∃z,(kb+1)*nw=z:=⟨_,rfl⟩
   have b2a:ma≤257*16:=by rw [←hma];exact Nat.mul_le_mul (by omega) (by omega)
   have b2b:mb≤257*16:=by rw [←hmb];exact Nat.mul_le_mul (by omega) (by omega)
   have hSa:frmS g c=ma+la+1:=by unfold frmS;rw [hka,hla,hg14.out.2.2.symm,hma]
   have hSb:frmS g d=mb+lb+1:=by unfold frmS;rw [hkb,hlb,hg14.out.2.2.symm,hmb]
   have HSS:=Lib.hid (And.intro hSa hSb);have hw14:=hg14.out.2.1;obtain ⟨xa,hxa⟩:∃z:Int,((ma+la+1:Nat):Int)=z:=⟨_,rfl⟩;obtain ⟨xb,hxb⟩:∃z:Int,((mb+lb+1:Nat):Int)=z:=⟨_,rfl⟩
   have e1:(c:Int).tdiv (g.w:Int)=(ka:Int):=by rw [←hka];rfl
   have e2:(c:Int).tmod (g.w:Int)=(la:Int):=by rw [←hla];rfl
   have e3:(d:Int).tdiv (g.w:Int)=(kb:Int):=by rw [←hkb];rfl
   have e4:(d:Int).tmod (g.w:Int)=(lb:Int):=by rw [←hlb];rfl
   have e1':(c:Int) / (g.w:Int)=(ka:Int):=by rw [←hka];rfl
   have e2':(c:Int) % (g.w:Int)=(la:Int):=by rw [←hla];rfl
   have e3':(d:Int) / (g.w:Int)=(kb:Int):=by rw [←hkb];rfl
   have e4':(d:Int) % (g.w:Int)=(lb:Int):=by rw [←hlb];rfl
   have z1:(0:Int)≤(c:Int):=by omega
   have z2:(0:Int)≤(d:Int):=by omega
   have d1:((g.w:Int) == 0)=false:=by simp;omega
   have d2:(0:Int)<(g.w:Int):=by omega
   have d3:¬(g.w:Int)=0:=by omega
   have d4:¬g.w=0:=by omega
   have v1:IntKind.i64.wrap (ka:Int)=(ka:Int):=IntWalk.i64_in _ (by omega)
   have v2':IntKind.i64.wrap (kb:Int)=(kb:Int):=IntWalk.i64_in _ (by omega)
   have p1:((ka:Int)+1)*(nw:Int)=(ma:Int):=by rw [←hma];simp
   have p2:((kb:Int)+1)*(nw:Int)=(mb:Int):=by rw [←hmb];simp
   have w1:IntKind.i64.wrap ((ka:Int)+1)=(ka:Int)+1:=IntWalk.i64_in _ (by omega)
   have w2':IntKind.i64.wrap ((kb:Int)+1)=(kb:Int)+1:=IntWalk.i64_in _ (by omega)
   have w3':IntKind.i64.wrap (ma:Int)=(ma:Int):=IntWalk.i64_in _ (by omega)
   have w4':IntKind.i64.wrap (mb:Int)=(mb:Int):=IntWalk.i64_in _ (by omega)
   have w5':IntKind.i64.wrap ((ma:Int)+la)=(ma:Int)+la:=IntWalk.i64_in _ (by omega)
   have w6':IntKind.i64.wrap ((mb:Int)+lb)=(mb:Int)+lb:=IntWalk.i64_in _ (by omega)
   have w7':IntKind.i64.wrap ((ma:Int)+la+1)=(ma:Int)+la+1:=IntWalk.i64_in _ (by omega)
   have w8':IntKind.i64.wrap ((mb:Int)+lb+1)=(mb:Int)+lb+1:=IntWalk.i64_in _ (by omega)
   have x1:(ma:Int)+la+1=xa:=by omega
   have v3':IntKind.i64.wrap xa=xa:=IntWalk.i64_in _ (by omega)
   have v4':IntKind.i64.wrap xb=xb:=IntWalk.i64_in _ (by omega)
   have x2:(mb:Int)+lb+1=xb:=by omega
   have HX:=Lib.hid (And.intro hxa hxb);obtain ⟨kw,kh⟩:=HQk.out.size
   have cA:=Lib.hid (fun w' (hb:Below W8.heap.size W8 w')=>navAsk w' s' g3 v3 m (HS3.out.below hb) xa xb)
   have Hw:=Lib.hid kw;have hBQ:Below W8.heap.size W8 W8.drew:=bel_drew (Below.refl W8.heap.size W8);have kS:W8.drew.cell? ⟨q,0,none⟩=some (.int .i64 g.w):=bel_cell hBQ kw;clear hka hla hkb hlb hma hmb hSa hSb hxa hxb hcb hdb hAB kw kh hn256 hgn;have hws:W8.heap.size≤W8.heap.size:=Nat.le_refl _;have hBr:Below W8.heap.size W8 W8:=Below.refl _ _;have hql:q<W8.heap.size:=HQk.out.lt
   have koW:=Lib.hid (fun (X:World) (k:Nat) (u:Value)=>World.cell?_setCell_other (w:=X) (a:=⟨W8.heap.size,k,none⟩) (b:=⟨q,0,none⟩) (v:=u) (by intro e;injection e with e1;omega))
   go_cut [21] from 166 to 201 (fun sv wx=>AskBox W8 g3 xa xb sv wx)
   case first=>
    go_region_held3 (fun w'=>w'.cell? ⟨q,0,none⟩=some (.int .i64 g.w))
     (first
      | with_reducible exact kS
      | (simp only [koW.out];exact kS)
      | with_reducible exact bel_cell (bel_alloc hBQ) Hw.out
      | exact bel_cell (bel_drew (bel_alloc hBr)) Hw.out)
     (first
      | (go_at_call 19
         with_reducible refine (cA.out _ hBQ).mono ?_
         rintro e wA ⟨Wy,⟨cs,cd⟩,er,Aw,mw,hA,rfl,hI,hf,hbA⟩;have hBQ:=bel_trans hBQ hbA;have kS:wA.cell? ⟨q,0,none⟩=some (.int .i64 g.w):=bel_cell hBQ Hw.out)
      | (go_at_call 19
         with_reducible refine (cA.out _ (bel_drew (bel_alloc hBr))).mono ?_
         rintro e wA ⟨Wy,⟨cs,cd⟩,er,Aw,mw,hA,rfl,hI,hf,hbA⟩
         have hZ:wA.heap[W8.heap.size]? = some (.cells #[.slice none 0 0,.int .i64 0,.int .i64 0,.int .i64 0] 47 (0,0)):=(hbA.block W8.heap.size (by simp)).trans (heap_alloc_new W8 _)
         have zz:=cells_four hZ;obtain ⟨z0,z1,z2,z3⟩:=zz;have y0:=Lib.frozen_of_heap hZ 0;have y1:=Lib.frozen_of_heap hZ 1;have y2:=Lib.frozen_of_heap hZ 2;have y3:=Lib.frozen_of_heap hZ 3;have hBQ:=bel_trans (bel_drew (bel_alloc hBr)) hbA;have kS:wA.cell? ⟨q,0,none⟩=some (.int .i64 g.w):=bel_cell hBQ Hw.out)
      | (go_at_call 19
         with_reducible refine (cA.out _ (bel_alloc hBQ)).mono ?_
         rintro e wA ⟨Wy,⟨cs,cd⟩,er,Aw,mw,hA,rfl,hI,hf,hbA⟩
         have hZ:wA.heap[W8.heap.size]? = some (.cells #[.slice none 0 0,.int .i64 0,.int .i64 0,.int .i64 0] 47 (0,0)):=(hbA.block _ (by simp)).trans (heap_alloc_new _ _)
         have zz:=cells_four hZ;obtain ⟨z0,z1,z2,z3⟩:=zz;have y0:=Lib.frozen_of_heap hZ 0;have y1:=Lib.frozen_of_heap hZ 1;have y2:=Lib.frozen_of_heap hZ 2;have y3:=Lib.frozen_of_heap hZ 3;have hBQ:=bel_trans (bel_alloc hBQ) hbA;have kS:wA.cell? ⟨q,0,none⟩=some (.int .i64 g.w):=bel_cell hBQ Hw.out))
    all_goals
     go_wp2;go_meet
     case rel=>first
      | with_reducible exact AskBox.new hA hBQ
      | with_reducible exact AskBox.old hA hZ hBQ hws
   case rest=>
    obtain ⟨b2,W2,cs2,cd2,er2,A3,mw2,rfl,hA3,hX2,hb2⟩:=hcut;have hemb:=(frm_emb g Hok.out).same HLd.out.2 HL3.out;have hcov:=(frm_cov Hok.out).same HLd.out.2 HL3.out;rw [←HX.out.1,←HX.out.2,←HSS.out.1,←HSS.out.2] at hA3;have hlt:=Hcd.out;rw [←HLd.out.2.n] at hlt;obtain ⟨hce,hee⟩:=hemb.ask HSw.out.ok HS3.out.ok hlt.1 hlt.2 hA1.out hA3;have hnn:=hemb.nodes hcov;cases hce;subst hee;obtain ⟨_,q1,q2,q3⟩:=cells_four hX2
    replace k11:=bel_cell hb2 k11;replace k12:=bel_cell hb2 k12;replace k13:=bel_cell hb2 k13;have HBc:=Lib.hid (bel_trans HB8.out hb2);have cT:=Lib.hid (navStats wc s g2 v2 m (HSw.out.below hb2));have HS3c:=Lib.hid (HS3.out.below hb2);replace hnn:=Lib.hid hnn;clear hA3 hX2 hb2 hemb hcov hlt cA koW hBQ kS e1 e2 e3 e4 e1' e2' e3' e4' z1 z2 d1 d2 d3 d4 v1 v2' p1 p2 w1 w2' w3' w4' w5' w6' w7' w8' x1 x2 v3' v4' hws hBr
    go_wp2_with fail;refine cT.out.mono ?_;rintro e w9 ⟨sn,sf,sd,se,sa,tp,rfl,hst,hb9⟩
    have hfd:=fun (w:World)=>field_stat2 w (.int .i64 (sn:Nat)) (.int .i64 (sf:Nat)) (.int .i64 (se:Nat)) (.int .i64 (sa:Nat)) (.int .i64 (tp:Nat)) (.int .i64 v2) (sd:Nat)
    have HB9:=Lib.hid (bel_trans HBc.out hb9);have cT2:=Lib.hid (navStats w9 s' g3 v3 m (HS3c.out.below hb9));replace hst:=Lib.hid hst;clear cT hb9;go_wp2_with fail;refine cT2.out.mono ?_;rintro e w10 ⟨sn2,sf2,sd2,se2,sa2,tp2,rfl,hst2,hb10⟩
    obtain rfl:sd2=sd:=by rw [hst2.2.2.1,hst.out.2.2.1];exact hnn.out
    have hfd2:=fun (w:World)=>field_stat2 w (.int .i64 (sn2:Nat)) (.int .i64 (sf2:Nat)) (.int .i64 (se2:Nat)) (.int .i64 (sa2:Nat)) (.int .i64 (tp2:Nat)) (.int .i64 v3) (sd2:Nat)
    have HF:=Lib.hid (bel_trans HB9.out hb10);clear hst2 hst hb10 cT2;go_wp2_with fail;go_ret;exact ⟨rfl,HF.out⟩
end Go.Proofs.YtokhnobcincfjaaGreatDoor
