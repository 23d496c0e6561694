/- Lemmas of this claim: Nav5, TopTurn. -/
import Derived.Test.YtokhnobcincfjaaGreatDoorNav1
import Derived.Test.YtokhnobcincfjaaGreatDoorRTx2
import Derived.Test.YtokhnobcincfjaaGreatDoorKNFt38
import Derived.Test.YtokhnobcincfjaaGreatDoorBase
import Derived.Test.YtokhnobcincfjaaGreatDoorKNFt3
import Derived.Test.YtokhnobcincfjaaGreatDoorKNFt44
import Derived.Test.YtokhnobcincfjaaGreatDoorKNFt39
import Derived.Deep.DeepCutAuto
set_option linter.unusedVariables false
set_option linter.unusedSimpArgs false
set_option maxHeartbeats 6400000
set_option maxRecDepth 100000
namespace Go.Proofs.YtokhnobcincfjaaGreatDoor
open Go.RowKit Go.Sort FR Go.Lib
theorem rSet_ed (w : World) (q : Nat) (g : G) (v : Int) (c : Nat) (t : Bool) (h : RGridAt w q g v) (hc : c < g.n) (hv : 0 ≤ v ∧ v ≤ 1099511627776) :
    Calls Tryz.prog 16 #[.pointer (some ⟨q,0,none⟩),.int .i64 (c:Nat),.bool t] w fun e w'=>
     e=.returned (.tuple #[.bool (g.b c != t),.int .i64 0])∧RGridAt w' q (gset g c t) (v+(if g.b c=t then 0 else 1:Nat))∧Kept [q] w w':=by
 by_cases hs:g.b c=t
 ·subst hs
  refine (rSet_same w q g v c h hc).mono fun e w' ⟨h1,h2⟩=>⟨by simpa using h1,?_,.of_below h2⟩
  rw [gset_self rfl,if_pos rfl]
  simpa using h.below h2 h.lt
 ·have ht:g.b c=!t:=by cases h:g.b c <;> cases t <;> simp_all
  refine (rSet_new w q g v c t h hc ht hv).mono fun e w' ⟨h1,h2,h3⟩=>⟨by rw [ht];simpa using h1,?_,h3⟩
  rw [if_neg hs]
  simpa using h2
theorem topTurn (W0 : World) (hV : LibS W0) (a b : Int) (A0 : Option Addr) (n0 m0 : Nat) (f0 : Nat → Int) (h0 : SlI W0 A0 n0 f0) (mx : Int) (hmx : -9223372036854775808 ≤ mx ∧ mx ≤ 9223372036854775807)
    (x:Int) (hx:-9223372036854775808≤x∧x≤9223372036854775807) (y:Int) (hy:-9223372036854775808≤y∧y≤9223372036854775807) (u:Int) (hu:-9223372036854775808≤u∧u≤9223372036854775807) :
    Calls Tryz.prog 3 #[.agg #[.int .i64 a,.int .i64 b,.slice A0 n0 m0],.int .i64 mx,.int .i64 x,.int .i64 y,.int .i64 u] W0 fun e w'=>e=.returned (.bool true)∧Below W0.heap.size W0 w':=by
 clear hmx hx hy hu;have hVV:=Lib.hid hV;obtain ⟨hI0,hl0,_⟩:=h0;replace hl0:=Lib.hid hl0;replace hV:=Lib.hid hV;go_enter Tryz.func3,Tryz.ntmps3
 go_upto_region 1 with (fail)
 refine wp_name ?_;intro W hW
 have HW:Below W0.heap.size W0 W:=by rw [hW];(repeat' (first | exact Below.refl _ _ | assumption | apply bel_drewN | apply bel_drew | apply bel_alloc | (refine bel_trans ?_ (by assumption))))
 have c0:W.cell? ⟨W0.heap.size,0,none⟩=some (.int .i64 a):=by rw [hW];go_simp
 have c1:W.cell? ⟨W0.heap.size,1,none⟩=some (.int .i64 b):=by rw [hW];go_simp
 have c2:W.cell? ⟨W0.heap.size,2,none⟩=some (.slice A0 n0 m0):=by rw [hW];go_simp
 have c3:W.cell? ⟨W0.heap.size+1,0,none⟩=some (.int .i64 u):=by rw [hW];go_simp
 clear hW;go_wp2_with fail;refine (works_true _).mono ?_;rintro e w1 ⟨rfl,hb1⟩;have HB1:=bel_trans HW hb1;replace c0:=bel_cell hb1 c0;replace c1:=bel_cell hb1 c1;replace c2:=bel_cell hb1 c2;replace c3:=bel_cell hb1 c3;have cS:=Lib.hid (serve_any w1 (hV.out.below HB1) a b A0 n0 m0 f0 (hI0.below HB1) hl0.out mx);clear HW hb1;go_wp2_with fail;refine cS.out.mono ?_
 rintro e w2 ⟨hb2,(⟨u1,u2,rfl⟩ | ⟨s,q,g,g2,v,m,rfl,hld,hq,hF,rfl⟩)⟩
 ·have HB2:=bel_trans HB1 hb2
  replace c3:=bel_cell hb2 c3;go_wp2_with fail;go_ret;exact ⟨rfl,bel_alloc HB2⟩
 obtain ⟨bt,hbt⟩:∃z,W0.heap.size+1=z:=⟨_,rfl⟩
 rw [hbt] at c3 ⊢
 replace c3:=bel_cell hb2 c3;have HB2:=Lib.hid (bel_trans HB1 hb2);have hw12:=HB1.size
 have hq0:W0.heap.size≤q:=by have:=hq.2.2.2.2;omega
 have HLd:=Lib.hid hld;have HR:=Lib.hid hq.1;have HQ:=Lib.hid (And.intro hq.2.1 (And.intro hq.2.2.1 (And.intro hq.2.2.2.1 hq0)));have hV2:=Lib.hid (hV.out.below HB2.out);obtain ⟨v2,hv2⟩:∃z,((cntB g.b g.n:Nat):Int)=z:=⟨_,rfl⟩;rw [hv2] at hF;have Hok:=Lib.hid HR.out.1;have HS:=Lib.hid hF.serv;have HF:=Lib.hid hF;have Hv2:=Lib.hid hv2;clear c0 c1 c2 cS hb2 HB1 hld hq hF hv2 hw12 hq0 hV
 go_upto_region 5 with (fail)
 refine wp_name ?_;intro W3 hW3
 have hb3:Below w2.heap.size w2 W3:=by rw [hW3];(repeat' (first | exact Below.refl _ _ | assumption | apply bel_drewN | apply bel_drew | apply bel_alloc | (refine bel_trans ?_ (by assumption))))
 obtain ⟨bm,hbm⟩:∃z,w2.heap.size=z:=⟨_,rfl⟩
 have km:W3.cell? ⟨bm,0,none⟩=some (.pointer (some ⟨q,0,none⟩)):=by rw [hW3,←hbm];go_simp
 rw [hbm];have hbtl:bt<W3.heap.size:=World.block_lt_of_cell? (a:=⟨bt,0,none⟩) W3 (bel_cell hb3 c3);replace c3:=bel_cell hb3 c3;have HR3:=Lib.hid (HR.out.below hb3 HR.out.lt);replace HS:=Lib.hid (HS.out.below hb3);have HB3:=Lib.hid (bel_trans HB2.out hb3);have hgn:=G.n_le Hok.out;obtain ⟨o1,o2,o3,o4⟩:=Hok.out;clear hW3 hb3 hbm HR hbt
 by_cases hai:0≤x∧x<(g.n:Nat)
 case neg=>
  have cI:=Lib.hid (rIs_out W3 q g v x HR3.out (by omega))
  go_wp2_with fail;refine cI.out.mono ?_;rintro e w4 ⟨rfl,hb4⟩;have HB4:=bel_trans HB3.out hb4;go_wp2_with fail;go_ret;exact ⟨rfl,HB4⟩
 obtain ⟨c,rfl⟩:=Int.eq_ofNat_of_zero_le hai.1
 have hc:c<g.n:=by omega
 have cI:=Lib.hid (rIs_in W3 q g v c HR3.out hc);clear hai;go_wp2_with fail;refine cI.out.mono ?_;rintro e w4 ⟨rfl,hb4⟩;have HB4:=Lib.hid (bel_trans HB3.out hb4);have HR4:=Lib.hid (HR3.out.below hb4 HR3.out.lt);replace HS:=Lib.hid (HS.out.below hb4);replace km:=bel_cell hb4 km;replace c3:=bel_cell hb4 c3;clear hb4 cI HR3 HB3
 by_cases hbi:0≤y∧y<(g.n:Nat)
 case neg=>
  have cI:=Lib.hid (rIs_out w4 q g v y HR4.out (by omega))
  go_wp2_with fail;refine cI.out.mono ?_;rintro e w5 ⟨rfl,hb5⟩;have HB5:=bel_trans HB4.out hb5;go_wp2_with fail;go_ret;exact ⟨rfl,HB5⟩
 obtain ⟨d,rfl⟩:=Int.eq_ofNat_of_zero_le hbi.1
 have hd:d<g.n:=by omega
 have cI:=Lib.hid (rIs_in w4 q g v d HR4.out hd);clear hbi;go_wp2_with fail;refine cI.out.mono ?_;rintro e w5 ⟨rfl,hb5⟩;have HB5:=Lib.hid (bel_trans HB4.out hb5);have HR5:=Lib.hid (HR4.out.below hb5 HR4.out.lt);replace HS:=Lib.hid (HS.out.below hb5);replace km:=bel_cell hb5 km;replace c3:=bel_cell hb5 c3;clear hb5 cI HR4 HB4;obtain ⟨kw,kh⟩:=HR5.out.size
 go_upto_region 7 with (fail)
 go_quiet (fail);have hd6:Below w5.heap.size w5 (w5.drewN nq):=bel_drewN (Below.refl _ _)
 generalize w5.drewN nq=w6 at hd6 ⊢
 have HB6:=Lib.hid (bel_trans HB5.out hd6);have HR6:=Lib.hid (HR5.out.below hd6 HR5.out.lt);replace HS:=Lib.hid (HS.out.below hd6);replace km:=bel_cell hd6 km;replace c3:=bel_cell hd6 c3;obtain ⟨t,ht⟩:∃z,turnN u=z:=⟨_,rfl⟩;have Ht:=Lib.hid ht;obtain ⟨tw,htw⟩:∃z,trnW g t=z:=⟨_,rfl⟩;obtain ⟨th,hth⟩:∃z,trnH g t=z:=⟨_,rfl⟩;have Htw:=Lib.hid (And.intro htw hth);clear hd6 HB5 HR5 kw kh ht htw hth hV2
 go_upto_if 61 with (fail)
 go_cut [14,15] (fun x y wx=>x=.int .i64 (tw:Nat)∧y=.int .i64 (th:Nat)∧wx=w6)
 case first=>
  cases h4:(bits BinOp.and IntKind.i64 u 4 == 4) with
  | true=>
   have e4:t / 4 % 2=1:=by rw [←Ht.out];exact (turnN_4 u).2 h4
   have e1:g.h=tw:=by rw [←Htw.out.1];unfold trnW;rw [if_pos e4]
   have e2:g.w=th:=by rw [←Htw.out.2];unfold trnH;rw [if_pos e4]
   go_wp2;go_meet
   case rel=>exact ⟨by rw [e1],by rw [e2],rfl⟩
  | false=>
   have e4:¬t / 4 % 2=1:=by rw [←Ht.out];intro h;have:=(turnN_4 u).1 h;rw [h4] at this;cases this
   have e1:g.w=tw:=by rw [←Htw.out.1];unfold trnW;rw [if_neg e4]
   have e2:g.h=th:=by rw [←Htw.out.2];unfold trnH;rw [if_neg e4]
   go_wp2;go_meet
   case rel=>exact ⟨by rw [e1],by rw [e2],rfl⟩
 case rest=>
  obtain ⟨rfl,rfl,hwc⟩:=hcut;rw [hwc];clear hwc
  have hb16:1≤tw∧tw≤16∧1≤th∧th≤16:=by
   rw [←Htw.out.1,←Htw.out.2];unfold trnW trnH
   split <;> omega
  have cN:=Lib.hid (fun w'=>rNew_ex (tw:Int) (th:Int) w' (by omega))
  go_wp2_with fail;refine (cN.out _).mono ?_;rintro e w7 ⟨p,rfl,hp,hR7,hb7⟩;rw [Int.toNat_natCast,Int.toNat_natCast,←Htw.out.1,←Htw.out.2] at hR7;have hR7:RGridAt w7 p (trnE g t 0) 0:=hR7;have HB7:=Lib.hid (bel_trans HB6.out hb7);have HQ7:=Lib.hid (HR6.out.below hb7 HR6.out.lt)
  have hqp:q≠p:=by have:=HR6.out.lt;omega
  have hbmp:bm≠p:=by have:=World.block_lt_of_cell? (a:=⟨bm,0,none⟩) w6 km;simp only at this;omega
  have hbtp:bt≠p:=by have:=World.block_lt_of_cell? (a:=⟨bt,0,none⟩) w6 c3;simp only at this;omega
  have hpl:=HB6.out.size;obtain ⟨T,hT⟩:=HS.out;have HTl:=Lib.hid hT.lt;have HT:=Lib.hid (hT.below hb7);have h67:=hb7.size;replace km:=bel_cell hb7 km;replace c3:=bel_cell hb7 c3;have Hk:=Lib.hid (And.intro km c3)
  have hTp:=Lib.hid (show ∀k∈T,k≠p from fun k hk=>by have:=HTl.out k hk;omega)
  have en:((g.n:Nat):Int)=(g.w:Int)*g.h:=by unfold G.n;simp
  have hw:IntKind.i64.wrap ((g.w:Int)*g.h)=(g.w:Int)*g.h:=IntWalk.i64_in _ (by omega)
  have Hen:=Lib.hid en;have Hww:=Lib.hid hw;obtain ⟨nn,hnn⟩:∃z,g.n=z:=⟨_,rfl⟩;have Hnn:=Lib.hid hnn;rw [hnn] at hgn;clear cN hb7 hT km c3 en hw hnn HTl HS HR6;go_wp2_with fail
  go_loopw [19] (fun iv wr=>∃(k:Nat) (vv:Int),k≤nn∧iv=.int .i64 (k:Nat)∧RGridAt wr p (trnE g t k) vv∧0≤vv∧vv≤((k:Nat):Int)∧Kept [p] w7 wr) (fun iv _=>nn-(intOf iv).toNat)
  case atStart=>exact ⟨0,0,Nat.zero_le _,rfl,hR7,by omega,by omega,Kept.refl _ _⟩
  case round=>
   obtain ⟨k,vv,hk,rfl,hRk,hv0,hv1,hK⟩:=hrel
   have HQk:=Lib.hid (RGridAt.kept HQ7.out hK (by simp [hqp]))
   have km:=keptc hK (p:=⟨bm,0,none⟩) (by simp [hbmp]) Hk.out.1
   have c3:=keptc hK (p:=⟨bt,0,none⟩) (by simp [hbtp]) Hk.out.2
   obtain ⟨kw,kh⟩:=HQk.out.size;replace hK:=Lib.hid hK;replace hRk:=Lib.hid hRk;have hww:=Hww.out
   by_cases hlt:k<nn
   ·have hdk:decide ((k:Int)<(g.w:Int)*g.h)=true:=by have:=Hen.out;have:=Hnn.out;simp;omega
    go_upto_region 13 with (fail)
    go_quiet (fail);have hd6:Below wr.heap.size wr (wr.drewN nq):=bel_drewN (Below.refl _ _);go_wp2_with fail
    generalize wr.drewN nq=wq at hd6 ⊢
    replace hK:=Lib.hid (hK.out.trans (.of_below hd6));replace hRk:=Lib.hid (hRk.out.below hd6 hRk.out.lt);replace HQk:=Lib.hid (HQk.out.below hd6 HQk.out.lt);replace km:=bel_cell hd6 km;replace c3:=bel_cell hd6 c3
    have hkn:k<g.n:=by have:=Hnn.out;omega
    obtain ⟨sk,hsk⟩:∃z,trnS g t k=z:=⟨_,rfl⟩;obtain ⟨bv,hbv⟩:∃z,g.b k=z:=⟨_,rfl⟩
    have hbit:=HQk.out.bit k (by omega)
    rw [hbv] at hbit;have hsl:=trnS_lt Hok.out t hkn;rw [hsk] at hsl
    have cM:∀w',Below wq.heap.size wq w'→Calls Tryz.prog 14 #[.int .i64 (k:Nat),.pointer (some ⟨bm,0,none⟩),.pointer (some ⟨bt,0,none⟩)] w' fun e w''=>e=.returned (.int .i64 (sk:Nat))∧Below w'.heap.size w' w'':=fun w' hb=>by
     have:=turnMove w' bm bt q g v k u (HQk.out.below hb HQk.out.lt) hkn (bel_cell hb km) (bel_cell hb c3);rw [Ht.out,hsk] at this;exact this
    have cS:∀w',Below wq.heap.size wq w'→Calls Tryz.prog 16 #[.pointer (some ⟨p,0,none⟩),.int .i64 (sk:Nat),.bool bv] w' fun e w''=>∃rv,e=.returned rv∧(∃v',RGridAt w'' p (trnE g t (k+1)) v'∧0≤v'∧v'≤((k+1:Nat):Int))∧Kept [p] w' w'':=fun w' hb=>by
     refine (rSet_ed w' p (trnE g t k) vv sk bv (hRk.out.below hb hRk.out.lt) (by rw [trnE_n];exact hsl) (by omega)).mono ?_
     rintro e w'' ⟨h1,h2,h3⟩
     obtain ⟨z,hz⟩:∃z,vv+((if (trnE g t k).b sk=bv then 0 else 1:Nat):Int)=z:=⟨_,rfl⟩
     have hzb:0≤z∧z≤((k+1:Nat):Int):=by rw [←hz];split <;> omega
     rw [hz] at h2
     have h4:RGridAt w'' p (trnE g t (k+1)) z:=by
      show RGridAt w'' p (gset (trnE g t k) (trnS g t k) (g.b k)) z
      rw [hsk,hbv];exact h2
     exact ⟨_,h1,⟨z,h4,hzb.1,hzb.2⟩,h3⟩
    replace cM:=Lib.hid cM;replace cS:=Lib.hid cS;have hBQ:Below wq.heap.size wq wq.drew:=bel_drew (Below.refl _ _);have Hkk:=Lib.hid (And.intro km hbit);have kS:wq.drew.cell? ⟨bm,0,none⟩=some (.pointer (some ⟨q,0,none⟩))∧wq.drew.cell? ⟨q,2+k,none⟩=some (.bool bv):=⟨bel_cell hBQ km,bel_cell hBQ hbit⟩
    have r1:(k:Int)<256:=by omega
    have r2:k<256:=by omega
    have r3:(0:Int)≤(k:Int):=by omega
    clear hsk hbv hsl hbit hd6 hww hdk kw kh
    go_region_held3 (fun w'=>w'.cell? ⟨bm,0,none⟩=some (.pointer (some ⟨q,0,none⟩))∧w'.cell? ⟨q,2+k,none⟩=some (.bool bv))
     (first
      | with_reducible exact kS)
     (first
      | (go_at_call 14
         with_reducible refine (cM.out _ hBQ).mono ?_
         rintro e wM ⟨rfl,hbM⟩;have hBQ:=bel_trans hBQ hbM;have kS:wM.cell? ⟨bm,0,none⟩=some (.pointer (some ⟨q,0,none⟩))∧wM.cell? ⟨q,2+k,none⟩=some (.bool bv):=⟨bel_cell hBQ Hkk.out.1,bel_cell hBQ Hkk.out.2⟩)
      | (go_at_call 16
         with_reducible refine (cS.out _ hBQ).mono ?_
         rintro e wS ⟨rv,rfl,hv',hkS⟩
         have kS:wS.cell? ⟨bm,0,none⟩=some (.pointer (some ⟨q,0,none⟩))∧wS.cell? ⟨q,2+k,none⟩=some (.bool bv):=⟨keptc hkS (by simp [hbmp]) (bel_cell hBQ Hkk.out.1),keptc hkS (by simp [hqp]) (bel_cell hBQ Hkk.out.2)⟩))
    all_goals
     obtain ⟨v',g1,g2',g3'⟩:=hv';have hF:=Lib.hid (And.intro g1 (And.intro g2' (And.intro g3' ((hK.out.trans (.of_below hBQ)).trans hkS))));clear g1 g2' g3' hkS kS hBQ cM cS;go_wp2;go_roundw
     case rel=>first | exact ⟨k+1,v',by omega,by go_num,hF.out⟩ | ((repeat apply Exists.intro);exact ⟨⟨k+1,v',by omega,by go_num,hF.out⟩,rfl⟩)
     case measure=>simp [intOf];omega
   ·obtain rfl:nn=k:=by omega
    have hdk:decide ((nn:Int)<(g.w:Int)*g.h)=false:=by have:=Hen.out;have:=Hnn.out;simp;omega
    have Hv:=Lib.hid (And.intro hv0 hv1)
    go_upto_region 13 with (fail)
    go_quiet (fail);have hd6:Below wr.heap.size wr (wr.drewN nq):=bel_drewN (Below.refl _ _);go_wp2_with fail
    generalize wr.drewN nq=wq at hd6 ⊢
    have hRs:=hRk.out.below hd6 hRk.out.lt;have htr:=trnE_all Hok.out t;have hgk:=trn_ok Hok.out htr;rw [Hnn.out] at htr hgk;obtain ⟨gf,hgf⟩:∃z,trnE g t nn=z:=⟨_,rfl⟩;rw [hgf] at hRs htr hgk;have Htr:=Lib.hid (And.intro htr hgk);have hKq:=hK.out.trans (.of_below hd6)
    have hHB:Below W0.heap.size W0 wq:=Kept.below HB7.out hKq HB7.out.size (fun i hi=>by simp at hi;omega)
    have HSw:=Lib.hid (show ServAt wq s g2 v2 m from ⟨T,HT.out.kept hKq (fun i hi=>by simp;exact hTp.out i hi)⟩)
    have HQq:=Lib.hid (HQk.out.below hd6 HQk.out.lt);have Hkm:=Lib.hid (And.intro (bel_cell hd6 km) (bel_cell hd6 c3));have HBw:=Lib.hid hHB;have cP:=Lib.hid (rPrint wq p gf vv hRs);have hm16:=HSw.out.most;have Hcd:=Lib.hid (And.intro hc hd);clear hRs htr hgk hgf hKq hHB hd6 hK hRk HQk km c3 kw kh hdk hww hv0 hv1 hlt hk hR7 hc hd HT hTp HQ7 Hk;refine cP.out.mono ?_;rintro e w8 ⟨rfl,hb8⟩;have HB8:=Lib.hid (bel_trans HBw.out hb8)
    have cL:=Lib.hid (navLoad_print w8 (hVV.out.below HB8.out) gf Htr.out.2 m hm16.1 hm16.2);replace HSw:=Lib.hid (HSw.out.below hb8);replace HQq:=Lib.hid (HQq.out.below hb8 HQq.out.lt);replace Hkm:=Lib.hid (And.intro (bel_cell hb8 Hkm.out.1) (bel_cell hb8 Hkm.out.2));clear cP hb8 hm16;go_wp2_with fail;refine cL.out.mono ?_;rintro e w9 ⟨s',g3,rfl,hld3,hS3,hb9⟩;have hsm:=hld3.2;obtain ⟨v3,hv3⟩:∃z,((cntB gf.b gf.n:Nat):Int)=z:=⟨_,rfl⟩
    rw [hv3] at hS3;have HS3:=Lib.hid hS3.serv;have HL3:=Lib.hid hsm;replace HSw:=Lib.hid (HSw.out.below hb9);replace HQq:=Lib.hid (HQq.out.below hb9 HQq.out.lt);replace Hkm:=Lib.hid (And.intro (bel_cell hb9 Hkm.out.1) (bel_cell hb9 Hkm.out.2));have HB9:=Lib.hid (bel_trans HB8.out hb9);clear hld3 hv3 hS3 hb9 cL hsm;have cA:=Lib.hid (navAsk w9 s g2 v2 m HSw.out (c:Nat) (d:Nat));go_wp2_with fail;refine cA.out.mono ?_
    rintro e w10 ⟨Wy1,⟨cs1,cd1⟩,er1,Aw1,mw1,hA1,rfl,hI1,hf1,hbA⟩
    go_upto_region 20 with (fail)
    refine wp_name ?_;intro W10 hWB;obtain ⟨b1,hb1⟩:∃z,w10.heap.size=z:=⟨_,rfl⟩
    have hbB:Below w10.heap.size w10 W10:=by rw [hWB];(repeat' (first | exact Below.refl _ _ | assumption | apply bel_drewN | apply bel_drew | apply bel_alloc | (refine bel_trans ?_ (by assumption))))
    have k10:W10.cell? ⟨b1,0,none⟩=some (.slice Aw1 Wy1.length mw1):=by rw [hWB,←hb1];go_simp
    have k11:W10.cell? ⟨b1,1,none⟩=some (.int .i64 cs1):=by rw [hWB,←hb1];go_simp
    have k12:W10.cell? ⟨b1,2,none⟩=some (.int .i64 cd1):=by rw [hWB,←hb1];go_simp
    have k13:W10.cell? ⟨b1,3,none⟩=some (.int .i64 (er1:Nat)):=by rw [hWB,←hb1];go_simp
    try rw [hb1]
    have hbl1:w9.heap.size≤b1:=by rw [←hb1];exact hbA.size
    have hAB:=bel_trans hbA hbB;have HB10:=Lib.hid (bel_trans HB9.out hAB);replace hA1:=Lib.hid hA1;replace hI1:=Lib.hid (hI1.below hbB);replace hf1:=Lib.hid hf1;clear hWB hb1 hbA hbB cA;replace HSw:=Lib.hid (HSw.out.below hAB);replace HS3:=Lib.hid (HS3.out.below hAB);replace HQq:=Lib.hid (HQq.out.below hAB HQq.out.lt);replace Hkm:=Lib.hid (And.intro (bel_cell hAB Hkm.out.1) (bel_cell hAB Hkm.out.2))
    clear hAB;have cM1:=turnMove W10 bm bt q g v c u HQq.out Hcd.out.1 Hkm.out.1 Hkm.out.2;rw [Ht.out] at cM1;obtain ⟨sa,hsa⟩:∃z,trnS g t c=z:=⟨_,rfl⟩;rw [hsa] at cM1;obtain ⟨sb,hsb⟩:∃z,trnS g t d=z:=⟨_,rfl⟩;have Hsab:=Lib.hid (And.intro hsa hsb);replace cM1:=Lib.hid cM1;clear hsa hsb;go_wp2_with fail;refine cM1.out.mono ?_;rintro e w11 ⟨rfl,hb11⟩;have cM2:=turnMove w11 bm bt q g v d u (HQq.out.below hb11 HQq.out.lt) Hcd.out.2 (bel_cell hb11 Hkm.out.1) (bel_cell hb11 Hkm.out.2)
    rw [Ht.out,Hsab.out.2] at cM2;replace cM2:=Lib.hid cM2;replace k11:=bel_cell hb11 k11;replace k12:=bel_cell hb11 k12;replace k13:=bel_cell hb11 k13;have HB11:=Lib.hid (bel_trans HB10.out hb11);replace HSw:=Lib.hid (HSw.out.below hb11);replace HS3:=Lib.hid (HS3.out.below hb11);clear hb11 cM1 k10;go_wp2_with fail;refine cM2.out.mono ?_;rintro e w12 ⟨rfl,hb12⟩;replace k11:=bel_cell hb12 k11;replace k12:=bel_cell hb12 k12
    replace k13:=bel_cell hb12 k13;have HB12:=Lib.hid (bel_trans HB11.out hb12);replace HSw:=Lib.hid (HSw.out.below hb12);replace HS3:=Lib.hid (HS3.out.below hb12);have cA:=Lib.hid (navAsk w12 s' g3 v3 m HS3.out (sa:Nat) (sb:Nat));clear hb12 cM2;go_wp2_with fail;refine cA.out.mono ?_;rintro e w13 ⟨W2,⟨cs2,cd2⟩,er2,A2,mw2,hA2,rfl,hI2,hf2,hb13⟩
    go_upto_region 21 with (fail)
    refine wp_name ?_;intro W13 hW13;obtain ⟨b2,hb2⟩:∃z,w13.heap.size=z:=⟨_,rfl⟩
    have hbB:Below w13.heap.size w13 W13:=by rw [hW13];(repeat' (first | exact Below.refl _ _ | assumption | apply bel_drewN | apply bel_drew | apply bel_alloc | (refine bel_trans ?_ (by assumption))))
    have k21:W13.cell? ⟨b2,1,none⟩=some (.int .i64 cs2):=by rw [hW13,←hb2];go_simp
    have k22:W13.cell? ⟨b2,2,none⟩=some (.int .i64 cd2):=by rw [hW13,←hb2];go_simp
    have k23:W13.cell? ⟨b2,3,none⟩=some (.int .i64 (er2:Nat)):=by rw [hW13,←hb2];go_simp
    rw [hb2];have hAB:=bel_trans hb13 hbB;replace k11:=bel_cell hAB k11;replace k12:=bel_cell hAB k12;replace k13:=bel_cell hAB k13;have HB13:=Lib.hid (bel_trans HB12.out hAB);replace HSw:=Lib.hid (HSw.out.below hAB);replace HS3:=Lib.hid (HS3.out.below hAB);have hemb:=(trn_emb Hok.out Htr.out.1).same HLd.out.2 HL3.out;have hcov:=(trn_cov Hok.out Htr.out.1).same HLd.out.2 HL3.out;rw [←Hsab.out.1,←Hsab.out.2] at hA2
    have hlt:=Hcd.out;rw [←HLd.out.2.n] at hlt;obtain ⟨hce,hee⟩:=hemb.ask HSw.out.ok HS3.out.ok hlt.1 hlt.2 hA1.out hA2;have hnn:=hemb.nodes hcov;have hdd:=hemb.degs hcov;cases hce;subst hee;have Hnd:=Lib.hid (And.intro hnn hdd);have cT:=Lib.hid (navStats W13 s g2 v2 m HSw.out);clear hW13 hb2 hbB hb13 hA2 hI2 hf2 cA hAB hemb hcov hlt hnn hdd;go_wp2_with fail;refine cT.out.mono ?_;rintro e w14 ⟨sn,sf,sd,se,sx,tp,rfl,hst,hb14⟩
    have Hst:=Lib.hid hst;clear hst cT
    go_upto_region 22 with (fail)
    refine wp_name ?_;intro W14 hW14;obtain ⟨b3,hb3⟩:∃z,w14.heap.size=z:=⟨_,rfl⟩
    have hbB:Below w14.heap.size w14 W14:=by rw [hW14];(repeat' (first | exact Below.refl _ _ | assumption | apply bel_drewN | apply bel_drew | apply bel_alloc | (refine bel_trans ?_ (by assumption))))
    have k32:W14.cell? ⟨b3,2,none⟩=some (.int .i64 (sd:Nat)):=by rw [hW14,←hb3];go_simp
    have k33:W14.cell? ⟨b3,3,none⟩=some (.int .i64 (se:Nat)):=by rw [hW14,←hb3];go_simp
    rw [hb3];have hAB:=bel_trans hb14 hbB;replace k11:=bel_cell hAB k11;replace k12:=bel_cell hAB k12;replace k13:=bel_cell hAB k13;replace k21:=bel_cell hAB k21;replace k22:=bel_cell hAB k22;replace k23:=bel_cell hAB k23;have HB14:=Lib.hid (bel_trans HB13.out hAB);have cT:=Lib.hid (navStats W14 s' g3 v3 m (HS3.out.below hAB));clear hW14 hb3 hbB hb14 hAB;go_wp2_with fail;refine cT.out.mono ?_;rintro e w15 ⟨sn2,sf2,sd2,se2,sx2,tp2,rfl,hst,hb15⟩
    obtain rfl:sd2=sd:=by rw [hst.2.2.1,Hst.out.2.2.1];exact Hnd.out.1
    obtain rfl:se2=se:=by rw [hst.2.2.2.1,Hst.out.2.2.2.1,Hnd.out.2]
    clear hst cT
    go_upto_region 23 with (fail)
    refine wp_name ?_;intro W15 hW15;obtain ⟨b4,hb4⟩:∃z,w15.heap.size=z:=⟨_,rfl⟩
    have hbB:Below w15.heap.size w15 W15:=by rw [hW15];(repeat' (first | exact Below.refl _ _ | assumption | apply bel_drewN | apply bel_drew | apply bel_alloc | (refine bel_trans ?_ (by assumption))))
    have k42:W15.cell? ⟨b4,2,none⟩=some (.int .i64 (sd2:Nat)):=by rw [hW15,←hb4];go_simp
    have k43:W15.cell? ⟨b4,3,none⟩=some (.int .i64 (se2:Nat)):=by rw [hW15,←hb4];go_simp
    rw [hb4];have hAB:=bel_trans hb15 hbB;replace k11:=bel_cell hAB k11;replace k12:=bel_cell hAB k12;replace k13:=bel_cell hAB k13;replace k21:=bel_cell hAB k21;replace k22:=bel_cell hAB k22;replace k23:=bel_cell hAB k23;replace k32:=bel_cell hAB k32;replace k33:=bel_cell hAB k33;have HF:=Lib.hid (bel_trans HB14.out hAB);clear hW15 hb4 hbB hb15 hAB;go_wp2_with fail;go_ret;exact ⟨rfl,HF.out⟩
end Go.Proofs.YtokhnobcincfjaaGreatDoor
