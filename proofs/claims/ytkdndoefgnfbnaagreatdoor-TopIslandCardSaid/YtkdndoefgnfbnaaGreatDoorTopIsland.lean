/- Lemmas of this claim: TopIsland. -/
import Derived.Test.YtkdndoefgnfbnaaGreatDoorKNavB50
import Derived.Test.YtkdndoefgnfbnaaGreatDoorKNavB48
import Derived.Test.YtkdndoefgnfbnaaGreatDoorStats
import Derived.Test.YtkdndoefgnfbnaaGreatDoorKNavB4
import Derived.Test.YtkdndoefgnfbnaaGreatDoorKNavB11
import Derived.Test.YtkdndoefgnfbnaaGreatDoorKNavB5
import Derived.Test.YtkdndoefgnfbnaaGreatDoorKNavB16
import Derived.Test.YtkdndoefgnfbnaaGreatDoorKNavB25
set_option linter.unusedVariables false
set_option linter.unusedSimpArgs false
/- The law TopIsland: for any plot, so many levels at most, and any cell, it returns true. -/
namespace Go.Proofs.YtkdndoefgnfbnaaGreatDoor
open Go.RowKit Go.Sort FR Go.Lib
theorem mem_upTo {p:Nat→Bool} {k:Nat} {z:Int}:z∈upTo p k↔∃c:Nat,z=c∧c<k∧p c=true:=by
 unfold upTo
 simp only [List.mem_map,List.mem_filter,List.mem_range]
 constructor
 ·rintro ⟨c,⟨h1,h2⟩,rfl⟩;exact ⟨c,rfl,h1,h2⟩
 ·rintro ⟨c,rfl,h1,h2⟩;exact ⟨c,⟨h1,h2⟩,rfl⟩
theorem upTo_free {p:Nat→Bool} {g:G} (h:∀c,p c=true→g.b c=false) (k:Nat):(upTo p k).length≤freeN g k:=by
 induction k with
 | zero=>simp [upTo]
 | succ k ih=>
  rw [freeN_succ]
  cases hp:p k with
  | true=>rw [upTo_yes hp,List.length_append,h k hp];simp;omega
  | false=>rw [upTo_no hp];omega
def mineB (L:List Int) (c:Int) (j:Nat):Bool:=(L.take j).any (fun z=>z == c)
theorem mineB_succ {L:List Int} {c z:Int} {j:Nat} (h:L[j]? = some z):mineB L c (j+1)=(mineB L c j || (z == c)):=by
 obtain ⟨h1,h2⟩:=List.getElem?_eq_some_iff.1 h
 unfold mineB
 rw [List.take_succ_eq_append_getElem h1,h2,List.any_append]
 simp
theorem mineB_all {p:Nat→Bool} {n c:Nat} (hc:c<n):mineB (upTo p n) (c:Nat) (upTo p n).length=p c:=by
 unfold mineB
 rw [List.take_length]
 cases hp:p c with
 | true=>rw [List.any_eq_true];exact ⟨c,mem_upTo.2 ⟨c,rfl,hc,hp⟩,by simp⟩
 | false=>
  rw [List.any_eq_false]
  intro z hz
  obtain ⟨c',rfl,_,h2⟩:=mem_upTo.1 hz
  intro e
  have:c'=c:=by simp at e;omega
  rw [this,hp] at h2
  cases h2
theorem rFault_eq (w : World) (q : Nat) (g : G) (v x z : Int) (h : RGridAt w q g v) (e : ((g.fault x : Nat) : Int) = z) :
    Calls Tryz.prog 31 #[.pointer (some ⟨q,0,none⟩),.int .i64 x] w fun e w'=>e=.returned (.int .i64 z)∧Below w.heap.size w w':=by
 rw [←e];exact rFault w q g v x h
theorem SameG.free {g2 g:G} (h:SameG g2 g):freeN g2 g2.n=freeN g g.n:=by
 rw [h.n]
 unfold freeN
 exact cntB_congr fun c hc=>by rw [h.2.2 c hc]
set_option maxRecDepth 100000 in
set_option maxHeartbeats 6400000 in
theorem topIsland (W0 : World) (hV : LibS W0) (a b : Int) (A0 : Option Addr) (n0 m0 : Nat) (f0 : Nat → Int) (h0 : SlI W0 A0 n0 f0) (mx : Int) (hmx : -9223372036854775808 ≤ mx ∧ mx ≤ 9223372036854775807)
    (x:Int) (hx:-9223372036854775808≤x∧x≤9223372036854775807) :
    Calls Tryz.prog 9 #[.agg #[.int .i64 a,.int .i64 b,.slice A0 n0 m0],.int .i64 mx,.int .i64 x] W0 fun e w'=>e=.returned (.bool true)∧Below W0.heap.size W0 w':=by
 clear hmx hx
 obtain ⟨hI0,hl0,_⟩:=h0
 replace hl0:=Lib.hid hl0
 replace hV:=Lib.hid hV
 go_enter Tryz.func9,Tryz.ntmps9
 go_upto_region 1 with (fail)
 refine wp_name ?_
 intro W hW
 have HW:Below W0.heap.size W0 W:=by rw [hW];(repeat' (first | exact Below.refl _ _ | assumption | apply bel_drewN | apply bel_drew | apply bel_alloc | (refine bel_trans ?_ (by assumption))))
 have c0:W.cell? ⟨W0.heap.size,0,none⟩=some (.int .i64 a):=by rw [hW];go_simp
 have c1:W.cell? ⟨W0.heap.size,1,none⟩=some (.int .i64 b):=by rw [hW];go_simp
 have c2:W.cell? ⟨W0.heap.size,2,none⟩=some (.slice A0 n0 m0):=by rw [hW];go_simp
 clear hW
 go_wp2_with fail
 refine (works_true _).mono ?_
 rintro e w1 ⟨rfl,hb1⟩
 have HB1:=bel_trans HW hb1
 replace c0:=bel_cell hb1 c0
 replace c1:=bel_cell hb1 c1
 replace c2:=bel_cell hb1 c2
 have cS:=Lib.hid (serve_any w1 (hV.out.below HB1) a b A0 n0 m0 f0 (hI0.below HB1) hl0.out mx)
 clear HW hb1
 go_wp2_with fail
 refine cS.out.mono ?_
 rintro e w2 ⟨hb2,(⟨u1,u2,rfl⟩ | ⟨s,q,g,g2,v,m,rfl,hld,hq,hF,rfl⟩)⟩
 ·have HB2:=bel_trans HB1 hb2
  clear c0 c1 c2 cS hb2 HB1
  go_upto_region 5 with (fail)
  refine wp_region_quiet_below (by kernel_rfl) (by kernel_rfl) ?_
  repeat (first | go_big_quiet_step (fail) | quiet_step (fail))
  refine wpQuiet_nil ?_
  intro _ hw'
  obtain ⟨⟨dq,osq⟩,hw''⟩:=hw'
  have HB3:=bel_trans HB2 (below_regrown w2 dq osq)
  have hb2:=below_regrown w2 dq osq
  subst hw''
  generalize grow (redrawn w2 dq) osq=w3 at HB3 hb2 ⊢
  go_wp2_with fail
  go_ret
  exact ⟨rfl,HB3⟩
 have HB2:=Lib.hid (bel_trans HB1 hb2)
 have hw12:=HB1.size
 have hq0:W0.heap.size≤q:=by have:=hq.2.2.2.2;omega
 have HLd:=Lib.hid hld
 have HR:=Lib.hid hq.1
 have HQ:=Lib.hid (And.intro hq.2.1 (And.intro hq.2.2.1 (And.intro hq.2.2.2.1 hq0)))
 have hV2:=Lib.hid (hV.out.below HB2.out)
 obtain ⟨v2,hv2⟩:∃z,((cntB g.b g.n:Nat):Int)=z:=⟨_,rfl⟩
 rw [hv2] at hF
 have Hok:=Lib.hid HR.out.1
 have HS:=Lib.hid hF.serv
 have HF:=Lib.hid hF
 have Hv2:=Lib.hid hv2
 clear c0 c1 c2 cS hb2 HB1 hld hq hF hv2 hw12 hq0 hV
 have hgn:=G.n_le Hok.out
 have hn2:=HLd.out.2.n
 obtain ⟨s1,s2⟩:=HR.out.size
 obtain ⟨o1,o2,o3,o4⟩:=Hok.out
 have en:((g.n:Nat):Int)=(g.w:Int)*g.h:=by unfold G.n;simp
 have hw:IntKind.i64.wrap ((g.w:Int)*g.h)=(g.w:Int)*g.h:=IntWalk.i64_in _ (by omega)
 by_cases hbig:64<(g.w:Int)*g.h
 ·have hd:decide (64<(g.w:Int)*g.h)=true:=by simp;omega
  clear hbig en hgn
  have s1q:=cell_regrown s1
  have s2q:=cell_regrown s2
  have HRf:=Below.refl w2.heap.size w2
  go_upto_region 5 with (fail)
  refine wp_region_quiet_below (by kernel_rfl) (by kernel_rfl) ?_
  repeat (first | go_big_quiet_step (fail) | quiet_step (fail))
  refine wpQuiet_nil ?_
  intro _ hw'
  obtain ⟨⟨dq,osq⟩,hw''⟩:=hw'
  have HB3:=bel_trans HRf (below_regrown w2 dq osq)
  have hb2:=below_regrown w2 dq osq
  subst hw''
  generalize grow (redrawn w2 dq) osq=w3 at HB3 hb2 ⊢
  go_wp2_with fail
  go_ret
  exact ⟨rfl,bel_trans HB2.out HB3⟩
 have hd:decide (64<(g.w:Int)*g.h)=false:=by simp;omega
 have hn64:g.n≤64:=by omega
 clear hbig
 by_cases hf:g.fault x=0
 case neg=>
  obtain ⟨fz,hfz⟩:∃z:Int,((g.fault x:Nat):Int)=z:=⟨_,rfl⟩
  have hf0:decide (0<fz)=true:=by simp;omega
  have Hfz:=Lib.hid hfz
  have s1q:=cell_regrown s1
  have s2q:=cell_regrown s2
  have HRf:=Below.refl w2.heap.size w2
  clear en hgn hf hfz
  go_upto_region 5 with (fail)
  refine wp_region_quiet_below (by kernel_rfl) (by kernel_rfl) ?_
  repeat (first | go_big_quiet_step ((with_reducible exact Calls.regrown_of (rFault_eq _ q g v x fz (HR.out.below (below_regrown w2 _ _) HR.out.lt) Hfz.out))) | quiet_step ((with_reducible exact Calls.regrown_of (rFault_eq _ q g v x fz (HR.out.below (below_regrown w2 _ _) HR.out.lt) Hfz.out))))
  refine wpQuiet_nil ?_
  intro _ hw'
  obtain ⟨⟨dq,osq⟩,hw''⟩:=hw'
  have HB3:=bel_trans HRf (below_regrown w2 dq osq)
  have hb2:=below_regrown w2 dq osq
  subst hw''
  generalize grow (redrawn w2 dq) osq=w3 at HB3 hb2 ⊢
  go_wp2_with fail
  go_ret
  exact ⟨rfl,bel_trans HB2.out HB3⟩
 obtain ⟨fr,rfl,hfr,ffr⟩:=G.fault_zero hf
 have Hf:=Lib.hid (show ((g.fault (fr:Nat):Nat):Int)=0 by rw [hf];rfl)
 obtain ⟨R,hR⟩:=bool_of (fun c=>∃d,Walk g.E fr c d)
 have hRf:R fr=true:=(hR fr).2 ⟨_,.nil _⟩
 have hRo:∀c,R c=true→c<g.n∧g.b c=false:=fun c h=>by
  obtain ⟨d,hw⟩:=(hR c).1 h
  exact walk_open Hok.out hw hfr ffr
 have HRR:=Lib.hid (And.intro hR (And.intro hRf hRo))
 have Hfr:=Lib.hid (And.intro hfr ffr)
 have Hen:=Lib.hid en
 clear hR hRf hRo hfr ffr hf en
 have s1q:=cell_regrown s1
 have s2q:=cell_regrown s2
 have HRf:=Below.refl w2.heap.size w2
 go_upto_region 5 with (fail)
 refine wp_region_quiet_below (by kernel_rfl) (by kernel_rfl) ?_
 repeat (first | go_big_quiet_step ((with_reducible exact Calls.regrown_of (rFault_eq _ q g v (fr:Nat) 0 (HR.out.below (below_regrown w2 _ _) HR.out.lt) Hf.out))) | quiet_step ((with_reducible exact Calls.regrown_of (rFault_eq _ q g v (fr:Nat) 0 (HR.out.below (below_regrown w2 _ _) HR.out.lt) Hf.out))))
 refine wpQuiet_nil ?_
 intro _ hw'
 obtain ⟨⟨dq,osq⟩,hw''⟩:=hw'
 have HB3:=bel_trans HRf (below_regrown w2 dq osq)
 have hb2:=below_regrown w2 dq osq
 subst hw''
 generalize grow (redrawn w2 dq) osq=w3 at HB3 hb2 ⊢
 have hb3:=HB3
 replace HB3:=Lib.hid (bel_trans HB2.out hb3)
 have HR3:=Lib.hid (HR.out.below hb3 HR.out.lt)
 have HS3:=Lib.hid (HS.out.below hb3)
 clear hb2 hb3 s1 s2 s1q s2q
 go_wp2_with fail
 obtain ⟨nn,hnn⟩:∃z,g.n=z:=⟨_,rfl⟩
 have Hnn:=Lib.hid hnn
 rw [hnn] at hn64
 clear hgn hd hnn
 go_loopw [10,11,12] (fun lv fv iv wr=>∃(k:Nat),k≤nn∧iv=.int .i64 (k:Nat)∧fv=.int .i64 (freeN g k:Nat)∧OwnI wr w3.heap.size lv (upTo R k)∧Below w3.heap.size w3 wr) (fun _ _ iv _=>nn-(intOf iv).toNat)
 case atStart=>exact ⟨0,Nat.zero_le _,rfl,rfl,OwnI.nil _ _,Below.refl _ _⟩
 case round=>
  obtain ⟨k,hk,rfl,rfl,hO,hB⟩:=hrel
  have hl:=upTo_len R k
  obtain ⟨fk,hfk⟩:∃z,freeN g k=z:=⟨_,rfl⟩
  have hfk64:fk≤64:=by rw [←hfk];exact Nat.le_trans (freeN_le g k) (by omega)
  have Hfk:=Lib.hid hfk
  rw [hfk]
  have HBr:=Lib.hid hB
  have HO:=Lib.hid hO
  have HRr:=Lib.hid (HR3.out.below hB HR3.out.lt)
  obtain ⟨s1,s2⟩:=HRr.out.size
  clear hfk hB hO
  by_cases hlt:k<nn
  ·have hd:decide ((k:Int)<(g.w:Int)*g.h)=true:=by have:=Hen.out;have:=Hnn.out;simp;omega
   go_wp2_with fail
   go_quiet (fail)
   clear s1 s2 hd
   go_wp2_with fail
   have hd1:Below wr.heap.size wr (wr.drewN nq):=bel_drewN (Below.refl _ _)
   generalize wr.drewN nq=w4 at hd1 ⊢
   have HB4:=Lib.hid (bel_trans HBr.out hd1)
   have HO4:=Lib.hid (HO.out.below (B':=0) hd1)
   have HR4:=Lib.hid (HRr.out.below hd1 HRr.out.lt)
   have cA:=Lib.hid (navAsk w4 s g2 v2 m (HS3.out.below HB4.out) (fr:Nat) (k:Nat))
   clear HBr HO HRr hd1
   go_wp2_with fail
   refine cA.out.mono ?_
   rintro e w5 ⟨Wy,⟨cs,cd⟩,er,Aw,mw,hA,rfl,hI,hf,hb5⟩
   have hiff:=ask_zero Hok.out Hfr.out.1 Hfr.out.2 (by rw [Hnn.out];exact hlt) (HLd.out.2.ask hA)
   rw [←HRR.out.1 k] at hiff
   have HB5:=Lib.hid (bel_trans HB4.out hb5)
   have HO5:=Lib.hid (HO4.out.below (B':=0) hb5)
   have HR5:=Lib.hid (HR4.out.below hb5 HR4.out.lt)
   have hz5:=HB5.out.size
   obtain ⟨ez,hez⟩:∃z:Int,((er:Nat):Int)=z:=⟨_,rfl⟩
   rw [hez]
   have hfa:=fun (w:World)=>field_ans2 w (.slice Aw Wy.length mw) (.int .i64 cs) (.int .i64 cd) ez
   obtain ⟨t,ht⟩:∃t,R k=t:=⟨_,rfl⟩
   have htz:(ez == 0)=t:=by
    rw [←ht]
    cases hRk:R k with
    | true=>have:=hiff.2 hRk;simp;omega
    | false=>
     have:er≠0:=fun e=>by rw [hiff.1 e] at hRk;cases hRk
     simp;omega
   have Ht:=Lib.hid ht
   obtain ⟨u,hu⟩:∃u,g.b k=u:=⟨_,rfl⟩
   have hfs:freeN g (k+1)=fk+(if (!u)=true then 1 else 0):=by rw [freeN_succ,Hfk.out,hu]
   have Hfs:=Lib.hid hfs
   have Hu:=Lib.hid hu
   have p0:(0:Int)≤(k:Int):=by omega
   have p1:(k:Int)<256:=by omega
   clear hA hI hf hb5 hiff cA ht hu hfs hez HB4 HO4 HR4
   cases t with
   | true=>
    have eL:=Lib.hid (upTo_yes (p:=R) Ht.out)
    go_upto_region 14 with (at_builtin;refine wpList_append_int _ rfl _ _ rfl w3.heap.size _ _ _ rfl (HO5.out.alloc _) ⟨w5.heap.size,0,none⟩ rfl (cell1_new _ _ _) (by omega) (by simp;omega) ?_;intro v' w6 hown6 hgrow)
    have HB6:=Lib.hid (below_grown (HB5.out.alloc (by omega) (.cells #[.int .i64 (k:Nat)] 3)) (by simp;omega) (HO5.out.alloc _) hgrow)
    have h36:=HB6.out
    have hq6:Below w3.heap.size w3 w6:=HB6.out
    have HR6:=HR3.out.below hq6 HR3.out.lt
    have hbit:=HR6.bit k (by omega)
    rw [Hu.out] at hbit
    have hX6:=Lib.hid hown6
    clear hown6 hgrow htz hfa HR6 h36 hq6
    cases u with
    | true=>
     have e2:=Lib.hid (show freeN g (k+1)=fk by rw [Hfs.out];simp)
     go_wp2
     go_roundw
     case rel=>first | exact ⟨k+1,by omega,by go_num,by rw [e2.out],by rw [eL.out];exact hX6.out,HB6.out⟩ | ((repeat apply Exists.intro);exact ⟨⟨k+1,by omega,by go_num,by rw [e2.out],by rw [eL.out];exact hX6.out,HB6.out⟩,rfl⟩)
     case measure=>simp [intOf];omega
    | false=>
     have e2:=Lib.hid (show freeN g (k+1)=fk+1 by rw [Hfs.out];simp)
     go_wp2
     go_roundw
     case rel=>first | exact ⟨k+1,by omega,by go_num,by rw [e2.out];go_num,by rw [eL.out];exact hX6.out,HB6.out⟩ | ((repeat apply Exists.intro);exact ⟨⟨k+1,by omega,by go_num,by rw [e2.out];go_num,by rw [eL.out];exact hX6.out,HB6.out⟩,rfl⟩)
     case measure=>simp [intOf];omega
   | false=>
    have eL:=Lib.hid (upTo_no (p:=R) Ht.out)
    have hbit:=HR5.out.bit k (by omega)
    rw [Hu.out] at hbit
    cases u with
    | true=>
     have e2:=Lib.hid (show freeN g (k+1)=fk by rw [Hfs.out];simp)
     go_wp2
     go_roundw
     case rel=>first | exact ⟨k+1,by omega,by go_num,by rw [e2.out],by rw [eL.out];exact HO5.out,HB5.out⟩ | ((repeat apply Exists.intro);exact ⟨⟨k+1,by omega,by go_num,by rw [e2.out],by rw [eL.out];exact HO5.out,HB5.out⟩,rfl⟩)
     case measure=>simp [intOf];omega
    | false=>
     have e2:=Lib.hid (show freeN g (k+1)=fk+1 by rw [Hfs.out];simp)
     go_wp2
     go_roundw
     case rel=>first | exact ⟨k+1,by omega,by go_num,by rw [e2.out];go_num,by rw [eL.out];exact HO5.out,HB5.out⟩ | ((repeat apply Exists.intro);exact ⟨⟨k+1,by omega,by go_num,by rw [e2.out];go_num,by rw [eL.out];exact HO5.out,HB5.out⟩,rfl⟩)
     case measure=>simp [intOf];omega
  ·obtain rfl:nn=k:=by omega
   obtain ⟨Ain,mIn,rfl,hIn⟩:=HO.out.ints
   have hpos:0<(upTo R nn).length:=List.length_pos_of_mem (mem_upTo.2 ⟨fr,rfl,by rw [←Hnn.out];exact Hfr.out.1,HRR.out.2.1⟩)
   have hle:(upTo R nn).length≤fk:=by rw [←Hfk.out];exact upTo_free (fun c hc=>(HRR.out.2.2 c hc).2) nn
   have hall:∀c,c<nn→mineB (upTo R nn) (c:Nat) (upTo R nn).length=R c:=fun c hc=>mineB_all hc
   have hmem:∀(j:Nat) (z:Int),(upTo R nn)[j]? = some z→∃c:Nat,z=c∧R c=true:=fun j z hz=>by
    obtain ⟨c,h1,_,h2⟩:=mem_upTo.1 (List.mem_of_getElem? hz)
    exact ⟨c,h1,h2⟩
   obtain ⟨L,hL⟩:∃z,upTo R nn=z:=⟨_,rfl⟩
   rw [hL] at hIn hpos hle hall hmem ⊢
   obtain ⟨nL,hnL⟩:∃z,L.length=z:=⟨_,rfl⟩
   rw [hnL] at hIn hpos hle hall ⊢
   have HnL:=Lib.hid hnL
   have Hall:=Lib.hid hall
   have Hmem:=Lib.hid hmem
   have HIn:=Lib.hid hIn
   have hd:decide ((nn:Int)<(g.w:Int)*g.h)=false:=by have:=Hen.out;have:=Hnn.out;simp;omega
   clear hL hnL hall hmem hIn HO hl hlt
   go_wp2_with fail
   go_quiet (fail)
   clear s1 s2 hd
   go_wp2_with fail
   have hd1:Below wr.heap.size wr (wr.drewN nq):=bel_drewN (Below.refl _ _)
   generalize wr.drewN nq=w7 at hd1 ⊢
   have HB7:=Lib.hid (bel_trans HBr.out hd1)
   have HI7:=Lib.hid (HIn.out.below hd1)
   have cT:=Lib.hid (navStats w7 s g2 v2 m (HS3.out.below HB7.out))
   have d1:(((nL:Nat):Int) == 0)=false:=by simp;omega
   have d2:decide (fk<nL)=false:=by simp;omega
   clear hd1 HBr HRr HIn
   go_wp2_with fail
   refine cT.out.mono ?_
   rintro e w8 ⟨sn,sf,sd,se,sa,tp,rfl,hst,hb8⟩
   have hsf:sf=fk:=by rw [hst.2.1,HLd.out.2.free,Hnn.out,Hfk.out]
   subst hsf
   have hfd:=fun (w:World)=>field_stat1 w (.int .i64 (sn:Nat)) (.int .i64 (sd:Nat)) (.int .i64 (se:Nat)) (.int .i64 (sa:Nat)) (.int .i64 (tp:Nat)) (.int .i64 v2) (sf:Nat)
   have HB8:=Lib.hid (bel_trans HB7.out hb8)
   have HI8:=Lib.hid (HI7.out.below hb8)
   have HS8:=Lib.hid (HS3.out.below HB8.out)
   have HR8:=Lib.hid (HR3.out.below HB8.out HR3.out.lt)
   clear hst hb8 cT HB7 HI7
   go_wp2_with fail
   clear hfd d1 d2
   go_loopw [13] (fun iv wr=>∃(k:Nat),k≤nn∧iv=.int .i64 (k:Nat)∧Below w8.heap.size w8 wr) (fun iv _=>nn-(intOf iv).toNat)
   case atStart=>exact ⟨0,Nat.zero_le _,rfl,Below.refl _ _⟩
   case round=>
    obtain ⟨k,hk,rfl,hB⟩:=hrel
    have HBr:=Lib.hid hB
    have HRr:=Lib.hid (HR8.out.below hB HR8.out.lt)
    obtain ⟨s1,s2⟩:=HRr.out.size
    clear hB
    by_cases hlt:k<nn
    ·have hd:decide ((k:Int)<(g.w:Int)*g.h)=true:=by have:=Hen.out;have:=Hnn.out;simp;omega
     go_wp2_with fail
     go_quiet (fail)
     clear s1 s2 hd
     go_wp2_with fail
     have hd1:Below wr.heap.size wr (wr.drewN nq):=bel_drewN (Below.refl _ _)
     generalize wr.drewN nq=w9 at hd1 ⊢
     have HB9:=Lib.hid (bel_trans HBr.out hd1)
     clear hd1 HBr HRr
     obtain ⟨wp,rfl⟩:∃wp:World,wp=wr:=⟨_,rfl⟩
     go_loopw [14,15] (fun mv jv wr=>∃(j:Nat),j≤nL∧jv=.int .i64 (j:Nat)∧mv=.bool (mineB L (k:Nat) j)∧Below w8.heap.size w8 wr) (fun _ jv _=>nL-(intOf jv).toNat)
     case atStart=>exact ⟨0,Nat.zero_le _,rfl,rfl,HB9.out⟩
     case round=>
      obtain ⟨j,hj,rfl,rfl,hB⟩:=hrel
      have HBr:=Lib.hid hB
      by_cases hjl:j<nL
      ·obtain ⟨z,hz⟩:∃z,L[j]? = some z:=⟨_,List.getElem?_eq_getElem (by have:=HnL.out;omega)⟩
       have hms:=mineB_succ (c:=((k:Nat):Int)) hz
       obtain ⟨ad,hAe,_,hc⟩:=HI8.out.below hB (by omega)
       have hcz:=hc j hjl
       simp only [List.getD_eq_getElem?_getD,hz,Option.getD_some] at hcz
       have hix:=fun wx=>idx_run (A:=Ain) (m:=mIn) hAe hjl wx
       obtain ⟨te,hte⟩:∃t,(z == ((k:Nat):Int))=t:=⟨_,rfl⟩
       rw [hte] at hms
       obtain ⟨tm,htm⟩:∃t,mineB L (k:Nat) j=t:=⟨_,rfl⟩
       rw [htm] at hms ⊢
       have Hms:=Lib.hid hms
       clear hz hAe hc hms htm hB
       cases tm with
       | true=>
        go_wp2
        go_roundw
        case rel=>first | exact ⟨j+1,by omega,by go_num,by rw [Hms.out];rfl,HBr.out⟩ | ((repeat apply Exists.intro);exact ⟨⟨j+1,by omega,by go_num,by rw [Hms.out];rfl,HBr.out⟩,rfl⟩)
        case measure=>simp [intOf];omega
       | false=>
        go_wp2
        go_roundw
        case rel=>first | exact ⟨j+1,by omega,by go_num,by rw [Hms.out];rfl,HBr.out⟩ | ((repeat apply Exists.intro);exact ⟨⟨j+1,by omega,by go_num,by rw [Hms.out];rfl,HBr.out⟩,rfl⟩)
        case measure=>simp [intOf];omega
      ·obtain rfl:nL=j:=by omega
       obtain ⟨t,ht⟩:∃t,mineB L (k:Nat) nL=t:=⟨_,rfl⟩
       have htR:R k=t:=by rw [←ht,Hall.out k hlt]
       rw [ht]
       obtain ⟨nh,hnh⟩:∃z,nL / 2=z:=⟨_,rfl⟩
       have hnhl:nh<nL:=by omega
       obtain ⟨z,hz⟩:∃z,L[nh]? = some z:=⟨_,List.getElem?_eq_getElem (by have:=HnL.out;omega)⟩
       obtain ⟨c',rfl,hRc⟩:=Hmem.out nh z hz
       obtain ⟨ad,hAe,_,hc⟩:=HI8.out.below hB (by omega)
       have hcz:=hc nh hnhl
       simp only [List.getD_eq_getElem?_getD,hz,Option.getD_some] at hcz
       have hix:=fun wx=>idx_run (A:=Ain) (m:=mIn) hAe hnhl wx
       have eh:((nh:Nat):Int)=((nL:Nat):Int) / 2:=by rw [←hnh];simp
       have hix2:=hix
       rw [eh] at hix2
       have cA:=Lib.hid (navAsk wr s g2 v2 m (HS8.out.below hB) (c':Nat) (k:Nat))
       obtain ⟨hc1,hc2⟩:=HRR.out.2.2 c' hRc
       have Hc:=Lib.hid (And.intro hc1 hc2)
       have HtR:=Lib.hid htR
       have HRc:=Lib.hid hRc
       clear hz hAe hc ht htR hnh eh hc1 hc2 hRc hB hix
       go_wp2_with fail
       refine cA.out.mono ?_
       rintro e w5 ⟨Wy,⟨cs,cd⟩,er,Aw,mw,hA,rfl,hI,hf,hb5⟩
       have hiff:=ask_zero Hok.out Hc.out.1 Hc.out.2 (by rw [Hnn.out];exact hlt) (HLd.out.2.ask hA)
       have hiff2:er=0↔R k=true:=by
        rw [hiff,HRR.out.1 k]
        obtain ⟨d0,hd0⟩:=(HRR.out.1 c').1 HRc.out
        exact ⟨fun ⟨d,h⟩=>⟨_,hd0.trans h⟩,fun ⟨d,h⟩=>⟨_,(walk_rev hd0).trans h⟩⟩
       obtain ⟨ez,hez⟩:∃z:Int,((er:Nat):Int)=z:=⟨_,rfl⟩
       rw [hez]
       have hfa:=fun (w:World)=>field_ans2 w (.slice Aw Wy.length mw) (.int .i64 cs) (.int .i64 cd) ez
       have htz:(ez == 0)=t:=by
        rw [←HtR.out]
        cases hRk:R k with
        | true=>have:=hiff2.2 hRk;simp;omega
        | false=>
         have:er≠0:=fun e=>by rw [hiff2.1 e] at hRk;cases hRk
         simp;omega
       have HF:=Lib.hid (bel_trans HBr.out hb5)
       clear hA hI hf hb5 hiff hiff2 cA hez hcz hix2
       cases t with
       | true=>
        go_wp2
        go_roundw
        case rel=>first | exact ⟨k+1,by omega,by go_num,HF.out⟩ | ((repeat apply Exists.intro);exact ⟨⟨k+1,by omega,by go_num,HF.out⟩,rfl⟩)
        case measure=>simp [intOf];omega
       | false=>
        go_wp2
        go_roundw
        case rel=>first | exact ⟨k+1,by omega,by go_num,HF.out⟩ | ((repeat apply Exists.intro);exact ⟨⟨k+1,by omega,by go_num,HF.out⟩,rfl⟩)
        case measure=>simp [intOf];omega
    ·have hd:decide ((k:Int)<(g.w:Int)*g.h)=false:=by have:=Hen.out;have:=Hnn.out;simp;omega
     have HF:=Lib.hid (bel_trans HB3.out (bel_trans HB8.out HBr.out))
     go_wp2_with fail
     go_quiet (fail)
     clear s1 s2 hd
     go_wp2
     go_ret
     exact ⟨rfl,bel_drewN HF.out⟩
end Go.Proofs.YtkdndoefgnfbnaaGreatDoor
