/- Lemmas of this claim: Reach6, Reach7. -/
import Derived.Test.YtokhnobcincfjaaGreatDoorReach5
import Derived.Test.YtokhnobcincfjaaGreatDoorKNFr8
import Derived.Test.YtokhnobcincfjaaGreatDoorKNFr9
set_option linter.unusedVariables false
set_option linter.unusedSimpArgs false
set_option maxHeartbeats 3200000
set_option maxRecDepth 100000
namespace Go.Proofs.YtokhnobcincfjaaGreatDoor
open Go.RowKit Go.Sort FR
theorem corner_iff' {g:G} {c:Nat} (hc:c<g.n):cornerB g c=true↔g.Corner c:=by
 unfold cornerB G.Corner kd;simp only [Bool.and_eq_true,Bool.or_eq_true,Bool.not_eq_true']
 constructor
 ·rintro ⟨h0,((⟨⟨h1,h2⟩,h3⟩ | ⟨⟨h1,h2⟩,h3⟩) | ⟨⟨h1,h2⟩,h3⟩) | ⟨⟨h1,h2⟩,h3⟩⟩
  ·exact ⟨hc,h0,1,-1,by decide,by decide,h1,h2,h3⟩
  ·exact ⟨hc,h0,1,1,by decide,by decide,h1,h2,h3⟩
  ·exact ⟨hc,h0,-1,1,by decide,by decide,h1,h2,h3⟩
  ·exact ⟨hc,h0,-1,-1,by decide,by decide,h1,h2,h3⟩
 ·rintro ⟨_,h0,u,v,rfl | rfl,rfl | rfl,h1,h2,h3⟩
  ·exact ⟨h0,.inl (.inl (.inr ⟨⟨h1,h2⟩,h3⟩))⟩
  ·exact ⟨h0,.inl (.inl (.inl ⟨⟨h1,h2⟩,h3⟩))⟩
  ·exact ⟨h0,.inl (.inr ⟨⟨h1,h2⟩,h3⟩)⟩
  ·exact ⟨h0,.inr ⟨⟨h1,h2⟩,h3⟩⟩
def Bad (g:G) (ca cb:Nat) (k:Int×Int):Prop:=∃p q:Nat,k=((p:Int),(q:Int))∧g.OnA ca cb p q∧g.fcell ca cb p q≠ca∧g.fcell ca cb p q≠cb∧g.BkA ca cb p q∧cornerB g (g.fcell ca cb p q)=true
theorem fcell_lt {g:G} (hg:g.ok) {a b:Nat} (hb:b<g.n) (ha:a<g.n) {i j:Nat} (hi:i≤g.fI a b) (hj:j≤g.fJ a b):g.fcell a b i j<g.n:=by
 obtain ⟨h1,h2,h3,h4⟩:=G.f_in hg hb ha hi hj;unfold G.fcell
 exact G.cell_lt (by omega) (by omega)
theorem direct_yes {g:G} (hg:g.ok) {a b:Nat} (hb:b<g.n) (ha:a<g.n) (hn:g.Near a b) (h:∀k,natS (g.OnA a b) k→¬Bad g a b k):g.Direct a b:=by
 refine ⟨hn,fun k hk h1 h2 hm=>?_⟩
 obtain ⟨i,j,hi,hj,e,ho,hbk⟩:=(G.mid_iff hg hb ha).1 hm;refine h ((i:Int),(j:Int)) ⟨i,j,rfl,hi,hj,ho⟩ ⟨i,j,rfl,⟨hi,hj,ho⟩,?_,?_,⟨hi,hj,hbk⟩,?_⟩
 ·rw [←e];exact h1
 ·rw [←e];exact h2
 ·rw [←e];exact (corner_iff' hk.1).2 hk
theorem direct_no {g:G} (hg:g.ok) {a b:Nat} (hb:b<g.n) (ha:a<g.n) {k:Int×Int} (h:Bad g a b k):¬g.Direct a b:=by
 obtain ⟨p,q,_,⟨h1,h2,h3⟩,h4,h5,⟨_,_,h6⟩,h7⟩:=h;intro hd;exact hd.2 _ ((corner_iff' (fcell_lt hg hb ha h1 h2)).1 h7) h4 h5 ((G.mid_iff hg hb ha).2 ⟨p,q,h1,h2,rfl,h3,h6⟩)
theorem cellAt (w : World) (p : Nat) (g : G) (v : Int) (ca cb i j : Nat) (h : GridAt w p g v) (hca : ca < g.n) (hcb : cb < g.n) (hi : i ≤ g.fI ca cb) (hj : j ≤ g.fJ ca cb) :
    Calls Tryz.prog 105 #[.pointer (some ⟨p,0,none⟩),.int .i64 (g.fx ca cb i j),.int .i64 (g.fy ca cb i j)] w fun e w'=>e=.returned (.tuple #[.int .i64 (g.fcell ca cb i j:Nat),.nilIface])∧w=w':=by
 obtain ⟨h1,h2,h3,h4⟩:=G.f_in h.1 hcb hca hi hj;have:=gridCell_in w p g v _ _ h h1 h2 h3 h4
 have e:g.fy ca cb i j*g.w+g.fx ca cb i j=(g.fcell ca cb i j:Nat):=by
  unfold G.fcell G.cell;obtain ⟨x,hx⟩:=Int.eq_ofNat_of_zero_le h1;obtain ⟨y,hy⟩:=Int.eq_ofNat_of_zero_le h3;rw [hx,hy];simp
 rw [e] at this;exact this
def DirI (w2:World) (g:G) (ca cb mo r:Nat) (m:Int×Int→Option Value) (wr:World):Prop:=
 ∃left cnt,RangeAt kP wr mo r m left cnt∧(∀k,m k≠none→¬left k→¬Bad g ca cb k)∧Below w2.heap.size w2 wr
theorem DirI.next {w2 w4 wE : World} {g : G} {ca cb mo r cnt4 : Nat} {m : Int × Int → Option Value} {left : Int × Int → Prop} {k : Int × Int} (hrg4 : RangeAt kP w4 mo r m (fun j => left j ∧ j ≠ k) cnt4) (hno : ∀ k, m k ≠ none → ¬ left k → ¬ Bad g ca cb k) (hk : ¬ Bad g ca cb k)
    (hB4:Below w2.heap.size w2 w4) (hbE:Below w4.heap.size w4 wE):DirI w2 g ca cb mo r m wE∧wE.rangeLeft mo r=cnt4:=
 ⟨⟨_,cnt4,hrg4.below hbE,fun k' h1 h2=>by
  by_cases e:k'=k
  ·rw [e];exact hk
  ·exact hno k' h1 (fun h=>h2 ⟨h,e⟩),hB4.trans (hbE.mono hB4.size)⟩,(hrg4.below hbE).left_eq⟩
theorem reachDirect_ok (w : World) (p : Nat) (g : G) (v : Int) (ca cb : Nat) (t : Bool) (h : GridAt w p g v) (hca : ca < g.n) (hcb : cb < g.n) (ha : g.b ca = false) (hb : g.b cb = false) (ht : t = true ↔ g.Direct ca cb) :
    Calls Tryz.prog 142 #[.pointer (some ⟨p,0,none⟩),.int .i64 (ca:Nat),.int .i64 (cb:Nat)] w fun e w'=>e=.returned (.tuple #[.bool t,.nilIface])∧Below w.heap.size w w':=by
 have cF:=Lib.hid (free_ok w p g v ca cb h hca hcb ha hb);have hpl:=h.lt;have hok:=h.1;have hNn:=G.n_le hok
 have cN:=Lib.hid (fun w' h'=>newField w' p g v ca cb h' hca hcb)
 have H:=Lib.hid h
 obtain ⟨t1,ht1⟩:∃t1:Bool,t1=true↔g.Near ca cb:=by
  by_cases h:g.Near ca cb
  ·exact ⟨true,by simp [h]⟩
  ·exact ⟨false,by simp [h]⟩
 have ht1':t1=true↔natS (g.OnA ca cb) ((g.fI ca cb:Nat),(g.fJ ca cb:Nat)):=by
  rw [ht1,natS_at,G.near_on hok hcb hca]
  exact ⟨fun x=>⟨Nat.le_refl _,Nat.le_refl _,x⟩,fun x=>x.2.2⟩
 have Ht1:=Lib.hid ht1;have Ht1':=Lib.hid ht1';have Ht:=Lib.hid ht;have Hok:=Lib.hid hok;clear h hok ht1 ht1' ht;go_enter Tryz.func142,Tryz.ntmps142;go_wp2_with fail
 (with_reducible refine cF.out.mono ?_)
 rintro e w1 ⟨rfl,hb1⟩;have H1:=Lib.hid (H.out.below hb1 hpl);go_wp2_with fail
 (with_reducible refine (cN.out _ H1.out).mono ?_)
 rintro e w2 ⟨b,mo,mk,rfl,hF,hb2⟩;have HB:=bel_trans hb1 hb2;have cR:=Lib.hid (fieldReached w2 b p mo mk g v ca cb _ _ t1 hF Ht1'.out);have HF:=Lib.hid hF;clear hF hb1 hb2 H1;go_wp2_with fail
 (with_reducible refine cR.out.mono ?_)
 rintro e w3 ⟨rfl,hb3⟩;have HB:=bel_trans HB hb3;have HF3:=Lib.hid (HF.out.below hb3);clear HF hb3 cR
 cases t1 with
 | false=>
  have et:t=false:=by
   cases t with
   | false=>rfl
   | true=>have:=Ht1.out.2 (Ht.out.1 rfl).1;simp at this
  subst et;go_wp2;go_ret2;exact ⟨rfl,HB⟩
 | true=>
  have hnear:g.Near ca cb:=Ht1.out.1 rfl;have Hnear:=Lib.hid hnear;obtain ⟨_,_,_,_,_,_,_,k7,_⟩:=HF3.out.cell;obtain ⟨m,n,hM,hmS⟩:=HF3.out.on;have HmS:=Lib.hid hmS;clear hnear hmS Ht1 Ht1';go_wp2_with (at_range;refine wpList_rangeM rfl _ rfl kP_inj Tryz.underlying234 hM rfl ?_;intro w4 hrg4 hb4 hs4);go_frame;obtain ⟨r,hr⟩:∃z,w3.heap.size=z:=⟨_,rfl⟩
  rw [hr] at hrg4 ⊢
  have hstart:DirI w3 g ca cb mo r m w4:=⟨_,n,hrg4,fun k h1 h2=>absurd h1 h2,hb4⟩
  have hr3:w3.heap.size≤r:=by omega
  clear k7 hM hs4 hb4 hr hrg4
  go_loopw [] (fun wr=>DirI w3 g ca cb mo r m wr) (fun wr=>wr.rangeLeft mo r)
  case atStart=>exact hstart
  case round=>
   obtain ⟨left,cnt,hrg,hno,hB⟩:=hrel;clear hstart;have Hno:=Lib.hid hno;have hleft:=Lib.hid hrg.left_eq;clear hno;go_wp2_with (at_next;refine wpList_nextM rfl _ rfl kP_inj hrg rfl ?_ ?_)
   ·intro h0 hl
    have hd:=direct_yes Hok.out hcb hca Hnear.out (fun k hk=>Hno.out k (by
     rcases HmS.out k with ⟨x,_⟩ | ⟨_,y⟩
     ·rw [x];simp
     ·exact absurd hk y) (hl k.1 k.2))
    have et:t=true:=Ht.out.2 hd;clear hl hrg hd;subst et;go_wp2;go_ret2;exact ⟨rfl,bel_trans HB hB⟩
   ·intro kx ky u w5 cnt5 hmk hlk hrg5 hlt5 hk5 hs5 hen
    obtain ⟨p1,q1,hpq,hOn⟩:natS (g.OnA ca cb) (kx,ky):=by
     rcases HmS.out (kx,ky) with ⟨_,x⟩ | ⟨y,_⟩
     ·exact x
     ·rw [hmk] at y;cases y
    injection hpq with e1 e2
    subst e1;subst e2
    have hu:u=.bool true:=by
     rcases HmS.out ((p1:Int),(q1:Int)) with ⟨x,_⟩ | ⟨y,_⟩
     ·rw [hmk] at x;injection x
     ·rw [hmk] at y;cases y
    subst hu;have HOn:=Lib.hid hOn
    have HB5:Below w3.heap.size w3 w5:=Kept.below hB hk5 hB.size (by simp;exact hr3)
    have Hrg5:=Lib.hid hrg5;have hF5:=HF3.out.below HB5;have HF5:=Lib.hid hF5;clear hmk hlk hrg5 hk5 hs5 hOn hF5
    rw [show kP ((p1:Int),(q1:Int))=.agg #[.int .i64 (p1:Int),.int .i64 (q1:Int)] from rfl]
    replace hen:(Instr.entry (.pointer (some ⟨r,0,none⟩))).run Tryz.prog w5=.ok (.tuple #[.agg #[.int .i64 (p1:Int),.int .i64 (q1:Int)],.bool true]) w5:=hen
    go_upto_region 10 with (fail)
    refine wp_name ?_;intro W6 hW6
    have HW6:Below w5.heap.size w5 W6:=by rw [hW6];(repeat' (first | exact Below.refl _ _ | assumption | apply bel_drewN | apply bel_drew | apply bel_alloc | (refine bel_trans ?_ (by assumption))))
    have c0:W6.cell? ⟨w5.heap.size,0,none⟩=some (.int .i64 (p1:Nat)):=by rw [hW6];go_simp
    have c1:W6.cell? ⟨w5.heap.size,1,none⟩=some (.int .i64 (q1:Nat)):=by rw [hW6];go_simp
    have HF6:=Lib.hid (HF5.out.below HW6);obtain ⟨kb,hkb⟩:∃z,w5.heap.size=z:=⟨_,rfl⟩
    rw [hkb] at c0 c1 ⊢
    clear hW6 hen HF5 hkb;obtain ⟨c,hc⟩:∃c,g.fcell ca cb p1 q1=c:=⟨_,rfl⟩
    have hcn:c<g.n:=by rw [←hc];exact fcell_lt Hok.out hcb hca HOn.out.1 HOn.out.2.1
    have cP:=Lib.hid (fieldPlace W6 b p mo mk g v ca cb _ _ p1 q1 HF6.out HOn.out.1 HOn.out.2.1)
    have cC:=fun w' h'=>cellAt w' p g v ca cb p1 q1 h' hca hcb HOn.out.1 HOn.out.2.1
    rw [hc] at cC;have cC:=Lib.hid cC;have Hc:=Lib.hid hc;clear hc;go_wp2_with fail
    (with_reducible refine cP.out.mono ?_)
    rintro e w7 ⟨rfl,hb7⟩;have c0:=bel_cell hb7 c0;have c1:=bel_cell hb7 c1;have HW7:=bel_trans HW6 hb7;have HF7:=Lib.hid (HF6.out.below hb7);clear hb7 cP HF6 HW6;go_wp2_with fail
    (with_reducible refine (cC.out _ HF7.out.grid).mono ?_)
    rintro e w' ⟨rfl,rfl⟩;clear cC
    go_upto_region 12 with (fail)
    have hc0:(0:Int)≤(c:Int):=by omega
    obtain ⟨_,_,_,_,_,_,_,_,k8⟩:=HF7.out.cell;obtain ⟨t2,ht2,hl2⟩:=HF7.out.bk.look (p1:Int) (q1:Int);rw [natS_at] at ht2;have Ht2:=Lib.hid ht2;clear ht2
    have hl2:=fun a os=>hl2 _ (below_regrown w7 a os)
    have c0q:=cell_regrown c0;have c1q:=cell_regrown c1;have k8q:=cell_regrown k8;have HX:=Below.refl w7.heap.size w7
    by_cases e1:c=ca
    ·have hnb : ¬ Bad g ca cb ((p1 : Int), (q1 : Int)) := by
       rintro ⟨p2,q2,e,_,h1,_⟩
       injection e with e3 e4
       obtain rfl:p1=p2:=by omega
       obtain rfl:q1=q2:=by omega
       exact h1 (Hc.out.trans e1)
     have hnb:=Lib.hid hnb;subst e1
     refine wp_region_quiet_below (by kernel_rfl) (by kernel_rfl) ?_
     repeat (first | go_big_quiet_step (fail) | quiet_step (fail))
     refine wpQuiet_nil ?_;intro _ hw';obtain ⟨⟨dq,osq⟩,hw''⟩:=hw';have HY:=bel_trans HX (below_regrown w7 dq osq);have hb2:=below_regrown w7 dq osq;subst hw''
     generalize grow (redrawn w7 dq) osq=w8 at HY hb2 ⊢
     have HW8:=bel_trans HW7 HY;clear hb2 HY HX c0 c1 k8 c0q c1q k8q hl2 HW7;have hD:=DirI.next Hrg5.out Hno.out hnb.out HB5 HW8;obtain ⟨hD1,hD2⟩:=hD;have HD1:=Lib.hid hD1;have HD2:=Lib.hid hD2;clear hD1 hD2;go_wp2;go_roundw
     case rel=>first | exact HD1.out | ((repeat apply Exists.intro);exact ⟨HD1.out,rfl⟩)
     case measure=>rw [hleft.out,HD2.out];exact hlt5
    ·have e1':((c:Int) == (ca:Int))=false:=by rw [beq_eq_false_iff_ne];omega
     by_cases e2:c=cb
     ·have hnb : ¬ Bad g ca cb ((p1 : Int), (q1 : Int)) := by
        rintro ⟨p2,q2,e,_,_,h1,_⟩
        injection e with e3 e4
        obtain rfl:p1=p2:=by omega
        obtain rfl:q1=q2:=by omega
        exact h1 (Hc.out.trans e2)
      have hnb:=Lib.hid hnb;subst e2
      refine wp_region_quiet_below (by kernel_rfl) (by kernel_rfl) ?_
      repeat (first | go_big_quiet_step (fail) | quiet_step (fail))
      refine wpQuiet_nil ?_;intro _ hw';obtain ⟨⟨dq,osq⟩,hw''⟩:=hw';have HY:=bel_trans HX (below_regrown w7 dq osq);have hb2:=below_regrown w7 dq osq;subst hw''
      generalize grow (redrawn w7 dq) osq=w8 at HY hb2 ⊢
      have HW8:=bel_trans HW7 HY;clear hb2 HY HX c0 c1 k8 c0q c1q k8q hl2 HW7 e1 e1';have hD:=DirI.next Hrg5.out Hno.out hnb.out HB5 HW8;obtain ⟨hD1,hD2⟩:=hD;have HD1:=Lib.hid hD1;have HD2:=Lib.hid hD2;clear hD1 hD2;go_wp2;go_roundw
      case rel=>first | exact HD1.out | ((repeat apply Exists.intro);exact ⟨HD1.out,rfl⟩)
      case measure=>rw [hleft.out,HD2.out];exact hlt5
     ·have e2':((c:Int) == (cb:Int))=false:=by rw [beq_eq_false_iff_ne];omega
      cases t2 with
      | false=>
       have hnb:¬Bad g ca cb ((p1:Int),(q1:Int)):=by
        rintro ⟨p2,q2,e,_,_,_,h1,_⟩
        injection e with e3 e4
        obtain rfl:p1=p2:=by omega
        obtain rfl:q1=q2:=by omega
        have:=Ht2.out.2 h1;simp at this
       have hnb:=Lib.hid hnb
       refine wp_region_quiet_below (by kernel_rfl) (by kernel_rfl) ?_
       repeat (first | go_big_quiet_step (fail) | quiet_step (fail))
       refine wpQuiet_nil ?_;intro _ hw';obtain ⟨⟨dq,osq⟩,hw''⟩:=hw';have HY:=bel_trans HX (below_regrown w7 dq osq);have hb2:=below_regrown w7 dq osq;subst hw''
       generalize grow (redrawn w7 dq) osq=w8 at HY hb2 ⊢
       have HW8:=bel_trans HW7 HY;clear hb2 HY HX c0 c1 k8 c0q c1q k8q hl2 HW7 e1 e1' e2 e2';have hD:=DirI.next Hrg5.out Hno.out hnb.out HB5 HW8;obtain ⟨hD1,hD2⟩:=hD;have HD1:=Lib.hid hD1;have HD2:=Lib.hid hD2;clear hD1 hD2;go_wp2;go_roundw
       case rel=>first | exact HD1.out | ((repeat apply Exists.intro);exact ⟨HD1.out,rfl⟩)
       case measure=>rw [hleft.out,HD2.out];exact hlt5
      | true=>
       refine wp_region_quiet_below (by kernel_rfl) (by kernel_rfl) ?_
       repeat (first | go_big_quiet_step (fail) | quiet_step (fail))
       refine wpQuiet_nil ?_;intro _ hw';obtain ⟨⟨dq,osq⟩,hw''⟩:=hw';have HY:=bel_trans HX (below_regrown w7 dq osq);have hb2:=below_regrown w7 dq osq;subst hw''
       generalize grow (redrawn w7 dq) osq=w8 at HY hb2 ⊢
       have HW8:=bel_trans HW7 HY;have HF8:=Lib.hid (HF7.out.below HY);have E12:=Lib.hid (And.intro e1 e2);clear hb2 HY HX c0 c1 k8 c0q c1q k8q hl2 HW7 e1 e1' e2 e2';obtain ⟨cr,hcr⟩:∃z,cornerB g c=z:=⟨_,rfl⟩
       have cI:=fun w' h'=>cornerIs_in w' p g v c h' hcn
       rw [hcr] at cI;have cI:=Lib.hid cI;have Hcr:=Lib.hid hcr;clear hcr;go_wp2_with fail
       (with_reducible refine (cI.out _ HF8.out.grid).mono ?_)
       rintro e w9 ⟨rfl,hb9⟩;have HW9:=bel_trans HW8 hb9;clear hb9 HW8 cI
       cases cr with
       | true=>
        have hbad:Bad g ca cb ((p1:Int),(q1:Int)):=⟨p1,q1,rfl,HOn.out,by rw [Hc.out];exact E12.out.1,by rw [Hc.out];exact E12.out.2,Ht2.out.1 (by simp),by rw [Hc.out];exact Hcr.out⟩
        have hnd:=direct_no Hok.out hcb hca hbad
        have et:t=false:=by
         cases t with
         | false=>rfl
         | true=>exact absurd (Ht.out.1 rfl) hnd
        have HBE:=bel_trans HB (bel_trans HB5 HW9);clear hbad hnd;subst et;go_wp2;go_ret2;exact ⟨rfl,HBE⟩
       | false=>
        have hnb:¬Bad g ca cb ((p1:Int),(q1:Int)):=by
         rintro ⟨p2,q2,e,_,_,_,_,h1⟩
         injection e with e3 e4
         obtain rfl:p1=p2:=by omega
         obtain rfl:q1=q2:=by omega
         rw [Hc.out,Hcr.out] at h1
         cases h1
        have hnb:=Lib.hid hnb;have hD:=DirI.next Hrg5.out Hno.out hnb.out HB5 HW9;obtain ⟨hD1,hD2⟩:=hD;have HD1:=Lib.hid hD1;have HD2:=Lib.hid hD2;clear hD1 hD2;go_wp2;go_roundw
        case rel=>first | exact HD1.out | ((repeat apply Exists.intro);exact ⟨HD1.out,rfl⟩)
        case measure=>rw [hleft.out,HD2.out];exact hlt5
def wayL (g:G) (ca cb:Nat) (P:Nat→Nat×Nat) (n:Nat):List Int:=(List.range n).map fun k=>((g.fcell ca cb (P k).1 (P k).2:Nat):Int)
theorem wayL_succ (g:G) (ca cb:Nat) (P:Nat→Nat×Nat) (n:Nat):wayL g ca cb P (n+1)=wayL g ca cb P n ++ [((g.fcell ca cb (P n).1 (P n).2:Nat):Int)]:=by
 simp [wayL,List.range_succ]
theorem wayL_length (g:G) (ca cb:Nat) (P:Nat→Nat×Nat) (n:Nat):(wayL g ca cb P n).length=n:=by simp [wayL]
theorem OwnI.mono {w:World} {B B':Nat} {v:Value} {zs:List Int} (h:OwnI w B v zs) (hB:B'≤B):OwnI w B' v zs:=by
 refine ⟨h.1,?_⟩
 rcases h.2 with hn | ⟨g,cap,cur,rfl,hb,rest⟩
 ·exact .inl hn
 ·exact .inr ⟨g,cap,cur,rfl,Nat.le_trans hB hb,rest⟩
def WayRO (w:World) (g:G) (ca cb:Nat) (e:Ending) (w':World):Prop:=∃P,g.WayP ca cb P∧∃v,e=.returned (.tuple #[v,.nilIface])∧OwnI w' w.heap.size v (wayL g ca cb P (g.fI ca cb+g.fJ ca cb+1))∧Below w.heap.size w w'
def WayI (w2:World) (g:G) (ca cb:Nat) (P:Nat→Nat×Nat) (n k:Nat) (sl iv jv:Value) (wr:World):Prop:=
 k≤n∧iv=.int .i64 ((P k).1:Nat)∧jv=.int .i64 ((P k).2:Nat)∧OwnI wr w2.heap.size sl (wayL g ca cb P (k+1))∧Below w2.heap.size w2 wr
theorem reachWay_own (w : World) (p : Nat) (g : G) (v : Int) (ca cb : Nat) (h : GridAt w p g v) (hca : ca < g.n) (hcb : cb < g.n) (ha : g.b ca = false) (hb : g.b cb = false) (hn : g.Near ca cb) :
    Calls Tryz.prog 84 #[.pointer (some ⟨p,0,none⟩),.int .i64 (ca:Nat),.int .i64 (cb:Nat)] w (WayRO w g ca cb):=by
 have cF:=Lib.hid (reachNear_ok w p g v ca cb true h hca hcb ha hb (by simp [hn]))
 have hpl:=h.lt;have hok:=h.1;have hNn:=G.n_le hok
 have cN:=Lib.hid (fun w' h'=>newField w' p g v ca cb h' hca hcb)
 have H:=Lib.hid h;obtain ⟨P,hP⟩:=G.wayP_exist g ca cb;have HW:=Lib.hid (G.wayP_ok hok hcb hca hn hP);have Hok:=Lib.hid hok;have HP:=Lib.hid hP;obtain ⟨q1,q2⟩:=G.fI_le hok hcb hca;clear h hok hP hn;go_enter Tryz.func84,Tryz.ntmps84;go_wp2_with fail
 (with_reducible refine cF.out.mono ?_)
 rintro e w1 ⟨rfl,hb1⟩;go_wp2_with fail
 (with_reducible refine (cN.out _ (H.out.below hb1 hpl)).mono ?_)
 rintro e w2 ⟨b,mo,mk,rfl,hF,hb2⟩;have HB2:=bel_trans hb1 hb2;have HF:=Lib.hid hF;clear hF hb1 hb2 cF cN H;obtain ⟨I,hI⟩:∃z,g.fI ca cb=z:=⟨_,rfl⟩;obtain ⟨J,hJ⟩:∃z,g.fJ ca cb=z:=⟨_,rfl⟩;rw [hI] at q1;rw [hJ] at q2;have HIJ:=Lib.hid (And.intro hI hJ);clear hI hJ
 go_upto_region 8 with (fail)
 refine wp_name ?_;intro W hW
 have HW2:Below w2.heap.size w2 W:=by rw [hW];(repeat' (first | exact Below.refl _ _ | assumption | apply bel_drewN | apply bel_drew | apply bel_alloc | (refine bel_trans ?_ (by assumption))))
 have hO:OwnI W w2.heap.size (.slice (some ⟨w2.heap.size,0,none⟩) 1 1) (wayL g ca cb P 1):=by
  have e:wayL g ca cb P 1=[((ca:Nat):Int)]:=by
   unfold wayL;simp only [List.range_one,List.map_cons,List.map_nil];rw [HP.out.1,G.fcell_zero]
  rw [e,hW]
  refine ⟨rfl,.inr ⟨w2.heap.size,1,#[.int .i64 (ca:Nat)],rfl,Nat.le_refl _,?_,by simp,by decide,rfl,rfl⟩⟩
  exact heap_alloc_new w2 (.cells #[.int .i64 (ca:Nat)] 3 (0,0))
 have hP0:=HP.out.1
 have e1:(P 0).1=0:=by rw [hP0]
 have e2:(P 0).2=0:=by rw [hP0]
 have hstart:∃k,WayI w2 g ca cb P (I+J) k (.slice (some ⟨w2.heap.size,0,none⟩) 1 1) (.int .i64 0) (.int .i64 0) W:=⟨0,Nat.zero_le _,by rw [e1];rfl,by rw [e2];rfl,hO,HW2⟩
 clear hW HW2 hO hP0 e1 e2;go_wp2_with fail
 go_loopw [11,12,13] (fun sl iv jv wr=>∃k,WayI w2 g ca cb P (I+J) k sl iv jv wr) (fun _ iv jv _=>I+J-((intOf iv).toNat+(intOf jv).toNat))
 case atStart=>exact hstart
 case round=>
  obtain ⟨k,hk,rfl,rfl,hO,hB⟩:=hrel;clear hstart
  have hw:=HW.out k (by rw [HIJ.out.1,HIJ.out.2];exact hk)
  rw [HIJ.out.1,HIJ.out.2] at hw;have hnx:=HP.out.2 k;obtain ⟨⟨i,j⟩,hPk⟩:∃z,P k=z:=⟨_,rfl⟩
  rw [hPk] at hw hnx ⊢
  simp only at hw ⊢
  obtain ⟨w1',w2',w3',w4',w5'⟩:=hw;have Hnx:=Lib.hid hnx;have HPk:=Lib.hid hPk;have HOB:=Lib.hid (And.intro w4' w5');have Hij:=Lib.hid w3';have HF2:=HF.out.below hB;obtain ⟨_,_,_,_,_,k5,k6,_,_⟩:=HF2.cell;rw [HIJ.out.1] at k5;rw [HIJ.out.2] at k6;have HF2:=Lib.hid HF2;obtain ⟨A,mm,rfl,hI0⟩:=hO.ints;have hll:=wayL_length g ca cb P (k+1)
  rw [hll] at hO hI0 ⊢
  have Hll:=Lib.hid hll;have HO:=Lib.hid hO;clear hnx hPk w4' w5' hO hI0 hll
  by_cases hend:k<I+J
  ·go_upto_region 9 with (fail)
   go_cut [50] (fun s wx=>s=.bool true∧wx=wr)
   case first=>
    by_cases hi:i<I
    ·have hi':(i:Int)<(I:Int):=by omega
     go_wp2;go_meet
     case rel=>exact ⟨rfl,rfl⟩
    ·have hi':¬(i:Int)<(I:Int):=by omega
     have hj':(j:Int)<(J:Int):=by have:=Hij.out;omega
     go_wp2;go_meet
     case rel=>exact ⟨rfl,rfl⟩
   case rest=>
   obtain ⟨rfl,rfl⟩:=hcut;clear k5 k6;obtain ⟨td,htd⟩:∃t,dB g ca cb i j=t:=⟨_,rfl⟩;obtain ⟨ts,hts⟩:∃t,sB g ca cb i j=t:=⟨_,rfl⟩
   have cNx:=Lib.hid (fieldNext _ b p mo mk g v ca cb _ _ i j td ts HF2.out (by rw [HIJ.out.1];exact w1') (by rw [HIJ.out.2];exact w2') htd hts)
   have Htd:=Lib.hid htd;clear htd hts;go_wp2_with fail
   (with_reducible refine cNx.out.mono ?_)
   rintro e w4 ⟨rfl,hb4⟩;have HF4:=HF2.out.below hb4;have hB4:=bel_trans hB hb4;obtain ⟨_,_,_,_,_,_,_,_,k8⟩:=HF4.cell;obtain ⟨t2,ht2,hl2⟩:=HF4.bk.look ((i+1:Nat):Int) (j:Int);have hl2:=hl2 w4 (Below.refl _ _);rw [natS_at] at ht2
   rw [show (((i+1:Nat):Int))=(i:Int)+1 by omega] at hl2
   have hO4:=HO.out.below (B':=0) hb4;have HO4:=Lib.hid hO4;have HF4:=Lib.hid HF4;obtain ⟨⟨i',j'⟩,hP1⟩:∃z,P (k+1)=z:=⟨_,rfl⟩
   have hn1:=HW.out (k+1) (by rw [HIJ.out.1,HIJ.out.2];omega)
   rw [HIJ.out.1,HIJ.out.2,hP1] at hn1;simp only at hn1;obtain ⟨n1,n2,n3,n4,n5⟩:=hn1;have hx:=Hnx.out;rw [hP1] at hx
   have hsel:(td=true∧t2=true∧i'=i+1∧j'=j)∨((td=false∨t2=false)∧i'=i∧j'=j+1):=by
    rcases hx with ⟨x1,x2,x3⟩ | ⟨x1,x3⟩
    ·injection x3 with x3 x4
     exact .inl ⟨by rw [←Htd.out];exact dB_iff.2 x1,ht2.2 x2,x3,x4⟩
    ·injection x3 with x3 x4
     refine .inr ⟨?_,x3,x4⟩
     cases td with
     | false=>exact .inl rfl
     | true=>
      cases t2 with
      | false=>exact .inr rfl
      | true=>exact absurd ⟨dB_iff.1 Htd.out,ht2.1 rfl⟩ x1
   have Hsel:=Lib.hid hsel;have HP1:=Lib.hid hP1;clear hb4 ht2 hO4 hP1 n4 n5 hx hsel cNx hB
   go_upto_region 11 with (fail)
   obtain ⟨r,hr⟩:∃r,r=(td && t2):=⟨_,rfl⟩
   go_cut [69] (fun s wx=>s=.bool r∧wx=w4)
   case first=>
    cases td with
    | false=>
     have hr2:r=false:=by rw [hr];rfl
     clear hl2 hr;subst hr2;go_wp2;go_meet
     case rel=>exact ⟨rfl,rfl⟩
    | true=>
     have hr2:r=t2:=by rw [hr];rfl
     clear hr;subst hr2;go_wp2;go_meet
     case rel=>exact ⟨rfl,rfl⟩
   case rest=>
   obtain ⟨rfl,rfl⟩:=hcut
   have hsel2:(r=true∧i'=i+1∧j'=j)∨(r=false∧i'=i∧j'=j+1):=by
    rcases Hsel.out with ⟨rfl,rfl,h1,h2⟩ | ⟨h0 | h0,h1,h2⟩
    ·exact .inl ⟨hr,h1,h2⟩
    ·exact .inr ⟨by rw [hr,h0];rfl,h1,h2⟩
    ·exact .inr ⟨by rw [hr,h0];simp,h1,h2⟩
   have Hsel:=Lib.hid hsel2;clear hr hsel2 hl2 k8
   go_upto_if 69 with (fail)
   obtain ⟨w4,hw4⟩:∃z:World,wc=z:=⟨_,rfl⟩
   rw [hw4] at HO4 HF4 hB4 ⊢
   clear hw4
   go_cut [12,13] (fun iv jv wx=>iv=.int .i64 (i':Nat)∧jv=.int .i64 (j':Nat)∧wx=w4)
   case first=>
    rcases Hsel.out with ⟨rfl,rfl,rfl⟩ | ⟨rfl,rfl,rfl⟩
    ·go_wp2
     go_meet
     case rel=>exact ⟨by go_num,rfl,rfl⟩
    ·go_wp2
     go_meet
     case rel=>exact ⟨rfl,by go_num,rfl⟩
   case rest=>
   obtain ⟨rfl,rfl,hwc⟩:=hcut;have hwc:wc=w4:=hwc;rw [hwc];clear hwc Hsel
   have cP:=Lib.hid (fieldPlace w4 b p mo mk g v ca cb _ _ i' j' HF4.out (by rw [HIJ.out.1];exact n1) (by rw [HIJ.out.2];exact n2))
   have cC:=fun w' h'=>cellAt w' p g v ca cb i' j' h' hca hcb (by rw [HIJ.out.1];exact n1) (by rw [HIJ.out.2];exact n2)
   obtain ⟨c,hc⟩:∃c,g.fcell ca cb i' j'=c:=⟨_,rfl⟩;rw [hc] at cC;have cC:=Lib.hid cC
   have hnew:wayL g ca cb P (k+1+1)=wayL g ca cb P (k+1) ++ [((c:Nat):Int)]:=by rw [wayL_succ,HP1.out,hc]
   have Hnew:=Lib.hid hnew;have Hc:=Lib.hid hc;clear hc hnew;go_wp2_with fail
   (with_reducible refine cP.out.mono ?_)
   rintro e w7 ⟨rfl,hb7⟩;have HF7:=Lib.hid (HF4.out.below hb7);have HO7:=Lib.hid (HO4.out.below (B':=0) hb7);have hB7:=bel_trans hB4 hb7;clear hb7 cP HF4 HO4 hB4;go_wp2_with fail
   (with_reducible refine (cC.out _ HF7.out.grid).mono ?_)
   rintro e w' ⟨rfl,rfl⟩;clear cC
   have hml:(wayL g ca cb P (k+1)).length<1099511627776:=by rw [Hll.out];omega
   have hs7:=hB7.size;have hs2:=HB2.size
   go_wp2_with (at_builtin;(refine wpList_append_int _ rfl _ _ rfl w2.heap.size _ _ _ rfl (HO7.out.alloc _) ⟨w7.heap.size,0,none⟩ rfl (cell1_new _ _ _) hml (by simp;omega) ?_);intro v' w9 hown9 hgrow)
   have hB9:=below_grown (hB7.alloc (by omega) _) (by simp;omega) (HO7.out.alloc _) hgrow
   have hown9':OwnI w9 w2.heap.size v' (wayL g ca cb P (k+1+1)):=by rw [Hnew.out];exact hown9
   have hin:WayI w2 g ca cb P (I+J) (k+1) v' (.int .i64 (i':Nat)) (.int .i64 (j':Nat)) w9:=⟨by omega,by rw [HP1.out],by rw [HP1.out],hown9',hB9⟩
   have hin:=Lib.hid hin;clear hown9 hown9' hgrow HO7 hml hB9;go_wp2;go_roundw
   case rel=>first | exact ⟨k+1,hin.out⟩ | ((repeat apply Exists.intro);exact ⟨⟨k+1,hin.out⟩,rfl⟩)
   case measure=>have:=Hij.out;simp [intOf];omega
  ·have hwe:i=I∧j=J:=by have:=Hij.out;omega
   obtain ⟨rfl,rfl⟩:=hwe;have hek:k=i+j:=Hij.out.symm
   have hfin:WayRO w g ca cb (.returned (.tuple #[.slice A (k+1) mm,.nilIface])) wr:=by
    refine ⟨P,HP.out,?_⟩;rw [HIJ.out.1,HIJ.out.2];have hO:=HO.out
    rw [hek] at hO ⊢
    exact ⟨_,rfl,hO.mono HB2.size,bel_trans HB2 hB⟩
   clear HO;go_wp2;go_ret2;exact hfin
end Go.Proofs.YtokhnobcincfjaaGreatDoor
