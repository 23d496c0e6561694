/- Lemmas of this claim: Reach2, Reach3, Reach4. -/
import Derived.Test.YtokhnobcincfjaaGreatDoorReach1
import Derived.Test.YtokhnobcincfjaaGreatDoorKNFr6
import Derived.Maps.Own
import Derived.Deep.DeepCutAuto
import Derived.Deep.RegionHeld3
set_option linter.unusedVariables false
set_option linter.unusedSimpArgs false
set_option maxHeartbeats 3200000
set_option maxRecDepth 100000
namespace Go.Proofs.YtokhnobcincfjaaGreatDoor
open Go.RowKit Go.Sort FR
def dB (g:G) (ca cb i j:Nat):Bool:=decide (i<g.fI ca cb) && g.may (g.fx ca cb i j) (g.fy ca cb i j) (g.fdg ca cb)
def sB (g:G) (ca cb i j:Nat):Bool:=decide (j<g.fJ ca cb) && g.may (g.fx ca cb i j) (g.fy ca cb i j) (g.fst_ ca cb)
theorem dB_iff {g:G} {ca cb i j:Nat}:dB g ca cb i j=true↔g.dOk ca cb i j:=by unfold dB G.dOk;simp
theorem sB_iff {g:G} {ca cb i j:Nat}:sB g ca cb i j=true↔g.sOk ca cb i j:=by unfold sB G.sOk;simp
theorem fieldNext (w : World) (b gp mo mk : Nat) (g : G) (v : Int) (ca cb : Nat) (S T : Int × Int → Prop) (i j : Nat) (td ts : Bool) (h : FieldIn w b gp mo mk g v ca cb S T) (hi : i ≤ g.fI ca cb) (hj : j ≤ g.fJ ca cb) (htd : dB g ca cb i j = td) (hts : sB g ca cb i j = ts) :
    Calls Tryz.prog 140 #[.pointer (some ⟨b,0,none⟩),.int .i64 (i:Nat),.int .i64 (j:Nat)] w fun e w'=>e=.returned (.tuple #[.bool td,.bool ts])∧Below w.heap.size w w':=by
 have hok:=h.ok;obtain ⟨f1,f2,f3,f4⟩:=G.f_in hok h.cells.2 h.cells.1 hi hj;obtain ⟨o1,o2,o3,o4⟩:=hok;have cP:=fieldPlace w b gp mo mk g v ca cb S T i j h hi hj;obtain ⟨k0,k1,k2,k3,k4,k5,k6,k7,k8⟩:=h.cell;have hbl:=h.lt;have HG:=Lib.hid h.grid;have hpl:=h.grid.lt;unfold dB at htd;unfold sB at hts;obtain ⟨x,hx⟩:∃z,g.fx ca cb i j=z:=⟨_,rfl⟩;obtain ⟨y,hy⟩:∃z,g.fy ca cb i j=z:=⟨_,rfl⟩;rw [hx,hy] at cP htd hts
 rw [hx] at f1 f2;rw [hy] at f3 f4;obtain ⟨d,hd⟩:∃z,g.fdg ca cb=z:=⟨_,rfl⟩;obtain ⟨s,hs⟩:∃z,g.fst_ ca cb=z:=⟨_,rfl⟩
 have hd8:d<8:=by rw [←hd];exact dirN_lt _ _
 have hs8:s<8:=by rw [←hs];exact dirN_lt _ _
 rw [hd] at k3 htd;rw [hs] at k4 hts;obtain ⟨I,hI⟩:∃z,g.fI ca cb=z:=⟨_,rfl⟩;obtain ⟨J,hJ⟩:∃z,g.fJ ca cb=z:=⟨_,rfl⟩;rw [hI] at k5 hi htd;rw [hJ] at k6 hj hts;obtain ⟨m1,hm1⟩:∃z,g.may x y d=z:=⟨_,rfl⟩;obtain ⟨m2,hm2⟩:∃z,g.may x y s=z:=⟨_,rfl⟩;rw [hm1] at htd;rw [hm2] at hts
 have cM1:=Lib.hid (fun w' (hg:GridAt w' gp g v)=>May_eq w' gp g v x y d m1 hg hd8 (by unfold inP;omega) (by unfold inP;omega) hm1)
 have cM2:=Lib.hid (fun w' (hg:GridAt w' gp g v)=>May_eq w' gp g v x y s m2 hg hs8 (by unfold inP;omega) (by unfold inP;omega) hm2)
 have cP:=Lib.hid cP;clear hx hy hd hs hI hJ hm1 hm2 h k1 k2 k7 k8;go_enter Tryz.func140,Tryz.ntmps140;go_wp2_with fail
 (with_reducible refine cP.out.mono ?_)
 rintro e w1 ⟨rfl,hb1⟩;have k0:=bel_cell hb1 k0;have k3:=bel_cell hb1 k3;have k4:=bel_cell hb1 k4;have k5:=bel_cell hb1 k5;have k6:=bel_cell hb1 k6;have l1:=hb1.size;have k0q:=cell_regrown k0;have k3q:=cell_regrown k3;have k4q:=cell_regrown k4;have k5q:=cell_regrown k5;have k6q:=cell_regrown k6;have HG1:=Lib.hid (HG.out.below hb1 hpl);have hpl1:=HG1.out.lt;have HB:=Below.refl w1.heap.size w1
 by_cases c1:i<I <;> by_cases c2:j<J
 ·have e1:td=m1:=by rw [←htd];simp [c1]
  have e2:ts=m2:=by rw [←hts];simp [c2]
  subst e1;subst e2;clear htd hts
  have q1:(i:Int)<(I:Int):=by omega
  have q2:(j:Int)<(J:Int):=by omega
  go_upto_region 2 with (fail)
  refine wp_region_quiet_below (by kernel_rfl) (by kernel_rfl) ?_
  repeat (first | go_big_quiet_step ((with_reducible first | exact Calls.regrown_of (cM1.out _ (HG1.out.below (HB.trans ((below_regrown w1 _ _).mono HB.size)) hpl1)) | exact Calls.regrown_of (cM2.out _ (HG1.out.below (HB.trans ((below_regrown w1 _ _).mono HB.size)) hpl1)))) | quiet_step ((with_reducible first | exact Calls.regrown_of (cM1.out _ (HG1.out.below (HB.trans ((below_regrown w1 _ _).mono HB.size)) hpl1)) | exact Calls.regrown_of (cM2.out _ (HG1.out.below (HB.trans ((below_regrown w1 _ _).mono HB.size)) hpl1)))))
  refine wpQuiet_nil ?_;intro _ hw';obtain ⟨⟨dq,osq⟩,hw''⟩:=hw';have HB2:=bel_trans HB (below_regrown w1 dq osq);have hb2:=below_regrown w1 dq osq;subst hw''
  generalize grow (redrawn w1 dq) osq=w2 at HB2 hb2 ⊢
  go_wp2;go_ret2;exact ⟨rfl,bel_trans hb1 HB2⟩
 ·have e1:td=m1:=by rw [←htd];simp [c1]
  have e2:ts=false:=by rw [←hts];simp [c2]
  subst e1;subst e2;clear htd hts
  have q1:(i:Int)<(I:Int):=by omega
  have q2:¬(j:Int)<(J:Int):=by omega
  go_upto_region 2 with (fail)
  refine wp_region_quiet_below (by kernel_rfl) (by kernel_rfl) ?_
  repeat (first | go_big_quiet_step ((with_reducible exact Calls.regrown_of (cM1.out _ (HG1.out.below (HB.trans ((below_regrown w1 _ _).mono HB.size)) hpl1)))) | quiet_step ((with_reducible exact Calls.regrown_of (cM1.out _ (HG1.out.below (HB.trans ((below_regrown w1 _ _).mono HB.size)) hpl1)))))
  refine wpQuiet_nil ?_;intro _ hw';obtain ⟨⟨dq,osq⟩,hw''⟩:=hw';have HB2:=bel_trans HB (below_regrown w1 dq osq);have hb2:=below_regrown w1 dq osq;subst hw''
  generalize grow (redrawn w1 dq) osq=w2 at HB2 hb2 ⊢
  go_wp2;go_ret2;exact ⟨rfl,bel_trans hb1 HB2⟩
 ·have e1:td=false:=by rw [←htd];simp [c1]
  have e2:ts=m2:=by rw [←hts];simp [c2]
  subst e1;subst e2;clear htd hts
  have q1:¬(i:Int)<(I:Int):=by omega
  have q2:(j:Int)<(J:Int):=by omega
  go_upto_region 2 with (fail)
  refine wp_region_quiet_below (by kernel_rfl) (by kernel_rfl) ?_
  repeat (first | go_big_quiet_step ((with_reducible exact Calls.regrown_of (cM2.out _ (HG1.out.below (HB.trans ((below_regrown w1 _ _).mono HB.size)) hpl1)))) | quiet_step ((with_reducible exact Calls.regrown_of (cM2.out _ (HG1.out.below (HB.trans ((below_regrown w1 _ _).mono HB.size)) hpl1)))))
  refine wpQuiet_nil ?_;intro _ hw';obtain ⟨⟨dq,osq⟩,hw''⟩:=hw';have HB2:=bel_trans HB (below_regrown w1 dq osq);have hb2:=below_regrown w1 dq osq;subst hw''
  generalize grow (redrawn w1 dq) osq=w2 at HB2 hb2 ⊢
  go_wp2;go_ret2;exact ⟨rfl,bel_trans hb1 HB2⟩
 ·have e1:td=false:=by rw [←htd];simp [c1]
  have e2:ts=false:=by rw [←hts];simp [c2]
  subst e1;subst e2;clear htd hts
  have q1:¬(i:Int)<(I:Int):=by omega
  have q2:¬(j:Int)<(J:Int):=by omega
  go_upto_region 2 with (fail)
  refine wp_region_quiet_below (by kernel_rfl) (by kernel_rfl) ?_
  repeat (first | go_big_quiet_step (fail) | quiet_step (fail))
  refine wpQuiet_nil ?_;intro _ hw';obtain ⟨⟨dq,osq⟩,hw''⟩:=hw';have HB2:=bel_trans HB (below_regrown w1 dq osq);have hb2:=below_regrown w1 dq osq;subst hw''
  generalize grow (redrawn w1 dq) osq=w2 at HB2 hb2 ⊢
  go_wp2;go_ret2;exact ⟨rfl,bel_trans hb1 HB2⟩
theorem wp_mapUpdate_run {P : Program} {o : Oper} {a : Act} {w w' : World} {K : Act → World → Prop} {Q : Exit → Act → World → Prop} {mt : TypeId} (mo ko vo : Operand) (hop : o.op = .mapUpdate mt mo ko vo) (hd : o.dst = none)
    (hrun:(Instr.mapUpdate mt (a.eval mo) (a.eval ko) (a.eval vo)).run P w=.ok () w') (h:K a w'):o.wp P a w K Q:=by
 unfold Oper.wp;simp [execOp,hop,hrun,Result.andThen]
 show K (a.put o.dst undef) w'
 rw [hd];exact h
theorem wpList_mapUpdate_run {P : Program} {ops : Array Oper} {rest : List Oper} {o : Oper} {a : Act} {w w' : World} {Q : Exit → Act → World → Prop} {mt : TypeId} (hg : o.guard = none) (mo ko vo : Operand) (hop : o.op = .mapUpdate mt mo ko vo) (hd : o.dst = none)
    (hrun:(Instr.mapUpdate mt (a.eval mo) (a.eval ko) (a.eval vo)).run P w=.ok () w') (h:wpList P ops Q rest a w'):wpList P ops Q (o :: rest) a w:=by
 refine wpList_plain hg fun K' hK'=>?_
 exact wp_mapUpdate_run mo ko vo hop hd hrun (hK' _ _ h)
def SpreadD (w:World) (b gp mo mk:Nat) (g:G) (v:Int) (ca cb:Nat) (S T:Int×Int→Prop) (e:Ending) (w':World):Prop:=e=.returned (.tuple #[])∧FieldIn w' b gp mo mk g v ca cb S T∧Kept [mo,mk] w w'
theorem fieldSpread (w : World) (b gp mo mk : Nat) (g : G) (v : Int) (ca cb : Nat) (S T : Int × Int → Prop) (i j : Nat) (h : FieldIn w b gp mo mk g v ca cb S T) (hi : i ≤ g.fI ca cb) (hj : j ≤ g.fJ ca cb) :
    Calls Tryz.prog 193 #[.pointer (some ⟨b,0,none⟩),.map (some mo),.int .i64 (i:Nat),.int .i64 (j:Nat)] w
     (SpreadD w b gp mo mk g v ca cb (fun k=>S k∨(g.dOk ca cb i j∧k=(((i+1:Nat):Int),(j:Int)))∨(g.sOk ca cb i j∧k=((i:Int),((j+1:Nat):Int)))) T):=by
 obtain ⟨l1,l2⟩:=G.fI_le h.ok h.cells.2 h.cells.1;obtain ⟨td,htd⟩:∃t,dB g ca cb i j=t:=⟨_,rfl⟩;obtain ⟨ts,hts⟩:∃t,sB g ca cb i j=t:=⟨_,rfl⟩;have cN:=fieldNext w b gp mo mk g v ca cb S T i j td ts h hi hj htd hts;have CN:=Lib.hid cN;have H:=Lib.hid h;have Htd:=Lib.hid htd;have Hts:=Lib.hid hts;obtain ⟨n1,n2,n3,n4,n5⟩:=h.ne
 have hi15:i≤15:=by omega
 have hj15:j≤15:=by omega
 clear h hi hj l1 l2 htd hts cN;go_enter Tryz.func193,Tryz.ntmps193;go_wp2_with fail
 (with_reducible refine CN.out.mono ?_)
 rintro e w1 ⟨rfl,hb1⟩;have h1:=H.out.below hb1;obtain ⟨w2,hrun1,hS2,hK2⟩:=h1.on.put ((i+1:Nat):Int) (j:Int)
 have ei:(((i+1:Nat):Int))=(i:Int)+1:=by omega
 have ej:(((j+1:Nat):Int))=(j:Int)+1:=by omega
 -- what holds behind the first store,or without it
 have hmid:∃w3:World,(w3=if td=true then w2 else w1)∧FieldIn w3 b gp mo mk g v ca cb (fun k=>S k∨(g.dOk ca cb i j∧k=(((i+1:Nat):Int),(j:Int)))) T∧Kept [mo,mk] w w3:=by
  cases td with
  | true=>
   refine ⟨w2,rfl,⟨(hK2.block b h1.lt (by simpa using n1)).trans h1.hb,h1.grid.keptS hK2 (by simpa using n3),hS2.iff (fun k=>?_),h1.bk.kept hK2 (by simpa using Ne.symm n5),h1.ne,h1.cells⟩,(Kept.of_below hb1).trans (hK2.wid (by simp))⟩
   have:=dB_iff.1 Htd.out
   constructor
   ·rintro (x | x)
    ·exact .inl x
    ·exact .inr ⟨this,x⟩
   ·rintro (x | x)
    ·exact .inl x
    ·exact .inr x.2
  | false=>
   refine ⟨w1,rfl,⟨h1.hb,h1.grid,h1.on.iff (fun k=>?_),h1.bk,h1.ne,h1.cells⟩,Kept.of_below hb1⟩
   constructor
   ·exact .inl
   ·rintro (x | x)
    ·exact x
    ·exact absurd (dB_iff.2 x.1) (by rw [Htd.out];simp)
 obtain ⟨w3,hw3,h3,hK3⟩:=hmid;obtain ⟨w4,hrun2,hS4,hK4⟩:=h3.on.put (i:Int) ((j+1:Nat):Int);rw [ei] at hrun1;rw [ej] at hrun2
 have hfin:∀wE,(wE=if ts=true then w4 else w3)→SpreadD w b gp mo mk g v ca cb (fun k=>S k∨(g.dOk ca cb i j∧k=(((i+1:Nat):Int),(j:Int)))∨(g.sOk ca cb i j∧k=((i:Int),((j+1:Nat):Int)))) T (.returned (.tuple #[])) wE:=by
  intro wE hE
  cases ts with
  | true=>
   have hE:wE=w4:=hE;subst hE
   refine ⟨rfl,⟨(hK4.block b h3.lt (by simpa using n1)).trans h3.hb,h3.grid.keptS hK4 (by simpa using n3),hS4.iff (fun k=>?_),h3.bk.kept hK4 (by simpa using Ne.symm n5),h3.ne,h3.cells⟩,hK3.trans (hK4.wid (by simp))⟩
   have:=sB_iff.1 Hts.out
   constructor
   ·rintro ((x | x) | x)
    ·exact .inl x
    ·exact .inr (.inl x)
    ·exact .inr (.inr ⟨this,x⟩)
   ·rintro (x | x | x)
    ·exact .inl (.inl x)
    ·exact .inl (.inr x)
    ·exact .inr x.2
  | false=>
   have hE:wE=w3:=hE;subst hE
   refine ⟨rfl,⟨h3.hb,h3.grid,h3.on.iff (fun k=>?_),h3.bk,h3.ne,h3.cells⟩,hK3⟩
   constructor
   ·rintro (x | x)
    ·exact .inl x
    ·exact .inr (.inl x)
   ·rintro (x | x | x)
    ·exact .inl x
    ·exact .inr x
    ·exact absurd (sB_iff.2 x.1) (by rw [Hts.out];simp)
 have Hfin:=Lib.hid hfin;clear hfin hS2 hK2 hS4 hK4 h3 hK3 h1 hb1 ei ej
 cases td with
 | true=>
  have hwe:w3=w2:=hw3;clear hw3;subst hwe
  cases ts with
  | true=>
   go_wp2_with (at_mapUpdate;first | refine wpList_mapUpdate_run rfl _ _ _ rfl rfl hrun1 ?_ | refine wpList_mapUpdate_run rfl _ _ _ rfl rfl hrun2 ?_)
   go_end0;exact Hfin.out _ rfl
  | false=>
   clear hrun2;go_wp2_with (at_mapUpdate;refine wpList_mapUpdate_run rfl _ _ _ rfl rfl hrun1 ?_);go_end0;exact Hfin.out _ rfl
 | false=>
  have hwe:w3=w1:=hw3;clear hw3;have hrun2':=hrun2;rw [hwe] at hrun2';have hF2:=Hfin.out;rw [hwe] at hF2;have HF2:=Lib.hid hF2;clear hrun1 hwe hrun2 Hfin hF2
  cases ts with
  | true=>
   go_wp2_with (at_mapUpdate;refine wpList_mapUpdate_run rfl _ _ _ rfl rfl hrun2' ?_);go_end0;exact HF2.out _ rfl
  | false=>
   clear hrun2';go_wp2;go_end0;exact HF2.out _ rfl
def LeadD (w:World) (b gp mo mk:Nat) (g:G) (v:Int) (ca cb:Nat) (S T:Int×Int→Prop) (e:Ending) (w':World):Prop:=e=.returned (.tuple #[])∧FieldIn w' b gp mo mk g v ca cb S T∧Kept [mk] w w'
theorem fieldLead (w : World) (b gp mo mk : Nat) (g : G) (v : Int) (ca cb : Nat) (S T : Int × Int → Prop) (i j : Nat) (h : FieldIn w b gp mo mk g v ca cb S T) (hi : i ≤ g.fI ca cb) (hj : j ≤ g.fJ ca cb) :
    Calls Tryz.prog 194 #[.pointer (some ⟨b,0,none⟩),.int .i64 (i:Nat),.int .i64 (j:Nat)] w
     (LeadD w b gp mo mk g v ca cb S (fun k=>T k∨(((g.dOk ca cb i j∧T (((i+1:Nat):Int),(j:Int)))∨(g.sOk ca cb i j∧T ((i:Int),((j+1:Nat):Int))))∧k=((i:Int),(j:Int))))):=by
 obtain ⟨l1,l2⟩:=G.fI_le h.ok h.cells.2 h.cells.1;obtain ⟨td,htd⟩:∃t,dB g ca cb i j=t:=⟨_,rfl⟩;obtain ⟨ts,hts⟩:∃t,sB g ca cb i j=t:=⟨_,rfl⟩;have cN:=fieldNext w b gp mo mk g v ca cb S T i j td ts h hi hj htd hts;have CN:=Lib.hid cN;have H:=Lib.hid h;have Htd:=Lib.hid htd;have Hts:=Lib.hid hts;obtain ⟨n1,n2,n3,n4,n5⟩:=h.ne
 have hi15:i≤15:=by omega
 have hj15:j≤15:=by omega
 clear h hi hj l1 l2 htd hts cN;go_enter Tryz.func194,Tryz.ntmps194;go_wp2_with fail
 (with_reducible refine CN.out.mono ?_)
 rintro e w1 ⟨rfl,hb1⟩;have h1:=H.out.below hb1;obtain ⟨t1,ht1,hl1⟩:=h1.bk.look ((i+1:Nat):Int) (j:Int);obtain ⟨t2,ht2,hl2⟩:=h1.bk.look (i:Int) ((j+1:Nat):Int);have hl1:=hl1 w1 (Below.refl _ _);have hl2:=hl2 w1 (Below.refl _ _);obtain ⟨w2,hrun,hT2,hK2⟩:=h1.bk.put (i:Int) (j:Int)
 have ei:(((i+1:Nat):Int))=(i:Int)+1:=by omega
 have ej:(((j+1:Nat):Int))=(j:Int)+1:=by omega
 have hfin:∀wE (r:Bool),r=(td && t1 || ts && t2)→(wE=if r=true then w2 else w1)→LeadD w b gp mo mk g v ca cb S (fun k=>T k∨(((g.dOk ca cb i j∧T (((i+1:Nat):Int),(j:Int)))∨(g.sOk ca cb i j∧T ((i:Int),((j+1:Nat):Int))))∧k=((i:Int),(j:Int)))) (.returned (.tuple #[])) wE:=by
  intro wE r hr hE
  have hiff:r=true↔((g.dOk ca cb i j∧T (((i+1:Nat):Int),(j:Int)))∨(g.sOk ca cb i j∧T ((i:Int),((j+1:Nat):Int)))):=by
   rw [hr,←dB_iff,←sB_iff,Htd.out,Hts.out,←ht1,←ht2];simp
  cases r with
  | true=>
   have hE:wE=w2:=hE;subst hE
   refine ⟨rfl,⟨(hK2.block b h1.lt (by simpa using n2)).trans h1.hb,h1.grid.keptS hK2 (by simpa using n4),h1.on.kept hK2 (by simpa using n5),hT2.iff (fun k=>?_),h1.ne,h1.cells⟩,(Kept.of_below hb1).trans hK2⟩
   have:=hiff.1 rfl
   constructor
   ·rintro (x | x)
    ·exact .inl x
    ·exact .inr ⟨this,x⟩
   ·rintro (x | x)
    ·exact .inl x
    ·exact .inr x.2
  | false=>
   have hE:wE=w1:=hE;subst hE
   refine ⟨rfl,⟨h1.hb,h1.grid,h1.on,h1.bk.iff (fun k=>?_),h1.ne,h1.cells⟩,Kept.of_below hb1⟩
   constructor
   ·exact .inl
   ·rintro (x | x)
    ·exact x
    ·exact absurd (hiff.2 x.1) (by simp)
 have Hfin:=Lib.hid hfin;obtain ⟨_,_,_,_,_,_,_,_,k8⟩:=h1.cell;rw [ei] at hl1;rw [ej] at hl2;clear hfin hT2 hK2 h1 hb1 ei ej ht1 ht2
 cases td with
 | true=>
  cases t1 with
  | true=>
   clear hl2;go_wp2_with (at_mapUpdate;refine wpList_mapUpdate_run rfl _ _ _ rfl rfl hrun ?_);go_end0
   exact Hfin.out _ true (by simp) rfl
  | false=>
   cases ts with
   | true=>
    cases t2 with
    | true=>
     go_wp2_with (at_mapUpdate;refine wpList_mapUpdate_run rfl _ _ _ rfl rfl hrun ?_);go_end0
     exact Hfin.out _ true (by simp) rfl
    | false=>
     clear hrun;go_wp2;go_end0
     exact Hfin.out _ false (by simp) rfl
   | false=>
    clear hrun hl2;go_wp2;go_end0
    exact Hfin.out _ false (by simp) rfl
 | false=>
  clear hl1
  cases ts with
  | true=>
   cases t2 with
   | true=>
    go_wp2_with (at_mapUpdate;refine wpList_mapUpdate_run rfl _ _ _ rfl rfl hrun ?_);go_end0
    exact Hfin.out _ true (by simp) rfl
   | false=>
    clear hrun;go_wp2;go_end0
    exact Hfin.out _ false (by simp) rfl
  | false=>
   clear hrun hl2;go_wp2;go_end0
   exact Hfin.out _ false (by simp) rfl
theorem fieldReached (w : World) (b gp mo mk : Nat) (g : G) (v : Int) (ca cb : Nat) (S T : Int × Int → Prop) (t : Bool) (h : FieldIn w b gp mo mk g v ca cb S T) (ht : t = true ↔ S ((g.fI ca cb : Nat), (g.fJ ca cb : Nat))) :
    Calls Tryz.prog 139 #[.pointer (some ⟨b,0,none⟩)] w fun e w'=>e=.returned (.bool t)∧Below w.heap.size w w':=by
 obtain ⟨k0,k1,k2,k3,k4,k5,k6,k7,k8⟩:=h.cell;have hbl:=h.lt;obtain ⟨t',ht',hl⟩:=h.on.look (g.fI ca cb:Nat) (g.fJ ca cb:Nat)
 obtain rfl:t'=t:=by
  cases t' <;> cases t <;> simp_all
 have hl:=fun p os=>hl _ (below_regrown w p os)
 obtain ⟨I,hI⟩:∃z,g.fI ca cb=z:=⟨_,rfl⟩;obtain ⟨J,hJ⟩:∃z,g.fJ ca cb=z:=⟨_,rfl⟩;rw [hI] at k5 hl;rw [hJ] at k6 hl;clear hI hJ ht ht' h k0 k1 k2 k3 k4 k8;have k5q:=cell_regrown k5;have k6q:=cell_regrown k6;have k7q:=cell_regrown k7;have HB:=Below.refl w.heap.size w;go_enter Tryz.func139,Tryz.ntmps139
 go_upto_region 1 with (fail)
 refine wp_region_quiet_below (by kernel_rfl) (by kernel_rfl) ?_
 repeat (first | go_big_quiet_step (fail) | quiet_step (fail))
 refine wpQuiet_nil ?_;intro _ hw';obtain ⟨⟨dq,osq⟩,hw''⟩:=hw';have HB2:=bel_trans HB (below_regrown w dq osq);have hb2:=below_regrown w dq osq;subst hw''
 generalize grow (redrawn w dq) osq=w2 at HB2 hb2 ⊢
 go_wp2;go_ret;exact ⟨rfl,HB2⟩
def natS (P:Nat→Nat→Prop):Int×Int→Prop:=fun k=>∃p q:Nat,k=((p:Int),(q:Int))∧P p q
theorem natS_iff {P Q:Nat→Nat→Prop} (h:∀p q,P p q↔Q p q) (k:Int×Int):natS P k↔natS Q k:=by
 unfold natS
 constructor
 ·rintro ⟨p,q,e,x⟩;exact ⟨p,q,e,(h p q).1 x⟩
 ·rintro ⟨p,q,e,x⟩;exact ⟨p,q,e,(h p q).2 x⟩
theorem natS_at {P:Nat→Nat→Prop} (p q:Nat):natS P ((p:Int),(q:Int))↔P p q:=by
 unfold natS
 constructor
 ·rintro ⟨p',q',e,x⟩
  injection e with e1 e2
  obtain rfl:p=p':=by omega
  obtain rfl:q=q':=by omega
  exact x
 ·intro x;exact ⟨p,q,rfl,x⟩
structure Fld0 (w:World) (b gp mo mk:Nat) (x y:Int) (d s:Int) (i j:Int):Prop where
 hb:w.heap[b]? = some (.cells #[.pointer (some ⟨gp,0,none⟩),.int .i64 x,.int .i64 y,.int .i64 d,.int .i64 s,.int .i64 i,.int .i64 j,.map (some mo),.map (some mk)] 236 (0,0))
 on:SetAt w mo (fun k=>k=(0,0))
 bk:SetAt w mk (fun k=>k=(i,j))
 ne:b≠mo∧b≠mk∧mo≠mk
def e1m (p:Int×Int):Obj:=.map #[{ key:=kP p,val:=.bool true,born:=0 }] 1
theorem ins_one (p : Int × Int) {b : Nat} {w : World} (hb : w.heap[b]? = some (.map #[] 0)) :
    (Instr.mapUpdate 234 (.map (some b)) (kP p) (.bool true)).run Tryz.prog w=.ok () { w with heap:=w.heap.setIfInBounds b (e1m p) }:=by
 have hf:(Instr.findKey 239 (kP p) []).run Tryz.prog w=.ok none w:=by
  rcases pair_fit.find [] p w (by simp) with ⟨h,_⟩ | ⟨i,e,_,h,_⟩
  ·exact h
  ·simp at h
 simp [Instr.mapUpdate,run_underlying Tryz.underlying234,MapKept.run_getObj_map hb,pair_fit.check,hf,MapKept.run_setObj_map _ hb,Result.andThen,e1m]
theorem push_set {α:Type} (xs:Array α) (a b:α):(xs.push a).setIfInBounds xs.size b=xs.push b:=by
 apply Array.ext_getElem?
 intro i;simp only [Array.getElem?_setIfInBounds,Array.getElem?_push,Array.size_push]
 by_cases h:xs.size=i
 ·subst h;simp
 ·simp [h,Ne.symm h]
theorem push_set2 {α:Type} (xs:Array α) (a b c:α):((xs.push a).push c).setIfInBounds xs.size b=(xs.push b).push c:=by
 apply Array.ext_getElem?
 intro i;simp only [Array.getElem?_setIfInBounds,Array.getElem?_push,Array.size_push]
 by_cases h:xs.size=i
 ·subst h;simp;omega
 ·by_cases h2:i=xs.size+1
  ·subst h2;simp
  ·simp [h,Ne.symm h,h2]
theorem ins_a (p:Int×Int) (w:World):(Instr.mapUpdate 234 (.map (some w.heap.size)) (kP p) (.bool true)).run Tryz.prog (w.alloc (.map #[] 0)).drew=.ok () (w.alloc (e1m p)).drew:=by
 rw [ins_one p (w:=(w.alloc (.map #[] 0)).drew) (MapKept.heap_alloc w _).1]
 show Result.ok () { (w.alloc (.map #[] 0)).drew with heap:=(w.heap.push (.map #[] 0)).setIfInBounds w.heap.size (e1m p) }=_
 rw [push_set];rfl
theorem ins_b (p:Int×Int) (w:World) (A:Obj):(Instr.mapUpdate 234 (.map (some (w.heap.size+1))) (kP p) (.bool true)).run Tryz.prog ((w.alloc A).alloc (.map #[] 0)).drew=.ok () ((w.alloc A).alloc (e1m p)).drew:=by
 have:=ins_a p (w.alloc A)
 simpa using this
theorem ins_c (p:Int×Int) (w:World) (B:Obj):(Instr.mapUpdate 234 (.map (some w.heap.size)) (kP p) (.bool true)).run Tryz.prog ((w.alloc (.map #[] 0)).alloc B).drew=.ok () ((w.alloc (e1m p)).alloc B).drew:=by
 rw [ins_one p (w:=((w.alloc (.map #[] 0)).alloc B).drew) (((MapKept.heap_alloc (w.alloc (.map #[] 0)) B).2 w.heap.size (by simp)).trans (MapKept.heap_alloc w _).1)]
 show Result.ok () { ((w.alloc (.map #[] 0)).alloc B).drew with heap:=((w.heap.push (.map #[] 0)).push B).setIfInBounds w.heap.size (e1m p) }=_
 rw [push_set2];rfl
theorem SetAt.one {w:World} {b:Nat} (p:Int×Int) (h:w.heap[b]? = some (e1m p)):SetAt w b (fun k=>k=p):=by
 refine ⟨fun k=>if k=p then some (.bool true) else none,1,⟨_,_,h,⟨by simp,by simp,by simp⟩,rfl,?_,?_⟩,fun k=>?_⟩
 ·intro e he
  simp at he;subst he
  exact ⟨p,rfl,by simp⟩
 ·intro k v hk
  simp only at hk
  by_cases e:k=p
  ·rw [if_pos e] at hk
   injection hk with hk
   exact ⟨{ key:=kP p,val:=.bool true,born:=0 },by simp,by rw [e],hk⟩
  ·rw [if_neg e] at hk;cases hk
 ·by_cases e:k=p
  ·exact .inl ⟨if_pos e,e⟩
  ·exact .inr ⟨if_neg e,e⟩
namespace Fld0
variable {w w':World} {b gp mo mk:Nat} {x y d s i j:Int}
theorem lt (h:Fld0 w b gp mo mk x y d s i j):b<w.heap.size:=(Array.getElem?_eq_some_iff.1 h.hb).1
theorem below (h:Fld0 w b gp mo mk x y d s i j) (hb:Below w.heap.size w w'):Fld0 w' b gp mo mk x y d s i j:=
 ⟨(hb.block b h.lt).trans h.hb,h.on.below hb,h.bk.below hb,h.ne⟩
theorem frozen (h:Fld0 w b gp mo mk x y d s i j) (k:Nat):w.frozen? ⟨b,k,none⟩=false:=by
 unfold World.frozen?;simp [h.hb]
theorem c3 (h:Fld0 w b gp mo mk x y d s i j):w.cell? ⟨b,3,none⟩=some (.int .i64 d)∧w.cell? ⟨b,4,none⟩=some (.int .i64 s):=by
 simp [World.cell?,h.hb]
theorem kset (h:Fld0 w b gp mo mk x y d s i j) {a:Addr} (ha:a.block=b) (v:Value):SetAt (w.setCell a v) mo (fun k=>k=(0,0))∧SetAt (w.setCell a v) mk (fun k=>k=(i,j)):=by
 have hk:Kept [b] w (w.setCell a v):=(Kept.refl [b] w).setCell (.inl (by rw [ha];simp))
 exact ⟨h.on.kept hk (by have:=h.ne.1;simp;omega),h.bk.kept hk (by have:=h.ne.2.1;simp;omega)⟩
theorem set3 (h:Fld0 w b gp mo mk x y d s i j) (z:Int):Fld0 (w.setCell ⟨b,3,none⟩ (.int .i64 z)) b gp mo mk x y z s i j:=by
 refine ⟨?_,(h.kset rfl _).1,(h.kset rfl _).2,h.ne⟩;rw [set_heapH _ _ _ _ _ _ h.hb];rfl
theorem set4 (h:Fld0 w b gp mo mk x y d s i j) (z:Int):Fld0 (w.setCell ⟨b,4,none⟩ (.int .i64 z)) b gp mo mk x y d z i j:=by
 refine ⟨?_,(h.kset rfl _).1,(h.kset rfl _).2,h.ne⟩;rw [set_heapH _ _ _ _ _ _ h.hb];rfl
end Fld0
theorem blk_old (w:World) (o:Obj) {k:Nat} {x:Option Obj} (hk:k<w.heap.size) (h:w.heap[k]? = x):(w.alloc o).heap[k]? = x:=(Below.heap_alloc _ _ _ hk).trans h
theorem blk_at (w:World) (o:Obj) {k:Nat} (hk:k=w.heap.size):(w.alloc o).heap[k]? = some o:=by rw [hk];exact heap_alloc_new w o
def FldD (W:World) (p:Nat) (x y i j:Int) (s:Value) (wx:World):Prop:=∃b mo mk,s=.pointer (some ⟨b,0,none⟩)∧Fld0 wx b p mo mk x y 0 0 i j∧(W.heap.size≤b∧W.heap.size≤mo∧W.heap.size≤mk)∧Below W.heap.size W wx
theorem fld_12 {W : World} {p : Nat} {x y i j : Int} {ob1 ob2 : Obj} (h : e1m (0, 0) = ob1 ∧ e1m (i, j) = ob2) :
    FldD W p x y i j (.pointer (some ⟨W.heap.size+1+1,0,none⟩)) (((W.alloc ob1).alloc ob2).alloc (.cells #[.pointer (some ⟨p,0,none⟩),.int .i64 x,.int .i64 y,.int .i64 0,.int .i64 0,.int .i64 i,.int .i64 j,.map (some W.heap.size),.map (some (W.heap.size+1))] 236)).drew:=by
 obtain ⟨rfl,rfl⟩:=h
 refine ⟨W.heap.size+1+1,W.heap.size,W.heap.size+1,rfl,⟨?_,SetAt.one (0,0) ?_,SetAt.one (i,j) ?_,by omega⟩,by omega,by (repeat' (first | exact Below.refl _ _ | assumption | apply bel_drewN | apply bel_drew | apply bel_alloc | (refine bel_trans ?_ (by assumption))))⟩
 ·exact blk_at _ _ (by simp)
 ·exact blk_old _ _ (by simp;omega) (blk_old _ _ (by simp) (blk_at _ _ rfl))
 ·exact blk_old _ _ (by simp) (blk_at _ _ (by simp))
theorem fld_21 {W : World} {p : Nat} {x y i j : Int} {ob1 ob2 : Obj} (h : e1m (0, 0) = ob1 ∧ e1m (i, j) = ob2) :
    FldD W p x y i j (.pointer (some ⟨W.heap.size+1+1,0,none⟩)) (((W.alloc ob2).alloc ob1).alloc (.cells #[.pointer (some ⟨p,0,none⟩),.int .i64 x,.int .i64 y,.int .i64 0,.int .i64 0,.int .i64 i,.int .i64 j,.map (some (W.heap.size+1)),.map (some W.heap.size)] 236)).drew:=by
 obtain ⟨rfl,rfl⟩:=h
 refine ⟨W.heap.size+1+1,W.heap.size+1,W.heap.size,rfl,⟨?_,SetAt.one (0,0) ?_,SetAt.one (i,j) ?_,by omega⟩,by omega,by (repeat' (first | exact Below.refl _ _ | assumption | apply bel_drewN | apply bel_drew | apply bel_alloc | (refine bel_trans ?_ (by assumption))))⟩
 ·exact blk_at _ _ (by simp)
 ·exact blk_old _ _ (by simp) (blk_at _ _ (by simp))
 ·exact blk_old _ _ (by simp;omega) (blk_old _ _ (by simp) (blk_at _ _ rfl))
theorem keep1 {w:World} {A:Obj} {a:Addr} {v:Value} (h:w.cell? a=some v):(w.alloc A).drew.cell? a=some v:=alloc_some h
theorem keep2 {w:World} {A B:Obj} {a:Addr} {v:Value} (h:w.cell? a=some v):((w.alloc A).alloc B).drew.cell? a=some v:=alloc_some (alloc_some h)
theorem keep3 {w:World} {A B D:Obj} {a:Addr} {v:Value} (h:w.cell? a=some v):(((w.alloc A).alloc B).alloc D).drew.cell? a=some v:=alloc_some (alloc_some (alloc_some h))
theorem spread_nat {P Q : Nat → Nat → Prop} {d s : Prop} {i j : Nat} (h : ∀ p q, Q p q ↔ P p q ∨ (d ∧ p = i + 1 ∧ q = j) ∨ (s ∧ p = i ∧ q = j + 1)) (k : Int × Int) :
    (natS P k∨(d∧k=(((i+1:Nat):Int),(j:Int)))∨(s∧k=((i:Int),((j+1:Nat):Int))))↔natS Q k:=by
 constructor
 ·rintro (⟨p,q,e,x⟩ | ⟨x,e⟩ | ⟨x,e⟩)
  ·exact ⟨p,q,e,(h p q).2 (.inl x)⟩
  ·exact ⟨i+1,j,e,(h _ _).2 (.inr (.inl ⟨x,rfl,rfl⟩))⟩
  ·exact ⟨i,j+1,e,(h _ _).2 (.inr (.inr ⟨x,rfl,rfl⟩))⟩
 ·rintro ⟨p,q,e,x⟩
  rcases (h p q).1 x with y | ⟨y,rfl,rfl⟩ | ⟨y,rfl,rfl⟩
  ·exact .inl ⟨p,q,e,y⟩
  ·exact .inr (.inl ⟨y,e⟩)
  ·exact .inr (.inr ⟨y,e⟩)
theorem lead_nat {P Q : Nat → Nat → Prop} {d s : Prop} {i j : Nat} (h : ∀ p q, Q p q ↔ P p q ∨ (((d ∧ P (i + 1) j) ∨ (s ∧ P i (j + 1))) ∧ p = i ∧ q = j)) (k : Int × Int) :
    (natS P k∨(((d∧natS P (((i+1:Nat):Int),(j:Int)))∨(s∧natS P ((i:Int),((j+1:Nat):Int))))∧k=((i:Int),(j:Int))))↔natS Q k:=by
 rw [natS_at,natS_at]
 constructor
 ·rintro (⟨p,q,e,x⟩ | ⟨x,e⟩)
  ·exact ⟨p,q,e,(h p q).2 (.inl x)⟩
  ·exact ⟨i,j,e,(h _ _).2 (.inr ⟨x,rfl,rfl⟩)⟩
 ·rintro ⟨p,q,e,x⟩
  rcases (h p q).1 x with y | ⟨y,rfl,rfl⟩
  ·exact .inl ⟨p,q,e,y⟩
  ·exact .inr ⟨y,e⟩
def FieldD (w:World) (p:Nat) (g:G) (v:Int) (ca cb:Nat) (e:Ending) (w':World):Prop:=
 ∃b mo mk,e=.returned (.pointer (some ⟨b,0,none⟩))∧FieldIn w' b p mo mk g v ca cb (natS (g.OnA ca cb)) (natS (g.BkA ca cb))∧Below w.heap.size w w'
theorem field_of {w : World} {b p mo mk : Nat} {g : G} {v : Int} {ca cb : Nat} (hF : Fld0 w b p mo mk (g.X ca : Nat) (g.Y ca : Nat) (g.fdg ca cb : Nat) (g.fst_ ca cb : Nat) (g.fI ca cb : Nat) (g.fJ ca cb : Nat)) (hG : GridAt w p g v) (hp : p ≠ mo ∧ p ≠ mk) (hca : ca < g.n) (hcb : cb < g.n) :
    FieldIn w b p mo mk g v ca cb (natS (g.OnS ca cb 0 0)) (natS fun p q=>p=g.fI ca cb∧q=g.fJ ca cb):=
 ⟨hF.hb,hG,hF.on.iff (fun k=>⟨fun e=>⟨0,0,e,G.ons_start.2 ⟨rfl,rfl⟩⟩,fun ⟨p,q,e,x⟩=>by obtain ⟨rfl,rfl⟩:=G.ons_start.1 x;exact e⟩),
  hF.bk.iff (fun k=>⟨fun e=>⟨_,_,e,rfl,rfl⟩,fun ⟨p,q,e,x⟩=>by obtain ⟨rfl,rfl⟩:=x;exact e⟩),⟨hF.ne.1,hF.ne.2.1,hp.1,hp.2,hF.ne.2.2⟩,hca,hcb⟩
theorem FieldIn.iff {w:World} {b gp mo mk:Nat} {g:G} {v:Int} {ca cb:Nat} {S T S' T':Int×Int→Prop} (h:FieldIn w b gp mo mk g v ca cb S T) (hS:∀k,S k↔S' k) (hT:∀k,T k↔T' k):FieldIn w b gp mo mk g v ca cb S' T':=
 ⟨h.hb,h.grid,h.on.iff hS,h.bk.iff hT,h.ne,h.cells⟩
theorem newField (w : World) (p : Nat) (g : G) (v : Int) (ca cb : Nat) (h : GridAt w p g v) (hca : ca < g.n) (hcb : cb < g.n) :
    Calls Tryz.prog 138 #[.pointer (some ⟨p,0,none⟩),.int .i64 (ca:Nat),.int .i64 (cb:Nat)] w (FieldD w p g v ca cb):=by
 have hok:=h.1;obtain ⟨o1,o2,o3,o4⟩:=h.1;have hX:=G.X_lt hok ca;have hX':=G.X_lt hok cb;have hY:=G.Y_lt hca;have hY':=G.Y_lt hcb
 have cP1:=Lib.hid (fun w' h'=>gridPlace_in w' p g v ca h' hca)
 have cP2:=Lib.hid (fun w' h'=>gridPlace_in w' p g v cb h' hcb)
 have hoct:=G.oct_fIJ (g:=g) (a:=ca) (b:=cb)
 have cO:=fun w=>costOctile (g.X ca:Nat) (g.Y ca:Nat) (g.X cb:Nat) (g.Y cb:Nat) w (by omega) (by omega) (by omega) (by omega)
 have hx2:octI ((g.X ca:Nat)-(g.X cb:Nat)) ((g.Y ca:Nat)-(g.Y cb:Nat))=⟨g.fJ ca cb,g.fI ca cb⟩:=hoct;rw [hx2] at cO;have cO:=Lib.hid cO;have hpl:=h.lt;have HG:=Lib.hid h;have HG0:=Lib.hid h;clear hx2 hoct h;go_enter Tryz.func138,Tryz.ntmps138;go_wp2_with fail
 (with_reducible refine (cP1.out _ HG.out).mono ?_)
 rintro e w1 ⟨rfl,hb1⟩;have HG1:=Lib.hid (HG.out.below hb1 hpl);go_wp2_with fail
 (with_reducible refine (cP2.out _ HG1.out).mono ?_)
 rintro e w2 ⟨rfl,hb2⟩;have HB2:=bel_trans hb1 hb2;clear HG HG1 hb1 hb2 cP1 cP2;go_wp2_with fail
 (with_reducible refine (cO.out _).mono ?_)
 rintro e w3 ⟨rfl,hb3⟩;have HB3:=bel_trans HB2 hb3;clear hb3 cO HB2
 go_upto_region 5 with (fail)
 refine wp_name ?_;intro W4 hW4
 have HW4:Below w3.heap.size w3 W4:=by rw [hW4];(repeat' (first | exact Below.refl _ _ | assumption | apply bel_drewN | apply bel_drew | apply bel_alloc | (refine bel_trans ?_ (by assumption))))
 have c0:W4.cell? ⟨w3.heap.size,0,none⟩=some (.int .i64 (g.fJ ca cb:Nat)):=by rw [hW4];go_simp
 have c1:W4.cell? ⟨w3.heap.size,1,none⟩=some (.int .i64 (g.fI ca cb:Nat)):=by rw [hW4];go_simp
 have HB4:=bel_trans HB3 HW4;obtain ⟨cbk,hcbk⟩:∃z,w3.heap.size=z:=⟨_,rfl⟩
 rw [hcbk] at c0 c1 ⊢
 clear hW4 HW4 HB3 hcbk;have hm:=@run_makeMap Tryz.prog;have i1:=ins_a (0,0) W4;have i2:=ins_a ((g.fI ca cb:Nat),(g.fJ ca cb:Nat)) W4;have i3:=ins_b (0,0) W4;have i4:=ins_b ((g.fI ca cb:Nat),(g.fJ ca cb:Nat)) W4;have i5:=ins_c (0,0) W4;have i6:=ins_c ((g.fI ca cb:Nat),(g.fJ ca cb:Nat)) W4;obtain ⟨ob1,hob1⟩:∃z,e1m (0,0)=z:=⟨_,rfl⟩;obtain ⟨ob2,hob2⟩:∃z,e1m ((g.fI ca cb:Nat),(g.fJ ca cb:Nat))=z:=⟨_,rfl⟩
 rw [hob1] at i1 i3 i5;rw [hob2] at i2 i4 i6;have Hob:=Lib.hid (And.intro hob1 hob2);clear hob1 hob2;unfold kP at i1 i2 i3 i4 i5 i6;simp only at i1 i2 i3 i4 i5 i6
 go_cut [16] (fun s wx=>FldD W4 p (g.X ca:Nat) (g.Y ca:Nat) (g.fI ca cb:Nat) (g.fJ ca cb:Nat) s wx)
 case first=>
  go_region_held3 (fun w'=>w'.cell? ⟨cbk,0,none⟩=some (.int .i64 (g.fJ ca cb:Nat))∧w'.cell? ⟨cbk,1,none⟩=some (.int .i64 (g.fI ca cb:Nat)))
   (first | exact ⟨keep1 c0,keep1 c1⟩ | exact ⟨keep2 c0,keep2 c1⟩ | exact ⟨keep3 c0,keep3 c1⟩ | (go_keep;done))
   (fail)
  all_goals
   clear i1 i2 i3 i4 i5 i6 hm;go_wp2;go_meet
   case rel=>first | exact fld_12 Hob.out | exact fld_21 Hob.out
 case rest=>
 clear i1 i2 i3 i4 i5 i6 hm c0 c1 Hob;obtain ⟨b,mo,mk,rfl,hF,⟨g1,g2,g3⟩,hdr⟩:=hcut;have hl4:=HB4.size;have HBc:=bel_trans HB4 hdr;clear hdr HB4;obtain ⟨dx,hdx⟩:∃z,((g.X cb:Nat):Int)-(g.X ca:Nat)=z:=⟨_,rfl⟩;obtain ⟨dy,hdy⟩:∃z,((g.Y cb:Nat):Int)-(g.Y ca:Nat)=z:=⟨_,rfl⟩;rw [hdx,hdy]
 have d1:-16≤dx:=by omega
 have d2:dx≤16:=by omega
 have d3:-16≤dy:=by omega
 have d4:dy≤16:=by omega
 have eax:g.fax ca cb=sgn dx:=by rw [←hdx];rfl
 have eay:g.fay ca cb=sgn dy:=by rw [←hdy];rfl
 have ebx:g.fbx ca cb=if dy.natAbs≤dx.natAbs then sgn dx else 0:=by rw [←hdx,←hdy];rfl
 have eby:g.fby ca cb=if dy.natAbs≤dx.natAbs then 0 else sgn dy:=by rw [←hdx,←hdy];rfl
 have cD:=fun w=>reachDirection w (sgn dx) (sgn dy)
 have ed:dirN (sgn dx) (sgn dy)=g.fdg ca cb:=by unfold G.fdg;rw [eax,eay]
 rw [ed] at cD;have cD:=Lib.hid cD
 have cS1:=Lib.hid (fun w=>reachSign w dx (by omega))
 have cS2:=Lib.hid (fun w=>reachSign w dy (by omega))
 have HF:=Lib.hid hF;have Heb:=Lib.hid (And.intro ebx eby);clear hdx hdy eax eay ebx eby ed hF;obtain ⟨wB,hwB⟩:∃z:World,wc=z:=⟨_,rfl⟩
 rw [hwB] at HF HBc ⊢
 clear hwB;go_wp2_with fail
 (with_reducible refine (cS1.out _).mono ?_)
 rintro e w' ⟨rfl,rfl⟩;go_wp2_with fail
 (with_reducible refine (cS2.out _).mono ?_)
 rintro e w' ⟨rfl,rfl⟩;go_wp2_with fail
 (with_reducible refine (cD.out _).mono ?_)
 rintro e w6 ⟨rfl,hb6⟩;have hF6:=HF.out.below hb6;have HB6:=bel_trans HBc hb6;have k3:=hF6.c3.1;have f3:=hF6.frozen 3;have HF6:=Lib.hid (hF6.set3 (g.fdg ca cb:Nat))
 have HB7:Below w.heap.size w (w6.setCell ⟨b,3,none⟩ (.int .i64 (g.fdg ca cb:Nat))):=HB6.setCell (by simp;omega) _
 clear HF hF6 hb6 HBc cD HB6
 go_upto_region 7 with (fail)
 clear k3 f3;obtain ⟨w7,hw7⟩:∃z:World,(w6.setCell ⟨b,3,none⟩ (.int .i64 (g.fdg ca cb:Nat)))=z:=⟨_,rfl⟩
 rw [hw7] at HF6 HB7 ⊢
 clear hw7
 go_upto_if 81 with (fail)
 obtain ⟨m1,hm1⟩:∃z,max dx (-dx)=z:=⟨_,rfl⟩;obtain ⟨m2,hm2⟩:∃z,max dy (-dy)=z:=⟨_,rfl⟩
 have e1:m1=(dx.natAbs:Int):=by rw [←hm1];omega
 have e2:m2=(dy.natAbs:Int):=by rw [←hm2];omega
 rw [hm1,hm2];have Hm:=Lib.hid (And.intro e1 e2);clear hm1 hm2 e1 e2
 go_cut [] (fun wx=>Fld0 wx b p mo mk (g.X ca:Nat) (g.Y ca:Nat) (g.fdg ca cb:Nat) (g.fst_ ca cb:Nat) (g.fI ca cb:Nat) (g.fJ ca cb:Nat)∧Below w.heap.size w wx)
 case first=>
  by_cases hle:dy.natAbs≤dx.natAbs
  ·have ht:decide (m2≤m1)=true:=by rw [decide_eq_true_iff,Hm.out.1,Hm.out.2];omega
   have es:dirN (sgn dx) 0=g.fst_ ca cb:=by unfold G.fst_;rw [Heb.out.1,Heb.out.2,if_pos hle,if_pos hle]
   have cE:=fun w=>reachDirection w (sgn dx) 0
   rw [es] at cE;have cE:=Lib.hid cE;rw [ht];clear ht es hle;go_wp2_with fail
   (with_reducible refine (cS1.out _).mono ?_)
   rintro e w' ⟨rfl,rfl⟩;go_wp2_with fail
   (with_reducible refine (cE.out _).mono ?_)
   rintro e w8 ⟨rfl,hb8⟩;have hF8:=HF6.out.below hb8;have HB8:=bel_trans HB7 hb8;have k4:=hF8.c3.2;have f4:=hF8.frozen 4;have HF8:=Lib.hid (hF8.set4 (g.fst_ ca cb:Nat))
   have HB9:Below w.heap.size w (w8.setCell ⟨b,4,none⟩ (.int .i64 (g.fst_ ca cb:Nat))):=HB8.setCell (by simp;omega) _
   clear HF6 hF8 hb8 HB7 cE HB8;go_wp2;go_meet
   case rel=>exact ⟨HF8.out,HB9⟩
  ·have ht:decide (m2≤m1)=false:=by rw [decide_eq_false_iff_not,Hm.out.1,Hm.out.2];omega
   have es:dirN 0 (sgn dy)=g.fst_ ca cb:=by unfold G.fst_;rw [Heb.out.1,Heb.out.2,if_neg hle,if_neg hle]
   have cE:=fun w=>reachDirection w 0 (sgn dy)
   rw [es] at cE;have cE:=Lib.hid cE;rw [ht];clear ht es hle;go_wp2_with fail
   (with_reducible refine (cS2.out _).mono ?_)
   rintro e w' ⟨rfl,rfl⟩;go_wp2_with fail
   (with_reducible refine (cE.out _).mono ?_)
   rintro e w8 ⟨rfl,hb8⟩;have hF8:=HF6.out.below hb8;have HB8:=bel_trans HB7 hb8;have k4:=hF8.c3.2;have f4:=hF8.frozen 4;have HF8:=Lib.hid (hF8.set4 (g.fst_ ca cb:Nat))
   have HB9:Below w.heap.size w (w8.setCell ⟨b,4,none⟩ (.int .i64 (g.fst_ ca cb:Nat))):=HB8.setCell (by simp;omega) _
   clear HF6 hF8 hb8 HB7 cE HB8;go_wp2;go_meet
   case rel=>exact ⟨HF8.out,HB9⟩
 case rest=>
 obtain ⟨hF,HB9⟩:=hcut;clear HF6 HB7 Heb cS1 cS2 d1 d2 d3 d4;obtain ⟨w9,hw9⟩:∃z:World,wc=z:=⟨_,rfl⟩
 rw [hw9] at hF HB9 ⊢
 clear hw9;have hG9:=HG0.out.below HB9 hpl
 have hp1:p≠mo∧p≠mk:=by omega
 have hF9:=field_of hF hG9 hp1 hca hcb;obtain ⟨q1,q2⟩:=G.fI_le hok hcb hca;obtain ⟨I,hI⟩:∃z,g.fI ca cb=z:=⟨_,rfl⟩;obtain ⟨J,hJ⟩:∃z,g.fJ ca cb=z:=⟨_,rfl⟩;rw [hI,hJ] at hF9;rw [hI] at q1;rw [hJ] at q2;have HIJ:=Lib.hid (And.intro hI hJ);have Hok:=Lib.hid hok;clear hF hG9 hp1 hI hJ hok HG0 hX hX' hY hY'
 have hmo:∀k,k∈[mo,mk]→w.heap.size≤k:=by simp;omega
 have Hmo:=Lib.hid hmo;clear hmo;go_wp2_with fail
 go_loopw [17] (fun kv wr=>∃i:Nat,i≤I+1∧kv=.int .i64 i∧FieldIn wr b p mo mk g v ca cb (natS (g.OnS ca cb i 0)) (natS fun p q=>p=I∧q=J)∧Below w.heap.size w wr) (fun kv _=>I+1-(intOf kv).toNat)
 case atStart=>exact ⟨0,by omega,rfl,hF9,HB9⟩
 case round=>
  obtain ⟨i,hi,rfl,hF,HB⟩:=hrel;clear hF9 HB9;obtain ⟨_,_,_,_,_,k5,k6,_,_⟩:=hF.cell;rw [HIJ.out.1] at k5;rw [HIJ.out.2] at k6;have hF:=Lib.hid hF
  by_cases hlt:i≤I
  ·have hlt':(i:Int)≤(I:Int):=by omega
   go_wp2_with fail;clear k5 k6;obtain ⟨wo,rfl⟩:∃wo:World,wo=wr:=⟨_,rfl⟩
   go_loopw [18] (fun kv wr=>∃j:Nat,j≤J+1∧kv=.int .i64 j∧FieldIn wr b p mo mk g v ca cb (natS (g.OnS ca cb i j)) (natS fun p q=>p=I∧q=J)∧Below w.heap.size w wr) (fun kv _=>J+1-(intOf kv).toNat)
   case atStart=>exact ⟨0,by omega,rfl,hF.out,HB⟩
   case round=>
    obtain ⟨j,hj,rfl,hF2,HB2⟩:=hrel;clear hF HB;obtain ⟨_,_,_,_,_,_,k6,k7,_⟩:=hF2.cell;rw [HIJ.out.2] at k6
    by_cases hltj:j≤J
    ·have hltj':(j:Int)≤(J:Int):=by omega
     obtain ⟨t,ht,hl⟩:=hF2.on.look (i:Int) (j:Int);have hl:=hl wr (Below.refl _ _)
     rw [natS_at,G.ons_at Hok.out hcb hca (by rw [HIJ.out.1];exact hlt) (by rw [HIJ.out.2];exact hltj)] at ht
     have Ht:=Lib.hid ht;have HF2:=Lib.hid hF2;clear ht hF2
     cases t with
     | true=>
      have cSp:=fieldSpread wr b p mo mk g v ca cb _ _ i j HF2.out (by rw [HIJ.out.1];exact hlt) (by rw [HIJ.out.2];exact hltj)
      have cSp:=Lib.hid cSp;go_wp2_with fail
      (with_reducible refine cSp.out.mono ?_)
      rintro e w2 ⟨rfl,hF3,hK3⟩
      have hF4:=hF3.iff (spread_nat (fun p q=>G.ons_step (by rw [HIJ.out.1];exact hlt) (by rw [HIJ.out.2];exact hltj) (by have:=Ht.out;simpa using this))) (fun k=>Iff.rfl)
      have HB3:=Kept.below HB2 hK3 HB2.size Hmo.out;have hF4:=Lib.hid hF4;clear hF3 hK3 cSp hl k6 k7 HF2;go_wp2;go_roundw
      case rel=>first | exact ⟨j+1,by omega,by go_num,hF4.out,HB3⟩ | ((repeat apply Exists.intro);exact ⟨⟨j+1,by omega,by go_num,hF4.out,HB3⟩,rfl⟩)
      case measure=>simp [intOf];omega
     | false=>
      have hF4:=HF2.out.iff (natS_iff (fun p q=>(G.ons_no (p:=p) (q:=q) (fun h=>by have:=Ht.out.2 h;simp at this)).symm)) (fun k=>Iff.rfl)
      have hF4:=Lib.hid hF4;clear HF2;go_wp2;go_roundw
      case rel=>first | exact ⟨j+1,by omega,by go_num,hF4.out,HB2⟩ | ((repeat apply Exists.intro);exact ⟨⟨j+1,by omega,by go_num,hF4.out,HB2⟩,rfl⟩)
      case measure=>simp [intOf];omega
    ·obtain rfl:j=J+1:=by omega
     have hF4:=hF2.iff (natS_iff (Q:=g.OnS ca cb (i+1) 0) (fun p q=>by have:=G.ons_row (g:=g) (a:=ca) (b:=cb) (i:=i) (p:=p) (q:=q);rw [HIJ.out.2] at this;exact this)) (fun k=>Iff.rfl)
     have hF4:=Lib.hid hF4;clear hF2;go_wp2;go_roundw
     case rel=>first | exact ⟨i+1,by omega,by go_num,hF4.out,HB2⟩ | ((repeat apply Exists.intro);exact ⟨⟨i+1,by omega,by go_num,hF4.out,HB2⟩,rfl⟩)
     case measure=>simp [intOf];omega
  ·obtain rfl:i=I+1:=by omega
   have hF4:=hF.out.iff (natS_iff (Q:=g.OnA ca cb) (fun p q=>by have:=G.ons_end Hok.out hcb hca (p:=p) (q:=q);rw [HIJ.out.1] at this;exact this)) (natS_iff (Q:=g.BkS ca cb (I+1) (J+1)) (fun p q=>by have:=G.bks_start (g:=g) (a:=ca) (b:=cb) (p:=p) (q:=q);rw [HIJ.out.1,HIJ.out.2] at this;exact this.symm))
   have hF4:=Lib.hid hF4;clear hF;go_wp2_with fail;clear k5 k6;obtain ⟨wo,rfl⟩:∃wo:World,wo=wr:=⟨_,rfl⟩
   go_loopw [19] (fun kv wr=>∃(k:Nat) (x:Int),k≤I+1∧kv=.int .i64 x∧x=(k:Int)-1∧FieldIn wr b p mo mk g v ca cb (natS (g.OnA ca cb)) (natS (g.BkS ca cb k (J+1)))∧Below w.heap.size w wr) (fun kv _=>(intOf kv+1).toNat)
   case atStart=>exact ⟨I+1,_,by omega,rfl,by omega,hF4.out,HB⟩
   case round=>
    obtain ⟨k,x,hk,rfl,hx,hF,HB2⟩:=hrel;clear hF4 HB;obtain ⟨_,_,_,_,_,k5,k6,_,_⟩:=hF.cell;rw [HIJ.out.1] at k5;rw [HIJ.out.2] at k6;have hF:=Lib.hid hF
    by_cases hk0:0<k
    ·obtain ⟨i,rfl⟩:∃i,k=i+1:=⟨k-1,by omega⟩
     obtain rfl:x=(i:Int):=by omega
     clear hx
     have hi0:(0:Int)≤(i:Int):=by omega
     go_wp2_with fail;clear k5 k6;obtain ⟨wo,rfl⟩:∃wo:World,wo=wr:=⟨_,rfl⟩
     go_loopw [20] (fun kv wr=>∃(l:Nat) (y:Int),l≤J+1∧kv=.int .i64 y∧y=(l:Int)-1∧FieldIn wr b p mo mk g v ca cb (natS (g.OnA ca cb)) (natS (g.BkS ca cb (i+1) l))∧Below w.heap.size w wr) (fun kv _=>(intOf kv+1).toNat)
     case atStart=>exact ⟨J+1,_,by omega,rfl,by omega,hF.out,HB2⟩
     case round=>
      obtain ⟨l,y,hl,rfl,hy,hF3,HB3⟩:=hrel;clear hF HB2
      by_cases hl0:0<l
      ·obtain ⟨j,rfl⟩:∃j,l=j+1:=⟨l-1,by omega⟩
       obtain rfl:y=(j:Int):=by omega
       clear hy
       have hj0:(0:Int)≤(j:Int):=by omega
       have cLd:=fieldLead wr b p mo mk g v ca cb _ _ i j hF3 (by rw [HIJ.out.1];omega) (by rw [HIJ.out.2];omega)
       have cLd:=Lib.hid cLd;clear hF3;go_wp2_with fail
       (with_reducible refine cLd.out.mono ?_)
       rintro e w2 ⟨rfl,hF5,hK5⟩
       have hF6:=hF5.iff (fun k=>Iff.rfl) (lead_nat (Q:=g.BkS ca cb (i+1) j) (fun p q=>G.bks_step Hok.out hcb hca (by rw [HIJ.out.1];omega) (by rw [HIJ.out.2];omega)))
       have HB4:=Kept.below HB3 hK5 HB3.size (fun k hk=>Hmo.out k (by simp at hk ⊢;exact .inr hk))
       have hF6:=Lib.hid hF6;clear hF5 hK5 cLd;go_wp2;go_roundw
       case rel=>first | exact ⟨j,_,by omega,rfl,by omega,hF6.out,HB4⟩ | ((repeat apply Exists.intro);exact ⟨⟨j,_,by omega,rfl,by omega,hF6.out,HB4⟩,rfl⟩)
       case measure=>simp [intOf]
      ·obtain rfl:l=0:=by omega
       have hy1:y<0:=by omega
       have hF6:=hF3.iff (fun k=>Iff.rfl) (natS_iff (Q:=g.BkS ca cb i (J+1)) (fun p q=>by have:=G.bks_row (g:=g) (a:=ca) (b:=cb) (i:=i) (p:=p) (q:=q);rw [HIJ.out.2] at this;exact this))
       have hF6:=Lib.hid hF6;clear hF3;go_wp2;go_roundw
       case rel=>first | exact ⟨i,_,by omega,rfl,by omega,hF6.out,HB3⟩ | ((repeat apply Exists.intro);exact ⟨⟨i,_,by omega,rfl,by omega,hF6.out,HB3⟩,rfl⟩)
       case measure=>simp [intOf]
    ·obtain rfl:k=0:=by omega
     have hx1:x<0:=by omega
     have hF6:=hF.out.iff (fun k=>Iff.rfl) (natS_iff (Q:=g.BkA ca cb) (fun p q=>G.bks_end Hok.out hcb hca))
     have hD:FieldD w p g v ca cb (.returned (.pointer (some ⟨b,0,none⟩))) wr:=⟨b,mo,mk,rfl,hF6,HB2⟩;clear hF6 hF hx;go_wp2;go_ret;exact hD
end Go.Proofs.YtokhnobcincfjaaGreatDoor
