/- Lemmas of this claim: Lv8. -/
import Derived.Test.YtokhnobcincfjaaGreatDoorKNFr22
set_option linter.unusedVariables false
set_option linter.unusedSimpArgs false
set_option maxHeartbeats 6400000
set_option maxRecDepth 100000
namespace Go.Proofs.YtokhnobcincfjaaGreatDoor
open Go.RowKit Go.Sort FR Go.Lib
theorem OwnE.cap_le {w:World} {B n cap:Nat} {A:Option Addr} {L:List Ed} (h:OwnE w B (.slice A n cap) L):n≤cap:=by
 have hn:n=L.length:=by
  obtain ⟨A',c',e,_⟩:=h.eds;injection e
 rcases h.2 with ⟨e,h0⟩ | ⟨g,cap',cur,e,_,_,hnc,_⟩
 ·omega
 ·injection e with _ _ e3;omega
theorem LvOf.put {w w':World} {b ml me nl:Nat} {Sb Sb':List Nat} {top:Int} {V:Int→Option Value} {E E':Int→Option (List Ed)} (h:LvOf w b ml me Sb top V nl E) (hE:EMap w' Sb' me E') (hS:∀k∈Sb',k∈Sb∨w.heap.size≤k) (hk:Kept (me :: Sb) w w'):LvOf w' b ml me Sb' top V nl E':=by
 obtain ⟨h1,h2,h3,h4,h5,h6,h7,h8⟩:=h;have lb:=(Array.getElem?_eq_some_iff.1 h1).1
 refine ⟨(hk.block b lb (by simp;exact ⟨h7,h4⟩)).trans h1,h2.kept hk (by simp;exact ⟨h8,h5⟩),hE,fun hm=>?_,fun hm=>?_,h6,h7,h8⟩
 ·rcases hS _ hm with q | q
  ·exact h4 q
  ·omega
 ·rcases hS _ hm with q | q
  ·exact h5 q
  ·have:=h2.lt;omega
theorem LvOf.lts {w:World} {b ml me nl:Nat} {Sb:List Nat} {top:Int} {V:Int→Option Value} {E:Int→Option (List Ed)} (h:LvOf w b ml me Sb top V nl E):b<w.heap.size∧ml<w.heap.size∧me<w.heap.size∧∀k∈Sb,k<w.heap.size:=by
 obtain ⟨h1,h2,h3,_⟩:=h;refine ⟨(Array.getElem?_eq_some_iff.1 h1).1,h2.lt,h3.lt,?_⟩;obtain ⟨_,_,_,_,_,_,_,_,h7⟩:=h3;exact h7
theorem LvOf.lev {w w':World} {b ml me nl nl':Nat} {Sb:List Nat} {top:Int} {V V':Int→Option Value} {E:Int→Option (List Ed)} (h:LvOf w b ml me Sb top V nl E) (hM:MapAt iK w' ml V' nl') (hk:Kept [ml] w w'):LvOf w' b ml me Sb top V' nl' E:=by
 obtain ⟨h1,h2,h3,h4,h5,h6,h7,h8⟩:=h
 exact ⟨(hk.block b (Array.getElem?_eq_some_iff.1 h1).1 (by simpa using h6)).trans h1,hM,h3.kept hk (fun s hs=>by simp;rintro rfl;exact h5 hs) (by simpa using Ne.symm h8),h4,h5,h6,h7,h8⟩
def TL (M:List (Nat×Nat)) (left:Int×Int→Prop) (a b:Nat):Prop:=(a,b)∈M∧¬left (((a:Nat):Int),((b:Nat):Int))
def PutI (W:World) (b ml me mo r nl:Nat) (Sb0:List Nat) (tp:Nat) (g:G) (S:LS) (n:Nat) (M:List (Nat×Nat)) (wr:World):Prop:=
 ∃left cnt Sb,RangeAt kP wr mo r (outV S n fun a b=>(a,b)∈M) left cnt∧LvOf wr b ml me Sb (tp:Nat) (levV g (S.part n tp (TL M left))) nl (egE g (S.part n tp (TL M left)))∧(∀k∈Sb,k∈Sb0∨W.heap.size≤k)∧Kept (me :: r :: Sb0) W wr
theorem TL_first (S:LS) (n:Nat) (M:List (Nat×Nat)) (a b:Nat):¬TL M (fun k=>outV S n (fun a b=>(a,b)∈M) k≠none) a b:=by
 rintro ⟨h1,h2⟩
 apply h2
 rw [outV_at h1];simp
theorem TL_step {M:List (Nat×Nat)} {left:Int×Int→Prop} {a b:Nat} (h:(a,b)∈M):(fun x y=>TL M left x y∨(x=a∧y=b))=TL M (fun k=>left k∧k≠(((a:Nat):Int),((b:Nat):Int))):=by
 funext x y
 apply propext
 unfold TL
 constructor
 ·rintro (⟨h1,h2⟩ | ⟨rfl,rfl⟩)
  ·exact ⟨h1,fun q=>h2 q.1⟩
  ·exact ⟨h,fun q=>q.2 rfl⟩
 ·rintro ⟨h1,h2⟩
  by_cases e:x=a∧y=b
  ·exact .inr e
  ·refine .inl ⟨h1,fun q=>h2 ⟨q,fun e2=>e ?_⟩⟩
   injection e2 with e3 e4
   exact ⟨by omega,by omega⟩
theorem TL_last {M:List (Nat×Nat)} {left:Int×Int→Prop} (h:∀k,¬left k) (a b:Nat):TL M left a b↔(a,b)∈M:=⟨fun q=>q.1,fun q=>⟨q,h _⟩⟩
theorem Kept.trans_lt {T T0:List Nat} {a b c:World} (h:Kept T0 a b) (k:Kept T b c) (hT:∀i∈T,i<a.heap.size→i∈T0):Kept T0 a c:=
 ⟨k.os.trans h.os,k.tape.trans h.tape,k.output.trans h.output,Nat.le_trans h.size k.size,fun i hi hn=>(k.block i (Nat.lt_of_lt_of_le hi h.size) (fun hm=>hn (hT i hm hi))).trans (h.block i hi hn)⟩
theorem edge_cells (w:World) (b:Nat) (x y:Value) (h:w.cell? ⟨b,0,none⟩=some y):(w.setCell ⟨b,0,none⟩ x).cell? ⟨b,0,none⟩=some x:=World.cell?_setCell_same (w:=w) (a:=⟨b,0,none⟩) (v:=x) h
theorem edge_other (w:World) (b o:Nat) (x y:Value) (ho:o≠0) (h:w.cell? ⟨b,o,none⟩=some y):(w.setCell ⟨b,0,none⟩ x).cell? ⟨b,o,none⟩=some y:=(World.cell?_setCell_other (w:=w) (a:=⟨b,0,none⟩) (b:=⟨b,o,none⟩) (v:=x) (by simp;try omega)).trans h
theorem part_inC {g:G} {S:LS} {n x:Nat} (hn:g.n≤256):∀e∈EgL S g.n x,inC e.to_:=fun e he=>by
 obtain ⟨t,h1,h2,_⟩:=mem_EgL.1 he;rw [h2];unfold inC;omega
def RdS (W w:World) (b ml me mn nl:Nat) (Sb0:List Nat) (tp:Nat) (g:G) (R:RS):Prop:=
 ∃Sb c,LvOf w b ml me Sb (tp:Nat) (levV g R.S) nl (egE g R.S)∧MapAt iK w mn (nearV R.near) c∧(∀k∈Sb,k∈Sb0∨W.heap.size≤k)∧Kept (mn :: ml :: me :: Sb0) W w
theorem RdS.below {W w w':World} {b ml me mn nl:Nat} {Sb0:List Nat} {tp:Nat} {g:G} {R:RS} (h:RdS W w b ml me mn nl Sb0 tp g R) (hb:Below w.heap.size w w'):RdS W w' b ml me mn nl Sb0 tp g R:=by
 obtain ⟨Sb,c,h1,h2,h3,h4⟩:=h;exact ⟨Sb,c,h1.below hb,h2.below hb,h3,h4.trans (.of_below hb)⟩
def RoundD (w:World) (b ml me nl:Nat) (Sb0:List Nat) (tp:Nat) (g:G) (S:LS) (e:Ending) (w':World):Prop:=
 e=.returned (.bool (RS.run g.n tp (cornersN g) S).some_)∧∃Sb,LvOf w' b ml me Sb (tp:Nat) (levV g (RS.run g.n tp (cornersN g) S).S) nl (egE g (RS.run g.n tp (cornersN g) S).S)∧(∀k∈Sb,k∈Sb0∨w.heap.size≤k)∧Kept (ml :: me :: Sb0) w w'
theorem RdS.fin {W0 W w:World} {b ml me mn nl:Nat} {Sb0:List Nat} {tp:Nat} {g:G} {S:LS} {i:Nat} (h:RdS W w b ml me mn nl Sb0 tp g (rdAt g S tp i)) (hi:(leftN g S).length≤i) (hb:Below W0.heap.size W0 W) (hm:W0.heap.size≤mn):RoundD W0 b ml me nl Sb0 tp g S (.returned (.bool (rdAt g S tp i).some_)) w:=by
 obtain ⟨Sb,c,h1,h2,h3,h4⟩:=h;rw [rd_all hi] at *
 refine ⟨rfl,Sb,h1,fun k hk=>(h3 k hk).imp_right (fun q=>Nat.le_trans hb.size q),⟨h4.os.trans hb.os,h4.tape.trans hb.tape,h4.output.trans hb.output,Nat.le_trans hb.size h4.size,fun k hk hn=>?_⟩⟩
 refine (h4.block k (Nat.lt_of_lt_of_le hk hb.size) ?_).trans (hb.block k hk);intro hm2
 rcases List.mem_cons.1 hm2 with e | e
 ·omega
 ·exact hn e
theorem step_near {N tp n:Nat} {R:RS} (h:R.near n=true):RS.step N tp R n=R:=by unfold RS.step;rw [if_pos (.inr h)]
theorem step_many {N tp n:Nat} {R:RS} (h:(R.S.nb N n).length<(R.S.more N n).length):RS.step N tp R n=R:=by
 unfold RS.step;split
 ·rfl
 ·first | rfl | rw [if_pos h]
theorem step_pass {N tp n:Nat} {R:RS} (h0:R.S.lev n=0) (h1:R.near n=false) (h2:¬(R.S.nb N n).length<(R.S.more N n).length):RS.step N tp R n=⟨R.S.pass N n tp,fun t=>R.near t || decide (t∈R.S.nb N n),true⟩:=by
 unfold RS.step
 rw [if_neg (by rw [h0,h1];simp),if_neg h2]
theorem boolz (w:World):(zeroValue 4).run Tryz.prog w=.ok (.bool false) w:=by kernel_rfl
theorem lvRound (w : World) (b ml me nl : Nat) (Sb0 : List Nat) (tp K : Nat) (g : G) (S : LS) (hok : g.ok) (H : LS.Inv g g.n tp K S (fun _ => false)) (hK : K ≤ 1000) (h : LvOf w b ml me Sb0 (tp : Nat) (levV g S) nl (egE g S)) :
    Calls Tryz.prog 111 #[.pointer (some ⟨b,0,none⟩)] w (RoundD w b ml me nl Sb0 tp g S):=by
 have hn:=G.n_le hok;have hmm:=@run_makeMap Tryz.prog;have HLv:=Lib.hid h;have Hok:=Lib.hid hok;have HInv:=Lib.hid (And.intro H hK);have Hn:=Lib.hid hn;clear h hok H hK hn;go_enter Tryz.func111,Tryz.ntmps111
 go_upto_region 3 with (fail)
 refine wp_name ?_;intro W1 hW1
 have HW1:Below w.heap.size w W1:=by rw [hW1];(repeat' (first | exact Below.refl _ _ | assumption | apply bel_drewN | apply bel_drew | apply bel_alloc | (refine bel_trans ?_ (by assumption))))
 have hM1:MapAt iK W1 w.heap.size (fun _=>none) 0:=by rw [hW1];exact MapAt.made w
 have hs1:W1.heap.size=w.heap.size+1:=by rw [hW1];simp
 obtain ⟨mn,hmn⟩:∃mn,w.heap.size=mn:=⟨_,rfl⟩
 rw [hmn] at hM1 ⊢
 have cL:=Lib.hid (lvLeft W1 b ml me nl Sb0 (tp:Nat) (levV g S) (levI g S) (egE g S) ((leftN g S).map fun n:Nat=>(n:Int)) (HLv.out.below HW1) levV_int (leftI_sorted g S) mem_leftI (fun z hz=>by obtain ⟨n,rfl,hc⟩:=levV_ne.1 hz;have:=hc.1;have:=Hn.out;omega))
 clear hW1 hmm;go_wp2_with fail
 (with_reducible refine cL.out.mono ?_)
 rintro e w2 ⟨A,m,rfl,hlm,hI,hA,hb2⟩
 have hRd:RdS w2 w2 b ml me mn nl Sb0 tp g (rdAt g S tp 0):=⟨Sb0,0,HLv.out.below (bel_trans HW1 hb2),by show MapAt iK w2 mn (nearV fun _=>false) 0;rw [nearV_none];exact hM1.below hb2,fun k hk=>.inl hk,Kept.refl _ _⟩
 obtain ⟨cnt,hcnt⟩:∃c,(leftN g S).length=c:=⟨_,rfl⟩
 rw [List.length_map,hcnt] at hI hlm ⊢
 have hcnt256:cnt≤256:=by rw [←hcnt];exact Nat.le_trans (leftN_len S) Hn.out
 have hAn:∀ad,A=some ad→ad.block∉mn :: ml :: me :: Sb0:=fun ad e hm=>by
  have:=(hA ad e).1;obtain ⟨q1,q2,q3,q4⟩:=HLv.out.lts
  rcases List.mem_cons.1 hm with r | hm
  ·omega
  rcases List.mem_cons.1 hm with r | hm
  ·omega
  rcases List.mem_cons.1 hm with r | hm
  ·omega
  have:=q4 _ hm;omega
 have HAn:=Lib.hid hAn;have HI:=Lib.hid hI;have Hcnt:=Lib.hid hcnt;have HB2:=bel_trans HW1 hb2
 have hmnz:mn<w2.heap.size:=by have:=hb2.size;omega
 clear hI hA hb2 hM1 cL hcnt hAn hs1 HW1;go_wp2_with fail;obtain ⟨wz,rfl⟩:∃wz:World,wz=w2:=⟨_,rfl⟩
 go_loopw [4,17] (fun sv kv wr=>∃i:Nat,kv=.int .i64 i∧i≤cnt∧sv=.bool (rdAt g S tp i).some_∧RdS wz wr b ml me mn nl Sb0 tp g (rdAt g S tp i)) (fun _ kv _=>cnt-(intOf kv).toNat)
 case atStart=>exact ⟨0,rfl,by omega,rfl,hRd⟩
 case round=>
  obtain ⟨i,rfl,hi,rfl,hS⟩:=hrel;have HS:=Lib.hid hS;clear hRd hS;obtain ⟨wo,rfl⟩:∃wo:World,wo=wr:=⟨_,rfl⟩
  by_cases hlt:i<cnt
  ·obtain ⟨n,hn⟩:∃n,(leftN g S)[i]? = some n:=⟨_,List.getElem?_eq_getElem (by rw [Hcnt.out];exact hlt)⟩
   have hgd:((leftN g S).map fun n:Nat=>(n:Int)).getD i 0=(n:Nat):=by
    rw [List.getD_eq_getElem?_getD,List.getElem?_map,hn];rfl
   obtain ⟨Sb,c,hL,hN,hSb,hK⟩:=HS.out;have hIr:=HI.out.kept hK HAn.out
   obtain ⟨ad,hA⟩:=hIr.addr (by omega)
   rw [hA] at hIr
   have hix:=fun wx=>idx_run (m:=m) hA hlt wx
   have hE:=hIr.cell (Below.refl _ _) hlt;rw [hgd] at hE;have hstep:=rd_step (tp:=tp) hn;obtain ⟨h0,hcn⟩:=rd_lev (tp:=tp) hn;have hInv:=rd_inv HInv.out.1 i;obtain ⟨R,hR⟩:∃R,rdAt g S tp i=R:=⟨_,rfl⟩
   rw [hR] at hL hN hstep h0 hInv HS ⊢
   obtain ⟨sm,hsm⟩:∃s,R.some_=s:=⟨_,rfl⟩;rw [hsm]
   have hnl:∀w',Below wo.heap.size wo w'→(Instr.lookup 244 (.map (some mn)) (.int .i64 (n:Nat)) false).run Tryz.prog w'=.ok (.bool (R.near n)) w':=fun w' hb=>by
    have:=((hN.below hb).look (int_fit Tryz.underlying3) Tryz.underlying244 (boolz w') ((n:Nat):Int)).2;rw [nearV_at] at this;exact this
   have hnl0:=hnl wo (Below.refl _ _);obtain ⟨nr,hnr⟩:∃s,R.near n=s:=⟨_,rfl⟩;rw [hnr] at hnl0;have HR:=Lib.hid (And.intro hstep (And.intro h0 (And.intro hcn (And.intro hInv (And.intro hsm hnr)))));clear hn hgd hA hstep h0 hcn hInv hR hsm hnr hnl hK hIr
   cases nr with
   | true=>
    have hF:RdS wz wo b ml me mn nl Sb0 tp g (rdAt g S tp (i+1)):=by rw [HR.out.1,step_near HR.out.2.2.2.2.2];exact HS.out
    have hsm2:sm=(rdAt g S tp (i+1)).some_:=by rw [HR.out.1,step_near HR.out.2.2.2.2.2,HR.out.2.2.2.2.1]
    have HF:=Lib.hid (And.intro hsm2 hF);clear hF hsm2 hL hN hSb HS;go_wp2;go_roundw
    case rel=>exact ⟨i+1,by go_num,by omega,by rw [HF.out.1],HF.out.2⟩
    case measure=>simp [intOf];omega
   | false=>
    have cE:=Lib.hid (lvEdges wo b ml me nl Sb (tp:Nat) (levV g R.S) (levI g R.S) (egE g R.S) (n:Nat) (EgL R.S g.n n) hL (levOf g R.S) (egE_at HR.out.2.2.1) (by have:=len_EgL R.S g.n n;have:=Hn.out;omega))
    have hcor:=inv_cor HR.out.2.2.2.1;have hsml:=inv_sml HR.out.2.2.2.1 HInv.out.2;rw [free_EgL hcor] at cE;have HL:=Lib.hid (And.intro hL (And.intro hN (And.intro hcor (And.intro hsml hSb))));clear hL hN hSb hcor hsml;go_wp2_with fail
    (with_reducible refine cE.out.mono ?_)
    rintro e w3 ⟨vE,rfl,hOE,hb3⟩;obtain ⟨A1,m1,rfl,hEd⟩:=hOE.eds;have hm1:=hOE.cap_le
    have hA1:∀ad,A1=some ad→wo.heap.size≤ad.block:=fun ad e=>(World.ownsRow.lt hOE ad.block (by rw [e];rfl)).1
    obtain ⟨nE,hnE⟩:∃z,(frL R.S g.n n).length=z:=⟨_,rfl⟩
    rw [hnE] at hm1 ⊢
    have hnE256:nE≤256:=by have:=len_frL R.S g.n n;have:=Hn.out;omega
    have cN:=Lib.hid (lvNeeded_any w3 b ml me nl Sb (tp:Nat) g R.S Hok.out HL.out.2.2.1 HL.out.2.2.2.1 n HR.out.2.1 (HL.out.1.below hb3) A1 nE m1 hEd hnE hm1);have HEd:=Lib.hid hEd;have HnE:=Lib.hid hnE;clear hEd hOE hnE hnl0 hE cE;go_wp2_with fail
    (with_reducible refine cN.out.mono ?_)
    rintro e w4 ⟨mo,rfl,hM,hmo,hb4⟩;have hlen:=hM.len (P:=Tryz.prog) (mt:=268) Tryz.underlying268 3;have hb34:=bel_trans hb3 hb4;obtain ⟨ln,hln⟩:∃z,(R.S.more g.n n).length=z:=⟨_,rfl⟩;rw [hln] at hlen hM;have Hln:=Lib.hid hln
    by_cases hmany:nE<ln
    ·have hmy:(R.S.nb g.n n).length<(R.S.more g.n n).length:=by rw [←frL_len,HnE.out,Hln.out];exact hmany
     have hF:RdS wz w4 b ml me mn nl Sb0 tp g (rdAt g S tp (i+1)):=by rw [HR.out.1,step_many hmy];exact HS.out.below hb34
     have hsm2:sm=(rdAt g S tp (i+1)).some_:=by rw [HR.out.1,step_many hmy,HR.out.2.2.2.2.1]
     have HF:=Lib.hid (And.intro hsm2 hF);clear hF hsm2 hmy hM hb34 hb3 hb4 cN HS HL;go_wp2;go_roundw
     case rel=>exact ⟨i+1,by go_num,by omega,by rw [HF.out.1],HF.out.2⟩
     case measure=>simp [intOf];omega
    ·have hmy:¬(R.S.nb g.n n).length<(R.S.more g.n n).length:=by rw [←frL_len,HnE.out,Hln.out];exact hmany
     have hpass:=step_pass (N:=g.n) (tp:=tp) HR.out.2.1 HR.out.2.2.2.2.2 hmy;rw [←HR.out.1] at hpass;have Hpass:=Lib.hid hpass;have HM:=Lib.hid hM
     have hmnS:∀k,k∈b :: ml :: me :: Sb→k≠mn:=fun k hm=>by
      obtain ⟨q1,q2,q3,q4⟩:=HLv.out.lts
      rcases List.mem_cons.1 hm with r | hm
      ·omega
      rcases List.mem_cons.1 hm with r | hm
      ·omega
      rcases List.mem_cons.1 hm with r | hm
      ·omega
      rcases HL.out.2.2.2.2 _ hm with r | r
      ·have:=q4 _ r;omega
      ·have:=hmnz;omega
     have hA1n:∀ad,A1=some ad→ad.block∉[mn]:=fun ad e=>by have:=hA1 ad e;have:=HL.out.2.1.lt;simp;omega
     have HmnS:=Lib.hid (And.intro hmnS hA1n);have hb3s:=hb3.size
     have hmom:mo≠mn:=by have:=HL.out.2.1.lt;have:=hb3.size;omega
     have HL4:=Lib.hid (HL.out.1.below hb34);have HN4:=Lib.hid (HL.out.2.1.below hb34);have hE4:=Lib.hid (HEd.out.below hb4);have hS4:=Lib.hid (HS.out.below hb34);clear hpass hmy hM hln cN HEd HS hmnS hA1n hA1 hb3;go_wp2_with fail;obtain ⟨wy,rfl⟩:∃wy:World,wy=w4:=⟨_,rfl⟩
     go_loopw [38] (fun kv wx=>∃(j:Nat) (c:Nat),kv=.int .i64 j∧j≤nE∧MapAt iK wx mn (nearV (nearJ R.near (R.S.nb g.n n) j)) c∧Kept [mn] wy wx) (fun kv _=>nE-(intOf kv).toNat)
     case atStart=>exact ⟨0,c,rfl,by omega,by rw [nearJ_zero];exact HN4.out,Kept.refl _ _⟩
     case round=>
      obtain ⟨j,cj,rfl,hj,hNj,hKj⟩:=hrel
      by_cases hlj:j<nE
      ·obtain ⟨x,hx⟩:∃x,(frL R.S g.n n)[j]? = some x:=⟨_,List.getElem?_eq_getElem (by rw [HnE.out];exact hlj)⟩
       obtain ⟨t,ht1,ht2,ht3,ht4,ht5,ht6⟩:=frL_at hx;obtain ⟨gb,hA,a1,a2,a3,a4⟩:=(hE4.out.kept hKj HmnS.out.2).get hx
       have hix2:=fun wx=>idxE (m:=m1) hA hlj wx
       obtain ⟨xt,⟨xs,xd⟩,xm⟩:=x;simp only at a1 a2 a3 a4 ht2;subst ht2;have Ht:=Lib.hid ht5;have HNj:=Lib.hid hNj;clear hx ht3 ht4 ht5 ht6 hA hNj
       go_upto_region 14 with (fail)
       refine wp_name ?_;intro W hW
       have HW:Below wr.heap.size wr W:=by rw [hW];(repeat' (first | exact Below.refl _ _ | assumption | apply bel_drewN | apply bel_drew | apply bel_alloc | (refine bel_trans ?_ (by assumption))))
       have o0:W.cell? ⟨wr.heap.size,0,none⟩=some (.int .i64 (t:Nat)):=by rw [hW];go_simp
       obtain ⟨b10,hb10⟩:∃z,wr.heap.size=z:=⟨_,rfl⟩;have hNW:=HNj.out.below HW;have hKW:=hKj.trans (.of_below HW)
       rw [hb10] at o0 ⊢
       clear hW hb10 HW a1 a2 a3 a4 hix2 HNj;go_wp2_with (refine wpList_storeM rfl _ _ _ rfl (int_fit Tryz.underlying3) Tryz.underlying244 hNW rfl ((t:Nat):Int) rfl (.bool true) rfl ?_;intro wU hmU hkU);rw [nearV_put,nearJ_step Ht.out] at hmU;have HF:=Lib.hid (And.intro hmU (hKW.trans hkU));clear hmU hkU hKW hNW o0;go_roundw
       case rel=>first | exact ⟨j+1,_,by go_num,by omega,HF.out⟩ | ((repeat apply Exists.intro);exact ⟨⟨j+1,_,by go_num,by omega,HF.out⟩,rfl⟩)
       case measure=>simp [intOf];omega
      ·obtain rfl:j=nE:=by omega
       rw [nearJ_all (by rw [←frL_len,HnE.out];exact Nat.le_refl _)] at hNj
       have hLw:=HL4.out.kept hKj (fun k hk=>by simpa using HmnS.out.1 k hk)
       have hMw:=HM.out.kept hKj (by simpa using hmom)
       have hkb:wr.heap[b]? = some (.cells #[.map (some ml),.map (some me),.int .i64 (tp:Nat)] 180 (0,0)):=hLw.1
       have kb0:wr.cell? ⟨b,0,none⟩=some (.map (some ml)):=by simp [World.cell?,hkb]
       have kb2:wr.cell? ⟨b,2,none⟩=some (.int .i64 (tp:Nat)):=by simp [World.cell?,hkb]
       have hLd:=hLw.below (bel_drew (Below.refl _ _));obtain ⟨wU,hrun,hMU,hKU⟩:=hLd.2.1.store (P:=Tryz.prog) (mt:=142) (int_fit Tryz.underlying3) Tryz.underlying142 ((n:Nat):Int) (.int .i64 (tp:Nat))
       rw [levV_at HR.out.2.2.1,levV_part (T:=fun _ _=>False) HR.out.2.2.1] at hMU
       simp only [Option.isSome_some,if_true] at hMU;have hLU:=hLd.lev hMU hKU;have hS0:=Lib.hid (And.intro hNj (And.intro hKj (And.intro hLU (And.intro hMw (⟨hKU.os,hKU.tape,hKU.output,hKU.size,hKU.block⟩:Kept [ml] wr wU)))));clear hNj hKj hLw hMw hkb hLd hMU hKU hLU
       go_upto_region 16 with (fail)
       go_region
       have hlo:∀k∈b :: ml :: me :: Sb,k<mo:=fun k hk=>by
        obtain ⟨q1,q2,q3,q4⟩:=HL.out.1.lts;have:=hb34.size;have:wo.heap.size≤w3.heap.size:=hb3s
        rcases List.mem_cons.1 hk with e | hk
        ·omega
        rcases List.mem_cons.1 hk with e | hk
        ·omega
        rcases List.mem_cons.1 hk with e | hk
        ·omega
        have:=q4 _ hk;omega
       have hmlo:=hlo ml (by simp)
       have hMV:=hS0.out.2.2.2.1.kept (w':=wU) (S:=[ml]) hS0.out.2.2.2.2 (by simp;omega)
       have hNV:=hS0.out.1.kept (w':=wU) (S:=[ml]) hS0.out.2.2.2.2 (by simp;have:=HmnS.out.1 ml (by simp);omega)
       have hLV:=hS0.out.2.2.1
       rw [←egE_part0 (g:=g) (S:=R.S) (n:=n) (tp:=tp) (T:=fun _ _=>False) (fun _ _ h=>h)] at hLV
       have hKV:Kept (mn :: ml :: me :: Sb0) wz wU:=by
        obtain ⟨_,_,_,_,_,q4⟩:=hS4.out
        exact (q4.trans_lt hS0.out.2.1 (fun i hi _=>by simp at hi;simp [hi])).trans_lt hS0.out.2.2.2.2 (fun i hi _=>by simp at hi;simp [hi])
       have hmoU:=hMV.lt;have HV:=Lib.hid (And.intro hNV (And.intro hLV hKV));have Hlo:=Lib.hid hlo;clear hNV hLV hKV hS0 hrun kb0 kb2 hlo;go_wp2_with (at_range;refine wpList_rangeM rfl _ rfl kP_inj Tryz.underlying268 hMV rfl ?_;intro w5 hrg hb5 hs5)
       try go_frame
       obtain ⟨r,hr⟩:∃z,wU.heap.size=z:=⟨_,rfl⟩
       rw [hr] at hrg hmoU ⊢
       have hwzU:wz.heap.size≤r:=by rw [←hr];exact HV.out.2.2.size
       have hstart:PutI w5 b ml me mo r nl Sb tp g R.S n (R.S.more g.n n) w5:=by
        refine ⟨_,_,Sb,hrg,?_,fun k hk=>.inl hk,Kept.refl _ _⟩
        have e:TL (R.S.more g.n n) (fun k=>outV R.S n (fun a b=>(a,b)∈R.S.more g.n n) k≠none)=fun _ _=>False:=by
         funext x y;exact propext ⟨fun q=>TL_first _ _ _ _ _ q,fun q=>q.elim⟩
        rw [e];exact HV.out.2.1.below hb5
       have HV5:=Lib.hid (And.intro (HV.out.1.below hb5) (HV.out.2.2.trans (.of_below hb5)))
       have hr5:r<w5.heap.size:=by omega
       clear hrg hMV HV hb5 hs5 hr;obtain ⟨wv,rfl⟩:∃wv:World,wv=w5:=⟨_,rfl⟩
       go_loopw [] (fun wr=>PutI wv b ml me mo r nl Sb tp g R.S n (R.S.more g.n n) wr) (fun wr=>wr.rangeLeft mo r)
       case atStart=>exact hstart
       case round=>
        obtain ⟨left,cl,Sc,hrg,hLc,hSc,hKc⟩:=hrel;clear hstart;have hleft:=Lib.hid hrg.left_eq;have HLc:=Lib.hid (And.intro hLc (And.intro hSc hKc));clear hLc hSc hKc;go_wp2_with (at_next;refine wpList_nextM rfl _ rfl kP_inj hrg rfl ?_ ?_)
        ·intro h0 hl
         have hF:RdS wz wr b ml me mn nl Sb0 tp g (rdAt g S tp (i+1)):=by
          rw [Hpass.out]
          have e:=LS.part_all (S:=R.S) (N:=g.n) (n:=n) (top:=tp) (T:=TL (R.S.more g.n n) left) (fun a b=>TL_last (fun k=>hl k.1 k.2) a b)
          have q:=HLc.out.1;rw [e] at q
          have hmnb:mn<wv.heap.size:=by omega
          refine ⟨Sc,_,q,HV5.out.1.kept HLc.out.2.2 ?_,fun k hk=>?_,HV5.out.2.trans_lt HLc.out.2.2 ?_⟩
          ·intro hm
           rcases List.mem_cons.1 hm with r1 | hm
           ·exact HmnS.out.1 me (by simp) r1.symm
           rcases List.mem_cons.1 hm with r1 | hm
           ·omega
           exact HmnS.out.1 mn (by simp [hm]) rfl
          ·rcases HLc.out.2.1 k hk with r1 | r1
           ·exact HL.out.2.2.2.2 k r1
           ·right;omega
          ·intro k hk hkl
           rcases List.mem_cons.1 hk with r1 | hk
           ·simp [r1]
           rcases List.mem_cons.1 hk with r1 | hk
           ·omega
           rcases HL.out.2.2.2.2 k hk with r1 | r1
           ·simp [r1]
           ·omega
         have hsm2:true=(rdAt g S tp (i+1)).some_:=by rw [Hpass.out]
         have HF:=Lib.hid (And.intro hsm2 hF);clear hF hsm2 hl hrg HLc;go_wp2;go_roundw
         case rel=>first | exact ⟨i+1,by go_num,by omega,by rw [HF.out.1],HF.out.2⟩ | ((repeat apply Exists.intro);exact ⟨⟨i+1,by go_num,by omega,by rw [HF.out.1],HF.out.2⟩,rfl⟩)
         case measure=>simp [intOf];omega
        ·intro kx ky u w6 cl6 hmk hlk hrg6 hlt6 hk6 hs6 hen
         obtain ⟨a',b',e,hab⟩:=outV_some (by rw [hmk];simp)
         injection e with e1 e2
         subst e1;subst e2;rw [outV_at hab] at hmk
         injection hmk with hmk
         obtain ⟨⟨xs,xd⟩,hcx⟩:∃z,C.add (R.S.cost n a') (R.S.cost n b')=z:=⟨_,rfl⟩;rw [hcx] at hmk;obtain rfl:u=.agg #[.int .i64 (b':Nat),.int .i64 xs,.int .i64 xd,.int .i64 (n:Nat)]:=hmk.symm;obtain ⟨na,nb',hlt',_⟩:=LS.mem_more.1 hab
         have hca:g.Corner a':=(HL.out.2.2.1 n a' (by have:=(LS.mem_nb.1 na).2.1;intro h;rw [h] at this;cases this)).2.1
         have hcb:g.Corner b':=(HL.out.2.2.1 n b' (by have:=(LS.mem_nb.1 nb').2.1;intro h;rw [h] at this;cases this)).2.1
         have Hcc:=Lib.hid (And.intro hca (And.intro hcb (And.intro hab hcx)));have Hrg6:=Lib.hid hrg6;have HK6:=Lib.hid hk6;clear hmk hlk hrg hrg6 hk6 hs6 na nb' hca hcb hab hcx
         rw [show kP (((a':Nat):Int),((b':Nat):Int))=.agg #[.int .i64 (a':Nat),.int .i64 (b':Nat)] from rfl]
         replace hen:(Instr.entry (.pointer (some ⟨r,0,none⟩))).run Tryz.prog w6=.ok (.tuple #[.agg #[.int .i64 (a':Nat),.int .i64 (b':Nat)],.agg #[.int .i64 (b':Nat),.int .i64 xs,.int .i64 xd,.int .i64 (n:Nat)]]) w6:=hen
         go_upto_region 20 with (fail)
         refine wp_name ?_;intro W6 hW6
         have HW6:Below w6.heap.size w6 W6:=by rw [hW6];(repeat' (first | exact Below.refl _ _ | assumption | apply bel_drewN | apply bel_drew | apply bel_alloc | (refine bel_trans ?_ (by assumption))))
         have p0:W6.cell? ⟨w6.heap.size,0,none⟩=some (.int .i64 (a':Nat)):=by rw [hW6];go_simp
         have p1:W6.cell? ⟨w6.heap.size,1,none⟩=some (.int .i64 (b':Nat)):=by rw [hW6];go_simp
         have x0:W6.cell? ⟨w6.heap.size+1,0,none⟩=some (.int .i64 (b':Nat)):=by rw [hW6];go_simp
         have x1:W6.cell? ⟨w6.heap.size+1,1,none⟩=some (.int .i64 xs):=by rw [hW6];go_simp
         have x2:W6.cell? ⟨w6.heap.size+1,2,none⟩=some (.int .i64 xd):=by rw [hW6];go_simp
         have x3:W6.cell? ⟨w6.heap.size+1,3,none⟩=some (.int .i64 (n:Nat)):=by rw [hW6];go_simp
         have xf:W6.frozen? ⟨w6.heap.size+1,0,none⟩=false:=by rw [hW6];go_simp
         obtain ⟨b11,hb11⟩:∃z,w6.heap.size=z:=⟨_,rfl⟩;obtain ⟨b12,hb12⟩:∃z,b11+1=z:=⟨_,rfl⟩;obtain ⟨P,hP⟩:∃P,R.S.part n tp (TL (R.S.more g.n n) left)=P:=⟨_,rfl⟩;obtain ⟨T,hT⟩:∃T,TL (R.S.more g.n n) left=T:=⟨_,rfl⟩
         have hScr:∀k∈b :: ml :: me :: Sc,k<mo∨wv.heap.size≤k:=fun k hk=>by
          rcases List.mem_cons.1 hk with r1 | hk
          ·exact .inl (Hlo.out k (by simp [r1]))
          rcases List.mem_cons.1 hk with r1 | hk
          ·exact .inl (Hlo.out k (by simp [r1]))
          rcases List.mem_cons.1 hk with r1 | hk
          ·exact .inl (Hlo.out k (by simp [r1]))
          rcases HLc.out.2.1 k hk with r1 | r1
          ·exact .inl (Hlo.out k (by simp [r1]))
          ·exact .inr r1
         have hsz6:wv.heap.size≤w6.heap.size:=Nat.le_trans HLc.out.2.2.size HK6.out.size
         have hL6:=(HLc.out.1.kept HK6.out (fun k hk=>by have:=hScr k hk;simp;omega)).below HW6
         have hK6w:=(HLc.out.2.2.trans_lt HK6.out (fun k hk _=>by simp at hk;simp [hk])).trans (.of_below HW6)
         have hlts:=hL6.lts
         have hScl:∀k∈b :: ml :: me :: Sc,k<b11:=fun k hk=>by
          obtain ⟨q1,q2,q3,q4⟩:=(HLc.out.1.kept HK6.out (fun k hk=>by have:=hScr k hk;simp;omega)).lts
          rcases List.mem_cons.1 hk with r1 | hk
          ·omega
          rcases List.mem_cons.1 hk with r1 | hk
          ·omega
          rcases List.mem_cons.1 hk with r1 | hk
          ·omega
          have:=q4 k hk;omega
         rw [hP] at hL6;have hin:=part_inC (g:=g) (S:=P) (n:=n) (x:=a') Hn.out;have hin2:=part_inC (g:=g) (S:=P) (n:=n) (x:=b') Hn.out
         have ha256:(a':Int)<256:=by have:=Hcc.out.1.1;have:=Hn.out;omega
         have hb256:(b':Int)<256:=by have:=Hcc.out.2.1.1;have:=Hn.out;omega
         have hab:a'<b':=hlt'
         have cP:=Lib.hid (lvPut W6 Sc b ml me (tp:Nat) (egE g P) a' ⟨(b':Nat),⟨xs,xd⟩,(n:Nat)⟩ (EgL P g.n a') hL6.1 hL6.2.2.1 hL6.2.2.2.1 hL6.2.2.2.2.2.2.1 (egE_at Hcc.out.1) (srt_EgL _ _ _) hin (by unfold inC;simp only;omega) (by have:=len_EgL P g.n a';have:=Hn.out;omega))
         have HW6s:=HW6.size
         rw [hb11] at p0 p1 x0 x1 x2 x3 xf HW6s ⊢
         rw [hb12] at x0 x1 x2 x3 xf ⊢
         have HScr:=Lib.hid (And.intro hScr hScl);have HL6:=Lib.hid (And.intro hL6 hK6w);have HP:=Lib.hid (And.intro hP hT);have HWb:=Lib.hid HW6;have l12:b12<W6.heap.size:=World.block_lt_of_cell? _ _ x0;clear hW6 hen hScr hL6 hK6w hP hT hin hin2 hlts hScl HW6;go_wp2_with fail
         (with_reducible refine cP.out.mono ?_)
         rintro e w8 ⟨rfl,S8,hE8,hS8,hk8⟩
         have hn11:b11∉me :: Sc:=fun hm=>by have:=HScr.out.2 b11 (by simp;right;right;simpa using hm);omega
         have hn12:b12∉me :: Sc:=fun hm=>by have:=HScr.out.2 b12 (by simp;right;right;simpa using hm);omega
         have p0:=keptc hk8 (by exact hn11) p0
         have p1:=keptc hk8 (by exact hn11) p1
         have x0:=keptc hk8 (by exact hn12) x0
         have x1:=keptc hk8 (by exact hn12) x1
         have x2:=keptc hk8 (by exact hn12) x2
         have x3:=keptc hk8 (by exact hn12) x3
         have xf:w8.frozen? ⟨b12,0,none⟩=false:=(World.frozen?_of_block (hk8.block b12 l12 hn12)).trans xf;have hL8:=HL6.out.1.put hE8 hS8 hk8;have HL8:=Lib.hid (And.intro hL8 (And.intro hS8 hk8));clear hE8 hS8 hk8 hL8 cP
         go_upto_region 22 with (fail)
         refine wp_name ?_;intro W9 hW9
         have p1:W9.cell? ⟨b11,1,none⟩=some (.int .i64 (b':Nat)):=by rw [hW9];exact (World.cell?_setCell_other (w:=w8) (a:=⟨b12,0,none⟩) (b:=⟨b11,1,none⟩) (v:=.int .i64 (a':Nat)) (by simp;try omega)).trans p1
         have x0:W9.cell? ⟨b12,0,none⟩=some (.int .i64 (a':Nat)):=by rw [hW9];exact edge_cells _ _ _ _ x0
         have x1:W9.cell? ⟨b12,1,none⟩=some (.int .i64 xs):=by rw [hW9];exact edge_other _ _ _ _ _ (by omega) x1
         have x2:W9.cell? ⟨b12,2,none⟩=some (.int .i64 xd):=by rw [hW9];exact edge_other _ _ _ _ _ (by omega) x2
         have x3:W9.cell? ⟨b12,3,none⟩=some (.int .i64 (n:Nat)):=by rw [hW9];exact edge_other _ _ _ _ _ (by omega) x3
         have hK89:Kept [b12] w8 W9:=by rw [hW9];exact (Kept.refl _ _).setCell (.inl (by simp))
         have h12S:∀k∈b :: ml :: me :: S8,k≠b12:=fun k hk=>by
          rcases List.mem_cons.1 hk with r1 | hk
          ·have:=HScr.out.2 k (by simp [r1]);omega
          rcases List.mem_cons.1 hk with r1 | hk
          ·have:=HScr.out.2 k (by simp [r1]);omega
          rcases List.mem_cons.1 hk with r1 | hk
          ·have:=HScr.out.2 k (by simp [r1]);omega
          rcases HL8.out.2.1 k hk with r1 | r1
          ·have:=HScr.out.2 k (by simp [r1]);omega
          ·omega
         have hL9:=HL8.out.1.kept hK89 (fun k hk=>by simpa using h12S k hk)
         have hin2:=part_inC (g:=g) (S:=P) (n:=n) (x:=b') Hn.out
         have hEb:updE (egE g P) ((a':Nat):Int) (some (putS (EgL P g.n a') ⟨(b':Nat),⟨xs,xd⟩,(n:Nat)⟩)) ((b':Nat):Int)=some (EgL P g.n b'):=by
          unfold updE
          rw [if_neg (by omega),egE_at Hcc.out.2.1]
         have cP:=Lib.hid (lvPut W9 S8 b ml me (tp:Nat) _ b' ⟨(a':Nat),⟨xs,xd⟩,(n:Nat)⟩ (EgL P g.n b') hL9.1 hL9.2.2.1 hL9.2.2.2.1 hL9.2.2.2.2.2.2.1 hEb (srt_EgL _ _ _) hin2 (by unfold inC;simp only;omega) (by have:=len_EgL P g.n b';have:=Hn.out;omega))
         have HL9:=Lib.hid (And.intro hL9 hK89);clear hW9 hL9 hK89 h12S hin2 hEb;go_wp2_with fail
         (with_reducible refine cP.out.mono ?_)
         rintro e wA ⟨rfl,SA,hEA,hSA,hkA⟩;have hLA:=HL9.out.1.put hEA hSA hkA
         have hput:=part_put (g:=g) (S:=R.S) (n:=n) (top:=tp) (a:=a') (b:=b') (T:=T) Hcc.out.1 Hcc.out.2.1 (by omega)
         rw [Hcc.out.2.2.2,←HP.out.2,HP.out.1,TL_step Hcc.out.2.2.1] at hput;rw [hput] at hLA
         have hV:levV g P=levV g (R.S.part n tp (TL (R.S.more g.n n) fun k=>left k∧k≠(((a':Nat):Int),((b':Nat):Int)))):=by rw [←HP.out.1];rfl
         rw [hV] at hLA
         have hSA2:∀k∈SA,k∈Sc∨W6.heap.size≤k:=fun k hk=>by
          rcases hSA k hk with q | q
          ·exact HL8.out.2.1 k q
          ·right;have:=HL8.out.2.2.size;have:=HL9.out.2.size;omega
         have hS82:∀k∈me :: S8,k<mo∨wv.heap.size≤k:=fun k hk=>by
          rcases List.mem_cons.1 hk with r1 | hk
          ·exact HScr.out.1 k (by simp [r1])
          rcases HL8.out.2.1 k hk with r1 | r1
          ·exact HScr.out.1 k (by simp [r1])
          ·right;omega
         have hSc2:∀k∈me :: Sc,k<mo∨wv.heap.size≤k:=fun k hk=>by
          rcases List.mem_cons.1 hk with r1 | hk
          ·exact HScr.out.1 k (by simp [r1])
          ·exact HScr.out.1 k (by simp [hk])
         have hmov:mo<wv.heap.size:=by omega
         have hg:RangeAt kP wA mo r (outV R.S n fun a b=>(a,b)∈R.S.more g.n n) (fun k=>left k∧k≠(((a':Nat):Int),((b':Nat):Int))) cl6:=by
          refine RangeAt.iff ((((Hrg6.out.below HWb.out).kept HL8.out.2.2 ?_ ?_).kept HL9.out.2 ?_ ?_).kept hkA ?_ ?_) (fun k=>Iff.rfl)
          ·intro hm;have:=hSc2 _ hm;omega
          ·intro hm;have:=hSc2 _ hm;omega
          ·simp;omega
          ·simp;omega
          ·intro hm;have:=hS82 _ hm;omega
          ·intro hm;have:=hS82 _ hm;omega
         have hF:PutI wv b ml me mo r nl Sb tp g R.S n (R.S.more g.n n) wA:=by
          refine ⟨_,cl6,SA,hg,hLA,fun k hk=>?_,?_⟩
          ·rcases hSA2 k hk with q | q
           ·exact HLc.out.2.1 k q
           ·right;omega
          ·refine ((HL6.out.2.trans_lt HL8.out.2.2 ?_).trans_lt HL9.out.2 ?_).trans_lt hkA ?_
           ·intro k hk hl
            rcases List.mem_cons.1 hk with r1 | hk
            ·simp [r1]
            rcases HLc.out.2.1 k hk with r1 | r1
            ·simp [r1]
            ·omega
           ·intro k hk hl
            simp at hk;omega
           ·intro k hk hl
            rcases List.mem_cons.1 hk with r1 | hk
            ·simp [r1]
            rcases HL8.out.2.1 k hk with r1 | r1
            ·rcases HLc.out.2.1 k r1 with r2 | r2
             ·simp [r2]
             ·omega
            ·omega
         have hle:wA.rangeLeft mo r=cl6:=hg.left_eq;have HF:=Lib.hid (And.intro hF hle);clear hF hle hg hV hSA2 hS82 hSc2 hmov hEA hSA hkA hLA hput p0 p1 x0 x1 x2 x3 xf;go_wp2;go_roundw
         case rel=>first | exact HF.out.1 | ((repeat apply Exists.intro);exact ⟨HF.out.1,rfl⟩)
         case measure=>rw [hleft.out,HF.out.2];exact hlt6
  ·obtain rfl:i=cnt:=by omega
   have hF:=HS.out.fin (by rw [Hcnt.out];exact Nat.le_refl _) HB2 (by omega)
   have HF:=Lib.hid hF;clear hF HS;go_wp2;go_ret;exact HF.out
end Go.Proofs.YtokhnobcincfjaaGreatDoor
