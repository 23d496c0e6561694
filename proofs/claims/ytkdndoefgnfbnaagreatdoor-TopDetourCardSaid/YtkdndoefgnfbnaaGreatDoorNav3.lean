/- Lemmas of this claim: Nav3. -/
import Derived.Test.YtkdndoefgnfbnaaGreatDoorNav2
import Derived.Test.YtkdndoefgnfbnaaGreatDoorKNavC38
set_option linter.unusedVariables false
set_option linter.unusedSimpArgs false
set_option maxHeartbeats 12800000
set_option maxRecDepth 100000
namespace Go.Proofs.YtkdndoefgnfbnaaGreatDoor
open Go.RowKit Go.Sort FR Go.Lib
def WayNav (w:World) (g:G) (x y:Int) (e:Ending) (w':World):Prop:=
 ∃(W:List Nat) (c:C) (er:Nat),AskIs g x y W c er∧Below w.heap.size w w' ∧
  ((er≠0∧e=.returned (.tuple #[.slice none 0 0,.iface 39 (.int .i64 (er:Nat))])) ∨
   (er=0∧∃A m,e=.returned (.tuple #[.slice A W.length m,.nilIface])∧Ints w' A W.length (fun k=>(natI W).getD k 0)∧∀ad,A=some ad→w.heap.size≤ad.block))
theorem way_natI (g:G) (a b:Nat) (P:Nat→Nat×Nat) (n:Nat):natI (wayC g a b P n)=wayL g a b P n:=by simp [natI,wayC,wayL]
theorem wayC_length (g:G) (a b:Nat) (P:Nat→Nat×Nat) (n:Nat):(wayC g a b P n).length=n:=by simp [wayC]
theorem last_join {W M:List Nat} {z y:Nat} (h1:W.getLast? = some z) (h2:(z :: M).getLast? = some y):(W ++ M).getLast? = some y:=by
 cases M with
 | nil=>simp at h2;subst h2;simpa using h1
 | cons x l=>rw [List.getLast?_append];rw [List.getLast?_cons_cons] at h2;rw [h2];rfl
def StopR (g:G) (a:Nat) (T:List Nat) (cT:C) (k:Nat) (Wk:List Nat):Prop:=
 ∃(z:Nat) (ck c2:C),(a :: T)[k]? = some z∧Wk.head? = some a∧Wk.getLast? = some z∧LS.LW g.E Wk ck∧LS.LW (NrE g) (z :: T.drop k) c2∧C.add ck c2=cT∧Wk.length≤1+k*300
theorem StopR.start {g:G} {a:Nat} {T:List Nat} {cT:C} (h:LS.LW (NrE g) (a :: T) cT):StopR g a T cT 0 [a]:=
 ⟨a,C.zero,cT,rfl,rfl,rfl,.one a,by simpa using h,C.zero_add ..,by simp⟩
theorem StopR.next {g : G} (hok : g.ok) {a : Nat} {T : List Nat} {cT : C} {k z' : Nat} {Wk : List Nat} (h : StopR g a T cT k Wk) (hz : T[k]? = some z') :
    ∃z,Wk.getLast? = some z∧z<g.n∧z'<g.n∧g.b z=false∧g.b z'=false∧g.Near z z'∧∀P,g.WayP z z' P→∃M,wayC g z z' P (g.fI z z'+g.fJ z z'+1)=z :: M∧StopR g a T cT (k+1) (Wk ++ M):=by
 obtain ⟨z,ck,c2,h1,h2,h3,h4,h5,h6,h7⟩:=h;obtain ⟨q1,q2⟩:=List.getElem?_eq_some_iff.1 hz;rw [List.drop_eq_getElem_cons q1,q2] at h5
 cases h5 with
 | cons he h5=>
  obtain ⟨n1,n2,n3,n4,n5,rfl⟩:=he
  refine ⟨z,h3,n1,n2,n3,n4,n5,fun P hP=>?_⟩
  obtain ⟨M,e1,e2,e3⟩:=way_piece hok n2 n1 n5 hP;obtain ⟨f1,f2⟩:=G.fI_le hok n2 n1;have hl:=wayC_length g z z' P (g.fI z z'+g.fJ z z'+1);rw [e1] at hl;simp only [List.length_cons] at hl
  refine ⟨M,e1,z',_,_,by simpa using hz,?_,last_join h3 e3,lw_join h4 h3 e2,h5,by rw [C.add_assoc,h6],?_⟩
  ·cases Wk with
   | nil=>simp at h2
   | cons x l=>simpa using h2
  ·rw [List.length_append];omega
theorem StopR.fin {g:G} {a b:Nat} {W T:List Nat} {cT:C} {Wk:List Nat} (h:StopR g a T cT T.length Wk) (hT:T=W ++ [b]):LS.LW g.E Wk cT∧Wk.head? = some a∧Wk.getLast? = some b:=by
 obtain ⟨z,ck,c2,h1,h2,h3,h4,h5,h6,h7⟩:=h;rw [List.drop_length] at h5
 cases h5
 rw [C.add_zero] at h6;subst h6
 have:z=b:=by
  subst hT
  have e:(a :: (W ++ [b]))[(W ++ [b]).length]? = some b:=by simp
  rw [e] at h1;exact (Option.some.inj h1).symm
 subst this;exact ⟨h4,h2,h3⟩
def WayR (W8:World) (g:G) (a:Nat) (T:List Nat) (cT:C) (gT:Nat) (k:Nat) (sl:Value) (wr:World):Prop:=
 ∃Wk,StopR g a T cT k Wk∧OwnI wr W8.heap.size sl (natI Wk)∧sl.ownBlock≠some gT∧gT<wr.heap.size∧(∀(j z:Nat),T[j]? = some z→wr.cell? ⟨gT,j,none⟩=some (.int .i64 (z:Nat)))∧Below W8.heap.size W8 wr
theorem gs_E {g:G} {E:Int→Option (List Ed)} (h:GSpec g (fun _ _=>True) E):∀z:Int,E z≠none↔∃c:Nat,z=c∧g.Corner c:=h.1
theorem navWay (w : World) (s : Nat) (g : G) (v : Int) (most : Nat) (h : ServAt w s g v most) (x y : Int) :
    Calls Tryz.prog 43 #[.pointer (some ⟨s,0,none⟩),.int .i64 x,.int .i64 y] w (WayNav w g x y):=by
 obtain ⟨_,pg,pt,rb,rp,rm,lb,lm,le,S,E,Sb,nl,hs,m1,m2,hG,hGr,hGs,hLv,_⟩:=h
 have ks0:w.cell? ⟨s,0,none⟩=some (.pointer (some ⟨pg,0,none⟩)):=by rw [Lib.cell_of_heap hs];rfl
 have ks2:w.cell? ⟨s,2,none⟩=some (.pointer (some ⟨rb,0,none⟩)):=by rw [Lib.cell_of_heap hs];rfl
 have ks3:w.cell? ⟨s,3,none⟩=some (.pointer (some ⟨lb,0,none⟩)):=by rw [Lib.cell_of_heap hs];rfl
 have Hok:=Lib.hid hG.1;have HG:=Lib.hid hG;have HGr:=Lib.hid hGr;have HGs:=Lib.hid hGs;have HLv:=Lib.hid hLv;clear hs hG hGr hGs hLv;go_enter Tryz.func43,Tryz.ntmps43
 go_upto_region 1 with (fail)
 refine wp_name ?_;intro W hW
 have HW:Below w.heap.size w W:=by rw [hW];(repeat' (first | exact Below.refl _ _ | assumption | apply bel_drewN | apply bel_drew | apply bel_alloc | (refine bel_trans ?_ (by assumption))))
 obtain ⟨b3,hb3⟩:∃z,w.heap.size=z:=⟨_,rfl⟩
 have k3:W.cell? ⟨b3,0,none⟩=some (.pointer (some ⟨s,0,none⟩)):=by rw [hW,←hb3];go_simp
 rw [hb3];replace ks0:=bel_cell HW ks0;replace ks2:=bel_cell HW ks2;replace ks3:=bel_cell HW ks3;replace HG:=Lib.hid (HG.out.below HW HG.out.lt);replace HGr:=Lib.hid (HGr.out.below HW);replace HLv:=Lib.hid (HLv.out.below HW);replace HW:=Lib.hid HW;clear hW hb3
 by_cases h0:flt2 g x y=0
 case neg=>
  obtain ⟨fz,hfz⟩:∃z,flt2 g x y=z:=⟨_,rfl⟩
  have hf0:fz≠0:=by rw [←hfz];exact h0
  have cN:=Lib.hid (reachNear_bad W pg g v x y fz HG.out hfz hf0);have hA:AskIs g x y [] C.zero fz:=.inl ⟨h0,hfz.symm,rfl,rfl⟩;replace hA:=Lib.hid hA;clear h0 hfz;go_wp2_with fail;refine cN.out.mono ?_;rintro e w2 ⟨rfl,hb2⟩;go_wp2_with fail;go_ret2;exact ⟨[],C.zero,fz,hA.out,bel_trans HW.out hb2,.inl ⟨hf0,rfl⟩⟩
 obtain ⟨f1,f2⟩:=flt2_zero h0;obtain ⟨a,rfl,ha,fa⟩:=G.fault_zero f1;obtain ⟨b,rfl,hb,fb⟩:=G.fault_zero f2;clear h0 f1 f2;have Hab:=Lib.hid (And.intro ha (And.intro hb (And.intro fa fb)));clear ha hb fa fb
 obtain ⟨t,ht⟩:∃t:Bool,t=true↔g.Near a b:=⟨@decide (g.Near a b) (Classical.propDecidable _),by simp⟩
 have cN:=Lib.hid (reachNear_ok W pg g v a b t HG.out Hab.out.1 Hab.out.2.1 Hab.out.2.2.1 Hab.out.2.2.2 ht);replace ht:=Lib.hid ht;go_wp2_with fail;refine cN.out.mono ?_;rintro e w2 ⟨rfl,hb2⟩;have HB2:=Lib.hid (bel_trans HW.out hb2);replace k3:=bel_cell hb2 k3;replace ks0:=bel_cell hb2 ks0;replace ks2:=bel_cell hb2 ks2;replace ks3:=bel_cell hb2 ks3;replace HG:=Lib.hid (HG.out.below hb2 HG.out.lt);replace HGr:=Lib.hid (HGr.out.below hb2)
 replace HLv:=Lib.hid (HLv.out.below hb2);clear cN HW hb2
 cases t with
 | true=>
  have hn:g.Near a b:=ht.out.1 rfl;have cW:=Lib.hid (reachWay_own w2 pg g v a b HG.out Hab.out.1 Hab.out.2.1 Hab.out.2.2.1 Hab.out.2.2.2 hn);replace hn:=Lib.hid hn;go_wp2_with fail;refine cW.out.mono ?_;rintro e w3 ⟨P,hP,v',rfl,hO,hb3⟩;obtain ⟨A,mm,rfl,hI,hf⟩:=hO.intsN;obtain ⟨M,e1,e2,e3⟩:=way_piece Hok.out Hab.out.2.1 Hab.out.1 hn.out hP
  have hA:AskIs g (a:Nat) (b:Nat) (wayC g a b P (g.fI a b+g.fJ a b+1)) (g.oct a b) 0:=
   .inr ⟨a,b,rfl,rfl,Hab.out.1,Hab.out.2.1,Hab.out.2.2.1,Hab.out.2.2.2,.inr ⟨G.near_dist.1 hn.out,rfl,by rw [e1];exact e2,by rw [e1];rfl,by rw [e1];exact e3⟩⟩
  have hln:(wayC g a b P (g.fI a b+g.fJ a b+1)).length=(wayL g a b P (g.fI a b+g.fJ a b+1)).length:=by rw [wayC_length,wayL_length]
  have hF:WayNav w g (a:Nat) (b:Nat) (.returned (.tuple #[.slice A (wayL g a b P (g.fI a b+g.fJ a b+1)).length mm,.nilIface])) w3:=
   ⟨_,_,0,hA,bel_trans HB2.out hb3,.inr ⟨rfl,A,mm,by rw [hln],by rw [hln,way_natI];exact hI,fun ad e=>Nat.le_trans HB2.out.size (hf ad e)⟩⟩
  replace hF:=Lib.hid hF;clear hA hI hf hO hP e1 e2 e3 hb3 cW hln;go_wp2_with fail;go_ret2;exact hF.out
 | false=>
  have hn:¬g.Near a b:=fun k=>by have:=ht.out.2 k;cases this
  replace hn:=Lib.hid hn;have hok:=Hok.out;have hNn:=G.n_le hok;obtain ⟨eo,heo⟩:∃L,L=eAt g a:=⟨_,rfl⟩;obtain ⟨ei,hei⟩:∃L,L=eAt g b:=⟨_,rfl⟩
  have hlo:eo.length≤256:=by rw [heo];exact Nat.le_trans (eUp_len _ _ _ _) (corners_le hok)
  have hli:ei.length≤256:=by rw [hei];exact Nat.le_trans (eUp_len _ _ _ _) (corners_le hok)
  have hoo:EdsOk eo:=by rw [heo];exact eAt_ok hok Hab.out.1
  have hoi:EdsOk ei:=by rw [hei];exact eAt_ok hok Hab.out.2.1
  have hoc:∀e∈ei,∀t:Nat,e.to_=t→C.le (g.oct t b) e.c:=by rw [hei];exact eAt_oct
  have He:=Lib.hid (And.intro heo hei);have HO:=Lib.hid (And.intro hoo (And.intro hoi hoc))
  have cC:Calls Tryz.prog 71 #[.pointer (some ⟨rb,0,none⟩),.int .i64 (a:Nat)] w2 (RetE2 w2 eo):=by
   rw [heo];exact graphConnect w2 rb rp rm S g v a E HGr.out (gs_E HGs.out) Hab.out.1 Hab.out.2.2.1
  replace cC:=Lib.hid cC;clear heo hei hoo hoi hoc hok;go_wp2_with fail;refine cC.out.mono ?_;rintro e w3 ⟨vO,rfl,hO,hb3⟩;obtain ⟨AO,mO,rfl,hEO⟩:=hO.eds;have HB3:=Lib.hid (bel_trans HB2.out hb3);replace k3:=bel_cell hb3 k3;replace ks0:=bel_cell hb3 ks0;replace ks2:=bel_cell hb3 ks2;replace ks3:=bel_cell hb3 ks3;replace HG:=Lib.hid (HG.out.below hb3 HG.out.lt);replace HGr:=Lib.hid (HGr.out.below hb3)
  replace HLv:=Lib.hid (HLv.out.below hb3);have HEO:=Lib.hid hEO.o
  have cC:Calls Tryz.prog 71 #[.pointer (some ⟨rb,0,none⟩),.int .i64 (b:Nat)] w3 (RetE2 w3 ei):=by
   rw [He.out.2];exact graphConnect w3 rb rp rm S g v b E HGr.out (gs_E HGs.out) Hab.out.2.1 Hab.out.2.2.2
  replace cC:=Lib.hid cC;clear hO hEO hb3 HB2;go_wp2_with fail;refine cC.out.mono ?_;rintro e w4 ⟨vI,rfl,hI,hb4⟩;obtain ⟨AI,mI,rfl,hEI⟩:=hI.eds;have HB4:=Lib.hid (bel_trans HB3.out hb4);replace k3:=bel_cell hb4 k3;replace ks0:=bel_cell hb4 ks0;replace ks3:=bel_cell hb4 ks3;replace HG:=Lib.hid (HG.out.below hb4 HG.out.lt);replace HLv:=Lib.hid (HLv.out.below hb4);replace HEO:=Lib.hid (HEO.out.below hb4)
  have HEI:=Lib.hid hEI.o;have cP:=Lib.hid (gridPlace_in w4 pg g v b HG.out Hab.out.2.1);clear hI hEI hb4 HB3 cC HGr HGs ks2;go_wp2_with fail;refine cP.out.mono ?_;rintro e w5 ⟨rfl,hb5⟩
  go_upto_region 13 with (fail)
  refine wp_name ?_;intro W6 hW6
  have hb6:Below w5.heap.size w5 W6:=by rw [hW6];(repeat' (first | exact Below.refl _ _ | assumption | apply bel_drewN | apply bel_drew | apply bel_alloc | (refine bel_trans ?_ (by assumption))))
  have kx:W6.cell? ⟨w5.heap.size,0,none⟩=some (.int .i64 (g.X b:Nat)):=by rw [hW6];go_simp
  have ky:W6.cell? ⟨w5.heap.size+1,0,none⟩=some (.int .i64 (g.Y b:Nat)):=by rw [hW6];go_simp
  obtain ⟨bx,hbx⟩:∃z,w5.heap.size=z:=⟨_,rfl⟩;obtain ⟨by_,hby⟩:∃z,bx+1=z:=⟨_,rfl⟩;have h46:=bel_trans hb5 hb6
  rw [hbx] at kx ky ⊢
  rw [hby] at ky ⊢
  replace kx:=Lib.hid kx;replace ky:=Lib.hid ky;have HB6:=Lib.hid (bel_trans HB4.out h46);replace k3:=bel_cell h46 k3;replace ks0:=bel_cell h46 ks0;replace ks3:=bel_cell h46 ks3;replace HG:=Lib.hid (HG.out.below h46 HG.out.lt);replace HLv:=Lib.hid (HLv.out.below h46);replace HEO:=Lib.hid (HEO.out.below h46);replace HEI:=Lib.hid (HEI.out.below h46);clear hW6 hb5 hb6 hbx hby h46 HB4 cP
  obtain ⟨HF,_,htp⟩:=LS.all_fin Hok.out (cornersN g) (fun n=>mem_cornersN) (most:=most) m1 m2
  obtain ⟨Sv,hSv⟩:∃S,(LS.all g (cornersN g) most).1=S:=⟨_,rfl⟩;obtain ⟨tp,htpe⟩:∃tp,(LS.all g (cornersN g) most).2=tp:=⟨_,rfl⟩;rw [hSv,htpe] at HF HLv;rw [htpe] at htp
  have htp6:tp≤6:=by omega
  obtain ⟨no,hno⟩:∃z,eo.length=z:=⟨_,rfl⟩;obtain ⟨ni,hni⟩:∃z,ei.length=z:=⟨_,rfl⟩
  rw [hno] at hlo ⊢
  rw [hni] at hli ⊢
  have cS:=Lib.hid (srBest W6 lb lm le nl Sb tp g Sv Hok.out HF htp6 HLv.out AO no mO eo HEO.out hno (by omega) HO.out.1 AI ni mI ei HEI.out hni (by omega) HO.out.2.1
   74 #[.pointer (some ⟨b3,0,none⟩),.pointer (some ⟨bx,0,none⟩),.pointer (some ⟨by_,0,none⟩)] (octH g b)
   (guessNav W6 b3 bx by_ s pg g v b Hab.out.2.1 k3 ks0 kx.out ky.out HG.out) (octH_small Hok.out Hab.out.2.1) (octH_256 g b) (fun mkB f hf=>hh_oct Hok.out HF HO.out.2.2 mkB f hf))
  clear HF htp hSv htpe htp6 hno hni hlo hli HLv HEO HEI kx ky;go_wp2_with fail
  (with_reducible refine cS.out.mono ?_)
  rintro e w7 ⟨vw,⟨cs,cd⟩,fd,rfl,hbest,hno,hb7,hyes⟩
  rw [show costV ⟨cs,cd⟩=.agg #[.int .i64 cs,.int .i64 cd] from rfl]
  have hb67:=hb7;replace HB6:=Lib.hid (bel_trans HB6.out hb7);replace k3:=bel_cell hb7 k3;replace ks0:=bel_cell hb7 ks0;replace HG:=Lib.hid (HG.out.below hb7 HG.out.lt);replace hbest:=Lib.hid hbest;replace hno:=Lib.hid hno;replace hyes:=Lib.hid hyes;clear cS hb7 hb67 ks3
  go_upto_region 14 with (fail)
  refine wp_name ?_;intro W8 hW8
  have hb8:Below w7.heap.size w7 W8:=by rw [hW8];(repeat' (first | exact Below.refl _ _ | assumption | apply bel_drewN | apply bel_drew | apply bel_alloc | (refine bel_trans ?_ (by assumption))))
  replace HB6:=Lib.hid (bel_trans HB6.out hb8);replace k3:=bel_cell hb8 k3;replace ks0:=bel_cell hb8 ks0;replace HG:=Lib.hid (HG.out.below hb8 HG.out.lt)
  cases fd with
  | false=>
   have hv:=hno.out rfl;subst hv
   have hA:AskIs g (a:Nat) (b:Nat) [] C.zero 5:=by
    have hb2:=hbest.out;rw [He.out.1,He.out.2] at hb2;exact .inr ⟨a,b,rfl,rfl,Hab.out.1,Hab.out.2.1,Hab.out.2.2.1,Hab.out.2.2.2,.inl ⟨best_none hb2 hn.out,rfl,rfl,rfl⟩⟩
   replace hA:=Lib.hid hA;clear hW8 hb8;go_wp2_with fail;go_ret2
   exact ⟨[],C.zero,5,hA.out,HB6.out,.inl ⟨by decide,rfl⟩⟩
  | true=>
   obtain ⟨AW,mW,Wy,f,rfl,hWm,hIW,hWad,hWl,hFin,hWay⟩:=hyes.out rfl;replace hIW:=hIW.below hb8;have hb2:=hbest.out;rw [He.out.1,He.out.2] at hb2;rw [He.out.2] at hFin;rw [He.out.1] at hWay;have hLW:=stops_of Hok.out Hab.out.1 Hab.out.2.1 Hab.out.2.2.1 Hab.out.2.2.2 hb2 hFin hWay hn.out;have hD:=Lib.hid (best_dist hb2 hn.out)
   have hW0:0<Wy.length:=by
    obtain ⟨_,_,_,_,_,_,h,_⟩:=hWay
    cases Wy with
    | nil=>simp at h
    | cons=>simp
   obtain ⟨n1,hn1⟩:∃z,Wy.length=z:=⟨_,rfl⟩
   rw [hn1] at hIW hW0 hWl hWm ⊢
   obtain ⟨ad,rfl,_⟩:=hIW hW0;replace hLW:=Lib.hid hLW;replace hIW:=Lib.hid hIW;replace hn1:=Lib.hid hn1;clear hW8 hb8 hb2 hFin hWay hWad hbest hno hyes He HO
   go_upto_region 17 with (fail)
   refine wp_name ?_;intro W9 hW9
   have hb9:Below W8.heap.size W8 W9:=by rw [hW9];(repeat' (first | exact Below.refl _ _ | assumption | apply bel_drewN | apply bel_drew | apply bel_alloc | (refine bel_trans ?_ (by assumption))))
   have hO:OwnI W9 W8.heap.size (.slice (some ⟨W8.heap.size,0,none⟩) 1 1) (natI [a]):=by
    rw [hW9]
    refine ⟨rfl,.inr ⟨W8.heap.size,1,#[.int .i64 (a:Nat)],rfl,Nat.le_refl _,?_,by simp,by decide,rfl,rfl⟩⟩
    exact heap_alloc_new W8 (.cells #[.int .i64 (a:Nat)] 3 (0,0))
   have hb89:=bel_alloc hb9 (o:=.cells #[.int .i64 (b:Nat)] 3)
   have hs9:W8.heap.size<W9.heap.size:=by rw [hW9];simp
   have hIA:=Lib.hid (hIW.out.below hb89)
   have hbc:∀(k:Nat) (z:Int),[((b:Nat):Int)][k]? = some z→(W9.alloc (.cells #[.int .i64 (b:Nat)] 3)).cell? ((⟨W9.heap.size,0,none⟩:Addr).add k)=some (.int .i64 z):=by
    intro k z hz
    cases k with
    | zero=>
     simp at hz;subst hz;rw [Addr.add_lit];exact cell1_new _ _ _
    | succ k=>simp at hz
   replace hO:=Lib.hid (OwnI.below (B':=0) hO (bel_alloc (Below.refl _ _) (o:=.cells #[.int .i64 (b:Nat)] 3)));clear hW9 hb9
   have hwl:(natI Wy).length=n1:=by rw [natI_len];exact hn1.out
   have hsl:=run_slice3 (ad:=ad) hW0 hWm;obtain ⟨T,hT⟩:∃T,Wy ++ [b]=T:=⟨_,rfl⟩
   have happ:natI Wy ++ [((b:Nat):Int)]=natI T:=by rw [←hT];simp
   have hTl:(natI T).length=n1+1:=by rw [←happ,List.length_append,hwl];rfl
   rw [hT] at hLW;obtain ⟨nT,hnT⟩:∃z,(natI T).length=z:=⟨_,rfl⟩;have HT:=Lib.hid (And.intro hT (And.intro hnT (And.intro happ hTl)));replace hbc:=Lib.hid hbc;replace hn1:=hn1.out;clear happ hTl hT hnT
   go_wp2_with
    (first
     | (at_builtin; (refine wpList_append_intsF _ rfl _ _ rfl (some ad) n1 (natI Wy) [((b : Nat) : Int)] rfl hwl hW0 hIA.out ⟨W9.heap.size, 0, none⟩ 1 _ rfl rfl (by decide) hbc.out (by omega) ?_); intro v' w10 hown10 hb10
        rw [HT.out.2.2.1] at hown10
        obtain ⟨gT,mT,hv',hmT⟩:=hown10.addr (by rw [HT.out.2.2.2];omega)
        rw [HT.out.2.1] at hv' hmT;subst hv';replace hown10:=Lib.hid hown10))
   have hgT:=World.ownsRow.lt hown10.out gT rfl
   have hst:WayR W8 g a T ⟨cs,cd⟩ gT 0 (.slice (some ⟨W8.heap.size,0,none⟩) 1 1) w10:=by
    refine ⟨[a],StopR.start hLW.out,OwnI.below (B':=0) hO.out hb10,?_,hgT.2,fun j z hz=>hown10.out.cell (natI_get hz),bel_trans hb89 hb10⟩
    intro e;simp [Value.ownBlock] at e;have:=hgT.1;simp at this;omega
   replace hst:=Lib.hid hst
   have hix:∀(k:Nat),k<nT→∀wx,(Instr.indexAt 22 (.slice (some ⟨gT,0,none⟩) nT mT) (.int .i64 ((k:Nat):Int))).run Tryz.prog wx=.ok (.pointer (some ⟨gT,k,none⟩)) wx:=fun k hk wx=>by
    have:=idx_run (A:=some ⟨gT,0,none⟩) (m:=mT) rfl hk wx;rw [Addr.add_lit,Nat.zero_add] at this;exact this
   replace hix:=Lib.hid hix;have hTl:=HT.out.2.2.2;rw [HT.out.2.1] at hTl
   have hnTb:nT≤2000001:=by omega
   have HTl:=Lib.hid hTl;clear hTl hWl hWm hn1 hW0;clear hown10 hb10 hO hbc hIA hs9 hb89 hsl hwl hgT hIW
   go_loopw [18,107] (fun sl iv wr=>∃(k:Nat),k≤nT∧iv=.int .i64 (k:Nat)∧WayR W8 g a T ⟨cs,cd⟩ gT k sl wr) (fun _ iv _=>nT-(intOf iv).toNat)
   case atStart=>exact ⟨0,Nat.zero_le _,rfl,hst.out⟩
   case round=>
    obtain ⟨k,hk,rfl,Wk,hSt,hOk,hne,hgT,hTc,hB⟩:=hrel
    by_cases hlt:k<nT
    ·obtain ⟨z',hz'⟩:∃z',T[k]? = some z':=⟨_,List.getElem?_eq_getElem (by have:=HT.out.2.1;rw [natI_len] at this;omega)⟩
     obtain ⟨z,hl,hz1,hz2,hz3,hz4,hzn,hstep⟩:=hSt.next Hok.out hz'
     have hWk0:0<(natI Wk).length:=by
      rw [natI_len]
      cases Wk with
      | nil=>simp at hl
      | cons=>simp
     obtain ⟨gk,mk,rfl,hmk⟩:=hOk.addr hWk0;obtain ⟨nk,hnk⟩:∃z,(natI Wk).length=z:=⟨_,rfl⟩
     obtain ⟨jk,hjk⟩:∃j,nk=j+1:=⟨nk-1,by omega⟩
     have hlast:(natI Wk)[jk]? = some ((z:Nat):Int):=by
      refine natI_get ?_;rw [List.getLast?_eq_getElem?] at hl;rw [natI_len] at hnk
      rw [show jk=Wk.length-1 by omega];exact hl
     have hcl:=hOk.cell hlast;have hgk:=World.ownsRow.lt hOk gk rfl
     have hgg:gk≠gT:=fun e=>hne (by rw [e];rfl)
     rw [hnk] at hmk ⊢
     have hnb:nk≤1+k*300:=by
      obtain ⟨_,_,_,_,_,_,_,_,_,h⟩:=hSt;rw [natI_len] at hnk;omega
     have hB8:=bel_trans HB6.out hB;have hd:=bel_drew (Below.refl wr.heap.size wr);have kk3:=bel_cell hB k3;have kk0:=bel_cell hB ks0;have hGr:=HG.out.below hB HG.out.lt;have cW:=Lib.hid (reachWay_own wr.drew pg g v z z' (hGr.below hd hGr.lt) hz1 hz2 hz3 hz4 hzn);have ct:=hTc k z' hz';have hixT:=hix.out k hlt;have q0:wr.drew.cell? ⟨b3,0,none⟩=some (.pointer (some ⟨s,0,none⟩))∧wr.drew.cell? ⟨s,0,none⟩=some (.pointer (some ⟨pg,0,none⟩))∧wr.drew.cell? ⟨gk,jk,none⟩=some (.int .i64 (z:Nat)):=⟨bel_cell hd kk3,bel_cell hd kk0,bel_cell hd hcl⟩
     have hw1:IntKind.i64.wrap ((nk:Int)-1)=(nk:Int)-1:=IntWalk.i64_in _ (by omega)
     have hnk1:1≤nk:=by omega
     have hixk:∀wx,(Instr.indexAt 22 (.slice (some ⟨gk,0,none⟩) nk mk) (.int .i64 ((jk:Nat):Int))).run Tryz.prog wx=.ok (.pointer (some ⟨gk,jk,none⟩)) wx:=fun wx=>by
      have:=idx_run (A:=some ⟨gk,0,none⟩) (m:=mk) rfl (show jk<nk by omega) wx
      rw [Addr.add_lit,Nat.zero_add] at this;exact this
     obtain ⟨Ak,hAk⟩:∃A,some (⟨gk,0,none⟩:Addr)=A:=⟨_,rfl⟩
     rw [hAk] at hixk ⊢
     replace hAk:=Lib.hid hAk
     have hixl:∀wx,(Instr.indexAt 22 (.slice Ak nk mk) (.int .i64 ((nk:Int)-1))).run Tryz.prog wx=.ok (.pointer (some ⟨gk,jk,none⟩)) wx:=fun wx=>by
      have:=hixk wx
      rwa [show ((jk:Nat):Int)=(nk:Int)-1 by omega] at this
     replace hixk:=Lib.hid hixk;have H1:=Lib.hid (And.intro hSt (And.intro hOk (And.intro hTc (And.intro hstep (And.intro hnk hjk)))));have H2:=Lib.hid (And.intro hB hgT);have Hzz:=Lib.hid (And.intro hz1 hz2);replace hk:=Lib.hid hk;replace hz':=Lib.hid hz';clear hst hSt hOk hTc hstep hnk hjk hlast hcl hB hgT hGr hl hWk0 kk3 kk0 hz1 hz2 hz3 hz4 hzn hne
     go_upto_region 20 with (fail)
     go_region_held3 (fun w'=>w'.cell? ⟨b3,0,none⟩=some (.pointer (some ⟨s,0,none⟩))∧w'.cell? ⟨s,0,none⟩=some (.pointer (some ⟨pg,0,none⟩))∧w'.cell? ⟨gk,jk,none⟩=some (.int .i64 (z:Nat)))
      (first
       | exact q0
       | exact q1)
      (first
       | (go_at_call 70
          refine cW.out.mono ?_;rintro e w5 ⟨P,hP,vU,rfl,hOU,hb5⟩;have q1:w5.cell? ⟨b3,0,none⟩=some (.pointer (some ⟨s,0,none⟩))∧w5.cell? ⟨s,0,none⟩=some (.pointer (some ⟨pg,0,none⟩))∧w5.cell? ⟨gk,jk,none⟩=some (.int .i64 (z:Nat)):=⟨bel_cell hb5 q0.1,bel_cell hb5 q0.2.1,bel_cell hb5 q0.2.2⟩))
     obtain ⟨M,hM,hSn⟩:=H1.out.2.2.2.1 P hP;rw [←way_natI,hM] at hOU
     obtain ⟨gm,mm,rfl,hmm⟩:=hOU.addr (by rw [natI_len];simp)
     obtain ⟨nM,hnM⟩:∃q,(natI (z :: M)).length=q:=⟨_,rfl⟩
     rw [hnM] at hmm ⊢
     have hM1:(natI M).length+1=nM:=by rw [←hnM,natI_len,natI_len];rfl
     have hMb:nM≤1000:=by
      have:=wayC_length g z z' P (g.fI z z'+g.fJ z z'+1);rw [hM] at this;rw [natI_len] at hnM;obtain ⟨f1,f2⟩:=G.fI_le Hok.out Hzz.out.2 Hzz.out.1;omega
     obtain ⟨o,ho,hsl⟩:=slice_tail (g:=gm) (n:=nM) (m:=mm) (by omega) hmm
     have hMc:∀(j:Nat) (y:Int),(natI M)[j]? = some y→w5.cell? ((⟨gm,o,none⟩:Addr).add j)=some (.int .i64 y):=by
      intro j y hy
      have h1:1<nM:=by have:=(List.getElem?_eq_some_iff.1 hy).1;omega
      rw [ho h1,Addr.add_lit,Nat.add_comm]
      exact hOU.cell (k:=j+1) (by simpa using hy)
     replace hMc:=Lib.hid hMc;have hb05:=bel_trans hd hb5;have hBw:=Lib.hid (bel_trans H2.out.1 hb05);have hkA:=hAk.out;have hOk5:=Lib.hid (OwnI.below (B':=0) H1.out.2.1 hb05)
     have hMl:(natI M).length=nM-1:=by omega
     have hnkl:=H1.out.2.2.2.2.1
     have hTc5:=Lib.hid (fun j x hx=>bel_cell hb05 (H1.out.2.2.1 j x hx))
     have hgT5:gT<w5.heap.size:=Nat.lt_of_lt_of_le H2.out.2 hb05.size;replace hSn:=Lib.hid hSn;clear hixl hixk q0 q1 hOU hP hM hnM hb5 hd hw1 cW ct hixT;subst hkA;have hbl:=hBw.out.size
     have hnl2:(natI Wk).length+(nM-1)<1099511627776:=by omega
     have hnk0:0<(natI Wk).length:=by omega
     have hOk6:=hOk5.out;rw [hnkl] at hOk6;replace hOk6:=Lib.hid hOk6;replace hnkl:=Lib.hid hnkl
     go_upto_region 23 with (fail)
     go_wp2_with (at_builtin;(refine wpList_append_intsG w5 rfl _ _ rfl W8.heap.size (.slice (some ⟨gk,0,none⟩) nk mk) (natI Wk) (natI M) rfl hOk6.out hnk0 ⟨gm,o,none⟩ (nM-1) _ rfl hMl hMc.out hnl2 hbl ?_);intro v' w9 hown9 hgrow hat)
     have hF:WayR W8 g a T ⟨cs,cd⟩ gT (k+1) v' w9:=by
      refine ⟨Wk ++ M,hSn.out,by rw [show natI (Wk ++ M)=natI Wk ++ natI M by simp];exact hown9,fun e=>?_,Nat.lt_of_lt_of_le hgT5 hgrow.size,fun j x hx=>?_,below_grown hBw.out hbl hOk6.out hgrow⟩
      ·rcases hat gT e with h | h
       ·exact hgg (by simpa [Value.ownBlock] using h)
       ·omega
      ·exact (World.cell?_of_block (hgrow.block gT hgT5 (fun e=>hgg (by simpa [Value.ownBlock] using e.symm)))).trans (hTc5.out j x hx)
     replace hF:=Lib.hid hF;clear hown9 hgrow hat hTc5 hgT5 hOk6 hOk5 hBw hMc;go_wp2;go_roundw
     case rel=>first | exact ⟨k+1,by omega,by go_num,hF.out⟩ | ((repeat apply Exists.intro);exact ⟨⟨k+1,by omega,by go_num,hF.out⟩,rfl⟩)
     case measure=>simp [intOf];omega
    ·obtain rfl:k=nT:=by omega
     obtain ⟨A,mA,rfl,hIA,hfA⟩:=hOk.intsN
     have hkl:k=T.length:=by rw [←HT.out.2.1,natI_len]
     rw [hkl] at hSt;obtain ⟨e1,e2,e3⟩:=hSt.fin HT.out.1.symm;have hA:AskIs g (a:Nat) (b:Nat) Wk ⟨cs,cd⟩ 0:=.inr ⟨a,b,rfl,rfl,Hab.out.1,Hab.out.2.1,Hab.out.2.2.1,Hab.out.2.2.2,.inr ⟨hD.out,rfl,e1,e2,e3⟩⟩
     have hF:WayNav w g (a:Nat) (b:Nat) (.returned (.tuple #[.slice A (natI Wk).length mA,.nilIface])) wr:=
      ⟨Wk,⟨cs,cd⟩,0,hA,bel_trans HB6.out hB,.inr ⟨rfl,A,mA,by rw [natI_len],by rw [natI_len] at hIA;exact hIA,fun ad e=>Nat.le_trans HB6.out.size (hfA ad e)⟩⟩
     replace hF:=Lib.hid hF;clear hA e1 e2 e3 hkl hSt hIA hfA hOk hB hTc hgT hne hst;go_wp2;go_ret2;exact hF.out
end Go.Proofs.YtkdndoefgnfbnaaGreatDoor
