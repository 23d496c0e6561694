/- Lemmas of this claim: Nav2, DetW, Nav3, Nav4, Stats. -/
import Derived.Test.YtokhnobcincfjaaGreatDoorNav1
import Derived.Test.YtokhnobcincfjaaGreatDoorKNFr36
import Derived.Test.YtokhnobcincfjaaGreatDoorKNFr21
import Derived.Test.YtokhnobcincfjaaGreatDoorKNFr15
import Derived.Test.YtokhnobcincfjaaGreatDoorKNFr11
import Derived.Test.YtokhnobcincfjaaGreatDoorKNFr5
import Derived.Test.YtokhnobcincfjaaGreatDoorKNFr6
import Derived.Test.YtokhnobcincfjaaGreatDoorKNFr24
import Derived.Test.YtokhnobcincfjaaGreatDoorKNFr38
import Derived.Test.YtokhnobcincfjaaGreatDoorKNFr34
import Derived.Test.YtokhnobcincfjaaGreatDoorKNFr18
set_option linter.unusedVariables false
set_option linter.unusedSimpArgs false
set_option maxHeartbeats 12800000
set_option maxRecDepth 100000
namespace Go.Proofs.YtokhnobcincfjaaGreatDoor
open Go.RowKit Go.Sort FR Go.Lib
theorem guessNav (W0 : World) (b3 b1 b2 s q : Nat) (g : G) (v : Int) (y : Nat) (hy : y < g.n) (k3 : W0.cell? ⟨b3, 0, none⟩ = some (.pointer (some ⟨s, 0, none⟩))) (ks : W0.cell? ⟨s, 0, none⟩ = some (.pointer (some ⟨q, 0, none⟩)))
    (k1:W0.cell? ⟨b1,0,none⟩=some (.int .i64 (g.X y:Nat))) (k2:W0.cell? ⟨b2,0,none⟩=some (.int .i64 (g.Y y:Nat))) (hG:GridAt W0 q g v) :
    GuessOk W0 88 #[.pointer (some ⟨b3,0,none⟩),.pointer (some ⟨b1,0,none⟩),.pointer (some ⟨b2,0,none⟩)] g (octH g y):=by
 refine ⟨callEnter Tryz.func88 (by kernel_rfl) rfl,fun w hw n hn=>?_⟩
 show Calls Tryz.prog _ #[.int .i64 (n:Nat),.pointer (some ⟨b3,0,none⟩),.pointer (some ⟨b1,0,none⟩),.pointer (some ⟨b2,0,none⟩)] w _
 have h:=hG.below hw hG.lt;have hok:=h.1;have hnn:=G.n_le hok;have l1:=G.X_lt hok n;have l2:=G.X_lt hok y;have l3:=G.Y_lt hn.1;have l4:=G.Y_lt hy;obtain ⟨o1,o2,o3,o4⟩:=hok;obtain ⟨z,hz⟩:∃z,octH g y n=z:=⟨_,rfl⟩
 have hz2:octI ((g.X n:Nat)-(g.X y:Nat)) ((g.Y n:Nat)-(g.Y y:Nat))=z:=by rw [←hz,octH_at h.1 y hn.1];rfl
 have cO:=fun w=>costOctile (g.X n:Nat) (g.Y n:Nat) (g.X y:Nat) (g.Y y:Nat) w (by omega) (by omega) (by omega) (by omega)
 rw [hz2] at cO;replace cO:=Lib.hid cO;have k3:=bel_cell hw k3;have ks:=bel_cell hw ks;have k1:=bel_cell hw k1;have k2:=bel_cell hw k2;rw [hz];obtain ⟨xs,xd⟩:=z;have Hn:=Lib.hid hn.1;clear hz hz2 hw hG hn l1 l2 l3 l4 hy;go_enter Tryz.func88,Tryz.ntmps88
 go_upto_region 1 with (fail)
 refine wp_name ?_;intro W hW
 have HW:Below w.heap.size w W:=by rw [hW];(repeat' (first | exact Below.refl _ _ | assumption | apply bel_drewN | apply bel_drew | apply bel_alloc | (refine bel_trans ?_ (by assumption))))
 have q0:W.cell? ⟨w.heap.size,0,none⟩=some (.int .i64 0):=by rw [hW];go_simp
 have q1:W.cell? ⟨w.heap.size,1,none⟩=some (.int .i64 0):=by rw [hW];go_simp
 have f0:W.frozen? ⟨w.heap.size,0,none⟩=false:=by rw [hW];go_simp
 have f1:W.frozen? ⟨w.heap.size,1,none⟩=false:=by rw [hW];go_simp
 have hs:w.heap.size<W.heap.size:=by rw [hW];simp
 have k3:=bel_cell HW k3;have ks:=bel_cell HW ks;have k1:=bel_cell HW k1;have k2:=bel_cell HW k2;have hG:=h.below HW h.lt;clear hW h;go_wp2_with fail;refine (gridPlace_in W q g v n hG Hn.out).mono ?_;rintro e w2 ⟨rfl,hb2⟩;have k1:=bel_cell hb2 k1;have k2:=bel_cell hb2 k2;go_wp2_with fail;refine (cO.out w2).mono ?_;rintro e w3 ⟨rfl,hb3⟩;have HB:=bel_trans hb2 hb3;have q0:=bel_cell HB q0;have q1:=bel_cell HB q1
 have f0:=(HB.frozen (p:=⟨w.heap.size,0,none⟩) hs).trans f0;have f1:=(HB.frozen (p:=⟨w.heap.size,1,none⟩) hs).trans f1;go_wp2_with fail;have e5:=set_two (x:=.int .i64 xs) (y:=.int .i64 xd) q0 q1
 refine bodyPost_ret (v:=.agg #[.int .i64 xs,.int .i64 xd]) (by simp [results,Tryz.results88,go_sem,e5]) rfl ?_
 exact ⟨rfl,((bel_trans HW HB).setCell (by simp) _).setCell (by simp) _⟩
theorem nxt_one {g:G} {a b:Nat} {p q r:Nat×Nat} (h:g.Nxt a b p q) (k:g.Nxt a b p r):q=r:=by
 rcases h with ⟨h1,h2,h3⟩ | ⟨h1,h3⟩ <;> rcases k with ⟨k1,k2,k3⟩ | ⟨k1,k3⟩
 ·rw [h3,k3]
 ·exact absurd ⟨h1,h2⟩ k1
 ·exact absurd ⟨k1,k2⟩ h1
 ·rw [h3,k3]
theorem wayP_one {g:G} {a b:Nat} {P Q:Nat→Nat×Nat} (h:g.WayP a b P) (k:g.WayP a b Q):P=Q:=by
 funext n
 induction n with
 | zero=>rw [h.1,k.1]
 | succ n ih=>
  have h2:=h.2 n;have k2:=k.2 n;rw [ih] at h2;exact nxt_one h2 k2
inductive JnW (g:G):List Nat→List Nat→Prop
 | one (a:Nat):JnW g [a] [a]
 | snoc {T W M:List Nat} {z y:Nat} {P:Nat→Nat×Nat}:JnW g T W→T.getLast? = some z→g.WayP z y P→wayC g z y P (g.fI z y+g.fJ z y+1)=z :: M→JnW g (T ++ [y]) (W ++ M)
theorem JnW.len {g:G} {P W:List Nat} (h:JnW g P W):P≠[]:=by cases h <;> simp
theorem JnW.det {g:G} {P W W':List Nat} (h:JnW g P W) (k:JnW g P W'):W=W':=by
 induction h generalizing W' with
 | one a=>
  generalize hp:[a]=P at k
  cases k with
  | one b=>rfl
  | @snoc P _ _ _ y _ k1 _ _ _=>
   exfalso
   have h2:=congrArg List.length hp;have h3:=k1.len
   cases P with
   | nil=>exact h3 rfl
   | cons=>simp at h2
 | @snoc P W M z y Q h1 h2 h3 h4 ih=>
  generalize hp:P ++ [y]=R at k
  cases k with
  | one b=>
   exfalso
   have q2:=congrArg List.length hp;have q3:=h1.len
   cases P with
   | nil=>exact q3 rfl
   | cons=>simp at q2
  | @snoc P' W1 M' z' y' Q' k1 k2 k3 k4=>
   obtain ⟨rfl,e⟩:=List.append_inj' hp rfl;simp only [List.cons.injEq,and_true] at e;subst e
   rw [h2] at k2;injection k2 with k2;subst k2
   obtain rfl:=wayP_one h3 k3;rw [h4] at k4;rw [ih k1,(List.cons.inj k4).2]
def WayU (g:G) (most a b:Nat) (W:List Nat):Prop:=
 (g.Near a b∧∃P,g.WayP a b P∧W=wayC g a b P (g.fI a b+g.fJ a b+1)) ∨
 (¬g.Near a b∧∃Wy,BestRun g (LS.all g (cornersN g) most).2 (LS.all g (cornersN g) most).1 (octH g b) (eAt g a) (eAt g b) Wy∧JnW g (a :: (Wy ++ [b])) W)
theorem WayU.det {g:G} {most a b:Nat} {W W':List Nat} (h:WayU g most a b W) (k:WayU g most a b W'):W=W':=by
 rcases h with ⟨h1,P,h2,h3⟩ | ⟨h1,P,h2,h3⟩ <;> rcases k with ⟨k1,Q,k2,k3⟩ | ⟨k1,Q,k2,k3⟩
 ·rw [h3,k3,wayP_one h2 k2]
 ·exact absurd h1 k1
 ·exact absurd k1 h1
 ·obtain rfl:=h2.det k2
  exact h3.det k3
def AskU (g:G) (most:Nat) (x y:Int) (W:List Nat) (c:C) (er:Nat):Prop:=AskIs g x y W c er∧(er=0→∃a b:Nat,x=a∧y=b∧WayU g most a b W)
theorem AskU.det {g:G} {most:Nat} {x y:Int} {W W':List Nat} {c c':C} {e e':Nat} (h:AskU g most x y W c e) (k:AskU g most x y W' c' e'):W=W'∧c=c'∧e=e':=by
 obtain ⟨rfl,rfl⟩:=ask_same h.1 k.1;refine ⟨?_,rfl,rfl⟩
 by_cases h0:e=0
 ·obtain ⟨a,b,rfl,rfl,h1⟩:=h.2 h0
  obtain ⟨a',b',e1,e2,k1⟩:=k.2 h0;obtain rfl:a=a':=Int.ofNat_inj.1 e1;obtain rfl:b=b':=Int.ofNat_inj.1 e2;exact h1.det k1
 ·rw [(h.1.zero h0).1,(k.1.zero h0).1]
def FzA (w:World) (A:Option Addr):Prop:=∀ad,A=some ad→ad.block<w.heap.size∧∀o,w.frozen? ⟨ad.block,o,none⟩=false
theorem FzA.kept {S:List Nat} {w w':World} {A:Option Addr} (h:FzA w A) (hk:Kept S w w') (hS:∀ad,A=some ad→ad.block∉S):FzA w' A:=fun ad e=>
 ⟨Nat.lt_of_lt_of_le (h ad e).1 hk.size,fun o=>(World.frozen?_of_block (w:=w) (a:=⟨ad.block,o,none⟩) (hk.block _ (h ad e).1 (hS ad e))).trans ((h ad e).2 o)⟩
theorem OwnI.intsF {w:World} {B:Nat} {v:Value} {zs:List Int} (h:OwnI w B v zs):∃A m,v=.slice A zs.length m∧Ints w A zs.length (fun k=>zs.getD k 0)∧(∀ad,A=some ad→B≤ad.block)∧FzA w A:=by
 obtain ⟨A,m,rfl,h1,h2⟩:=h.intsN
 refine ⟨A,m,rfl,h1,h2,fun ad e=>?_⟩
 rcases h.2 with ⟨e0,_⟩ | ⟨g,cap,cur,e1,_,hh,_⟩
 ·injection e0 with e0;rw [e0] at e;cases e
 ·injection e1 with e1;rw [e1] at e;injection e with e;subst e
  exact ⟨(Array.getElem?_eq_some_iff.1 hh).1,fun o=>Lib.frozen_of_heap hh o⟩
def WayNav (w:World) (g:G) (most:Nat) (x y:Int) (e:Ending) (w':World):Prop:=
 ∃(W:List Nat) (c:C) (er:Nat),AskU g most x y W c er∧Below w.heap.size w w' ∧
  ((er≠0∧e=.returned (.tuple #[.slice none 0 0,.iface 45 (.int .i64 (er:Nat))])) ∨
   (er=0∧∃A m,e=.returned (.tuple #[.slice A W.length m,.nilIface])∧Ints w' A W.length (fun k=>(natI W).getD k 0)∧(∀ad,A=some ad→w.heap.size≤ad.block)∧FzA w' A))
theorem way_natI (g:G) (a b:Nat) (P:Nat→Nat×Nat) (n:Nat):natI (wayC g a b P n)=wayL g a b P n:=by simp [natI,wayC,wayL]
theorem wayC_length (g:G) (a b:Nat) (P:Nat→Nat×Nat) (n:Nat):(wayC g a b P n).length=n:=by simp [wayC]
theorem last_join {W M:List Nat} {z y:Nat} (h1:W.getLast? = some z) (h2:(z :: M).getLast? = some y):(W ++ M).getLast? = some y:=by
 cases M with
 | nil=>simp at h2;subst h2;simpa using h1
 | cons x l=>rw [List.getLast?_append];rw [List.getLast?_cons_cons] at h2;rw [h2];rfl
def StopR (g:G) (a:Nat) (T:List Nat) (cT:C) (k:Nat) (Wk:List Nat):Prop:=
 ∃(z:Nat) (ck c2:C),((a :: T)[k]? = some z∧JnW g ((a :: T).take (k+1)) Wk)∧Wk.head? = some a∧Wk.getLast? = some z∧LS.LW g.E Wk ck∧LS.LW (NrE g) (z :: T.drop k) c2∧C.add ck c2=cT∧Wk.length≤1+k*300
theorem StopR.start {g:G} {a:Nat} {T:List Nat} {cT:C} (h:LS.LW (NrE g) (a :: T) cT):StopR g a T cT 0 [a]:=
 ⟨a,C.zero,cT,⟨rfl,.one a⟩,rfl,rfl,.one a,by simpa using h,C.zero_add ..,by simp⟩
theorem StopR.next {g : G} (hok : g.ok) {a : Nat} {T : List Nat} {cT : C} {k z' : Nat} {Wk : List Nat} (h : StopR g a T cT k Wk) (hz : T[k]? = some z') :
    ∃z,Wk.getLast? = some z∧z<g.n∧z'<g.n∧g.b z=false∧g.b z'=false∧g.Near z z'∧∀P,g.WayP z z' P→∃M,wayC g z z' P (g.fI z z'+g.fJ z z'+1)=z :: M∧StopR g a T cT (k+1) (Wk ++ M):=by
 obtain ⟨z,ck,c2,h1,h2,h3,h4,h5,h6,h7⟩:=h;obtain ⟨q1,q2⟩:=List.getElem?_eq_some_iff.1 hz;rw [List.drop_eq_getElem_cons q1,q2] at h5
 cases h5 with
 | cons he h5=>
  obtain ⟨n1,n2,n3,n4,n5,rfl⟩:=he
  refine ⟨z,h3,n1,n2,n3,n4,n5,fun P hP=>?_⟩
  obtain ⟨M,e1,e2,e3⟩:=way_piece hok n2 n1 n5 hP;obtain ⟨f1,f2⟩:=G.fI_le hok n2 n1;have hl:=wayC_length g z z' P (g.fI z z'+g.fJ z z'+1);rw [e1] at hl;simp only [List.length_cons] at hl
  refine ⟨M,e1,z',_,_,⟨by simpa using hz,?_⟩,?_,last_join h3 e3,lw_join h4 h3 e2,h5,by rw [C.add_assoc,h6],?_⟩
  ·have e4 : (a :: T).take (k + 1 + 1) = (a :: T).take (k + 1) ++ [z'] := by
     have e5:(a :: T)[k+1]? = some z':=by simpa using hz
     obtain ⟨r1,r2⟩:=List.getElem?_eq_some_iff.1 e5;rw [List.take_succ_eq_append_getElem r1,r2]
   rw [e4];refine .snoc h1.2 ?_ hP e1;obtain ⟨r1,r2⟩:=List.getElem?_eq_some_iff.1 h1.1;rw [List.take_succ_eq_append_getElem r1,r2];simp
  ·cases Wk with
   | nil=>simp at h2
   | cons x l=>simpa using h2
  ·rw [List.length_append];omega
theorem StopR.fin {g:G} {a b:Nat} {W T:List Nat} {cT:C} {Wk:List Nat} (h:StopR g a T cT T.length Wk) (hT:T=W ++ [b]):LS.LW g.E Wk cT∧Wk.head? = some a∧Wk.getLast? = some b∧JnW g (a :: T) Wk:=by
 obtain ⟨z,ck,c2,h1,h2,h3,h4,h5,h6,h7⟩:=h;rw [List.drop_length] at h5
 cases h5
 rw [C.add_zero] at h6;subst h6
 have:z=b:=by
  subst hT
  have e:(a :: (W ++ [b]))[(W ++ [b]).length]? = some b:=by simp
  rw [e] at h1;exact (Option.some.inj h1.1).symm
 subst this;refine ⟨h4,h2,h3,?_⟩;have:=h1.2
 rwa [List.take_of_length_le (by simp)] at this
def WayR (W8:World) (g:G) (a:Nat) (T:List Nat) (cT:C) (gT:Nat) (k:Nat) (sl:Value) (wr:World):Prop:=
 ∃Wk,StopR g a T cT k Wk∧OwnI wr W8.heap.size sl (natI Wk)∧sl.ownBlock≠some gT∧gT<wr.heap.size∧(∀(j z:Nat),T[j]? = some z→wr.cell? ⟨gT,j,none⟩=some (.int .i64 (z:Nat)))∧Below W8.heap.size W8 wr
theorem gs_E {g:G} {E:Int→Option (List Ed)} (h:GSpec g (fun _ _=>True) E):∀z:Int,E z≠none↔∃c:Nat,z=c∧g.Corner c:=h.1
theorem navWay (w : World) (s : Nat) (g : G) (v : Int) (most : Nat) (h : ServAt w s g v most) (x y : Int) :
    Calls Tryz.prog 46 #[.pointer (some ⟨s,0,none⟩),.int .i64 x,.int .i64 y] w (WayNav w g most x y):=by
 obtain ⟨_,pg,pt,rb,rp,rm,lb,lm,le,S,E,Sb,nl,hs,m1,m2,hG,hGr,hGs,hLv,_⟩:=h
 have ks0:w.cell? ⟨s,0,none⟩=some (.pointer (some ⟨pg,0,none⟩)):=by rw [Lib.cell_of_heap hs];rfl
 have ks2:w.cell? ⟨s,2,none⟩=some (.pointer (some ⟨rb,0,none⟩)):=by rw [Lib.cell_of_heap hs];rfl
 have ks3:w.cell? ⟨s,3,none⟩=some (.pointer (some ⟨lb,0,none⟩)):=by rw [Lib.cell_of_heap hs];rfl
 have Hok:=Lib.hid hG.1;have HG:=Lib.hid hG;have HGr:=Lib.hid hGr;have HGs:=Lib.hid hGs;have HLv:=Lib.hid hLv;clear hs hG hGr hGs hLv;go_enter Tryz.func46,Tryz.ntmps46
 go_upto_region 1 with (fail)
 refine wp_name ?_;intro W hW
 have HW:Below w.heap.size w W:=by rw [hW];(repeat' (first | exact Below.refl _ _ | assumption | apply bel_drewN | apply bel_drew | apply bel_alloc | (refine bel_trans ?_ (by assumption))))
 obtain ⟨b3,hb3⟩:∃z,w.heap.size=z:=⟨_,rfl⟩
 have k3:W.cell? ⟨b3,0,none⟩=some (.pointer (some ⟨s,0,none⟩)):=by rw [hW,←hb3];go_simp
 rw [hb3];replace ks0:=bel_cell HW ks0;replace ks2:=bel_cell HW ks2;replace ks3:=bel_cell HW ks3;replace HG:=Lib.hid (HG.out.below HW HG.out.lt);replace HGr:=Lib.hid (HGr.out.below HW);replace HLv:=Lib.hid (HLv.out.below HW);replace HW:=Lib.hid HW;clear hW hb3
 by_cases h0:flt2 g x y=0
 case neg=>
  obtain ⟨fz,hfz⟩:∃z,flt2 g x y=z:=⟨_,rfl⟩
  have hf0:fz≠0:=by rw [←hfz];exact h0
  have cN:=Lib.hid (reachNear_bad W pg g v x y fz HG.out hfz hf0)
  have hA:AskU g most x y [] C.zero fz:=⟨.inl ⟨h0,hfz.symm,rfl,rfl⟩,fun q=>absurd q hf0⟩
  replace hA:=Lib.hid hA;clear h0 hfz;go_wp2_with fail;refine cN.out.mono ?_;rintro e w2 ⟨rfl,hb2⟩;go_wp2_with fail;go_ret2;exact ⟨[],C.zero,fz,hA.out,bel_trans HW.out hb2,.inl ⟨hf0,rfl⟩⟩
 obtain ⟨f1,f2⟩:=flt2_zero h0;obtain ⟨a,rfl,ha,fa⟩:=G.fault_zero f1;obtain ⟨b,rfl,hb,fb⟩:=G.fault_zero f2;clear h0 f1 f2;have Hab:=Lib.hid (And.intro ha (And.intro hb (And.intro fa fb)));clear ha hb fa fb
 obtain ⟨t,ht⟩:∃t:Bool,t=true↔g.Near a b:=⟨@decide (g.Near a b) (Classical.propDecidable _),by simp⟩
 have cN:=Lib.hid (reachNear_ok W pg g v a b t HG.out Hab.out.1 Hab.out.2.1 Hab.out.2.2.1 Hab.out.2.2.2 ht);replace ht:=Lib.hid ht;go_wp2_with fail;refine cN.out.mono ?_;rintro e w2 ⟨rfl,hb2⟩;have HB2:=Lib.hid (bel_trans HW.out hb2);replace k3:=bel_cell hb2 k3;replace ks0:=bel_cell hb2 ks0;replace ks2:=bel_cell hb2 ks2;replace ks3:=bel_cell hb2 ks3;replace HG:=Lib.hid (HG.out.below hb2 HG.out.lt);replace HGr:=Lib.hid (HGr.out.below hb2)
 replace HLv:=Lib.hid (HLv.out.below hb2);clear cN HW hb2
 cases t with
 | true=>
  have hn:g.Near a b:=ht.out.1 rfl;have cW:=Lib.hid (reachWay_own w2 pg g v a b HG.out Hab.out.1 Hab.out.2.1 Hab.out.2.2.1 Hab.out.2.2.2 hn);replace hn:=Lib.hid hn;go_wp2_with fail;refine cW.out.mono ?_;rintro e w3 ⟨P,hP,v',rfl,hO,hb3⟩;obtain ⟨A,mm,rfl,hI,hf,hz⟩:=hO.intsF;obtain ⟨M,e1,e2,e3⟩:=way_piece Hok.out Hab.out.2.1 Hab.out.1 hn.out hP
  have hA:AskU g most (a:Nat) (b:Nat) (wayC g a b P (g.fI a b+g.fJ a b+1)) (g.oct a b) 0:=
   ⟨.inr ⟨a,b,rfl,rfl,Hab.out.1,Hab.out.2.1,Hab.out.2.2.1,Hab.out.2.2.2,.inr ⟨G.near_dist.1 hn.out,rfl,by rw [e1];exact e2,by rw [e1];rfl,by rw [e1];exact e3⟩⟩,fun _=>⟨a,b,rfl,rfl,.inl ⟨hn.out,P,hP,rfl⟩⟩⟩
  have hln:(wayC g a b P (g.fI a b+g.fJ a b+1)).length=(wayL g a b P (g.fI a b+g.fJ a b+1)).length:=by rw [wayC_length,wayL_length]
  have hF:WayNav w g most (a:Nat) (b:Nat) (.returned (.tuple #[.slice A (wayL g a b P (g.fI a b+g.fJ a b+1)).length mm,.nilIface])) w3:=
   ⟨_,_,0,hA,bel_trans HB2.out hb3,.inr ⟨rfl,A,mm,by rw [hln],by rw [hln,way_natI];exact hI,fun ad e=>Nat.le_trans HB2.out.size (hf ad e),hz⟩⟩
  replace hF:=Lib.hid hF;clear hA hI hf hz hO hP e1 e2 e3 hb3 cW hln;go_wp2_with fail;go_ret2;exact hF.out
 | false=>
  have hn:¬g.Near a b:=fun k=>by have:=ht.out.2 k;cases this
  replace hn:=Lib.hid hn;have hok:=Hok.out;have hNn:=G.n_le hok;obtain ⟨eo,heo⟩:∃L,L=eAt g a:=⟨_,rfl⟩;obtain ⟨ei,hei⟩:∃L,L=eAt g b:=⟨_,rfl⟩
  have hlo:eo.length≤256:=by rw [heo];exact Nat.le_trans (eUp_len _ _ _ _) (corners_le hok)
  have hli:ei.length≤256:=by rw [hei];exact Nat.le_trans (eUp_len _ _ _ _) (corners_le hok)
  have hoo:EdsOk eo:=by rw [heo];exact eAt_ok hok Hab.out.1
  have hoi:EdsOk ei:=by rw [hei];exact eAt_ok hok Hab.out.2.1
  have hoc:∀e∈ei,∀t:Nat,e.to_=t→C.le (g.oct t b) e.c:=by rw [hei];exact eAt_oct
  have He:=Lib.hid (And.intro heo hei);have HO:=Lib.hid (And.intro hoo (And.intro hoi hoc))
  have cC:Calls Tryz.prog 85 #[.pointer (some ⟨rb,0,none⟩),.int .i64 (a:Nat)] w2 (RetE2 w2 eo):=by
   rw [heo];exact graphConnect w2 rb rp rm S g v a E HGr.out (gs_E HGs.out) Hab.out.1 Hab.out.2.2.1
  replace cC:=Lib.hid cC;clear heo hei hoo hoi hoc hok;go_wp2_with fail;refine cC.out.mono ?_;rintro e w3 ⟨vO,rfl,hO,hb3⟩;obtain ⟨AO,mO,rfl,hEO⟩:=hO.eds;have HB3:=Lib.hid (bel_trans HB2.out hb3);replace k3:=bel_cell hb3 k3;replace ks0:=bel_cell hb3 ks0;replace ks2:=bel_cell hb3 ks2;replace ks3:=bel_cell hb3 ks3;replace HG:=Lib.hid (HG.out.below hb3 HG.out.lt);replace HGr:=Lib.hid (HGr.out.below hb3)
  replace HLv:=Lib.hid (HLv.out.below hb3);have HEO:=Lib.hid hEO.o
  have cC:Calls Tryz.prog 85 #[.pointer (some ⟨rb,0,none⟩),.int .i64 (b:Nat)] w3 (RetE2 w3 ei):=by
   rw [He.out.2];exact graphConnect w3 rb rp rm S g v b E HGr.out (gs_E HGs.out) Hab.out.2.1 Hab.out.2.2.2
  replace cC:=Lib.hid cC;clear hO hEO hb3 HB2;go_wp2_with fail;refine cC.out.mono ?_;rintro e w4 ⟨vI,rfl,hI,hb4⟩;obtain ⟨AI,mI,rfl,hEI⟩:=hI.eds;have HB4:=Lib.hid (bel_trans HB3.out hb4);replace k3:=bel_cell hb4 k3;replace ks0:=bel_cell hb4 ks0;replace ks3:=bel_cell hb4 ks3;replace HG:=Lib.hid (HG.out.below hb4 HG.out.lt);replace HLv:=Lib.hid (HLv.out.below hb4);replace HEO:=Lib.hid (HEO.out.below hb4)
  have HEI:=Lib.hid hEI.o;have cP:=Lib.hid (gridPlace_in w4 pg g v b HG.out Hab.out.2.1);clear hI hEI hb4 HB3 cC HGr HGs ks2;go_wp2_with fail;refine cP.out.mono ?_;rintro e w5 ⟨rfl,hb5⟩
  go_upto_region 13 with (fail)
  refine wp_name ?_;intro W6 hW6
  have hb6:Below w5.heap.size w5 W6:=by rw [hW6];(repeat' (first | exact Below.refl _ _ | assumption | apply bel_drewN | apply bel_drew | apply bel_alloc | (refine bel_trans ?_ (by assumption))))
  have kx:W6.cell? ⟨w5.heap.size,0,none⟩=some (.int .i64 (g.X b:Nat)):=by rw [hW6];go_simp
  have ky:W6.cell? ⟨w5.heap.size+1,0,none⟩=some (.int .i64 (g.Y b:Nat)):=by rw [hW6];go_simp
  obtain ⟨bx,hbx⟩:∃z,w5.heap.size=z:=⟨_,rfl⟩;obtain ⟨by_,hby⟩:∃z,bx+1=z:=⟨_,rfl⟩;have h46:=bel_trans hb5 hb6
  rw [hbx] at kx ky ⊢
  rw [hby] at ky ⊢
  replace kx:=Lib.hid kx;replace ky:=Lib.hid ky;have HB6:=Lib.hid (bel_trans HB4.out h46);replace k3:=bel_cell h46 k3;replace ks0:=bel_cell h46 ks0;replace ks3:=bel_cell h46 ks3;replace HG:=Lib.hid (HG.out.below h46 HG.out.lt);replace HLv:=Lib.hid (HLv.out.below h46);replace HEO:=Lib.hid (HEO.out.below h46);replace HEI:=Lib.hid (HEI.out.below h46);clear hW6 hb5 hb6 hbx hby h46 HB4 cP
  obtain ⟨HF,_,htp⟩:=LS.all_fin Hok.out (cornersN g) (fun n=>mem_cornersN) (most:=most) m1 m2
  obtain ⟨Sv,hSv⟩:∃S,(LS.all g (cornersN g) most).1=S:=⟨_,rfl⟩;obtain ⟨tp,htpe⟩:∃tp,(LS.all g (cornersN g) most).2=tp:=⟨_,rfl⟩;have HSv:=Lib.hid (And.intro hSv htpe);rw [hSv,htpe] at HF HLv;rw [htpe] at htp
  have htp6:tp≤6:=by omega
  obtain ⟨no,hno⟩:∃z,eo.length=z:=⟨_,rfl⟩;obtain ⟨ni,hni⟩:∃z,ei.length=z:=⟨_,rfl⟩
  rw [hno] at hlo ⊢
  rw [hni] at hli ⊢
  have cS:=Lib.hid (srBestX W6 lb lm le nl Sb tp g Sv Hok.out HF htp6 HLv.out AO no mO eo HEO.out hno (by omega) HO.out.1 AI ni mI ei HEI.out hni (by omega) HO.out.2.1
   88 #[.pointer (some ⟨b3,0,none⟩),.pointer (some ⟨bx,0,none⟩),.pointer (some ⟨by_,0,none⟩)] (octH g b)
   (guessNav W6 b3 bx by_ s pg g v b Hab.out.2.1 k3 ks0 kx.out ky.out HG.out) (octH_small Hok.out Hab.out.2.1) (octH_256 g b) (fun mkB f hf=>hh_oct Hok.out HF HO.out.2.2 mkB f hf))
  clear HF htp hSv htpe htp6 hno hni hlo hli HLv HEO HEI kx ky;go_wp2_with fail
  (with_reducible refine cS.out.mono ?_)
  rintro e w7 ⟨vw,⟨cs,cd⟩,fd,rfl,hbest,hno,hb7,hyes⟩
  rw [show costV ⟨cs,cd⟩=.agg #[.int .i64 cs,.int .i64 cd] from rfl]
  have hb67:=hb7;replace HB6:=Lib.hid (bel_trans HB6.out hb7);replace k3:=bel_cell hb7 k3;replace ks0:=bel_cell hb7 ks0;replace HG:=Lib.hid (HG.out.below hb7 HG.out.lt);replace hbest:=Lib.hid hbest;replace hno:=Lib.hid hno;replace hyes:=Lib.hid hyes;clear cS hb7 hb67 ks3
  go_upto_region 14 with (fail)
  refine wp_name ?_;intro W8 hW8
  have hb8:Below w7.heap.size w7 W8:=by rw [hW8];(repeat' (first | exact Below.refl _ _ | assumption | apply bel_drewN | apply bel_drew | apply bel_alloc | (refine bel_trans ?_ (by assumption))))
  replace HB6:=Lib.hid (bel_trans HB6.out hb8);replace k3:=bel_cell hb8 k3;replace ks0:=bel_cell hb8 ks0;replace HG:=Lib.hid (HG.out.below hb8 HG.out.lt)
  cases fd with
  | false=>
   have hv:=hno.out rfl;subst hv
   have hA:AskU g most (a:Nat) (b:Nat) [] C.zero 5:=by
    refine ⟨?_,fun q=>nomatch q⟩
    have hb2:=hbest.out;rw [He.out.1,He.out.2] at hb2;exact .inr ⟨a,b,rfl,rfl,Hab.out.1,Hab.out.2.1,Hab.out.2.2.1,Hab.out.2.2.2,.inl ⟨best_none hb2 hn.out,rfl,rfl,rfl⟩⟩
   replace hA:=Lib.hid hA;clear hW8 hb8;go_wp2_with fail;go_ret2
   exact ⟨[],C.zero,5,hA.out,HB6.out,.inl ⟨by decide,rfl⟩⟩
  | true=>
   obtain ⟨AW,mW,Wy,f,rfl,hWm,hIW,hWad,hWl,hFin,hWay,hRun⟩:=hyes.out rfl
   have hRun:Hid (BestRun g (LS.all g (cornersN g) most).2 (LS.all g (cornersN g) most).1 (octH g b) (eAt g a) (eAt g b) Wy):=Lib.hid (by rw [HSv.out.1,HSv.out.2,←He.out.1,←He.out.2];exact hRun)
   replace hIW:=hIW.below hb8;have hb2:=hbest.out;rw [He.out.1,He.out.2] at hb2;rw [He.out.2] at hFin;rw [He.out.1] at hWay;have hLW:=stops_of Hok.out Hab.out.1 Hab.out.2.1 Hab.out.2.2.1 Hab.out.2.2.2 hb2 hFin hWay hn.out;have hD:=Lib.hid (best_dist hb2 hn.out)
   have hW0:0<Wy.length:=by
    obtain ⟨_,_,_,_,_,_,h,_⟩:=hWay
    cases Wy with
    | nil=>simp at h
    | cons=>simp
   obtain ⟨n1,hn1⟩:∃z,Wy.length=z:=⟨_,rfl⟩
   rw [hn1] at hIW hW0 hWl hWm ⊢
   obtain ⟨ad,rfl,_⟩:=hIW hW0;replace hLW:=Lib.hid hLW;replace hIW:=Lib.hid hIW;replace hn1:=Lib.hid hn1;clear hW8 hb8 hb2 hFin hWay hWad hbest hno hyes He HO
   go_upto_region 17 with (fail)
   refine wp_name ?_;intro W9 hW9
   have hb9:Below W8.heap.size W8 W9:=by rw [hW9];(repeat' (first | exact Below.refl _ _ | assumption | apply bel_drewN | apply bel_drew | apply bel_alloc | (refine bel_trans ?_ (by assumption))))
   have hO:OwnI W9 W8.heap.size (.slice (some ⟨W8.heap.size,0,none⟩) 1 1) (natI [a]):=by
    rw [hW9]
    refine ⟨rfl,.inr ⟨W8.heap.size,1,#[.int .i64 (a:Nat)],rfl,Nat.le_refl _,?_,by simp,by decide,rfl,rfl⟩⟩
    exact heap_alloc_new W8 (.cells #[.int .i64 (a:Nat)] 3 (0,0))
   have hb89:=bel_alloc hb9 (o:=.cells #[.int .i64 (b:Nat)] 3)
   have hs9:W8.heap.size<W9.heap.size:=by rw [hW9];simp
   have hIA:=Lib.hid (hIW.out.below hb89)
   have hbc:∀(k:Nat) (z:Int),[((b:Nat):Int)][k]? = some z→(W9.alloc (.cells #[.int .i64 (b:Nat)] 3)).cell? ((⟨W9.heap.size,0,none⟩:Addr).add k)=some (.int .i64 z):=by
    intro k z hz
    cases k with
    | zero=>
     simp at hz;subst hz;rw [Addr.add_lit];exact cell1_new _ _ _
    | succ k=>simp at hz
   replace hO:=Lib.hid (OwnI.below (B':=0) hO (bel_alloc (Below.refl _ _) (o:=.cells #[.int .i64 (b:Nat)] 3)));clear hW9 hb9
   have hwl:(natI Wy).length=n1:=by rw [natI_len];exact hn1.out
   have hsl:=run_slice3 (ad:=ad) hW0 hWm;obtain ⟨T,hT⟩:∃T,Wy ++ [b]=T:=⟨_,rfl⟩
   have happ:natI Wy ++ [((b:Nat):Int)]=natI T:=by rw [←hT];simp
   have hTl:(natI T).length=n1+1:=by rw [←happ,List.length_append,hwl];rfl
   rw [hT] at hLW;obtain ⟨nT,hnT⟩:∃z,(natI T).length=z:=⟨_,rfl⟩;have HT:=Lib.hid (And.intro hT (And.intro hnT (And.intro happ hTl)));replace hbc:=Lib.hid hbc;replace hn1:=hn1.out;clear happ hTl hT hnT
   go_wp2_with
    (first
     | (at_builtin; (refine wpList_append_intsF _ rfl _ _ rfl (some ad) n1 (natI Wy) [((b : Nat) : Int)] rfl hwl hW0 hIA.out ⟨W9.heap.size, 0, none⟩ 1 _ rfl rfl (by decide) hbc.out (by omega) ?_); intro v' w10 hown10 hb10
        rw [HT.out.2.2.1] at hown10
        obtain ⟨gT,mT,hv',hmT⟩:=hown10.addr (by rw [HT.out.2.2.2];omega)
        rw [HT.out.2.1] at hv' hmT;subst hv';replace hown10:=Lib.hid hown10))
   have hgT:=World.ownsRow.lt hown10.out gT rfl
   have hst:WayR W8 g a T ⟨cs,cd⟩ gT 0 (.slice (some ⟨W8.heap.size,0,none⟩) 1 1) w10:=by
    refine ⟨[a],StopR.start hLW.out,OwnI.below (B':=0) hO.out hb10,?_,hgT.2,fun j z hz=>hown10.out.cell (natI_get hz),bel_trans hb89 hb10⟩
    intro e;simp [Value.ownBlock] at e;have:=hgT.1;simp at this;omega
   replace hst:=Lib.hid hst
   have hix:∀(k:Nat),k<nT→∀wx,(Instr.indexAt 22 (.slice (some ⟨gT,0,none⟩) nT mT) (.int .i64 ((k:Nat):Int))).run Tryz.prog wx=.ok (.pointer (some ⟨gT,k,none⟩)) wx:=fun k hk wx=>by
    have:=idx_run (A:=some ⟨gT,0,none⟩) (m:=mT) rfl hk wx;rw [Addr.add_lit,Nat.zero_add] at this;exact this
   replace hix:=Lib.hid hix;have hTl:=HT.out.2.2.2;rw [HT.out.2.1] at hTl
   have hnTb:nT≤2000001:=by omega
   have HTl:=Lib.hid hTl;clear hTl hWl hWm hn1 hW0;clear hown10 hb10 hO hbc hIA hs9 hb89 hsl hwl hgT hIW
   go_loopw [18,107] (fun sl iv wr=>∃(k:Nat),k≤nT∧iv=.int .i64 (k:Nat)∧WayR W8 g a T ⟨cs,cd⟩ gT k sl wr) (fun _ iv _=>nT-(intOf iv).toNat)
   case atStart=>exact ⟨0,Nat.zero_le _,rfl,hst.out⟩
   case round=>
    obtain ⟨k,hk,rfl,Wk,hSt,hOk,hne,hgT,hTc,hB⟩:=hrel
    by_cases hlt:k<nT
    ·obtain ⟨z',hz'⟩:∃z',T[k]? = some z':=⟨_,List.getElem?_eq_getElem (by have:=HT.out.2.1;rw [natI_len] at this;omega)⟩
     obtain ⟨z,hl,hz1,hz2,hz3,hz4,hzn,hstep⟩:=hSt.next Hok.out hz'
     have hWk0:0<(natI Wk).length:=by
      rw [natI_len]
      cases Wk with
      | nil=>simp at hl
      | cons=>simp
     obtain ⟨gk,mk,rfl,hmk⟩:=hOk.addr hWk0;obtain ⟨nk,hnk⟩:∃z,(natI Wk).length=z:=⟨_,rfl⟩
     obtain ⟨jk,hjk⟩:∃j,nk=j+1:=⟨nk-1,by omega⟩
     have hlast:(natI Wk)[jk]? = some ((z:Nat):Int):=by
      refine natI_get ?_;rw [List.getLast?_eq_getElem?] at hl;rw [natI_len] at hnk
      rw [show jk=Wk.length-1 by omega];exact hl
     have hcl:=hOk.cell hlast;have hgk:=World.ownsRow.lt hOk gk rfl
     have hgg:gk≠gT:=fun e=>hne (by rw [e];rfl)
     rw [hnk] at hmk ⊢
     have hnb:nk≤1+k*300:=by
      obtain ⟨_,_,_,_,_,_,_,_,_,h⟩:=hSt;rw [natI_len] at hnk;omega
     have hB8:=bel_trans HB6.out hB;have hd:=bel_drew (Below.refl wr.heap.size wr);have kk3:=bel_cell hB k3;have kk0:=bel_cell hB ks0;have hGr:=HG.out.below hB HG.out.lt;have cW:=Lib.hid (reachWay_own wr.drew pg g v z z' (hGr.below hd hGr.lt) hz1 hz2 hz3 hz4 hzn);have ct:=hTc k z' hz';have hixT:=hix.out k hlt;have q0:wr.drew.cell? ⟨b3,0,none⟩=some (.pointer (some ⟨s,0,none⟩))∧wr.drew.cell? ⟨s,0,none⟩=some (.pointer (some ⟨pg,0,none⟩))∧wr.drew.cell? ⟨gk,jk,none⟩=some (.int .i64 (z:Nat)):=⟨bel_cell hd kk3,bel_cell hd kk0,bel_cell hd hcl⟩
     have hw1:IntKind.i64.wrap ((nk:Int)-1)=(nk:Int)-1:=IntWalk.i64_in _ (by omega)
     have hnk1:1≤nk:=by omega
     have hixk:∀wx,(Instr.indexAt 22 (.slice (some ⟨gk,0,none⟩) nk mk) (.int .i64 ((jk:Nat):Int))).run Tryz.prog wx=.ok (.pointer (some ⟨gk,jk,none⟩)) wx:=fun wx=>by
      have:=idx_run (A:=some ⟨gk,0,none⟩) (m:=mk) rfl (show jk<nk by omega) wx
      rw [Addr.add_lit,Nat.zero_add] at this;exact this
     obtain ⟨Ak,hAk⟩:∃A,some (⟨gk,0,none⟩:Addr)=A:=⟨_,rfl⟩
     rw [hAk] at hixk ⊢
     replace hAk:=Lib.hid hAk
     have hixl:∀wx,(Instr.indexAt 22 (.slice Ak nk mk) (.int .i64 ((nk:Int)-1))).run Tryz.prog wx=.ok (.pointer (some ⟨gk,jk,none⟩)) wx:=fun wx=>by
      have:=hixk wx
      rwa [show ((jk:Nat):Int)=(nk:Int)-1 by omega] at this
     replace hixk:=Lib.hid hixk;have H1:=Lib.hid (And.intro hSt (And.intro hOk (And.intro hTc (And.intro hstep (And.intro hnk hjk)))));have H2:=Lib.hid (And.intro hB hgT);have Hzz:=Lib.hid (And.intro hz1 hz2);replace hk:=Lib.hid hk;replace hz':=Lib.hid hz';clear hst hSt hOk hTc hstep hnk hjk hlast hcl hB hgT hGr hl hWk0 kk3 kk0 hz1 hz2 hz3 hz4 hzn hne
     go_upto_region 20 with (fail)
     go_region_held3 (fun w'=>w'.cell? ⟨b3,0,none⟩=some (.pointer (some ⟨s,0,none⟩))∧w'.cell? ⟨s,0,none⟩=some (.pointer (some ⟨pg,0,none⟩))∧w'.cell? ⟨gk,jk,none⟩=some (.int .i64 (z:Nat)))
      (first
       | exact q0
       | exact q1)
      (first
       | (go_at_call 84
          refine cW.out.mono ?_;rintro e w5 ⟨P,hP,vU,rfl,hOU,hb5⟩;have q1:w5.cell? ⟨b3,0,none⟩=some (.pointer (some ⟨s,0,none⟩))∧w5.cell? ⟨s,0,none⟩=some (.pointer (some ⟨pg,0,none⟩))∧w5.cell? ⟨gk,jk,none⟩=some (.int .i64 (z:Nat)):=⟨bel_cell hb5 q0.1,bel_cell hb5 q0.2.1,bel_cell hb5 q0.2.2⟩))
     obtain ⟨M,hM,hSn⟩:=H1.out.2.2.2.1 P hP;rw [←way_natI,hM] at hOU
     obtain ⟨gm,mm,rfl,hmm⟩:=hOU.addr (by rw [natI_len];simp)
     obtain ⟨nM,hnM⟩:∃q,(natI (z :: M)).length=q:=⟨_,rfl⟩
     rw [hnM] at hmm ⊢
     have hM1:(natI M).length+1=nM:=by rw [←hnM,natI_len,natI_len];rfl
     have hMb:nM≤1000:=by
      have:=wayC_length g z z' P (g.fI z z'+g.fJ z z'+1);rw [hM] at this;rw [natI_len] at hnM;obtain ⟨f1,f2⟩:=G.fI_le Hok.out Hzz.out.2 Hzz.out.1;omega
     obtain ⟨o,ho,hsl⟩:=slice_tail (g:=gm) (n:=nM) (m:=mm) (by omega) hmm
     have hMc:∀(j:Nat) (y:Int),(natI M)[j]? = some y→w5.cell? ((⟨gm,o,none⟩:Addr).add j)=some (.int .i64 y):=by
      intro j y hy
      have h1:1<nM:=by have:=(List.getElem?_eq_some_iff.1 hy).1;omega
      rw [ho h1,Addr.add_lit,Nat.add_comm]
      exact hOU.cell (k:=j+1) (by simpa using hy)
     replace hMc:=Lib.hid hMc;have hb05:=bel_trans hd hb5;have hBw:=Lib.hid (bel_trans H2.out.1 hb05);have hkA:=hAk.out;have hOk5:=Lib.hid (OwnI.below (B':=0) H1.out.2.1 hb05)
     have hMl:(natI M).length=nM-1:=by omega
     have hnkl:=H1.out.2.2.2.2.1
     have hTc5:=Lib.hid (fun j x hx=>bel_cell hb05 (H1.out.2.2.1 j x hx))
     have hgT5:gT<w5.heap.size:=Nat.lt_of_lt_of_le H2.out.2 hb05.size;replace hSn:=Lib.hid hSn;clear hixl hixk q0 q1 hOU hP hM hnM hb5 hd hw1 cW ct hixT;subst hkA;have hbl:=hBw.out.size
     have hnl2:(natI Wk).length+(nM-1)<1099511627776:=by omega
     have hnk0:0<(natI Wk).length:=by omega
     have hOk6:=hOk5.out;rw [hnkl] at hOk6;replace hOk6:=Lib.hid hOk6;replace hnkl:=Lib.hid hnkl
     go_upto_region 23 with (fail)
     go_wp2_with (at_builtin;(refine wpList_append_intsG w5 rfl _ _ rfl W8.heap.size (.slice (some ⟨gk,0,none⟩) nk mk) (natI Wk) (natI M) rfl hOk6.out hnk0 ⟨gm,o,none⟩ (nM-1) _ rfl hMl hMc.out hnl2 hbl ?_);intro v' w9 hown9 hgrow hat)
     have hF:WayR W8 g a T ⟨cs,cd⟩ gT (k+1) v' w9:=by
      refine ⟨Wk ++ M,hSn.out,by rw [show natI (Wk ++ M)=natI Wk ++ natI M by simp];exact hown9,fun e=>?_,Nat.lt_of_lt_of_le hgT5 hgrow.size,fun j x hx=>?_,below_grown hBw.out hbl hOk6.out hgrow⟩
      ·rcases hat gT e with h | h
       ·exact hgg (by simpa [Value.ownBlock] using h)
       ·omega
      ·exact (World.cell?_of_block (hgrow.block gT hgT5 (fun e=>hgg (by simpa [Value.ownBlock] using e.symm)))).trans (hTc5.out j x hx)
     replace hF:=Lib.hid hF;clear hown9 hgrow hat hTc5 hgT5 hOk6 hOk5 hBw hMc;go_wp2;go_roundw
     case rel=>first | exact ⟨k+1,by omega,by go_num,hF.out⟩ | ((repeat apply Exists.intro);exact ⟨⟨k+1,by omega,by go_num,hF.out⟩,rfl⟩)
     case measure=>simp [intOf];omega
    ·obtain rfl:k=nT:=by omega
     obtain ⟨A,mA,rfl,hIA,hfA,hzA⟩:=hOk.intsF
     have hkl:k=T.length:=by rw [←HT.out.2.1,natI_len]
     rw [hkl] at hSt;obtain ⟨e1,e2,e3,e4⟩:=hSt.fin HT.out.1.symm;rw [←HT.out.1] at e4
     have hA:AskU g most (a:Nat) (b:Nat) Wk ⟨cs,cd⟩ 0:=⟨.inr ⟨a,b,rfl,rfl,Hab.out.1,Hab.out.2.1,Hab.out.2.2.1,Hab.out.2.2.2,.inr ⟨hD.out,rfl,e1,e2,e3⟩⟩,fun _=>⟨a,b,rfl,rfl,.inr ⟨hn.out,Wy,hRun.out,e4⟩⟩⟩
     have hF:WayNav w g most (a:Nat) (b:Nat) (.returned (.tuple #[.slice A (natI Wk).length mA,.nilIface])) wr:=
      ⟨Wk,⟨cs,cd⟩,0,hA,bel_trans HB6.out hB,.inr ⟨rfl,A,mA,by rw [natI_len],by rw [natI_len] at hIA;exact hIA,fun ad e=>Nat.le_trans HB6.out.size (hfA ad e),hzA⟩⟩
     replace hF:=Lib.hid hF;clear hA e1 e2 e3 e4 hkl hSt hIA hfA hzA hOk hB hTc hgT hne hst;go_wp2;go_ret2;exact hF.out
def AskX (w:World) (g:G) (most:Nat) (x y:Int) (e:Ending) (w':World):Prop:=
 ∃(W:List Nat) (c:C) (er:Nat) (A:Option Addr) (m:Nat),AskU g most x y W c er∧e=.returned (.agg #[.slice A W.length m,.int .i64 c.s,.int .i64 c.d,.int .i64 (er:Nat)])∧Ints w' A W.length (fun k=>(natI W).getD k 0)∧((∀ad,A=some ad→w.heap.size≤ad.block)∧FzA w' A)∧Below w.heap.size w w'
def AskD (w:World) (g:G) (x y:Int) (e:Ending) (w':World):Prop:=
 ∃(W:List Nat) (c:C) (er:Nat) (A:Option Addr) (m:Nat),AskIs g x y W c er∧e=.returned (.agg #[.slice A W.length m,.int .i64 c.s,.int .i64 c.d,.int .i64 (er:Nat)])∧Ints w' A W.length (fun k=>(natI W).getD k 0)∧(∀ad,A=some ad→w.heap.size≤ad.block)∧Below w.heap.size w w'
theorem set_four {w : World} {b : Nat} {T : TypeId} {u0 u1 u2 u3 : Value} (x0 x1 x2 x3 : Value) (h : w.heap[b]? = some (.cells #[u0, u1, u2, u3] T (0, 0))) :
    ((((w.setCell ⟨b,0,none⟩ x0).setCell ⟨b,1,none⟩ x1).setCell ⟨b,2,none⟩ x2).setCell ⟨b,3,none⟩ x3).heap[b]? = some (.cells #[x0,x1,x2,x3] T (0,0)):=
 set_heap1 _ b 3 _ _ x3 (set_heap1 _ b 2 _ _ x2 (set_heap1 _ b 1 _ _ x1 (set_heap1 _ b 0 _ _ x0 h)))
theorem cells_four {w : World} {b : Nat} {T : TypeId} {x0 x1 x2 x3 : Value} (h : w.heap[b]? = some (.cells #[x0, x1, x2, x3] T (0, 0))) :
    w.cell? ⟨b,0,none⟩=some x0∧w.cell? ⟨b,1,none⟩=some x1∧w.cell? ⟨b,2,none⟩=some x2∧w.cell? ⟨b,3,none⟩=some x3:=by
 refine ⟨?_,?_,?_,?_⟩ <;> (rw [Lib.cell_of_heap h];rfl)
theorem navAskX (w : World) (s : Nat) (g : G) (v : Int) (most : Nat) (h : ServAt w s g v most) (x y : Int) :
    Calls Tryz.prog 19 #[.pointer (some ⟨s,0,none⟩),.int .i64 x,.int .i64 y] w (AskX w g most x y):=by
 have hS:=Lib.hid h;obtain ⟨_,pg,pt,rb,rp,rm,lb,lm,le,S,E,Sb,nl,hs,m1,m2,hG,_⟩:=h
 have ks0:w.cell? ⟨s,0,none⟩=some (.pointer (some ⟨pg,0,none⟩)):=by rw [Lib.cell_of_heap hs];rfl
 replace hG:=Lib.hid hG;clear hs;go_enter Tryz.func19,Tryz.ntmps19
 go_upto_region 1 with (fail)
 refine wp_name ?_;intro W hW
 have HW:Below w.heap.size w W:=by rw [hW];(repeat' (first | exact Below.refl _ _ | assumption | apply bel_drewN | apply bel_drew | apply bel_alloc | (refine bel_trans ?_ (by assumption))))
 obtain ⟨b6,hb6⟩:∃z,w.heap.size=z:=⟨_,rfl⟩
 have q6:W.heap[b6]? = some (.cells #[.slice none 0 0,.int .i64 0,.int .i64 0,.int .i64 0] 47 (0,0)):=by rw [hW,←hb6];exact heap_alloc_new _ _
 rw [hb6];have hle:w.heap.size≤b6:=Nat.le_of_eq hb6
 have hW6:b6<W.heap.size:=by rw [hW,←hb6];simp
 clear hW;replace ks0:=bel_cell HW ks0;have cW:=Lib.hid (navWay W s g v most (hS.out.below HW) x y);replace q6:=Lib.hid q6;go_wp2_with fail;refine cW.out.mono ?_
 rintro e w2 ⟨Wy,c,er,hA,hb2,(⟨h0,rfl⟩ | ⟨h0,A,m,rfl,hI,hf⟩)⟩
 ·have q2:=(hb2.block b6 hW6).trans q6.out
  obtain ⟨z0,z1,z2,z3⟩:=cells_four q2;have f0:w2.frozen? ⟨b6,0,none⟩=false:=Lib.frozen_of_heap q2 0;have f1:w2.frozen? ⟨b6,1,none⟩=false:=Lib.frozen_of_heap q2 1;have f2:w2.frozen? ⟨b6,2,none⟩=false:=Lib.frozen_of_heap q2 2;have f3:w2.frozen? ⟨b6,3,none⟩=false:=Lib.frozen_of_heap q2 3;obtain ⟨rfl,rfl⟩:=hA.1.zero h0;replace q2:=Lib.hid q2;replace hA:=Lib.hid hA;have has:=as_errno (er:Nat);go_wp2_with fail
  have e4:=cells_four (set_four (.slice none 0 0) (.int .i64 0) (.int .i64 0) (.int .i64 (er:Nat)) q2.out)
  refine bodyPost_ret (v:=.agg #[.slice none 0 0,.int .i64 0,.int .i64 0,.int .i64 (er:Nat)]) (by simp [results,Tryz.results19,go_sem,e4]) rfl ?_
  exact ⟨[],C.zero,er,none,0,hA.out,rfl,fun h=>absurd h (by simp),⟨fun ad e=>(nomatch e),fun ad e=>(nomatch e)⟩,((((bel_trans HW hb2).setCell (p:=⟨b6,0,none⟩) hle _).setCell (p:=⟨b6,1,none⟩) hle _).setCell (p:=⟨b6,2,none⟩) hle _).setCell (p:=⟨b6,3,none⟩) hle _⟩
 ·subst h0
  obtain ⟨l1,l2,_⟩:=hA.1.len hG.out.1 rfl;have hwo:=hA.1.wout hG.out.1 rfl;have hG2:=hG.out.below (bel_trans HW hb2) hG.out.lt;replace ks0:=bel_cell hb2 ks0;obtain ⟨n,hn⟩:∃z,Wy.length=z:=⟨_,rfl⟩
  rw [hn] at hwo hI ⊢
  have cF:=Lib.hid (floodWalk w2 pg g v A n m _ hG2 hI (by omega))
  rw [hwo] at cF;have q2:=(hb2.block b6 hW6).trans q6.out;replace q2:=Lib.hid q2;replace hA:=Lib.hid hA;replace hI:=Lib.hid hI;replace hf:=Lib.hid hf;replace hn:=Lib.hid hn;have hle2:=Nat.lt_of_lt_of_le hW6 hb2.size;have HB2:=Lib.hid (bel_trans HW hb2);clear hwo hG2 l1 l2 hb2 cW;obtain ⟨cs,cd⟩:=c;go_wp2_with fail;refine cF.out.mono ?_;rintro e w3 ⟨rfl,hb3⟩
  rw [show costWE (⟨cs,cd⟩,0)=.tuple #[.agg #[.int .i64 cs,.int .i64 cd],.nilIface] from rfl]
  go_upto_region 6 with (fail)
  refine wp_name ?_;intro W4 hW4
  have hb4:Below w3.heap.size w3 W4:=by rw [hW4];(repeat' (first | exact Below.refl _ _ | assumption | apply bel_drewN | apply bel_drew | apply bel_alloc | (refine bel_trans ?_ (by assumption))))
  have c0:W4.cell? ⟨w3.heap.size,0,none⟩=some (.int .i64 cs):=by rw [hW4];go_simp
  have c1:W4.cell? ⟨w3.heap.size,1,none⟩=some (.int .i64 cd):=by rw [hW4];go_simp
  have h34:=bel_trans hb3 hb4;have q4:=(h34.block b6 hle2).trans q2.out;obtain ⟨z0,z1,z2,z3⟩:=cells_four q4;have f0:W4.frozen? ⟨b6,0,none⟩=false:=Lib.frozen_of_heap q4 0;have f1:W4.frozen? ⟨b6,1,none⟩=false:=Lib.frozen_of_heap q4 1;have f2:W4.frozen? ⟨b6,2,none⟩=false:=Lib.frozen_of_heap q4 2;have f3:W4.frozen? ⟨b6,3,none⟩=false:=Lib.frozen_of_heap q4 3;replace q4:=Lib.hid q4;clear hW4;go_wp2_with fail
  have e4:=cells_four (set_four (.slice A n m) (.int .i64 cs) (.int .i64 cd) (.int .i64 0) q4.out)
  refine bodyPost_ret (v:=.agg #[.slice A n m,.int .i64 cs,.int .i64 cd,.int .i64 0]) (by simp [results,Tryz.results19,go_sem,e4]) rfl ?_
  have HB:=(((((bel_trans HB2.out h34).setCell (p:=⟨b6,0,none⟩) hle (.slice A n m)).setCell (p:=⟨b6,1,none⟩) hle (.int .i64 cs)).setCell (p:=⟨b6,2,none⟩) hle (.int .i64 cd)).setCell (p:=⟨b6,3,none⟩) hle (.int .i64 0))
  refine ⟨Wy,⟨cs,cd⟩,0,A,m,hA.out,by rw [hn.out];rfl,?_,⟨fun ad e=>by have:=hf.out.1 ad e;have:=HW.size;omega,?_⟩,HB⟩
  ·have hI4:=hI.out.below h34
   rw [hn.out]
   refine hI4.kept0 (((((Kept.refl [b6] W4).setCell (p:=⟨b6,0,none⟩) (.inl (by simp))).setCell (p:=⟨b6,1,none⟩) (.inl (by simp))).setCell (p:=⟨b6,2,none⟩) (.inl (by simp))).setCell (p:=⟨b6,3,none⟩) (.inl (by simp))) (fun _ ad e=>?_)
   have:=hf.out.1 ad e;simp;omega
  ·refine (hf.out.2.kept (.of_below (S:=[]) h34) (fun _ _=>by simp)).kept (((((Kept.refl [b6] W4).setCell (p:=⟨b6,0,none⟩) (.inl (by simp))).setCell (p:=⟨b6,1,none⟩) (.inl (by simp))).setCell (p:=⟨b6,2,none⟩) (.inl (by simp))).setCell (p:=⟨b6,3,none⟩) (.inl (by simp))) (fun ad e=>?_)
   have:=hf.out.1 ad e;simp;omega
theorem navAsk (w : World) (s : Nat) (g : G) (v : Int) (most : Nat) (h : ServAt w s g v most) (x y : Int) :
    Calls Tryz.prog 19 #[.pointer (some ⟨s,0,none⟩),.int .i64 x,.int .i64 y] w (AskD w g x y):=
 (navAskX w s g v most h x y).mono fun _ _ ⟨W,c,er,A,m,h1,h2,h3,h4,h5⟩=>⟨W,c,er,A,m,h1.1,h2,h3,h4.1,h5⟩
def freeN (g:G) (k:Nat):Nat:=cntB (fun c=>!g.b c) k
theorem freeN_le (g:G) (k:Nat):freeN g k≤k:=by
 unfold freeN cntB
 exact Nat.le_trans (List.length_filter_le _ _) (by simp)
theorem freeN_succ (g:G) (k:Nat):freeN g (k+1)=freeN g k+(if (!g.b k)=true then 1 else 0):=by unfold freeN;rw [cntB_succ]
noncomputable def addN (g:G) (most:Nat):Nat:=sumN (addRE (egE g (LS.all g (cornersN g) most).1)) g.n
noncomputable def degK (g:G) (k:Nat):Nat:=(((cornersN g).take k).map (degN g)).sum
theorem degN_le {g:G} (hg:g.ok) (a:Nat):degN g a≤256:=by
 unfold degN;refine Nat.le_trans (List.length_filter_le _ _) ?_;rw [cn_len];exact corners_le hg
theorem degK_succ {g:G} {k:Nat} (h:k<(cornersI g).length):degK g (k+1)=degK g k+degN g (cf g k):=by
 unfold degK;have:=cn_at h;obtain ⟨h1,h2⟩:=List.getElem?_eq_some_iff.1 this;rw [List.take_succ_eq_append_getElem h1,h2,List.map_append,List.sum_append];simp
theorem degK_le {g:G} (hg:g.ok):∀ {k:Nat},k≤(cornersI g).length→degK g k≤256*k
 | 0,_=>by simp [degK]
 | k+1,h=>by
  have:=degK_le hg (k:=k) (by omega)
  have:=degN_le hg (cf g k)
  rw [degK_succ (by omega)]
  omega
theorem degK_all (g:G):degK g (cornersI g).length=degS g:=by unfold degK degS;rw [←cn_len,List.take_length]
def StatD (w:World) (g:G) (v:Int) (most:Nat) (e:Ending) (w':World):Prop:=
 ∃n fr nd ed ad tp:Nat,e=.returned (.agg #[.int .i64 (n:Nat),.int .i64 (fr:Nat),.int .i64 (nd:Nat),.int .i64 (ed:Nat),.int .i64 (ad:Nat),.int .i64 (tp:Nat),.int .i64 v]) ∧
  (n=g.n∧fr=freeN g g.n∧nd=(cornersN g).length∧ed=degS g / 2∧ad=addN g most∧tp=(LS.all g (cornersN g) most).2)∧Below w.heap.size w w'
theorem cells_seven {w : World} {b : Nat} {T : TypeId} {x0 x1 x2 x3 x4 x5 x6 : Value} (h : w.heap[b]? = some (.cells #[x0, x1, x2, x3, x4, x5, x6] T (0, 0))) :
    w.cell? ⟨b,0,none⟩=some x0∧w.cell? ⟨b,1,none⟩=some x1∧w.cell? ⟨b,2,none⟩=some x2∧w.cell? ⟨b,3,none⟩=some x3∧w.cell? ⟨b,4,none⟩=some x4∧w.cell? ⟨b,5,none⟩=some x5∧w.cell? ⟨b,6,none⟩=some x6:=by
 refine ⟨?_,?_,?_,?_,?_,?_,?_⟩ <;> (rw [Lib.cell_of_heap h];rfl)
theorem bel_set {w X:World} {B b:Nat} (h:Below B w X) (hb:B≤b) (k:Nat) (x:Value):Below B w (X.setCell ⟨b,k,none⟩ x):=h.setCell (p:=⟨b,k,none⟩) hb x
theorem bel_seven {w X : World} {B b : Nat} (h : Below B w X) (hb : B ≤ b) (x0 x1 x2 x3 x4 x5 x6 : Value) :
    Below B w (((((((X.setCell ⟨b,0,none⟩ x0).setCell ⟨b,1,none⟩ x1).setCell ⟨b,2,none⟩ x2).setCell ⟨b,3,none⟩ x3).setCell ⟨b,4,none⟩ x4).setCell ⟨b,5,none⟩ x5).setCell ⟨b,6,none⟩ x6):=
 bel_set (bel_set (bel_set (bel_set (bel_set (bel_set (bel_set h hb 0 x0) hb 1 x1) hb 2 x2) hb 3 x3) hb 4 x4) hb 5 x5) hb 6 x6
theorem set_seven {w : World} {b : Nat} {T : TypeId} {u0 u1 u2 u3 u4 u5 u6 : Value} (x0 x1 x2 x3 x4 x5 x6 : Value) (h : w.heap[b]? = some (.cells #[u0, u1, u2, u3, u4, u5, u6] T (0, 0))) :
    (((((((w.setCell ⟨b,0,none⟩ x0).setCell ⟨b,1,none⟩ x1).setCell ⟨b,2,none⟩ x2).setCell ⟨b,3,none⟩ x3).setCell ⟨b,4,none⟩ x4).setCell ⟨b,5,none⟩ x5).setCell ⟨b,6,none⟩ x6).heap[b]? = some (.cells #[x0,x1,x2,x3,x4,x5,x6] T (0,0)):=
 set_heap1 _ b 6 _ _ x6 (set_heap1 _ b 5 _ _ x5 (set_heap1 _ b 4 _ _ x4 (set_heap1 _ b 3 _ _ x3 (set_heap1 _ b 2 _ _ x2 (set_heap1 _ b 1 _ _ x1 (set_heap1 _ b 0 _ _ x0 h))))))
theorem navStats (w : World) (s : Nat) (g : G) (v : Int) (most : Nat) (h : ServAt w s g v most) :
    Calls Tryz.prog 20 #[.pointer (some ⟨s,0,none⟩)] w (StatD w g v most):=by
 obtain ⟨_,pg,pt,rb,rp,rm,lb,lm,le,S,E,Sb,nl,hs,m1,m2,hG,hGr,hGs,hLv,_⟩:=h;have hok:=hG.1;have hgn:=G.n_le hok
 obtain ⟨HF,_,htp⟩:=LS.all_fin hok (cornersN g) (fun n=>mem_cornersN) (most:=most) m1 m2
 have ks0:w.cell? ⟨s,0,none⟩=some (.pointer (some ⟨pg,0,none⟩)):=by rw [Lib.cell_of_heap hs];rfl
 have ks2:w.cell? ⟨s,2,none⟩=some (.pointer (some ⟨rb,0,none⟩)):=by rw [Lib.cell_of_heap hs];rfl
 have ks3:w.cell? ⟨s,3,none⟩=some (.pointer (some ⟨lb,0,none⟩)):=by rw [Lib.cell_of_heap hs];rfl
 have hD:=added_same HF;have hnd:(cornersN g).length=(cornersI g).length:=cn_len g;obtain ⟨D,hDD⟩:∃D,addN g most=D:=⟨_,rfl⟩;have HDD:=Lib.hid hDD;unfold addN at hDD;rw [hDD] at hD;obtain ⟨tp,htpe⟩:∃tp,(LS.all g (cornersN g) most).2=tp:=⟨_,rfl⟩;rw [htpe] at hLv;have Htp:=Lib.hid htpe;obtain ⟨Sv,hSv⟩:∃S,(LS.all g (cornersN g) most).1=S:=⟨_,rfl⟩;rw [hSv] at hD hLv;have HG:=Lib.hid hG;have HGr:=Lib.hid hGr
 have HLv:=Lib.hid hLv;have Hok:=Lib.hid hok;obtain ⟨nn,hnn⟩:∃z,g.n=z:=⟨_,rfl⟩
 have cCl:=fun w' (hb:Below w.heap.size w w')=>gridCellsN w' pg g v (HG.out.below hb HG.out.lt)
 rw [hnn] at cCl;replace cCl:=Lib.hid cCl
 have cA:=Lib.hid (fun w' (hb:Below w.heap.size w w')=>lvAdded w' lb lm le nl Sb (tp:Nat) _ _ g.n D (HLv.out.below hb) (egE_len hgn) egE_key hgn hD)
 have cT:=Lib.hid (fun w' (hb:Below w.heap.size w w')=>lvTop w' lb lm le nl Sb (tp:Nat) _ _ (HLv.out.below hb))
 have cV:=Lib.hid (fun w' (hb:Below w.heap.size w w')=>gridVersion w' pg g v (HG.out.below hb HG.out.lt))
 have hE:=fun c (hc:g.Corner c)=>(hGs.1 (c:Nat)).2 ⟨c,rfl,hc⟩
 have HE:=Lib.hid hE;have HGs:=Lib.hid hGs;replace hnn:=Lib.hid hnn;replace hnd:=Lib.hid hnd;have Hs:=Lib.hid (And.intro ks0 (And.intro ks2 ks3));clear hs hG hGr hGs hLv hok HF htp hD hDD htpe hSv hE;go_enter Tryz.func20,Tryz.ntmps20
 go_upto_region 1 with (fail)
 refine wp_name ?_;intro W hW
 have HW:Below w.heap.size w W:=by rw [hW];(repeat' (first | exact Below.refl _ _ | assumption | apply bel_drewN | apply bel_drew | apply bel_alloc | (refine bel_trans ?_ (by assumption))))
 have ks0:=bel_cell HW Hs.out.1;have ks3:=bel_cell HW Hs.out.2.2
 have hZ2:W.heap[w.heap.size]? = some (.cells #[.int .i64 0,.int .i64 0,.int .i64 0,.int .i64 0,.int .i64 0,.int .i64 0,.int .i64 0] 50 (0,0)):=by rw [hW];exact heap_alloc_new _ _
 have ks2:=bel_cell HW Hs.out.2.1;obtain ⟨b2,hb2⟩:∃z,w.heap.size=z:=⟨_,rfl⟩
 have hb2W:b2<W.heap.size:=by rw [←hb2];exact (Array.getElem?_eq_some_iff.1 hZ2).1
 rw [hb2] at hZ2;replace hZ2:=Lib.hid hZ2;replace Hs:=Lib.hid (And.intro ks0 (And.intro ks2 ks3));replace HG:=Lib.hid (HG.out.below HW HG.out.lt);replace HGr:=Lib.hid (HGr.out.below HW)
 replace cCl:=Lib.hid (fun w' (hb:Below W.heap.size W w')=>cCl.out w' (bel_trans HW hb))
 replace cA:=Lib.hid (fun w' (hb:Below W.heap.size W w')=>cA.out w' (bel_trans HW hb))
 replace cT:=Lib.hid (fun w' (hb:Below W.heap.size W w')=>cT.out w' (bel_trans HW hb))
 replace cV:=Lib.hid (fun w' (hb:Below W.heap.size W w')=>cV.out w' (bel_trans HW hb))
 rw [hb2];replace HW:=Lib.hid HW;clear hW ks2 ks0 ks3;have HWr:Below W.heap.size W W:=Below.refl _ _;have hBQ:Below W.heap.size W W.drew:=bel_drew HWr;have kS:W.drew.cell? ⟨s,0,none⟩=some (.pointer (some ⟨pg,0,none⟩))∧W.drew.cell? ⟨s,3,none⟩=some (.pointer (some ⟨lb,0,none⟩)):=⟨bel_cell hBQ Hs.out.1,bel_cell hBQ Hs.out.2.2⟩
 go_cut [3] (fun sv wx=>∃b3,sv=.pointer (some ⟨b3,0,none⟩)∧W.heap.size≤b3∧wx.heap[b3]? = some (.cells #[.int .i64 (nn:Nat),.int .i64 0,.int .i64 0,.int .i64 0,.int .i64 (D:Nat),.int .i64 (tp:Nat),.int .i64 v] 50 (0,0))∧Below W.heap.size W wx)
 case first=>
  have hws:W.heap.size≤W.heap.size:=Nat.le_refl _;have hsl:s<W.heap.size:=World.block_lt_of_cell? (a:=⟨s,0,none⟩) W Hs.out.1
  have koW:=Lib.hid (fun (X:World) (k j:Nat) (x:Value)=>World.cell?_setCell_other (w:=X) (a:=⟨W.heap.size,k,none⟩) (b:=⟨s,j,none⟩) (v:=x) (by intro e;injection e with e1;omega))
  go_region_held3 (fun w'=>w'.cell? ⟨s,0,none⟩=some (.pointer (some ⟨pg,0,none⟩))∧w'.cell? ⟨s,3,none⟩=some (.pointer (some ⟨lb,0,none⟩)))
   (first
    | with_reducible exact kS
    | (simp only [koW.out];exact kS)
    | (simp only [koC.out];exact kS)
    | with_reducible exact ⟨bel_cell (bel_alloc hBQ) Hs.out.1,bel_cell (bel_alloc hBQ) Hs.out.2.2⟩)
   (first
    | (go_at_call 48
       with_reducible refine (cCl.out _ (hBQ)).mono ?_
       rintro e wC ⟨rfl,hbX⟩;have hBQ:Below W.heap.size W wC:=bel_trans (hBQ) hbX;have kS:wC.cell? ⟨s,0,none⟩=some (.pointer (some ⟨pg,0,none⟩))∧wC.cell? ⟨s,3,none⟩=some (.pointer (some ⟨lb,0,none⟩)):=⟨bel_cell hBQ Hs.out.1,bel_cell hBQ Hs.out.2.2⟩;have hleC:W.heap.size≤wC.heap.size:=hBQ.size
       have koC:=Lib.hid (fun (X:World) (k j:Nat) (x:Value)=>World.cell?_setCell_other (w:=X) (a:=⟨wC.heap.size,k,none⟩) (b:=⟨s,j,none⟩) (v:=x) (by intro e;injection e with e1;omega)))
    | (go_at_call 48
       with_reducible refine (cCl.out _ (bel_alloc hBQ)).mono ?_
       rintro e wC ⟨rfl,hbX⟩
       have hZ:wC.heap[W.heap.size]? = some (.cells #[.int .i64 0,.int .i64 0,.int .i64 0,.int .i64 0,.int .i64 0,.int .i64 0,.int .i64 0] 50 (0,0)):=(hbX.block _ (by simp)).trans (heap_alloc_new _ _)
       have zz:=cells_seven hZ;obtain ⟨z0,z1,z2,z3,z4,z5,z6⟩:=zz;have y0:=Lib.frozen_of_heap hZ 0;have y1:=Lib.frozen_of_heap hZ 1;have y2:=Lib.frozen_of_heap hZ 2;have y3:=Lib.frozen_of_heap hZ 3;have y4:=Lib.frozen_of_heap hZ 4;have y5:=Lib.frozen_of_heap hZ 5;have y6:=Lib.frozen_of_heap hZ 6;have hBQ:Below W.heap.size W wC:=bel_trans (bel_alloc hBQ) hbX;have kS:wC.cell? ⟨s,0,none⟩=some (.pointer (some ⟨pg,0,none⟩))∧wC.cell? ⟨s,3,none⟩=some (.pointer (some ⟨lb,0,none⟩)):=⟨bel_cell hBQ Hs.out.1,bel_cell hBQ Hs.out.2.2⟩
       have hleC:W.heap.size≤wC.heap.size:=hBQ.size
       have koC:=Lib.hid (fun (X:World) (k j:Nat) (x:Value)=>World.cell?_setCell_other (w:=X) (a:=⟨wC.heap.size,k,none⟩) (b:=⟨s,j,none⟩) (v:=x) (by intro e;injection e with e1;omega)))
    | (go_at_call 48
       with_reducible refine (cCl.out _ (bel_drew (bel_alloc HWr))).mono ?_
       rintro e wC ⟨rfl,hbX⟩
       have hZ:wC.heap[W.heap.size]? = some (.cells #[.int .i64 0,.int .i64 0,.int .i64 0,.int .i64 0,.int .i64 0,.int .i64 0,.int .i64 0] 50 (0,0)):=(hbX.block W.heap.size (by simp)).trans (heap_alloc_new W _)
       have zz:=cells_seven hZ;obtain ⟨z0,z1,z2,z3,z4,z5,z6⟩:=zz;have y0:=Lib.frozen_of_heap hZ 0;have y1:=Lib.frozen_of_heap hZ 1;have y2:=Lib.frozen_of_heap hZ 2;have y3:=Lib.frozen_of_heap hZ 3;have y4:=Lib.frozen_of_heap hZ 4;have y5:=Lib.frozen_of_heap hZ 5;have y6:=Lib.frozen_of_heap hZ 6;have hBQ:Below W.heap.size W wC:=bel_trans (bel_drew (bel_alloc HWr)) hbX;have kS:wC.cell? ⟨s,0,none⟩=some (.pointer (some ⟨pg,0,none⟩))∧wC.cell? ⟨s,3,none⟩=some (.pointer (some ⟨lb,0,none⟩)):=⟨bel_cell hBQ Hs.out.1,bel_cell hBQ Hs.out.2.2⟩
       have hleC:W.heap.size≤wC.heap.size:=hBQ.size
       have koC:=Lib.hid (fun (X:World) (k j:Nat) (x:Value)=>World.cell?_setCell_other (w:=X) (a:=⟨wC.heap.size,k,none⟩) (b:=⟨s,j,none⟩) (v:=x) (by intro e;injection e with e1;omega)))
    | (go_at_call 49
       with_reducible refine (cA.out _ (hBQ)).mono ?_
       rintro e wN ⟨rfl,hbX⟩;have hZ:wN.heap[W.heap.size]? = some (.cells #[.int .i64 0,.int .i64 0,.int .i64 0,.int .i64 0,.int .i64 0,.int .i64 0,.int .i64 0] 50 (0,0)):=(hbX.block _ (Array.getElem?_eq_some_iff.1 hZ).1).trans hZ;have zz:=cells_seven hZ;obtain ⟨z0,z1,z2,z3,z4,z5,z6⟩:=zz;have y0:=Lib.frozen_of_heap hZ 0;have y1:=Lib.frozen_of_heap hZ 1;have y2:=Lib.frozen_of_heap hZ 2;have y3:=Lib.frozen_of_heap hZ 3
       have y4:=Lib.frozen_of_heap hZ 4;have y5:=Lib.frozen_of_heap hZ 5;have y6:=Lib.frozen_of_heap hZ 6;have hBQ:Below W.heap.size W wN:=bel_trans (hBQ) hbX;have kS:wN.cell? ⟨s,0,none⟩=some (.pointer (some ⟨pg,0,none⟩))∧wN.cell? ⟨s,3,none⟩=some (.pointer (some ⟨lb,0,none⟩)):=⟨bel_cell hBQ Hs.out.1,bel_cell hBQ Hs.out.2.2⟩)
    | (go_at_call 49
       with_reducible refine (cA.out _ (hBQ)).mono ?_
       rintro e wN ⟨rfl,hbX⟩;have hBQ:Below W.heap.size W wN:=bel_trans (hBQ) hbX;have kS:wN.cell? ⟨s,0,none⟩=some (.pointer (some ⟨pg,0,none⟩))∧wN.cell? ⟨s,3,none⟩=some (.pointer (some ⟨lb,0,none⟩)):=⟨bel_cell hBQ Hs.out.1,bel_cell hBQ Hs.out.2.2⟩)
    | (go_at_call 49
       with_reducible refine (cA.out _ (bel_alloc hBQ)).mono ?_
       rintro e wN ⟨rfl,hbX⟩
       have hZ:wN.heap[wC.heap.size]? = some (.cells #[.int .i64 0,.int .i64 0,.int .i64 0,.int .i64 0,.int .i64 0,.int .i64 0,.int .i64 0] 50 (0,0)):=(hbX.block _ (by simp)).trans (heap_alloc_new _ _)
       have zz:=cells_seven hZ;obtain ⟨z0,z1,z2,z3,z4,z5,z6⟩:=zz;have y0:=Lib.frozen_of_heap hZ 0;have y1:=Lib.frozen_of_heap hZ 1;have y2:=Lib.frozen_of_heap hZ 2;have y3:=Lib.frozen_of_heap hZ 3;have y4:=Lib.frozen_of_heap hZ 4;have y5:=Lib.frozen_of_heap hZ 5;have y6:=Lib.frozen_of_heap hZ 6;have hBQ:Below W.heap.size W wN:=bel_trans (bel_alloc hBQ) hbX;have kS:wN.cell? ⟨s,0,none⟩=some (.pointer (some ⟨pg,0,none⟩))∧wN.cell? ⟨s,3,none⟩=some (.pointer (some ⟨lb,0,none⟩)):=⟨bel_cell hBQ Hs.out.1,bel_cell hBQ Hs.out.2.2⟩)
    | (go_at_call 50
       with_reducible refine (cT.out _ (hBQ)).mono ?_
       rintro e wT ⟨rfl,rfl⟩)
    | (go_at_call 50
       with_reducible refine (cT.out _ (bel_alloc hBQ)).mono ?_
       rintro e wT ⟨rfl,rfl⟩)
    | (go_at_call 51
       with_reducible refine (cV.out _ (hBQ)).mono ?_
       rintro e wT ⟨rfl,rfl⟩)
    | (go_at_call 51
       with_reducible refine (cV.out _ (bel_alloc hBQ)).mono ?_
       rintro e wT ⟨rfl,rfl⟩))
  all_goals
   go_wp2;go_meet
   case rel=>first
    | (with_reducible refine ⟨_, rfl, ?_, heap_alloc_new _ _, bel_alloc hBQ⟩
       exact hBQ.size)
    | (with_reducible refine ⟨_, rfl, ?_, set_seven _ _ _ _ _ _ _ hZ, bel_seven hBQ ?_ _ _ _ _ _ _ _⟩
       ·first | exact hws | exact hleC
       ·first | exact hws | exact hleC)
 case rest=>
  obtain ⟨b3,rfl,hb3,hX,HB⟩:=hcut;have ks0:=bel_cell HB Hs.out.1;have hX:=Lib.hid hX;have HB:=Lib.hid HB
  have hgn2:nn≤256:=by rw [←hnn.out];exact hgn
  have h32:b3≠b2:=by omega
  clear hBQ kS cA cT cV HWr;go_wp2_with fail;refine (cCl.out _ HB.out).mono ?_;rintro e w2 ⟨rfl,hc2⟩;have HB2:=Lib.hid (bel_trans HB.out hc2);replace hX:=Lib.hid ((hc2.block b3 (Array.getElem?_eq_some_iff.1 hX.out).1).trans hX.out);clear hc2 HB cCl;go_wp2_with fail
  go_loopw [37] (fun iv wr=>∃(k:Nat),k≤nn∧iv=.int .i64 (k:Nat)∧wr.heap[b3]? = some (.cells #[.int .i64 (nn:Nat),.int .i64 (freeN g k:Nat),.int .i64 0,.int .i64 0,.int .i64 (D:Nat),.int .i64 (tp:Nat),.int .i64 v] 50 (0,0))∧Below W.heap.size W wr) (fun iv _=>nn-(intOf iv).toNat)
  case atStart=>exact ⟨0,Nat.zero_le _,rfl,hX.out,HB2.out⟩
  case round=>
   clear hX HB2;obtain ⟨k,hk,rfl,hX,hB⟩:=hrel;have ks0:=bel_cell hB Hs.out.1
   by_cases hlt:k<nn
   ·obtain ⟨t,ht⟩:∃t,(!g.b k)=t:=⟨_,rfl⟩
    have cF:=gridFree_in wr pg g v k (HG.out.below hB HG.out.lt) (by rw [hnn.out];exact hlt)
    rw [ht] at cF;replace cF:=Lib.hid cF;obtain ⟨fr,hfr⟩:∃z,freeN g k=z:=⟨_,rfl⟩
    have hfs:freeN g (k+1)=fr+(if t=true then 1 else 0):=by rw [freeN_succ,hfr,ht]
    have hfr2:fr≤256:=by rw [←hfr];exact Nat.le_trans (freeN_le g k) (by omega)
    rw [hfr] at hX;have HX:=Lib.hid hX;have HBr:=Lib.hid hB;have Hfs:=Lib.hid hfs;clear hX hB hfs hfr ht;go_wp2_with fail;refine cF.out.mono ?_;rintro e w3 ⟨rfl,hc3⟩;have hX3:=(hc3.block b3 (Array.getElem?_eq_some_iff.1 HX.out).1).trans HX.out;have HB3:=Lib.hid (bel_trans HBr.out hc3);clear hc3 cF HX HBr ks0
    cases t with
    | false=>
     have hF:w3.heap[b3]? = some (.cells #[.int .i64 (nn:Nat),.int .i64 (freeN g (k+1):Nat),.int .i64 0,.int .i64 0,.int .i64 (D:Nat),.int .i64 (tp:Nat),.int .i64 v] 50 (0,0)):=by
      rw [Hfs.out];exact hX3
     replace hF:=Lib.hid hF;clear hX3 Hfs;go_wp2;go_roundw
     case rel=>first | exact ⟨k+1,by omega,by go_num,hF.out,HB3.out⟩ | ((repeat apply Exists.intro);exact ⟨⟨k+1,by omega,by go_num,hF.out,HB3.out⟩,rfl⟩)
     case measure=>simp [intOf];omega
    | true=>
     obtain ⟨_,z1,_⟩:=cells_seven hX3;have y1:=Lib.frozen_of_heap hX3 1;have HX3:=Lib.hid hX3;clear hX3
     go_upto_region 8 with (fail)
     refine wp_name ?_;intro W4 hW4
     have hF:W4.heap[b3]? = some (.cells #[.int .i64 (nn:Nat),.int .i64 (freeN g (k+1):Nat),.int .i64 0,.int .i64 0,.int .i64 (D:Nat),.int .i64 (tp:Nat),.int .i64 v] 50 (0,0)):=by
      rw [hW4,Hfs.out];exact set_heap1 w3 b3 1 _ _ _ HX3.out
     have HB4:Below W.heap.size W W4:=by rw [hW4];exact bel_set HB3.out hb3 1 _
     replace hF:=Lib.hid hF;replace HB4:=Lib.hid HB4;clear HX3 Hfs z1 y1 hW4 HB3;go_wp2;go_roundw
     case rel=>first | exact ⟨k+1,by omega,by go_num,hF.out,HB4.out⟩ | ((repeat apply Exists.intro);exact ⟨⟨k+1,by omega,by go_num,hF.out,HB4.out⟩,rfl⟩)
     case measure=>simp [intOf];omega
   ·obtain rfl:nn=k:=by omega
    have hgf:freeN g nn=freeN g g.n:=by rw [hnn.out]
    obtain ⟨fr,hfr⟩:∃z,freeN g nn=z:=⟨_,rfl⟩;rw [hfr] at hX;have Hfr:=Lib.hid (hfr.symm.trans hgf);have ks2:=bel_cell hB Hs.out.2.1;have cN:=Lib.hid (graphNodesC wr rb rp rm S g v E (HGr.out.below hB) HGs.out.1);have HX:=Lib.hid hX;have HBr:=Lib.hid hB;clear hX hB hfr hgf ks0 hlt;go_wp2_with fail;refine cN.out.mono ?_;rintro e w5 ⟨A,mm,rfl,_,hI,hAd,hc5⟩;have hX5:=Lib.hid ((hc5.block b3 (Array.getElem?_eq_some_iff.1 HX.out).1).trans HX.out)
    have HB5:=Lib.hid (bel_trans HBr.out hc5)
    have hAb:∀ad,A=some ad→ad.block≠b3:=fun ad e=>by have:=(hAd ad e).1;have:=(Array.getElem?_eq_some_iff.1 HX.out).1;omega
    obtain ⟨n2,hn2⟩:∃z,(cornersI g).length=z:=⟨_,rfl⟩
    rw [hn2] at hI ⊢
    have hn256:n2≤256:=by rw [←hn2];exact corners_le Hok.out
    have Hn2:=Lib.hid hn2;have HI:=Lib.hid hI;have HAb:=Lib.hid hAb;clear hc5 hI hAd hAb hn2 HX HBr cN ks2;go_wp2_with fail
    go_loopw [61] (fun iv wr=>∃(i:Nat),i≤n2∧iv=.int .i64 (i:Nat)∧wr.heap[b3]? = some (.cells #[.int .i64 (nn:Nat),.int .i64 (fr:Nat),.int .i64 (i:Nat),.int .i64 (degK g i:Nat),.int .i64 (D:Nat),.int .i64 (tp:Nat),.int .i64 v] 50 (0,0))∧Below W.heap.size W wr∧Ints wr A n2 (fun k=>(cornersI g).getD k 0)) (fun iv _=>n2-(intOf iv).toNat)
    case atStart=>exact ⟨0,Nat.zero_le _,rfl,by simpa [degK] using hX5.out,HB5.out,HI.out⟩
    case round=>
     clear hX5 HB5 HI;obtain ⟨i,hi,rfl,hX,hB,hI⟩:=hrel
     by_cases hlt:i<n2
     ·obtain ⟨hcg,hcc⟩:=cf_at (g:=g) (i:=i) (by rw [Hn2.out];exact hlt)
      obtain ⟨ad,hAe,_,hc⟩:=hI (by omega)
      have hcz:=hc i hlt;simp only [hcg] at hcz;obtain ⟨c,hce⟩:∃z,cf g i=z:=⟨_,rfl⟩;rw [hce] at hcz hcc
      have hix:=fun wx=>idx_run (A:=A) (m:=mm) hAe hlt wx
      obtain ⟨L,hL⟩:∃L,E (c:Nat)=some L:=Option.ne_none_iff_exists'.1 (HE.out c hcc);have hdeg:=deg_len HGs.out hL
      have hds:=degK_succ (g:=g) (k:=i) (by rw [Hn2.out];exact hlt)
      rw [hce,←hdeg] at hds
      have hl256:L.length≤256:=by rw [hdeg];exact degN_le Hok.out c
      have cE:=Lib.hid (graphEdges wr rb rp rm S g v E (HGr.out.below hB) (c:Nat) L hL (by omega))
      obtain ⟨dk,hdk⟩:∃z,degK g i=z:=⟨_,rfl⟩
      have hdk2:dk≤65536:=by
       rw [←hdk]
       have:=degK_le Hok.out (k:=i) (by rw [Hn2.out];omega)
       omega
      rw [hdk] at hX hds;obtain ⟨ln,hln⟩:∃z,L.length=z:=⟨_,rfl⟩;rw [hln] at hds hl256;have ks2:=bel_cell hB Hs.out.2.1;have HX:=Lib.hid hX;have HBr:=Lib.hid hB;have Hds:=Lib.hid hds;have HIr:=Lib.hid hI;have Hln:=Lib.hid hln;clear hX hB hds hI hc hcg hcc hce hAe hL hdeg hdk hln ks0;go_wp2_with fail;refine cE.out.mono ?_;rintro e w6 ⟨A2,m2,rfl,_,_,hc6⟩;rw [Hln.out];have hX6:=(hc6.block b3 (Array.getElem?_eq_some_iff.1 HX.out).1).trans HX.out
      have HB6:=Lib.hid (bel_trans HBr.out hc6);have HI6:=Lib.hid (HIr.out.below hc6);obtain ⟨_,_,z2,z3,_⟩:=cells_seven hX6;have y2:=Lib.frozen_of_heap hX6 2;have y3:=Lib.frozen_of_heap hX6 3;have HX6:=Lib.hid hX6;clear hX6 hc6 HX HBr HIr cE ks2 hix hcz
      go_upto_region 15 with (fail)
      refine wp_name ?_;intro W7 hW7
      have hF:W7.heap[b3]? = some (.cells #[.int .i64 (nn:Nat),.int .i64 (fr:Nat),.int .i64 (i+1:Nat),.int .i64 (degK g (i+1):Nat),.int .i64 (D:Nat),.int .i64 (tp:Nat),.int .i64 v] 50 (0,0)):=by
       rw [hW7,Hds.out];exact set_heap1 _ b3 3 _ _ _ (set_heap1 w6 b3 2 _ _ _ HX6.out)
      have HB7:Below W.heap.size W W7:=by rw [hW7];exact bel_set (bel_set HB6.out hb3 2 _) hb3 3 _
      have HI7:Ints W7 A n2 (fun k=>(cornersI g).getD k 0):=by
       rw [hW7]
       exact HI6.out.kept0 (((Kept.refl [b3] w6).setCell (p:=⟨b3,2,none⟩) (.inl (by simp))).setCell (p:=⟨b3,3,none⟩) (.inl (by simp))) (fun _ ad e=>by simp;exact HAb.out ad e)
      replace hF:=Lib.hid hF;replace HB7:=Lib.hid HB7;replace HI7:=Lib.hid HI7;clear HX6 Hds z2 z3 y2 y3 hW7 HB6 HI6;go_wp2;go_roundw
      case rel=>first | exact ⟨i+1,by omega,by go_num,hF.out,HB7.out,HI7.out⟩ | ((repeat apply Exists.intro);exact ⟨⟨i+1,by omega,by go_num,hF.out,HB7.out,HI7.out⟩,rfl⟩)
      case measure=>simp [intOf];omega
     ·obtain rfl:n2=i:=by omega
      obtain ⟨ed,hed⟩:∃z,degK g n2=z:=⟨_,rfl⟩
      have hde:ed=degS g:=by rw [←hed,←Hn2.out];exact degK_all g
      have hed2:ed≤65536:=by
       rw [←hed]
       have:=degK_le Hok.out (k:=n2) (by rw [Hn2.out];omega)
       omega
      rw [hed] at hX;obtain ⟨z0,z1,z2,z3,z4,z5,z6⟩:=cells_seven hX;have y3:=Lib.frozen_of_heap hX 3;have hZ3:=(hB.block b2 hb2W).trans hZ2.out;obtain ⟨eh,heh⟩:∃z,ed / 2=z:=⟨_,rfl⟩
      have Hq:=Lib.hid (show ((ed:Nat):Int) / 2=((eh:Nat):Int) by rw [←heh];simp)
      replace heh:=Lib.hid heh;have HX:=Lib.hid hX;have HBr:=Lib.hid hB;have HZ3:=Lib.hid hZ3;have Hde:=Lib.hid hde;clear hX hB hI hed hde hZ3 ks0 hlt
      go_upto_region 17 with (fail)
      refine wp_name ?_;intro W8 hW8
      have hX8:W8.heap[b3]? = some (.cells #[.int .i64 (nn:Nat),.int .i64 (fr:Nat),.int .i64 (n2:Nat),.int .i64 (eh:Nat),.int .i64 (D:Nat),.int .i64 (tp:Nat),.int .i64 v] 50 (0,0)):=by
       rw [hW8,←Hq.out];exact set_heap1 wr b3 3 _ _ _ HX.out
      have hZ8:W8.heap[b2]? = some (.cells #[.int .i64 0,.int .i64 0,.int .i64 0,.int .i64 0,.int .i64 0,.int .i64 0,.int .i64 0] 50 (0,0)):=by
       rw [hW8]
       exact (((Kept.refl [b3] wr).setCell (p:=⟨b3,3,none⟩) (.inl (by simp))).block b2 (Array.getElem?_eq_some_iff.1 HZ3.out).1 (by simp;omega)).trans HZ3.out
      have HB8:Below W.heap.size W W8:=by rw [hW8];exact bel_set HBr.out hb3 3 _
      replace HB8:=Lib.hid (bel_trans HW.out HB8);obtain ⟨z0,z1,z2,z3,z4,z5,z6⟩:=cells_seven hX8;obtain ⟨u0,u1,u2,u3,u4,u5,u6⟩:=cells_seven hZ8;have y0:=Lib.frozen_of_heap hZ8 0;have y1:=Lib.frozen_of_heap hZ8 1;have y2:=Lib.frozen_of_heap hZ8 2;have y3:=Lib.frozen_of_heap hZ8 3;have y4:=Lib.frozen_of_heap hZ8 4;have y5:=Lib.frozen_of_heap hZ8 5;have y6:=Lib.frozen_of_heap hZ8 6;have e7:=Lib.hid (cells_seven (set_seven (.int .i64 (nn:Nat)) (.int .i64 (fr:Nat)) (.int .i64 (n2:Nat)) (.int .i64 (eh:Nat)) (.int .i64 (D:Nat)) (.int .i64 (tp:Nat)) (.int .i64 v) hZ8))
      clear hX8 hZ8 hW8 HX HZ3 HBr;go_wp2_with fail;have e7:=e7.out
      refine bodyPost_ret (v:=.agg #[.int .i64 (nn:Nat),.int .i64 (fr:Nat),.int .i64 (n2:Nat),.int .i64 (eh:Nat),.int .i64 (D:Nat),.int .i64 (tp:Nat),.int .i64 v]) (by simp [results,Tryz.results20,go_sem,e7]) rfl ?_
      exact ⟨nn,fr,n2,eh,D,tp,rfl,⟨hnn.out.symm,Hfr.out,by rw [hnd.out,Hn2.out],by rw [←heh.out,Hde.out],HDD.out.symm,Htp.out.symm⟩,bel_seven HB8.out (by omega) _ _ _ _ _ _ _⟩
end Go.Proofs.YtokhnobcincfjaaGreatDoor
