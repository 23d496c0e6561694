/- Lemmas of this claim: Lv6, Lv7, MathDet, Sr0. -/
import Derived.Test.YtokhnobcincfjaaGreatDoorKNFr21
import Derived.Test.YtokhnobcincfjaaGreatDoorKNFr11
import Derived.Test.YtokhnobcincfjaaGreatDoorKNFr5
import Derived.Test.YtokhnobcincfjaaGreatDoorKNFr6
import Derived.Test.YtokhnobcincfjaaGreatDoorKNFr3
set_option linter.unusedVariables false
set_option linter.unusedSimpArgs false
set_option maxHeartbeats 3200000
set_option maxRecDepth 100000
namespace Go.Proofs.YtokhnobcincfjaaGreatDoor
open Go.RowKit Go.Sort FR Go.Lib
theorem pairsL_nodup:∀ {l:List Nat},l.Pairwise (· < ·)→(LS.pairsL l).Nodup
 | [],_=>by simp [LS.pairsL]
 | a :: l,h=>by
  rw [List.pairwise_cons] at h;unfold LS.pairsL;rw [List.nodup_append];refine ⟨?_,pairsL_nodup h.2,?_⟩
  ·unfold List.Nodup
   rw [List.pairwise_map]
   exact h.2.imp (fun h e=>by injection e with _ e;omega)
  ·intro p hp q hq e
   subst e;obtain ⟨b,_,rfl⟩:=List.mem_map.1 hp;have:=((LS.mem_pairsL h.2).1 hq).1;have:=h.1 a this;omega
open Classical in
noncomputable def nPairs (S:LS) (n:Nat) (P:List (Nat×Nat)):List (Nat×Nat):=P.filter fun p=>decide (S.Need n p.1 p.2)
theorem nPairs_more (S:LS) (N n:Nat):nPairs S n (LS.pairsL (S.nb N n))=S.more N n:=rfl
def OutAt (w:World) (mo:Nat) (S:LS) (n:Nat) (P:List (Nat×Nat)):Prop:=MapAt kP w mo (outV S n fun a b=>(a,b)∈nPairs S n P) (nPairs S n P).length
theorem OutAt.below {w w':World} {mo n:Nat} {S:LS} {P:List (Nat×Nat)} (h:OutAt w mo S n P) (hb:Below w.heap.size w w'):OutAt w' mo S n P:=MapAt.below h hb
theorem OutAt.no {w:World} {mo n a b:Nat} {S:LS} {P:List (Nat×Nat)} (h:OutAt w mo S n P) (hn:¬S.Need n a b):OutAt w mo S n (P ++ [(a,b)]):=by
 unfold OutAt
 have:nPairs S n (P ++ [(a,b)])=nPairs S n P:=by
  unfold nPairs;rw [List.filter_append];simp [hn]
 rw [this];exact h
theorem outV_congr {S:LS} {n:Nat} {T T':Nat→Nat→Prop} (h:∀a b,T a b↔T' a b):outV S n T=outV S n T':=by
 have:T=T':=by funext a b;exact propext (h a b)
 rw [this]
theorem OutAt.yes {w' : World} {mo n a b : Nat} {S : LS} {P : List (Nat × Nat)} (hn : S.Need n a b) (hP : (a, b) ∉ P)
    (h:MapAt kP w' mo (updK (outV S n fun a b=>(a,b)∈nPairs S n P) (((a:Nat):Int),((b:Nat):Int)) (some (edV ⟨(b:Nat),C.add (S.cost n a) (S.cost n b),(n:Nat)⟩))) (if ((outV S n fun a b=>(a,b)∈nPairs S n P) (((a:Nat):Int),((b:Nat):Int))).isSome then (nPairs S n P).length else (nPairs S n P).length+1)) :
    OutAt w' mo S n (P ++ [(a,b)]):=by
 have hnot:(a,b)∉nPairs S n P:=fun hh=>hP (List.mem_filter.1 hh).1
 have e0:outV S n (fun a b=>(a,b)∈nPairs S n P) (((a:Nat):Int),((b:Nat):Int))=none:=by
  unfold outV;rw [if_neg];rintro ⟨_,_,hh⟩;simp at hh;exact hnot hh
 rw [outV_put,e0] at h
 have e1:nPairs S n (P ++ [(a,b)])=nPairs S n P ++ [(a,b)]:=by
  unfold nPairs;rw [List.filter_append];simp [hn]
 unfold OutAt;rw [e1];simp only [Option.isSome_none,Bool.false_eq_true,if_false] at h;rw [List.length_append]
 rw [outV_congr (T':=fun x y=>(x,y)∈nPairs S n P∨(x=a∧y=b)) (fun x y=>by simp)]
 exact h
theorem OutAt.none {w:World} {mo n:Nat} {S:LS} (h:MapAt kP w mo (fun _=>Option.none) 0):OutAt w mo S n []:=by
 unfold OutAt
 have:(outV S n fun a b=>(a,b)∈nPairs S n [])=fun _=>Option.none:=by
  funext k;unfold outV nPairs;simp
 rw [this];exact h
def NeedD (w:World) (S:LS) (n N:Nat) (e:Ending) (w':World):Prop:=∃mo,e=.returned (.map (some mo))∧MapAt kP w' mo (outV S n fun a b=>(a,b)∈S.more N n) (S.more N n).length∧w.heap.size≤mo∧Below w.heap.size w w'
theorem wpList_sliceE {w : World} {ops : Array Oper} {rest : List Oper} {o : Oper} {a : Act} {Q : Exit → Act → World → Prop} (hg : o.guard = none) (x lo : Operand) (hop : o.op = Op.slice 119 x (some lo) none none) (g n m l : Nat)
    (hx:a.eval x=.slice (some ⟨g,0,none⟩) n m) (hlo:a.eval lo=.int .i64 (l:Nat)) (h1:l≤n) (h2:n≤m)
    (hK:∀A2 m2,(l<n→A2=some ⟨g,l*4,none⟩)→wpList Tryz.prog ops Q rest (a.put o.dst (.slice A2 (n-l) m2)) w):wpList Tryz.prog ops Q (o :: rest) a w:=by
 refine wpList_plain hg fun K' hK'=>?_
 unfold Oper.wp
 by_cases hml:m=l
 ·have hrun : (Instr.sliceAt 119 (.slice (some ⟨g, 0, none⟩) n m) (some (.int .i64 (l : Nat))) none none).run Tryz.prog w = .ok (.slice (some ⟨g, 0, none⟩) (n - l) (m - l)) w := by
    unfold Instr.sliceAt;go_simp
  simp [execOp,hop,hx,hlo,hrun,Result.andThen]
  exact hK' _ _ (hK _ _ (by omega))
 ·have hrun : (Instr.sliceAt 119 (.slice (some ⟨g, 0, none⟩) n m) (some (.int .i64 (l : Nat))) none none).run Tryz.prog w = .ok (.slice (some ⟨g, l * 4, none⟩) (n - l) (m - l)) w := by
    unfold Instr.sliceAt;go_simp
  simp [execOp,hop,hx,hlo,hrun,Result.andThen]
  exact hK' _ _ (hK _ _ (fun _=>rfl))
theorem idxE2 {A:Option Addr} {g l n m k:Nat} (h:A=some ⟨g,l*4,none⟩) (hk:k<n) (wx:World):(Instr.indexAt 119 (.slice A n m) (.int .i64 (k:Nat))).run Tryz.prog wx=.ok (.pointer (some ⟨g,l*4+k*4,none⟩)) wx:=by
 subst h
 have q:(k:Int)<(n:Int):=by omega
 go_simp
theorem prs_start {l:List Nat} {i a:Nat} {P:List (Nat×Nat)} (h:LS.pairsL l=P ++ LS.pairsL (l.drop i)) (ha:l[i]? = some a):LS.pairsL l=P ++ ((((l.drop (i+1)).drop 0).map fun b=>(a,b)) ++ LS.pairsL (l.drop (i+1))):=by
 obtain ⟨hi,e⟩:=List.getElem?_eq_some_iff.1 ha;rw [h,List.drop_eq_getElem_cons hi,e]
 rfl
theorem prs_step {l:List Nat} {i j a b:Nat} {P R:List (Nat×Nat)} (h:LS.pairsL l=P ++ ((((l.drop (i+1)).drop j).map fun b=>(a,b)) ++ R)) (hb:l[i+1+j]? = some b):LS.pairsL l=(P ++ [(a,b)]) ++ ((((l.drop (i+1)).drop (j+1)).map fun b=>(a,b)) ++ R):=by
 have hb':(l.drop (i+1))[j]? = some b:=by rw [List.getElem?_drop];exact hb
 obtain ⟨hi,e⟩:=List.getElem?_eq_some_iff.1 hb';rw [h,List.drop_eq_getElem_cons hi,e];simp
theorem prs_new {l:List Nat} (hl:l.Pairwise (· < ·)) {i j a b:Nat} {P R:List (Nat×Nat)} (h:LS.pairsL l=P ++ ((((l.drop (i+1)).drop j).map fun b=>(a,b)) ++ R)) (hb:l[i+1+j]? = some b):(a,b)∉P:=by
 have h2:=prs_step h hb;have hnd:=pairsL_nodup hl;rw [h2,List.append_assoc,List.nodup_append] at hnd;intro hm
 exact hnd.2.2 _ hm _ (by simp) rfl
theorem prs_end {l:List Nat} {i j a:Nat} {P R:List (Nat×Nat)} (h:LS.pairsL l=P ++ ((((l.drop (i+1)).drop j).map fun b=>(a,b)) ++ R)) (hj:l.length≤i+1+j):LS.pairsL l=P ++ R:=by
 rw [h,List.drop_drop,List.drop_eq_nil_of_le (by omega)]
 rfl
theorem prs_all {l:List Nat} {i:Nat} {P:List (Nat×Nat)} (h:LS.pairsL l=P ++ LS.pairsL (l.drop i)) (hi:l.length≤i):P=LS.pairsL l:=by
 rw [h,List.drop_eq_nil_of_le hi];simp [LS.pairsL]
theorem lvNeeded (w : World) (b ml me nl : Nat) (Sb : List Nat) (top : Int) (g : G) (S : LS) (hok : g.ok) (hc : Cor g S) (hs : Sml S) (n : Nat) (hn0 : S.lev n = 0) (h : LvOf w b ml me Sb top (levV g S) nl (egE g S)) (gb nE m : Nat)
    (hE:EdsAt w (some ⟨gb,0,none⟩) (frL S g.n n)) (hnE:(frL S g.n n).length=nE) (hm:nE≤m) :
    Calls Tryz.prog 167 #[.pointer (some ⟨b,0,none⟩),.int .i64 (n:Nat),.slice (some ⟨gb,0,none⟩) nE m] w (NeedD w S n g.n):=by
 have hn:=G.n_le hok;have hmm:=@run_makeMap Tryz.prog
 have hnE256:nE≤256:=by have:=len_frL S g.n n;omega
 have hnb:(S.nb g.n n).length=nE:=by rw [←hnE,frL_len]
 have hsort:=LS.nb_sorted S g.n n;obtain ⟨nb,hnb0⟩:∃l,S.nb g.n n=l:=⟨_,rfl⟩;rw [hnb0] at hnb hsort;have H:=Lib.hid h;have Hok:=Lib.hid hok;have Hc:=Lib.hid hc;have Hs:=Lib.hid hs;have Hn:=Lib.hid (And.intro hn hn0);have HE:=Lib.hid hE;have HnE:=Lib.hid hnE;have Hnb:=Lib.hid (And.intro hnb0 (And.intro hnb hsort));clear h hc hs hn0 hok hn hE hnE hnb hsort hnb0;go_enter Tryz.func167,Tryz.ntmps167
 go_upto_region 2 with (fail)
 refine wp_name ?_;intro W1 hW1
 have HW1:Below w.heap.size w W1:=by rw [hW1];(repeat' (first | exact Below.refl _ _ | assumption | apply bel_drewN | apply bel_drew | apply bel_alloc | (refine bel_trans ?_ (by assumption))))
 have hM1:MapAt kP W1 w.heap.size (fun _=>none) 0:=by rw [hW1];exact MapAt.made w
 have hs1:W1.heap.size=w.heap.size+1:=by rw [hW1];simp
 obtain ⟨mo,hmo⟩:∃mo,w.heap.size=mo:=⟨_,rfl⟩
 rw [hmo] at hM1 ⊢
 have hO1:=OutAt.none (S:=S) (n:=n) hM1;clear hW1 hmm hM1;go_wp2_with fail;obtain ⟨wz,rfl⟩:∃wz:World,wz=W1:=⟨_,rfl⟩
 go_loopw [19] (fun kv wr=>∃(i:Nat) (P:List (Nat×Nat)),kv=.int .i64 i∧i≤nE∧LS.pairsL nb=P ++ LS.pairsL (nb.drop i)∧OutAt wr mo S n P∧Below w.heap.size w wr) (fun kv _=>nE-(intOf kv).toNat)
 case atStart=>exact ⟨0,[],rfl,by omega,rfl,hO1,HW1⟩
 case round=>
  obtain ⟨i,P,rfl,hi,hP,hO,hB⟩:=hrel;clear hO1;have HP:=Lib.hid hP;have HO:=Lib.hid hO;clear hP hO
  by_cases hlt:i<nE
  ·obtain ⟨x,hx⟩:∃x,(frL S g.n n)[i]? = some x:=⟨_,List.getElem?_eq_getElem (by rw [HnE.out];exact hlt)⟩
   obtain ⟨t,ht1,ht2,ht3,ht4,ht5,ht6⟩:=frL_at hx;obtain ⟨gb',hA,a1,a2,a3,a4⟩:=(HE.out.below hB).get hx
   injection hA with hA;injection hA with hA
   subst hA
   have hix:=fun wx=>idxE (A:=some ⟨gb,0,none⟩) (m:=m) rfl hlt wx
   have hsx:=Hs.out _ _ _ _ ht3;obtain ⟨xt,⟨xs,xd⟩,xm⟩:=x;simp only at a1 a2 a3 a4 ht2 hsx ht3 ht6;subst ht2;rw [Hnb.out.1] at ht5
   have htc:=Hc.out n t (by rw [ht3];simp)
   have Ht:=Lib.hid (And.intro ht5 (And.intro ht6 (And.intro hsx (And.intro htc ht4))));clear hx ht3 ht4 ht5 ht6 hsx htc
   go_upto_region 5 with (fail)
   refine wp_name ?_;intro W hW
   have HW:Below wr.heap.size wr W:=by rw [hW];(repeat' (first | exact Below.refl _ _ | assumption | apply bel_drewN | apply bel_drew | apply bel_alloc | (refine bel_trans ?_ (by assumption))))
   have o0:W.cell? ⟨wr.heap.size,0,none⟩=some (.int .i64 (t:Nat)):=by rw [hW];go_simp
   have o1:W.cell? ⟨wr.heap.size,1,none⟩=some (.int .i64 xs):=by rw [hW];go_simp
   have o2:W.cell? ⟨wr.heap.size,2,none⟩=some (.int .i64 xd):=by rw [hW];go_simp
   have hmo9:wr.heap.size≠mo:=by have:=HO.out.lt;omega
   obtain ⟨b9,hb9⟩:∃z,wr.heap.size=z:=⟨_,rfl⟩;have HOW:=Lib.hid (HO.out.below HW);have HBW:=bel_trans hB HW;have cF:=Lib.hid (lvFlood W b ml me nl Sb top g S Hok.out Hc.out Hs.out t n Ht.out.2.2.2.1.2.1 Ht.out.2.2.2.2 (Ne.symm Ht.out.2.2.2.1.2.2) (H.out.below HBW))
   rw [hb9] at o0 o1 o2 hmo9 ⊢
   clear hW hb9 HO HW a1 a2 a3 a4 hix hB;go_wp2_with fail
   (with_reducible refine cF.out.mono ?_)
   rintro e w5 ⟨mf,done,rfl,hMF,hd1,hd2,hd3,hmf,hb5⟩
   have hmof:mo≠mf:=by have:=HOW.out.lt;omega
   have o0:=bel_cell hb5 o0;have o1:=bel_cell hb5 o1;have o2:=bel_cell hb5 o2;have HO5:=Lib.hid (HOW.out.below hb5);have HB5:=bel_trans HBW hb5;have HMF:=Lib.hid hMF;have HD:=Lib.hid (And.intro hd1 (And.intro hd2 hd3))
   have hwi:IntKind.i64.wrap ((i:Int)+1)=((i+1:Nat):Int):=by rw [IntWalk.i64_in _ (by omega)];omega
   clear hMF hd1 hd2 hd3 HOW HBW hb5 cF
   go_wp2_with (refine wpList_sliceE rfl (.tmp 29) (.tmp 31) rfl gb nE m (i+1) rfl rfl (by omega) hm ?_;intro A2 m2 hA2)
   have hP0:=prs_start HP.out Ht.out.1;obtain ⟨nr,hnr⟩:∃z,nE-(i+1)=z:=⟨_,rfl⟩;rw [hnr];have HA2:=Lib.hid hA2;clear hA2 HP hwi;obtain ⟨wy,rfl⟩:∃wy:World,wy=w5:=⟨_,rfl⟩
   go_loopw [34] (fun kv wr=>∃(j:Nat) (P:List (Nat×Nat)),kv=.int .i64 j∧j≤nr∧LS.pairsL nb=P ++ ((((nb.drop (i+1)).drop j).map fun b=>(t,b)) ++ LS.pairsL (nb.drop (i+1)))∧OutAt wr mo S n P∧Kept [mo] wy wr∧Below w.heap.size w wr) (fun kv _=>nr-(intOf kv).toNat)
   case atStart=>exact ⟨0,P,rfl,by omega,hP0,HO5.out,Kept.refl _ _,HB5⟩
   case round=>
    obtain ⟨j,P2,rfl,hj,hP2,hO2,hBy,hB2⟩:=hrel;have HP2:=Lib.hid hP2;have HO2:=Lib.hid hO2;clear hP0 hP2 hO2
    by_cases hlj:j<nr
    ·obtain ⟨y,hy⟩:∃y,(frL S g.n n)[i+1+j]? = some y:=⟨_,List.getElem?_eq_getElem (by rw [HnE.out];omega)⟩
     obtain ⟨t2,q1,q2,q3,q4,q5,q6⟩:=frL_at hy;obtain ⟨gb',hA,a1,a2,a3,a4⟩:=(HE.out.below hB2).get hy
     injection hA with hA;injection hA with hA
     subst hA
     have hix:=fun wx=>idxE2 (m:=m2) (HA2.out (by omega)) hlj wx
     have hsy:=Hs.out _ _ _ _ q3;obtain ⟨yt,⟨ys,yd⟩,ym⟩:=y;simp only at a1 a2 a3 a4 q2 hsy q3 q6;subst q2;rw [Hnb.out.1] at q5
     rw [show (i+1+j)*4=(i+1)*4+j*4 by omega] at a1 a2 a3 a4
     have Hq:=Lib.hid (And.intro q5 q6);have Hsy:=Lib.hid (And.intro Ht.out.2.2.1 hsy)
     have o0:=keptc hBy (by simpa using hmo9) o0
     have o1:=keptc hBy (by simpa using hmo9) o1
     have o2:=keptc hBy (by simpa using hmo9) o2
     have HMr:=Lib.hid (HMF.out.kept hBy (by simpa using Ne.symm hmof))
     have hsx:=Ht.out.2.2.1
     have cA:=Lib.hid (fun w=>costAdd xs xd ys yd w (by unfold inC;omega) (by unfold inC;omega) (by unfold inC;omega) (by unfold inC;omega))
     clear hy q3 q4 q5 q6
     go_upto_region 9 with (fail)
     refine wp_name ?_;intro W8 hW8
     have HW8:Below wr.heap.size wr W8:=by rw [hW8];(repeat' (first | exact Below.refl _ _ | assumption | apply bel_drewN | apply bel_drew | apply bel_alloc | (refine bel_trans ?_ (by assumption))))
     have u0:W8.cell? ⟨wr.heap.size,0,none⟩=some (.int .i64 (t2:Nat)):=by rw [hW8];go_simp
     have u1:W8.cell? ⟨wr.heap.size,1,none⟩=some (.int .i64 ys):=by rw [hW8];go_simp
     have u2:W8.cell? ⟨wr.heap.size,2,none⟩=some (.int .i64 yd):=by rw [hW8];go_simp
     obtain ⟨b12,hb12⟩:∃z,wr.heap.size=z:=⟨_,rfl⟩;have o0:=bel_cell HW8 o0;have o1:=bel_cell HW8 o1;have o2:=bel_cell HW8 o2;have HM8:=Lib.hid (HMr.out.below HW8);have HO8:=Lib.hid (HO2.out.below HW8);have hB8:=bel_trans hB2 HW8;have HK8:=Lib.hid HW8
     rw [hb12] at u0 u1 u2 ⊢
     clear hW8 hb12 HW8 HMr HO2 hB2 a1 a2 a3 a4 hix;go_wp2_with fail
     (with_reducible refine (cA.out _).mono ?_)
     rintro e w9 ⟨rfl,hb9⟩
     go_upto_region 10 with (fail)
     refine wp_name ?_;intro Wa hWa
     have HWa:Below w9.heap.size w9 Wa:=by rw [hWa];(repeat' (first | exact Below.refl _ _ | assumption | apply bel_drewN | apply bel_drew | apply bel_alloc | (refine bel_trans ?_ (by assumption))))
     have v0:Wa.cell? ⟨w9.heap.size,0,none⟩=some (.int .i64 (xs+ys)):=by rw [hWa];go_simp
     have v1:Wa.cell? ⟨w9.heap.size,1,none⟩=some (.int .i64 (xd+yd)):=by rw [hWa];go_simp
     obtain ⟨b13,hb13⟩:∃z,w9.heap.size=z:=⟨_,rfl⟩;have hba:=bel_trans hb9 HWa;have o0:=bel_cell hba o0;have u0:=bel_cell hba u0;have HMa:=Lib.hid (HM8.out.below hba);have HOa:=Lib.hid (HO8.out.below hba);have hBa:=bel_trans hB8 hba;have hKa:Kept [mo] wy Wa:=(hBy.trans (.of_below HK8.out)).trans (.of_below hba)
     rw [hb13] at v0 v1 ⊢
     have l9:b9<Wa.heap.size:=World.block_lt_of_cell? _ _ o0;have l12:b12<Wa.heap.size:=World.block_lt_of_cell? _ _ u0;have l13:b13<Wa.heap.size:=World.block_lt_of_cell? _ _ v0;clear hWa hb13 HWa hb9 hba hBy HK8 HM8 HO8 hB8 o1 o2 u1 u2 cA
     have hneed:=LS.need_iff (S:=S) (n:=n) (a:=t) (b:=t2) (done:=done) (fun c hc=>HD.out.1 t2 c hc) (fun hn c=>HD.out.2.1 t2 hn c)
     rw [Ht.out.2.1,Hq.out.2] at hneed;have Hneed:=Lib.hid hneed;have hst:=prs_step HP2.out Hq.out.1;have hnw:=prs_new Hnb.out.2.2 HP2.out Hq.out.1;have HST:=Lib.hid (And.intro hst hnw);clear hneed hst hnw HP2
     cases hdt:done t2 with
     | none=>
      have hl:=costLook_out HMa.out (z:=(t2:Nat)) (by rw [mapI_nat];unfold doneV;rw [hdt];rfl)
      have hnd:S.Need n t t2:=Hneed.out.2 (fun d hd=>by rw [hdt] at hd;cases hd)
      have Hnd:=Lib.hid hnd;clear hdt hnd
      go_upto_region 12 with (fail)
      refine wp_name ?_;intro Wb hWb
      have HWb:Below Wa.heap.size Wa Wb:=by rw [hWb];(repeat' (first | exact Below.refl _ _ | assumption | apply bel_drewN | apply bel_drew | apply bel_alloc | (refine bel_trans ?_ (by assumption))))
      have o0:=bel_cell HWb o0;have u0:=bel_cell HWb u0;have v0:=bel_cell HWb v0;have v1:=bel_cell HWb v1;have HOb:=HOa.out.below HWb;have hBb:=bel_trans hBa HWb;have hKb:=hKa.trans (.of_below HWb);clear hKa hWb HWb l9 l12 l13 HMa hBa hl;go_wp2_with (refine wpList_storeM rfl _ _ _ rfl pair_fit Tryz.underlying268 HOb rfl (((t:Nat):Int),((t2:Nat):Int)) rfl (edV ⟨(t2:Nat),⟨xs+ys,xd+yd⟩,(n:Nat)⟩) rfl ?_;intro wU hmU hkU)
      have hcost:(⟨xs+ys,xd+yd⟩:C)=C.add (S.cost n t) (S.cost n t2):=by rw [Ht.out.2.1,Hq.out.2];rfl
      rw [hcost] at hmU;have hF:OutAt wU mo S n (P2 ++ [(t,t2)]):=OutAt.yes Hnd.out HST.out.2 hmU;have hBy:Kept [mo] wy wU:=hKb.trans hkU
      have hB:Below w.heap.size w wU:=Kept.below hBb hkU (by have:=hBb.size;omega) (by simp;omega)
      have HF:=Lib.hid (And.intro hF (And.intro hBy hB));clear hmU hkU hcost hF hBy hB hBb hKb HOb o0 u0 v0 v1;go_roundw
      case rel=>exact ⟨j+1,_,by go_num,by omega,HST.out.1,HF.out⟩
      case measure=>simp [intOf];omega
     | some d=>
      obtain ⟨ds,dd⟩:=d
      have hl:=costLook_in HMa.out (z:=(t2:Nat)) (v:=.agg #[.int .i64 ds,.int .i64 dd]) (by rw [mapI_nat];unfold doneV;rw [hdt];rfl)
      have hdd:=HD.out.2.2 t2 _ hdt;simp only at hdd;obtain ⟨tb,htb⟩:∃tb,decide (C.cmp ⟨xs+ys,xd+yd⟩ ⟨ds,dd⟩<0)=tb:=⟨_,rfl⟩
      have cL:=fun w=>costLess (xs+ys) (xd+yd) ds dd w (by have:=Hsy.out;unfold inC;omega) (by have:=Hsy.out;unfold inC;omega) (by unfold inC;omega) (by unfold inC;omega)
      rw [htb] at cL;have cL:=Lib.hid cL
      have hnd:tb=true↔S.Need n t t2:=by
       rw [Hneed.out,←htb];simp only [decide_eq_true_eq]
       constructor
       ·intro h d' hd'
        rw [hdt] at hd';injection hd' with hd';subst hd'
        exact C.cmp_neg.1 h
       ·intro h
        exact C.cmp_neg.2 (h _ hdt)
      have Hni:=Lib.hid hnd;clear hdt hnd hdd htb;go_wp2_with fail
      (with_reducible refine (cL.out _).mono ?_)
      rintro e wl ⟨rfl,hbl⟩;have hbl:=bel_trans (bel_alloc (Below.refl _ _)) hbl
      cases tb with
      | true=>
       have Hnd:=Lib.hid (Hni.out.1 rfl);clear Hni
       go_upto_region 12 with (fail)
       refine wp_name ?_;intro Wb hWb
       have HWb:Below Wa.heap.size Wa Wb:=by rw [hWb];exact hbl
       have o0:=bel_cell HWb o0;have u0:=bel_cell HWb u0;have v0:=bel_cell HWb v0;have v1:=bel_cell HWb v1;have HOb:=HOa.out.below HWb;have hBb:=bel_trans hBa HWb;have hKb:=hKa.trans (.of_below HWb);clear hKa hWb HWb l9 l12 l13 HMa hBa hl hbl;go_wp2_with (refine wpList_storeM rfl _ _ _ rfl pair_fit Tryz.underlying268 HOb rfl (((t:Nat):Int),((t2:Nat):Int)) rfl (edV ⟨(t2:Nat),⟨xs+ys,xd+yd⟩,(n:Nat)⟩) rfl ?_;intro wU hmU hkU)
       have hcost:(⟨xs+ys,xd+yd⟩:C)=C.add (S.cost n t) (S.cost n t2):=by rw [Ht.out.2.1,Hq.out.2];rfl
       rw [hcost] at hmU;have hF:OutAt wU mo S n (P2 ++ [(t,t2)]):=OutAt.yes Hnd.out HST.out.2 hmU;have hBy:Kept [mo] wy wU:=hKb.trans hkU
       have hB:Below w.heap.size w wU:=Kept.below hBb hkU (by have:=hBb.size;omega) (by simp;omega)
       have HF:=Lib.hid (And.intro hF (And.intro hBy hB));clear hmU hkU hcost hF hBy hB hBb hKb HOb o0 u0 v0 v1;go_roundw
       case rel=>exact ⟨j+1,_,by go_num,by omega,HST.out.1,HF.out⟩
       case measure=>simp [intOf];omega
      | false=>
       have hno:¬S.Need n t t2:=fun h=>by have:=Hni.out.2 h;cases this
       have HF:=Lib.hid (And.intro ((HOa.out.below hbl).no hno) (And.intro (hKa.trans (.of_below hbl)) (bel_trans hBa hbl)));clear Hni hKa HMa hBa hl hbl hno l9 l12 l13 o0 u0 v0 v1;go_wp2;go_roundw
       case rel=>exact ⟨j+1,_,by go_num,by omega,HST.out.1,HF.out⟩
       case measure=>simp [intOf];omega
    ·obtain rfl:j=nr:=by omega
     have hF:=prs_end HP2.out (by have:=Hnb.out.2.1;omega)
     have HF:=Lib.hid (And.intro hF (And.intro HO2.out hB2));clear hF HO2 hB2 hBy o0 o1 o2;go_wp2;go_roundw
     case rel=>first | exact ⟨i+1,_,by go_num,by omega,HF.out⟩ | ((repeat apply Exists.intro);exact ⟨⟨i+1,_,by go_num,by omega,HF.out⟩,rfl⟩)
     case measure=>simp [intOf];omega
  ·obtain rfl:i=nE:=by omega
   have hPe:=prs_all HP.out (by have:=Hnb.out.2.1;omega)
   have hF:NeedD w S n g.n (.returned (.map (some mo))) wr:=by
    have h1:=HO.out;unfold OutAt at h1;rw [hPe,←Hnb.out.1,nPairs_more] at h1
    exact ⟨mo,rfl,h1,by omega,hB⟩
   have hF:=Lib.hid hF;clear HO hB;go_wp2;go_ret;exact hF.out
theorem lvNeeded0 (w : World) (b n m : Nat) (S : LS) (N : Nat) (A : Option Addr) (hL : frL S N n = []) :
    Calls Tryz.prog 167 #[.pointer (some ⟨b,0,none⟩),.int .i64 (n:Nat),.slice A 0 m] w (NeedD w S n N):=by
 have hmm:=@run_makeMap Tryz.prog
 have hmore:S.more N n=[]:=by
  have:S.nb N n=[]:=by rw [←frL_nb,hL];rfl
  unfold LS.more;rw [this];rfl
 have Hmore:=Lib.hid hmore;clear hL hmore;go_enter Tryz.func167,Tryz.ntmps167
 go_upto_region 2 with (fail)
 refine wp_name ?_;intro W1 hW1
 have HW1:Below w.heap.size w W1:=by rw [hW1];(repeat' (first | exact Below.refl _ _ | assumption | apply bel_drewN | apply bel_drew | apply bel_alloc | (refine bel_trans ?_ (by assumption))))
 have hM1:MapAt kP W1 w.heap.size (fun _=>none) 0:=by rw [hW1];exact MapAt.made w
 obtain ⟨mo,hmo⟩:∃mo,w.heap.size=mo:=⟨_,rfl⟩
 rw [hmo] at hM1 ⊢
 have hO1:=OutAt.none (S:=S) (n:=n) hM1;clear hW1 hmm hM1
 have hF:NeedD w S n N (.returned (.map (some mo))) W1:=by
  refine ⟨mo,rfl,?_,by omega,HW1⟩
  rw [Hmore.out];exact hO1
 have hF:=Lib.hid hF;clear hO1;go_wp2_with fail
 go_loopw [19] (fun kv wr=>kv=.int .i64 (0:Nat)∧wr=W1) (fun kv _=>1-(intOf kv).toNat)
 case atStart=>exact ⟨rfl,rfl⟩
 case round=>
  obtain ⟨rfl,rfl⟩:=hrel;go_wp2;go_ret;exact hF.out
theorem lvNeeded_any (w : World) (b ml me nl : Nat) (Sb : List Nat) (top : Int) (g : G) (S : LS) (hok : g.ok) (hc : Cor g S) (hs : Sml S) (n : Nat) (hn0 : S.lev n = 0) (h : LvOf w b ml me Sb top (levV g S) nl (egE g S)) (A : Option Addr) (nE m : Nat)
    (hE:EdsAt w A (frL S g.n n)) (hnE:(frL S g.n n).length=nE) (hm:nE≤m) :
    Calls Tryz.prog 167 #[.pointer (some ⟨b,0,none⟩),.int .i64 (n:Nat),.slice A nE m] w (NeedD w S n g.n):=by
 by_cases h0:nE=0
 ·subst h0
  exact lvNeeded0 w b n m S g.n A (List.eq_nil_of_length_eq_zero hnE)
 ·obtain ⟨gb,rfl,_⟩:=hE (by omega)
  exact lvNeeded w b ml me nl Sb top g S hok hc hs n hn0 h gb nE m hE hnE hm
def nearV (near:Nat→Bool) (z:Int):Option Value:=if 0≤z∧near z.toNat=true then some (.bool true) else none
theorem nearV_at (near:Nat→Bool) (n:Nat):(nearV near (n:Nat)).getD (.bool false)=.bool (near n):=by
 cases h:near n <;> simp [nearV,h]
theorem nearV_put (near:Nat→Bool) (t:Nat):updK (nearV near) ((t:Nat):Int) (some (.bool true))=nearV (fun x=>near x || decide (x=t)):=by
 funext z
 unfold updK nearV
 by_cases e:z=(t:Nat)
 ·rw [if_pos e,if_pos ⟨by omega,by simp;right;omega⟩]
 ·rw [if_neg e]
  by_cases h:0≤z
  ·have:z.toNat≠t:=by omega
   simp [this]
  ·rw [if_neg (fun q=>h q.1),if_neg (fun q=>h q.1)]
theorem nearV_none:nearV (fun _=>false)=fun _=>none:=by funext z;unfold nearV;simp
def nearJ (near:Nat→Bool) (nb:List Nat) (j:Nat) (x:Nat):Bool:=near x || decide (x∈nb.take j)
theorem nearJ_step {near:Nat→Bool} {nb:List Nat} {j t:Nat} (h:nb[j]? = some t):(fun x=>nearJ near nb j x || decide (x=t))=nearJ near nb (j+1):=by
 funext x
 unfold nearJ;obtain ⟨hj,e⟩:=List.getElem?_eq_some_iff.1 h;rw [List.take_succ_eq_append_getElem hj,e,Bool.or_assoc]
 congr 1
 by_cases h1:x∈nb.take j <;> by_cases h2:x=t <;> simp [h1,h2]
theorem nearJ_zero (near:Nat→Bool) (nb:List Nat):nearJ near nb 0=near:=by funext x;unfold nearJ;simp
theorem nearJ_all {near:Nat→Bool} {nb:List Nat} {j:Nat} (h:nb.length≤j):nearJ near nb j=fun x=>near x || decide (x∈nb):=by
 funext x;unfold nearJ;rw [List.take_of_length_le h]
theorem levV_part {g:G} {S:LS} {n tp:Nat} {T:Nat→Nat→Prop} (hc:g.Corner n):updK (levV g S) ((n:Nat):Int) (some (.int .i64 (tp:Nat)))=levV g (S.part n tp T):=by
 funext z
 unfold updK
 by_cases e:z=(n:Nat)
 ·rw [if_pos e,e,levV_at hc]
  show _=some (Value.int .i64 ((FR.upd S.lev n tp n:Nat):Int))
  rw [upd_same]
 ·rw [if_neg e]
  unfold levV
  by_cases h:0≤z∧g.Corner z.toNat
  ·rw [if_pos h,if_pos h]
   show _=some (Value.int .i64 ((FR.upd S.lev n tp z.toNat:Nat):Int))
   rw [upd_ne _ _ (by omega)]
  ·rw [if_neg h,if_neg h]
theorem egE_part0 {g:G} {S:LS} {n tp:Nat} {T:Nat→Nat→Prop} (h:∀a b,¬T a b):egE g (S.part n tp T)=egE g S:=by
 unfold egE EgL;rw [LS.part_none h]
open Classical in
noncomputable def cornersN (g:G):List Nat:=(List.range g.n).filter fun a=>decide (g.Corner a)
theorem mem_cornersN {g:G} {a:Nat}:a∈cornersN g↔g.Corner a:=by
 unfold cornersN;simp;exact fun h=>h.1
theorem cornersN_sorted (g:G):(cornersN g).Pairwise (· < ·):=List.Pairwise.filter _ List.pairwise_lt_range
theorem cornersN_nodup (g:G):(cornersN g).Nodup:=(cornersN_sorted g).imp (fun h e=>by omega)
noncomputable def leftN (g:G) (S:LS):List Nat:=(cornersN g).filter fun a=>decide (S.lev a=0)
theorem mem_leftN {g:G} {S:LS} {a:Nat}:a∈leftN g S↔g.Corner a∧S.lev a=0:=by
 unfold leftN;rw [List.mem_filter,mem_cornersN];simp
theorem leftN_nodup (g:G) (S:LS):(leftN g S).Nodup:=(cornersN_nodup g).filter _
theorem leftN_len {g:G} (S:LS):(leftN g S).length≤g.n:=Nat.le_trans (List.length_filter_le _ _) (Nat.le_trans (List.length_filter_le _ _) (by simp))
theorem leftI_sorted (g:G) (S:LS):((leftN g S).map fun n:Nat=>(n:Int)).Pairwise (· < ·):=by
 rw [List.pairwise_map]
 exact ((cornersN_sorted g).filter _).imp (fun h=>by omega)
theorem mem_leftI {g:G} {S:LS} (z:Int):z∈((leftN g S).map fun n:Nat=>(n:Int))↔levV g S z≠none∧levI g S z=0:=by
 rw [List.mem_map]
 constructor
 ·rintro ⟨n,hn,rfl⟩
  obtain ⟨h1,h2⟩:=mem_leftN.1 hn
  exact ⟨levV_ne.2 ⟨n,rfl,h1⟩,by rw [levI_at h1,h2];rfl⟩
 ·rintro ⟨h1,h2⟩
  obtain ⟨n,rfl,hc⟩:=levV_ne.1 h1;rw [levI_at hc] at h2
  exact ⟨n,mem_leftN.2 ⟨hc,by omega⟩,rfl⟩
noncomputable def rdAt (g:G) (S:LS) (tp i:Nat):RS:=((leftN g S).take i).foldl (RS.step g.n tp) ⟨S,fun _=>false,false⟩
theorem rd_step {g:G} {S:LS} {tp i n:Nat} (h:(leftN g S)[i]? = some n):rdAt g S tp (i+1)=RS.step g.n tp (rdAt g S tp i) n:=by
 unfold rdAt;obtain ⟨hj,e⟩:=List.getElem?_eq_some_iff.1 h;rw [List.take_succ_eq_append_getElem hj,List.foldl_append,e]
 rfl
theorem rd_all {g:G} {S:LS} {tp i:Nat} (h:(leftN g S).length≤i):rdAt g S tp i=RS.run g.n tp (cornersN g) S:=by
 unfold rdAt RS.run;rw [List.take_of_length_le h,LS.fold_left (cornersN g) _ (cornersN_nodup g)]
 rfl
theorem rd_inv {g:G} {S:LS} {tp K:Nat} (H:LS.Inv g g.n tp K S (fun _=>false)) (i:Nat):LS.Inv g g.n tp K (rdAt g S tp i).S (rdAt g S tp i).near:=
 LS.fold_inv _ _ H (fun n hn=>(mem_leftN.1 (List.mem_of_mem_take hn)).1)
theorem rd_lev {g:G} {S:LS} {tp i n:Nat} (h:(leftN g S)[i]? = some n):(rdAt g S tp i).S.lev n=0∧g.Corner n:=by
 obtain ⟨h1,h2⟩:=mem_leftN.1 (List.mem_of_getElem? h);refine ⟨?_,h1⟩;unfold rdAt;rw [LS.fold_lev_out]
 ·exact h2
 ·intro hm
  obtain ⟨j,hj⟩:=List.getElem?_of_mem hm;rw [List.getElem?_take] at hj
  split at hj
  ·have:=(List.getElem?_inj (List.getElem?_eq_some_iff.1 h).1 (leftN_nodup g S)).1 (h.trans hj.symm)
   omega
  ·cases hj
theorem inv_cor {g:G} {N tp K:Nat} {S:LS} {nr:Nat→Bool} (H:LS.Inv g N tp K S nr):Cor g S:=H.corner
theorem inv_sml {g:G} {N tp K:Nat} {S:LS} {nr:Nat→Bool} (H:LS.Inv g N tp K S nr) (hK:K≤1000):Sml S:=fun a b c m h=>by
 obtain ⟨h1,h2,h3,h4,_⟩:=H.small a b c m h
 exact ⟨h1,by omega,h3,by omega⟩
structure SSt where
 lab:Nat→Option C
 hp:Nat→Option C
 bk:Nat→Int
def LeastH (hp:Nat→Option C) (t:Nat) (f:C):Prop:=hp t=some f∧∀j d,hp j=some d→It.le ⟨f,(t:Nat)⟩ ⟨d,(j:Nat)⟩
theorem LeastH.one {hp:Nat→Option C} {t t':Nat} {f f':C} (h:LeastH hp t f) (k:LeastH hp t' f'):t=t'∧f=f':=by
 have h1:=h.2 _ _ k.1;have h2:=k.2 _ _ h.1
 rcases It.le_iff.1 h1 with q | q
 ·exact absurd q h2
 ·injection q with q1 q2
  exact ⟨by omega,q1⟩
def SrcS (src:Nat→C→Prop) (h:Nat→C) (ps:Nat→C→Prop) (V:SSt):Prop:=∀b,
 (V.lab b=none∧V.hp b=none∧V.bk b=0∧∀c,src b c→ps b c)∨∃x,V.lab b=some x∧V.hp b=some (C.add x (h b))∧V.bk b = -1∧src b x∧∀c,src b c→ps b c∨C.le x c
def SprS (E:Nat→Nat→C→Prop) (h:Nat→C) (V0:SSt) (k:Nat) (pend:Nat→C→Prop) (V:SSt):Prop:=∃d,V0.lab k=some d∧V.lab k=some d∧∀b,
 (V.lab b=V0.lab b∧V.hp b=FR.upd V0.hp k none b∧V.bk b=V0.bk b∧∀e,E k b e→pend b e) ∨
 ∃e,E k b e∧((lower? V0.lab b (C.add d e)=true∧V.lab b=some (C.add d e)∧V.hp b=some (C.add (C.add d e) (h b))∧V.bk b=(k:Nat)) ∨
  (lower? V0.lab b (C.add d e)=false∧V.lab b=V0.lab b∧V.hp b=FR.upd V0.hp k none b∧V.bk b=V0.bk b))
inductive RunS (E:Nat→Nat→C→Prop) (src:Nat→C→Prop) (h:Nat→C):Nat→SSt→Prop
 | src {V:SSt}:SrcS src h (fun _ _=>False) V→RunS E src h 0 V
 | next {i k:Nat} {f:C} {V0 V:SSt}:RunS E src h i V0→LeastH V0.hp k f→k≠256→SprS E h V0 k (fun _ _=>False) V→RunS E src h (i+1) V
theorem SrcS.one {src:Nat→C→Prop} {h:Nat→C} {V V':SSt} (H:SrcS src h (fun _ _=>False) V) (K:SrcS src h (fun _ _=>False) V'):V=V':=by
 have key:∀b,V.lab b=V'.lab b∧V.hp b=V'.hp b∧V.bk b=V'.bk b:=by
  intro b
  rcases H b with ⟨h1,h2,h3,h4⟩ | ⟨x,h1,h2,h3,h4,h5⟩ <;> rcases K b with ⟨k1,k2,k3,k4⟩ | ⟨y,k1,k2,k3,k4,k5⟩
  ·rw [h1,h2,h3,k1,k2,k3];exact ⟨rfl,rfl,rfl⟩
  ·exact (h4 _ k4).elim
  ·exact (k4 _ h4).elim
  ·have e:x=y:=C.le_antisymm ((h5 _ k4).resolve_left id) ((k5 _ h4).resolve_left id)
   subst e;rw [h1,h2,h3,k1,k2,k3];exact ⟨rfl,rfl,rfl⟩
 obtain ⟨a,b,c⟩:=V;obtain ⟨a',b',c'⟩:=V'
 congr 1
 ·funext x;exact (key x).1
 ·funext x;exact (key x).2.1
 ·funext x;exact (key x).2.2
section
variable {E:Nat→Nat→C→Prop} {src:Nat→C→Prop} {h:Nat→C}
theorem SprS.one (hE:∀a b e e',E a b e→E a b e'→e=e') {V0 V V':SSt} {k:Nat} (H:SprS E h V0 k (fun _ _=>False) V) (K:SprS E h V0 k (fun _ _=>False) V'):V=V':=by
 obtain ⟨d,h1,_,H⟩:=H;obtain ⟨d',k1,_,K⟩:=K
 obtain rfl:d=d':=by rw [h1] at k1;injection k1
 have key:∀b,V.lab b=V'.lab b∧V.hp b=V'.hp b∧V.bk b=V'.bk b:=by
  intro b
  rcases H b with ⟨h1,h2,h3,h4⟩ | ⟨e,he,h5⟩ <;> rcases K b with ⟨k1,k2,k3,k4⟩ | ⟨e',he',k5⟩
  ·rw [h1,h2,h3,k1,k2,k3];exact ⟨rfl,rfl,rfl⟩
  ·exact (h4 _ he').elim
  ·exact (k4 _ he).elim
  ·obtain rfl:=hE _ _ _ _ he he'
   rcases h5 with ⟨h0,h1,h2,h3⟩ | ⟨h0,h1,h2,h3⟩ <;> rcases k5 with ⟨k0,k1,k2,k3⟩ | ⟨k0,k1,k2,k3⟩
   ·rw [h1,h2,h3,k1,k2,k3];exact ⟨rfl,rfl,rfl⟩
   ·rw [h0] at k0;cases k0
   ·rw [h0] at k0;cases k0
   ·rw [h1,h2,h3,k1,k2,k3];exact ⟨rfl,rfl,rfl⟩
 obtain ⟨a,b,c⟩:=V;obtain ⟨a',b',c'⟩:=V'
 congr 1
 ·funext x;exact (key x).1
 ·funext x;exact (key x).2.1
 ·funext x;exact (key x).2.2
theorem RunS.one (hE:∀a b e e',E a b e→E a b e'→e=e') {i:Nat} {V V':SSt} (H:RunS E src h i V) (K:RunS E src h i V'):V=V':=by
 induction H generalizing V' with
 | src H=>
  cases K with
  | src K=>exact H.one K
 | next H1 H2 _ H3 ih=>
  cases K with
  | next K1 K2 _ K3=>
   obtain rfl:=ih K1;obtain ⟨rfl,_⟩:=H2.one K2;exact H3.one hE K3
def EndS (V:SSt):Prop:=(∀j,V.hp j=none)∨∃f,LeastH V.hp 256 f
theorem RunS.lt (hE:∀a b e e',E a b e→E a b e'→e=e') {i j:Nat} {V V':SSt} (H:RunS E src h i V) (K:RunS E src h j V') (hV:EndS V):¬i<j:=by
 intro hij
 induction K with
 | src _=>omega
 | @next j k f V0 V1 K1 K2 hk K3 ih=>
  by_cases e:i=j
  ·subst e
   obtain rfl:=H.one hE K1
   rcases hV with q | ⟨f',q⟩
   ·have hk2:=K2.1
    rw [q k] at hk2;cases hk2
   ·exact hk (K2.one q).1
  ·exact ih (by omega)
theorem RunS.fin (hE:∀a b e e',E a b e→E a b e'→e=e') {i j:Nat} {V V':SSt} (H:RunS E src h i V) (K:RunS E src h j V') (hV:EndS V) (hV':EndS V'):V=V':=by
 have h1:=H.lt hE K hV;have h2:=K.lt hE H hV'
 obtain rfl:i=j:=by omega
 exact H.one hE K
theorem SrcS.start (src:Nat→C→Prop) (h:Nat→C):SrcS src h src ⟨fun _=>none,fun _=>none,fun _=>0⟩:=fun _=>.inl ⟨rfl,rfl,rfl,fun _ h=>h⟩
theorem SrcS.weak {ps ps':Nat→C→Prop} {V:SSt} (H:SrcS src h ps V) (hs:∀s c,ps s c→ps' s c):SrcS src h ps' V:=fun b=>by
 rcases H b with ⟨h1,h2,h3,h4⟩ | ⟨x,h1,h2,h3,h4,h5⟩
 ·exact .inl ⟨h1,h2,h3,fun c hc=>hs _ _ (h4 c hc)⟩
 ·exact .inr ⟨x,h1,h2,h3,h4,fun c hc=>(h5 c hc).imp_left (hs _ _)⟩
theorem SrcS.step {ps ps' : Nat → C → Prop} {lab hp : Nat → Option C} {bk : Nat → Int} (H : SrcS src h ps ⟨lab, hp, bk⟩) {b : Nat} {x : C} {tb : Bool} (ht : lower? lab b x = tb) (hb : src b x) (hs : ∀ s c, ps s c → ps' s c ∨ (s = b ∧ C.le x c)) :
    SrcS src h ps' ⟨pushed lab b x tb,pushed hp b (C.add x (h b)) tb,if tb=true then FR.upd bk b (-1) else bk⟩:=fun a=>by
 by_cases e:a=b
 ·subst e
  cases tb with
  | true=>
   refine .inr ⟨x,FR.upd_same _ _ _,FR.upd_same _ _ _,FR.upd_same _ _ _,hb,fun c hc=>?_⟩
   rcases H a with ⟨_,_,_,h4⟩ | ⟨y,h1,_,_,_,h5⟩
   ·exact (hs _ _ (h4 c hc)).imp_right (·.2)
   ·rcases h5 c hc with q | q
    ·exact (hs _ _ q).imp_right (·.2)
    ·exact .inr (C.le_trans (C.le_of_lt (lower_yes ht y h1)) q)
  | false=>
   obtain ⟨d,h1,h2⟩:=lower_no ht
   rcases H a with ⟨k1,_⟩ | ⟨y,k1,k2,k3,k4,k5⟩
   ·simp only at k1;rw [k1] at h1;cases h1
   ·obtain rfl:y=d:=by simp only at k1;rw [k1] at h1;injection h1
    refine .inr ⟨y,k1,k2,k3,k4,fun c hc=>?_⟩
    rcases k5 c hc with q | q
    ·exact (hs _ _ q).imp_right fun r=>C.le_trans h2 r.2
    ·exact .inr q
 ·have e1:pushed lab b x tb a=lab a:=by unfold pushed;split;exact FR.upd_ne _ _ e;rfl
  have e2:pushed hp b (C.add x (h b)) tb a=hp a:=by unfold pushed;split;exact FR.upd_ne _ _ e;rfl
  have e3:(if tb=true then FR.upd bk b (-1) else bk) a=bk a:=by split;exact FR.upd_ne _ _ e;rfl
  rcases H a with ⟨h1,h2,h3,h4⟩ | ⟨y,h1,h2,h3,h4,h5⟩
  ·exact .inl ⟨e1.trans h1,e2.trans h2,e3.trans h3,fun c hc=>(hs _ _ (h4 c hc)).resolve_right fun q=>e q.1⟩
  ·exact .inr ⟨y,e1.trans h1,e2.trans h2,e3.trans h3,h4,fun c hc=>(h5 c hc).imp_left fun q=>(hs _ _ q).resolve_right fun r=>e r.1⟩
theorem SprS.start {V0:SSt} {k:Nat} {d:C} (hk:V0.lab k=some d):SprS E h V0 k (E k) ⟨V0.lab,FR.upd V0.hp k none,V0.bk⟩:=⟨d,hk,hk,fun _=>.inl ⟨rfl,rfl,rfl,fun _ h=>h⟩⟩
theorem SprS.weak {V0 V:SSt} {k:Nat} {pend pend':Nat→C→Prop} (H:SprS E h V0 k pend V) (hp':∀b e,pend b e→pend' b e):SprS E h V0 k pend' V:=by
 obtain ⟨d,h1,h2,H⟩:=H
 exact ⟨d,h1,h2,fun b=>(H b).imp_left fun ⟨q1,q2,q3,q4⟩=>⟨q1,q2,q3,fun e he=>hp' _ _ (q4 e he)⟩⟩
theorem lower_self (lab:Nat→Option C) (b:Nat) (x:C) (h:lab b=some x):lower? lab b x=false:=by
 unfold lower?;rw [h];simp only [decide_eq_false_iff_not]
 exact fun q=>C.lt_irrefl x (C.cmp_neg.1 q)
theorem lower_at {lab lab':Nat→Option C} {b:Nat} (h:lab b=lab' b) (x:C):lower? lab b x=lower? lab' b x:=by unfold lower?;rw [h]
theorem SprS.step (hE : ∀ a b e e', E a b e → E a b e' → e = e') {V0 : SSt} {k : Nat} {pend pend' : Nat → C → Prop} {lab hp : Nat → Option C} {bk : Nat → Int} (H : SprS E h V0 k pend ⟨lab, hp, bk⟩) {b : Nat} {d e : C} {tb : Bool} (hd : lab k = some d) (hkb : k ≠ b) (he : E k b e)
    (ht:lower? lab b (C.add d e)=tb) (hp':∀b' e',b'≠b→pend b' e'→pend' b' e') :
    SprS E h V0 k pend' ⟨pushed lab b (C.add d e) tb,pushed hp b (C.add (C.add d e) (h b)) tb,if tb=true then FR.upd bk b (k:Nat) else bk⟩:=by
 obtain ⟨d',h1,h2,H⟩:=H
 obtain rfl:d'=d:=by simp only at h2;rw [h2] at hd;injection hd
 refine ⟨d',h1,?_,fun a=>?_⟩
 ·show pushed lab b _ tb k=_
  unfold pushed;split
  ·rw [FR.upd_ne _ _ hkb];exact h2
  ·exact h2
 ·by_cases e1:a=b
  ·subst e1
   right
   refine ⟨e,he,?_⟩
   rcases H a with ⟨q1,q2,q3,_⟩ | ⟨e',he',⟨q0,q1,q2,q3⟩ | ⟨q0,q1,q2,q3⟩⟩
   ·simp only at q1 q2 q3
    rw [lower_at q1] at ht
    cases tb with
    | true=>exact .inl ⟨ht,FR.upd_same _ _ _,FR.upd_same _ _ _,FR.upd_same _ _ _⟩
    | false=>exact .inr ⟨ht,q1,q2,q3⟩
   ·obtain rfl:=hE _ _ _ _ he he'
    simp only at q1 q2 q3;rw [lower_self _ _ _ q1] at ht;subst ht;exact .inl ⟨q0,q1,q2,q3⟩
   ·obtain rfl:=hE _ _ _ _ he he'
    simp only at q1 q2 q3;rw [lower_at q1,q0] at ht;subst ht;exact .inr ⟨q0,q1,q2,q3⟩
  ·have f1:pushed lab b (C.add d' e) tb a=lab a:=by unfold pushed;split;exact FR.upd_ne _ _ e1;rfl
   have f2:pushed hp b (C.add (C.add d' e) (h b)) tb a=hp a:=by unfold pushed;split;exact FR.upd_ne _ _ e1;rfl
   have f3:(if tb=true then FR.upd bk b (k:Nat) else bk) a=bk a:=by split;exact FR.upd_ne _ _ e1;rfl
   rcases H a with ⟨q1,q2,q3,q4⟩ | ⟨e',he',⟨q0,q1,q2,q3⟩ | ⟨q0,q1,q2,q3⟩⟩
   ·exact .inl ⟨f1.trans q1,f2.trans q2,f3.trans q3,fun e hh=>hp' _ _ e1 (q4 e hh)⟩
   ·exact .inr ⟨e',he',.inl ⟨q0,f1.trans q1,f2.trans q2,f3.trans q3⟩⟩
   ·exact .inr ⟨e',he',.inr ⟨q0,f1.trans q1,f2.trans q2,f3.trans q3⟩⟩
end
inductive ChB (bk:Nat→Int):Int→List Nat→Prop
 | nil {z:Int}:z<0→ChB bk z []
 | cons {a:Nat} {l:List Nat}:ChB bk (bk a) l→ChB bk (a:Nat) (a :: l)
theorem ChB.one {bk:Nat→Int} {z:Int} {l m:List Nat} (h:ChB bk z l) (k:ChB bk z m):l=m:=by
 induction h generalizing m with
 | nil hz=>
  cases k with
  | nil=>rfl
  | cons _=>omega
 | @cons a l _ ih=>
  generalize hz:((a:Nat):Int)=z at k
  cases k with
  | nil _=>omega
  | @cons b m k=>
   obtain rfl:a=b:=by omega
   rw [ih k]
inductive JnU (S:LS):List Nat→List Nat→Prop
 | one (a:Nat):JnU S [a] [a]
 | snoc {P W L:List Nat} {x y:Nat}:JnU S P W→P.getLast? = some x→LS.Unp S x y L→JnU S (P ++ [y]) (W ++ L.tail)
theorem JnU.len {S:LS} {P W:List Nat} (h:JnU S P W):P≠[]:=by cases h <;> simp
theorem JnU.det {S:LS} {P W W':List Nat} (h:JnU S P W) (k:JnU S P W'):W=W':=by
 induction h generalizing W' with
 | one a=>
  generalize hp:[a]=P at k
  cases k with
  | one b=>rfl
  | @snoc P _ _ _ y k1 _ _=>
   exfalso
   have h2:=congrArg List.length hp;have h3:=k1.len
   cases P with
   | nil=>exact h3 rfl
   | cons=>simp at h2
 | @snoc P W L x y h1 h2 h3 ih=>
  generalize hp:P ++ [y]=Q at k
  cases k with
  | one b=>
   exfalso
   have q2:=congrArg List.length hp;have q3:=h1.len
   cases P with
   | nil=>exact q3 rfl
   | cons=>simp at q2
  | @snoc P' W1 L' x' y' k1 k2 k3=>
   obtain ⟨rfl,e⟩:=List.append_inj' hp rfl;simp only [List.cons.injEq,and_true] at e;subst e
   rw [h2] at k2;injection k2 with k2;subst k2
   rw [ih k1,h3.det k3]
def MkE (g:G) (S:LS) (inn:List Ed) (b:Nat):Prop:=∃(t:Nat) (c:C),(∃e∈inn,e.to_=(t:Nat))∧g.Corner t∧Walk (fun x y c=>S.lev x<S.lev y∧∃m,S.eg x y=some (c,m)) t b c
theorem MkE.up {g:G} {S:LS} {inn:List Ed} {a b:Nat} {c:C} {m:Int} (h:MkE g S inn a) (hl:S.lev a<S.lev b) (he:S.eg a b=some (c,m)):MkE g S inn b:=by
 obtain ⟨t,d,h1,h2,h3⟩:=h;exact ⟨t,_,h1,h2,h3.snoc ⟨hl,m,he⟩⟩
theorem srE_one_ (S:LS) (tp:Nat) (mark:Nat→Prop) (fin:Nat→Option C) (a b:Nat) (e e':C) (h:S.SE tp 256 mark fin a b e) (k:S.SE tp 256 mark fin a b e'):e=e':=by
 rcases h with ⟨_,h2,_,m,h3⟩ | ⟨_,h2,h3⟩ <;> rcases k with ⟨_,k2,_,m',k3⟩ | ⟨_,k2,k3⟩
 ·rw [h3] at k3;injection k3 with k3;injection k3
 ·exact absurd k2 h2
 ·exact absurd h2 k2
 ·rw [h3] at k3;injection k3
abbrev srE (S:LS) (tp:Nat) (mark:Nat→Bool) (fin:Nat→Option C):Nat→Nat→C→Prop:=S.SE tp 256 (fun b=>mark b=true) fin
structure SrG (g:G) (tp:Nat) (S:LS) (out:List Ed) (fin:Nat→Option C) (h:Nat→C):Prop where
 ok:g.ok
 fn:LS.Fin g tp S
 eds:EdsOk out
 fok:∀t e,fin t=some e→0≤e.s∧e.s≤1048576∧0≤e.d∧e.d≤1048576
 hok:∀j,g.Corner j→0≤(h j).s∧(h j).s≤1000∧0≤(h j).d∧(h j).d≤1000
 hT:h 256=C.zero
structure SrI (g:G) (tp:Nat) (S:LS) (mark:Nat→Bool) (fin:Nat→Option C) (out:List Ed) (h:Nat→C) (lab hp:Nat→Option C) (bk:Nat→Int) (k:Nat) (pend ps:Nat→C→Prop) (gk:Nat):Prop where
 hu:Hu (srE S tp mark fin) (SrcO g out) h lab hp bk k pend ps
 sb:SB g.n 256 2100000 4000 2100000 lab
 cor:∀j,lab j≠none→g.Corner j∨j=256
 me:2*SB.me g.n 256 2100000 4000 2100000 lab+cntS hp 257≤gk
 tin:lab 256≠none→hp 256≠none
theorem Hu.weak {E : Nat → Nat → C → Prop} {src : Nat → C → Prop} {h : Nat → C} {lab hp : Nat → Option C} {back : Nat → Int} {k : Nat} {pend ps pend' ps' : Nat → C → Prop} (H : Hu E src h lab hp back k pend ps)
    (hp':∀b e,pend b e→pend' b e) (hs':∀s c,ps s c→ps' s c):Hu E src h lab hp back k pend' ps':=
 ⟨H.reach,H.key,fun a c b e ha he=>(H.closed a c b e ha he).imp_left fun q=>⟨q.1,hp' b e q.2⟩,fun s c hs=>(H.srcs s c hs).imp_left (hs' s c),H.back⟩
section
variable {g:G} {tp:Nat} {S:LS} {mark:Nat→Bool} {fin:Nat→Option C} {out:List Ed} {h:Nat→C} {lab hp:Nat→Option C} {bk:Nat→Int} {k:Nat} {pend ps:Nat→C→Prop} {gk:Nat}
theorem SrI.weak {pend' ps':Nat→C→Prop} (I:SrI g tp S mark fin out h lab hp bk k pend ps gk) (hp':∀b e,pend b e→pend' b e) (hs':∀s c,ps s c→ps' s c):SrI g tp S mark fin out h lab hp bk k pend' ps' gk:=
 ⟨Hu.weak I.hu hp' hs',I.sb,I.cor,I.me,I.tin⟩
theorem SrI.small (hok:g.ok) (I:SrI g tp S mark fin out h lab hp bk k pend ps gk) {j:Nat} {c:C} (hj:lab j=some c):0≤c.s∧c.s≤10448000∧0≤c.d∧c.d≤10448000:=by
 have:=I.sb.small hj;have hn:=G.n_le hok;omega
theorem SrI.start (hok:g.ok) (h0:SrG g tp S out fin h) (k:Nat) (bk:Nat→Int):SrI g tp S mark fin out h (fun _=>none) (fun _=>none) bk k (fun _ _=>False) (SrcO g out) (2*SB.me g.n 256 2100000 4000 2100000 (fun _=>none)):=
 ⟨Hu.start k bk,SB.start,fun _ hj=>absurd rfl hj,by rw [cntS_none];omega,fun hj=>absurd rfl hj⟩
theorem SrI.low (I:SrI g tp S mark fin out h lab hp bk k pend ps gk) {b:Nat} {x:C} {tb:Bool} (ht:lower? lab b x=tb) (h1:tb=true):lower? hp b (C.add x (h b))=true:=by
 subst h1;have hl:=lower_yes ht;unfold lower?
 cases hb:hp b with
 | none=>rfl
 | some f=>
  obtain ⟨c,e1,rfl⟩:=I.hu.key b f hb;have:=hl c e1;simp only [decide_eq_true_eq];exact C.cmp_neg.2 ((C.add_lt_right (h b)).2 this)
theorem SrI.hpr (I:SrI g tp S mark fin out h lab hp bk k pend ps gk) (hok:g.ok):∀j,hp j≠none→j<257:=fun j hj=>by
 cases hx:hp j with
 | none=>exact absurd hx hj
 | some f=>
  obtain ⟨c,e1,_⟩:=I.hu.key j f hx;have hn:=G.n_le hok
  rcases I.sb.rng j (by rw [e1];simp) with q | q <;> omega
theorem SrI.step (G0 : SrG g tp S out fin h) (I : SrI g tp S mark fin out h lab hp bk k pend ps gk) {pend' ps' : Nat → C → Prop} {b : Nat} {x : C} {z : Int} {tb : Bool} (hbc : g.Corner b ∨ b = 256) (hbk : b ≠ k ∨ ∀ b' e', ¬ pend b' e')
    (hz:(z = -1∧SrcO g out b x)∨∃(a:Nat) (d e:C),z=a∧lab a=some d∧a≠b∧srE S tp mark fin a b e∧x=C.add d e)
    (hp':∀b' e',pend b' e'→pend' b' e'∨(b'=b∧∀c,lab k=some c→C.le x (C.add c e'))) (hs':∀s c,ps s c→ps' s c∨(s=b∧C.le x c)) (ht:lower? lab b x=tb) :
    SrI g tp S mark fin out h (pushed lab b x tb) (pushed hp b (C.add x (h b)) tb) (if tb=true then FR.upd bk b z else bk) k pend' ps' gk:=by
 cases tb with
 | false=>
  obtain ⟨d,h1,h2⟩:=lower_no ht;refine ⟨?_,I.sb,I.cor,I.me,I.tin⟩;exact I.hu.keep h1 h2 hp' hs'
 | true=>
  have hlt:=lower_yes ht;have hn:=G.n_le G0.ok
  have hr:FR.Reach (srE S tp mark fin) (SrcO g out) b x:=by
   rcases hz with ⟨_,q⟩ | ⟨a,d,e,_,q1,_,q2,rfl⟩
   ·exact FR.Reach.src q
   ·exact (I.hu.reach a d q1).snoc q2
  have hnn:C.Nn x:=by
   rcases hz with ⟨_,q⟩ | ⟨a,d,e,_,q1,_,q2,rfl⟩
   ·exact srcK_nn G0.eds q
   ·refine C.nn_add (I.sb.nn a d q1) ?_
    rcases q2 with ⟨_,_,_,m,q3⟩ | ⟨_,_,q3⟩
    ·have:=G0.fn.small _ _ _ _ q3;exact ⟨this.1,this.2.2.1⟩
    ·have:=G0.fok _ _ q3;exact ⟨this.1,this.2.2.1⟩
  have hb:b<g.n∨b=256:=hbc.imp_left fun q=>q.1
  obtain ⟨s1,s2⟩:=I.sb.put hn hb hnn hlt (fun hbn _=>by
   rcases hz with ⟨_,q⟩ | ⟨a,d,e,_,q1,_,q2,rfl⟩
   ·obtain ⟨_,i,y,_,h1,_,rfl⟩:=q
    refine C.le_trans (le_big (G0.eds y (List.mem_of_getElem? h1))) (C.le_of_parts (Int.le_refl _) ?_);simp only;omega
   ·rcases q2 with ⟨q4,_,_,m,q3⟩ | ⟨_,q4,q3⟩
    ·have han:a<g.n:=(I.sb.rng a (by rw [q1];simp)).resolve_right q4
     refine C.le_trans (C.add_le_add (I.sb.bd a d q1 han) (le_step (G0.fn.small _ _ _ _ q3))) (C.le_of_parts ?_ ?_)
     ·simp [C.add]
     ·simp only [C.add,Nat.mul_add];omega
    ·omega) (fun hbn=>by
   have hbT:b=256:=hb.resolve_left hbn
   rcases hz with ⟨_,q⟩ | ⟨a,d,e,_,q1,_,q2,rfl⟩
   ·have:=q.1.1;omega
   ·rcases q2 with ⟨_,q4,_⟩ | ⟨q4,_,q3⟩
    ·exact absurd hbT q4
    ·have han:a<g.n:=(I.sb.rng a (by rw [q1];simp)).resolve_right q4
     have hm:=Nat.mul_le_mul_left 4000 (cntS_le lab g.n);refine C.le_trans (C.add_le_add (I.sb.bd a d q1 han) (le_big (G0.fok _ _ q3))) (C.le_of_parts ?_ ?_)
     ·simp [C.add]
     ·simp only [C.add];omega)
  refine ⟨?_,s1,fun j hj=>?_,?_,fun hj=>?_⟩
  ·refine I.hu.put hr hlt hbk ?_ hp' hs'
   rcases hz with q | ⟨a,d,e,q1,q2,q3,q4,rfl⟩
   ·exact .inl q
   ·exact .inr ⟨a,d,e,q1,q2,q3,q4,C.le_refl _⟩
  ·by_cases e:j=b
   ·rw [e];exact hbc
   ·refine I.cor j ?_
    have:pushed lab b x true j=lab j:=FR.upd_ne _ _ e
    rwa [this] at hj
  ·have h1:=cntS_put_le hp 257 b (C.add x (h b))
   have h2:=I.me
   show 2*SB.me g.n 256 2100000 4000 2100000 (FR.upd lab b (some x))+cntS (FR.upd hp b (some (C.add x (h b)))) 257≤gk
   omega
  ·show FR.upd hp b (some (C.add x (h b))) 256≠none
   by_cases e:256=b
   ·rw [e,FR.upd_same];simp
   ·rw [FR.upd_ne _ _ e]
    refine I.tin ?_;have:pushed lab b x true 256=lab 256:=FR.upd_ne _ _ e
    rwa [this] at hj
theorem SrI.pop (hok : g.ok) (I : SrI g tp S mark fin out h lab hp bk k (fun _ _ => False) (fun _ _ => False) gk) {t : Nat} {f : C} (ht : hp t = some f) (h256 : t ≠ 256) :
    SrI g tp S mark fin out h lab (FR.upd hp t none) bk t (srE S tp mark fin t) (fun _ _=>False) (gk-1)∧0<gk:=by
 have h1:cntS hp 257=cntS (FR.upd hp t none) 257+1:=cnt_hpop (I.hpr hok t (by rw [ht];simp)) (by rw [ht];simp)
 have h2:=I.me
 exact ⟨⟨I.hu.pop,I.sb,I.cor,by omega,fun hj=>by rw [FR.upd_ne _ _ (Ne.symm h256)];exact I.tin hj⟩,by omega⟩
structure SrJ (V0:SSt) (g:G) (tp:Nat) (S:LS) (mark:Nat→Bool) (fin:Nat→Option C) (out:List Ed) (h:Nat→C) (lab hp:Nat→Option C) (bk:Nat→Int) (k:Nat) (pend ps:Nat→C→Prop) (gk:Nat):Prop extends SrI g tp S mark fin out h lab hp bk k pend ps gk where
 spr:SprS (srE S tp mark fin) h V0 k pend ⟨lab,hp,bk⟩
theorem SrJ.weak {V0:SSt} {pend' ps':Nat→C→Prop} (I:SrJ V0 g tp S mark fin out h lab hp bk k pend ps gk) (hp':∀b e,pend b e→pend' b e) (hs':∀s c,ps s c→ps' s c):SrJ V0 g tp S mark fin out h lab hp bk k pend' ps' gk:=
 ⟨I.toSrI.weak hp' hs',I.spr.weak hp'⟩
theorem SrJ.step {V0 : SSt} (G0 : SrG g tp S out fin h) (I : SrJ V0 g tp S mark fin out h lab hp bk k pend ps gk) {pend' ps' : Nat → C → Prop} {b : Nat} {x : C} {tb : Bool} (hbc : g.Corner b ∨ b = 256) (hbk : b ≠ k ∨ ∀ b' e', ¬ pend b' e')
    (hz:∃(d e:C),lab k=some d∧k≠b∧srE S tp mark fin k b e∧x=C.add d e)
    (hp':∀b' e',pend b' e'→pend' b' e'∨(b'=b∧∀c,lab k=some c→C.le x (C.add c e'))) (hs':∀s c,ps s c→ps' s c∨(s=b∧C.le x c)) (ht:lower? lab b x=tb) :
    SrJ V0 g tp S mark fin out h (pushed lab b x tb) (pushed hp b (C.add x (h b)) tb) (if tb=true then FR.upd bk b (k:Nat) else bk) k pend' ps' gk:=by
 obtain ⟨d,e,h1,h2,h3,rfl⟩:=hz
 exact ⟨I.toSrI.step G0 hbc hbk (.inr ⟨k,d,e,rfl,h1,h2,h3,rfl⟩) hp' hs' ht,I.spr.step (srE_one_ S tp _ fin) h1 h2 h3 ht fun b' e' hne hb=>(hp' b' e' hb).resolve_right fun q=>hne q.1⟩
structure SrB (g:G) (tp:Nat) (S:LS) (mark:Nat→Bool) (fin:Nat→Option C) (out:List Ed) (h:Nat→C) (lab hp:Nat→Option C) (bk:Nat→Int) (k:Nat) (pend ps:Nat→C→Prop) (gk:Nat):Prop extends SrI g tp S mark fin out h lab hp bk k pend ps gk where
 srs:SrcS (SrcO g out) h ps ⟨lab,hp,bk⟩
theorem SrB.weak {pend' ps':Nat→C→Prop} (I:SrB g tp S mark fin out h lab hp bk k pend ps gk) (hp':∀b e,pend b e→pend' b e) (hs':∀s c,ps s c→ps' s c):SrB g tp S mark fin out h lab hp bk k pend' ps' gk:=
 ⟨I.toSrI.weak hp' hs',I.srs.weak hs'⟩
theorem SrB.start (hok:g.ok) (h0:SrG g tp S out fin h) (k:Nat):SrB g tp S mark fin out h (fun _=>none) (fun _=>none) (fun _=>0) k (fun _ _=>False) (SrcO g out) (2*SB.me g.n 256 2100000 4000 2100000 (fun _=>none)):=
 ⟨SrI.start hok h0 k _,SrcS.start _ h⟩
theorem SrB.step (G0 : SrG g tp S out fin h) (I : SrB g tp S mark fin out h lab hp bk k pend ps gk) {pend' ps' : Nat → C → Prop} {b : Nat} {x : C} {tb : Bool} (hbc : g.Corner b ∨ b = 256) (hbk : b ≠ k ∨ ∀ b' e', ¬ pend b' e')
    (hz:SrcO g out b x)
    (hp':∀b' e',pend b' e'→pend' b' e'∨(b'=b∧∀c,lab k=some c→C.le x (C.add c e'))) (hs':∀s c,ps s c→ps' s c∨(s=b∧C.le x c)) (ht:lower? lab b x=tb) :
    SrB g tp S mark fin out h (pushed lab b x tb) (pushed hp b (C.add x (h b)) tb) (if tb=true then FR.upd bk b (-1) else bk) k pend' ps' gk:=
 ⟨I.toSrI.step G0 hbc hbk (.inl ⟨rfl,hz⟩) hp' hs' ht,I.srs.step ht hz hs'⟩
structure SrR (g:G) (tp:Nat) (S:LS) (mark:Nat→Bool) (fin:Nat→Option C) (out:List Ed) (h:Nat→C) (lab hp:Nat→Option C) (bk:Nat→Int) (k:Nat) (pend ps:Nat→C→Prop) (gk:Nat):Prop extends SrI g tp S mark fin out h lab hp bk k pend ps gk where
 run:∃i,RunS (srE S tp mark fin) (SrcO g out) h i ⟨lab,hp,bk⟩
theorem SrB.run (I:SrB g tp S mark fin out h lab hp bk k (fun _ _=>False) (fun _ _=>False) gk):SrR g tp S mark fin out h lab hp bk k (fun _ _=>False) (fun _ _=>False) gk:=
 ⟨I.toSrI,0,.src I.srs⟩
theorem SrR.pop (hok : g.ok) (I : SrR g tp S mark fin out h lab hp bk k (fun _ _ => False) (fun _ _ => False) gk) {t : Nat} {f c : C} (ht : hp t = some f) (hc : lab t = some c) (h256 : t ≠ 256) :
    SrJ ⟨lab,hp,bk⟩ g tp S mark fin out h lab (FR.upd hp t none) bk t (srE S tp mark fin t) (fun _ _=>False) (gk-1)∧0<gk:=by
 obtain ⟨h1,h2⟩:=I.toSrI.pop hok ht h256;exact ⟨⟨h1,SprS.start (V0:=⟨lab,hp,bk⟩) hc⟩,h2⟩
theorem SrJ.run {V0:SSt} (I:SrJ V0 g tp S mark fin out h lab hp bk k (fun _ _=>False) (fun _ _=>False) gk) {f:C} (h0:∃i,RunS (srE S tp mark fin) (SrcO g out) h i V0) (hf:LeastH V0.hp k f) (hk:k≠256):SrR g tp S mark fin out h lab hp bk k (fun _ _=>False) (fun _ _=>False) gk:=by
 obtain ⟨i,h0⟩:=h0;exact ⟨I.toSrI,i+1,.next h0 hf hk I.spr⟩
def PendS (S:LS) (tp:Nat) (mark:Nat→Bool) (n:Nat) (L:List Ed) (j:Nat) (b:Nat) (e:C):Prop:=∃(i:Nat) (x:Ed),j≤i∧L[i]? = some x∧x.to_=(b:Nat)∧x.c=e∧(S.lev n<S.lev b∨S.lev b=tp∨mark b=true)
theorem PendS.first {n:Nat} (hc:∀y c m,S.eg n y=some (c,m)→y<g.n) {b:Nat} {e:C} (h1:srE S tp mark fin n b e):PendS S tp mark n (EgL S g.n n) 0 b e∨(b=256∧fin n=some e):=by
 rcases h1 with ⟨_,_,q1,m,q2⟩ | ⟨_,q1,q2⟩
 ·have:(⟨(b:Nat),e,m⟩:Ed)∈EgL S g.n n:=mem_EgL.2 ⟨b,hc _ _ _ q2,rfl,q2⟩
  obtain ⟨i,hi⟩:=List.getElem?_of_mem this;exact .inl ⟨i,_,Nat.zero_le _,hi,rfl,rfl,q1⟩
 ·exact .inr ⟨q1,q2⟩
theorem PendS.next {n:Nat} {L:List Ed} {j t:Nat} {x:Ed} (hx:L[j]? = some x) (ht:x.to_=(t:Nat)) (b:Nat) (e:C) (h:PendS S tp mark n L j b e):PendS S tp mark n L (j+1) b e∨(b=t∧e=x.c):=by
 obtain ⟨i,y,h1,h2,h3,h4,h5⟩:=h
 by_cases e1:i=j
 ·subst e1
  rw [hx] at h2;injection h2 with h2;subst h2
  right
  exact ⟨by omega,h4.symm⟩
 ·exact .inl ⟨i,y,by omega,h2,h3,h4,h5⟩
theorem PendS.skip {n:Nat} {L:List Ed} {j t:Nat} {x:Ed} (hx:L[j]? = some x) (ht:x.to_=(t:Nat)) (hno:¬(S.lev n<S.lev t∨S.lev t=tp∨mark t=true)) (b:Nat) (e:C) (h:PendS S tp mark n L j b e):PendS S tp mark n L (j+1) b e:=by
 obtain ⟨i,y,h1,h2,h3,h4,h5⟩:=h
 by_cases e1:i=j
 ·subst e1
  rw [hx] at h2;injection h2 with h2;subst h2
  obtain rfl:t=b:=by omega
  exact absurd h5 hno
 ·exact ⟨i,y,by omega,h2,h3,h4,h5⟩
theorem PendS.over {n:Nat} {L:List Ed} (b:Nat) (e:C):¬PendS S tp mark n L L.length b e:=by
 rintro ⟨i,y,h1,h2,_⟩;have:=(List.getElem?_eq_some_iff.1 h2).1;omega
end
def belowN (lab:Nat→Option C) (c:C):Nat:=cntN (fun j=>match lab j with | some d=>decide (C.lt d c) | none=>false) 257
theorem belowN_le (lab:Nat→Option C) (c:C):belowN lab c≤257:=cntN_le _ _
theorem belowN_lt {lab:Nat→Option C} {c d:C} {a:Nat} (ha:lab a=some d) (hn:a<257) (h:C.lt d c):belowN lab d+1≤belowN lab c:=by
 refine cntN_lt (m:=a) (fun k hk=>?_) hn ?_ ?_
 ·cases hl:lab k with
  | none=>rw [hl] at hk;cases hk
  | some e=>
   rw [hl] at hk
   simp only [decide_eq_true_eq] at hk ⊢
   exact C.lt_of_lt_of_le hk (C.le_of_lt h)
 ·rw [ha];simp only [decide_eq_false_iff_not];exact C.lt_irrefl d
 ·rw [ha];simp only [decide_eq_true_eq];exact h
def ChI (S:LS) (g:G) (fin:Nat→Option C) (out:List Ed) (lab:Nat→Option C) (cT:C) (L:List Nat) (n:Int) (gk:Nat):Prop:=
 ∃(p e d:C) (t:Nat),fin t=some e∧C.le (C.add d (C.add p e)) cT ∧
  ((∃a:Nat,n=a∧g.Corner a∧lab a=some d∧LS.LW (fun x y c=>∃m,S.eg x y=some (c,m)) (a :: L.reverse) p∧(a :: L.reverse).getLast? = some t∧gk=belowN lab d+1∧L.length+gk≤258) ∨
   (n = -1∧∃s P,L.reverse=s :: P∧SrcO g out s d∧LS.LW (fun x y c=>∃m,S.eg x y=some (c,m)) (s :: P) p∧(s :: P).getLast? = some t∧gk=0∧L.length≤258))
theorem eg_pos {g:G} {tp:Nat} {S:LS} (H:LS.Fin g tp S) {a b:Nat} {c:C} {m:Int} (h:S.eg a b=some (c,m)):C.Nn c∧c≠C.zero:=by
 have hs:=H.small _ _ _ _ h
 refine ⟨⟨hs.1,hs.2.2.1⟩,fun h0=>?_⟩
 have hw:=G.GE_walk (H.walk _ _ _ _ h)
 exact (H.corner a b (by rw [h];simp)).2.2 (walk_zero hw h0).symm
section
variable {g:G} {tp:Nat} {S:LS} {mark:Nat→Bool} {fin:Nat→Option C} {out:List Ed} {h:Nat→C} {lab hp:Nat→Option C} {bk:Nat→Int} {k:Nat} {gk:Nat}
theorem ChI.start (G0:SrG g tp S out fin h) (I:SrI g tp S mark fin out h lab hp bk k (fun _ _=>False) (fun _ _=>False) gk) {cT:C} (hT:lab 256=some cT):∃gk',ChI S g fin out lab cT [] (bk 256) gk':=by
 have hn:=G.n_le G0.ok
 rcases I.hu.back 256 cT hT with ⟨_,q⟩ | ⟨a,d,e,q1,q2,q3,q4⟩
 ·have:=q.1.1;omega
 ·rcases q3 with ⟨_,q5,_⟩ | ⟨q5,_,q6⟩
  ·exact absurd rfl q5
  ·have hc:g.Corner a:=(I.cor a (by rw [q2];simp)).resolve_right q5
   refine ⟨belowN lab d+1,C.zero,e,d,a,q6,by rw [C.zero_add];exact q4,.inl ⟨a,q1,hc,q2,.one a,rfl,rfl,?_⟩⟩
   have:=belowN_le lab d;simp;omega
theorem ChI.step (G0 : SrG g tp S out fin h) (I : SrI g tp S mark fin out h lab hp bk k (fun _ _ => False) (fun _ _ => False) gk) {cT : C} {L : List Nat} {a gk' : Nat} (H : ChI S g fin out lab cT L (a : Nat) gk') :
    ∃gk2,gk2<gk'∧ChI S g fin out lab cT (L ++ [a]) (bk a) gk2:=by
 have hn:=G.n_le G0.ok;obtain ⟨p,e,d,t,h1,h2,h3⟩:=H
 rcases h3 with ⟨a',e1,hc,h4,h5,h6,h7,h8⟩ | ⟨e1,_⟩
 ·obtain rfl:a=a':=by omega
  have hr:(L ++ [a]).reverse=a :: L.reverse:=by simp
  rcases I.hu.back a d h4 with ⟨q1,q2⟩ | ⟨b,d',e',q1,q2,q3,q4⟩
  ·refine ⟨0,by omega,p,e,d,t,h1,h2,.inr ⟨q1,a,L.reverse,hr,q2,h5,h6,rfl,?_⟩⟩
   simp;omega
  ·have haT:a≠256:=by have:=hc.1;omega
   rcases q3 with ⟨q5,_,_,m,q6⟩ | ⟨_,q5,_⟩
   ·have hcb:g.Corner b:=(I.cor b (by rw [q2];simp)).resolve_right q5
    obtain ⟨r1,r2⟩:=eg_pos G0.fn q6;have hlt:C.lt d' d:=C.lt_of_lt_of_le (C.lt_add_step r1 r2) q4
    have hbl:=belowN_lt (lab:=lab) q2 (by have:=hcb.1;omega) hlt
    refine ⟨belowN lab d'+1,by omega,C.add e' p,e,d',t,h1,?_,.inl ⟨b,q1,hcb,q2,?_,?_,rfl,?_⟩⟩
    ·refine C.le_trans ?_ h2
     rw [C.add_assoc,←C.add_assoc d'];exact C.add_le_add q4 (C.le_refl _)
    ·rw [hr];exact .cons ⟨m,q6⟩ h5
    ·rw [hr,List.getLast?_cons_cons];exact h6
    ·simp;omega
   ·exact absurd q5 haT
 ·omega
end
def WayIs (g:G) (fin:Nat→Option C) (out:List Ed) (cT:C) (W:List Nat):Prop:=
 ∃(s t:Nat) (d cw e:C),SrcO g out s d∧W.head? = some s∧W.getLast? = some t∧LS.LW g.GE W cw∧fin t=some e∧C.le (C.add d (C.add cw e)) cT
def WpI (S:LS) (g:G) (fin:Nat→Option C) (out:List Ed) (cT:C) (P:List Nat) (i:Nat) (W:List Nat):Prop:=
 ∃(s t x:Nat) (d cw q e:C),SrcO g out s d∧W.head? = some s∧W.getLast? = some x∧LS.LW g.GE W cw∧LS.LW (fun x y c=>∃m,S.eg x y=some (c,m)) (x :: P.drop i) q∧(x :: P.drop i).getLast? = some t∧fin t=some e∧C.le (C.add d (C.add (C.add cw q) e)) cT∧P[i-1]? = some x
theorem WpI.fin {S:LS} {g:G} {fin:Nat→Option C} {out:List Ed} {cT:C} {P:List Nat} {W:List Nat} (h:WpI S g fin out cT P P.length W):WayIs g fin out cT W:=by
 obtain ⟨s,t,x,d,cw,q,e,h1,h2,h3,h4,h5,h6,h7,h8,_⟩:=h;rw [List.drop_length] at h5 h6;simp at h6;subst h6
 cases h5
 rw [C.add_zero] at h8;exact ⟨s,_,d,cw,e,h1,h2,h3,h4,h7,h8⟩
theorem lw_join {E:Nat→Nat→C→Prop} {W M:List Nat} {x:Nat} {c d:C} (h1:LS.LW E W c) (h2:W.getLast? = some x) (h3:LS.LW E (x :: M) d):LS.LW E (W ++ M) (C.add c d):=by
 have hW:W=W.dropLast ++ [x]:=by
  have hne:W≠[]:=by rintro rfl;cases h2
  rw [List.getLast?_eq_some_getLast hne] at h2
  injection h2 with h2
  rw [←h2];exact (List.dropLast_concat_getLast hne).symm
 rw [hW] at h1 ⊢
 have:=LS.LW.append h1 h3
 simpa using this
theorem WpI.step {S : LS} {g : G} {fin : Nat → Option C} {out : List Ed} {cT : C} {P : List Nat} {i : Nat} {W : List Nat} (hi : 0 < i) (h : WpI S g fin out cT P i W) {x y : Nat} (hx : P[i - 1]? = some x) (hy : P[i]? = some y) :
    ∃c m,S.eg x y=some (c,m)∧∀L,LS.Unp S x y L→LS.LW g.GE L c→WpI S g fin out cT P (i+1) (W ++ L.tail):=by
 obtain ⟨s,t,x',d,cw,q,e,h1,h2,h3,h4,h5,h6,h7,h8,h9⟩:=h
 rw [hx] at h9;injection h9 with h9;subst h9
 have hd:P.drop i=y :: P.drop (i+1):=by
  obtain ⟨q1,q2⟩:=List.getElem?_eq_some_iff.1 hy;rw [List.drop_eq_getElem_cons q1,q2]
 rw [hd] at h5 h6
 cases h5 with
 | @cons _ _ _ c q' he hl=>
  obtain ⟨m,hm⟩:=he
  refine ⟨c,m,hm,fun L hU hL=>?_⟩
  obtain ⟨M,rfl⟩:=hU.ends
  refine ⟨s,t,y,d,C.add cw c,q',e,h1,?_,?_,lw_join h4 h3 hL,hl,?_,h7,?_,by simpa using hy⟩
  ·cases W with
   | nil=>cases h2
   | cons a W=>simpa using h2
  ·simp
  ·rw [List.getLast?_cons_cons] at h6;exact h6
  ·rw [C.add_assoc cw];exact h8
theorem WpI.start {S:LS} {g:G} {fin:Nat→Option C} {out:List Ed} {lab:Nat→Option C} {cT:C} {L:List Nat} {n:Int} {gk:Nat} (hn:n<0) (h:ChI S g fin out lab cT L n gk):∃s P,L.reverse=s :: P∧WpI S g fin out cT (s :: P) 1 [s]:=by
 obtain ⟨p,e,d,t,h1,h2,h3⟩:=h
 rcases h3 with ⟨a',e1,_⟩ | ⟨_,s,P,q1,q2,q3,q4,_⟩
 ·omega
 ·exact ⟨s,P,q1,s,t,s,d,C.zero,p,e,q2,rfl,rfl,.one s,by simpa using q3,by simpa using q4,h1,by rw [C.zero_add];exact h2,rfl⟩
end Go.Proofs.YtokhnobcincfjaaGreatDoor
