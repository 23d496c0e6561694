/- Lemmas of this claim: ShSort, Graph5. -/
import Derived.Shelf.Sort.Plain
import Derived.Test.YtokhnobcincfjaaGreatDoorProg
import Derived.Sort.OwnSortedInts
import Derived.Test.YtokhnobcincfjaaGreatDoorKNFr16
set_option linter.unusedVariables false
set_option linter.unusedSimpArgs false
set_option maxHeartbeats 1600000
set_option maxRecDepth 100000
namespace Go.Proofs
open Go.Shelf
def Tryz.lays189_ren:Go.Shelf.Ren:=⟨fun | 189=>97 | 125=>156 | 257=>155 | 128=>211 | 129=>212 | 294=>202 | 295=>203 | 296=>204 | 297=>205 | 298=>206 | 299=>207 | 216=>208 | 300=>209 | 301=>210 | 328=>240 | 329=>241 | 330=>242 | 331=>243 | 332=>244 | 215=>245 | 343=>264 | n=>n,fun | 28=>22 | 3=>3 | 46=>260 | 0=>0 | 51=>300 | 53=>175 | 4=>4 | 183=>294 | 182=>293 | 131=>150 | 5=>5 | 9=>9 | 218=>320 | 222=>324 | 228=>341 | 229=>71 | n=>n,fun | n=>n⟩
theorem Tryz.lays189:Go.Proofs.Lays.n189 Tryz.prog Tryz.lays189_ren:={
 mixed:=by kernel_rfl
 f125:=Tryz.func156.trans (congrArg some (by kernel_rfl))
 f128:=Tryz.func211.trans (congrArg some (by kernel_rfl))
 f129:=Tryz.func212.trans (congrArg some (by kernel_rfl))
 f189:=Tryz.func97.trans (congrArg some (by kernel_rfl))
 f215:=Tryz.func245.trans (congrArg some (by kernel_rfl))
 f216:=Tryz.func208.trans (congrArg some (by kernel_rfl))
 f257:=Tryz.func155.trans (congrArg some (by kernel_rfl))
 f294:=Tryz.func202.trans (congrArg some (by kernel_rfl))
 f295:=Tryz.func203.trans (congrArg some (by kernel_rfl))
 f296:=Tryz.func204.trans (congrArg some (by kernel_rfl))
 f297:=Tryz.func205.trans (congrArg some (by kernel_rfl))
 f298:=Tryz.func206.trans (congrArg some (by kernel_rfl))
 f299:=Tryz.func207.trans (congrArg some (by kernel_rfl))
 f300:=Tryz.func209.trans (congrArg some (by kernel_rfl))
 f301:=Tryz.func210.trans (congrArg some (by kernel_rfl))
 f328:=Tryz.func240.trans (congrArg some (by kernel_rfl))
 f329:=Tryz.func241.trans (congrArg some (by kernel_rfl))
 f330:=Tryz.func242.trans (congrArg some (by kernel_rfl))
 f331:=Tryz.func243.trans (congrArg some (by kernel_rfl))
 f332:=Tryz.func244.trans (congrArg some (by kernel_rfl))
 f343:=Tryz.func264.trans (congrArg some (by kernel_rfl))
 t0:=Tryz.underlying0
 a0:=Tryz.isAgg0
 z0:=Tryz.sizeOf0
 v0:=Tryz.zeroValue0
 t3:=Tryz.underlying3
 a3:=Tryz.isAgg3
 z3:=Tryz.sizeOf3
 v3:=Tryz.zeroValue3
 t4:=Tryz.underlying4
 a4:=Tryz.isAgg4
 z4:=Tryz.sizeOf4
 v4:=Tryz.zeroValue4
 t5:=Tryz.underlying5
 a5:=Tryz.isAgg5
 z5:=Tryz.sizeOf5
 v5:=Tryz.zeroValue5
 t9:=Tryz.underlying9
 a9:=Tryz.isAgg9
 z9:=Tryz.sizeOf9
 v9:=Tryz.zeroValue9
 t28:=Tryz.underlying22
 a28:=Tryz.isAgg22
 z28:=Tryz.sizeOf22
 v28:=Tryz.zeroValue22
 t46:=Tryz.underlying260
 a46:=Tryz.isAgg260
 z46:=Tryz.sizeOf260
 v46:=Tryz.zeroValue260
 t51:=Tryz.underlying300
 a51:=Tryz.isAgg300
 z51:=Tryz.sizeOf300
 v51:=Tryz.zeroValue300
 t53:=Tryz.underlying175
 a53:=Tryz.isAgg175
 z53:=Tryz.sizeOf175
 v53:=Tryz.zeroValue175
 t131:=Tryz.underlying150
 a131:=Tryz.isAgg150
 z131:=Tryz.sizeOf150
 v131:=Tryz.zeroValue150
 t182:=Tryz.underlying293
 a182:=Tryz.isAgg293
 z182:=Tryz.sizeOf293
 v182:=Tryz.zeroValue293
 t183:=Tryz.underlying294
 a183:=Tryz.isAgg294
 z183:=Tryz.sizeOf294
 v183:=Tryz.zeroValue294
 t218:=Tryz.underlying320
 a218:=Tryz.isAgg320
 z218:=Tryz.sizeOf320
 v218:=Tryz.zeroValue320
 t222:=Tryz.underlying324
 a222:=Tryz.isAgg324
 z222:=Tryz.sizeOf324
 v222:=Tryz.zeroValue324
 t228:=Tryz.underlying341
 a228:=Tryz.isAgg341
 z228:=Tryz.sizeOf341
 v228:=Tryz.zeroValue341
 t229:=Tryz.underlying71
 a229:=Tryz.isAgg71
 z229:=Tryz.sizeOf71
 v229:=Tryz.zeroValue71 }
open Go.Sort Go.RowKit in
theorem Tryz.slices_Sort_int (blk off cap : Nat) (zs : List Int) (w : World) (hH : Holds (Value.int .i64) w blk off zs.toArray) (hblk : blk < w.heap.size) (hsz : zs.length < 4611686018427387904) :
    Calls Tryz.prog 97 #[.slice (some ⟨blk,off,none⟩) zs.length cap] w fun e w'=>
     e=.returned (.tuple #[])∧∃n os,w'=grow (putRow (Value.int .i64) (Sort.ahead w n) blk off (zs.mergeSort fun x y=>decide (x≤y)).toArray) os:=Any.slices_Sort_int Tryz.lays189 blk off cap zs w hH hblk hsz
end Go.Proofs
namespace Go.Proofs.YtokhnobcincfjaaGreatDoor
open Go.RowKit Go.Sort FR
theorem insNil (p : Option Addr) (cap : Nat) (w : World) :
    Calls Tryz.prog 202 #[.slice p 0 cap,.int .i64 0,.int .i64 0] w fun e w'=>e=.returned (.tuple #[])∧w'=w:=by
 go_enter Tryz.func202,Tryz.ntmps202;go_wp2;refine wp_loop_rounds 1 ?_;rw [rounds_succ];go_wp2;go_end0;exact ⟨rfl,rfl⟩
theorem pdqNil (p : Option Addr) (cap : Nat) (w : World) :
    Calls Tryz.prog 155 #[.slice p 0 cap,.int .i64 0,.int .i64 0,.int .i64 0] w fun e w'=>e=.returned (.tuple #[])∧w'=w:=by
 go_enter Tryz.func155,Tryz.ntmps155;go_wp2;refine wp_loop_rounds 1 ?_;rw [rounds_succ]
 go_wp2_with (first | (go_at_call 202;refine (insNil p cap _).mono ?_;rintro e w' ⟨rfl,rfl⟩))
 refine bodyPost_ret (results_none rfl _ _ _) rfl ?_;exact ⟨rfl,rfl⟩
theorem len64Nil (w:World):Calls Tryz.prog 212 #[.int .u64 0] w fun e w'=>e=.returned (.int .i64 0)∧w'=w:=by
 have e0:wrap64 (wrap64 (Lib.len8 0))=0:=by decide +kernel
 go_enter Tryz.func212,Tryz.ntmps212;go_wp2;go_ret
 exact ⟨by simp [e0],rfl⟩
theorem lenNil (w:World):Calls Tryz.prog 156 #[.int .u64 0] w fun e w'=>e=.returned (.int .i64 0)∧w'=w:=by
 go_enter Tryz.func156,Tryz.ntmps156
 go_wp2_with (first | (go_at_call 212;refine (len64Nil _).mono ?_;rintro e w' ⟨rfl,rfl⟩))
 go_ret;exact ⟨rfl,rfl⟩
theorem sortNil (p : Option Addr) (cap : Nat) (w : World) :
    Calls Tryz.prog 97 #[.slice p 0 cap] w fun e w'=>e=.returned (.tuple #[])∧w'=w:=by
 go_enter Tryz.func97,Tryz.ntmps97
 go_wp2_with (first
  | (go_at_call 156;refine (lenNil _).mono ?_;rintro e w' ⟨rfl,rfl⟩)
  | (go_at_call 155;refine (pdqNil p cap _).mono ?_;rintro e w' ⟨rfl,rfl⟩))
 go_end0;exact ⟨rfl,rfl⟩
theorem intsSort (w : World) (B : Nat) (v : Value) (zs : List Int) (hown : OwnI w B v zs) (hl : zs.length ≤ 1000000000) (hB : B ≤ w.heap.size) :
    Calls Tryz.prog 97 #[v] w fun e w'=>e=.returned (.tuple #[])∧OwnI w' B v (zs.mergeSort fun x y=>decide (x≤y))∧Below B w w':=by
 rcases hown.2 with ⟨rfl,hn⟩ | ⟨g,cap,cur,rfl,hg,hh,hc,hm,hs,ht⟩
 ·have:zs=[]:=List.eq_nil_of_length_eq_zero hn
  subst this;refine (sortNil none 0 w).mono ?_;rintro e w' ⟨h1,h2⟩;subst h2
  exact ⟨h1,by rw [List.mergeSort_nil];exact OwnI.nil _ _,Below.refl _ _⟩
 ·have ht1:cur.toList.take zs.length=zs.map (Value.int .i64):=by rw [Nat.mul_one] at ht;exact ht
  refine (Tryz.slices_Sort_int g 0 cap zs w (holds_of_blockI hh ht1) (Array.getElem?_eq_some_iff.1 hh).1 (by omega)).mono ?_
  rintro e w' ⟨h1,n,os,h2⟩
  have hlen:(zs.mergeSort fun x y=>decide (x≤y)).length=zs.length:=List.length_mergeSort _
  have h3:=ownsRow_sortedI (w:=w) (n:=n) (os:=os) (ss:=zs) (ts:=zs.mergeSort fun x y=>decide (x≤y)) hlen hg hh hc hm hs
  have h4:=grownBy_sortedI (w:=w) (g:=g) (n:=n) (os:=os) (zs.mergeSort fun x y=>decide (x≤y)).toArray
  rw [←h2] at h3 h4
  refine ⟨h1,?_,⟨h4.os,h4.tape,h4.output,h4.size,fun k hk=>?_⟩⟩
  ·unfold OwnI;rw [hlen];exact h3
  ·by_cases hkw:k<w.heap.size
   ·exact h4.block k hkw (by intro e;injection e with e;omega)
   ·omega
theorem rising_ext:∀ {L M:List Int},L.Pairwise (· < ·)→M.Pairwise (· < ·)→(∀z,z∈L↔z∈M)→L=M
 | [],[],_,_,_=>rfl
 | [],y :: M,_,_,h=>by have:=(h y).2 (by simp);simp at this
 | x :: L,[],_,_,h=>by have:=(h x).1 (by simp);simp at this
 | x :: L,y :: M,hL,hM,h=>by
  rw [List.pairwise_cons] at hL hM
  have hxy:x=y:=by
   have a:=(h x).1 (by simp)
   have b:=(h y).2 (by simp)
   rcases List.mem_cons.1 a with a | a
   ·exact a
   ·rcases List.mem_cons.1 b with b | b
    ·exact b.symm
    ·have:=hM.1 x a;have:=hL.1 y b;omega
  subst hxy
  rw [rising_ext hL.2 hM.2 (fun z=>?_)]
  constructor
  ·intro hz
   have:=(h z).1 (List.mem_cons_of_mem _ hz)
   rcases List.mem_cons.1 this with e | e
   ·subst e;have:=hL.1 z hz;omega
   ·exact e
  ·intro hz
   have:=(h z).2 (List.mem_cons_of_mem _ hz)
   rcases List.mem_cons.1 this with e | e
   ·subst e;have:=hM.1 z hz;omega
   ·exact e
theorem sort_lt {L:List Int} (hL:L.Nodup):(L.mergeSort fun x y=>decide (x≤y)).Pairwise (· < ·):=by
 have h1:=List.pairwise_mergeSort (le:=fun x y:Int=>decide (x≤y)) (fun a b c h1 h2=>by simp at *;omega) (fun a b=>by simp;omega) L
 have h2:(L.mergeSort fun x y=>decide (x≤y)).Nodup:=(List.mergeSort_perm L _).nodup_iff.2 hL
 rw [List.Nodup] at h2
 exact (h1.and h2).imp (fun h=>by simp at h;omega)
theorem nodup_len {L:List Int} {n:Nat} (h:L.Nodup) (hb:∀z∈L,0≤z∧z<n):L.length≤n:=by
 have hs:=sort_lt h
 have hl:(L.mergeSort fun x y=>decide (x≤y)).length=L.length:=List.length_mergeSort _
 have hm:∀z∈(L.mergeSort fun x y=>decide (x≤y)),0≤z∧z<n:=fun z hz=>hb z (List.mem_mergeSort.1 hz)
 generalize (L.mergeSort fun x y=>decide (x≤y))=M at hs hl hm
 have key:∀(j:Nat) (z:Int),M[j]? = some z→(j:Int)≤z:=by
  intro j
  induction j with
  | zero=>intro z hz;exact (hm z (List.mem_of_getElem? hz)).1
  | succ j ih=>
   intro z hz;have hj:=(List.getElem?_eq_some_iff.1 hz).1
   have a:=ih (M[j]'(by omega)) (List.getElem?_eq_getElem _)
   have b:=(List.pairwise_iff_getElem.1 hs) j (j+1) (by omega) hj (by omega)
   have c:M[j+1]=z:=(List.getElem?_eq_some_iff.1 hz).2;omega
 cases hn:M.length with
 | zero=>omega
 | succ k=>
  have hk:k<M.length:=by omega
  have a:=key k (M[k]) (List.getElem?_eq_getElem hk);have b:=(hm (M[k]) (List.getElem_mem hk)).2;omega
theorem sort_rising {L M:List Int} (hL:L.Nodup) (hM:M.Pairwise (· < ·)) (h:∀z,z∈L↔z∈M):(L.mergeSort fun x y=>decide (x≤y))=M:=by
 refine rising_ext ?_ hM (fun z=>by rw [List.mem_mergeSort];exact h z)
 have h1:=List.pairwise_mergeSort (le:=fun x y:Int=>decide (x≤y)) (fun a b c h1 h2=>by simp at *;omega) (fun a b=>by simp;omega) L
 have h2:(L.mergeSort fun x y=>decide (x≤y)).Nodup:=(List.mergeSort_perm L _).nodup_iff.2 hL
 rw [List.Nodup] at h2
 exact (h1.and h2).imp (fun h=>by simp at h;omega)
theorem iK_inj:∀a b:Int,iK a=iK b→a=b:=fun a b h=>by injection h
def NodI (W:World) (mb r:Nat) (V:Int→Option Value) (lv:Value) (wr:World):Prop:=
 ∃left cnt zs,RangeAt iK wr mb r V left cnt∧OwnI wr (r+1) lv zs∧zs.Nodup∧(∀z,z∈zs↔V z≠none∧¬left z)∧Below W.heap.size W wr
theorem graphNodesC (w : World) (b p mb : Nat) (S : List Nat) (g : G) (v : Int) (E : Int → Option (List Ed)) (h : GraphOf w b p mb S g v E) (hE : ∀ z : Int, E z ≠ none ↔ ∃ c : Nat, z = c ∧ g.Corner c) :
    Calls Tryz.prog 53 #[.pointer (some ⟨b,0,none⟩)] w (RetIntsC w (cornersI g)):=by
 obtain ⟨g1,g2,⟨V,N,q1,q2,q3,q4,q5,q6,q7⟩,g4⟩:=h
 have kb1:w.cell? ⟨b,1,none⟩=some (.map (some mb)):=by simp [World.cell?,g1]
 have hV:∀z:Int,V z≠none↔∃c:Nat,z=c∧g.Corner c:=fun z=>by rw [←hE z];exact (not_congr (q2 z)).symm
 have hmlt:=q1.lt;have hNn:=G.n_le g2.1;clear g1 g2 q2 q3 q4 q5 q6 q7 g4 hE;have HV:=Lib.hid hV;clear hV;go_enter Tryz.func53,Tryz.ntmps53;go_wp2_with (at_range;refine wpList_rangeM rfl _ rfl iK_inj Tryz.underlying137 q1 rfl ?_;intro w1 hrg hb1 hs1);go_frame;obtain ⟨r,hr⟩:∃z,w.heap.size=z:=⟨_,rfl⟩
 rw [hr] at hrg ⊢
 have hstart:NodI w mb r V (.slice none 0 0) w1:=⟨_,N,[],hrg,OwnI.nil _ _,by simp,fun z=>by simp,hb1⟩
 have hbound:∀zs:List Int,zs.Nodup→(∀z∈zs,V z≠none)→zs.length≤256:=fun zs h1 h2=>by
  refine nodup_len h1 (fun z hz=>?_)
  obtain ⟨c,rfl,hc⟩:=(HV.out z).1 (h2 z hz);have:=hc.1;omega
 have Hbound:=Lib.hid hbound
 have hrw:w.heap.size≤r:=by omega
 have hmr:mb<r:=by omega
 clear hrg hb1 hs1 q1 kb1 hbound hr
 go_loopw [3] (fun lv wr=>NodI w mb r V lv wr) (fun _ wr=>wr.rangeLeft mb r)
 case atStart=>exact hstart
 case round=>
  obtain ⟨left,cnt,zs,hrg,hO,hnd,hmem,hB⟩:=hrel;clear hstart;have hleft:=Lib.hid hrg.left_eq;have Hnd:=Lib.hid hnd;have Hmem:=Lib.hid hmem
  have hl256:=Hbound.out zs hnd (fun z hz=>((hmem z).1 hz).1)
  clear hnd hmem;go_wp2_with (at_next;refine wpList_nextM rfl _ rfl iK_inj hrg rfl ?_ ?_)
  ·intro h0 hl
   have hall:∀z,z∈zs↔z∈cornersI g:=fun z=>by
    rw [Hmem.out z,and_iff_left (hl z),HV.out z]
    constructor
    ·rintro ⟨c,rfl,hc⟩
     obtain ⟨i,hi,rfl⟩:=cf_has hc;rw [←(cf_at hi).1,List.getD_eq_getElem?_getD,List.getElem?_eq_getElem hi];exact List.getElem_mem hi
    ·intro hz
     obtain ⟨i,hi⟩:=List.getElem?_of_mem hz;have hil:=(List.getElem?_eq_some_iff.1 hi).1;have e:=(cf_at hil).1;rw [List.getD_eq_getElem?_getD,hi] at e;exact ⟨_,e,(cf_at hil).2⟩
   have hsort:=sort_rising Hnd.out (corners_sorted g) hall;have Hsort:=Lib.hid hsort
   have cS:=Lib.hid (intsSort wr (r+1) _ zs hO (by omega) (by have:=hrg.lt.2;omega))
   clear hl hall hsort hrg;go_wp2_with fail
   (with_reducible refine cS.out.mono ?_)
   rintro e w2 ⟨rfl,hO2,hb2⟩;rw [Hsort.out] at hO2
   have hBE:Below w.heap.size w w2:=hB.trans (hb2.mono (by omega))
   have hfin:=Lib.hid (ret_intsC (OwnI.mono hO2 (by omega)) hBE)
   clear hO2 hb2 hBE;go_wp2;go_ret;exact hfin.out
  ·intro k u w4 cnt4 hk hlk hrg4 hlt4 hK4 hs4 hen
   have hO4:=hO.keptAt (S:=[r]) hK4 (by simp)
   have hB4:Below w.heap.size w w4:=Kept.below hB hK4 hB.size (by simp;omega)
   have hrl:=hrg4.lt
   have hkz:k∉zs:=fun h=>((Hmem.out k).1 h).2 hlk
   have hnd2:(zs ++ [k]).Nodup:=by
    rw [List.nodup_append]
    exact ⟨Hnd.out,by simp,fun a ha b hb=>by simp at hb;subst hb;intro e;subst e;exact hkz ha⟩
   have hmem2:∀z,z∈zs ++ [k]↔V z≠none∧¬(left z∧¬z=k):=fun z=>by
    rw [List.mem_append,Hmem.out z,List.mem_singleton]
    constructor
    ·rintro (⟨a,c⟩ | rfl)
     ·exact ⟨a,fun h=>c h.1⟩
     ·exact ⟨by rw [hk];simp,fun h=>h.2 rfl⟩
    ·rintro ⟨a,c⟩
     by_cases e:z=k
     ·exact .inr e
     ·exact .inl ⟨a,fun h=>c ⟨h,e⟩⟩
   have Hnd2:=Lib.hid hnd2;have Hmem2:=Lib.hid hmem2;have Hrg4:=Lib.hid hrg4
   have hs4r:r+1≤w4.heap.size:=by omega
   rw [show iK k=.int .i64 k from rfl] at hen ⊢
   clear hrg hO hB hkz hnd2 hmem2 hrg4 hlk hk hs4
   go_wp2_with (at_builtin;(refine wpList_append_int _ rfl _ _ rfl (r+1) _ _ _ rfl (hO4.alloc _) ⟨w4.heap.size,0,none⟩ rfl (cell1_new _ _ _) (by omega) (by simp;omega) ?_);intro v' w9 hown9 hgrow)
   have hB9:=below_grown (hB4.alloc (by omega) _) (by simp;omega) ((OwnI.mono hO4 (show w.heap.size≤r+1 by omega)).alloc _) hgrow
   have hrow:∀q,_=some q→r+1≤q:=fun q hq=>(World.ownsRow.lt hO4 q hq).1
   have hrg9:=(Hrg4.out.below (bel_alloc (Below.refl _ _))).kept (w':=w9) (S:=(Value.ownBlock _).toList) ⟨hgrow.os,hgrow.tape,hgrow.output,hgrow.size,fun q hq hn=>hgrow.block q hq (fun e=>hn (by rw [←e];simp))⟩
    (by intro hh;rw [Option.mem_toList] at hh;have:=hrow _ hh;omega) (by intro hh;rw [Option.mem_toList] at hh;have:=hrow _ hh;omega)
   have hfin:NodI w mb r V v' w9:=⟨_,cnt4,_,hrg9,hown9,Hnd2.out,Hmem2.out,hB9⟩;have hle:=hrg9.left_eq;have hle:=Lib.hid hle;have hfin:=Lib.hid hfin;clear hown9 hgrow hO4 hB9 hrg9 hrow hen;go_wp2;go_roundw
   case rel=>first | exact hfin.out | ((repeat apply Exists.intro);exact ⟨hfin.out,rfl⟩)
   case measure=>rw [hleft.out,hle.out];exact hlt4
end Go.Proofs.YtokhnobcincfjaaGreatDoor
