/- Lemmas of this claim: Heap8, MapRange. -/
import Derived.Test.YtokhnobcincfjaaGreatDoorKNFr8
import Derived.Maps.RangeWalk
set_option linter.unusedVariables false
set_option linter.unusedSimpArgs false
set_option maxHeartbeats 3200000
set_option maxRecDepth 100000
namespace Go.Proofs.YtokhnobcincfjaaGreatDoor
open Go.RowKit Go.Sort FR
def PopD (w:World) (S:List Nat) (b n:Nat) (hp:Int→Option C) (e:Ending) (w':World):Prop:=
 ∃id ds dd,hp id=some ⟨ds,dd⟩∧(∀id' d',hp id'=some d'→It.le ⟨⟨ds,dd⟩,id⟩ ⟨d',id'⟩)∧e=.returned (.tuple #[.int .i64 id,.agg #[.int .i64 ds,.int .i64 dd],.bool true]) ∧
  HeapOf w' S b n (hset hp id none)∧Kept S w w'
theorem hset_none_cc {hp:Int→Option C} {i:Int} (h:∀z d,hp z=some d→inCC d):∀z d,hset hp i none z=some d→inCC d:=by
 intro z d hz;unfold hset at hz
 by_cases e:z=i
 ·rw [if_pos e] at hz;cases hz
 ·rw [if_neg e] at hz;exact h z d hz
theorem ItemsIn.take {w:World} {b cap n:Nat} {c:Nat→It} (h:ItemsIn w b cap n c) (k:Nat) (hk:k≤n):ItemsIn w b cap k c:=by
 obtain ⟨h1,h2,cur,h3,h4,h5⟩:=h
 exact ⟨by omega,h2,cur,h3,h4,fun j hj=>h5 j (by omega)⟩
theorem two_set {w : World} {b : Nat} {x y u v : Value} (h1 : w.cell? ⟨b, 0, none⟩ = some u) (h2 : w.cell? ⟨b, 1, none⟩ = some v) :
    ((w.setCell ⟨b,0,none⟩ x).setCell ⟨b,1,none⟩ y).drew.cell? ⟨b,0,none⟩=some x∧((w.setCell ⟨b,0,none⟩ x).setCell ⟨b,1,none⟩ y).drew.cell? ⟨b,1,none⟩=some y:=by
 have e1:((w.setCell ⟨b,0,none⟩ x).setCell ⟨b,1,none⟩ y).cell? ⟨b,0,none⟩=some x:=
  (World.cell?_setCell_other (w:=w.setCell ⟨b,0,none⟩ x) (a:=⟨b,1,none⟩) (b:=⟨b,0,none⟩) (v:=y) (by simp)).trans (World.cell?_setCell_same (w:=w) (a:=⟨b,0,none⟩) (v:=x) h1)
 have e2:((w.setCell ⟨b,0,none⟩ x).setCell ⟨b,1,none⟩ y).cell? ⟨b,1,none⟩=some y:=
  World.cell?_setCell_same (w:=w.setCell ⟨b,0,none⟩ x) (a:=⟨b,1,none⟩) (v:=y) ((World.cell?_setCell_other (w:=w) (a:=⟨b,0,none⟩) (b:=⟨b,1,none⟩) (v:=x) (by simp)).trans h2)
 exact ⟨e1,e2⟩
theorem pop_end {w w7 w8 : World} {S : List Nat} {b k : Nat} {hp : Int → Option C} {xs xd xi : Int} (hx : hp xi = some ⟨xs, xd⟩) (hmin : ∀ id' d', hp id' = some d' → It.le ⟨⟨xs, xd⟩, xi⟩ ⟨d', id'⟩) (hO : HeapOf w7 S b k (hset hp xi none)) (hK : Kept S w w7)
    (h8:Kept [w.heap.size] w7 w8) (hS:∀j∈S,j<w.heap.size):PopD w S b k hp (.returned (.tuple #[.int .i64 xi,.agg #[.int .i64 xs,.int .i64 xd],.bool true])) w8:=by
 refine ⟨xi,xs,xd,hx,hmin,rfl,hO.kept h8 ?_,?_⟩
 ·intro j hj e;simp at e;have:=hS j hj;omega
 ·refine ⟨h8.os.trans hK.os,h8.tape.trans hK.tape,h8.output.trans hK.output,Nat.le_trans hK.size h8.size,fun j hj hn=>?_⟩
  exact (h8.block j (Nat.lt_of_lt_of_le hj hK.size) (by simp;omega)).trans (hK.block j hj hn)
theorem pop_min {n:Nat} {c:Nat→It} {hp:Int→Option C} (hL:HeapL n c) (hH:Holds n c hp):∀id' d',hp id'=some d'→It.le (c 0) ⟨d',id'⟩:=by
 intro id d h;obtain ⟨k,hk,e⟩:=(hH id d).1 h;rw [←e];exact heap_min hL k hk
theorem heapPop_none (w : World) (S : List Nat) (b : Nat) (hp : Int → Option C) (h : HeapOf w S b 0 hp) :
    Calls Tryz.prog 149 #[.pointer (some ⟨b,0,none⟩)] w fun e w'=>e=.returned (.tuple #[.int .i64 0,.agg #[.int .i64 0,.int .i64 0],.bool false])∧Below w.heap.size w w':=by
 obtain ⟨mb,m,N,c,sl,hb,hM,hne,hR,hP,hH,hD,hL,hC⟩:=h;have lb:=(Array.getElem?_eq_some_iff.1 hb).1
 have k0:w.cell? ⟨b,0,none⟩=some sl:=by simp [World.cell?,hb]
 obtain ⟨A,cap,rfl⟩:∃A cap,sl=.slice A 0 cap:=by
  rcases hR with ⟨h1,_⟩ | ⟨rb,cap,h1,_⟩
  ·exact ⟨_,_,h1⟩
  ·exact ⟨_,_,h1⟩
 clear hb hM hR hP hH hD hL hC;go_enter Tryz.func149,Tryz.ntmps149;go_wp2
 refine bodyPost_ret (v:=.tuple #[.int .i64 0,.agg #[.int .i64 0,.int .i64 0],.bool false]) (by simp [results,Tryz.results149,go_sem]) rfl ?_
 exact ⟨rfl,by (repeat' (first | exact Below.refl _ _ | assumption | apply bel_drewN | apply bel_drew | apply bel_alloc | (refine bel_trans ?_ (by assumption))))⟩
theorem heapPop_some (w : World) (S : List Nat) (b k : Nat) (hp : Int → Option C) (h : HeapOf w S b (k + 1) hp) (hn : k ≤ 1000000) :
    Calls Tryz.prog 149 #[.pointer (some ⟨b,0,none⟩)] w (PopD w S b k hp):=by
 have hSl:=Lib.hid h.lt;obtain ⟨mb,m,N,c,sl,hb,hM,hne,hR,hP,hH,hD,hL,hC⟩:=h;have lb:=(Array.getElem?_eq_some_iff.1 hb).1;have lm:=hM.lt;obtain ⟨ag,am,aS,ab,amS⟩:=hR.own hne
 rcases hR with ⟨_,hn0,_⟩ | ⟨rb,cap,rfl,hI,hbr,hrm,hS⟩
 ·omega
 have lr:=hI.lt;have hcap:=hI.1
 have hrS:rb∈S:=by rw [hS];simp
 obtain ⟨⟨⟨xs,xd⟩,xi⟩,hx⟩:∃x,c 0=x:=⟨_,rfl⟩;obtain ⟨⟨⟨ys,yd⟩,yi⟩,hy⟩:∃y,c k=y:=⟨_,rfl⟩;have hH2:=Holds.pop hH hD;have hH0:=@Holds.pop0 c hp;have hD2:=Dst.pop hD;have hP2:=hP.pop hD (.int .i64 (0:Nat));have hP0:=@PosMap.pop0 c m;have hmin:=pop_min hL hH
 have hx1:hp xi=some ⟨xs,xd⟩:=(hH _ _).2 ⟨0,by omega,hx⟩
 have hL2:=heap_dn (n:=k) (y:=c k) (fun j hj j0=>hL j (by omega) j0)
 have hC2:=hset_none_cc (i:=xi) hC
 have hCc:inCC (⟨ys,yd⟩:C):=hC _ _ ((hH yi ⟨ys,yd⟩).2 ⟨k,by omega,hy⟩)
 obtain ⟨a1,a2,a3⟩:=hI.cells (k:=0) (by omega)
 obtain ⟨b1,b2,b3⟩:=hI.cells (k:=k) (by omega)
 rw [hx] at a1 a2 a3 hH2 hH0 hP2 hP0 hmin;rw [hy] at b1 b2 b3 hH2 hD2 hP2 hL2;simp only [Nat.zero_mul,Nat.zero_add] at a1 a2 a3 b1 b2 b3 hH2 hH0 hP2 hP0;have hH2:=Lib.hid hH2;have hH0:=Lib.hid hH0;have hD2:=Lib.hid hD2;have hP2:=Lib.hid hP2;have hP0:=Lib.hid hP0;have hmin:=Lib.hid hmin;have hx1:=Lib.hid hx1;have hL2:=Lib.hid hL2;have hC2:=Lib.hid hC2;have hHH:=Lib.hid hH;have hPP:=Lib.hid hP;have hDD:=Lib.hid hD
 have Hb:=Lib.hid hb;have HM:=Lib.hid hM;have HI:=Lib.hid hI;have HS:=Lib.hid hS;have Hx:=Lib.hid hx
 have k0:w.cell? ⟨b,0,none⟩=some (.slice (some ⟨rb,0,none⟩) (k+1) cap):=by simp [World.cell?,hb]
 have k1:w.cell? ⟨b,1,none⟩=some (.map (some mb)):=by simp [World.cell?,hb]
 have kf:w.frozen? ⟨b,0,none⟩=false:=by simp [World.frozen?,hb]
 clear hb hM hP hH hD hL hC hI hS hx hy aS;go_enter Tryz.func149,Tryz.ntmps149
 go_upto_region 6 with (fail)
 refine wp_name ?_;intro W hW
 have HW:Below w.heap.size w W:=by rw [hW];(repeat' (first | exact Below.refl _ _ | assumption | apply bel_drewN | apply bel_drew | apply bel_alloc | (refine bel_trans ?_ (by assumption))))
 have hW0:w.heap.size+2<W.heap.size:=by rw [hW];simp
 have z1:W.cell? ⟨w.heap.size+1,0,none⟩=some (.int .i64 xs):=by rw [hW];go_simp
 have z2:W.cell? ⟨w.heap.size+1,1,none⟩=some (.int .i64 xd):=by rw [hW];go_simp
 have z3:W.cell? ⟨w.heap.size+1,2,none⟩=some (.int .i64 xi):=by rw [hW];go_simp
 have y1:W.cell? ⟨w.heap.size+1+1,0,none⟩=some (.int .i64 ys):=by rw [hW];go_simp
 have y2:W.cell? ⟨w.heap.size+1+1,1,none⟩=some (.int .i64 yd):=by rw [hW];go_simp
 have y3:W.cell? ⟨w.heap.size+1+1,2,none⟩=some (.int .i64 yi):=by rw [hW];go_simp
 have r1:W.cell? ⟨w.heap.size,0,none⟩=some (.int .i64 0):=by rw [hW];go_simp
 have r2:W.cell? ⟨w.heap.size,1,none⟩=some (.int .i64 0):=by rw [hW];go_simp
 have f1:W.frozen? ⟨w.heap.size,0,none⟩=false:=by rw [hW];go_simp
 have f2:W.frozen? ⟨w.heap.size,1,none⟩=false:=by rw [hW];go_simp
 clear hW a1 a2 a3 b1 b2 b3;have k0:=(HW.cell (p:=⟨b,0,none⟩) lb).trans k0;have kf:=(HW.frozen (p:=⟨b,0,none⟩) lb).trans kf
 go_upto_region 7 with (fail)
 have hb1:=(HW.block b lb).trans Hb.out;have hI1:=HI.out.below HW;have hM1:=HM.out.below HW
 have hK3:Kept [b] W (W.setCell ⟨b,0,none⟩ (.slice (some ⟨rb,0,none⟩) k cap)):=(Kept.refl _ _).setCell (.inl (by simp))
 have hb3:(W.setCell ⟨b,0,none⟩ (.slice (some ⟨rb,0,none⟩) k cap)).heap[b]? = some (.cells #[.slice (some ⟨rb,0,none⟩) k cap,.map (some mb)] 286 (0,0)):=by rw [set_heapH _ _ _ _ _ _ hb1];rfl
 have hI3:=(hI1.kept hK3 (by simpa using Ne.symm hbr)).take k (by omega)
 have hM3:=hM1.kept hK3 (by simpa using Ne.symm hne)
 have e3:∀j u,W.cell? ⟨w.heap.size+1,j,none⟩=some u→(W.setCell ⟨b,0,none⟩ (.slice (some ⟨rb,0,none⟩) k cap)).cell? ⟨w.heap.size+1,j,none⟩=some u:=fun j u hu=>(World.cell?_of_block (hK3.block (w.heap.size+1) (by omega) (by simp;omega))).trans hu
 have v3:=e3 _ _ z3;have hK:Kept S w (W.setCell ⟨b,0,none⟩ (.slice (some ⟨rb,0,none⟩) k cap)):=(Kept.of_below HW).setCell (.inl ab);clear e3 hb1 hI1 hM1 k0 kf k1
 generalize (W.setCell ⟨b,0,none⟩ (.slice (some ⟨rb,0,none⟩) k cap))=w3 at *
 have b0:w3.cell? ⟨b,0,none⟩=some (.slice (some ⟨rb,0,none⟩) k cap):=by simp [World.cell?,hb3]
 have b1:w3.cell? ⟨b,1,none⟩=some (.map (some mb)):=by simp [World.cell?,hb3]
 have hs3:=hK3.size;have Hb3:=Lib.hid hb3;clear hb3
 go_still_tail 6,(by kernel_rfl)
 change wpList _ _ _ _ _ w3.drew
 refine wpList_dropM rfl _ _ rfl (int_fit Tryz.underlying3) Tryz.underlying142 (w:=w3.drew) (n:=N) (m:=m) (b:=mb) hM3 rfl xi rfl ?_;intro w5 hM5 hK5;have hK35:Kept [mb] w3 w5:=(Kept.refl _ _).drew.trans hK5
 have hKW:Kept [b,mb] W w5:=(hK3.more (by simp)).trans (hK35.more (by simp))
 have hKS:Kept S w w5:=hK.trans (hK35.more (by simp;exact amS))
 have hb5:=(hK35.block b (by have:=hK3.size;have:=HW.size;omega) (by simpa using hne)).trans Hb3.out
 have hI5:=hI3.kept hK35 (by simpa using hrm)
 have hs5:=hKW.size
 have hbk:∀(o j:Nat) u w6,Kept [b,rb,mb] w5 w6→o≤2→W.cell? ⟨w.heap.size+o,j,none⟩=some u→w6.cell? ⟨w.heap.size+o,j,none⟩=some u:=by
  intro o j u w6 hk6 ho hu
  refine (World.cell?_of_block (hk6.block (w.heap.size+o) (by omega) (by simp;omega))).trans ?_
  exact (World.cell?_of_block (hKW.block (w.heap.size+o) (by omega) (by simp;omega))).trans hu
 have hbf:∀(o j:Nat) u w6,Kept [b,rb,mb] w5 w6→o≤2→W.frozen? ⟨w.heap.size+o,j,none⟩=u→w6.frozen? ⟨w.heap.size+o,j,none⟩=u:=by
  intro o j u w6 hk6 ho hu
  refine (World.frozen?_of_block (hk6.block (w.heap.size+o) (by omega) (by simp;omega))).trans ?_
  exact (World.frozen?_of_block (hKW.block (w.heap.size+o) (by omega) (by simp;omega))).trans hu
 have hbk:=Lib.hid hbk;have hbf:=Lib.hid hbf;have Z:=Lib.hid (And.intro z1 (And.intro z2 (And.intro z3 (And.intro r1 (And.intro r2 (And.intro f1 f2))))))
 have hI5':=Lib.hid (show HeapIn w5 b rb cap k mb c from ⟨hb5,hI5⟩)
 clear hI3 hM3 hK3 hK35 hK v3 b0 b1 hs3 Hb3 HI HM Hb z1 z2 z3 r1 r2 f1 f2 hb5 hI5 hKW hK5
 by_cases hk0:k=0
 ·subst hk0
  have HK:=Kept.refl [b,rb,mb] w5;clear y1 y2 y3
  have hO:HeapOf w5 S b 0 (hset hp xi none):=⟨mb,_,_,c,_,hI5'.out.1,hM5,hne,.inr ⟨rb,cap,rfl,hI5'.out.2,hbr,hrm,HS.out⟩,hP0.out hPP.out,hH0.out hHH.out,fun i j hi=>by omega,fun j hj=>by omega,hC2.out⟩
  have hKO:=hKS;clear hM5 hKS
  have z1:=hbk.out 1 0 _ w5 HK (by omega) Z.out.1
  have z2:=hbk.out 1 1 _ w5 HK (by omega) Z.out.2.1
  have z3:=hbk.out 1 2 _ w5 HK (by omega) Z.out.2.2.1
  have r1:=hbk.out 0 0 _ w5 HK (by omega) Z.out.2.2.2.1
  have r2:=hbk.out 0 1 _ w5 HK (by omega) Z.out.2.2.2.2.1
  have f1:=hbf.out 0 0 _ w5 HK (by omega) Z.out.2.2.2.2.2.1
  have f2:=hbf.out 0 1 _ w5 HK (by omega) Z.out.2.2.2.2.2.2
  simp only [Nat.add_zero] at r1 r2 f1 f2
  go_upto_region 11 with (fail)
  have E1:=Lib.hid (And.intro hO hKO);clear hO hKO;have E2:=Lib.hid (two_set (x:=.int .i64 xs) (y:=.int .i64 xd) r1 r2)
  have E3:Kept [w.heap.size] w5 ((w5.setCell ⟨w.heap.size,0,none⟩ (.int .i64 xs)).setCell ⟨w.heap.size,1,none⟩ (.int .i64 xd)).drew:=(((Kept.refl _ _).setCell (.inl (by simp))).setCell (.inl (by simp))).drew
  go_region;go_wp2;obtain ⟨q1,q2⟩:=E2.out
  generalize ((w5.setCell ⟨w.heap.size,0,none⟩ (.int .i64 xs)).setCell ⟨w.heap.size,1,none⟩ (.int .i64 xd)).drew=w8 at q1 q2 E3 ⊢
  refine bodyPost_ret (v:=.tuple #[.int .i64 xi,.agg #[.int .i64 xs,.int .i64 xd],.bool true]) (by simp [results,Tryz.results149,go_sem,q1,q2]) rfl ?_
  exact pop_end hx1.out hmin.out E1.out.1 E1.out.2 E3 hSl.out
 ·have HK5:=Kept.refl [b,rb,mb] w5
  have y1:=hbk.out 2 0 _ w5 HK5 (by omega) y1
  have y2:=hbk.out 2 1 _ w5 HK5 (by omega) y2
  have y3:=hbk.out 2 2 _ w5 HK5 (by omega) y3
  have hk1:0<k:=by omega
  have hk2:decide (0<(k:Int))=true:=by simp;omega
  have hk3:decide (0<k)=true:=by simp;omega
  have cP:=Lib.hid (heapPut w5 b rb cap k mb _ c _ 0 ⟨⟨ys,yd⟩,yi⟩ hI5'.out hM5 hk1 hbr hne hrm);clear hM5;go_wp2_with fail;refine (cP.out).mono ?_;rintro e w6 ⟨rfl,hI6,⟨N6,hM6⟩,hK6⟩
  have cD:=Lib.hid (heapDown w6 b rb cap k mb N6 _ _ 0 hI6 hM6 hk1 (by omega) hbr hne hrm (Holds.cc hH2.out hC2.out) hL2.out hD2.out (by rw [upd_same];exact hP2.out))
  clear hI6 hM6 y1 y2 y3 cP HK5;go_wp2_with fail;refine (cD.out).mono ?_;rintro e w7 ⟨rfl,hF⟩;obtain ⟨hO,hK7⟩:=hF.heapOf hbr hne hrm hH2.out hC2.out;rw [←HS.out] at hO
  have hK67:Kept [b,rb,mb] w5 w7:=(hK6.more (by simp)).trans (hK7.more (by simp))
  have hKO:Kept S w w7:=hKS.trans (hK67.more (by rw [HS.out];simp))
  have HK:=hK67;clear hF hK6 hK7 hK67 cD hKS
  have z1:=hbk.out 1 0 _ w7 HK (by omega) Z.out.1
  have z2:=hbk.out 1 1 _ w7 HK (by omega) Z.out.2.1
  have z3:=hbk.out 1 2 _ w7 HK (by omega) Z.out.2.2.1
  have r1:=hbk.out 0 0 _ w7 HK (by omega) Z.out.2.2.2.1
  have r2:=hbk.out 0 1 _ w7 HK (by omega) Z.out.2.2.2.2.1
  have f1:=hbf.out 0 0 _ w7 HK (by omega) Z.out.2.2.2.2.2.1
  have f2:=hbf.out 0 1 _ w7 HK (by omega) Z.out.2.2.2.2.2.2
  simp only [Nat.add_zero] at r1 r2 f1 f2
  go_upto_region 11 with (fail)
  have E1:=Lib.hid (And.intro hO hKO);clear hO hKO;have E2:=Lib.hid (two_set (x:=.int .i64 xs) (y:=.int .i64 xd) r1 r2)
  have E3:Kept [w.heap.size] w7 ((w7.setCell ⟨w.heap.size,0,none⟩ (.int .i64 xs)).setCell ⟨w.heap.size,1,none⟩ (.int .i64 xd)).drew:=(((Kept.refl _ _).setCell (.inl (by simp))).setCell (.inl (by simp))).drew
  go_region;go_wp2;obtain ⟨q1,q2⟩:=E2.out
  generalize ((w7.setCell ⟨w.heap.size,0,none⟩ (.int .i64 xs)).setCell ⟨w.heap.size,1,none⟩ (.int .i64 xd)).drew=w8 at q1 q2 E3 ⊢
  refine bodyPost_ret (v:=.tuple #[.int .i64 xi,.agg #[.int .i64 xs,.int .i64 xd],.bool true]) (by simp [results,Tryz.results149,go_sem,q1,q2]) rfl ?_
  exact pop_end hx1.out hmin.out E1.out.1 E1.out.2 E3 hSl.out
end Go.Proofs.YtokhnobcincfjaaGreatDoor
namespace Go.Proofs.YtokhnobcincfjaaGreatDoor
open Go.RowKit Go.Sort
open Go.ChangeMaps (setBlock)
def RangeAt {K:Type} (kf:K→Value) (w:World) (b r:Nat) (m:K→Option Value) (left:K→Prop) (cnt:Nat):Prop:=
 ∃es clk since seen c0,w.heap[b]? = some (.map es clk)∧MapKept.Stamped es clk∧(∀e∈es.toList,∃k,e.key=kf k∧m k=some e.val)∧(∀k v,m k=some v→∃e∈es.toList,e.key=kf k∧e.val=v) ∧
  w.heap[r]? = some (.mapIter (some b) since seen c0)∧(∀x∈es.toList,x.born<since)∧(leftOf es seen).size=cnt∧(∀x∈es.toList,∀k,x.key=kf k→(left k↔seen.contains x.born=false))∧(∀k,left k→m k≠none)∧since≤c0∧since≤clk
section
variable {P:Program} {kt et mt:TypeId} {K:Type} {kf:K→Value} {w:World} {b r n cnt:Nat} {m:K→Option Value} {left:K→Prop}
theorem RangeAt.map (h:RangeAt kf w b r m left cnt):∃n,MapAt kf w b m n:=by
 obtain ⟨es,clk,since,seen,c0,h1,h2,h3,h4,_⟩:=h;exact ⟨_,es,clk,h1,h2,rfl,h3,h4⟩
theorem RangeAt.lt (h:RangeAt kf w b r m left cnt):b<w.heap.size∧r<w.heap.size:=by
 obtain ⟨es,clk,since,seen,c0,h1,h2,h3,h4,h5,_⟩:=h;exact ⟨(Array.getElem?_eq_some_iff.1 h1).1,(Array.getElem?_eq_some_iff.1 h5).1⟩
theorem RangeAt.kept {S:List Nat} {w':World} (h:RangeAt kf w b r m left cnt) (hk:Kept S w w') (hb:b∉S) (hr:r∉S):RangeAt kf w' b r m left cnt:=by
 obtain ⟨l1,l2⟩:=h.lt;obtain ⟨es,clk,since,seen,c0,h1,h2,h3,h4,h5,h6⟩:=h;exact ⟨es,clk,since,seen,c0,(hk.block b l1 hb).trans h1,h2,h3,h4,(hk.block r l2 hr).trans h5,h6⟩
theorem RangeAt.below {w':World} (h:RangeAt kf w b r m left cnt) (hb:Below w.heap.size w w'):RangeAt kf w' b r m left cnt:=h.kept (S:=[]) (.of_below hb) (by simp) (by simp)
theorem RangeAt.left_eq (h:RangeAt kf w b r m left cnt):w.rangeLeft b r=cnt:=by
 obtain ⟨es,clk,since,seen,c0,h1,_,_,_,h5,_,h7,_⟩:=h;simp only [World.rangeLeft,h1,h5];exact h7
theorem RangeAt.iff {left':K→Prop} (h:RangeAt kf w b r m left cnt) (hl:∀k,left k↔left' k):RangeAt kf w b r m left' cnt:=by
 obtain ⟨es,clk,since,seen,c0,h1,h2,h3,h4,h5,h6,h7,h8,h9,h10⟩:=h
 exact ⟨es,clk,since,seen,c0,h1,h2,h3,h4,h5,h6,h7,fun x hx k hk=>(hl k).symm.trans (h8 x hx k hk),fun k hk=>h9 k ((hl k).2 hk),h10⟩
theorem MapAt.range (inj : ∀ a b, kf a = kf b → a = b) (ht : P.underlying mt = some (.map kt et)) (h : MapAt kf w b m n) :
    ∃o,(Instr.range mt (.map (some b))).run P w=.ok (.pointer (some ⟨w.heap.size,0,none⟩)) (w.alloc o)∧RangeAt kf (w.alloc o) b w.heap.size m (fun k=>m k≠none) n:=by
 have hlt:=h.lt;obtain ⟨es,clk,hb,hS,hn,h1,h2⟩:=h
 refine ⟨_,run_range_map w mt kt et b es clk ht hb,es,clk,clk,#[],clk,((MapKept.heap_alloc w _).2 b hlt).trans hb,hS,h1,h2,(MapKept.heap_alloc w _).1,hS.1,by subst hn;simp [leftOf],fun x hx k hk=>?_,fun k hk=>hk,Nat.le_refl _,Nat.le_refl _⟩
 obtain ⟨k',e1,e2⟩:=h1 x hx;obtain rfl:=inj _ _ (hk.symm.trans e1);simp [e2]
theorem RangeAt.next (inj : ∀ a b, kf a = kf b → a = b) (h : RangeAt kf w b r m left cnt) (ty : TypeId) :
    (cnt=0∧(∀k,¬left k)∧(Instr.next (.pointer (some ⟨r,0,none⟩)) false ty).run P w=.ok (.tuple #[.bool false]) w) ∨
    ∃k v w' cnt',m k=some v∧left k∧(Instr.next (.pointer (some ⟨r,0,none⟩)) false ty).run P w=.ok (.tuple #[.bool true,kf k,v]) w'∧RangeAt kf w' b r m (fun j=>left j∧j≠k) cnt'∧cnt'<cnt∧Kept [r] w w' ∧
     w'.heap.size=w.heap.size∧(Instr.entry (.pointer (some ⟨r,0,none⟩))).run P w'=.ok (.tuple #[kf k,v]) w':=by
 obtain ⟨es,clk,since,seen,c0,hb,hS,h3,h4,hr,hold,rfl,hl1,hl2,hsc,hsk⟩:=h
 have hne:r≠b:=by
  intro e;rw [e,hb] at hr
  cases hr
 rcases run_next_at (P:=P) w ty r b since c0 seen es clk hr hb hold hsc with ⟨h0,hrun⟩ | ⟨e,he,w1,hal,hrun⟩
 ·refine .inl ⟨h0,fun k hk=>?_,hrun⟩
  cases hm:m k with
  | none=>exact hl2 k hk hm
  | some v=>
   obtain ⟨e,he,e1,e2⟩:=h4 k v hm;have:=(hl1 e he k e1).1 hk;rw [all_seen es seen h0 e he] at this
   cases this
 ·obtain ⟨hem,hes⟩:=mem_left he
  obtain ⟨k,ek,hv⟩:=h3 e hem
  have hr1:w1.heap[r]? = some (.mapIter (some b) since seen c0):=by rcases hal with rfl | rfl <;> exact hr
  have hb1:w1.heap[b]? = some (.map es clk):=by rcases hal with rfl | rfl <;> exact hb
  have hset:=MapKept.heap_set (o':=.mapIter (some b) since (seen.push e.born) clk) hr1
  have hb':(setBlock w1 r (.mapIter (some b) since (seen.push e.born) clk)).heap[b]? = some (.map es clk):=(hset.2 b (fun e1=>hne e1.symm)).trans hb1
  have hst:=(MapKept.stamped_iff es clk).1 hS;rw [ek] at hrun;have hen:=run_entry_at (P:=P) _ r b since seen es clk e hset.1 hb' hem hst.2.1;rw [ek] at hen
  refine .inr ⟨k,e.val,_,_,hv,(hl1 e hem k ek).2 hes,hrun,⟨es,clk,since,seen.push e.born,clk,hb',hS,h3,h4,hset.1,hold,rfl,fun x hx k' hk'=>?_,fun j hj=>hl2 j hj.1,hsk,hsk⟩,left_shrinks es seen e he,?_,?_,hen⟩
  ·show (left k'∧k'≠k)↔_
   rw [hl1 x hx k' hk',contains_push,Bool.or_eq_false_iff]
   have:x.born=e.born↔k'=k:=by
    constructor
    ·intro hbe
     obtain rfl:=born_inj hst.2.1 hx hem hbe;exact inj _ _ (hk'.symm.trans ek)
    ·rintro rfl
     exact congrArg MapEntry.born (entry_eq_of_key hst.2.2 hx hem (hk'.trans ek.symm))
   constructor
   ·rintro ⟨a1,a2⟩
    exact ⟨a1,by rw [beq_eq_false_iff_ne];exact fun hh=>a2 (this.1 hh)⟩
   ·rintro ⟨a1,a2⟩
    exact ⟨a1,fun hh=>by rw [beq_eq_false_iff_ne] at a2;exact a2 (this.2 hh)⟩
  ·rcases hal with rfl | rfl <;> exact ⟨rfl,rfl,rfl,by simp [setBlock],fun i _ hi=>hset.2 i (fun e1=>hi (by rw [e1];simp))⟩
  ·rcases hal with rfl | rfl <;> simp [setBlock]
theorem wpList_rangeM {ops : Array Oper} {rest : List Oper} {o : Oper} {a : Act} {Q : Exit → Act → World → Prop} (hg : o.guard = none) (mo : Operand) (hop : o.op = Op.range mt mo)
    (inj:∀a b,kf a=kf b→a=b) (ht:P.underlying mt=some (.map kt et)) (h:MapAt kf w b m n) (hm:a.eval mo=.map (some b))
    (hK:∀w',RangeAt kf w' b w.heap.size m (fun k=>m k≠none) n→Below w.heap.size w w'→w'.heap.size=w.heap.size+1→wpList P ops Q rest (a.put o.dst (.pointer (some ⟨w.heap.size,0,none⟩))) w'):wpList P ops Q (o :: rest) a w:=by
 refine wpList_plain hg fun K' hK'=>?_
 obtain ⟨ob,hrun,r1⟩:=h.range inj ht;unfold Oper.wp;simp [execOp,hop,hm,hrun,Result.andThen]
 exact hK' _ _ (hK _ r1 ((Below.refl _ _).alloc (Nat.le_refl _) _) (by simp))
theorem wpList_nextM {ops : Array Oper} {rest : List Oper} {o : Oper} {a : Act} {Q : Exit → Act → World → Prop} (hg : o.guard = none) (it : Operand) (hop : o.op = Op.next it false)
    (inj:∀a b,kf a=kf b→a=b) (h:RangeAt kf w b r m left cnt) (hit:a.eval it=.pointer (some ⟨r,0,none⟩))
    (hDone:cnt=0→(∀k,¬left k)→wpList P ops Q rest (a.put o.dst (.tuple #[.bool false])) w)
    (hMore:∀(k:K) (v:Value) (w':World) (cnt':Nat),m k=some v→left k→RangeAt kf w' b r m (fun j=>left j∧j≠k) cnt'→cnt'<cnt→Kept [r] w w'→w'.heap.size=w.heap.size→
     (Instr.entry (.pointer (some ⟨r,0,none⟩))).run P w'=.ok (.tuple #[kf k,v]) w'→wpList P ops Q rest (a.put o.dst (.tuple #[.bool true,kf k,v])) w'):wpList P ops Q (o :: rest) a w:=by
 refine wpList_plain hg fun K' hK'=>?_
 unfold Oper.wp
 rcases h.next (P:=P) inj o.type with ⟨h0,hl,hrun⟩ | ⟨k,v,w',cnt',h1,h2,hrun,h3,h4,h5,h6,h7⟩
 ·simp [execOp,hop,hit,hrun,Result.andThen]
  exact hK' _ _ (hDone h0 hl)
 ·simp [execOp,hop,hit,hrun,Result.andThen]
  exact hK' _ _ (hMore k v w' cnt' h1 h2 h3 h4 h5 h6 h7)
end
end Go.Proofs.YtokhnobcincfjaaGreatDoor
