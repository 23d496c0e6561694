/- Lemmas of this claim: Heap6, Heap7, Heap8, MapRange. -/
import Derived.Test.YtkdndoefgnfbnaaGreatDoorKNavC7
import Derived.Deep.RegionHeld3
import Derived.Maps.RangeWalk
set_option linter.unusedVariables false
set_option linter.unusedSimpArgs false
set_option maxHeartbeats 3200000
set_option maxRecDepth 100000
namespace Go.Proofs.YtkdndoefgnfbnaaGreatDoor
open Go.RowKit Go.Sort FR
def hset (hp:Int→Option C) (i:Int) (c:Option C):Int→Option C:=fun z=>if z=i then c else hp z
theorem Holds.push {n:Nat} {c:Nat→It} {hp:Int→Option C} (h:Holds n c hp) (x:It) (hx:hp x.id=none):Holds (n+1) (upd c n x) (hset hp x.id (some x.c)):=by
 intro id d;unfold hset
 constructor
 ·intro he
  by_cases e:id=x.id
  ·rw [if_pos e] at he
   injection he with he
   exact ⟨n,by omega,by rw [upd_same,e,←he]⟩
  ·rw [if_neg e] at he
   obtain ⟨k,hk,hk2⟩:=(h id d).1 he
   exact ⟨k,by omega,by rw [upd_ne _ _ (by omega),hk2]⟩
 ·rintro ⟨k,hk,he⟩
  by_cases e:k=n
  ·subst e
   rw [upd_same] at he;subst he;rw [if_pos rfl]
  ·rw [upd_ne _ _ e] at he
   have:=(h id d).2 ⟨k,by omega,he⟩
   rw [if_neg,this];rintro rfl;rw [hx] at this;cases this
theorem Dst.push {n:Nat} {c:Nat→It} {hp:Int→Option C} (h:Dst n c) (hh:Holds n c hp) (x:It) (hx:hp x.id=none):Dst (n+1) (upd c n x):=by
 have key:∀k,k<n→(c k).id≠x.id:=by
  intro k hk e;have:=(hh (c k).id (c k).c).2 ⟨k,hk,rfl⟩;rw [e,hx] at this;cases this
 intro i j hi hj e
 by_cases e1:i=n
 ·by_cases e2:j=n
  ·omega
  ·subst e1
   rw [upd_same,upd_ne _ _ e2] at e
   exact absurd e.symm (key j (by omega))
 ·by_cases e2:j=n
  ·subst e2
   rw [upd_same,upd_ne _ _ e1] at e
   exact absurd e (key i (by omega))
  ·rw [upd_ne _ _ e1,upd_ne _ _ e2] at e
   exact h i j (by omega) (by omega) e
theorem PosMap.push {n:Nat} {c:Nat→It} {m:Int→Option Value} (h:PosMap n c m) (x:It):PosBut (n+1) (upd c n x) m x.id:=by
 intro z v hz;rw [h z v]
 constructor
 ·rintro ⟨k,hk,hv,he⟩
  exact ⟨k,by omega,hv,by rw [upd_ne _ _ (by omega)];exact he⟩
 ·rintro ⟨k,hk,hv,he⟩
  by_cases e:k=n
  ·subst e;rw [upd_same] at he;exact absurd he.symm hz
  ·rw [upd_ne _ _ e] at he;exact ⟨k,by omega,hv,he⟩
theorem PosMap.turn {n:Nat} {c:Nat→It} {m:Int→Option Value} (h:PosMap n c m) {k:Nat} (hk:k<n) (x:It) (hx:x.id=(c k).id):PosBut n (upd c k x) m x.id:=by
 intro z v hz;rw [h z v]
 constructor
 ·rintro ⟨j,hj,hv,he⟩
  exact ⟨j,hj,hv,by rw [upd_ne _ _ (by rintro rfl;rw [hx] at hz;exact hz he.symm)];exact he⟩
 ·rintro ⟨j,hj,hv,he⟩
  by_cases e:j=k
  ·subst e;rw [upd_same] at he;exact absurd he.symm hz
  ·rw [upd_ne _ _ e] at he;exact ⟨j,hj,hv,he⟩
theorem Dst.turn {n:Nat} {c:Nat→It} (h:Dst n c) {k:Nat} (hk:k<n) (x:It) (hx:x.id=(c k).id):Dst n (upd c k x):=by
 have e:∀j,(upd c k x j).id=(c j).id:=by
  intro j
  by_cases e:j=k
  ·subst e;rw [upd_same,hx]
  ·rw [upd_ne _ _ e]
 intro i j hi hj he;rw [e,e] at he;exact h i j hi hj he
theorem Holds.turn {n:Nat} {c:Nat→It} {hp:Int→Option C} (h:Holds n c hp) (hD:Dst n c) {k:Nat} (hk:k<n) (x:It) (hx:x.id=(c k).id):Holds n (upd c k x) (hset hp x.id (some x.c)):=by
 intro id d;unfold hset
 constructor
 ·intro he
  by_cases e:id=x.id
  ·rw [if_pos e] at he
   injection he with he
   exact ⟨k,hk,by rw [upd_same,e,←he]⟩
  ·rw [if_neg e] at he
   obtain ⟨j,hj,hj2⟩:=(h id d).1 he;refine ⟨j,hj,?_⟩;rw [upd_ne,hj2];rintro rfl;rw [hj2] at hx;exact e hx.symm
 ·rintro ⟨j,hj,he⟩
  by_cases e:j=k
  ·subst e
   rw [upd_same] at he;subst he;rw [if_pos rfl]
  ·rw [upd_ne _ _ e] at he
   rw [if_neg,(h id d).2 ⟨j,hj,he⟩];rintro rfl
   apply e
   exact hD j k hj hk (by rw [he,←hx])
theorem Holds.same {n:Nat} {c c':Nat→It} {hp:Int→Option C} (h:Holds n c hp) (hs:∀y,(∃k,k<n∧c' k=y)↔∃k,k<n∧c k=y):Holds n c' hp:=by
 intro id d;rw [h id d];exact (hs ⟨d,id⟩).symm
theorem Holds.pop {n:Nat} {c:Nat→It} {hp:Int→Option C} (h:Holds (n+1) c hp) (hD:Dst (n+1) c):Holds n (upd c 0 (c n)) (hset hp (c 0).id none):=by
 intro id d;unfold hset
 constructor
 ·intro he
  by_cases e:id=(c 0).id
  ·rw [if_pos e] at he;cases he
  ·rw [if_neg e] at he
   obtain ⟨k,hk,hk2⟩:=(h id d).1 he
   have k0:k≠0:=by rintro rfl;rw [hk2] at e;exact e rfl
   by_cases e2:k=n
   ·subst e2;exact ⟨0,by omega,by rw [upd_same,hk2]⟩
   ·exact ⟨k,by omega,by rw [upd_ne _ _ k0,hk2]⟩
 ·rintro ⟨k,hk,he⟩
  have key:∀j,j<n+1→j≠0→c j=⟨d,id⟩→(if id=(c 0).id then none else hp id)=some d:=by
   intro j hj j0 hj2;rw [if_neg,(h id d).2 ⟨j,hj,hj2⟩];intro e
   exact j0 (hD j 0 hj (by omega) (by rw [hj2,←e]))
  by_cases e:k=0
  ·subst e
   rw [upd_same] at he
   exact key n (by omega) (by omega) he
  ·rw [upd_ne _ _ e] at he
   exact key k (by omega) e he
theorem Dst.pop {n:Nat} {c:Nat→It} (hD:Dst (n+1) c):Dst n (upd c 0 (c n)):=by
 intro i j hi hj e
 by_cases e1:i=0 <;> by_cases e2:j=0
 ·omega
 ·subst e1
  rw [upd_same,upd_ne _ _ e2] at e
  have:=hD n j (by omega) (by omega) e;omega
 ·subst e2
  rw [upd_same,upd_ne _ _ e1] at e
  have:=hD i n (by omega) (by omega) e;omega
 ·rw [upd_ne _ _ e1,upd_ne _ _ e2] at e
  exact hD i j (by omega) (by omega) e
theorem PosMap.pop {n:Nat} {c:Nat→It} {m:Int→Option Value} (h:PosMap (n+1) c m) (hD:Dst (n+1) c) (x:Value):PosBut n (upd c 0 (c n)) (updK (updK m (c 0).id none) (c n).id (some x)) (c n).id:=by
 intro z v hz;unfold updK;rw [if_neg hz]
 by_cases e0:z=(c 0).id
 ·rw [if_pos e0]
  constructor
  ·intro h';cases h'
  ·rintro ⟨k,hk,hv,he⟩
   by_cases e1:k=0
   ·subst e1;rw [upd_same] at he;exact absurd he.symm hz
   ·rw [upd_ne _ _ e1] at he
    exact absurd (hD k 0 (by omega) (by omega) (by rw [he,e0])) e1
 ·rw [if_neg e0,h z v]
  constructor
  ·rintro ⟨k,hk,hv,he⟩
   have k0:k≠0:=by rintro rfl;exact e0 he.symm
   have k1:k≠n:=by rintro rfl;exact hz he.symm
   exact ⟨k,by omega,hv,by rw [upd_ne _ _ k0];exact he⟩
  ·rintro ⟨k,hk,hv,he⟩
   by_cases e1:k=0
   ·subst e1;rw [upd_same] at he;exact absurd he.symm hz
   ·rw [upd_ne _ _ e1] at he
    exact ⟨k,by omega,hv,he⟩
theorem PosMap.pop0 {c:Nat→It} {m:Int→Option Value} (h:PosMap 1 c m):PosMap 0 c (updK m (c 0).id none):=by
 intro z v;unfold updK
 constructor
 ·intro h'
  by_cases e:z=(c 0).id
  ·rw [if_pos e] at h';cases h'
  ·rw [if_neg e,h z v] at h'
   obtain ⟨k,hk,_,he⟩:=h'
   obtain rfl:k=0:=by omega
   exact absurd he.symm e
 ·rintro ⟨k,hk,_⟩;omega
theorem Holds.pop0 {c:Nat→It} {hp:Int→Option C} (h:Holds 1 c hp):Holds 0 c (hset hp (c 0).id none):=by
 intro z d;unfold hset
 constructor
 ·intro h'
  by_cases e:z=(c 0).id
  ·rw [if_pos e] at h';cases h'
  ·rw [if_neg e] at h'
   obtain ⟨k,hk,he⟩:=(h z d).1 h'
   obtain rfl:k=0:=by omega
   rw [he] at e;exact absurd rfl e
 ·rintro ⟨k,hk,_⟩;omega
theorem Holds.cc {n:Nat} {c:Nat→It} {hp:Int→Option C} (h:Holds n c hp) (hc:∀z d,hp z=some d→inCC d):∀k,k<n→inCC (c k).c:=
 fun k hk=>hc _ _ ((h (c k).id (c k).c).2 ⟨k,hk,rfl⟩)
theorem HeapOf.lt {w:World} {S:List Nat} {b n:Nat} {hp:Int→Option C} (h:HeapOf w S b n hp):∀k∈S,k<w.heap.size:=by
 obtain ⟨mb,m,N,c,sl,hb,hM,_,hR,_⟩:=h;have l1:=(Array.getElem?_eq_some_iff.1 hb).1;have l2:=hM.lt
 rcases hR with ⟨_,_,rfl⟩ | ⟨rb,cap,_,hI,_,_,rfl⟩
 ·intro k hk;simp at hk;rcases hk with rfl | rfl <;> assumption
 ·have l3:=hI.lt
  intro k hk;simp at hk;rcases hk with rfl | rfl | rfl <;> assumption
theorem HeapOf.self {w:World} {S:List Nat} {b n:Nat} {hp:Int→Option C} (h:HeapOf w S b n hp):b∈S:=by
 obtain ⟨mb,m,N,c,sl,hb,hM,_,hR,_⟩:=h
 rcases hR with ⟨_,_,rfl⟩ | ⟨rb,cap,_,hI,_,_,rfl⟩ <;> simp
theorem RowOk.kept {S T:List Nat} {w w':World} {b mb n:Nat} {sl:Value} {c:Nat→It} (h:RowOk w b mb sl n c S) (hk:Kept T w w') (hd:∀k∈S,k∉T):RowOk w' b mb sl n c S:=by
 rcases h with h | ⟨rb,cap,h1,h2,h3,h4,h5⟩
 ·exact .inl h
 ·exact .inr ⟨rb,cap,h1,h2.kept hk (hd rb (by rw [h5];simp)),h3,h4,h5⟩
theorem HeapOf.kept {S T:List Nat} {w w':World} {b n:Nat} {hp:Int→Option C} (h:HeapOf w S b n hp) (hk:Kept T w w') (hd:∀k∈S,k∉T):HeapOf w' S b n hp:=by
 have hl:=h.lt;have hs:=h.self;obtain ⟨mb,m,N,c,sl,h1,h2,h3,h4,h5⟩:=h
 have hm:mb∈S:=by rcases h4 with ⟨_,_,rfl⟩ | ⟨rb,cap,_,hI,_,_,rfl⟩ <;> simp
 exact ⟨mb,m,N,c,sl,(hk.block b (hl b hs) (hd b hs)).trans h1,h2.kept hk (hd mb hm),h3,h4.kept hk hd,h5⟩
theorem HeapOf.below {S:List Nat} {w w':World} {b n:Nat} {hp:Int→Option C} (h:HeapOf w S b n hp) (hb:Below w.heap.size w w'):HeapOf w' S b n hp:=h.kept (T:=[]) (.of_below hb) (by simp)
def HeapMade (w:World) (e:Ending) (w':World):Prop:=∃b S,e=.returned (.pointer (some ⟨b,0,none⟩))∧HeapOf w' S b 0 (fun _=>none)∧(∀k∈S,w.heap.size≤k)∧Below w.heap.size w w'
theorem heapNew (w:World):Calls Tryz.prog 110 #[] w (HeapMade w):=by
 have hmm:=@run_makeMap Tryz.prog;go_enter Tryz.func110,Tryz.ntmps110;go_wp2;go_ret
 have hM:MapAt (fun z:Int=>Value.int .i64 z) (w.alloc (.map #[] 0)) w.heap.size (fun _=>none) 0:=MapAt.made w
 refine ⟨w.heap.size+1,[w.heap.size+1,w.heap.size],rfl,⟨w.heap.size,fun _=>none,0,fun _=>⟨⟨0,0⟩,0⟩,.slice none 0 0,?_,hM.below ?_,by omega,.inl ⟨rfl,rfl,rfl⟩,?_,?_,?_,?_,?_⟩,?_,?_⟩
 ·have:=heap_alloc_new (w.alloc (.map #[] 0)) (.cells #[.slice none 0 0,.map (some w.heap.size)] 217 (0,0))
  simpa using this
 ·exact bel_alloc (Below.refl _ _)
 ·intro z v;constructor
  ·intro h;cases h
  ·rintro ⟨k,hk,_⟩;omega
 ·intro z v;constructor
  ·intro h;cases h
  ·rintro ⟨k,hk,_⟩;omega
 ·intro i j hi;omega
 ·intro j hj;omega
 ·intro z d h;cases h
 ·intro k hk;simp at hk;omega
 ·(repeat' (first | exact Below.refl _ _ | assumption | apply bel_drewN | apply bel_drew | apply bel_alloc | (refine bel_trans ?_ (by assumption))))
theorem int_zero (w:World):(zeroValue 3).run Tryz.prog w=.ok (.int .i64 0) w:=by kernel_rfl
theorem mapLook_in {w : World} {b N : Nat} {m : Int → Option Value} (h : MapAt (fun z : Int => Value.int .i64 z) w b m N) {z : Int} {v : Value} (hz : m z = some v) :
    (Instr.lookup 150 (.map (some b)) (.int .i64 z) true).run Tryz.prog w=.ok (.tuple #[v,.bool true]) w:=by
 have:=(h.look (int_fit Tryz.underlying3) Tryz.underlying150 (int_zero w) z).1;rw [hz] at this;exact this
theorem mapLook_out {w : World} {b N : Nat} {m : Int → Option Value} (h : MapAt (fun z : Int => Value.int .i64 z) w b m N) {z : Int} (hz : m z = none) :
    (Instr.lookup 150 (.map (some b)) (.int .i64 z) true).run Tryz.prog w=.ok (.tuple #[.int .i64 0,.bool false]) w:=by
 have:=(h.look (int_fit Tryz.underlying3) Tryz.underlying150 (int_zero w) z).1;rw [hz] at this;exact this
theorem PosMap.none {n:Nat} {c:Nat→It} {m:Int→Option Value} {hp:Int→Option C} (h:PosMap n c m) (hh:Holds n c hp) {z:Int} (hz:hp z=none):m z=none:=by
 cases hm:m z with
 | none=>rfl
 | some v=>
  obtain ⟨k,hk,_,he⟩:=(h z v).1 hm;have:=(hh (c k).id (c k).c).2 ⟨k,hk,rfl⟩;rw [he,hz] at this;cases this
theorem PosMap.some {n:Nat} {c:Nat→It} {m:Int→Option Value} {hp:Int→Option C} (h:PosMap n c m) (hh:Holds n c hp) {z:Int} {d:C} (hz:hp z=some d):∃k,k<n∧c k=⟨d,z⟩∧m z=Option.some (.int .i64 (k:Nat)):=by
 obtain ⟨k,hk,he⟩:=(hh z d).1 hz
 exact ⟨k,hk,he,(h z _).2 ⟨k,hk,rfl,by rw [he]⟩⟩
def HeapD (w:World) (S:List Nat) (b n:Nat) (hp:Int→Option C) (v:Value) (e:Ending) (w':World):Prop:=
 e=.returned v∧∃S',HeapOf w' S' b n hp∧(∀k∈S',k∈S∨w.heap.size≤k)∧Kept S w w'
theorem Filled.heapOf {w0 w : World} {b rb cap n mb : Nat} {c0 : Nat → It} {hp : Int → Option C} (h : Filled w0 w b rb cap n mb c0) (h1 : b ≠ rb) (h2 : b ≠ mb) (h3 : rb ≠ mb) (hh : Holds n c0 hp) (hc : ∀ z d, hp z = some d → inCC d) :
    HeapOf w [b,rb,mb] b n hp∧Kept [rb,mb] w0 w:=by
 obtain ⟨c,m,N,⟨f1,f2⟩,f3,f4,f5,f6,f7,f8⟩:=h;exact ⟨⟨mb,m,N,c,_,f1,f3,h2,.inr ⟨rb,cap,rfl,f2,h1,h3,rfl⟩,f6,Holds.same hh f7,f5,f4,hc⟩,f8⟩
theorem hset_cc {hp:Int→Option C} {i:Int} {c:C} (h:∀z d,hp z=some d→inCC d) (hc:inCC c):∀z d,hset hp i (some c) z=some d→inCC d:=by
 intro z d hz;unfold hset at hz
 by_cases e:z=i
 ·rw [if_pos e] at hz;injection hz with hz;rwa [←hz]
 ·rw [if_neg e] at hz;exact h z d hz
theorem item_zero:(Tryz.prog.info? 220).map (fun i=>(i.zero,i.size,i.bytes))=some (some (.agg #[.int .i64 0,.int .i64 0,.int .i64 0]),3,24):=by kernel_rfl
theorem RowOk.own {w:World} {b mb n:Nat} {sl:Value} {c:Nat→It} {S:List Nat} (h:RowOk w b mb sl n c S) (hb:b≠mb):sl.ownBlock≠some b∧sl.ownBlock≠some mb∧(∀k,sl.ownBlock=some k→k∈S)∧b∈S∧mb∈S:=by
 rcases h with ⟨rfl,rfl,rfl⟩ | ⟨rb,cap,rfl,hI,h1,h2,rfl⟩
 ·refine ⟨by simp [Value.ownBlock],by simp [Value.ownBlock],by simp [Value.ownBlock],by simp,by simp⟩
 ·refine ⟨?_,?_,?_,by simp,by simp⟩ <;> simp [Value.ownBlock]
  ·exact fun e=>h1 e.symm
  ·exact h2
theorem MapAt.grown {w w':World} {b N:Nat} {m:Int→Option Value} {row:Option Nat} (h:MapAt (fun z:Int=>Value.int .i64 z) w b m N) (hg:w.grownBy w' row) (hb:row≠some b):MapAt (fun z:Int=>Value.int .i64 z) w' b m N:=by
 have hl:=h.lt;obtain ⟨es,clk,h1,h2⟩:=h;exact ⟨es,clk,(hg.block b hl (Ne.symm hb)).trans h1,h2⟩
theorem Kept.grown {S:List Nat} {a w w':World} {row:Option Nat} (h:Kept S a w) (hg:w.grownBy w' row) (hr:∀k,row=some k→k∈S∨a.heap.size≤k):Kept S a w':=by
 refine ⟨hg.os.trans h.os,hg.tape.trans h.tape,hg.output.trans h.output,Nat.le_trans h.size hg.size,fun k hk hn=>?_⟩
 refine (hg.block k (Nat.lt_of_lt_of_le hk h.size) ?_).trans (h.block k hk hn);intro e
 rcases hr k e.symm with h' | h'
 ·exact hn h'
 ·omega
theorem push_lay {w W1 w1 : World} {S : List Nat} {b mb n N g cap : Nat} {c : Nat → It} {m : Int → Option Value} {sl : Value} {xs : List Value} {x : It}
    (hb:w.heap[b]? = some (.cells #[sl,.map (some mb)] 217 (0,0))) (hM:MapAt (fun z:Int=>Value.int .i64 z) w mb m N) (hne:b≠mb) (ag:sl.ownBlock≠some b) (am:sl.ownBlock≠some mb)
    (aS:∀k,sl.ownBlock=some k→k∈S) (ab:b∈S) (hW:Below w.heap.size w W1)
    (hown:w1.ownsRow 0 220 3 (.slice (some ⟨g,0,none⟩) (n+1) cap) (n+1) xs) (hl:Lies xs (n+1) (upd c n x)) (hg:W1.grownBy w1 sl.ownBlock) (hat:sl.ownBlock=some g∨w.heap.size≤g) :
    HeapIn (w1.setCell ⟨b,0,none⟩ (.slice (some ⟨g,0,none⟩) (n+1) cap)) b g cap (n+1) mb (upd c n x)∧MapAt (fun z:Int=>Value.int .i64 z) (w1.setCell ⟨b,0,none⟩ (.slice (some ⟨g,0,none⟩) (n+1) cap)) mb m N∧b≠g∧g≠mb ∧
     Kept S w (w1.setCell ⟨b,0,none⟩ (.slice (some ⟨g,0,none⟩) (n+1) cap))∧(g∈S∨w.heap.size≤g):=by
 have lb:=(Array.getElem?_eq_some_iff.1 hb).1;have lm:=hM.lt
 have bg:b≠g:=by
  rintro rfl
  rcases hat with h | h
  ·exact ag h
  ·omega
 have gm:g≠mb:=by
  rintro rfl
  rcases hat with h | h
  ·exact am h
  ·omega
 have hb1:w1.heap[b]? = some (.cells #[sl,.map (some mb)] 217 (0,0)):=(hg.block b (Nat.lt_of_lt_of_le lb hW.size) (Ne.symm ag)).trans ((hW.block b lb).trans hb);have hM1:=(hM.below hW).grown hg am;have hI:=ItemsIn.of_owns hown hl
 have hK1:Kept S w w1:=(Kept.of_below hW).grown hg (fun k e=>.inl (aS k e))
 have hK3:Kept [b] w1 (w1.setCell ⟨b,0,none⟩ (.slice (some ⟨g,0,none⟩) (n+1) cap)):=(Kept.refl _ _).setCell (.inl (by simp))
 refine ⟨⟨?_,hI.kept hK3 (by simpa using Ne.symm bg)⟩,hM1.kept hK3 (by simpa using Ne.symm hne),bg,gm,hK1.setCell (.inl ab),?_⟩
 ·rw [set_heapH _ _ _ _ _ _ hb1];rfl
 ·rcases hat with h | h
  ·exact .inl (aS g h)
  ·exact .inr h
theorem heapOf_end {w w3 w4 : World} {S : List Nat} {b n g cap mb : Nat} {c : Nat → It} {hp : Int → Option C} (hF : Filled w3 w4 b g cap n mb c) (h1 : b ≠ g) (h2 : b ≠ mb) (h3 : g ≠ mb) (hH : Holds n c hp) (hC : ∀ z d, hp z = some d → inCC d)
    (hK:Kept S w w3) (ab:b∈S) (amS:mb∈S) (hg:g∈S∨w.heap.size≤g) (t:Value):HeapD w S b n hp t (.returned t) w4:=by
 obtain ⟨q1,q2⟩:=hF.heapOf h1 h2 h3 hH hC;refine ⟨rfl,_,q1,?_,?_⟩
 ·intro k hk
  simp at hk
  rcases hk with rfl | rfl | rfl
  ·exact .inl ab
  ·exact hg
  ·exact .inl amS
 ·refine ⟨q2.os.trans hK.os,q2.tape.trans hK.tape,q2.output.trans hK.output,Nat.le_trans hK.size q2.size,fun k hk hn=>?_⟩
  refine (q2.block k (Nat.lt_of_lt_of_le hk hK.size) ?_).trans (hK.block k hk hn);simp
  constructor
  ·rintro rfl
   rcases hg with hg | hg
   ·exact hn hg
   ·omega
  ·rintro rfl;exact hn amS
theorem heapPush_new (w : World) (S : List Nat) (b n : Nat) (hp : Int → Option C) (id ds dd : Int) (h : HeapOf w S b n hp) (hz : hp id = none) (hc : inCC ⟨ds, dd⟩) (hn : n ≤ 1000000) :
    Calls Tryz.prog 145 #[.pointer (some ⟨b,0,none⟩),.int .i64 id,.agg #[.int .i64 ds,.int .i64 dd]] w (HeapD w S b (n+1) (hset hp id (some ⟨ds,dd⟩)) (.bool true)):=by
 have hSl:=h.lt;obtain ⟨mb,m,N,c,sl,hb,hM,hne,hR,hP,hH,hD,hL,hC⟩:=h;have lb:=(Array.getElem?_eq_some_iff.1 hb).1;have lm:=hM.lt;have hHp:=Lib.hid (Holds.push hH ⟨⟨ds,dd⟩,id⟩ hz);have hDp:=Lib.hid (Dst.push hD hH ⟨⟨ds,dd⟩,id⟩ hz);have hPp:=Lib.hid (hP.push ⟨⟨ds,dd⟩,id⟩);have hLp:=Lib.hid (heap_push (x:=⟨⟨ds,dd⟩,id⟩) hL);have hCp:=Lib.hid (hset_cc (i:=id) hC hc);obtain ⟨ag,am,aS,ab,amS⟩:=hR.own hne;have aS:=Lib.hid aS
 obtain ⟨xs,hown,hlies⟩:=hR.owns;have hl:=mapLook_out (hM.below (w':=w.alloc (.cells #[.int .i64 ds,.int .i64 dd] 38)) (bel_alloc (Below.refl _ _))) (hP.none hH hz);have hlies:=Lib.hid (hlies.push hown.1 ⟨⟨ds,dd⟩,id⟩);obtain ⟨i0,hi0,hz0,hz1,hz2⟩:=info_parts item_zero
 have k0:w.cell? ⟨b,0,none⟩=some sl:=by simp [World.cell?,hb]
 have k1:w.cell? ⟨b,1,none⟩=some (.map (some mb)):=by simp [World.cell?,hb]
 have kf:w.frozen? ⟨b,0,none⟩=false:=by simp [World.frozen?,hb]
 have Hb:=Lib.hid hb;have HM:=Lib.hid hM;clear hb hM hR hP hH hD hL hC hz;go_enter Tryz.func145,Tryz.ntmps145
 go_upto_region 1 with (fail)
 refine wp_name ?_;intro W hW
 have HW:Below w.heap.size w W:=by rw [hW];(repeat' (first | exact Below.refl _ _ | assumption | apply bel_drewN | apply bel_drew | apply bel_alloc | (refine bel_trans ?_ (by assumption))))
 have hW0:w.heap.size<W.heap.size:=by rw [hW];simp
 have d1:W.cell? ⟨w.heap.size,0,none⟩=some (.int .i64 ds):=by rw [hW];go_simp
 have d2:W.cell? ⟨w.heap.size,1,none⟩=some (.int .i64 dd):=by rw [hW];go_simp
 rw [←hW] at hl
 have hown1:W.ownsRow 0 220 3 sl n xs:=by rw [hW];exact hown.alloc _
 clear hW
 have an:sl.ownBlock≠some w.heap.size:=by
  intro e;have:=aS.out _ e;have:=hSl _ this;omega
 have w0:=(HW.cell (p:=⟨b,0,none⟩) lb).trans k0;have w1:=(HW.cell (p:=⟨b,1,none⟩) lb).trans k1;have wf:=(HW.frozen (p:=⟨b,0,none⟩) lb).trans kf
 have wfa:∀o,(W.alloc o).drew.frozen? ⟨b,0,none⟩=false:=fun o=>by
  have:=((bel_alloc (Below.refl _ W) (o:=o)).drew.frozen (p:=⟨b,0,none⟩) (by simp;omega)).trans wf
  exact this
 have wca:∀o,(W.alloc o).drew.cell? ⟨b,0,none⟩=some sl:=fun o=>by
  have:=((bel_alloc (Below.refl _ W) (o:=o)).drew.cell (p:=⟨b,0,none⟩) (by simp;omega)).trans w0
  exact this
 clear k0 k1 kf hown
 go_upto_region 3 with (fail)
 go_region_law
  ((refine step_append_lies _ (by rfl) _ _ _ (by rfl) 0 220 i0 _ 3 24 Tryz.underlying215 hi0 hz0 hz1 hz2 rfl (by omega) sl n xs (by rfl) ((hown1.alloc _).drew)
      ⟨W.heap.size,0,none⟩ 1 1 [.int .i64 ds,.int .i64 dd,.int .i64 id] (by rfl) (by rfl) (World.news_of_block (cs:=#[.int .i64 ds,.int .i64 dd,.int .i64 id]) (t:=220) (fr:=(0,0)) (heap_alloc_new W _)) (by simp [Value.oneCell'])
      (by omega) (by unfold maxLen;omega) (by omega) (by simp) (W.heap.size+1) (by simp) ?_;intro g cap w1 hown2 hgrow hat hlt;have u0:=(hgrow.cell_far ⟨b,0,none⟩ (by simp;omega) (Ne.symm ag)).trans (wca _);have u1:=(hgrow.frozen_far ⟨b,0,none⟩ (by simp;omega) (Ne.symm ag)).trans (wfa _)))
 all_goals
  obtain ⟨hI,hM3,bg,gm,hK,hgS⟩:=push_lay (x:=⟨⟨ds,dd⟩,id⟩) (S:=S) Hb.out HM.out hne ag am aS.out ab (bel_trans HW (bel_drew (bel_alloc (Below.refl _ _)))) hown2 hlies.out hgrow (hat.imp_right fun e=>by omega)
  clear hown2 hgrow hat hlt u0 u1
  generalize (w1.setCell ⟨b,0,none⟩ (.slice (some ⟨g,0,none⟩) (n+1) cap))=w3 at *
  have kb:=hI.1
  have x0:w3.cell? ⟨b,0,none⟩=some (.slice (some ⟨g,0,none⟩) (n+1) cap):=by simp [World.cell?,kb]
  have cU:=Lib.hid (heapUp w3 b g cap (n+1) mb N (upd c n ⟨⟨ds,dd⟩,id⟩) m n hI hM3 (by omega) bg hne gm (Holds.cc hHp.out hCp.out) hLp.out hDp.out (by rw [upd_same];exact hPp.out))
  clear kb hI hM3;go_wp2_with fail
  (with_reducible refine (cU.out).mono ?_)
  rintro e w4 ⟨rfl,hF⟩;have hE:=heapOf_end hF bg hne gm hHp.out hCp.out hK ab amS hgS (.bool true);clear hF hK;go_wp2;go_ret;exact hE
theorem ItemsIn.set2 {w : World} {b cap n : Nat} {c : Nat → It} (h : ItemsIn w b cap n c) {i : Nat} (hi : i < n) (x : It) (hx : x.id = (c i).id) :
    ItemsIn ((w.setCell ⟨b,i*3,none⟩ (.int .i64 x.c.s)).setCell ⟨b,i*3+1,none⟩ (.int .i64 x.c.d)) b cap n (upd c i x):=by
 obtain ⟨h1,h2,cur,h3,h4,h5⟩:=h
 refine ⟨h1,h2,_,set_heapH _ _ _ _ _ _ (set_heapH _ _ _ _ _ _ h3),by simp [h4],?_⟩
 intro k hk;obtain ⟨a1,a2,a3⟩:=h5 k hk
 by_cases e:k=i
 ·subst e
  simp only [Array.getElem?_setIfInBounds,Array.size_setIfInBounds,upd];simp [a3,hx];omega
 ·simp only [Array.getElem?_setIfInBounds,upd,if_neg e]
  rw [if_neg (by omega),if_neg (by omega),if_neg (by omega),if_neg (by omega),if_neg (by omega),if_neg (by omega)]
  exact ⟨a1,a2,a3⟩
theorem heapPush_old (w : World) (S : List Nat) (b n : Nat) (hp : Int → Option C) (id ds dd es ed : Int) (t : Bool) (h : HeapOf w S b n hp) (hz : hp id = some ⟨es, ed⟩) (hc : inCC ⟨ds, dd⟩) (ht : decide (C.cmp ⟨ds, dd⟩ ⟨es, ed⟩ < 0) = t) :
    Calls Tryz.prog 145 #[.pointer (some ⟨b,0,none⟩),.int .i64 id,.agg #[.int .i64 ds,.int .i64 dd]] w (HeapD w S b n (if t=true then hset hp id (some ⟨ds,dd⟩) else hp) (.bool t)):=by
 have h0:=h;have H0:=Lib.hid h0;obtain ⟨mb,m,N,c,sl,hb,hM,hne,hR,hP,hH,hD,hL,hC⟩:=h;have lb:=(Array.getElem?_eq_some_iff.1 hb).1;have lm:=hM.lt;obtain ⟨k,hk,hck,hmk⟩:=hP.some hH hz;have hl:=mapLook_in (hM.below (w':=w.alloc (.cells #[.int .i64 ds,.int .i64 dd] 38)) (bel_alloc (Below.refl _ _))) hmk;obtain ⟨ag,am,aS,ab,amS⟩:=hR.own hne
 rcases hR with ⟨_,hn0,_⟩ | ⟨rb,cap,rfl,hI,hbr,hrm,hS⟩
 ·omega
 have lr:=hI.lt;have hcap:=hI.1
 have hrS:rb∈S:=by rw [hS];simp
 have hCe:=hC _ _ hz
 have hHp:=Lib.hid (Holds.turn hH hD hk ⟨⟨ds,dd⟩,id⟩ (by rw [hck]))
 have hDp:=Lib.hid (Dst.turn hD hk ⟨⟨ds,dd⟩,id⟩ (by rw [hck]))
 have hPp:=Lib.hid (hP.turn hk ⟨⟨ds,dd⟩,id⟩ (by rw [hck]))
 have hCp:=Lib.hid (hset_cc (i:=id) hC hc)
 have hLp:t=true→HeapUp n (upd c k ⟨⟨ds,dd⟩,id⟩) k:=by
  intro e;refine heap_less hk hL (It.le_of_lt ?_);rw [hck];rw [e] at ht;exact .inl (C.cmp_neg.1 (of_decide_eq_true ht))
 have hLp:=Lib.hid hLp
 have hck':=Lib.hid (show (⟨⟨ds,dd⟩,id⟩:It).id=(c k).id by rw [hck])
 obtain ⟨c1,c2,c3⟩:=hI.cells hk;rw [hck] at c1 c2 c3;simp only at c1 c2 c3
 have k0:w.cell? ⟨b,0,none⟩=some (.slice (some ⟨rb,0,none⟩) n cap):=by simp [World.cell?,hb]
 have k1:w.cell? ⟨b,1,none⟩=some (.map (some mb)):=by simp [World.cell?,hb]
 have cL:=costLess ds dd es ed;rw [ht] at cL
 have cL:=Lib.hid (fun w=>cL w hc.1 hc.2 hCe.1 hCe.2)
 have Hb:=Lib.hid hb;have HM:=Lib.hid hM;have HI:=Lib.hid hI;clear hb hM hP hH hD hL hC hz hck hmk ht hI hS hCe aS c3 h0;go_enter Tryz.func145,Tryz.ntmps145
 go_upto_region 1 with (fail)
 refine wp_name ?_;intro W hW
 have HW:Below w.heap.size w W:=by rw [hW];(repeat' (first | exact Below.refl _ _ | assumption | apply bel_drewN | apply bel_drew | apply bel_alloc | (refine bel_trans ?_ (by assumption))))
 have hW0:w.heap.size<W.heap.size:=by rw [hW];simp
 have d1:W.cell? ⟨w.heap.size,0,none⟩=some (.int .i64 ds):=by rw [hW];go_simp
 have d2:W.cell? ⟨w.heap.size,1,none⟩=some (.int .i64 dd):=by rw [hW];go_simp
 rw [←hW] at hl;clear hW;have w0:=(HW.cell (p:=⟨b,0,none⟩) lb).trans k0;have w1:=(HW.cell (p:=⟨b,1,none⟩) lb).trans k1;have e1:=(HW.cell (p:=⟨rb,k*3,none⟩) lr).trans c1;have e2:=(HW.cell (p:=⟨rb,k*3+1,none⟩) lr).trans c2;clear k0 k1 c1 c2;have d1q:=cell_regrown d1;have d2q:=cell_regrown d2;have w0q:=cell_regrown w0;have e1q:=cell_regrown e1;have e2q:=cell_regrown e2;have HB:=Below.refl W.heap.size W
 go_upto_region 6 with (fail)
 refine wp_region_quiet_below (by kernel_rfl) (by kernel_rfl) ?_
 repeat (first | go_big_quiet_step (with_reducible exact Calls.regrown_of (cL.out _)) | quiet_step (with_reducible exact Calls.regrown_of (cL.out _)))
 refine wpQuiet_nil ?_;intro _ hw';obtain ⟨⟨dq,osq⟩,hw''⟩:=hw';have HB2:=bel_trans HB (below_regrown W dq osq);have hb2:=below_regrown W dq osq;subst hw''
 generalize grow (redrawn W dq) osq=w2 at HB2 hb2 ⊢
 have HW2:=bel_trans HW HB2
 have d1:=(HB2.cell (by exact hW0)).trans d1
 have d2:=(HB2.cell (by exact hW0)).trans d2
 have w0:=(HW2.cell (p:=⟨b,0,none⟩) lb).trans (by simp [World.cell?,Hb.out]:w.cell? ⟨b,0,none⟩=some (.slice (some ⟨rb,0,none⟩) n cap))
 clear d1q d2q w0q e1q e2q e1 e2 w1 hl hb2
 cases t with
 | false=>
  go_wp2;go_ret
  exact ⟨rfl,S,H0.out.below HW2,fun k hk=>.inl hk,.of_below HW2⟩
 | true=>
  have hI2:=HI.out.below HW2;have hM2:=HM.out.below HW2;have hb2:=(HW2.block b lb).trans Hb.out;have kf0:=hI2.frozen (k*3);have kf1:=hI2.frozen (k*3+1);obtain ⟨c1,c2,c3⟩:=hI2.cells hk;clear c3;go_wp2_with fail
  go_still_tail 8,(by kernel_rfl)
  change wpList _ _ _ _ _ w2.drew
  have HW3:Below w.heap.size w w2.drew:=bel_drew HW2;clear hI2 hM2 hb2 kf0 kf1 c1 c2 d1 d2 w0 HB2
  generalize w2.drew=w3 at *
  have hI3:=HI.out.below HW3;have hM3:=HM.out.below HW3;have hb3:=(HW3.block b lb).trans Hb.out;have kf0:=hI3.frozen (k*3);have kf1:=hI3.frozen (k*3+1);obtain ⟨c1,c2,c3⟩:=hI3.cells hk;clear c3;have hI4:=hI3.set2 hk ⟨⟨ds,dd⟩,id⟩ hck'.out
  have hK4:Kept [rb] w3 ((w3.setCell ⟨rb,k*3,none⟩ (.int .i64 ds)).setCell ⟨rb,k*3+1,none⟩ (.int .i64 dd)):=(((Kept.refl _ _).setCell (.inl (by simp))).setCell (.inl (by simp)))
  have hK5:Kept S w ((w3.setCell ⟨rb,k*3,none⟩ (.int .i64 ds)).setCell ⟨rb,k*3+1,none⟩ (.int .i64 dd)):=((Kept.of_below HW3).setCell (.inl hrS)).setCell (.inl hrS)
  have hM4:=hM3.kept hK4 (by simpa using Ne.symm hrm)
  have hb4:=(hK4.block b (by have:=HW3.size;omega) (by simpa using hbr)).trans hb3
  have H4:=Lib.hid (show HeapIn _ b rb cap n mb (upd c k ⟨⟨ds,dd⟩,id⟩)∧MapAt (fun z:Int=>Value.int .i64 z) _ mb m N∧Kept S w _ from ⟨⟨hb4,hI4⟩,hM4,hK5⟩)
  clear hI3 hM3 hb3 hI4 hK4 hM4 hb4 hK5;go_wp2_with fail
  generalize ((w3.setCell ⟨rb,k*3,none⟩ (.int .i64 ds)).setCell ⟨rb,k*3+1,none⟩ (.int .i64 dd))=w4 at *
  have cU:=Lib.hid (heapUp w4 b rb cap n mb N (upd c k ⟨⟨ds,dd⟩,id⟩) m k H4.out.1 H4.out.2.1 hk hbr hne hrm (Holds.cc hHp.out hCp.out) (hLp.out (by simp)) hDp.out (by rw [upd_same];exact hPp.out))
  have hK:=H4.out.2.2;clear H4
  (with_reducible refine (cU.out).mono ?_)
  rintro e w5 ⟨rfl,hF⟩;have hE:=heapOf_end hF hbr hne hrm hHp.out hCp.out hK ab amS (.inl hrS) (.bool true);clear hF hK;go_wp2;go_ret;exact hE
def PopD (w:World) (S:List Nat) (b n:Nat) (hp:Int→Option C) (e:Ending) (w':World):Prop:=
 ∃id ds dd,hp id=some ⟨ds,dd⟩∧(∀id' d',hp id'=some d'→It.le ⟨⟨ds,dd⟩,id⟩ ⟨d',id'⟩)∧e=.returned (.tuple #[.int .i64 id,.agg #[.int .i64 ds,.int .i64 dd],.bool true]) ∧
  HeapOf w' S b n (hset hp id none)∧Kept S w w'
theorem hset_none_cc {hp:Int→Option C} {i:Int} (h:∀z d,hp z=some d→inCC d):∀z d,hset hp i none z=some d→inCC d:=by
 intro z d hz;unfold hset at hz
 by_cases e:z=i
 ·rw [if_pos e] at hz;cases hz
 ·rw [if_neg e] at hz;exact h z d hz
theorem ItemsIn.take {w:World} {b cap n:Nat} {c:Nat→It} (h:ItemsIn w b cap n c) (k:Nat) (hk:k≤n):ItemsIn w b cap k c:=by
 obtain ⟨h1,h2,cur,h3,h4,h5⟩:=h
 exact ⟨by omega,h2,cur,h3,h4,fun j hj=>h5 j (by omega)⟩
theorem two_set {w : World} {b : Nat} {x y u v : Value} (h1 : w.cell? ⟨b, 0, none⟩ = some u) (h2 : w.cell? ⟨b, 1, none⟩ = some v) :
    ((w.setCell ⟨b,0,none⟩ x).setCell ⟨b,1,none⟩ y).drew.cell? ⟨b,0,none⟩=some x∧((w.setCell ⟨b,0,none⟩ x).setCell ⟨b,1,none⟩ y).drew.cell? ⟨b,1,none⟩=some y:=by
 have e1:((w.setCell ⟨b,0,none⟩ x).setCell ⟨b,1,none⟩ y).cell? ⟨b,0,none⟩=some x:=
  (World.cell?_setCell_other (w:=w.setCell ⟨b,0,none⟩ x) (a:=⟨b,1,none⟩) (b:=⟨b,0,none⟩) (v:=y) (by simp)).trans (World.cell?_setCell_same (w:=w) (a:=⟨b,0,none⟩) (v:=x) h1)
 have e2:((w.setCell ⟨b,0,none⟩ x).setCell ⟨b,1,none⟩ y).cell? ⟨b,1,none⟩=some y:=
  World.cell?_setCell_same (w:=w.setCell ⟨b,0,none⟩ x) (a:=⟨b,1,none⟩) (v:=y) ((World.cell?_setCell_other (w:=w) (a:=⟨b,0,none⟩) (b:=⟨b,1,none⟩) (v:=x) (by simp)).trans h2)
 exact ⟨e1,e2⟩
theorem pop_end {w w7 w8 : World} {S : List Nat} {b k : Nat} {hp : Int → Option C} {xs xd xi : Int} (hx : hp xi = some ⟨xs, xd⟩) (hmin : ∀ id' d', hp id' = some d' → It.le ⟨⟨xs, xd⟩, xi⟩ ⟨d', id'⟩) (hO : HeapOf w7 S b k (hset hp xi none)) (hK : Kept S w w7)
    (h8:Kept [w.heap.size] w7 w8) (hS:∀j∈S,j<w.heap.size):PopD w S b k hp (.returned (.tuple #[.int .i64 xi,.agg #[.int .i64 xs,.int .i64 xd],.bool true])) w8:=by
 refine ⟨xi,xs,xd,hx,hmin,rfl,hO.kept h8 ?_,?_⟩
 ·intro j hj e;simp at e;have:=hS j hj;omega
 ·refine ⟨h8.os.trans hK.os,h8.tape.trans hK.tape,h8.output.trans hK.output,Nat.le_trans hK.size h8.size,fun j hj hn=>?_⟩
  exact (h8.block j (Nat.lt_of_lt_of_le hj hK.size) (by simp;omega)).trans (hK.block j hj hn)
theorem pop_min {n:Nat} {c:Nat→It} {hp:Int→Option C} (hL:HeapL n c) (hH:Holds n c hp):∀id' d',hp id'=some d'→It.le (c 0) ⟨d',id'⟩:=by
 intro id d h;obtain ⟨k,hk,e⟩:=(hH id d).1 h;rw [←e];exact heap_min hL k hk
theorem heapPop_none (w : World) (S : List Nat) (b : Nat) (hp : Int → Option C) (h : HeapOf w S b 0 hp) :
    Calls Tryz.prog 113 #[.pointer (some ⟨b,0,none⟩)] w fun e w'=>e=.returned (.tuple #[.int .i64 0,.agg #[.int .i64 0,.int .i64 0],.bool false])∧Below w.heap.size w w':=by
 obtain ⟨mb,m,N,c,sl,hb,hM,hne,hR,hP,hH,hD,hL,hC⟩:=h;have lb:=(Array.getElem?_eq_some_iff.1 hb).1
 have k0:w.cell? ⟨b,0,none⟩=some sl:=by simp [World.cell?,hb]
 obtain ⟨A,cap,rfl⟩:∃A cap,sl=.slice A 0 cap:=by
  rcases hR with ⟨h1,_⟩ | ⟨rb,cap,h1,_⟩
  ·exact ⟨_,_,h1⟩
  ·exact ⟨_,_,h1⟩
 clear hb hM hR hP hH hD hL hC;go_enter Tryz.func113,Tryz.ntmps113;go_wp2
 refine bodyPost_ret (v:=.tuple #[.int .i64 0,.agg #[.int .i64 0,.int .i64 0],.bool false]) (by simp [results,Tryz.results113,go_sem]) rfl ?_
 exact ⟨rfl,by (repeat' (first | exact Below.refl _ _ | assumption | apply bel_drewN | apply bel_drew | apply bel_alloc | (refine bel_trans ?_ (by assumption))))⟩
theorem heapPop_some (w : World) (S : List Nat) (b k : Nat) (hp : Int → Option C) (h : HeapOf w S b (k + 1) hp) (hn : k ≤ 1000000) :
    Calls Tryz.prog 113 #[.pointer (some ⟨b,0,none⟩)] w (PopD w S b k hp):=by
 have hSl:=Lib.hid h.lt;obtain ⟨mb,m,N,c,sl,hb,hM,hne,hR,hP,hH,hD,hL,hC⟩:=h;have lb:=(Array.getElem?_eq_some_iff.1 hb).1;have lm:=hM.lt;obtain ⟨ag,am,aS,ab,amS⟩:=hR.own hne
 rcases hR with ⟨_,hn0,_⟩ | ⟨rb,cap,rfl,hI,hbr,hrm,hS⟩
 ·omega
 have lr:=hI.lt;have hcap:=hI.1
 have hrS:rb∈S:=by rw [hS];simp
 obtain ⟨⟨⟨xs,xd⟩,xi⟩,hx⟩:∃x,c 0=x:=⟨_,rfl⟩;obtain ⟨⟨⟨ys,yd⟩,yi⟩,hy⟩:∃y,c k=y:=⟨_,rfl⟩;have hH2:=Holds.pop hH hD;have hH0:=@Holds.pop0 c hp;have hD2:=Dst.pop hD;have hP2:=hP.pop hD (.int .i64 (0:Nat));have hP0:=@PosMap.pop0 c m;have hmin:=pop_min hL hH
 have hx1:hp xi=some ⟨xs,xd⟩:=(hH _ _).2 ⟨0,by omega,hx⟩
 have hL2:=heap_dn (n:=k) (y:=c k) (fun j hj j0=>hL j (by omega) j0)
 have hC2:=hset_none_cc (i:=xi) hC
 have hCc:inCC (⟨ys,yd⟩:C):=hC _ _ ((hH yi ⟨ys,yd⟩).2 ⟨k,by omega,hy⟩)
 obtain ⟨a1,a2,a3⟩:=hI.cells (k:=0) (by omega)
 obtain ⟨b1,b2,b3⟩:=hI.cells (k:=k) (by omega)
 rw [hx] at a1 a2 a3 hH2 hH0 hP2 hP0 hmin;rw [hy] at b1 b2 b3 hH2 hD2 hP2 hL2;simp only [Nat.zero_mul,Nat.zero_add] at a1 a2 a3 b1 b2 b3 hH2 hH0 hP2 hP0;have hH2:=Lib.hid hH2;have hH0:=Lib.hid hH0;have hD2:=Lib.hid hD2;have hP2:=Lib.hid hP2;have hP0:=Lib.hid hP0;have hmin:=Lib.hid hmin;have hx1:=Lib.hid hx1;have hL2:=Lib.hid hL2;have hC2:=Lib.hid hC2;have hHH:=Lib.hid hH;have hPP:=Lib.hid hP;have hDD:=Lib.hid hD
 have Hb:=Lib.hid hb;have HM:=Lib.hid hM;have HI:=Lib.hid hI;have HS:=Lib.hid hS;have Hx:=Lib.hid hx
 have k0:w.cell? ⟨b,0,none⟩=some (.slice (some ⟨rb,0,none⟩) (k+1) cap):=by simp [World.cell?,hb]
 have k1:w.cell? ⟨b,1,none⟩=some (.map (some mb)):=by simp [World.cell?,hb]
 have kf:w.frozen? ⟨b,0,none⟩=false:=by simp [World.frozen?,hb]
 clear hb hM hP hH hD hL hC hI hS hx hy aS;go_enter Tryz.func113,Tryz.ntmps113
 go_upto_region 6 with (fail)
 refine wp_name ?_;intro W hW
 have HW:Below w.heap.size w W:=by rw [hW];(repeat' (first | exact Below.refl _ _ | assumption | apply bel_drewN | apply bel_drew | apply bel_alloc | (refine bel_trans ?_ (by assumption))))
 have hW0:w.heap.size+2<W.heap.size:=by rw [hW];simp
 have z1:W.cell? ⟨w.heap.size+1,0,none⟩=some (.int .i64 xs):=by rw [hW];go_simp
 have z2:W.cell? ⟨w.heap.size+1,1,none⟩=some (.int .i64 xd):=by rw [hW];go_simp
 have z3:W.cell? ⟨w.heap.size+1,2,none⟩=some (.int .i64 xi):=by rw [hW];go_simp
 have y1:W.cell? ⟨w.heap.size+1+1,0,none⟩=some (.int .i64 ys):=by rw [hW];go_simp
 have y2:W.cell? ⟨w.heap.size+1+1,1,none⟩=some (.int .i64 yd):=by rw [hW];go_simp
 have y3:W.cell? ⟨w.heap.size+1+1,2,none⟩=some (.int .i64 yi):=by rw [hW];go_simp
 have r1:W.cell? ⟨w.heap.size,0,none⟩=some (.int .i64 0):=by rw [hW];go_simp
 have r2:W.cell? ⟨w.heap.size,1,none⟩=some (.int .i64 0):=by rw [hW];go_simp
 have f1:W.frozen? ⟨w.heap.size,0,none⟩=false:=by rw [hW];go_simp
 have f2:W.frozen? ⟨w.heap.size,1,none⟩=false:=by rw [hW];go_simp
 clear hW a1 a2 a3 b1 b2 b3;have k0:=(HW.cell (p:=⟨b,0,none⟩) lb).trans k0;have kf:=(HW.frozen (p:=⟨b,0,none⟩) lb).trans kf
 go_upto_region 7 with (fail)
 have hb1:=(HW.block b lb).trans Hb.out;have hI1:=HI.out.below HW;have hM1:=HM.out.below HW
 have hK3:Kept [b] W (W.setCell ⟨b,0,none⟩ (.slice (some ⟨rb,0,none⟩) k cap)):=(Kept.refl _ _).setCell (.inl (by simp))
 have hb3:(W.setCell ⟨b,0,none⟩ (.slice (some ⟨rb,0,none⟩) k cap)).heap[b]? = some (.cells #[.slice (some ⟨rb,0,none⟩) k cap,.map (some mb)] 217 (0,0)):=by rw [set_heapH _ _ _ _ _ _ hb1];rfl
 have hI3:=(hI1.kept hK3 (by simpa using Ne.symm hbr)).take k (by omega)
 have hM3:=hM1.kept hK3 (by simpa using Ne.symm hne)
 have e3:∀j u,W.cell? ⟨w.heap.size+1,j,none⟩=some u→(W.setCell ⟨b,0,none⟩ (.slice (some ⟨rb,0,none⟩) k cap)).cell? ⟨w.heap.size+1,j,none⟩=some u:=fun j u hu=>(World.cell?_of_block (hK3.block (w.heap.size+1) (by omega) (by simp;omega))).trans hu
 have v3:=e3 _ _ z3;have hK:Kept S w (W.setCell ⟨b,0,none⟩ (.slice (some ⟨rb,0,none⟩) k cap)):=(Kept.of_below HW).setCell (.inl ab);clear e3 hb1 hI1 hM1 k0 kf k1
 generalize (W.setCell ⟨b,0,none⟩ (.slice (some ⟨rb,0,none⟩) k cap))=w3 at *
 have b0:w3.cell? ⟨b,0,none⟩=some (.slice (some ⟨rb,0,none⟩) k cap):=by simp [World.cell?,hb3]
 have b1:w3.cell? ⟨b,1,none⟩=some (.map (some mb)):=by simp [World.cell?,hb3]
 have hs3:=hK3.size;have Hb3:=Lib.hid hb3;clear hb3
 go_still_tail 6,(by kernel_rfl)
 change wpList _ _ _ _ _ w3.drew
 refine wpList_dropM rfl _ _ rfl (int_fit Tryz.underlying3) Tryz.underlying150 (w:=w3.drew) (n:=N) (m:=m) (b:=mb) hM3 rfl xi rfl ?_;intro w5 hM5 hK5;have hK35:Kept [mb] w3 w5:=(Kept.refl _ _).drew.trans hK5
 have hKW:Kept [b,mb] W w5:=(hK3.more (by simp)).trans (hK35.more (by simp))
 have hKS:Kept S w w5:=hK.trans (hK35.more (by simp;exact amS))
 have hb5:=(hK35.block b (by have:=hK3.size;have:=HW.size;omega) (by simpa using hne)).trans Hb3.out
 have hI5:=hI3.kept hK35 (by simpa using hrm)
 have hs5:=hKW.size
 have hbk:∀(o j:Nat) u w6,Kept [b,rb,mb] w5 w6→o≤2→W.cell? ⟨w.heap.size+o,j,none⟩=some u→w6.cell? ⟨w.heap.size+o,j,none⟩=some u:=by
  intro o j u w6 hk6 ho hu
  refine (World.cell?_of_block (hk6.block (w.heap.size+o) (by omega) (by simp;omega))).trans ?_
  exact (World.cell?_of_block (hKW.block (w.heap.size+o) (by omega) (by simp;omega))).trans hu
 have hbf:∀(o j:Nat) u w6,Kept [b,rb,mb] w5 w6→o≤2→W.frozen? ⟨w.heap.size+o,j,none⟩=u→w6.frozen? ⟨w.heap.size+o,j,none⟩=u:=by
  intro o j u w6 hk6 ho hu
  refine (World.frozen?_of_block (hk6.block (w.heap.size+o) (by omega) (by simp;omega))).trans ?_
  exact (World.frozen?_of_block (hKW.block (w.heap.size+o) (by omega) (by simp;omega))).trans hu
 have hbk:=Lib.hid hbk;have hbf:=Lib.hid hbf;have Z:=Lib.hid (And.intro z1 (And.intro z2 (And.intro z3 (And.intro r1 (And.intro r2 (And.intro f1 f2))))))
 have hI5':=Lib.hid (show HeapIn w5 b rb cap k mb c from ⟨hb5,hI5⟩)
 clear hI3 hM3 hK3 hK35 hK v3 b0 b1 hs3 Hb3 HI HM Hb z1 z2 z3 r1 r2 f1 f2 hb5 hI5 hKW hK5
 by_cases hk0:k=0
 ·subst hk0
  have HK:=Kept.refl [b,rb,mb] w5;clear y1 y2 y3
  have hO:HeapOf w5 S b 0 (hset hp xi none):=⟨mb,_,_,c,_,hI5'.out.1,hM5,hne,.inr ⟨rb,cap,rfl,hI5'.out.2,hbr,hrm,HS.out⟩,hP0.out hPP.out,hH0.out hHH.out,fun i j hi=>by omega,fun j hj=>by omega,hC2.out⟩
  have hKO:=hKS;clear hM5 hKS
  have z1:=hbk.out 1 0 _ w5 HK (by omega) Z.out.1
  have z2:=hbk.out 1 1 _ w5 HK (by omega) Z.out.2.1
  have z3:=hbk.out 1 2 _ w5 HK (by omega) Z.out.2.2.1
  have r1:=hbk.out 0 0 _ w5 HK (by omega) Z.out.2.2.2.1
  have r2:=hbk.out 0 1 _ w5 HK (by omega) Z.out.2.2.2.2.1
  have f1:=hbf.out 0 0 _ w5 HK (by omega) Z.out.2.2.2.2.2.1
  have f2:=hbf.out 0 1 _ w5 HK (by omega) Z.out.2.2.2.2.2.2
  simp only [Nat.add_zero] at r1 r2 f1 f2
  go_upto_region 11 with (fail)
  have E1:=Lib.hid (And.intro hO hKO);clear hO hKO;have E2:=Lib.hid (two_set (x:=.int .i64 xs) (y:=.int .i64 xd) r1 r2)
  have E3:Kept [w.heap.size] w5 ((w5.setCell ⟨w.heap.size,0,none⟩ (.int .i64 xs)).setCell ⟨w.heap.size,1,none⟩ (.int .i64 xd)).drew:=(((Kept.refl _ _).setCell (.inl (by simp))).setCell (.inl (by simp))).drew
  go_region;go_wp2;obtain ⟨q1,q2⟩:=E2.out
  generalize ((w5.setCell ⟨w.heap.size,0,none⟩ (.int .i64 xs)).setCell ⟨w.heap.size,1,none⟩ (.int .i64 xd)).drew=w8 at q1 q2 E3 ⊢
  refine bodyPost_ret (v:=.tuple #[.int .i64 xi,.agg #[.int .i64 xs,.int .i64 xd],.bool true]) (by simp [results,Tryz.results113,go_sem,q1,q2]) rfl ?_
  exact pop_end hx1.out hmin.out E1.out.1 E1.out.2 E3 hSl.out
 ·have HK5:=Kept.refl [b,rb,mb] w5
  have y1:=hbk.out 2 0 _ w5 HK5 (by omega) y1
  have y2:=hbk.out 2 1 _ w5 HK5 (by omega) y2
  have y3:=hbk.out 2 2 _ w5 HK5 (by omega) y3
  have hk1:0<k:=by omega
  have hk2:decide (0<(k:Int))=true:=by simp;omega
  have hk3:decide (0<k)=true:=by simp;omega
  have cP:=Lib.hid (heapPut w5 b rb cap k mb _ c _ 0 ⟨⟨ys,yd⟩,yi⟩ hI5'.out hM5 hk1 hbr hne hrm);clear hM5;go_wp2_with fail;refine (cP.out).mono ?_;rintro e w6 ⟨rfl,hI6,⟨N6,hM6⟩,hK6⟩
  have cD:=Lib.hid (heapDown w6 b rb cap k mb N6 _ _ 0 hI6 hM6 hk1 (by omega) hbr hne hrm (Holds.cc hH2.out hC2.out) hL2.out hD2.out (by rw [upd_same];exact hP2.out))
  clear hI6 hM6 y1 y2 y3 cP HK5;go_wp2_with fail;refine (cD.out).mono ?_;rintro e w7 ⟨rfl,hF⟩;obtain ⟨hO,hK7⟩:=hF.heapOf hbr hne hrm hH2.out hC2.out;rw [←HS.out] at hO
  have hK67:Kept [b,rb,mb] w5 w7:=(hK6.more (by simp)).trans (hK7.more (by simp))
  have hKO:Kept S w w7:=hKS.trans (hK67.more (by rw [HS.out];simp))
  have HK:=hK67;clear hF hK6 hK7 hK67 cD hKS
  have z1:=hbk.out 1 0 _ w7 HK (by omega) Z.out.1
  have z2:=hbk.out 1 1 _ w7 HK (by omega) Z.out.2.1
  have z3:=hbk.out 1 2 _ w7 HK (by omega) Z.out.2.2.1
  have r1:=hbk.out 0 0 _ w7 HK (by omega) Z.out.2.2.2.1
  have r2:=hbk.out 0 1 _ w7 HK (by omega) Z.out.2.2.2.2.1
  have f1:=hbf.out 0 0 _ w7 HK (by omega) Z.out.2.2.2.2.2.1
  have f2:=hbf.out 0 1 _ w7 HK (by omega) Z.out.2.2.2.2.2.2
  simp only [Nat.add_zero] at r1 r2 f1 f2
  go_upto_region 11 with (fail)
  have E1:=Lib.hid (And.intro hO hKO);clear hO hKO;have E2:=Lib.hid (two_set (x:=.int .i64 xs) (y:=.int .i64 xd) r1 r2)
  have E3:Kept [w.heap.size] w7 ((w7.setCell ⟨w.heap.size,0,none⟩ (.int .i64 xs)).setCell ⟨w.heap.size,1,none⟩ (.int .i64 xd)).drew:=(((Kept.refl _ _).setCell (.inl (by simp))).setCell (.inl (by simp))).drew
  go_region;go_wp2;obtain ⟨q1,q2⟩:=E2.out
  generalize ((w7.setCell ⟨w.heap.size,0,none⟩ (.int .i64 xs)).setCell ⟨w.heap.size,1,none⟩ (.int .i64 xd)).drew=w8 at q1 q2 E3 ⊢
  refine bodyPost_ret (v:=.tuple #[.int .i64 xi,.agg #[.int .i64 xs,.int .i64 xd],.bool true]) (by simp [results,Tryz.results113,go_sem,q1,q2]) rfl ?_
  exact pop_end hx1.out hmin.out E1.out.1 E1.out.2 E3 hSl.out
end Go.Proofs.YtkdndoefgnfbnaaGreatDoor
namespace Go.Proofs.YtkdndoefgnfbnaaGreatDoor
open Go.RowKit Go.Sort
open Go.ChangeMaps (setBlock)
def RangeAt {K:Type} (kf:K→Value) (w:World) (b r:Nat) (m:K→Option Value) (left:K→Prop) (cnt:Nat):Prop:=
 ∃es clk since seen c0,w.heap[b]? = some (.map es clk)∧MapKept.Stamped es clk∧(∀e∈es.toList,∃k,e.key=kf k∧m k=some e.val)∧(∀k v,m k=some v→∃e∈es.toList,e.key=kf k∧e.val=v) ∧
  w.heap[r]? = some (.mapIter (some b) since seen c0)∧(∀x∈es.toList,x.born<since)∧(leftOf es seen).size=cnt∧(∀x∈es.toList,∀k,x.key=kf k→(left k↔seen.contains x.born=false))∧(∀k,left k→m k≠none)∧since≤c0∧since≤clk
section
variable {P:Program} {kt et mt:TypeId} {K:Type} {kf:K→Value} {w:World} {b r n cnt:Nat} {m:K→Option Value} {left:K→Prop}
theorem RangeAt.map (h:RangeAt kf w b r m left cnt):∃n,MapAt kf w b m n:=by
 obtain ⟨es,clk,since,seen,c0,h1,h2,h3,h4,_⟩:=h;exact ⟨_,es,clk,h1,h2,rfl,h3,h4⟩
theorem RangeAt.lt (h:RangeAt kf w b r m left cnt):b<w.heap.size∧r<w.heap.size:=by
 obtain ⟨es,clk,since,seen,c0,h1,h2,h3,h4,h5,_⟩:=h;exact ⟨(Array.getElem?_eq_some_iff.1 h1).1,(Array.getElem?_eq_some_iff.1 h5).1⟩
theorem RangeAt.kept {S:List Nat} {w':World} (h:RangeAt kf w b r m left cnt) (hk:Kept S w w') (hb:b∉S) (hr:r∉S):RangeAt kf w' b r m left cnt:=by
 obtain ⟨l1,l2⟩:=h.lt;obtain ⟨es,clk,since,seen,c0,h1,h2,h3,h4,h5,h6⟩:=h;exact ⟨es,clk,since,seen,c0,(hk.block b l1 hb).trans h1,h2,h3,h4,(hk.block r l2 hr).trans h5,h6⟩
theorem RangeAt.below {w':World} (h:RangeAt kf w b r m left cnt) (hb:Below w.heap.size w w'):RangeAt kf w' b r m left cnt:=h.kept (S:=[]) (.of_below hb) (by simp) (by simp)
theorem RangeAt.left_eq (h:RangeAt kf w b r m left cnt):w.rangeLeft b r=cnt:=by
 obtain ⟨es,clk,since,seen,c0,h1,_,_,_,h5,_,h7,_⟩:=h;simp only [World.rangeLeft,h1,h5];exact h7
theorem RangeAt.iff {left':K→Prop} (h:RangeAt kf w b r m left cnt) (hl:∀k,left k↔left' k):RangeAt kf w b r m left' cnt:=by
 obtain ⟨es,clk,since,seen,c0,h1,h2,h3,h4,h5,h6,h7,h8,h9,h10⟩:=h
 exact ⟨es,clk,since,seen,c0,h1,h2,h3,h4,h5,h6,h7,fun x hx k hk=>(hl k).symm.trans (h8 x hx k hk),fun k hk=>h9 k ((hl k).2 hk),h10⟩
theorem MapAt.range (inj : ∀ a b, kf a = kf b → a = b) (ht : P.underlying mt = some (.map kt et)) (h : MapAt kf w b m n) :
    ∃o,(Instr.range mt (.map (some b))).run P w=.ok (.pointer (some ⟨w.heap.size,0,none⟩)) (w.alloc o)∧RangeAt kf (w.alloc o) b w.heap.size m (fun k=>m k≠none) n:=by
 have hlt:=h.lt;obtain ⟨es,clk,hb,hS,hn,h1,h2⟩:=h
 refine ⟨_,run_range_map w mt kt et b es clk ht hb,es,clk,clk,#[],clk,((MapKept.heap_alloc w _).2 b hlt).trans hb,hS,h1,h2,(MapKept.heap_alloc w _).1,hS.1,by subst hn;simp [leftOf],fun x hx k hk=>?_,fun k hk=>hk,Nat.le_refl _,Nat.le_refl _⟩
 obtain ⟨k',e1,e2⟩:=h1 x hx;obtain rfl:=inj _ _ (hk.symm.trans e1);simp [e2]
theorem RangeAt.next (inj : ∀ a b, kf a = kf b → a = b) (h : RangeAt kf w b r m left cnt) (ty : TypeId) :
    (cnt=0∧(∀k,¬left k)∧(Instr.next (.pointer (some ⟨r,0,none⟩)) false ty).run P w=.ok (.tuple #[.bool false]) w) ∨
    ∃k v w' cnt',m k=some v∧left k∧(Instr.next (.pointer (some ⟨r,0,none⟩)) false ty).run P w=.ok (.tuple #[.bool true,kf k,v]) w'∧RangeAt kf w' b r m (fun j=>left j∧j≠k) cnt'∧cnt'<cnt∧Kept [r] w w' ∧
     w'.heap.size=w.heap.size∧(Instr.entry (.pointer (some ⟨r,0,none⟩))).run P w'=.ok (.tuple #[kf k,v]) w':=by
 obtain ⟨es,clk,since,seen,c0,hb,hS,h3,h4,hr,hold,rfl,hl1,hl2,hsc,hsk⟩:=h
 have hne:r≠b:=by
  intro e;rw [e,hb] at hr
  cases hr
 rcases run_next_at (P:=P) w ty r b since c0 seen es clk hr hb hold hsc with ⟨h0,hrun⟩ | ⟨e,he,w1,hal,hrun⟩
 ·refine .inl ⟨h0,fun k hk=>?_,hrun⟩
  cases hm:m k with
  | none=>exact hl2 k hk hm
  | some v=>
   obtain ⟨e,he,e1,e2⟩:=h4 k v hm;have:=(hl1 e he k e1).1 hk;rw [all_seen es seen h0 e he] at this
   cases this
 ·obtain ⟨hem,hes⟩:=mem_left he
  obtain ⟨k,ek,hv⟩:=h3 e hem
  have hr1:w1.heap[r]? = some (.mapIter (some b) since seen c0):=by rcases hal with rfl | rfl <;> exact hr
  have hb1:w1.heap[b]? = some (.map es clk):=by rcases hal with rfl | rfl <;> exact hb
  have hset:=MapKept.heap_set (o':=.mapIter (some b) since (seen.push e.born) clk) hr1
  have hb':(setBlock w1 r (.mapIter (some b) since (seen.push e.born) clk)).heap[b]? = some (.map es clk):=(hset.2 b (fun e1=>hne e1.symm)).trans hb1
  have hst:=(MapKept.stamped_iff es clk).1 hS;rw [ek] at hrun;have hen:=run_entry_at (P:=P) _ r b since seen es clk e hset.1 hb' hem hst.2.1;rw [ek] at hen
  refine .inr ⟨k,e.val,_,_,hv,(hl1 e hem k ek).2 hes,hrun,⟨es,clk,since,seen.push e.born,clk,hb',hS,h3,h4,hset.1,hold,rfl,fun x hx k' hk'=>?_,fun j hj=>hl2 j hj.1,hsk,hsk⟩,left_shrinks es seen e he,?_,?_,hen⟩
  ·show (left k'∧k'≠k)↔_
   rw [hl1 x hx k' hk',contains_push,Bool.or_eq_false_iff]
   have:x.born=e.born↔k'=k:=by
    constructor
    ·intro hbe
     obtain rfl:=born_inj hst.2.1 hx hem hbe;exact inj _ _ (hk'.symm.trans ek)
    ·rintro rfl
     exact congrArg MapEntry.born (entry_eq_of_key hst.2.2 hx hem (hk'.trans ek.symm))
   constructor
   ·rintro ⟨a1,a2⟩
    exact ⟨a1,by rw [beq_eq_false_iff_ne];exact fun hh=>a2 (this.1 hh)⟩
   ·rintro ⟨a1,a2⟩
    exact ⟨a1,fun hh=>by rw [beq_eq_false_iff_ne] at a2;exact a2 (this.2 hh)⟩
  ·rcases hal with rfl | rfl <;> exact ⟨rfl,rfl,rfl,by simp [setBlock],fun i _ hi=>hset.2 i (fun e1=>hi (by rw [e1];simp))⟩
  ·rcases hal with rfl | rfl <;> simp [setBlock]
theorem wpList_rangeM {ops : Array Oper} {rest : List Oper} {o : Oper} {a : Act} {Q : Exit → Act → World → Prop} (hg : o.guard = none) (mo : Operand) (hop : o.op = Op.range mt mo)
    (inj:∀a b,kf a=kf b→a=b) (ht:P.underlying mt=some (.map kt et)) (h:MapAt kf w b m n) (hm:a.eval mo=.map (some b))
    (hK:∀w',RangeAt kf w' b w.heap.size m (fun k=>m k≠none) n→Below w.heap.size w w'→w'.heap.size=w.heap.size+1→wpList P ops Q rest (a.put o.dst (.pointer (some ⟨w.heap.size,0,none⟩))) w'):wpList P ops Q (o :: rest) a w:=by
 refine wpList_plain hg fun K' hK'=>?_
 obtain ⟨ob,hrun,r1⟩:=h.range inj ht;unfold Oper.wp;simp [execOp,hop,hm,hrun,Result.andThen]
 exact hK' _ _ (hK _ r1 ((Below.refl _ _).alloc (Nat.le_refl _) _) (by simp))
theorem wpList_nextM {ops : Array Oper} {rest : List Oper} {o : Oper} {a : Act} {Q : Exit → Act → World → Prop} (hg : o.guard = none) (it : Operand) (hop : o.op = Op.next it false)
    (inj:∀a b,kf a=kf b→a=b) (h:RangeAt kf w b r m left cnt) (hit:a.eval it=.pointer (some ⟨r,0,none⟩))
    (hDone:cnt=0→(∀k,¬left k)→wpList P ops Q rest (a.put o.dst (.tuple #[.bool false])) w)
    (hMore:∀(k:K) (v:Value) (w':World) (cnt':Nat),m k=some v→left k→RangeAt kf w' b r m (fun j=>left j∧j≠k) cnt'→cnt'<cnt→Kept [r] w w'→w'.heap.size=w.heap.size→
     (Instr.entry (.pointer (some ⟨r,0,none⟩))).run P w'=.ok (.tuple #[kf k,v]) w'→wpList P ops Q rest (a.put o.dst (.tuple #[.bool true,kf k,v])) w'):wpList P ops Q (o :: rest) a w:=by
 refine wpList_plain hg fun K' hK'=>?_
 unfold Oper.wp
 rcases h.next (P:=P) inj o.type with ⟨h0,hl,hrun⟩ | ⟨k,v,w',cnt',h1,h2,hrun,h3,h4,h5,h6,h7⟩
 ·simp [execOp,hop,hit,hrun,Result.andThen]
  exact hK' _ _ (hDone h0 hl)
 ·simp [execOp,hop,hit,hrun,Result.andThen]
  exact hK' _ _ (hMore k v w' cnt' h1 h2 h3 h4 h5 h6 h7)
end
end Go.Proofs.YtkdndoefgnfbnaaGreatDoor
