/- Lemmas of this claim: Cost, Cost2, Grid, Grid2, RGrid, May, Grid3, RGrid2, Laid, App, Corner, Moves, RowSet, RCorner, Fld. -/
import Derived.Test.YtokhnobcincfjaaGreatDoorBase
import Derived.Test.YtokhnobcincfjaaGreatDoorKNFr1
import Derived.Outline
import Derived.Laws.BitsAllLaws
import Derived.RegionTactic
import Derived.BigRegion
import Derived.Deep.Cut
import Derived.Laws.OwnMore
import Derived.OwnWalk
import Derived.WalkSpells
set_option linter.unusedVariables false
set_option linter.unusedSimpArgs false
set_option maxHeartbeats 4000000
namespace Go.Proofs.YtokhnobcincfjaaGreatDoor
open Go.RowKit Go.Sort FR
def cmpI (x y:Int):Int:=if x<y then -1 else if y<x then 1 else 0
theorem isNaN_int (x:Int) (w:World):Calls Tryz.prog 245 #[.int .i64 x] w fun e w'=>e=.returned (.bool false)∧w=w':=by
 go_enter Tryz.func245,Tryz.ntmps245;go_wp2;go_ret;exact ⟨rfl,rfl⟩
theorem ret_i {a b:Int} (h:a=b):Ending.returned (.int .i64 a)=.returned (.int .i64 b):=by rw [h]
theorem ret_b {a b:Bool} (h:a=b):Ending.returned (.bool a)=.returned (.bool b):=by rw [h]
theorem cmpCompare (x y:Int) (w:World):Calls Tryz.prog 236 #[.int .i64 x,.int .i64 y] w fun e w'=>e=.returned (.int .i64 (cmpI x y))∧w=w':=by
 go_enter Tryz.func236,Tryz.ntmps236;go_wp2_with (go_at_call 245;refine (isNaN_int _ _).mono ?_;rintro e w' ⟨rfl,rfl⟩)
 all_goals
  go_ret
  exact ⟨ret_i (by unfold cmpI;omega),rfl⟩
theorem cmp_same {a b c d:Int} (h:(0≤a-c∧0≤b-d)∨(a-c≤0∧b-d≤0)):cmpI (a-c+(b-d)) 0=C.cmp ⟨a,b⟩ ⟨c,d⟩:=by
 unfold cmpI C.cmp C.lt Pos;simp only;omega
theorem sq_neg (x y:Int):(x-y)*(x-y)=(y-x)*(y-x):=by grind
theorem cmp_one {a b c d:Int} (h:0<a-c) (k:b-d<0):cmpI ((a-c)*(a-c)) (2*(b-d)*(b-d))=C.cmp ⟨a,b⟩ ⟨c,d⟩:=by
 unfold cmpI C.cmp C.lt Pos;simp only;have q1:=sq_neg c a;have q2:=sq_neg d b
 have q3:2*(b-d)*(b-d)=2*((b-d)*(b-d)):=by grind
 have:=irr (a-c).natAbs (a-c) (b-d) (Nat.le_refl _);omega
theorem cmp_two {a b c d:Int} (h:a-c<0) (k:0<b-d):cmpI (2*(b-d)*(b-d)) ((a-c)*(a-c))=C.cmp ⟨a,b⟩ ⟨c,d⟩:=by
 unfold cmpI C.cmp C.lt Pos;simp only;have q1:=sq_neg c a;have q2:=sq_neg d b
 have q3:2*(b-d)*(b-d)=2*((b-d)*(b-d)):=by grind
 have:=irr (a-c).natAbs (a-c) (b-d) (Nat.le_refl _);omega
theorem sq_bd {x:Int} (h:-268435456≤x) (k:x≤268435456):0≤x*x∧x*x≤72057594037927936:=by
 refine ⟨?_,?_⟩
 ·rcases Int.le_total 0 x with h' | h'
  ·exact Int.mul_nonneg h' h'
  ·have:=Int.mul_nonneg (a:=-x) (b:=-x) (by omega) (by omega);rwa [Int.neg_mul_neg] at this
 ·rcases Int.le_total 0 x with h' | h'
  ·have:=sqle h' k;omega
  ·have:=sqle (a:=-x) (b:=268435456) (by omega) (by omega);rw [Int.neg_mul_neg] at this;omega
theorem w64_sq {x:Int} (h:-268435456≤x) (k:x≤268435456):wrap64 (x*x)=x*x:=IntWalk.wrap64_in _ (by have:=sq_bd h k;omega)
theorem w64_sq2 {x:Int} (h:-268435456≤x) (k:x≤268435456):wrap64 (2*x*x)=2*x*x:=IntWalk.wrap64_in _ (by have:=sq_bd h k;rw [Int.mul_assoc];omega)
def inC (a:Int):Prop:=-134217728≤a∧a≤134217728
instance (a:Int):Decidable (inC a):=by unfold inC;infer_instance
theorem costCompare (a b c d : Int) (w : World) (h1 : inC a) (h2 : inC b) (h3 : inC c) (h4 : inC d) :
    Calls Tryz.prog 196 #[.agg #[.int .i64 a,.int .i64 b],.agg #[.int .i64 c,.int .i64 d]] w fun e w'=>e=.returned (.int .i64 (C.cmp ⟨a,b⟩ ⟨c,d⟩))∧Below w.heap.size w w':=by
 unfold inC at h1 h2 h3 h4;go_enter Tryz.func196,Tryz.ntmps196;go_wp2_with fail;go_quiet (fail);go_wp2_with (go_at_call 236;refine (cmpCompare _ _ _).mono ?_;rintro e w' ⟨rfl,rfl⟩)
 all_goals
  go_ret;refine ⟨ret_i ?_,?_⟩
  ·first
   | (rw [w64_sq (by omega) (by omega),w64_sq2 (by omega) (by omega)];first | exact cmp_one (by omega) (by omega) | exact cmp_two (by omega) (by omega))
   | exact cmp_same (by omega)
  ·(repeat' (first | exact Below.refl _ _ | assumption | apply bel_drewN | apply bel_drew | apply bel_alloc | (refine bel_trans ?_ (by assumption))))
theorem costLess (a b c d : Int) (w : World) (h1 : inC a) (h2 : inC b) (h3 : inC c) (h4 : inC d) :
    Calls Tryz.prog 146 #[.agg #[.int .i64 a,.int .i64 b],.agg #[.int .i64 c,.int .i64 d]] w fun e w'=>e=.returned (.bool (decide (C.cmp ⟨a,b⟩ ⟨c,d⟩<0)))∧Below w.heap.size w w':=by
 go_enter Tryz.func146,Tryz.ntmps146;go_wp2_with (go_at_call 196;refine (costCompare _ _ _ _ _ h1 h2 h3 h4).mono ?_;rintro e w' ⟨rfl,hb⟩);go_ret
 exact ⟨rfl,by (repeat' (first | exact Below.refl _ _ | assumption | apply bel_drewN | apply bel_drew | apply bel_alloc | (refine bel_trans ?_ (by assumption))))⟩
theorem costAdd (a b c d : Int) (w : World) (h1 : inC a) (h2 : inC b) (h3 : inC c) (h4 : inC d) :
    Calls Tryz.prog 94 #[.agg #[.int .i64 a,.int .i64 b],.agg #[.int .i64 c,.int .i64 d]] w fun e w'=>e=.returned (.agg #[.int .i64 (a+c),.int .i64 (b+d)])∧Below w.heap.size w w':=by
 unfold inC at h1 h2 h3 h4;go_enter Tryz.func94,Tryz.ntmps94;go_wp2
 refine bodyPost_ret (v:=.agg #[.int .i64 (a+c),.int .i64 (b+d)]) (by simp [results,Tryz.results94,go_sem]) rfl ?_
 exact ⟨rfl,by (repeat' (first | exact Below.refl _ _ | assumption | apply bel_drewN | apply bel_drew | apply bel_alloc | (refine bel_trans ?_ (by assumption))))⟩
def costOk (a b:Int):Prop:=0≤a∧a≤1048576∧0≤b∧b≤1048576
theorem costOk.inC {a b:Int} (h:costOk a b):inC a∧inC b:=by unfold costOk at h;unfold Go.Proofs.YtokhnobcincfjaaGreatDoor.inC;omega
theorem abs1 (n : Int) (w : World) (h : -1099511627776 ≤ n ∧ n ≤ 1099511627776) :
    Calls Tryz.prog 152 #[.int .i64 n] w fun e w'=>e=.returned (.int .i64 (n.natAbs:Int))∧w=w':=by
 go_enter Tryz.func152,Tryz.ntmps152;go_wp2
 all_goals
  go_ret
  exact ⟨ret_i (by omega),rfl⟩
theorem as_errno (k:Int) (w:World):Sem.run Tryz.prog (Instr.typeAssert (.iface 45 (.int .i64 k)) 39 45 true) w=.ok (.tuple #[.int .i64 k,.bool true]) w:=by kernel_rfl
theorem octI_lt {x y:Int} (h:x.natAbs<y.natAbs):octI x y=⟨(y.natAbs:Int)-x.natAbs,x.natAbs⟩:=if_pos h
theorem octI_ge {x y:Int} (h:¬x.natAbs<y.natAbs):octI x y=⟨(x.natAbs:Int)-y.natAbs,y.natAbs⟩:=if_neg h
theorem costOctile (x y u v : Int) (w : World) (h1 : -1048576 ≤ x ∧ x ≤ 1048576) (h2 : -1048576 ≤ y ∧ y ≤ 1048576) (h3 : -1048576 ≤ u ∧ u ≤ 1048576) (h4 : -1048576 ≤ v ∧ v ≤ 1048576) :
    Calls Tryz.prog 89 #[.int .i64 x,.int .i64 y,.int .i64 u,.int .i64 v] w fun e w'=>e=.returned (.agg #[.int .i64 (octI (x-u) (y-v)).s,.int .i64 (octI (x-u) (y-v)).d])∧Below w.heap.size w w':=by
 by_cases hc:(x-u).natAbs<(y-v).natAbs
 ·rw [octI_lt hc]
  have hc':((x-u).natAbs:Int)<(y-v).natAbs:=by omega
  go_enter Tryz.func89,Tryz.ntmps89
  go_wp2_with (go_at_call 152;refine (abs1 _ _ (by omega)).mono ?_;rintro e w' ⟨rfl,rfl⟩)
  refine bodyPost_ret (v:=.agg #[.int .i64 (((y-v).natAbs:Int)-(x-u).natAbs),.int .i64 (x-u).natAbs]) (by simp [results,Tryz.results89,go_sem]) rfl ?_
  exact ⟨rfl,by (repeat' (first | exact Below.refl _ _ | assumption | apply bel_drewN | apply bel_drew | apply bel_alloc | (refine bel_trans ?_ (by assumption))))⟩
 ·rw [octI_ge hc]
  have hc':((y-v).natAbs:Int)≤(x-u).natAbs:=by omega
  by_cases he:((y-v).natAbs:Int)=(x-u).natAbs
  ·go_enter Tryz.func89,Tryz.ntmps89
   go_wp2_with (go_at_call 152;refine (abs1 _ _ (by omega)).mono ?_;rintro e w' ⟨rfl,rfl⟩)
   refine bodyPost_ret (v:=.agg #[.int .i64 0,.int .i64 (x-u).natAbs]) (by simp [results,Tryz.results89,go_sem]) rfl ?_
   exact ⟨by rw [he,Int.sub_self],by (repeat' (first | exact Below.refl _ _ | assumption | apply bel_drewN | apply bel_drew | apply bel_alloc | (refine bel_trans ?_ (by assumption))))⟩
  ·have he':((y-v).natAbs:Int)<(x-u).natAbs:=by omega
   clear he hc';go_enter Tryz.func89,Tryz.ntmps89
   go_wp2_with (go_at_call 152;refine (abs1 _ _ (by omega)).mono ?_;rintro e w' ⟨rfl,rfl⟩)
   refine bodyPost_ret (v:=.agg #[.int .i64 (((x-u).natAbs:Int)-(y-v).natAbs),.int .i64 (y-v).natAbs]) (by simp [results,Tryz.results89,go_sem]) rfl ?_
   exact ⟨rfl,by (repeat' (first | exact Below.refl _ _ | assumption | apply bel_drewN | apply bel_drew | apply bel_alloc | (refine bel_trans ?_ (by assumption))))⟩
def gridCells (g:G) (ws:Nat→Nat) (v:Int):Array Value:=#[.int .i64 g.w,.int .i64 g.h,.int .u64 (ws 0),.int .u64 (ws 1),.int .u64 (ws 2),.int .u64 (ws 3),.int .i64 v]
def GridAt (w:World) (p:Nat) (g:G) (v:Int):Prop:=g.ok∧∃ws:Nat→Nat,(∀i,ws i<18446744073709551616)∧w.heap[p]? = some (.cells (gridCells g ws v) 178 (0,0))∧∀c,c<256→g.b c=(ws (c / 64)).testBit (c % 64)
theorem GridAt.lt {w:World} {p:Nat} {g:G} {v:Int} (h:GridAt w p g v):p<w.heap.size:=by
 obtain ⟨_,ws,_,hb,_⟩:=h;exact (Array.getElem?_eq_some_iff.1 hb).1
theorem GridAt.below {w w':World} {p B:Nat} {g:G} {v:Int} (h:GridAt w p g v) (hb:Below B w w') (hp:p<B):GridAt w' p g v:=by
 obtain ⟨h0,ws,h1,h2,h3⟩:=h;exact ⟨h0,ws,h1,(hb.block p hp).trans h2,h3⟩
theorem GridAt.size {w:World} {p:Nat} {g:G} {v:Int} (h:GridAt w p g v):w.cell? ⟨p,0,none⟩=some (.int .i64 g.w)∧w.cell? ⟨p,1,none⟩=some (.int .i64 g.h):=by
 obtain ⟨_,ws,_,hb,_⟩:=h;simp [World.cell?,hb,gridCells]
theorem GridAt.word {w:World} {p:Nat} {g:G} {v:Int} (h:GridAt w p g v) (c:Nat) (hc:c<256):∃x:Nat,x<18446744073709551616∧w.cell? ⟨p,2+c / 64,none⟩=some (.int .u64 x)∧g.b c=x.testBit (c % 64):=by
 obtain ⟨_,ws,h1,hb,h3⟩:=h;refine ⟨ws (c / 64),h1 _,?_,h3 c hc⟩
 rcases (show c / 64=0∨c / 64=1∨c / 64=2∨c / 64=3 by omega) with e | e | e | e <;> rw [e] <;> simp [World.cell?,hb,gridCells]
theorem bit_eq (z k:Nat) (hz:z<18446744073709551616):(bits BinOp.and IntKind.u64 ((z:Int) / 2 ^ k) 1 == 0)=!z.testBit k:=by
 have e1:(z:Int) / 2 ^ k=((z / 2 ^ k:Nat):Int):=by simp
 have hlt:z / 2 ^ k<18446744073709551616:=Nat.lt_of_le_of_lt (Nat.div_le_self _ _) hz
 have e2:bits BinOp.and IntKind.u64 ((z / 2 ^ k:Nat):Int) 1=((z / 2 ^ k &&& 1:Nat):Int):=u64_and_nat _ 1 hlt (by decide)
 rw [e1,e2,Nat.and_one_is_mod,Nat.testBit_eq_decide_div_mod_eq]
 rcases Nat.mod_two_eq_zero_or_one (z / 2 ^ k) with e | e <;> rw [e] <;> rfl
def inP (x:Int):Prop:=-1048576≤x∧x≤1048576
theorem gridCell_in (w : World) (p : Nat) (g : G) (v x y : Int) (h : GridAt w p g v) (hx : 0 ≤ x) (hx' : x < g.w) (hy : 0 ≤ y) (hy' : y < g.h) :
    Calls Tryz.prog 105 #[.pointer (some ⟨p,0,none⟩),.int .i64 x,.int .i64 y] w fun e w'=>e=.returned (.tuple #[.int .i64 (y*g.w+x),.nilIface])∧w=w':=by
 obtain ⟨k1,k2⟩:=h.size;obtain ⟨o1,o2,o3,o4⟩:=h.1
 have hm:0≤y*g.w∧y*g.w≤256:=⟨Int.mul_nonneg hy (by omega),Int.le_trans (Int.mul_le_mul (show y≤16 by omega) (show (g.w:Int)≤16 by omega) (by omega) (by omega)) (by omega)⟩
 obtain ⟨m1,m2⟩:=hm;clear h;go_enter Tryz.func105,Tryz.ntmps105;go_wp2;go_ret2;exact ⟨rfl,rfl⟩
theorem gridCell_out (w : World) (p : Nat) (g : G) (v x y : Int) (h : GridAt w p g v) (ho : ¬ (0 ≤ x ∧ x < g.w ∧ 0 ≤ y ∧ y < g.h)) :
    Calls Tryz.prog 105 #[.pointer (some ⟨p,0,none⟩),.int .i64 x,.int .i64 y] w fun e w'=>e=.returned (.tuple #[.int .i64 0,.iface 45 (.int .i64 1)])∧w=w':=by
 obtain ⟨k1,k2⟩:=h.size;clear h;go_enter Tryz.func105,Tryz.ntmps105;go_wp2
 all_goals
  go_ret2;exact ⟨rfl,rfl⟩
theorem gridOpen (w : World) (p : Nat) (g : G) (v x y : Int) (h : GridAt w p g v) :
    Calls Tryz.prog 96 #[.pointer (some ⟨p,0,none⟩),.int .i64 x,.int .i64 y] w fun e w'=>e=.returned (.bool (g.op x y))∧w=w':=by
 by_cases ho:0≤x∧x<g.w∧0≤y∧y<g.h
 ·obtain ⟨a1,a2,a3,a4⟩:=ho
  have hc:=gridCell_in w p g v x y h a1 a2 a3 a4;obtain ⟨i,rfl⟩:=Int.eq_ofNat_of_zero_le a1;obtain ⟨j,rfl⟩:=Int.eq_ofNat_of_zero_le a3
  have e:((j:Int)*g.w+i)=((j*g.w+i:Nat):Int):=by simp
  have e2:g.op i j=!g.b (j*g.w+i):=by unfold G.op;simp;omega
  have hb:j*g.w+i<256:=by
   obtain ⟨o1,o2,o3,o4⟩:=h.1
   have:j*g.w≤15*16:=Nat.mul_le_mul (by omega) o2
   omega
  rw [e2];rw [e] at hc;obtain ⟨z,hz1,hz2,hz3⟩:=h.word (j*g.w+i) hb
  generalize j*g.w+i=c at *
  rw [hz3];clear h hz3 e e2;go_enter Tryz.func96,Tryz.ntmps96;go_wp2_with fail;refine hc.mono ?_;rintro e w' ⟨rfl,rfl⟩;go_wp2
  all_goals
   go_ret;exact ⟨ret_b (bit_eq _ _ hz1),rfl⟩
 ·have hc:=gridCell_out w p g v x y h ho
  have e2:g.op x y=false:=by unfold G.op;simp;omega
  rw [e2];clear h;go_enter Tryz.func96,Tryz.ntmps96;go_wp2_with fail;refine hc.mono ?_;rintro e w' ⟨rfl,rfl⟩;go_wp2;go_ret;exact ⟨rfl,rfl⟩
theorem gridCellsN (w : World) (p : Nat) (g : G) (v : Int) (h : GridAt w p g v) :
    Calls Tryz.prog 48 #[.pointer (some ⟨p,0,none⟩)] w fun e w'=>e=.returned (.int .i64 (g.n:Nat))∧Below w.heap.size w w':=by
 obtain ⟨k1,k2⟩:=h.size;obtain ⟨o1,o2,o3,o4⟩:=h.1
 have e:((g.n:Nat):Int)=(g.w:Int)*g.h:=by unfold G.n;simp
 have hm:0≤(g.w:Int)*g.h∧(g.w:Int)*g.h≤256:=by have:=G.n_le h.1;rw [←e];omega
 obtain ⟨m1,m2⟩:=hm;clear h;rw [e];clear e;go_enter Tryz.func48,Tryz.ntmps48;go_wp2_with fail;go_quiet (fail);go_wp2;go_ret
 exact ⟨rfl,by (repeat' (first | exact Below.refl _ _ | assumption | apply bel_drewN | apply bel_drew | apply bel_alloc | (refine bel_trans ?_ (by assumption))))⟩
theorem gridPlace_in (w : World) (p : Nat) (g : G) (v : Int) (c : Nat) (h : GridAt w p g v) (hc : c < g.n) :
    Calls Tryz.prog 86 #[.pointer (some ⟨p,0,none⟩),.int .i64 (c:Nat)] w fun e w'=>e=.returned (.tuple #[.int .i64 (g.X c:Nat),.int .i64 (g.Y c:Nat),.nilIface])∧Below w.heap.size w w':=by
 have k1:=h.size.1;obtain ⟨o1,o2,o3,o4⟩:=h.1
 have ex:((g.X c:Nat):Int)=(c:Int) % g.w:=by unfold G.X;simp
 have ey:((g.Y c:Nat):Int)=(c:Int) / g.w:=by unfold G.Y;simp
 rw [ex,ey]
 have q1:0≤(c:Int) / g.w:=by omega
 have q2:(c:Int) / g.w≤256:=by have:=G.Y_lt hc;omega
 clear ex ey;have hn:=G.n_le h.1;go_enter Tryz.func86,Tryz.ntmps86;go_wp2_with fail;refine (gridCellsN w p g v h).mono ?_;rintro e w1 ⟨rfl,hb⟩;have k1':=(hb.cell (p:=⟨p,0,none⟩) h.lt).trans k1;clear h;go_wp2_with fail;go_quiet (fail);go_wp2;go_ret3
 exact ⟨rfl,by (repeat' (first | exact Below.refl _ _ | assumption | apply bel_drewN | apply bel_drew | apply bel_alloc | (refine bel_trans ?_ (by assumption))))⟩
theorem gridPlace_out (w : World) (p : Nat) (g : G) (v c : Int) (h : GridAt w p g v) (hc : c < 0 ∨ g.n ≤ c) :
    Calls Tryz.prog 86 #[.pointer (some ⟨p,0,none⟩),.int .i64 c] w fun e w'=>e=.returned (.tuple #[.int .i64 0,.int .i64 0,.iface 45 (.int .i64 1)])∧Below w.heap.size w w':=by
 have hn:=G.n_le h.1
 rcases hc with hc | hc
 ·go_enter Tryz.func86,Tryz.ntmps86
  go_wp2;go_ret3
  exact ⟨rfl,by (repeat' (first | exact Below.refl _ _ | assumption | apply bel_drewN | apply bel_drew | apply bel_alloc | (refine bel_trans ?_ (by assumption))))⟩
 ·go_enter Tryz.func86,Tryz.ntmps86
  go_wp2_with fail;refine (gridCellsN w p g v h).mono ?_;rintro e w1 ⟨rfl,hb⟩;clear h;go_wp2;go_ret3
  exact ⟨rfl,by (repeat' (first | exact Below.refl _ _ | assumption | apply bel_drewN | apply bel_drew | apply bel_alloc | (refine bel_trans ?_ (by assumption))))⟩
theorem gridFree_in (w : World) (p : Nat) (g : G) (v : Int) (c : Nat) (h : GridAt w p g v) (hc : c < g.n) :
    Calls Tryz.prog 52 #[.pointer (some ⟨p,0,none⟩),.int .i64 (c:Nat)] w fun e w'=>e=.returned (.tuple #[.bool (!g.b c),.nilIface])∧Below w.heap.size w w':=by
 rw [←G.op_cell h.1 hc];go_enter Tryz.func52,Tryz.ntmps52;go_wp2_with fail;refine (gridPlace_in w p g v c h hc).mono ?_;rintro e w1 ⟨rfl,hb⟩;go_wp2_with fail;refine (gridOpen w1 p g v _ _ (h.below hb h.lt)).mono ?_;rintro e w' ⟨rfl,rfl⟩;go_wp2;go_ret2
 exact ⟨rfl,by (repeat' (first | exact Below.refl _ _ | assumption | apply bel_drewN | apply bel_drew | apply bel_alloc | (refine bel_trans ?_ (by assumption))))⟩
theorem gridFree_out (w : World) (p : Nat) (g : G) (v c : Int) (h : GridAt w p g v) (hc : c < 0 ∨ g.n ≤ c) :
    Calls Tryz.prog 52 #[.pointer (some ⟨p,0,none⟩),.int .i64 c] w fun e w'=>e=.returned (.tuple #[.bool false,.iface 45 (.int .i64 1)])∧Below w.heap.size w w':=by
 go_enter Tryz.func52,Tryz.ntmps52;go_wp2_with fail;refine (gridPlace_out w p g v c h hc).mono ?_;rintro e w1 ⟨rfl,hb⟩;go_wp2;go_ret2
 exact ⟨rfl,by (repeat' (first | exact Below.refl _ _ | assumption | apply bel_drewN | apply bel_drew | apply bel_alloc | (refine bel_trans ?_ (by assumption))))⟩
theorem GridAt.ver {w:World} {p:Nat} {g:G} {v:Int} (h:GridAt w p g v):w.cell? ⟨p,6,none⟩=some (.int .i64 v):=by
 obtain ⟨_,ws,_,hb,_⟩:=h;simp [World.cell?,hb,gridCells]
theorem gridVersion (w : World) (p : Nat) (g : G) (v : Int) (h : GridAt w p g v) :
    Calls Tryz.prog 51 #[.pointer (some ⟨p,0,none⟩)] w fun e w'=>e=.returned (.int .i64 v)∧w=w':=by
 have k1:=h.ver;clear h;go_enter Tryz.func51,Tryz.ntmps51;go_wp2;go_ret;exact ⟨rfl,rfl⟩
theorem dN_abs (d:Nat):-1≤dxN d∧dxN d≤1∧-1≤dyN d∧dyN d≤1:=by
 rcases Nat.lt_or_ge d 8 with h | h
 ·rcases (show d=0∨d=1∨d=2∨d=3∨d=4∨d=5∨d=6∨d=7 by omega) with rfl | rfl | rfl | rfl | rfl | rfl | rfl | rfl <;> decide
 ·obtain ⟨k,rfl⟩:=Nat.exists_eq_add_of_le h
  have e:dxN (8+k) = -1∧dyN (8+k) = -1:=by
   unfold dxN dyN
   constructor
   ·split <;> first | omega | rfl
   ·split <;> first | omega | rfl
  rw [e.1,e.2];decide
theorem step_one (d : Nat) (h : d < 8) (w : World) :
    Calls Tryz.prog 154 #[.int .i64 (d:Nat)] w fun e w'=>e=.returned (.tuple #[.int .i64 (dxN d),.int .i64 (dyN d)])∧Below w.heap.size w w':=by
 rcases (show d=0∨d=1∨d=2∨d=3∨d=4∨d=5∨d=6∨d=7 by omega) with rfl | rfl | rfl | rfl | rfl | rfl | rfl | rfl
 all_goals
  have b0:bits BinOp.and IntKind.i64 0 7=0:=by decide
  have b1:bits BinOp.and IntKind.i64 1 7=1:=by decide
  have b2:bits BinOp.and IntKind.i64 2 7=2:=by decide
  have b3:bits BinOp.and IntKind.i64 3 7=3:=by decide
  have b4:bits BinOp.and IntKind.i64 4 7=4:=by decide
  have b5:bits BinOp.and IntKind.i64 5 7=5:=by decide
  have b6:bits BinOp.and IntKind.i64 6 7=6:=by decide
  have b7:bits BinOp.and IntKind.i64 7 7=7:=by decide
  go_enter Tryz.func154,Tryz.ntmps154;go_wp2_with fail;go_quiet (fail);go_wp2;go_ret2
  exact ⟨rfl,by (repeat' (first | exact Below.refl _ _ | assumption | apply bel_drewN | apply bel_drew | apply bel_alloc | (refine bel_trans ?_ (by assumption))))⟩
def rowOf (f:Nat→Value) (n:Nat):Array Value:=((List.range n).map f).toArray
theorem rowOf_get (f:Nat→Value) (n k:Nat) (h:k<n):(rowOf f n)[k]? = some (f k):=by simp [rowOf,h]
theorem rowOf_size (f:Nat→Value) (n:Nat):(rowOf f n).size=n:=by simp [rowOf]
def rcell (g:G) (v:Int) (k:Nat):Value:=if k=0 then .int .i64 g.w else if k=1 then .int .i64 g.h else if k=258 then .int .i64 v else .bool (g.b (k-2))
def RGridAt (w:World) (p:Nat) (g:G) (v:Int):Prop:=g.ok∧w.heap[p]? = some (.cells (rowOf (rcell g v) 259) 33 (0,0))
theorem RGridAt.lt {w:World} {p:Nat} {g:G} {v:Int} (h:RGridAt w p g v):p<w.heap.size:=(Array.getElem?_eq_some_iff.1 h.2).1
theorem RGridAt.below {w w':World} {p B:Nat} {g:G} {v:Int} (h:RGridAt w p g v) (hb:Below B w w') (hp:p<B):RGridAt w' p g v:=⟨h.1,(hb.block p hp).trans h.2⟩
theorem RGridAt.cell {w:World} {p:Nat} {g:G} {v:Int} (h:RGridAt w p g v) (k:Nat) (hk:k<259):w.cell? ⟨p,k,none⟩=some (rcell g v k):=by
 simp [World.cell?,h.2,rowOf_get _ _ _ hk]
theorem RGridAt.size {w:World} {p:Nat} {g:G} {v:Int} (h:RGridAt w p g v):w.cell? ⟨p,0,none⟩=some (.int .i64 g.w)∧w.cell? ⟨p,1,none⟩=some (.int .i64 g.h):=
 ⟨h.cell 0 (by decide),h.cell 1 (by decide)⟩
theorem RGridAt.bit {w:World} {p:Nat} {g:G} {v:Int} (h:RGridAt w p g v) (c:Nat) (hc:c<256):w.cell? ⟨p,2+c,none⟩=some (.bool (g.b c)):=by
 rw [h.cell (2+c) (by omega)]
 unfold rcell
 rw [if_neg (by omega),if_neg (by omega),if_neg (by omega),show 2+c-2=c by omega]
theorem RGridAt.ver {w:World} {p:Nat} {g:G} {v:Int} (h:RGridAt w p g v):w.cell? ⟨p,258,none⟩=some (.int .i64 v):=h.cell 258 (by decide)
theorem rIs_in (w : World) (p : Nat) (g : G) (v : Int) (c : Nat) (h : RGridAt w p g v) (hc : c < g.n) :
    Calls Tryz.prog 13 #[.pointer (some ⟨p,0,none⟩),.int .i64 (c:Nat)] w fun e w'=>e=.returned (.int .i64 0)∧Below w.heap.size w w':=by
 obtain ⟨k1,k2⟩:=h.size;obtain ⟨o1,o2,o3,o4⟩:=h.1;have hn:=G.n_le h.1
 have e:((g.n:Nat):Int)=(g.w:Int)*g.h:=by unfold G.n;simp
 have m1:0≤(g.w:Int)*g.h:=by omega
 have m2:(g.w:Int)*g.h≤256:=by omega
 have hd:decide ((g.w:Int)*g.h≤(c:Int))=false:=by simp;omega
 have hd0:decide ((c:Int)<0)=false:=by simp
 have hw:IntKind.i64.wrap ((g.w:Int)*g.h)=(g.w:Int)*g.h:=IntWalk.i64_in _ (by omega)
 clear h e;go_enter Tryz.func13,Tryz.ntmps13;go_wp2_with fail;go_quiet (fail);go_wp2;go_ret
 exact ⟨rfl,by (repeat' (first | exact Below.refl _ _ | assumption | apply bel_drewN | apply bel_drew | apply bel_alloc | (refine bel_trans ?_ (by assumption))))⟩
theorem rIs_out (w : World) (p : Nat) (g : G) (v c : Int) (h : RGridAt w p g v) (hc : c < 0 ∨ g.n ≤ c) :
    Calls Tryz.prog 13 #[.pointer (some ⟨p,0,none⟩),.int .i64 c] w fun e w'=>e=.returned (.int .i64 1)∧Below w.heap.size w w':=by
 obtain ⟨k1,k2⟩:=h.size;obtain ⟨o1,o2,o3,o4⟩:=h.1;have hn:=G.n_le h.1
 have e:((g.n:Nat):Int)=(g.w:Int)*g.h:=by unfold G.n;simp
 have m1:0≤(g.w:Int)*g.h:=by omega
 have m2:(g.w:Int)*g.h≤256:=by omega
 have hw:IntKind.i64.wrap ((g.w:Int)*g.h)=(g.w:Int)*g.h:=IntWalk.i64_in _ (by omega)
 rcases (show c<0∨(0≤c∧(g.n:Int)≤c) by omega) with hc | ⟨hc0,hc⟩
 ·have hd:decide (c<0)=true:=by simp;omega
  clear h e hw;go_enter Tryz.func13,Tryz.ntmps13;go_wp2_with fail;go_quiet (fail);go_wp2;go_ret
  exact ⟨rfl,by (repeat' (first | exact Below.refl _ _ | assumption | apply bel_drewN | apply bel_drew | apply bel_alloc | (refine bel_trans ?_ (by assumption))))⟩
 ·have hd:decide ((g.w:Int)*g.h≤c)=true:=by simp;omega
  have hd0:decide (c<0)=false:=by simp;omega
  clear h e;go_enter Tryz.func13,Tryz.ntmps13;go_wp2_with fail;go_quiet (fail);go_wp2;go_ret
  exact ⟨rfl,by (repeat' (first | exact Below.refl _ _ | assumption | apply bel_drewN | apply bel_drew | apply bel_alloc | (refine bel_trans ?_ (by assumption))))⟩
theorem gridOpen_at (w : World) (p : Nat) (g : G) (v x y : Int) (t : Bool) (h : GridAt w p g v) (ht : g.op x y = t) :
    Calls Tryz.prog 96 #[.pointer (some ⟨p,0,none⟩),.int .i64 x,.int .i64 y] w fun e w'=>e=.returned (.bool t)∧w=w':=by
 rw [←ht];exact gridOpen w p g v x y h
theorem may_even {g:G} {x y:Int} {d:Nat} (hd:d<8) (he:d % 2=0) (h1:g.op x y=true) (h2:g.op (x+dxN d) (y+dyN d)=true):g.op (x+dxN d) y=true∧g.op x (y+dyN d)=true:=by
 rcases (show d=0∨d=2∨d=4∨d=6 by omega) with rfl | rfl | rfl | rfl <;> simp [dxN,dyN] at * <;> simp [h1,h2]
theorem may_val {g:G} {x y:Int} {d:Nat} {t1 t2 t3 t4:Bool} (h1:g.op x y=t1) (h2:g.op (x+dxN d) (y+dyN d)=t2) (h3:g.op (x+dxN d) y=t3) (h4:g.op x (y+dyN d)=t4):g.may x y d=(t1 && t2 && t3 && t4):=by
 unfold G.may;rw [h1,h2,h3,h4]
theorem and1_odd (d:Nat) (h:d<8):(bits BinOp.and IntKind.i64 (d:Int) 1 == 0)=(d % 2 == 0):=by
 rcases (show d=0∨d=1∨d=2∨d=3∨d=4∨d=5∨d=6∨d=7 by omega) with rfl | rfl | rfl | rfl | rfl | rfl | rfl | rfl <;> decide
theorem gridMay (w : World) (p : Nat) (g : G) (v x y : Int) (d : Nat) (h : GridAt w p g v) (hd : d < 8) (hx : inP x) (hy : inP y) :
    Calls Tryz.prog 153 #[.pointer (some ⟨p,0,none⟩),.int .i64 x,.int .i64 y,.int .i64 (d:Nat)] w fun e w'=>e=.returned (.bool (g.may x y d))∧Below w.heap.size w w':=by
 unfold inP at hx hy;obtain ⟨b1,b2,b3,b4⟩:=dN_abs d;have hb:=and1_odd d hd;obtain ⟨t1,h1⟩:∃t,g.op x y=t:=⟨_,rfl⟩;obtain ⟨t2,h2⟩:∃t,g.op (x+dxN d) (y+dyN d)=t:=⟨_,rfl⟩;obtain ⟨t3,h3⟩:∃t,g.op (x+dxN d) y=t:=⟨_,rfl⟩;obtain ⟨t4,h4⟩:∃t,g.op x (y+dyN d)=t:=⟨_,rfl⟩;have he:=Lib.hid (may_even (g:=g) (x:=x) (y:=y) hd);rw [may_val h1 h2 h3 h4]
 have c1:=fun w' h'=>gridOpen_at w' p g v _ _ _ h' h1
 have c2:=fun w' h'=>gridOpen_at w' p g v _ _ _ h' h2
 have c3:=fun w' h'=>gridOpen_at w' p g v _ _ _ h' h3
 have c4:=fun w' h'=>gridOpen_at w' p g v _ _ _ h' h4
 have H1:=Lib.hid h1;have H2:=Lib.hid h2;have H3:=Lib.hid h3;have H4:=Lib.hid h4;clear h1 h2 h3 h4;have c1:=Lib.hid c1;have c2:=Lib.hid c2;have c3:=Lib.hid c3;have c4:=Lib.hid c4;obtain ⟨par,hpar⟩:∃t,(d % 2 == 0)=t:=⟨_,rfl⟩;rw [hpar] at hb;have Hp:=Lib.hid hpar;clear hpar
 generalize hdx:dxN d=dx at *
 generalize hdy:dyN d=dy at *
 have hst:=fun w'=>step_one d hd w'
 rw [hdx,hdy] at hst;have hst:=Lib.hid hst;have Hdx:=Lib.hid hdx;have Hdy:=Lib.hid hdy;clear hdx hdy;go_enter Tryz.func153,Tryz.ntmps153;go_wp2_with fail;refine (hst.out _).mono ?_;rintro e w1 ⟨rfl,hb1⟩;have h':=h.below hb1 h.lt;go_wp2_with fail;refine (c1.out _ h').mono ?_;rintro e w' ⟨rfl,rfl⟩
 cases t1
 ·go_wp2
  go_ret
  exact ⟨rfl,by (repeat' (first | exact Below.refl _ _ | assumption | apply bel_drewN | apply bel_drew | apply bel_alloc | (refine bel_trans ?_ (by assumption))))⟩
 ·go_wp2_with fail
  refine (c2.out _ h').mono ?_;rintro e w' ⟨rfl,rfl⟩
  cases t2
  ·go_wp2
   go_ret
   exact ⟨rfl,by (repeat' (first | exact Below.refl _ _ | assumption | apply bel_drewN | apply bel_drew | apply bel_alloc | (refine bel_trans ?_ (by assumption))))⟩
  ·cases par
   ·go_wp2_with fail
    refine (c3.out _ h').mono ?_;rintro e w' ⟨rfl,rfl⟩
    cases t3
    ·go_wp2
     go_ret
     exact ⟨rfl,by (repeat' (first | exact Below.refl _ _ | assumption | apply bel_drewN | apply bel_drew | apply bel_alloc | (refine bel_trans ?_ (by assumption))))⟩
    ·go_wp2_with fail
     refine (c4.out _ h').mono ?_;rintro e w' ⟨rfl,rfl⟩;go_wp2;go_ret
     exact ⟨by simp,by (repeat' (first | exact Below.refl _ _ | assumption | apply bel_drewN | apply bel_drew | apply bel_alloc | (refine bel_trans ?_ (by assumption))))⟩
   ·have he':=he.out (by have:=Hp.out;simpa using this) H1.out H2.out
    rw [H3.out,H4.out] at he';obtain ⟨e3,e4⟩:=he';subst e3;subst e4;go_wp2;go_ret
    exact ⟨rfl,by (repeat' (first | exact Below.refl _ _ | assumption | apply bel_drewN | apply bel_drew | apply bel_alloc | (refine bel_trans ?_ (by assumption))))⟩
structure Kept (S:List Nat) (w w':World):Prop where
 os:w'.os=w.os
 tape:w'.tape=w.tape
 output:w'.output=w.output
 size:w.heap.size≤w'.heap.size
 block:∀k,k<w.heap.size→k∉S→w'.heap[k]? = w.heap[k]?
theorem Kept.refl (S:List Nat) (w:World):Kept S w w:=⟨rfl,rfl,rfl,Nat.le_refl _,fun _ _ _=>rfl⟩
theorem Kept.trans {S:List Nat} {a b c:World} (h:Kept S a b) (k:Kept S b c):Kept S a c:=
 ⟨k.os.trans h.os,k.tape.trans h.tape,k.output.trans h.output,Nat.le_trans h.size k.size,fun i hi hs=>(k.block i (Nat.lt_of_lt_of_le hi h.size) hs).trans (h.block i hi hs)⟩
theorem Kept.more {S S':List Nat} {a b:World} (h:Kept S a b) (hs:∀k,k∈S→k∈S'):Kept S' a b:=⟨h.os,h.tape,h.output,h.size,fun k hk hn=>h.block k hk fun e=>hn (hs k e)⟩
theorem Kept.of_below {S:List Nat} {a b:World} (h:Below a.heap.size a b):Kept S a b:=⟨h.os,h.tape,h.output,h.size,fun k hk _=>h.block k hk⟩
theorem Kept.below {S:List Nat} {B:Nat} {a b c:World} (h:Below B a b) (k:Kept S b c) (hB:B≤b.heap.size) (hs:∀i,i∈S→B≤i):Below B a c:=
 h.trans ⟨k.os,k.tape,k.output,k.size,fun i hi=>k.block i (Nat.lt_of_lt_of_le hi hB) fun e=>by have:=hs i e;omega⟩
theorem Kept.drew {S:List Nat} {a b:World} (h:Kept S a b):Kept S a b.drew:=⟨h.os,h.tape,h.output,h.size,h.block⟩
theorem Kept.drewN {S:List Nat} {a b:World} (h:Kept S a b) {n:Nat}:Kept S a (b.drewN n):=⟨h.os,h.tape,h.output,h.size,h.block⟩
theorem Kept.alloc {S:List Nat} {a b:World} (h:Kept S a b) {o:Obj}:Kept S a (b.alloc o):=
 h.trans ⟨rfl,rfl,rfl,by simp,fun k hk _=>Below.heap_alloc _ _ _ hk⟩
theorem Kept.setCell {S:List Nat} {a b:World} (h:Kept S a b) {p:Addr} {u:Value} (hp:p.block∈S∨a.heap.size≤p.block):Kept S a (b.setCell p u):=
 ⟨h.os,h.tape,h.output,by have:=h.size;simpa [World.setCell] using this,fun k hk hn=>by
  have hne:k≠p.block:=by
   rintro rfl
   rcases hp with hp | hp
   ·exact hn hp
   ·omega
  rw [Below.heap_setCell _ _ _ _ hne];exact h.block k hk hn⟩
theorem GridAt.kept {S:List Nat} {w w':World} {p:Nat} {g:G} {v:Int} (h:GridAt w p g v) (hk:Kept S w w') (hp:p∉S):GridAt w' p g v:=by
 have hl:=h.lt;obtain ⟨h0,ws,h1,h2,h3⟩:=h;exact ⟨h0,ws,h1,(hk.block p hl hp).trans h2,h3⟩
def gset (g:G) (c:Nat) (t:Bool):G:={ g with b:=upd g.b c t }
theorem gridNew_ok (a b : Int) (w : World) (h : 1 ≤ a ∧ a ≤ 16 ∧ 1 ≤ b ∧ b ≤ 16) :
    Calls Tryz.prog 64 #[.int .i64 a,.int .i64 b] w fun e w'=>e=.returned (.tuple #[.pointer (some ⟨w.heap.size,0,none⟩),.nilIface])∧GridAt w' w.heap.size ⟨a.toNat,b.toNat,fun _=>false⟩ 0∧Below w.heap.size w w'∧w'.heap.size=w.heap.size+1:=by
 obtain ⟨h1,h2,h3,h4⟩:=h;go_enter Tryz.func64,Tryz.ntmps64;go_wp2;go_ret2
 refine ⟨rfl,?_,by (repeat' (first | exact Below.refl _ _ | assumption | apply bel_drewN | apply bel_drew | apply bel_alloc | (refine bel_trans ?_ (by assumption)))),by simp⟩
 refine ⟨⟨by simp only;omega,by simp only;omega,by simp only;omega,by simp only;omega⟩,fun _=>0,fun _=>(by decide:0<18446744073709551616),?_,fun c _=>by simp⟩
 rw [heap_alloc_new];simp [gridCells];omega
theorem gridNew_bad (a b : Int) (w : World) (h : ¬ (1 ≤ a ∧ a ≤ 16 ∧ 1 ≤ b ∧ b ≤ 16)) :
    Calls Tryz.prog 64 #[.int .i64 a,.int .i64 b] w fun e w'=>e=.returned (.tuple #[.pointer none,.iface 45 (.int .i64 1)])∧w=w':=by
 go_enter Tryz.func64,Tryz.ntmps64;go_wp2
 all_goals
  go_ret2;exact ⟨rfl,rfl⟩
theorem gridSet_out (w : World) (p : Nat) (g : G) (v c : Int) (t : Bool) (h : GridAt w p g v) (hc : c < 0 ∨ g.n ≤ c) :
    Calls Tryz.prog 57 #[.pointer (some ⟨p,0,none⟩),.int .i64 c,.bool t] w fun e w'=>e=.returned (.tuple #[.bool false,.iface 45 (.int .i64 1)])∧Below w.heap.size w w':=by
 go_enter Tryz.func57,Tryz.ntmps57;go_wp2_with fail;refine (gridFree_out w p g v c h hc).mono ?_;rintro e w1 ⟨rfl,hb⟩;go_wp2;go_ret2
 exact ⟨rfl,by (repeat' (first | exact Below.refl _ _ | assumption | apply bel_drewN | apply bel_drew | apply bel_alloc | (refine bel_trans ?_ (by assumption))))⟩
theorem gridCopy (w : World) (p : Nat) (g : G) (v : Int) (h : GridAt w p g v) :
    Calls Tryz.prog 134 #[.pointer (some ⟨p,0,none⟩)] w fun e w'=>e=.returned (.pointer (some ⟨w.heap.size,0,none⟩))∧GridAt w' w.heap.size g v∧Below w.heap.size w w'∧w'.heap.size=w.heap.size+1:=by
 obtain ⟨h0,ws,h1,hb,h3⟩:=h
 have k0:w.cell? ⟨p,0,none⟩=some (.int .i64 g.w):=by simp [World.cell?,hb,gridCells]
 have k1:w.cell? ⟨p,1,none⟩=some (.int .i64 g.h):=by simp [World.cell?,hb,gridCells]
 have k2:w.cell? ⟨p,2,none⟩=some (.int .u64 (ws 0)):=by simp [World.cell?,hb,gridCells]
 have k3:w.cell? ⟨p,3,none⟩=some (.int .u64 (ws 1)):=by simp [World.cell?,hb,gridCells]
 have k4:w.cell? ⟨p,4,none⟩=some (.int .u64 (ws 2)):=by simp [World.cell?,hb,gridCells]
 have k5:w.cell? ⟨p,5,none⟩=some (.int .u64 (ws 3)):=by simp [World.cell?,hb,gridCells]
 have k6:w.cell? ⟨p,6,none⟩=some (.int .i64 v):=by simp [World.cell?,hb,gridCells]
 have Hb:=Lib.hid hb;clear hb;go_enter Tryz.func134,Tryz.ntmps134;go_wp2;go_ret
 refine ⟨rfl,⟨h0,ws,h1,?_,h3⟩,by (repeat' (first | exact Below.refl _ _ | assumption | apply bel_drewN | apply bel_drew | apply bel_alloc | (refine bel_trans ?_ (by assumption)))),by simp⟩
 rw [heap_alloc_new]
 rfl
theorem bits_xor_pow (z k:Nat) (hz:z<18446744073709551616) (hk:k<64):bits BinOp.xor IntKind.u64 (z:Int) ((2 ^ k:Nat):Int)=((z ^^^ 2 ^ k:Nat):Int):=
 bits_xor_u64_nat z (2 ^ k) hz (Nat.lt_of_lt_of_le (Nat.pow_lt_pow_right (by decide) hk) (by decide))
theorem gset_heap (w : World) (p k : Nat) (cs : Array Value) (T : TypeId) (x y : Value) (h : w.heap[p]? = some (.cells cs T (0, 0))) :
    (((w.setCell ⟨p,k,none⟩ x).setCell ⟨p,6,none⟩ y).drew).heap[p]? = some (.cells ((cs.setIfInBounds k x).setIfInBounds 6 y) T (0,0)):=by
 simp [World.drew,World.setCell,Array.getElem?_modify,h]
theorem gset_at {w : World} {p : Nat} {g : G} {ws : Nat → Nat} {v : Int} {c : Nat} {t : Bool} (h0 : g.ok) (hB : w.heap[p]? = some (.cells (gridCells g ws v) 178 (0, 0))) (h1 : ∀ i, ws i < 18446744073709551616)
    (h3:∀c,c<256→g.b c=(ws (c / 64)).testBit (c % 64)) (hc:c<256) (ht:g.b c=!t) :
    GridAt ((w.setCell ⟨p,2+c / 64,none⟩ (.int .u64 (bits BinOp.xor IntKind.u64 (ws (c / 64):Int) (IntKind.u64.wrap (2 ^ (c % 64)))))).setCell ⟨p,6,none⟩ (.int .i64 (v+1))).drew p (gset g c t) (v+1):=by
 have e1:IntKind.u64.wrap (2 ^ (c % 64))=((2 ^ (c % 64):Nat):Int):=by
  have:(2:Nat) ^ (c % 64)<2 ^ 64:=Nat.pow_lt_pow_right (by decide) (Nat.mod_lt _ (by decide))
  rw [IntKind.wrap_u64]
  have e:((2:Int) ^ (c % 64))=((2 ^ (c % 64):Nat):Int):=by simp
  rw [e];clear e
  generalize 2 ^ (c % 64)=n at *
  omega
 have hx:ws (c / 64) ^^^ 2 ^ (c % 64)<18446744073709551616:=Nat.xor_lt_two_pow (n:=64) (h1 _) (Nat.pow_lt_pow_right (by decide) (Nat.mod_lt _ (by decide)))
 rw [e1,bits_xor_pow _ _ (h1 _) (Nat.mod_lt _ (by decide))]
 refine ⟨h0,upd ws (c / 64) (ws (c / 64) ^^^ 2 ^ (c % 64)),?_,?_,?_⟩
 ·intro i
  unfold upd;split
  ·exact hx
  ·exact h1 i
 ·rw [gset_heap _ _ _ _ _ _ _ hB]
  rcases (show c / 64=0∨c / 64=1∨c / 64=2∨c / 64=3 by omega) with e | e | e | e <;> rw [e] <;> simp [gridCells,upd,gset]
 ·intro c' hc'
  show upd g.b c t c'=_
  by_cases e:c'=c
  ·subst e
   rw [upd_same,upd_same,Nat.testBit_xor,←h3 c' hc',ht,Nat.testBit_two_pow_self]
   cases t <;> rfl
  ·rw [upd_ne _ _ e,h3 c' hc']
   by_cases q:c' / 64=c / 64
   ·rw [q,upd_same,Nat.testBit_xor,Nat.testBit_two_pow_of_ne (by omega),Bool.xor_false]
   ·rw [upd_ne _ _ q]
theorem gridSet_new (w : World) (p : Nat) (g : G) (v : Int) (c : Nat) (t : Bool) (h : GridAt w p g v) (hc : c < g.n) (ht : g.b c = !t) (hv : 0 ≤ v ∧ v ≤ 1099511627776) :
    Calls Tryz.prog 57 #[.pointer (some ⟨p,0,none⟩),.int .i64 (c:Nat),.bool t] w fun e w'=>e=.returned (.tuple #[.bool true,.nilIface])∧GridAt w' p (gset g c t) (v+1)∧Kept [p] w w':=by
 have hf:=gridFree_in w p g v c h hc;rw [ht] at hf;have hn:=G.n_le h.1;obtain ⟨v0,v1⟩:=hv;have hlt:=h.lt;obtain ⟨h0,ws,h1,hb,h3⟩:=h;have Hb:=Lib.hid hb;have Ht:=Lib.hid ht;have H1:=Lib.hid h1;have H3:=Lib.hid h3;clear hb ht h1 h3;go_enter Tryz.func57,Tryz.ntmps57;go_wp2_with fail;refine hf.mono ?_;rintro e w1 ⟨rfl,hb1⟩;have hB1:=Lib.hid ((hb1.block p hlt).trans Hb.out);have hk:Kept [p] w w1:=.of_below hb1
 clear hb1 hf
 have kz:w1.cell? ⟨p,2+c / 64,none⟩=some (.int .u64 (ws (c / 64))):=by
  have:=hB1.out
  rcases (show c / 64=0∨c / 64=1∨c / 64=2∨c / 64=3 by omega) with e | e | e | e <;> rw [e] <;> simp [World.cell?,this,gridCells]
 have kv:w1.cell? ⟨p,6,none⟩=some (.int .i64 v):=by have:=hB1.out;simp [World.cell?,this,gridCells]
 have kf:∀k,w1.frozen? ⟨p,k,none⟩=false:=by intro k;have:=hB1.out;simp [World.frozen?,this]
 cases t
 all_goals
  go_wp2_with fail;go_region;go_wp2;go_ret2
  refine ⟨rfl,gset_at h0 hB1.out H1.out H3.out (by omega) Ht.out,?_⟩
  exact ((hk.setCell (.inl (by simp))).setCell (.inl (by simp))).drew
theorem RGridAt.kept {S:List Nat} {w w':World} {p:Nat} {g:G} {v:Int} (h:RGridAt w p g v) (hk:Kept S w w') (hp:p∉S):RGridAt w' p g v:=
 ⟨h.1,(hk.block p h.lt hp).trans h.2⟩
def rNewRow (a b:Value):Array Value:=rowOf (fun k=>if k=0 then a else if k=1 then b else if k=258 then .int .i64 0 else .bool false) 259
theorem rNew_cells (a b:Value):(Tryz.zeroCells33.setIfInBounds 0 a).setIfInBounds 1 b=rNewRow a b:=by kernel_rfl
theorem rNew_ok (a b : Int) (w : World) (h : 1 ≤ a ∧ a ≤ 16 ∧ 1 ≤ b ∧ b ≤ 16) :
    Calls Tryz.prog 15 #[.int .i64 a,.int .i64 b] w fun e w'=>e=.returned (.tuple #[.pointer (some ⟨w.heap.size,0,none⟩),.int .i64 0])∧RGridAt w' w.heap.size ⟨a.toNat,b.toNat,fun _=>false⟩ 0∧Below w.heap.size w w'∧w'.heap.size=w.heap.size+1:=by
 obtain ⟨h1,h2,h3,h4⟩:=h;go_enter Tryz.func15,Tryz.ntmps15;go_wp2;go_ret2
 refine ⟨rfl,?_,by (repeat' (first | exact Below.refl _ _ | assumption | apply bel_drewN | apply bel_drew | apply bel_alloc | (refine bel_trans ?_ (by assumption)))),by simp⟩
 refine ⟨⟨by simp only;omega,by simp only;omega,by simp only;omega,by simp only;omega⟩,?_⟩
 rw [heap_alloc_new,rNew_cells];unfold rNewRow rcell
 simp only [Int.toNat_of_nonneg (show 0≤a by omega),Int.toNat_of_nonneg (show 0≤b by omega)]
theorem rNew_bad (a b : Int) (w : World) (h : ¬ (1 ≤ a ∧ a ≤ 16 ∧ 1 ≤ b ∧ b ≤ 16)) :
    Calls Tryz.prog 15 #[.int .i64 a,.int .i64 b] w fun e w'=>e=.returned (.tuple #[.pointer none,.int .i64 1])∧w=w':=by
 go_enter Tryz.func15,Tryz.ntmps15;go_wp2
 all_goals
  go_ret2;exact ⟨rfl,rfl⟩
theorem rSet_out (w : World) (p : Nat) (g : G) (v c : Int) (t : Bool) (h : RGridAt w p g v) (hc : c < 0 ∨ g.n ≤ c) :
    Calls Tryz.prog 16 #[.pointer (some ⟨p,0,none⟩),.int .i64 c,.bool t] w fun e w'=>e=.returned (.tuple #[.bool false,.int .i64 1])∧Below w.heap.size w w':=by
 go_enter Tryz.func16,Tryz.ntmps16;go_wp2_with fail;refine (rIs_out w p g v c h hc).mono ?_;rintro e w1 ⟨rfl,hb⟩;go_wp2;go_ret2
 exact ⟨rfl,by (repeat' (first | exact Below.refl _ _ | assumption | apply bel_drewN | apply bel_drew | apply bel_alloc | (refine bel_trans ?_ (by assumption))))⟩
theorem rSet_same (w : World) (p : Nat) (g : G) (v : Int) (c : Nat) (h : RGridAt w p g v) (hc : c < g.n) :
    Calls Tryz.prog 16 #[.pointer (some ⟨p,0,none⟩),.int .i64 (c:Nat),.bool (g.b c)] w fun e w'=>e=.returned (.tuple #[.bool false,.int .i64 0])∧Below w.heap.size w w':=by
 have hn:=G.n_le h.1;have hi:=Lib.hid (rIs_in w p g v c h hc)
 have kb:=h.bit c (by omega)
 have hlt:=h.lt
 generalize g.b c=t at kb ⊢
 clear h
 cases t
 all_goals
  go_enter Tryz.func16,Tryz.ntmps16;go_wp2_with fail;refine hi.out.mono ?_;rintro e w1 ⟨rfl,hb⟩;have kb':=(hb.cell (p:=⟨p,2+c,none⟩) hlt).trans kb;clear kb;go_wp2;go_ret2
  exact ⟨rfl,by (repeat' (first | exact Below.refl _ _ | assumption | apply bel_drewN | apply bel_drew | apply bel_alloc | (refine bel_trans ?_ (by assumption))))⟩
theorem rset_heap (w : World) (p k : Nat) (cs : Array Value) (T : TypeId) (x y : Value) (h : w.heap[p]? = some (.cells cs T (0, 0))) :
    ((w.setCell ⟨p,k,none⟩ x).setCell ⟨p,258,none⟩ y).heap[p]? = some (.cells ((cs.setIfInBounds k x).setIfInBounds 258 y) T (0,0)):=by
 simp [World.setCell,Array.getElem?_modify,h]
theorem rset_at {w : World} {p : Nat} {g : G} {v : Int} {c : Nat} {t : Bool} (h : RGridAt w p g v) (hc : c < 256) :
    RGridAt ((w.setCell ⟨p,2+c,none⟩ (.bool t)).setCell ⟨p,258,none⟩ (.int .i64 (v+1))) p (gset g c t) (v+1):=by
 refine ⟨h.1,?_⟩;rw [rset_heap _ _ _ _ _ _ _ h.2]
 congr 2
 apply Array.ext_getElem?
 intro i;rw [Array.getElem?_setIfInBounds,Array.getElem?_setIfInBounds];have hsz:(rowOf (rcell g v) 259).size=259:=rowOf_size _ _
 by_cases h1:i<259
 ·rw [rowOf_get _ _ _ h1]
  by_cases h2:258=i
  ·subst h2;rw [if_pos rfl,if_pos (by simp [hsz])];rfl
  ·rw [if_neg h2]
   by_cases h3:2+c=i
   ·subst h3;rw [if_pos rfl,if_pos (by rw [hsz];exact h1),rowOf_get _ _ _ h1];simp [rcell,gset,upd,show 2+c≠0 by omega,show 2+c≠1 by omega,show 2+c≠258 by omega]
   ·rw [if_neg h3,rowOf_get _ _ _ h1]
    unfold rcell gset
    by_cases a:i=0
    ·rw [if_pos a,if_pos a]
    ·rw [if_neg a,if_neg a]
     by_cases b:i=1
     ·rw [if_pos b,if_pos b]
     ·rw [if_neg b,if_neg b,if_neg (by omega),if_neg (by omega)]
      simp only
      rw [upd_ne _ _ (by omega)]
 ·rw [if_neg (by omega),if_neg (by omega),Array.getElem?_eq_none (by rw [hsz];omega),Array.getElem?_eq_none (by rw [rowOf_size];omega)]
theorem rSet_new (w : World) (p : Nat) (g : G) (v : Int) (c : Nat) (t : Bool) (h : RGridAt w p g v) (hc : c < g.n) (ht : g.b c = !t) (hv : 0 ≤ v ∧ v ≤ 1099511627776) :
    Calls Tryz.prog 16 #[.pointer (some ⟨p,0,none⟩),.int .i64 (c:Nat),.bool t] w fun e w'=>e=.returned (.tuple #[.bool true,.int .i64 0])∧RGridAt w' p (gset g c t) (v+1)∧Kept [p] w w':=by
 have hi:=Lib.hid (rIs_in w p g v c h hc);have hn:=G.n_le h.1;obtain ⟨v0,v1⟩:=hv;have hlt:=h.lt;have Ht:=Lib.hid ht
 have kb0:=h.bit c (by omega)
 rw [ht] at kb0;clear ht
 cases t
 all_goals
  go_enter Tryz.func16,Tryz.ntmps16;go_wp2_with fail;refine hi.out.mono ?_;rintro e w1 ⟨rfl,hb1⟩;have h':=h.below hb1 hlt;have hk:Kept [p] w w1:=.of_below hb1;have kb:=(hb1.cell (p:=⟨p,2+c,none⟩) hlt).trans kb0;have kv:=h'.ver
  have kf:∀k,w1.frozen? ⟨p,k,none⟩=false:=by intro k;have:=h'.2;simp [World.frozen?,this]
  clear kb0 hb1;go_wp2;go_ret2
  exact ⟨rfl,rset_at h' (by omega),(hk.setCell (.inl (by simp))).setCell (.inl (by simp))⟩
def Ints (w:World) (a:Option Addr) (n:Nat) (f:Nat→Int):Prop:=0<n→∃ad,a=some ad∧ad.block<w.heap.size∧∀k,k<n→w.cell? (ad.add k)=some (.int .i64 (f k))
theorem add_block (a:Addr) (n:Nat):(a.add n).block=a.block:=by unfold Addr.add;split <;> rfl
theorem Ints.below {w w':World} {a:Option Addr} {n:Nat} {f:Nat→Int} (h:Ints w a n f) (hb:Below w.heap.size w w'):Ints w' a n f:=by
 intro hn;obtain ⟨ad,h1,h2,h3⟩:=h hn
 exact ⟨ad,h1,Nat.lt_of_lt_of_le h2 hb.size,fun k hk=>(hb.cell (p:=ad.add k) (by rw [add_block];exact h2)).trans (h3 k hk)⟩
def Laid (w:World) (e:Ending) (w':World):Prop:=
 (e=.returned (.tuple #[.pointer none,.pointer none,.bool false])∧Below w.heap.size w w') ∨
 ∃p q g v,e=.returned (.tuple #[.pointer (some ⟨p,0,none⟩),.pointer (some ⟨q,0,none⟩),.bool true])∧w.heap.size≤p∧p<q∧GridAt w' p g v∧RGridAt w' q g v∧0≤v∧v≤300∧Below w.heap.size w w'
theorem Laid.none {w w':World} (h:Below w.heap.size w w'):Laid w (.returned (.tuple #[.pointer none,.pointer none,.bool false])) w':=.inl ⟨rfl,h⟩
theorem gridNew_ex (a b : Int) (w : World) (h : 1 ≤ a ∧ a ≤ 16 ∧ 1 ≤ b ∧ b ≤ 16) :
    Calls Tryz.prog 64 #[.int .i64 a,.int .i64 b] w fun e w'=>∃p,e=.returned (.tuple #[.pointer (some ⟨p,0,none⟩),.nilIface])∧w.heap.size≤p∧GridAt w' p ⟨a.toNat,b.toNat,fun _=>false⟩ 0∧Below w.heap.size w w':=
 (gridNew_ok a b w h).mono fun _ _ ⟨h1,h2,h3,h4⟩=>⟨_,h1,Nat.le_refl _,h2,h3⟩
theorem rNew_ex (a b : Int) (w : World) (h : 1 ≤ a ∧ a ≤ 16 ∧ 1 ≤ b ∧ b ≤ 16) :
    Calls Tryz.prog 15 #[.int .i64 a,.int .i64 b] w fun e w'=>∃p,e=.returned (.tuple #[.pointer (some ⟨p,0,none⟩),.int .i64 0])∧w.heap.size≤p∧RGridAt w' p ⟨a.toNat,b.toNat,fun _=>false⟩ 0∧Below w.heap.size w w':=
 (rNew_ok a b w h).mono fun _ _ ⟨h1,h2,h3,h4⟩=>⟨_,h1,Nat.le_refl _,h2,h3⟩
def LaidR (W:World) (p q:Nat) (k:Nat) (wr:World):Prop:=∃g v,GridAt wr p g v∧RGridAt wr q g v∧0≤v∧v≤k∧Below W.heap.size W wr
theorem laid_any (a b : Int) (A : Option Addr) (n m : Nat) (f : Nat → Int) (w : World) (h : Ints w A n f) (hn : n ≤ 9223372036854775807) :
    Calls Tryz.prog 42 #[.agg #[.int .i64 a,.int .i64 b,.slice A n m]] w (Laid w):=by
 have h:=Lib.hid h
 by_cases h3:300<n
 ·go_enter Tryz.func42,Tryz.ntmps42
  go_wp2;go_ret3
  exact Laid.none (by (repeat' (first | exact Below.refl _ _ | assumption | apply bel_drewN | apply bel_drew | apply bel_alloc | (refine bel_trans ?_ (by assumption)))))
 by_cases hs:1≤a∧a≤16∧1≤b∧b≤16
 ·rcases Nat.eq_zero_or_pos n with hn0 | hnp
  ·subst hn0
   go_enter Tryz.func42,Tryz.ntmps42
   go_upto_region 1 with (fail)
   refine wp_name ?_;intro W hW
   have HW:Below w.heap.size w W:=by rw [hW];(repeat' (first | exact Below.refl _ _ | assumption | apply bel_drewN | apply bel_drew | apply bel_alloc | (refine bel_trans ?_ (by assumption))))
   have k0:∀w',Below W.heap.size W w'→w'.cell? ⟨w.heap.size,0,none⟩=some (.int .i64 a:Value):=fun w' hbw=>(hbw.cell (p:=⟨w.heap.size,0,none⟩) (by rw [hW];simp <;> omega)).trans (by rw [hW];go_simp)
   have k1:∀w',Below W.heap.size W w'→w'.cell? ⟨w.heap.size,1,none⟩=some (.int .i64 b:Value):=fun w' hbw=>(hbw.cell (p:=⟨w.heap.size,1,none⟩) (by rw [hW];simp <;> omega)).trans (by rw [hW];go_simp)
   have k2:∀w',Below W.heap.size W w'→w'.cell? ⟨w.heap.size,2,none⟩=some (.slice A 0 m:Value):=fun w' hbw=>(hbw.cell (p:=⟨w.heap.size,2,none⟩) (by rw [hW];simp <;> omega)).trans (by rw [hW];go_simp)
   clear h
   have hws0:W.heap.size=w.heap.size+1:=by rw [hW];simp
   have hws:=Lib.hid hws0;clear hws0;clear hW;have HB:=Below.refl W.heap.size W;go_wp2_with fail;refine (gridNew_ex a b _ hs).mono ?_;rintro e w1 ⟨p,rfl,hp,hG,hb1⟩;have HB:=bel_trans HB hb1;go_wp2_with fail;refine (rNew_ex a b _ hs).mono ?_;rintro e w2 ⟨q,rfl,hq,hR,hb2⟩;have hpq:p<q:=Nat.lt_of_lt_of_le hG.lt hq;have hwp:w.heap.size≤p:=Nat.le_trans HW.size hp;have hG:=hG.below hb2 hG.lt;have HB:=bel_trans HB hb2
   go_wp2_with fail
   have hstart:LaidR W p q 0 w2:=⟨_,0,hG,hR,by omega,by omega,HB⟩
   have hBW:=HB.size;clear hG hR HB hb1 hb2
   go_loopw [9] (fun i wr=>∃k:Nat,k≤0∧i=.int .i64 k∧LaidR W p q k wr) (fun i _=>0-(intOf i).toNat)
   case atStart=>exact ⟨0,Nat.zero_le _,rfl,hstart⟩
   case round=>
    obtain ⟨k,hk,rfl,g,v,hG,hR,hv0,hv,HB⟩:=hrel;clear hstart;go_wp2_with fail;go_ret3
    exact .inr ⟨p,q,g,v,rfl,by omega,by omega,hG,hR,hv0,by omega,bel_trans HW HB⟩
  ·obtain ⟨ad,rfl,hadb,hE0⟩:=h.out hnp
   have hE0:=Lib.hid hE0;go_enter Tryz.func42,Tryz.ntmps42
   go_upto_region 1 with (fail)
   refine wp_name ?_;intro W hW
   have HW:Below w.heap.size w W:=by rw [hW];(repeat' (first | exact Below.refl _ _ | assumption | apply bel_drewN | apply bel_drew | apply bel_alloc | (refine bel_trans ?_ (by assumption))))
   have k0:∀w',Below W.heap.size W w'→w'.cell? ⟨w.heap.size,0,none⟩=some (.int .i64 a:Value):=fun w' hbw=>(hbw.cell (p:=⟨w.heap.size,0,none⟩) (by rw [hW];simp <;> omega)).trans (by rw [hW];go_simp)
   have k1:∀w',Below W.heap.size W w'→w'.cell? ⟨w.heap.size,1,none⟩=some (.int .i64 b:Value):=fun w' hbw=>(hbw.cell (p:=⟨w.heap.size,1,none⟩) (by rw [hW];simp <;> omega)).trans (by rw [hW];go_simp)
   have k2:∀w',Below W.heap.size W w'→w'.cell? ⟨w.heap.size,2,none⟩=some (.slice (some ad) n m:Value):=fun w' hbw=>(hbw.cell (p:=⟨w.heap.size,2,none⟩) (by rw [hW];simp <;> omega)).trans (by rw [hW];go_simp)
   have HWe1:=Lib.hid (fun k (hk:k<n) w' (hb:Below W.heap.size W w')=>(((HW.trans (hb.mono HW.size)).cell (p:=ad.add k) (by rw [add_block];exact hadb)).trans (hE0.out k hk)))
   have hws0:W.heap.size=w.heap.size+1:=by rw [hW];simp
   have hws:=Lib.hid hws0;clear hws0;clear hW;have HB:=Below.refl W.heap.size W;go_wp2_with fail;refine (gridNew_ex a b _ hs).mono ?_;rintro e w1 ⟨p,rfl,hp,hG,hb1⟩;have HB:=bel_trans HB hb1;go_wp2_with fail;refine (rNew_ex a b _ hs).mono ?_;rintro e w2 ⟨q,rfl,hq,hR,hb2⟩;have hpq:p<q:=Nat.lt_of_lt_of_le hG.lt hq;have hwp:w.heap.size≤p:=Nat.le_trans HW.size hp;have hG:=hG.below hb2 hG.lt;have HB:=bel_trans HB hb2
   go_wp2_with fail
   have hstart:LaidR W p q 0 w2:=⟨_,0,hG,hR,by omega,by omega,HB⟩
   have hBW:=HB.size;clear hG hR HB hb1 hb2
   go_loopw [9] (fun i wr=>∃k:Nat,k≤n∧i=.int .i64 k∧LaidR W p q k wr) (fun i _=>n-(intOf i).toNat)
   case atStart=>exact ⟨0,Nat.zero_le _,rfl,hstart⟩
   case round=>
    obtain ⟨k,hk,rfl,g,v,hG,hR,hv0,hv,HB⟩:=hrel;clear hstart
    by_cases hlt:k<n
    ·have hE:=HWe1.out k hlt wr HB
     by_cases hin:0≤f k∧f k<g.n
     ·obtain ⟨hin0,hin1⟩:=hin
      obtain ⟨c,hc⟩:=Int.eq_ofNat_of_zero_le hin0;rw [hc] at hE
      have hcn:c<g.n:=by omega
      have hn2:=G.n_le hG.1;clear hc hin0 hin1;go_wp2_with fail;refine (rIs_in _ q g v c hR hcn).mono ?_;rintro e w3 ⟨rfl,hb3⟩;have hG:=hG.below hb3 hG.lt;have hR:=hR.below hb3 hR.lt;have HB:=bel_trans HB hb3
      have hqb:=hR.bit c (by omega)
      obtain ⟨t,ht⟩:∃t,g.b c=!t:=⟨!g.b c,by simp⟩
      rw [ht] at hqb;have Ht:=Lib.hid ht;clear ht hb3;have hpp:p<w3.heap.size:=hG.lt;have hqq:q<w3.heap.size:=hR.lt
      cases t
      all_goals
       go_wp2_with fail
       refine (gridSet_new _ p g v c _ hG hcn Ht.out (by omega)).mono ?_
       rintro e w4 ⟨rfl,hG4,hk4⟩
       have hR4:=hR.kept hk4 (by simp;omega)
       have HB4:=Kept.below HB hk4 HB.size (by simp;omega)
       go_wp2_with fail
       refine (rSet_new _ q g v c _ hR4 hcn Ht.out (by omega)).mono ?_
       rintro e w5 ⟨rfl,hR5,hk5⟩
       have hG5:=hG4.kept hk5 (by simp;omega)
       have HB5:=Kept.below HB4 hk5 HB4.size (by simp;omega)
       go_wp2;go_roundw
       case rel=>exact ⟨k+1,by omega,by go_num,_,_,hG5,hR5,by omega,by omega,HB5⟩
       case measure=>simp [intOf];omega
     ·have hout:f k<0∨g.n≤f k:=by omega
      go_wp2_with fail;refine (rIs_out _ q g v _ hR hout).mono ?_;rintro e w3 ⟨rfl,hb3⟩;have hG:=hG.below hb3 hG.lt;have hR:=hR.below hb3 hR.lt;have HB:=bel_trans HB hb3;clear hb3;go_wp2_with fail;refine (gridSet_out _ p g v _ _ hG hout).mono ?_;rintro e w4 ⟨rfl,hb4⟩;have hG:=hG.below hb4 hG.lt;have hR:=hR.below hb4 hR.lt;have HB:=bel_trans HB hb4;clear hb4;go_wp2_with fail;refine (rSet_out _ q g v _ _ hR hout).mono ?_
      rintro e w5 ⟨rfl,hb5⟩;have hG:=hG.below hb5 hG.lt;have hR:=hR.below hb5 hR.lt;have HB:=bel_trans HB hb5;clear hb5;go_wp2;go_roundw
      case rel=>exact ⟨k+1,by omega,by go_num,_,_,hG,hR,by omega,by omega,HB⟩
      case measure=>simp [intOf];omega
    ·go_wp2_with fail
     go_ret3
     exact .inr ⟨p,q,g,v,rfl,by omega,by omega,hG,hR,hv0,by omega,bel_trans HW HB⟩
 ·go_enter Tryz.func42,Tryz.ntmps42
  go_wp2_with fail;refine (gridNew_bad a b _ hs).mono ?_;rintro e w1 ⟨rfl,rfl⟩;go_wp2_with fail;refine (rNew_bad a b _ hs).mono ?_;rintro e w1 ⟨rfl,rfl⟩;go_wp2;go_ret3
  exact Laid.none (by (repeat' (first | exact Below.refl _ _ | assumption | apply bel_drewN | apply bel_drew | apply bel_alloc | (refine bel_trans ?_ (by assumption)))))
def OwnI (w:World) (B:Nat) (v:Value) (zs:List Int):Prop:=w.ownsRow B 3 1 v zs.length (zs.map (Value.int .i64))
theorem OwnI.nil (w:World) (B:Nat):OwnI w B (.slice none 0 0) []:=⟨rfl,.inl ⟨rfl,rfl⟩⟩
theorem OwnI.below {w w':World} {B B':Nat} {v:Value} {zs:List Int} (h:OwnI w B v zs) (hb:Below w.heap.size w w'):OwnI w' B v zs:=
 World.ownsRow.kept (row:=none) h ⟨hb.os,hb.tape,hb.output,hb.size,fun k hk _=>hb.block k hk⟩ (by cases hv:v.ownBlock <;> simp)
theorem OwnI.ints {w:World} {B:Nat} {v:Value} {zs:List Int} (h:OwnI w B v zs):∃A m,v=.slice A zs.length m∧Ints w A zs.length (fun k=>zs.getD k 0):=by
 rcases h.2 with ⟨rfl,hn⟩ | ⟨g,cap,cur,rfl,hg,hh,hc,hm,hs,ht⟩
 ·rw [hn];exact ⟨none,0,rfl,fun h=>absurd h (by omega)⟩
 ·refine ⟨_,cap,rfl,fun _=>⟨⟨g,0,none⟩,rfl,(Array.getElem?_eq_some_iff.1 hh).1,fun k hk=>?_⟩⟩
  refine World.ownsRow.cells h (g:=g) rfl k _ ?_;simp [List.getD,hk]
theorem int_info:(Tryz.prog.info? 3).map (fun i=>(i.zero,i.size,i.bytes))=some (some (.int .i64 0),1,8):=by kernel_rfl
theorem wpList_append_int {ops : Array Oper} {rest : List Oper} {o : Oper} {a : Act} {Q : Exit → Act → World → Prop} (w : World) (hgd : o.guard = none) (s x : Operand)
    (ho:o.op=.call { callee:=.builtin .append,args:=#[s,x],argTypes:=#[22,22] })
    (B:Nat) (v:Value) (zs:List Int) (z:Int) (hs:a.eval s=v) (hown:OwnI w B v zs) (ad:Addr) (hx:a.eval x=.slice (some ad) 1 1) (hc:w.cell? ad=some (.int .i64 z))
    (hl:zs.length<1099511627776) (hB:B≤w.heap.size)
    (h:∀v' w',OwnI w' B v' (zs ++ [z])→w.grownBy w' v.ownBlock→wpList Tryz.prog ops Q rest (a.put o.dst v') w'):wpList Tryz.prog ops Q (o :: rest) a w:=by
 obtain ⟨i0,hi,hz0,hz1,hz2⟩:=info_parts int_info
 refine wpList_append_own w hgd s x 22 ho B 3 i0 (.int .i64 0) 1 8 Tryz.underlying22 hi hz0 hz1 hz2 rfl (by decide) v zs.length (zs.map (Value.int .i64)) hs hown ad 1 1 [.int .i64 z] hx rfl ?_ ?_ ?_ ?_ hB ?_
 ·intro j u hu
  cases j with
  | zero=>simp at hu;subst hu;simpa [Addr.add] using hc
  | succ j=>simp at hu
 ·intro u hu;simp at hu;subst hu;rfl
 ·unfold maxLen;omega
 ·omega
 ·intro v' w' h1 h2 _
  refine h v' w' ?_ h2;unfold OwnI
  simpa using h1
theorem cell1_new (w:World) (v:Value) (T:TypeId):(w.alloc (.cells #[v] T)).cell? ⟨w.heap.size,0,none⟩=some v:=by go_simp
theorem OwnI.alloc {w:World} {B:Nat} {v:Value} {zs:List Int} (h:OwnI w B v zs) (o:Obj):OwnI (w.alloc o) B v zs:=World.ownsRow.alloc h o
theorem below_grown {B:Nat} {W w w':World} {v:Value} {zs:List Int} (hB:Below B W w) (hs:B≤w.heap.size) (h:OwnI w B v zs) (hg:w.grownBy w' v.ownBlock):Below B W w':=
 hB.grown hg hs (fun k hk=>(World.ownsRow.lt h k hk).1)
def upTo (p:Nat→Bool) (k:Nat):List Int:=((List.range k).filter p).map (fun d:Nat=>(d:Int))
theorem upTo_yes {p:Nat→Bool} {k:Nat} (h:p k=true):upTo p (k+1)=upTo p k ++ [(k:Int)]:=by simp [upTo,List.range_succ,List.filter_append,h]
theorem upTo_no {p:Nat→Bool} {k:Nat} (h:p k=false):upTo p (k+1)=upTo p k:=by simp [upTo,List.range_succ,List.filter_append,h]
theorem upTo_len (p:Nat→Bool) (k:Nat):(upTo p k).length≤k:=by
 unfold upTo;rw [List.length_map];exact Nat.le_trans (List.length_filter_le _ _) (by simp)
def movesI (g:G) (c:Nat):List Int:=upTo (g.mayC c) 8
theorem movesI_eq (g:G) (c:Nat):movesI g c=(g.moves c).map (fun d:Nat=>(d:Int)):=rfl
def InPG (g:G) (c:Nat):Prop:=inP (g.X c:Nat)∧inP (g.Y c:Nat)
theorem inPG {g:G} (h:g.ok) {c:Nat} (hc:c<g.n):InPG g c:=by
 have h1:=G.X_lt h c;have h2:=G.Y_lt hc;obtain ⟨_,o2,_,o4⟩:=h;unfold InPG inP;omega
def kd (g:G) (x y u v:Int):Bool:=!g.op (x+u) (y+v) && g.op (x+u) y && g.op x (y+v)
theorem kd_val {g:G} {x y u v:Int} {t1 t2 t3:Bool} (h1:g.op (x+u) (y+v)=t1) (h2:g.op (x+u) y=t2) (h3:g.op x (y+v)=t3):kd g x y u v=(!t1 && t2 && t3):=by unfold kd;rw [h1,h2,h3]
def cornerB (g:G) (c:Nat):Bool:=g.op (g.X c:Nat) (g.Y c:Nat) && (kd g (g.X c:Nat) (g.Y c:Nat) 1 (-1) || kd g (g.X c:Nat) (g.Y c:Nat) 1 1 || kd g (g.X c:Nat) (g.Y c:Nat) (-1) 1 || kd g (g.X c:Nat) (g.Y c:Nat) (-1) (-1))
def noKd (g:G) (x y:Int) (k:Nat):Prop:=∀j,j<k→kd g x y (dxN (2*j+1)) (dyN (2*j+1))=false
theorem noKd_zero (g:G) (x y:Int):noKd g x y 0:=fun j hj=>by omega
theorem noKd_succ {g:G} {x y:Int} {k:Nat} (h:noKd g x y k) (h':kd g x y (dxN (2*k+1)) (dyN (2*k+1))=false):noKd g x y (k+1):=by
 intro j hj
 by_cases e:j=k
 ·subst e;exact h'
 ·exact h j (by omega)
theorem corner_no {g:G} {c:Nat} (h:noKd g (g.X c:Nat) (g.Y c:Nat) 4):cornerB g c=false:=by
 have h0:=h 0 (by omega)
 have h1:=h 1 (by omega)
 have h2:=h 2 (by omega)
 have h3:=h 3 (by omega)
 simp [dxN,dyN] at h0 h1 h2 h3;unfold cornerB;simp [h0,h1,h2,h3]
theorem corner_yes {g:G} {c k:Nat} (hk:k<4) (ho:g.op (g.X c:Nat) (g.Y c:Nat)=true) (h:kd g (g.X c:Nat) (g.Y c:Nat) (dxN (2*k+1)) (dyN (2*k+1))=true):cornerB g c=true:=by
 unfold cornerB
 rcases (show k=0∨k=1∨k=2∨k=3 by omega) with rfl | rfl | rfl | rfl <;> simp [dxN,dyN] at h <;> simp [ho,h]
theorem ret_t2 {a b:Bool} {v:Value} (h:a=b):Ending.returned (.tuple #[.bool a,v])=.returned (.tuple #[.bool b,v]):=by rw [h]
theorem cornerIs_in (w : World) (p : Nat) (g : G) (v : Int) (c : Nat) (h : GridAt w p g v) (hc : c < g.n) :
    Calls Tryz.prog 159 #[.pointer (some ⟨p,0,none⟩),.int .i64 (c:Nat)] w fun e w'=>e=.returned (.tuple #[.bool (cornerB g c),.nilIface])∧Below w.heap.size w w':=by
 have hin:=inPG h.1 hc;have hp:=Lib.hid h.lt;obtain ⟨hx,hy⟩:=hin;unfold inP at hx hy;have hcB:∃t,cornerB g c=t:=⟨_,rfl⟩;obtain ⟨cb,hcb⟩:=hcB;rw [hcb];have Hcb:=Lib.hid hcb;clear hcb;go_enter Tryz.func159,Tryz.ntmps159;go_wp2_with fail;refine (gridPlace_in w p g v c h hc).mono ?_;rintro e w1 ⟨rfl,hb1⟩;have hs1:=hb1.size;go_wp2_with fail
 cases ho:g.op (g.X c:Nat) (g.Y c:Nat) with
 | false=>
  refine (gridOpen_at _ p g v _ _ _ (h.below hb1 hp.out) ho).mono ?_;rintro e w' ⟨rfl,rfl⟩
  have Hc0:cornerB g c=false:=by unfold cornerB;rw [ho];rfl
  obtain rfl:false=cb:=Hc0.symm.trans Hcb.out;clear Hc0 ho;go_wp2;go_ret2;exact ⟨rfl,hb1⟩
 | true=>
  refine (gridOpen_at _ p g v _ _ _ (h.below hb1 hp.out) ho).mono ?_;rintro e w' ⟨rfl,rfl⟩;have Ho:=Lib.hid ho;clear ho;go_wp2_with fail
  go_loopw [9] (fun i wr=>∃k:Nat,k≤4∧i=.int .i64 ((2*k+1:Nat):Int)∧noKd g (g.X c:Nat) (g.Y c:Nat) k∧Below w.heap.size w wr) (fun i _=>9-(intOf i).toNat)
  case atStart=>exact ⟨0,by omega,rfl,noKd_zero _ _ _,hb1⟩
  case round=>
   obtain ⟨k,hk,rfl,hno,HB⟩:=hrel;have Hno:=Lib.hid hno;clear hno
   by_cases hlt:k<4
   ·have hst:=Lib.hid (fun w'=>step_one (2*k+1) (by omega) w')
    obtain ⟨b1,b2,b3,b4⟩:=dN_abs (2*k+1)
    have Hs:=Lib.hid (fun h'=>noKd_succ Hno.out h')
    have Hy:=Lib.hid (fun h'=>corner_yes (g:=g) (c:=c) hlt Ho.out h')
    generalize dxN (2*k+1)=dx at *
    generalize dyN (2*k+1)=dy at *
    obtain ⟨t1,h1⟩:∃t,g.op ((g.X c:Nat)+dx) ((g.Y c:Nat)+dy)=t:=⟨_,rfl⟩;obtain ⟨t2,h2⟩:∃t,g.op ((g.X c:Nat)+dx) (g.Y c:Nat)=t:=⟨_,rfl⟩;obtain ⟨t3,h3⟩:∃t,g.op (g.X c:Nat) ((g.Y c:Nat)+dy)=t:=⟨_,rfl⟩;have Hv:=Lib.hid (kd_val h1 h2 h3)
    have c1:=Lib.hid (fun w' h'=>gridOpen_at w' p g v _ _ _ h' h1)
    have c2:=Lib.hid (fun w' h'=>gridOpen_at w' p g v _ _ _ h' h2)
    have c3:=Lib.hid (fun w' h'=>gridOpen_at w' p g v _ _ _ h' h3)
    clear h1 h2 h3;go_wp2_with fail;refine (hst.out _).mono ?_;rintro e w2 ⟨rfl,hb2⟩;have HB2:=bel_trans HB hb2;have hG:=h.below HB2 hp.out;clear hb2;go_wp2_with fail;refine (c1.out _ hG).mono ?_;rintro e w' ⟨rfl,rfl⟩
    cases t1
    ·go_wp2_with fail
     refine (c2.out _ hG).mono ?_;rintro e w' ⟨rfl,rfl⟩
     cases t2
     ·go_wp2
      go_roundw
      case rel=>exact ⟨k+1,by omega,by go_num,Hs.out Hv.out,HB2⟩
      case measure=>simp [intOf];omega
     ·go_wp2_with fail
      refine (c3.out _ hG).mono ?_;rintro e w' ⟨rfl,rfl⟩
      cases t3
      ·go_wp2
       go_roundw
       case rel=>exact ⟨k+1,by omega,by go_num,Hs.out Hv.out,HB2⟩
       case measure=>simp [intOf];omega
      ·go_wp2
       go_ret2;exact ⟨ret_t2 (Hcb.out.symm.trans (Hy.out Hv.out)).symm,HB2⟩
    ·go_wp2
     go_roundw
     case rel=>exact ⟨k+1,by omega,by go_num,Hs.out Hv.out,HB2⟩
     case measure=>simp [intOf];omega
   ·obtain rfl:k=4:=by omega
    go_wp2;go_ret2;exact ⟨ret_t2 ((corner_no Hno.out).symm.trans Hcb.out),HB⟩
def cornersI (g:G):List Int:=upTo (cornerB g) g.n
theorem dyw_bd {g:G} (h:g.ok) (d:Nat):-16≤dyN d*g.w∧dyN d*g.w≤16:=by
 obtain ⟨h1,h2,_,_⟩:=h;obtain ⟨_,_,b3,b4⟩:=dN_abs d
 rcases (show dyN d = -1∨dyN d=0∨dyN d=1 by omega) with e | e | e <;> rw [e] <;> omega
theorem gridTo (w : World) (p : Nat) (g : G) (v : Int) (c d : Nat) (h : GridAt w p g v) (hc : c < g.n) (hd : d < 8) :
    Calls Tryz.prog 93 #[.pointer (some ⟨p,0,none⟩),.int .i64 (c:Nat),.int .i64 (d:Nat)] w fun e w'=>e=.returned (.int .i64 (g.toI c d))∧Below w.heap.size w w':=by
 obtain ⟨m1,m2⟩:=dyw_bd h.1 d;obtain ⟨b1,b2,b3,b4⟩:=dN_abs d;obtain ⟨o1,o2,o3,o4⟩:=h.1;have hn:=G.n_le h.1
 have e:g.toI c d=(c:Int)+dyN d*g.w+dxN d:=by unfold G.toI;omega
 rw [e];clear e;have hst:=Lib.hid (step_one d hd);have hk:=h.size.1;have hlt:=h.lt;clear h
 generalize dxN d=dx at *
 generalize dyN d=dy at *
 go_enter Tryz.func93,Tryz.ntmps93;go_wp2_with fail
 (with_reducible refine (hst.out _).mono ?_)
 rintro e w1 ⟨rfl,hb1⟩;have hk1:=(hb1.cell (p:=⟨p,0,none⟩) hlt).trans hk;clear hk;go_wp2;go_ret;exact ⟨rfl,hb1⟩
end Go.Proofs.YtokhnobcincfjaaGreatDoor
namespace Go.Proofs.YtokhnobcincfjaaGreatDoor
open Go.RowKit Go.Sort
theorem set_heap1 (w:World) (p k:Nat) (cs:Array Value) (T:TypeId) (x:Value) (h:w.heap[p]? = some (.cells cs T (0,0))):(w.setCell ⟨p,k,none⟩ x).heap[p]? = some (.cells (cs.setIfInBounds k x) T (0,0)):=by
 simp [World.setCell,Array.getElem?_modify,h]
theorem row_set (f f':Nat→Value) (n k:Nat) (x:Value) (hk:f' k=x) (ho:∀i,i≠k→f' i=f i):(rowOf f n).setIfInBounds k x=rowOf f' n:=by
 apply Array.ext_getElem?
 intro i;rw [Array.getElem?_setIfInBounds]
 by_cases h1:i<n
 ·rw [rowOf_get _ _ _ h1,rowOf_get _ _ _ h1]
  by_cases h2:k=i
  ·subst h2;rw [if_pos rfl,if_pos (by rw [rowOf_size];exact h1),hk]
  ·rw [if_neg h2,ho i (fun e=>h2 e.symm)]
 ·rw [Array.getElem?_eq_none (by rw [rowOf_size];omega),Array.getElem?_eq_none (by rw [rowOf_size];omega)]
  split
  ·rw [if_neg (by rw [rowOf_size];omega)]
  ·rfl
end Go.Proofs.YtokhnobcincfjaaGreatDoor
namespace Go.Proofs.YtokhnobcincfjaaGreatDoor
open Go.RowKit Go.Sort FR
theorem field_stat2 (w:World) (x0 x1 x3 x4 x5 x6:Value) (n:Int):(Instr.field 50 (.agg #[x0,x1,.int .i64 n,x3,x4,x5,x6]) 2).run Tryz.prog w=.ok (.int .i64 n) w:=by
 simp [Instr.field,asAgg,Tryz.underlying50,go_sem]
end Go.Proofs.YtokhnobcincfjaaGreatDoor
