/- Lemmas of this claim: Cost, Cost2, Grid, Grid2, RGrid, May, Grid3, RGrid2, Laid, App, Corner, Moves, RowSet, RCorner, Fld. -/
import Derived.Test.YtokhnobcincfjaaGreatDoorBase
import Derived.Test.YtokhnobcincfjaaGreatDoorKNEd1
import Derived.Deep.Cut
import Derived.WalkSpells
set_option linter.unusedVariables false
set_option linter.unusedSimpArgs false
set_option maxHeartbeats 4000000
namespace Go.Proofs.YtokhnobcincfjaaGreatDoor
open Go.Lib (hid)
open Go.RowKit Go.Sort FR
variable {t:Bool}{g:G}{a b c d v x y:Int}{zs:List Int}{S:List Nat}{B k p:Nat}{w w':World}
def xk(x y:Int):Int:=if x<y then -1 else if y<x then 1 else 0
theorem IC(x:Int)(w:World):Calls Tryz.prog 245 #[.int .i64 x] w λe u=>e=.returned (.bool false)/\w=u:=by
 go_enter Tryz.func245,Tryz.ntmps245;go_wp2;go_ret;exact⟨rfl,rfl⟩
theorem Cr(h:a=b):Ending.returned (.int .i64 a)=.returned (.int .i64 b):=by rw[h]
theorem Qt{a b:Bool}(h:a=b):Ending.returned (.bool a)=.returned (.bool b):=by rw[h]
theorem Dq(x y:Int)(w:World):Calls Tryz.prog 236 #[.int .i64 x,.int .i64 y] w λe u=>e=.returned (.int .i64 (xk x y))/\w=u:=by
 go_enter Tryz.func236,Tryz.ntmps236;go_wp2_with (go_at_call 245;refine(IC _ _).mono ?_;rintro e u ⟨rfl,rfl⟩)
 all_goals
  go_ret;exact⟨Cr (by unfold xk;omega),rfl⟩
theorem Kw(h:(0<=a-c/\0<=b-d)\/(a-c<=0/\b-d<=0)):xk (a-c+(b-d)) 0=C.cmp ⟨a,b⟩ ⟨c,d⟩:=by
 unfold xk C.cmp C.lt Pos;simp only;omega
theorem zW(x y:Int):(x-y)*(x-y)=(y-x)*(y-x):=by grind
theorem Fv(h:0<a-c)(k:b-d<0):xk ((a-c)*(a-c)) (2*(b-d)*(b-d))=C.cmp ⟨a,b⟩ ⟨c,d⟩:=by
 unfold xk C.cmp C.lt Pos;simp only;have u:=zW c a;have z:=zW d b;have F:2*(b-d)*(b-d)=2*((b-d)*(b-d)):=by grind
 have:=TB (a-c).natAbs (a-c) (b-d) (Nat.le_refl _);omega
theorem Fw(h:a-c<0)(k:0<b-d):xk (2*(b-d)*(b-d)) ((a-c)*(a-c))=C.cmp ⟨a,b⟩ ⟨c,d⟩:=by
 unfold xk C.cmp C.lt Pos;simp only;have u:=zW c a;have z:=zW d b;have F:2*(b-d)*(b-d)=2*((b-d)*(b-d)):=by grind
 have:=TB (a-c).natAbs (a-c) (b-d) (Nat.le_refl _);omega
theorem Qu(h:-268435456<=x)(k:x<=268435456):0<=x*x/\x*x<=72057594037927936:=by
 refine⟨?_,?_⟩
 .rcases Int.le_total 0 x with u|u
  .exact Int.mul_nonneg u u
  .have:=Int.mul_nonneg (a:=-x) (b:=-x) (by omega) (by omega);rwa[Int.neg_mul_neg]at this
 .rcases Int.le_total 0 x with u|u
  .have:=qR u k;omega
  .have:=qR (a:=-x) (b:=268435456) (by omega) (by omega);rw[Int.neg_mul_neg]at this;omega
theorem Na(h:-268435456<=x)(k:x<=268435456):wrap64 (x*x)=x*x:=IntWalk.wrap64_in _ (by have:=Qu h k;omega)
theorem GJ(h:-268435456<=x)(k:x<=268435456):wrap64 (2*x*x)=2*x*x:=IntWalk.wrap64_in _ (by have:=Qu h k;rw[Int.mul_assoc];omega)
def aV(a:Int):Prop:=-134217728<=a/\a<=134217728
instance (a:Int):Decidable (aV a):=by unfold aV;infer_instance
theorem sP(a b c d:Int)(w:World)(z:aV a)(F:aV b)(I:aV c)(J:aV d):Calls Tryz.prog 196 #[.agg #[.int .i64 a,.int .i64 b],.agg #[.int .i64 c,.int .i64 d]] w λe u=>e=.returned (.int .i64 (C.cmp ⟨a,b⟩ ⟨c,d⟩))/\Below w.heap.size w u:=by
 unfold aV at z F I J;go_enter Tryz.func196,Tryz.ntmps196;go_wp2_with fail;go_quiet (fail);go_wp2_with (go_at_call 236;refine(Dq _ _ _).mono ?_;rintro e u ⟨rfl,rfl⟩)
 all_goals
  go_ret;refine⟨Cr ?_,?_⟩
  .first
   |(rw[Na (by omega) (by omega),GJ (by omega) (by omega)];first|exact Fv (by omega) (by omega)|exact Fw (by omega) (by omega))
   |exact Kw (by omega)
  ·(repeat' (first|exact Below.refl _ _|assumption|apply aj|apply ah|apply af|(refine aa ?_ (by assumption))))
theorem qa(a b c d:Int)(w:World)(z:aV a)(F:aV b)(I:aV c)(J:aV d):Calls Tryz.prog 146 #[.agg #[.int .i64 a,.int .i64 b],.agg #[.int .i64 c,.int .i64 d]] w λe u=>e=.returned (.bool (decide (C.cmp ⟨a,b⟩ ⟨c,d⟩<0)))/\Below w.heap.size w u:=by
 go_enter Tryz.func146,Tryz.ntmps146;go_wp2_with (go_at_call 196;refine(sP _ _ _ _ _ z F I J).mono ?_;rintro e u ⟨rfl,L⟩);go_ret
 exact⟨rfl,by(repeat' (first|exact Below.refl _ _|assumption|apply aj|apply ah|apply af|(refine aa ?_ (by assumption))))⟩
theorem ng(a b c d:Int)(w:World)(u:aV a)(z:aV b)(F:aV c)(I:aV d):Calls Tryz.prog 94 #[.agg #[.int .i64 a,.int .i64 b],.agg #[.int .i64 c,.int .i64 d]] w λe J=>e=.returned (.agg #[.int .i64 (a+c),.int .i64 (b+d)])/\Below w.heap.size w J:=by
 unfold aV at u z F I;go_enter Tryz.func94,Tryz.ntmps94;go_wp2;refine bodyPost_ret (v:=.agg #[.int .i64 (a+c),.int .i64 (b+d)]) (by simp[results,Tryz.results94,go_sem]) rfl ?_;exact⟨rfl,by(repeat' (first|exact Below.refl _ _|assumption|apply aj|apply ah|apply af|(refine aa ?_ (by assumption))))⟩
theorem Gw(a b c d:Int)(w:World)(u:aV a)(z:aV b)(F:aV c)(I:aV d):Calls Tryz.prog 113 #[.agg #[.int .i64 a,.int .i64 b],.agg #[.int .i64 c,.int .i64 d]] w λe J=>e=.returned (.agg #[.int .i64 (a+c),.int .i64 (b+d)])/\Below w.heap.size w J:=by
 unfold aV at u z F I;go_enter Tryz.func113,Tryz.ntmps113;go_wp2;refine bodyPost_ret (v:=.agg #[.int .i64 (a+c),.int .i64 (b+d)]) (by simp[results,Tryz.results113,go_sem]) rfl ?_;exact⟨rfl,by(repeat' (first|exact Below.refl _ _|assumption|apply aj|apply ah|apply af|(refine aa ?_ (by assumption))))⟩
theorem RN(h:a-c=0)(k:(b-d==0)=true):0=C.cmp ⟨a,b⟩ ⟨c,d⟩:=by
 have u:b-d=0:=by simpa using k
 exact(C.uM.2 (C.ext' (by simp only;omega) (by simp only;omega))).symm
theorem Gz(h:c<=a)(k:d<=b)(n:¬(a-c=0/\b-d=0)):1=C.cmp ⟨a,b⟩ ⟨c,d⟩:=by
 have:=C.NY.2 (C.jL (a:=⟨c,d⟩) (b:=⟨a,b⟩) h k (λe=>n (by injection e;omega)));have:=C.xL ⟨a,b⟩ ⟨c,d⟩;omega
theorem Gy(h:a<=c)(k:b<=d)(n:¬(a-c=0/\b-d=0)):-1=C.cmp ⟨a,b⟩ ⟨c,d⟩:=by
 have:=C.fo.2 (C.jL (a:=⟨a,b⟩) (b:=⟨c,d⟩) h k (λe=>n (by injection e;omega)));have:=C.xL ⟨a,b⟩ ⟨c,d⟩;omega
theorem Gx(F:aV a)(I:aV b)(J:aV c)(L:aV d)(m:(0<a-c/\b<d)\/(a<c/\0<b-d))(h:(decide (wrap64 (2*(b-d)*(b-d))<wrap64 ((a-c)*(a-c)))==decide (c<a))=t):(if t then 1 else -1:Int)=C.cmp ⟨a,b⟩ ⟨c,d⟩:=by
 unfold aV at F I J L;rw[Na (by omega) (by omega),GJ (by omega) (by omega)]at h;have q:=TB (a-c).natAbs (a-c) (b-d) (Nat.le_refl _);have u:2*(b-d)*(b-d)=2*((b-d)*(b-d)):=by grind
 rw[u]at h;rcases m with⟨z,M⟩|⟨z,M⟩
 .have e:=Fv (a:=a) (b:=b) (c:=c) (d:=d) z (by omega)
  rw[u]at e;rw[<-e,<-h,decide_eq_true (by omega:c<a)];unfold xk;by_cases x:2*((b-d)*(b-d))<(a-c)*(a-c)
  .simp[x];omega
  .simp[x];omega
 .have e:=Fw (a:=a) (b:=b) (c:=c) (d:=d) (by omega) (by omega)
  rw[u]at e;rw[<-e,<-h,decide_eq_false (by omega:¬c<a)];unfold xk;by_cases x:2*((b-d)*(b-d))<(a-c)*(a-c)
  .simp[x]
  .simp[x];omega
theorem ED(a b c d:Int)(w:World)(J:aV a)(L:aV b)(M:aV c)(O:aV d):Calls Tryz.prog 114 #[.agg #[.int .i64 a,.int .i64 b],.agg #[.int .i64 c,.int .i64 d]] w λe P=>e=.returned (.int .i64 (C.cmp ⟨a,b⟩ ⟨c,d⟩))/\Below w.heap.size w P:=by
 have u:=J;have z:=L;have F:=M;have I:=O;unfold aV at J L M O;go_enter Tryz.func114,Tryz.ntmps114;go_wp2
 all_goals
  go_ret;refine⟨Cr ?_,?_⟩
  .first
   |exact RN ‹_› ‹_›
   |exact Gx (t:=true) u z F I (by omega) ‹_›
   |exact Gx (t:=false) u z F I (by omega) ‹_›
   |exact Gz (by omega) (by omega) (by have h:(b-d==0)=false:=‹_›;simp at h;omega)
   |exact Gy (by omega) (by omega) (by have h:(b-d==0)=false:=‹_›;simp at h;omega)
   |exact Gz (by omega) (by omega) (by omega)
   |exact Gy (by omega) (by omega) (by omega)
  ·(repeat' (first|exact Below.refl _ _|assumption|apply aj|apply ah|apply af|(refine aa ?_ (by assumption))))
def Dv(a b:Int):Prop:=0<=a/\a<=1048576/\0<=b/\b<=1048576
theorem Dv.aV(h:Dv a b):aV a/\aV b:=by unfold Dv at h;unfold Go.Proofs.YtokhnobcincfjaaGreatDoor.aV;omega
theorem QQ(n:Int)(w:World)(h: -1099511627776<=n/\n<=1099511627776):Calls Tryz.prog 152 #[.int .i64 n] w λe u=>e=.returned (.int .i64 (n.natAbs:Int))/\w=u:=by
 go_enter Tryz.func152,Tryz.ntmps152;go_wp2
 all_goals
  go_ret;exact⟨Cr (by omega),rfl⟩
theorem AP(k:Int)(w:World):Sem.run Tryz.prog (Instr.typeAssert (.iface 45 (.int .i64 k)) 39 45 true) w=.ok (.tuple #[.int .i64 k,.bool true]) w:=by kernel_rfl
theorem O4(h:x.natAbs<y.natAbs):dh x y=⟨(y.natAbs:Int)-x.natAbs,x.natAbs⟩:=if_pos h
theorem O3(h:¬x.natAbs<y.natAbs):dh x y=⟨(x.natAbs:Int)-y.natAbs,y.natAbs⟩:=if_neg h
theorem oW(x y u v:Int)(w:World)(M: -1048576<=x/\x<=1048576)(O: -1048576<=y/\y<=1048576)(P: -1048576<=u/\u<=1048576)(Q: -1048576<=v/\v<=1048576):Calls Tryz.prog 89 #[.int .i64 x,.int .i64 y,.int .i64 u,.int .i64 v] w λe F=>e=.returned (.agg #[.int .i64 (dh (x-u) (y-v)).s,.int .i64 (dh (x-u) (y-v)).d])/\Below w.heap.size w F:=by
 by_cases I:(x-u).natAbs<(y-v).natAbs
 .rw[O4 I]
  have z:((x-u).natAbs:Int)<(y-v).natAbs:=by omega
  go_enter Tryz.func89,Tryz.ntmps89;go_wp2_with (go_at_call 152;refine(QQ _ _ (by omega)).mono ?_;rintro e F ⟨rfl,rfl⟩)
  refine bodyPost_ret (v:=.agg #[.int .i64 (((y-v).natAbs:Int)-(x-u).natAbs),.int .i64 (x-u).natAbs]) (by simp[results,Tryz.results89,go_sem]) rfl ?_;exact⟨rfl,by(repeat' (first|exact Below.refl _ _|assumption|apply aj|apply ah|apply af|(refine aa ?_ (by assumption))))⟩
 .rw[O3 I]
  have z:((y-v).natAbs:Int)<=(x-u).natAbs:=by omega
  by_cases J:((y-v).natAbs:Int)=(x-u).natAbs
  .go_enter Tryz.func89,Tryz.ntmps89
   go_wp2_with (go_at_call 152;refine(QQ _ _ (by omega)).mono ?_;rintro e F ⟨rfl,rfl⟩)
   refine bodyPost_ret (v:=.agg #[.int .i64 0,.int .i64 (x-u).natAbs]) (by simp[results,Tryz.results89,go_sem]) rfl ?_;exact⟨by rw[J,Int.sub_self],by(repeat' (first|exact Below.refl _ _|assumption|apply aj|apply ah|apply af|(refine aa ?_ (by assumption))))⟩
  .have L:((y-v).natAbs:Int)<(x-u).natAbs:=by omega
   clear J z;go_enter Tryz.func89,Tryz.ntmps89;go_wp2_with (go_at_call 152;refine(QQ _ _ (by omega)).mono ?_;rintro e F ⟨rfl,rfl⟩)
   refine bodyPost_ret (v:=.agg #[.int .i64 (((x-u).natAbs:Int)-(y-v).natAbs),.int .i64 (y-v).natAbs]) (by simp[results,Tryz.results89,go_sem]) rfl ?_;exact⟨rfl,by(repeat' (first|exact Below.refl _ _|assumption|apply aj|apply ah|apply af|(refine aa ?_ (by assumption))))⟩
def bL(g:G)(ws:Nat->Nat)(v:Int):Array Value:=#[.int .i64 g.w,.int .i64 g.h,.int .u64 (ws 0),.int .u64 (ws 1),.int .u64 (ws 2),.int .u64 (ws 3),.int .i64 v]
def az(w:World)(p:Nat)(g:G)(v:Int):Prop:=g.ok/\∃ws:Nat->Nat,(∀i,ws i<18446744073709551616)/\w.heap[p]? =some (.cells (bL g ws v) 178 (0,0))/\∀c,c<256->g.b c=(ws (c/64)).testBit (c%64)
theorem az.lt(h:az w p g v):p<w.heap.size:=by
 obtain⟨_,z,_,u,_⟩:=h;exact(Array.getElem?_eq_some_iff.1 u).1
theorem az.below(h:az w p g v)(J:Below B w w')(L:p<B):az w' p g v:=by
 obtain⟨u,M,z,F,I⟩:=h;exact⟨u,M,z,(J.block p L).trans F,I⟩
theorem az.size(h:az w p g v):w.cell? ⟨p,0,none⟩=some (.int .i64 g.w)/\w.cell? ⟨p,1,none⟩=some (.int .i64 g.h):=by
 obtain⟨_,z,_,u,_⟩:=h;simp[World.cell?,u,bL]
theorem az.word(h:az w p g v)(c:Nat)(I:c<256):∃x:Nat,x<18446744073709551616/\w.cell? ⟨p,2+c/64,none⟩=some (.int .u64 x)/\g.b c=x.testBit (c%64):=by
 obtain⟨_,J,u,F,z⟩:=h;refine⟨J (c/64),u _,?_,z c I⟩;rcases(show c/64=0\/c/64=1\/c/64=2\/c/64=3 by omega)with e|e|e|e<;>rw[e]<;>simp[World.cell?,F,bL]
theorem QW(z k:Nat)(J:z<18446744073709551616):(bits BinOp.and IntKind.u64 ((z:Int)/2^k) 1==0)=!z.testBit k:=by
 have F:(z:Int)/2^k=((z/2^k:Nat):Int):=by simp
 have u:z/2^k<18446744073709551616:=Nat.lt_of_le_of_lt (Nat.div_le_self _ _) J;have I:bits BinOp.and IntKind.u64 ((z/2^k:Nat):Int) 1=((z/2^k&&& 1:Nat):Int):=u64_and_nat _ 1 u (by decide);rw[F,I,Nat.and_one_is_mod,Nat.testBit_eq_decide_div_mod_eq];rcases Nat.mod_two_eq_zero_or_one (z/2^k)with e|e<;>rw[e]<;>rfl
def wW(x:Int):Prop:=-1048576<=x/\x<=1048576
theorem jH(w:World)(p:Nat)(g:G)(v x y:Int)(h:az w p g v)(L:0<=x)(z:x<g.w)(F:0<=y)(I:y<g.h):Calls Tryz.prog 105 #[.pointer (some ⟨p,0,none⟩),.int .i64 x,.int .i64 y] w λe J=>e=.returned (.tuple #[.int .i64 (y*g.w+x),.nilIface])/\w=J:=by
 obtain⟨M,O⟩:=h.size;obtain⟨R,T,U,Z⟩:=h.1;have u:0<=y*g.w/\y*g.w<=256:=⟨Int.mul_nonneg F (by omega),Int.le_trans (Int.mul_le_mul (show y<=16 by omega) (show(g.w:Int)<=16 by omega) (by omega) (by omega)) (by omega)⟩;obtain⟨P,Q⟩:=u;clear h;go_enter Tryz.func105,Tryz.ntmps105;go_wp2;go_ret2;exact⟨rfl,rfl⟩
theorem lh(w:World)(p:Nat)(g:G)(v x y:Int)(h:az w p g v)(z:¬(0<=x/\x<g.w/\0<=y/\y<g.h)):Calls Tryz.prog 105 #[.pointer (some ⟨p,0,none⟩),.int .i64 x,.int .i64 y] w λe u=>e=.returned (.tuple #[.int .i64 0,.iface 45 (.int .i64 1)])/\w=u:=by
 obtain⟨F,I⟩:=h.size;clear h;go_enter Tryz.func105,Tryz.ntmps105;go_wp2
 all_goals
  go_ret2;exact⟨rfl,rfl⟩
theorem ve(w:World)(p:Nat)(g:G)(v x y:Int)(h:az w p g v):Calls Tryz.prog 96 #[.pointer (some ⟨p,0,none⟩),.int .i64 x,.int .i64 y] w λe L=>e=.returned (.bool (g.op x y))/\w=L:=by
 by_cases P:0<=x/\x<g.w/\0<=y/\y<g.h
 .obtain⟨M,Q,O,R⟩:=P
  have I:=jH w p g v x y h M Q O R;obtain⟨i,rfl⟩:=Int.eq_ofNat_of_zero_le M;obtain⟨j,rfl⟩:=Int.eq_ofNat_of_zero_le O;have e:((j:Int)*g.w+i)=((j*g.w+i:Nat):Int):=by simp
  have F:g.op i j=!g.b (j*g.w+i):=by unfold G.op;simp;omega
  have T:j*g.w+i<256:=by
   obtain⟨k,Z,B,S⟩:=h.1;have:j*g.w<=15*16:=Nat.mul_le_mul (by omega) Z;omega
  rw[F];rw[e]at I;obtain⟨z,J,U,u⟩:=h.word (j*g.w+i) T;generalize j*g.w+i=c at*;rw[u];clear h u e F;go_enter Tryz.func96,Tryz.ntmps96;go_wp2_with fail;refine I.mono ?_;rintro e L ⟨rfl,rfl⟩;go_wp2
  all_goals
   go_ret;exact⟨Qt (QW _ _ J),rfl⟩
 .have I:=lh w p g v x y h P
  have F:g.op x y=false:=by unfold G.op;simp;omega
  rw[F];clear h;go_enter Tryz.func96,Tryz.ntmps96;go_wp2_with fail;refine I.mono ?_;rintro e L ⟨rfl,rfl⟩;go_wp2;go_ret;exact⟨rfl,rfl⟩
theorem jc(w:World)(p:Nat)(g:G)(v:Int)(h:az w p g v):Calls Tryz.prog 48 #[.pointer (some ⟨p,0,none⟩)] w λe z=>e=.returned (.int .i64 (g.n:Nat))/\Below w.heap.size w z:=by
 obtain⟨F,I⟩:=h.size;obtain⟨M,O,P,Q⟩:=h.1;have e:((g.n:Nat):Int)=(g.w:Int)*g.h:=by unfold G.n;simp
 have u:0<=(g.w:Int)*g.h/\(g.w:Int)*g.h<=256:=by have:=G.bR h.1;rw[<-e];omega
 obtain⟨J,L⟩:=u;clear h;rw[e];clear e;go_enter Tryz.func48,Tryz.ntmps48;go_wp2_with fail;go_quiet (fail);go_wp2;go_ret
 exact⟨rfl,by(repeat' (first|exact Below.refl _ _|assumption|apply aj|apply ah|apply af|(refine aa ?_ (by assumption))))⟩
theorem aU(w:World)(p:Nat)(g:G)(v:Int)(c:Nat)(h:az w p g v)(I:c<g.n):Calls Tryz.prog 86 #[.pointer (some ⟨p,0,none⟩),.int .i64 (c:Nat)] w λe M=>e=.returned (.tuple #[.int .i64 (g.X c:Nat),.int .i64 (g.Y c:Nat),.nilIface])/\Below w.heap.size w M:=by
 have J:=h.size.1;obtain⟨P,Q,R,T⟩:=h.1;have u:((g.X c:Nat):Int)=(c:Int)%g.w:=by unfold G.X;simp
 have z:((g.Y c:Nat):Int)=(c:Int)/g.w:=by unfold G.Y;simp
 rw[u,z];have U:0<=(c:Int)/g.w:=by omega
 have Z:(c:Int)/g.w<=256:=by have:=G.iM I;omega
 clear u z;have O:=G.bR h.1;go_enter Tryz.func86,Tryz.ntmps86;go_wp2_with fail;refine(jc w p g v h).mono ?_;rintro e k ⟨rfl,F⟩;have L:=(F.cell (p:=⟨p,0,none⟩) h.lt).trans J;clear h;go_wp2_with fail;go_quiet (fail);go_wp2;go_ret3
 exact⟨rfl,by(repeat' (first|exact Below.refl _ _|assumption|apply aj|apply ah|apply af|(refine aa ?_ (by assumption))))⟩
theorem xu(w:World)(p:Nat)(g:G)(v c:Int)(h:az w p g v)(u:c<0\/g.n<=c):Calls Tryz.prog 86 #[.pointer (some ⟨p,0,none⟩),.int .i64 c] w λe z=>e=.returned (.tuple #[.int .i64 0,.int .i64 0,.iface 45 (.int .i64 1)])/\Below w.heap.size w z:=by
 have I:=G.bR h.1;rcases u with u|u
 .go_enter Tryz.func86,Tryz.ntmps86
  go_wp2;go_ret3;exact⟨rfl,by(repeat' (first|exact Below.refl _ _|assumption|apply aj|apply ah|apply af|(refine aa ?_ (by assumption))))⟩
 .go_enter Tryz.func86,Tryz.ntmps86
  go_wp2_with fail;refine(jc w p g v h).mono ?_;rintro e J ⟨rfl,F⟩;clear h;go_wp2;go_ret3
  exact⟨rfl,by(repeat' (first|exact Below.refl _ _|assumption|apply aj|apply ah|apply af|(refine aa ?_ (by assumption))))⟩
theorem dC(w:World)(p:Nat)(g:G)(v:Int)(c:Nat)(h:az w p g v)(u:c<g.n):Calls Tryz.prog 52 #[.pointer (some ⟨p,0,none⟩),.int .i64 (c:Nat)] w λe z=>e=.returned (.tuple #[.bool (!g.b c),.nilIface])/\Below w.heap.size w z:=by
 rw[<-G.lH h.1 u];go_enter Tryz.func52,Tryz.ntmps52;go_wp2_with fail;refine(aU w p g v c h u).mono ?_;rintro e I ⟨rfl,F⟩;go_wp2_with fail;refine(ve I p g v _ _ (h.below F h.lt)).mono ?_;rintro e z ⟨rfl,rfl⟩;go_wp2;go_ret2
 exact⟨rfl,by(repeat' (first|exact Below.refl _ _|assumption|apply aj|apply ah|apply af|(refine aa ?_ (by assumption))))⟩
theorem iR(w:World)(p:Nat)(g:G)(v c:Int)(h:az w p g v)(u:c<0\/g.n<=c):Calls Tryz.prog 52 #[.pointer (some ⟨p,0,none⟩),.int .i64 c] w λe z=>e=.returned (.tuple #[.bool false,.iface 45 (.int .i64 1)])/\Below w.heap.size w z:=by
 go_enter Tryz.func52,Tryz.ntmps52;go_wp2_with fail;refine(xu w p g v c h u).mono ?_;rintro e I ⟨rfl,F⟩;go_wp2;go_ret2
 exact⟨rfl,by(repeat' (first|exact Below.refl _ _|assumption|apply aj|apply ah|apply af|(refine aa ?_ (by assumption))))⟩
theorem KX(w:World)(p:Nat)(g:G)(v:Int)(h:az w p g v):Calls Tryz.prog 99 #[.pointer (some ⟨p,0,none⟩)] w λe u=>e=.returned (.tuple #[.int .i64 g.w,.int .i64 g.h])/\Below w.heap.size w u:=by
 obtain⟨z,F⟩:=h.size;clear h;go_enter Tryz.func99,Tryz.ntmps99;go_wp2_with fail;go_quiet (fail);go_wp2;go_ret2
 exact⟨rfl,by(repeat' (first|exact Below.refl _ _|assumption|apply aj|apply ah|apply af|(refine aa ?_ (by assumption))))⟩
theorem az.Uf(h:az w p g v):w.cell? ⟨p,6,none⟩=some (.int .i64 v):=by
 obtain⟨_,z,_,u,_⟩:=h;simp[World.cell?,u,bL]
theorem Bz(w:World)(p:Nat)(g:G)(v:Int)(h:az w p g v):Calls Tryz.prog 51 #[.pointer (some ⟨p,0,none⟩)] w λe u=>e=.returned (.int .i64 v)/\w=u:=by
 have z:=h.Uf;clear h;go_enter Tryz.func51,Tryz.ntmps51;go_wp2;go_ret;exact⟨rfl,rfl⟩
theorem iY(d:Nat):-1<=bu d/\bu d<=1/\-1<=aZ d/\aZ d<=1:=by
 rcases Nat.lt_or_ge d 8 with h|h
 .rcases(show d=0\/d=1\/d=2\/d=3\/d=4\/d=5\/d=6\/d=7 by omega)with rfl|rfl|rfl|rfl|rfl|rfl|rfl|rfl<;>decide
 .obtain⟨k,rfl⟩:=Nat.exists_eq_add_of_le h
  have e:bu (8+k)= -1/\aZ (8+k)= -1:=by
   unfold bu aZ;constructor
   .split<;>first|omega|rfl
   .split<;>first|omega|rfl
  rw[e.1,e.2];decide
theorem iC(d:Nat)(h:d<8)(w:World):Calls Tryz.prog 154 #[.int .i64 (d:Nat)] w λe u=>e=.returned (.tuple #[.int .i64 (bu d),.int .i64 (aZ d)])/\Below w.heap.size w u:=by
 rcases(show d=0\/d=1\/d=2\/d=3\/d=4\/d=5\/d=6\/d=7 by omega)with rfl|rfl|rfl|rfl|rfl|rfl|rfl|rfl
 all_goals
  have z:bits BinOp.and IntKind.i64 0 7=0:=by decide
  have F:bits BinOp.and IntKind.i64 1 7=1:=by decide
  have I:bits BinOp.and IntKind.i64 2 7=2:=by decide
  have J:bits BinOp.and IntKind.i64 3 7=3:=by decide
  have L:bits BinOp.and IntKind.i64 4 7=4:=by decide
  have M:bits BinOp.and IntKind.i64 5 7=5:=by decide
  have O:bits BinOp.and IntKind.i64 6 7=6:=by decide
  have P:bits BinOp.and IntKind.i64 7 7=7:=by decide
  go_enter Tryz.func154,Tryz.ntmps154;go_wp2_with fail;go_quiet (fail);go_wp2;go_ret2
  exact⟨rfl,by(repeat' (first|exact Below.refl _ _|assumption|apply aj|apply ah|apply af|(refine aa ?_ (by assumption))))⟩
theorem yC(d:Nat)(h:d<8)(w:World):Calls Tryz.prog 118 #[.int .i64 (d:Nat)] w λe u=>e=.returned (.tuple #[.int .i64 (bu d),.int .i64 (aZ d)])/\Below w.heap.size w u:=by
 rcases(show d=0\/d=1\/d=2\/d=3\/d=4\/d=5\/d=6\/d=7 by omega)with rfl|rfl|rfl|rfl|rfl|rfl|rfl|rfl
 all_goals
  go_enter Tryz.func118,Tryz.ntmps118;go_wp2;go_ret2;exact⟨rfl,by(repeat' (first|exact Below.refl _ _|assumption|apply aj|apply ah|apply af|(refine aa ?_ (by assumption))))⟩
def rowOf(f:Nat->Value)(n:Nat):Array Value:=((List.range n).map f).toArray
theorem bM(f:Nat->Value)(n k:Nat)(h:k<n):(rowOf f n)[k]? =some (f k):=by simp[rowOf,h]
theorem dI(f:Nat->Value)(n:Nat):(rowOf f n).size=n:=by simp[rowOf]
def vP(g:G)(v:Int)(k:Nat):Value:=if k=0 then .int .i64 g.w else if k=1 then .int .i64 g.h else if k=258 then .int .i64 v else .bool (g.b (k-2))
def aB(w:World)(p:Nat)(g:G)(v:Int):Prop:=g.ok/\w.heap[p]? =some (.cells (rowOf (vP g v) 259) 33 (0,0))
theorem aB.lt(h:aB w p g v):p<w.heap.size:=(Array.getElem?_eq_some_iff.1 h.2).1
theorem aB.below(h:aB w p g v)(u:Below B w w')(z:p<B):aB w' p g v:=⟨h.1,(u.block p z).trans h.2⟩
theorem aB.cell(h:aB w p g v)(k:Nat)(u:k<259):w.cell? ⟨p,k,none⟩=some (vP g v k):=by
 simp[World.cell?,h.2,bM _ _ _ u]
theorem aB.size(h:aB w p g v):w.cell? ⟨p,0,none⟩=some (.int .i64 g.w)/\w.cell? ⟨p,1,none⟩=some (.int .i64 g.h):=
 ⟨h.cell 0 (by decide),h.cell 1 (by decide)⟩
theorem aB.bit(h:aB w p g v)(c:Nat)(u:c<256):w.cell? ⟨p,2+c,none⟩=some (.bool (g.b c)):=by
 rw[h.cell (2+c) (by omega)];unfold vP;rw[if_neg (by omega),if_neg (by omega),if_neg (by omega),show 2+c-2=c by omega]
theorem aB.Uf(h:aB w p g v):w.cell? ⟨p,258,none⟩=some (.int .i64 v):=h.cell 258 (by decide)
theorem vN(w:World)(p:Nat)(g:G)(v:Int)(c:Nat)(h:aB w p g v)(F:c<g.n):Calls Tryz.prog 13 #[.pointer (some ⟨p,0,none⟩),.int .i64 (c:Nat)] w λe z=>e=.returned (.int .i64 0)/\Below w.heap.size w z:=by
 obtain⟨M,O⟩:=h.size;obtain⟨R,T,U,Z⟩:=h.1;have J:=G.bR h.1;have e:((g.n:Nat):Int)=(g.w:Int)*g.h:=by unfold G.n;simp
 have P:0<=(g.w:Int)*g.h:=by omega
 have Q:(g.w:Int)*g.h<=256:=by omega
 have I:decide ((g.w:Int)*g.h<=(c:Int))=false:=by simp;omega
 have u:decide ((c:Int)<0)=false:=by simp
 have L:IntKind.i64.wrap ((g.w:Int)*g.h)=(g.w:Int)*g.h:=IntWalk.i64_in _ (by omega);clear h e;go_enter Tryz.func13,Tryz.ntmps13;go_wp2_with fail;go_quiet (fail);go_wp2;go_ret
 exact⟨rfl,by(repeat' (first|exact Below.refl _ _|assumption|apply aj|apply ah|apply af|(refine aa ?_ (by assumption))))⟩
theorem uq(w:World)(p:Nat)(g:G)(v c:Int)(h:aB w p g v)(u:c<0\/g.n<=c):Calls Tryz.prog 13 #[.pointer (some ⟨p,0,none⟩),.int .i64 c] w λe L=>e=.returned (.int .i64 1)/\Below w.heap.size w L:=by
 obtain⟨O,P⟩:=h.size;obtain⟨T,U,Z,k⟩:=h.1;have M:=G.bR h.1;have e:((g.n:Nat):Int)=(g.w:Int)*g.h:=by unfold G.n;simp
 have Q:0<=(g.w:Int)*g.h:=by omega
 have R:(g.w:Int)*g.h<=256:=by omega
 have J:IntKind.i64.wrap ((g.w:Int)*g.h)=(g.w:Int)*g.h:=IntWalk.i64_in _ (by omega);rcases(show c<0\/(0<=c/\(g.n:Int)<=c)by omega)with u|⟨z,u⟩
 .have F:decide (c<0)=true:=by simp;omega
  clear h e J;go_enter Tryz.func13,Tryz.ntmps13;go_wp2_with fail;go_quiet (fail);go_wp2;go_ret
  exact⟨rfl,by(repeat' (first|exact Below.refl _ _|assumption|apply aj|apply ah|apply af|(refine aa ?_ (by assumption))))⟩
 .have F:decide ((g.w:Int)*g.h<=c)=true:=by simp;omega
  have I:decide (c<0)=false:=by simp;omega
  clear h e;go_enter Tryz.func13,Tryz.ntmps13;go_wp2_with fail;go_quiet (fail);go_wp2;go_ret
  exact⟨rfl,by(repeat' (first|exact Below.refl _ _|assumption|apply aj|apply ah|apply af|(refine aa ?_ (by assumption))))⟩
theorem Tk(w:World)(p:Nat)(g:G)(v x y:Int)(h:aB w p g v):Calls Tryz.prog 119 #[.pointer (some ⟨p,0,none⟩),.int .i64 x,.int .i64 y] w λe S=>e=.returned (.bool (g.op x y))/\Below w.heap.size w S:=by
 obtain⟨k1,k2⟩:=h.size;obtain⟨o1,O,o3,o4⟩:=h.1;by_cases Z:0<=x/\x<g.w/\0<=y/\y<g.h
 .obtain⟨P,a2,Q,a4⟩:=Z
  obtain⟨i,rfl⟩:=Int.eq_ofNat_of_zero_le P;obtain⟨j,rfl⟩:=Int.eq_ofNat_of_zero_le Q;have u:g.op i j=!g.b (j*g.w+i):=by unfold G.op;simp;omega
  have M:j*g.w+i<256:=by
   have:j*g.w<=15*16:=Nat.mul_le_mul (by omega) O;omega
  have U:j*g.w<=240:=Nat.mul_le_mul (show j<=15 by omega) O;have T:((j:Int)*g.w)=((j*g.w:Nat):Int):=by simp
  have ht:((j:Int)*g.w+i).toNat=j*g.w+i:=by omega
  have k:IntKind.i64.wrap ((j:Int)*g.w)=(j:Int)*g.w:=IntWalk.i64_in _ (by omega);have B:IntKind.i64.wrap ((j:Int)*g.w+i)=(j:Int)*g.w+i:=IntWalk.i64_in _ (by omega);have q1:0<=(j:Int)*g.w+i:=by omega
  have q2:(j:Int)*g.w+i<256:=by omega
  have kb:=h.bit (j*g.w+i) M;have z:decide ((0:Int)<=(i:Int))=true:=by simp
  have I:decide ((0:Int)<=(j:Int))=true:=by simp
  have L:decide ((i:Int)<g.w)=true:=by simp;omega
  have R:decide ((j:Int)<g.h)=true:=by simp;omega
  rw[u];clear h u M U T;go_enter Tryz.func119,Tryz.ntmps119;go_wp2_with fail;go_quiet (fail);go_wp2;go_ret
  exact⟨rfl,by(repeat' (first|exact Below.refl _ _|assumption|apply aj|apply ah|apply af|(refine aa ?_ (by assumption))))⟩
 .have u:g.op x y=false:=by unfold G.op;simp;omega
  rw[u];clear h u;rcases(show x<0\/(0<=x/\g.w<=x)\/(0<=x/\x<g.w/\y<0)\/(0<=x/\x<g.w/\0<=y/\g.h<=y)by omega)with F|⟨F,J⟩|⟨F,J,c3⟩|⟨F,J,c3,c4⟩
  .have z:decide ((0:Int)<=x)=false:=by simp;omega
   go_enter Tryz.func119,Tryz.ntmps119;go_wp2_with fail;go_quiet (fail);go_wp2;go_ret
   exact⟨rfl,by(repeat' (first|exact Below.refl _ _|assumption|apply aj|apply ah|apply af|(refine aa ?_ (by assumption))))⟩
  .have z:decide ((0:Int)<=x)=true:=by simp;omega
   have I:decide (x<(g.w:Int))=false:=by simp;omega
   go_enter Tryz.func119,Tryz.ntmps119;go_wp2_with fail;go_quiet (fail);go_wp2;go_ret
   exact⟨rfl,by(repeat' (first|exact Below.refl _ _|assumption|apply aj|apply ah|apply af|(refine aa ?_ (by assumption))))⟩
  .have z:decide ((0:Int)<=x)=true:=by simp;omega
   have I:decide (x<(g.w:Int))=true:=by simp;omega
   have L:decide ((0:Int)<=y)=false:=by simp;omega
   go_enter Tryz.func119,Tryz.ntmps119;go_wp2_with fail;go_quiet (fail);go_wp2;go_ret
   exact⟨rfl,by(repeat' (first|exact Below.refl _ _|assumption|apply aj|apply ah|apply af|(refine aa ?_ (by assumption))))⟩
  .have z:decide ((0:Int)<=x)=true:=by simp;omega
   have I:decide (x<(g.w:Int))=true:=by simp;omega
   have L:decide ((0:Int)<=y)=true:=by simp;omega
   have R:decide (y<(g.h:Int))=false:=by simp;omega
   go_enter Tryz.func119,Tryz.ntmps119;go_wp2_with fail;go_quiet (fail);go_wp2;go_ret
   exact⟨rfl,by(repeat' (first|exact Below.refl _ _|assumption|apply aj|apply ah|apply af|(refine aa ?_ (by assumption))))⟩
theorem dD(w:World)(p:Nat)(g:G)(v x y:Int)(t:Bool)(h:az w p g v)(u:g.op x y=t):Calls Tryz.prog 96 #[.pointer (some ⟨p,0,none⟩),.int .i64 x,.int .i64 y] w λe z=>e=.returned (.bool t)/\w=z:=by
 rw[<-u];exact ve w p g v x y h
theorem qM(w:World)(p:Nat)(g:G)(v x y:Int)(t:Bool)(h:aB w p g v)(u:g.op x y=t):Calls Tryz.prog 119 #[.pointer (some ⟨p,0,none⟩),.int .i64 x,.int .i64 y] w λe z=>e=.returned (.bool t)/\Below w.heap.size w z:=by
 rw[<-u];exact Tk w p g v x y h
theorem LM{d:Nat}(F:d<8)(I:d%2=0)(u:g.op x y=true)(z:g.op (x+bu d) (y+aZ d)=true):g.op (x+bu d) y=true/\g.op x (y+aZ d)=true:=by
 rcases(show d=0\/d=2\/d=4\/d=6 by omega)with rfl|rfl|rfl|rfl<;>simp[bu,aZ]at* <;>simp[u,z]
theorem F9{d:Nat}{u z F I:Bool}(J:g.op x y=u)(L:g.op (x+bu d) (y+aZ d)=z)(M:g.op (x+bu d) y=F)(O:g.op x (y+aZ d)=I):g.may x y d=(u&&z&&F&&I):=by
 unfold G.may;rw[J,L,M,O]
theorem Ki(d:Nat)(h:d<8):(bits BinOp.and IntKind.i64 (d:Int) 1==0)=(d%2==0):=by
 rcases(show d=0\/d=1\/d=2\/d=3\/d=4\/d=5\/d=6\/d=7 by omega)with rfl|rfl|rfl|rfl|rfl|rfl|rfl|rfl<;>decide
theorem zn(w:World)(p:Nat)(g:G)(v x y:Int)(d:Nat)(h:az w p g v)(B:d<8)(hx:wW x)(hy:wW y):Calls Tryz.prog 153 #[.pointer (some ⟨p,0,none⟩),.int .i64 x,.int .i64 y,.int .i64 (d:Nat)] w λe u=>e=.returned (.bool (g.may x y d))/\Below w.heap.size w u:=by
 unfold wW at hx hy;obtain⟨b1,b2,b3,b4⟩:=iY d;have hb:=Ki d B;obtain⟨t1,O⟩:∃t,g.op x y=t:=⟨_,rfl⟩;obtain⟨t2,P⟩:∃t,g.op (x+bu d) (y+aZ d)=t:=⟨_,rfl⟩;obtain⟨t3,Q⟩:∃t,g.op (x+bu d) y=t:=⟨_,rfl⟩;obtain⟨t4,R⟩:∃t,g.op x (y+aZ d)=t:=⟨_,rfl⟩;have he:=hid (LM (g:=g) (x:=x) (y:=y) B);rw[F9 O P Q R];have T:=λu z=>dD u p g v _ _ _ z O;have U:=λu z=>dD u p g v _ _ _ z P;have c3:=λu z=>dD u p g v _ _ _ z Q;have Z:=λu z=>dD u p g v _ _ _ z R;have S:=hid O;have H2:=hid P;have H3:=hid Q;have H4:=hid R;clear O P Q R;have T:=hid T;have U:=hid U;have c3:=hid c3;have Z:=hid Z;obtain⟨par,F⟩:∃t,(d%2==0)=t:=⟨_,rfl⟩;rw[F]at hb;have Hp:=hid F;clear F;generalize J:bu d=dx at*;generalize L:aZ d=dy at*;have I:=λu=>iC d B u;rw[J,L]at I;have I:=hid I;have ab:=hid J;have ac:=hid L;clear J L;go_enter Tryz.func153,Tryz.ntmps153;go_wp2_with fail;refine(I.out _).mono ?_;rintro e w1 ⟨rfl,k⟩;have z:=h.below k h.lt;go_wp2_with fail;refine(T.out _ z).mono ?_;rintro e u ⟨rfl,rfl⟩
 cases t1
 .go_wp2
  go_ret;exact⟨rfl,by(repeat' (first|exact Below.refl _ _|assumption|apply aj|apply ah|apply af|(refine aa ?_ (by assumption))))⟩
 .go_wp2_with fail
  refine(U.out _ z).mono ?_;rintro e u ⟨rfl,rfl⟩;cases t2
  .go_wp2
   go_ret;exact⟨rfl,by(repeat' (first|exact Below.refl _ _|assumption|apply aj|apply ah|apply af|(refine aa ?_ (by assumption))))⟩
  .cases par
   .go_wp2_with fail
    refine(c3.out _ z).mono ?_;rintro e u ⟨rfl,rfl⟩;cases t3
    .go_wp2
     go_ret;exact⟨rfl,by(repeat' (first|exact Below.refl _ _|assumption|apply aj|apply ah|apply af|(refine aa ?_ (by assumption))))⟩
    .go_wp2_with fail
     refine(Z.out _ z).mono ?_;rintro e u ⟨rfl,rfl⟩;go_wp2;go_ret;exact⟨by simp,by(repeat' (first|exact Below.refl _ _|assumption|apply aj|apply ah|apply af|(refine aa ?_ (by assumption))))⟩
   .have M:=he.out (by have:=Hp.out;simpa using this) S.out H2.out
    rw[H3.out,H4.out]at M;obtain⟨e3,e4⟩:=M;subst e3;subst e4;go_wp2;go_ret;exact⟨rfl,by(repeat' (first|exact Below.refl _ _|assumption|apply aj|apply ah|apply af|(refine aa ?_ (by assumption))))⟩
structure Kept (S:List Nat) (w w':World):Prop where
 os:w'.os=w.os
 tape:w'.tape=w.tape
 output:w'.output=w.output
 size:w.heap.size<=w'.heap.size
 block:∀k,k<w.heap.size->k∉S->w'.heap[k]? =w.heap[k]?
theorem Kept.refl(S:List Nat)(w:World):Kept S w w:=⟨rfl,rfl,rfl,Nat.le_refl _,λ_ _ _=>rfl⟩
theorem Kept.trans{a b c:World}(h:Kept S a b)(k:Kept S b c):Kept S a c:=
 ⟨k.os.trans h.os,k.tape.trans h.tape,k.output.trans h.output,Nat.le_trans h.size k.size,λi u z=>(k.block i (Nat.lt_of_lt_of_le u h.size) z).trans (h.block i u z)⟩
theorem Kept.more{S u:List Nat}{a b:World}(h:Kept S a b)(I:∀k,k∈S->k∈u):Kept u a b:=⟨h.os,h.tape,h.output,h.size,λk z F=>h.block k z λe=>F (I k e)⟩
theorem Kept.of_below{a b:World}(h:Below a.heap.size a b):Kept S a b:=⟨h.os,h.tape,h.output,h.size,λk u _=>h.block k u⟩
theorem Kept.below{a b c:World}(h:Below B a b)(k:Kept S b c)(u:B<=b.heap.size)(F:∀i,i∈S->B<=i):Below B a c:=
 h.trans ⟨k.os,k.tape,k.output,k.size,λi z=>k.block i (Nat.lt_of_lt_of_le z u) λe=>by have:=F i e;omega⟩
theorem Kept.drew{a b:World}(h:Kept S a b):Kept S a b.drew:=⟨h.os,h.tape,h.output,h.size,h.block⟩
theorem Kept.drewN{a b:World}(h:Kept S a b){n:Nat}:Kept S a (b.drewN n):=⟨h.os,h.tape,h.output,h.size,h.block⟩
theorem Kept.alloc{a b:World}(h:Kept S a b){o:Obj}:Kept S a (b.alloc o):=
 h.trans ⟨rfl,rfl,rfl,by simp,λk u _=>Below.heap_alloc _ _ _ u⟩
theorem Kept.setCell{a b:World}(h:Kept S a b){p:Addr}{u:Value}(z:p.block∈S\/a.heap.size<=p.block):Kept S a (b.setCell p u):=
 ⟨h.os,h.tape,h.output,by have:=h.size;simpa[World.setCell]using this,λk J I=>by
  have F:k≠p.block:=by
   rintro rfl;rcases z with z|z
   .exact I z
   .omega
  rw[Below.heap_setCell _ _ _ _ F];exact h.block k J I⟩
theorem az.kept(h:az w p g v)(J:Kept S w w')(M:p∉S):az w' p g v:=by
 have L:=h.lt;obtain⟨u,O,z,F,I⟩:=h;exact⟨u,O,z,(J.block p L M).trans F,I⟩
def bS(g:G)(c:Nat)(t:Bool):G:={g with b:=upd g.b c t}
theorem uZ(a b:Int)(w:World)(h:1<=a/\a<=16/\1<=b/\b<=16):Calls Tryz.prog 64 #[.int .i64 a,.int .i64 b] w λe u=>e=.returned (.tuple #[.pointer (some ⟨w.heap.size,0,none⟩),.nilIface])/\az u w.heap.size ⟨a.toNat,b.toNat,λ_=>false⟩ 0/\Below w.heap.size w u/\u.heap.size=w.heap.size+1:=by
 obtain⟨z,F,I,J⟩:=h;go_enter Tryz.func64,Tryz.ntmps64;go_wp2;go_ret2;refine⟨rfl,?_,by(repeat' (first|exact Below.refl _ _|assumption|apply aj|apply ah|apply af|(refine aa ?_ (by assumption)))),by simp⟩;refine⟨⟨by simp only;omega,by simp only;omega,by simp only;omega,by simp only;omega⟩,λ_=>0,λ_=>(by decide:0<18446744073709551616),?_,λc _=>by simp⟩;rw[heap_alloc_new];simp[bL];omega
theorem sV(a b:Int)(w:World)(h:¬(1<=a/\a<=16/\1<=b/\b<=16)):Calls Tryz.prog 64 #[.int .i64 a,.int .i64 b] w λe u=>e=.returned (.tuple #[.pointer none,.iface 45 (.int .i64 1)])/\w=u:=by
 go_enter Tryz.func64,Tryz.ntmps64;go_wp2
 all_goals
  go_ret2;exact⟨rfl,rfl⟩
theorem Bw(w:World)(p:Nat)(g:G)(v c:Int)(t:Bool)(h:az w p g v)(u:c<0\/g.n<=c):Calls Tryz.prog 57 #[.pointer (some ⟨p,0,none⟩),.int .i64 c,.bool t] w λe z=>e=.returned (.tuple #[.bool false,.iface 45 (.int .i64 1)])/\Below w.heap.size w z:=by
 go_enter Tryz.func57,Tryz.ntmps57;go_wp2_with fail;refine(iR w p g v c h u).mono ?_;rintro e I ⟨rfl,F⟩;go_wp2;go_ret2
 exact⟨rfl,by(repeat' (first|exact Below.refl _ _|assumption|apply aj|apply ah|apply af|(refine aa ?_ (by assumption))))⟩
theorem zo(w:World)(p:Nat)(g:G)(v:Int)(c:Nat)(h:az w p g v)(z:c<g.n):Calls Tryz.prog 57 #[.pointer (some ⟨p,0,none⟩),.int .i64 (c:Nat),.bool (g.b c)] w λe F=>e=.returned (.tuple #[.bool false,.nilIface])/\Below w.heap.size w F:=by
 have u:=dC w p g v c h z;generalize g.b c=t at u⊢;clear h;cases t
 all_goals
  go_enter Tryz.func57,Tryz.ntmps57;go_wp2_with fail;refine u.mono ?_;rintro e J ⟨rfl,I⟩;go_wp2;go_ret2
  exact⟨rfl,by(repeat' (first|exact Below.refl _ _|assumption|apply aj|apply ah|apply af|(refine aa ?_ (by assumption))))⟩
theorem Bv(w:World)(p:Nat)(g:G)(v:Int)(h:az w p g v):Calls Tryz.prog 134 #[.pointer (some ⟨p,0,none⟩)] w λe F=>e=.returned (.pointer (some ⟨w.heap.size,0,none⟩))/\az F w.heap.size g v/\Below w.heap.size w F/\F.heap.size=w.heap.size+1:=by
 obtain⟨I,z,J,u,L⟩:=h;have O:w.cell? ⟨p,0,none⟩=some (.int .i64 g.w):=by simp[World.cell?,u,bL]
 have P:w.cell? ⟨p,1,none⟩=some (.int .i64 g.h):=by simp[World.cell?,u,bL]
 have Q:w.cell? ⟨p,2,none⟩=some (.int .u64 (z 0)):=by simp[World.cell?,u,bL]
 have R:w.cell? ⟨p,3,none⟩=some (.int .u64 (z 1)):=by simp[World.cell?,u,bL]
 have T:w.cell? ⟨p,4,none⟩=some (.int .u64 (z 2)):=by simp[World.cell?,u,bL]
 have U:w.cell? ⟨p,5,none⟩=some (.int .u64 (z 3)):=by simp[World.cell?,u,bL]
 have Z:w.cell? ⟨p,6,none⟩=some (.int .i64 v):=by simp[World.cell?,u,bL]
 have M:=hid u;clear u;go_enter Tryz.func134,Tryz.ntmps134;go_wp2;go_ret;refine⟨rfl,⟨I,z,J,?_,L⟩,by(repeat' (first|exact Below.refl _ _|assumption|apply aj|apply ah|apply af|(refine aa ?_ (by assumption)))),by simp⟩;rw[heap_alloc_new];rfl
theorem yX(z k:Nat)(F:z<18446744073709551616)(u:k<64):bits BinOp.xor IntKind.u64 (z:Int) ((2^k:Nat):Int)=((z^^^2^k:Nat):Int):=
 bits_xor_u64_nat z (2^k) F (Nat.lt_of_lt_of_le (Nat.pow_lt_pow_right (by decide) u) (by decide))
theorem Iu(w:World)(p k:Nat)(cs:Array Value)(T:TypeId)(x y:Value)(h:w.heap[p]? =some (.cells cs T (0,0))):(((w.setCell ⟨p,k,none⟩ x).setCell ⟨p,6,none⟩ y).drew).heap[p]? =some (.cells ((cs.setIfInBounds k x).setIfInBounds 6 y) T (0,0)):=by
 simp[World.drew,World.setCell,Array.getElem?_modify,h]
theorem Ou{u:Nat->Nat}{c:Nat}(M:g.ok)(O:w.heap[p]? =some (.cells (bL g u v) 178 (0,0)))(I:∀i,u i<18446744073709551616)(J:∀c,c<256->g.b c=(u (c/64)).testBit (c%64))(R:c<256)(P:g.b c=!t):az ((w.setCell ⟨p,2+c/64,none⟩ (.int .u64 (bits BinOp.xor IntKind.u64 (u (c/64):Int) (IntKind.u64.wrap (2^(c%64)))))).setCell ⟨p,6,none⟩ (.int .i64 (v+1))).drew p (bS g c t) (v+1):=by
 have L:IntKind.u64.wrap (2^(c%64))=((2^(c%64):Nat):Int):=by
  have:(2:Nat)^(c%64)<2^64:=Nat.pow_lt_pow_right (by decide) (Nat.mod_lt _ (by decide));rw[IntKind.wrap_u64];have e:((2:Int)^(c%64))=((2^(c%64):Nat):Int):=by simp
  rw[e];clear e;generalize 2^(c%64)=n at*;omega
 have Q:u (c/64)^^^2^(c%64)<18446744073709551616:=Nat.xor_lt_two_pow (n:=64) (I _) (Nat.pow_lt_pow_right (by decide) (Nat.mod_lt _ (by decide)));rw[L,yX _ _ (I _) (Nat.mod_lt _ (by decide))];refine⟨M,upd u (c/64) (u (c/64)^^^2^(c%64)),?_,?_,?_⟩
 .intro i
  unfold upd;split
  .exact Q
  .exact I i
 .rw[Iu _ _ _ _ _ _ _ O]
  rcases(show c/64=0\/c/64=1\/c/64=2\/c/64=3 by omega)with e|e|e|e<;>rw[e]<;>simp[bL,upd,bS]
 .intro z F
  show upd g.b c t z=_;by_cases e:z=c
  .subst e
   rw[upd_same,upd_same,Nat.testBit_xor,<-J z F,P,Nat.testBit_two_pow_self];cases t<;>rfl
  .rw[upd_ne _ _ e,J z F]
   by_cases q:z/64=c/64
   .rw[q,upd_same,Nat.testBit_xor,Nat.testBit_two_pow_of_ne (by omega),Bool.xor_false]
   .rw[upd_ne _ _ q]
theorem iw(w:World)(p:Nat)(g:G)(v:Int)(c:Nat)(t:Bool)(h:az w p g v)(S:c<g.n)(L:g.b c= !t)(hv:0<=v/\v<=1099511627776):Calls Tryz.prog 57 #[.pointer (some ⟨p,0,none⟩),.int .i64 (c:Nat),.bool t] w λe Q=>e=.returned (.tuple #[.bool true,.nilIface])/\az Q p (bS g c t) (v+1)/\Kept [p] w Q:=by
 have I:=dC w p g v c h S;rw[L]at I;have hn:=G.bR h.1;obtain⟨v0,v1⟩:=hv;have J:=h.lt;obtain⟨B,ws,M,P,O⟩:=h;have U:=hid P;have Z:=hid L;have R:=hid M;have T:=hid O;clear P L M O;go_enter Tryz.func57,Tryz.ntmps57;go_wp2_with fail;refine I.mono ?_;rintro e F ⟨rfl,z⟩;have u:=hid ((z.block p J).trans U.out);have hk:Kept [p] w F:=.of_below z
 clear z I
 have kz:F.cell? ⟨p,2+c/64,none⟩=some (.int .u64 (ws (c/64))):=by
  have:=u.out;rcases(show c/64=0\/c/64=1\/c/64=2\/c/64=3 by omega)with e|e|e|e<;>rw[e]<;>simp[World.cell?,this,bL]
 have kv:F.cell? ⟨p,6,none⟩=some (.int .i64 v):=by have:=u.out;simp[World.cell?,this,bL]
 have kf:∀k,F.frozen? ⟨p,k,none⟩=false:=by intro k;have:=u.out;simp[World.frozen?,this]
 cases t
 all_goals
  go_wp2_with fail;go_region;go_wp2;go_ret2
  refine⟨rfl,Ou B u.out R.out T.out (by omega) Z.out,?_⟩;exact((hk.setCell (.inl (by simp))).setCell (.inl (by simp))).drew
theorem aB.kept(h:aB w p g v)(u:Kept S w w')(z:p∉S):aB w' p g v:=
 ⟨h.1,(u.block p h.lt z).trans h.2⟩
def Gu(a b:Value):Array Value:=rowOf (λk=>if k=0 then a else if k=1 then b else if k=258 then .int .i64 0 else .bool false) 259
theorem EC(a b:Value):(Tryz.zeroCells33.setIfInBounds 0 a).setIfInBounds 1 b=Gu a b:=by kernel_rfl
theorem Pq(a b:Int)(w:World)(h:1<=a/\a<=16/\1<=b/\b<=16):Calls Tryz.prog 15 #[.int .i64 a,.int .i64 b] w λe u=>e=.returned (.tuple #[.pointer (some ⟨w.heap.size,0,none⟩),.int .i64 0])/\aB u w.heap.size ⟨a.toNat,b.toNat,λ_=>false⟩ 0/\Below w.heap.size w u/\u.heap.size=w.heap.size+1:=by
 obtain⟨z,F,I,J⟩:=h;go_enter Tryz.func15,Tryz.ntmps15;go_wp2;go_ret2;refine⟨rfl,?_,by(repeat' (first|exact Below.refl _ _|assumption|apply aj|apply ah|apply af|(refine aa ?_ (by assumption)))),by simp⟩;refine⟨⟨by simp only;omega,by simp only;omega,by simp only;omega,by simp only;omega⟩,?_⟩;rw[heap_alloc_new,EC];unfold Gu vP;simp only[Int.toNat_of_nonneg (show 0<=a by omega),Int.toNat_of_nonneg (show 0<=b by omega)]
theorem MC(a b:Int)(w:World)(h:¬(1<=a/\a<=16/\1<=b/\b<=16)):Calls Tryz.prog 15 #[.int .i64 a,.int .i64 b] w λe u=>e=.returned (.tuple #[.pointer none,.int .i64 1])/\w=u:=by
 go_enter Tryz.func15,Tryz.ntmps15;go_wp2
 all_goals
  go_ret2;exact⟨rfl,rfl⟩
theorem MF(w:World)(p:Nat)(g:G)(v c:Int)(t:Bool)(h:aB w p g v)(u:c<0\/g.n<=c):Calls Tryz.prog 16 #[.pointer (some ⟨p,0,none⟩),.int .i64 c,.bool t] w λe z=>e=.returned (.tuple #[.bool false,.int .i64 1])/\Below w.heap.size w z:=by
 go_enter Tryz.func16,Tryz.ntmps16;go_wp2_with fail;refine(uq w p g v c h u).mono ?_;rintro e I ⟨rfl,F⟩;go_wp2;go_ret2
 exact⟨rfl,by(repeat' (first|exact Below.refl _ _|assumption|apply aj|apply ah|apply af|(refine aa ?_ (by assumption))))⟩
theorem Jo(w:World)(p:Nat)(g:G)(v:Int)(c:Nat)(h:aB w p g v)(I:c<g.n):Calls Tryz.prog 16 #[.pointer (some ⟨p,0,none⟩),.int .i64 (c:Nat),.bool (g.b c)] w λe M=>e=.returned (.tuple #[.bool false,.int .i64 0])/\Below w.heap.size w M:=by
 have O:=G.bR h.1;have J:=hid (vN w p g v c h I);have z:=h.bit c (by omega);have u:=h.lt;generalize g.b c=t at z⊢;clear h;cases t
 all_goals
  go_enter Tryz.func16,Tryz.ntmps16;go_wp2_with fail;refine J.out.mono ?_;rintro e P ⟨rfl,F⟩;have L:=(F.cell (p:=⟨p,2+c,none⟩) u).trans z;clear z;go_wp2;go_ret2
  exact⟨rfl,by(repeat' (first|exact Below.refl _ _|assumption|apply aj|apply ah|apply af|(refine aa ?_ (by assumption))))⟩
theorem Jr(w:World)(p k:Nat)(cs:Array Value)(T:TypeId)(x y:Value)(h:w.heap[p]? =some (.cells cs T (0,0))):((w.setCell ⟨p,k,none⟩ x).setCell ⟨p,258,none⟩ y).heap[p]? =some (.cells ((cs.setIfInBounds k x).setIfInBounds 258 y) T (0,0)):=by
 simp[World.setCell,Array.getElem?_modify,h]
theorem Pw{c:Nat}(h:aB w p g v)(J:c<256):aB ((w.setCell ⟨p,2+c,none⟩ (.bool t)).setCell ⟨p,258,none⟩ (.int .i64 (v+1))) p (bS g c t) (v+1):=by
 refine⟨h.1,?_⟩;rw[Jr _ _ _ _ _ _ _ h.2];congr 2;apply Array.ext_getElem?;intro i;rw[Array.getElem?_setIfInBounds,Array.getElem?_setIfInBounds];have u:(rowOf (vP g v) 259).size=259:=dI _ _;by_cases z:i<259
 .rw[bM _ _ _ z]
  by_cases F:258=i
  .subst F;rw[if_pos rfl,if_pos (by simp[u])];rfl
  .rw[if_neg F]
   by_cases I:2+c=i
   .subst I;rw[if_pos rfl,if_pos (by rw[u];exact z),bM _ _ _ z];simp[vP,bS,upd,show 2+c≠0 by omega,show 2+c≠1 by omega,show 2+c≠258 by omega]
   .rw[if_neg I,bM _ _ _ z]
    unfold vP bS;by_cases a:i=0
    .rw[if_pos a,if_pos a]
    .rw[if_neg a,if_neg a]
     by_cases b:i=1
     .rw[if_pos b,if_pos b]
     .rw[if_neg b,if_neg b,if_neg (by omega),if_neg (by omega)]
      simp only;rw[upd_ne _ _ (by omega)]
 .rw[if_neg (by omega),if_neg (by omega),Array.getElem?_eq_none (by rw[u];omega),Array.getElem?_eq_none (by rw[dI];omega)]
theorem Cm(w:World)(p:Nat)(g:G)(v:Int)(c:Nat)(t:Bool)(h:aB w p g v)(O:c<g.n)(J:g.b c= !t)(R:0<=v/\v<=1099511627776):Calls Tryz.prog 16 #[.pointer (some ⟨p,0,none⟩),.int .i64 (c:Nat),.bool t] w λe L=>e=.returned (.tuple #[.bool true,.int .i64 0])/\aB L p (bS g c t) (v+1)/\Kept [p] w L:=by
 have P:=hid (vN w p g v c h O);have U:=G.bR h.1;obtain⟨v0,v1⟩:=R;have F:=h.lt;have T:=hid J;have z:=h.bit c (by omega);rw[J]at z;clear J;cases t
 all_goals
  go_enter Tryz.func16,Tryz.ntmps16;go_wp2_with fail;refine P.out.mono ?_;rintro e M ⟨rfl,u⟩;have I:=h.below u F;have Q:Kept [p] w M:=.of_below u;have Z:=(u.cell (p:=⟨p,2+c,none⟩) F).trans z;have S:=I.Uf
  have B:∀k,M.frozen? ⟨p,k,none⟩=false:=by intro k;have:=I.2;simp[World.frozen?,this]
  clear z u;go_wp2;go_ret2;exact⟨rfl,Pw I (by omega),(Q.setCell (.inl (by simp))).setCell (.inl (by simp))⟩
theorem Ud(w:World)(p:Nat)(g:G)(v x y:Int)(d:Nat)(h:aB w p g v)(B:d<8)(S:wW x)(hy:wW y):Calls Tryz.prog 67 #[.pointer (some ⟨p,0,none⟩),.int .i64 x,.int .i64 y,.int .i64 (d:Nat)] w λe u=>e=.returned (.bool (g.may x y d))/\Below w.heap.size w u:=by
 unfold wW at S hy;obtain⟨b1,b2,b3,b4⟩:=iY d;obtain⟨t1,L⟩:∃t,g.op x y=t:=⟨_,rfl⟩;obtain⟨t2,M⟩:∃t,g.op (x+bu d) (y+aZ d)=t:=⟨_,rfl⟩;obtain⟨t3,O⟩:∃t,g.op (x+bu d) y=t:=⟨_,rfl⟩;obtain⟨t4,P⟩:∃t,g.op x (y+aZ d)=t:=⟨_,rfl⟩;rw[F9 L M O P];have U:=hid (λu J=>qM u p g v _ _ _ J L);have Z:=hid (λu J=>qM u p g v _ _ _ J M);have c3:=hid (λu J=>qM u p g v _ _ _ J O);have k:=hid (λu J=>qM u p g v _ _ _ J P);clear L M O P;have T:=hid (λu=>yC d B u);generalize bu d=dx at*;generalize aZ d=dy at*;go_enter Tryz.func67,Tryz.ntmps67;go_wp2_with fail;refine(T.out _).mono ?_;rintro e w1 ⟨rfl,Q⟩;have L:=h.below Q h.lt;go_wp2_with fail;refine(U.out _ L).mono ?_;rintro e w2 ⟨rfl,z⟩;have M:=L.below z L.lt;have z:=aa Q z
 cases t1
 .go_wp2
  go_ret;exact⟨rfl,by(repeat' (first|exact Below.refl _ _|assumption|apply aj|apply ah|apply af|(refine aa ?_ (by assumption))))⟩
 .go_wp2_with fail
  refine(Z.out _ M).mono ?_;rintro e w3 ⟨rfl,F⟩;have O:=M.below F M.lt;have F:=aa z F;cases t2
  .go_wp2
   go_ret;exact⟨rfl,by(repeat' (first|exact Below.refl _ _|assumption|apply aj|apply ah|apply af|(refine aa ?_ (by assumption))))⟩
  .go_wp2_with fail
   refine(c3.out _ O).mono ?_;rintro e w4 ⟨rfl,I⟩;have P:=O.below I O.lt;have I:=aa F I;cases t3
   .go_wp2
    go_ret;exact⟨rfl,by(repeat' (first|exact Below.refl _ _|assumption|apply aj|apply ah|apply af|(refine aa ?_ (by assumption))))⟩
   .go_wp2_with fail
    refine(k.out _ P).mono ?_;rintro e w5 ⟨rfl,R⟩;have R:=aa I R;cases t4
    all_goals
     go_wp2;go_ret;exact⟨rfl,by(repeat' (first|exact Below.refl _ _|assumption|apply aj|apply ah|apply af|(refine aa ?_ (by assumption))))⟩
def Ints(w:World)(a:Option Addr)(n:Nat)(f:Nat->Int):Prop:=0<n->∃ad,a=some ad/\ad.block<w.heap.size/\∀k,k<n->w.cell? (ad.add k)=some (.int .i64 (f k))
theorem add_block(a:Addr)(n:Nat):(a.add n).block=a.block:=by unfold Addr.add;split<;>rfl
theorem Ints.below{a:Option Addr}{n:Nat}{f:Nat->Int}(h:Ints w a n f)(F:Below w.heap.size w w'):Ints w' a n f:=by
 intro M;obtain⟨u,I,z,J⟩:=h M;exact⟨u,I,Nat.lt_of_lt_of_le z F.size,λk L=>(F.cell (p:=u.add k) (by rw[add_block];exact z)).trans (J k L)⟩
def Laid(w:World)(e:Ending)(w':World):Prop:=
 (e=.returned (.tuple #[.pointer none,.pointer none,.bool false])/\Below w.heap.size w w')\/
 ∃p q g v,e=.returned (.tuple #[.pointer (some ⟨p,0,none⟩),.pointer (some ⟨q,0,none⟩),.bool true])/\w.heap.size<=p/\p<q/\az w' p g v/\aB w' q g v/\0<=v/\v<=300/\Below w.heap.size w w'
theorem Laid.none(h:Below w.heap.size w w'):Laid w (.returned (.tuple #[.pointer none,.pointer none,.bool false])) w':=.inl ⟨rfl,h⟩
theorem o6(a b:Int)(w:World)(h:1<=a/\a<=16/\1<=b/\b<=16):Calls Tryz.prog 64 #[.int .i64 a,.int .i64 b] w λe u=>∃p,e=.returned (.tuple #[.pointer (some ⟨p,0,none⟩),.nilIface])/\w.heap.size<=p/\az u p ⟨a.toNat,b.toNat,λ_=>false⟩ 0/\Below w.heap.size w u:=
 (uZ a b w h).mono λ_ _⟨z,F,I,J⟩=>⟨_,z,Nat.le_refl _,F,I⟩
theorem Gv(a b:Int)(w:World)(h:1<=a/\a<=16/\1<=b/\b<=16):Calls Tryz.prog 15 #[.int .i64 a,.int .i64 b] w λe u=>∃p,e=.returned (.tuple #[.pointer (some ⟨p,0,none⟩),.int .i64 0])/\w.heap.size<=p/\aB u p ⟨a.toNat,b.toNat,λ_=>false⟩ 0/\Below w.heap.size w u:=
 (Pq a b w h).mono λ_ _⟨z,F,I,J⟩=>⟨_,z,Nat.le_refl _,F,I⟩
def EU(W:World)(p q:Nat)(k:Nat)(wr:World):Prop:=∃g v,az wr p g v/\aB wr q g v/\0<=v/\v<=k/\Below W.heap.size W wr
theorem Lp(a b:Int)(A:Option Addr)(n m:Nat)(f:Nat->Int)(w:World)(h:Ints w A n f)(hn:n<=9223372036854775807):Calls Tryz.prog 42 #[.agg #[.int .i64 a,.int .i64 b,.slice A n m]] w (Laid w):=by
 have h:=hid h;by_cases h3:300<n
 .go_enter Tryz.func42,Tryz.ntmps42
  go_wp2;go_ret3;exact Laid.none (by(repeat' (first|exact Below.refl _ _|assumption|apply aj|apply ah|apply af|(refine aa ?_ (by assumption)))))
 by_cases hs:1<=a/\a<=16/\1<=b/\b<=16
 .rcases Nat.eq_zero_or_pos n with a0|a1
  .subst a0
   go_enter Tryz.func42,Tryz.ntmps42;go_upto_region 1 with(fail);refine au ?_;intro W L;have B:Below w.heap.size w W:=by rw[L];(repeat' (first|exact Below.refl _ _|assumption|apply aj|apply ah|apply af|(refine aa ?_ (by assumption))))
   have k0:∀I,Below W.heap.size W I->I.cell? ⟨w.heap.size,0,none⟩=some (.int .i64 a:Value):=λI J=>(J.cell (p:=⟨w.heap.size,0,none⟩) (by rw[L];simp<;>omega)).trans (by rw[L];go_simp);have k1:∀I,Below W.heap.size W I->I.cell? ⟨w.heap.size,1,none⟩=some (.int .i64 b:Value):=λI J=>(J.cell (p:=⟨w.heap.size,1,none⟩) (by rw[L];simp<;>omega)).trans (by rw[L];go_simp);have k2:∀I,Below W.heap.size W I->I.cell? ⟨w.heap.size,2,none⟩=some (.slice A 0 m:Value):=λI J=>(J.cell (p:=⟨w.heap.size,2,none⟩) (by rw[L];simp<;>omega)).trans (by rw[L];go_simp);clear h;have O:W.heap.size=w.heap.size+1:=by rw[L];simp
   have a5:=hid O;clear O;clear L;have z:=Below.refl W.heap.size W;go_wp2_with fail;refine(o6 a b _ hs).mono ?_;rintro e w1 ⟨p,rfl,hp,u,Q⟩;have z:=aa z Q;go_wp2_with fail;refine(Gv a b _ hs).mono ?_;rintro e w2 ⟨q,rfl,hq,F,P⟩;have a2:p<q:=Nat.lt_of_lt_of_le u.lt hq;have a4:w.heap.size<=p:=Nat.le_trans B.size hp;have u:=u.below P u.lt;have z:=aa z P
   go_wp2_with fail;have hstart:EU W p q 0 w2:=⟨_,0,u,F,by omega,by omega,z⟩;have aq:=z.size;clear u F z Q P;go_loopw [9] (λi wr=>∃k:Nat,k<=0/\i=.int .i64 k/\EU W p q k wr) (λi _=>0-(intOf i).toNat)
   case atStart=>exact⟨0,Nat.zero_le _,rfl,hstart⟩
   case round=>
    obtain⟨k,hk,rfl,g,v,u,F,ac,hv,z⟩:=hrel;clear hstart;go_wp2_with fail;go_ret3
    exact .inr ⟨p,q,g,v,rfl,by omega,by omega,u,F,ac,by omega,aa B z⟩
  .obtain⟨ad,rfl,al,S⟩:=h.out a1
   have S:=hid S;go_enter Tryz.func42,Tryz.ntmps42;go_upto_region 1 with(fail);refine au ?_;intro W L;have B:Below w.heap.size w W:=by rw[L];(repeat' (first|exact Below.refl _ _|assumption|apply aj|apply ah|apply af|(refine aa ?_ (by assumption))))
   have k0:∀I,Below W.heap.size W I->I.cell? ⟨w.heap.size,0,none⟩=some (.int .i64 a:Value):=λI J=>(J.cell (p:=⟨w.heap.size,0,none⟩) (by rw[L];simp<;>omega)).trans (by rw[L];go_simp);have k1:∀I,Below W.heap.size W I->I.cell? ⟨w.heap.size,1,none⟩=some (.int .i64 b:Value):=λI J=>(J.cell (p:=⟨w.heap.size,1,none⟩) (by rw[L];simp<;>omega)).trans (by rw[L];go_simp);have k2:∀I,Below W.heap.size W I->I.cell? ⟨w.heap.size,2,none⟩=some (.slice (some ad) n m:Value):=λI J=>(J.cell (p:=⟨w.heap.size,2,none⟩) (by rw[L];simp<;>omega)).trans (by rw[L];go_simp);have ai:=hid (λk(hk:k<n)I(hb:Below W.heap.size W I)=>(((B.trans (hb.mono B.size)).cell (p:=ad.add k) (by rw[add_block];exact al)).trans (S.out k hk)));have O:W.heap.size=w.heap.size+1:=by rw[L];simp
   have a5:=hid O;clear O;clear L;have z:=Below.refl W.heap.size W;go_wp2_with fail;refine(o6 a b _ hs).mono ?_;rintro e w1 ⟨p,rfl,hp,u,Q⟩;have z:=aa z Q;go_wp2_with fail;refine(Gv a b _ hs).mono ?_;rintro e w2 ⟨q,rfl,hq,F,P⟩;have a2:p<q:=Nat.lt_of_lt_of_le u.lt hq;have a4:w.heap.size<=p:=Nat.le_trans B.size hp;have u:=u.below P u.lt;have z:=aa z P
   go_wp2_with fail;have hstart:EU W p q 0 w2:=⟨_,0,u,F,by omega,by omega,z⟩;have aq:=z.size;clear u F z Q P;go_loopw [9] (λi wr=>∃k:Nat,k<=n/\i=.int .i64 k/\EU W p q k wr) (λi _=>n-(intOf i).toNat)
   case atStart=>exact⟨0,Nat.zero_le _,rfl,hstart⟩
   case round=>
    obtain⟨k,hk,rfl,g,v,u,F,ac,hv,z⟩:=hrel;clear hstart;by_cases aS:k<n
    .have hE:=ai.out k aS wr z
     by_cases aE:0<=f k/\f k<g.n
     .obtain⟨Z,am⟩:=aE
      obtain⟨c,hc⟩:=Int.eq_ofNat_of_zero_le Z;rw[hc]at hE;have ab:c<g.n:=by omega
      have a6:=G.bR u.1;clear hc Z am;go_wp2_with fail;refine(vN _ q g v c F ab).mono ?_;rintro e w3 ⟨rfl,M⟩;have u:=u.below M u.lt;have F:=F.below M F.lt;have z:=aa z M
      have a3:=F.bit c (by omega);obtain⟨t,ht⟩:∃t,g.b c=!t:=⟨!g.b c,by simp⟩;rw[ht]at a3;have Ht:=hid ht;clear ht M;have a7:p<w3.heap.size:=u.lt;have a8:q<w3.heap.size:=F.lt;cases t
      all_goals
       go_wp2_with fail;refine(iw _ p g v c _ u ab Ht.out (by omega)).mono ?_;rintro e w4 ⟨rfl,ar,an⟩;have ax:=F.kept an (by simp;omega);have ag:=Kept.below z an z.size (by simp;omega);go_wp2_with fail;refine(Cm _ q g v c _ ax ab Ht.out (by omega)).mono ?_;rintro e w5 ⟨rfl,ay,ao⟩;have aw:=ar.kept ao (by simp;omega);have ap:=Kept.below ag ao ag.size (by simp;omega);go_wp2;go_roundw
       case rel=>exact⟨k+1,by omega,by go_num,_,_,aw,ay,by omega,by omega,ap⟩
       case measure=>simp[intOf];omega
     .have R:f k<0\/g.n<=f k:=by omega
      go_wp2_with fail;refine(uq _ q g v _ F R).mono ?_;rintro e w3 ⟨rfl,M⟩;have u:=u.below M u.lt;have F:=F.below M F.lt;have z:=aa z M;clear M;go_wp2_with fail;refine(Bw _ p g v _ _ u R).mono ?_;rintro e w4 ⟨rfl,T⟩;have u:=u.below T u.lt;have F:=F.below T F.lt;have z:=aa z T;clear T;go_wp2_with fail;refine(MF _ q g v _ _ F R).mono ?_
      rintro e w5 ⟨rfl,U⟩;have u:=u.below U u.lt;have F:=F.below U F.lt;have z:=aa z U;clear U;go_wp2;go_roundw
      case rel=>exact⟨k+1,by omega,by go_num,_,_,u,F,by omega,by omega,z⟩
      case measure=>simp[intOf];omega
    .go_wp2_with fail
     go_ret3;exact .inr ⟨p,q,g,v,rfl,by omega,by omega,u,F,ac,by omega,aa B z⟩
 .go_enter Tryz.func42,Tryz.ntmps42
  go_wp2_with fail;refine(sV a b _ hs).mono ?_;rintro e w1 ⟨rfl,rfl⟩;go_wp2_with fail;refine(MC a b _ hs).mono ?_;rintro e w1 ⟨rfl,rfl⟩;go_wp2;go_ret3
  exact Laid.none (by(repeat' (first|exact Below.refl _ _|assumption|apply aj|apply ah|apply af|(refine aa ?_ (by assumption)))))
def aI(w:World)(B:Nat)(v:Value)(zs:List Int):Prop:=w.ownsRow B 3 1 v zs.length (zs.map (Value.int .i64))
theorem aI.nil(w:World)(B:Nat):aI w B (.slice none 0 0) []:=⟨rfl,.inl ⟨rfl,rfl⟩⟩
theorem aI.below{B B':Nat}{v:Value}(h:aI w B v zs)(u:Below w.heap.size w w'):aI w' B v zs:=
 World.ownsRow.kept (row:=none) h ⟨u.os,u.tape,u.output,u.size,λk z _=>u.block k z⟩ (by cases F:v.ownBlock<;>simp)
theorem aI.ints{v:Value}(h:aI w B v zs):∃A m,v=.slice A zs.length m/\Ints w A zs.length (λk=>zs.getD k 0):=by
 rcases h.2 with⟨rfl,J⟩|⟨g,u,z,rfl,M,F,L,O,P,Q⟩
 .rw[J];exact⟨none,0,rfl,λh=>absurd h (by omega)⟩
 .refine⟨_,u,rfl,λ_=>⟨⟨g,0,none⟩,rfl,(Array.getElem?_eq_some_iff.1 F).1,λk I=>?_⟩⟩
  refine World.ownsRow.cells h (g:=g) rfl k _ ?_;simp[List.getD,I]
theorem mD:(Tryz.prog.info? 3).map (λi=>(i.zero,i.size,i.bytes))=some (some (.int .i64 0),1,8):=by kernel_rfl
theorem bK{L:Array Oper}{F:List Oper}{o:Oper}{a:Act}{Q:Exit->Act->World->Prop}(w:World)(R:o.guard=none)(s x:Operand)(ho:o.op=.call {callee:=.builtin .append,args:=#[s,x],argTypes:=#[22,22]})(B:Nat)(v:Value)(O:List Int)(z:Int)(hs:a.eval s=v)(J:aI w B v O)(ad:Addr)(hx:a.eval x=.slice (some ad) 1 1)(hc:w.cell? ad=some (.int .i64 z))(hl:O.length<1099511627776)(S:B<=w.heap.size)(h:∀P M,aI M B P (O++[z])->w.grownBy M v.ownBlock->wpList Tryz.prog L Q F (a.put o.dst P) M):wpList Tryz.prog L Q (o::F) a w:=by
 obtain⟨i0,hi,T,U,Z⟩:=info_parts mD;refine wpList_append_own w R s x 22 ho B 3 i0 (.int .i64 0) 1 8 Tryz.underlying22 hi T U Z rfl (by decide) v O.length (O.map (Value.int .i64)) hs J ad 1 1 [.int .i64 z] hx rfl ?_ ?_ ?_ ?_ S ?_
 .intro j u I
  cases j with
  |zero=>simp at I;subst I;simpa[Addr.add]using hc
  |succ j=>simp at I
 .intro u I;simp at I;subst I;rfl
 .unfold maxLen;omega
 .omega
 .intro P M g k _
  refine h P M ?_ k;unfold aI;simpa using g
theorem dm(w:World)(v:Value)(T:TypeId):(w.alloc (.cells #[v] T)).cell? ⟨w.heap.size,0,none⟩=some v:=by go_simp
theorem aI.alloc{v:Value}(h:aI w B v zs)(o:Obj):aI (w.alloc o) B v zs:=World.ownsRow.alloc h o
theorem below_grown{W w w':World}{v:Value}(u:Below B W w)(I:B<=w.heap.size)(h:aI w B v zs)(z:w.grownBy w' v.ownBlock):Below B W w':=
 u.grown z I (λk F=>(World.ownsRow.lt h k F).1)
def upTo(p:Nat->Bool)(k:Nat):List Int:=((List.range k).filter p).map (λd:Nat=>(d:Int))
theorem wL{p:Nat->Bool}(h:p k=true):upTo p (k+1)=upTo p k++[(k:Int)]:=by simp[upTo,List.range_succ,List.filter_append,h]
theorem Aa{p:Nat->Bool}(h:p k=false):upTo p (k+1)=upTo p k:=by simp[upTo,List.range_succ,List.filter_append,h]
theorem jq(p:Nat->Bool)(k:Nat):(upTo p k).length<=k:=by
 unfold upTo;rw[List.length_map];exact Nat.le_trans (List.length_filter_le _ _) (by simp)
def fF(g:G)(c:Nat):List Int:=upTo (g.dN c) 8
theorem iU(g:G)(c:Nat):fF g c=(g.moves c).map (λd:Nat=>(d:Int)):=rfl
def QG(g:G)(c:Nat):Prop:=wW (g.X c:Nat)/\wW (g.Y c:Nat)
theorem Rj(h:g.ok){c:Nat}(u:c<g.n):QG g c:=by
 have z:=G.jw h c;have F:=G.iM u;obtain⟨_,I,_,J⟩:=h;unfold QG wW;omega
def kd(g:G)(x y u v:Int):Bool:=!g.op (x+u) (y+v)&&g.op (x+u) y&&g.op x (y+v)
theorem Rl{x y u v:Int}{z F I:Bool}(J:g.op (x+u) (y+v)=z)(L:g.op (x+u) y=F)(M:g.op x (y+v)=I):kd g x y u v=(!z&&F&&I):=by unfold kd;rw[J,L,M]
def bT(g:G)(c:Nat):Bool:=g.op (g.X c:Nat) (g.Y c:Nat)&&(kd g (g.X c:Nat) (g.Y c:Nat) 1 (-1)||kd g (g.X c:Nat) (g.Y c:Nat) 1 1||kd g (g.X c:Nat) (g.Y c:Nat) (-1) 1||kd g (g.X c:Nat) (g.Y c:Nat) (-1) (-1))
def Mc(g:G)(x y:Int)(k:Nat):Prop:=∀j,j<k->kd g x y (bu (2*j+1)) (aZ (2*j+1))=false
theorem I8(g:G)(x y:Int):Mc g x y 0:=λj u=>by omega
theorem I7(h:Mc g x y k)(u:kd g x y (bu (2*k+1)) (aZ (2*k+1))=false):Mc g x y (k+1):=by
 intro j z;by_cases e:j=k
 .subst e;exact u
 .exact h j (by omega)
theorem Ib{c:Nat}(h:Mc g (g.X c:Nat) (g.Y c:Nat) 4):bT g c=false:=by
 have u:=h 0 (by omega);have z:=h 1 (by omega);have F:=h 2 (by omega);have I:=h 3 (by omega);simp[bu,aZ]at u z F I;unfold bT;simp[u,z,F,I]
theorem Du{c k:Nat}(z:k<4)(u:g.op (g.X c:Nat) (g.Y c:Nat)=true)(h:kd g (g.X c:Nat) (g.Y c:Nat) (bu (2*k+1)) (aZ (2*k+1))=true):bT g c=true:=by
 unfold bT;rcases(show k=0\/k=1\/k=2\/k=3 by omega)with rfl|rfl|rfl|rfl<;>simp[bu,aZ]at h<;>simp[u,h]
theorem MI{a b:Bool}{v:Value}(h:a=b):Ending.returned (.tuple #[.bool a,v])=.returned (.tuple #[.bool b,v]):=by rw[h]
theorem l7(w:World)(p:Nat)(g:G)(v:Int)(c:Nat)(h:az w p g v)(hc:c<g.n):Calls Tryz.prog 159 #[.pointer (some ⟨p,0,none⟩),.int .i64 (c:Nat)] w λe u=>e=.returned (.tuple #[.bool (bT g c),.nilIface])/\Below w.heap.size w u:=by
 have ac:=Rj h.1 hc;have hp:=hid h.lt;obtain⟨hx,hy⟩:=ac;unfold wW at hx hy;have ab:∃t,bT g c=t:=⟨_,rfl⟩;obtain⟨cb,L⟩:=ab;rw[L];have J:=hid L;clear L;go_enter Tryz.func159,Tryz.ntmps159;go_wp2_with fail;refine(aU w p g v c h hc).mono ?_;rintro e w1 ⟨rfl,F⟩;have ai:=F.size;go_wp2_with fail;cases M:g.op (g.X c:Nat) (g.Y c:Nat)with
 |false=>
  refine(dD _ p g v _ _ _ (h.below F hp.out) M).mono ?_;rintro e u ⟨rfl,rfl⟩;have O:bT g c=false:=by unfold bT;rw[M];rfl
  obtain rfl:false=cb:=O.symm.trans J.out;clear O M;go_wp2;go_ret2;exact⟨rfl,F⟩
 |true=>
  refine(dD _ p g v _ _ _ (h.below F hp.out) M).mono ?_;rintro e u ⟨rfl,rfl⟩;have Ho:=hid M;clear M;go_wp2_with fail;go_loopw [9] (λi wr=>∃k:Nat,k<=4/\i=.int .i64 ((2*k+1:Nat):Int)/\Mc g (g.X c:Nat) (g.Y c:Nat) k/\Below w.heap.size w wr) (λi _=>9-(intOf i).toNat)
  case atStart=>exact⟨0,by omega,rfl,I8 _ _ _,F⟩
  case round=>
   obtain⟨k,hk,rfl,R,HB⟩:=hrel;have P:=hid R;clear R;by_cases ad:k<4
   .have ag:=hid (λu=>iC (2*k+1) (by omega) u)
    obtain⟨b1,b2,b3,b4⟩:=iY (2*k+1);have U:=hid (λI=>I7 P.out I);have Hy:=hid (λI=>Du (g:=g) (c:=c) ad Ho.out I);generalize bu (2*k+1)=dx at*;generalize aZ (2*k+1)=dy at*;obtain⟨t1,Z⟩:∃t,g.op ((g.X c:Nat)+dx) ((g.Y c:Nat)+dy)=t:=⟨_,rfl⟩;obtain⟨t2,B⟩:∃t,g.op ((g.X c:Nat)+dx) (g.Y c:Nat)=t:=⟨_,rfl⟩;obtain⟨t3,S⟩:∃t,g.op (g.X c:Nat) ((g.Y c:Nat)+dy)=t:=⟨_,rfl⟩;have T:=hid (Rl Z B S);have c1:=hid (λu I=>dD u p g v _ _ _ I Z);have c2:=hid (λu I=>dD u p g v _ _ _ I B);have c3:=hid (λu I=>dD u p g v _ _ _ I S);clear Z B S;go_wp2_with fail;refine(ag.out _).mono ?_;rintro e w2 ⟨rfl,Q⟩;have z:=aa HB Q;have hG:=h.below z hp.out;clear Q;go_wp2_with fail;refine(c1.out _ hG).mono ?_;rintro e u ⟨rfl,rfl⟩
    cases t1
    .go_wp2_with fail
     refine(c2.out _ hG).mono ?_;rintro e u ⟨rfl,rfl⟩;cases t2
     .go_wp2
      go_roundw
      case rel=>exact⟨k+1,by omega,by go_num,U.out T.out,z⟩
      case measure=>simp[intOf];omega
     .go_wp2_with fail
      refine(c3.out _ hG).mono ?_;rintro e u ⟨rfl,rfl⟩;cases t3
      .go_wp2
       go_roundw
       case rel=>exact⟨k+1,by omega,by go_num,U.out T.out,z⟩
       case measure=>simp[intOf];omega
      .go_wp2
       go_ret2;exact⟨MI (J.out.symm.trans (Hy.out T.out)).symm,z⟩
    .go_wp2
     go_roundw
     case rel=>exact⟨k+1,by omega,by go_num,U.out T.out,z⟩
     case measure=>simp[intOf];omega
   .obtain rfl:k=4:=by omega
    go_wp2;go_ret2;exact⟨MI ((Ib P.out).symm.trans J.out),HB⟩
def aA(g:G):List Int:=upTo (bT g) g.n
theorem KM(h:g.ok)(d:Nat):-16<=aZ d*g.w/\aZ d*g.w<=16:=by
 obtain⟨F,I,_,_⟩:=h;obtain⟨_,_,u,z⟩:=iY d;rcases(show aZ d= -1\/aZ d=0\/aZ d=1 by omega)with e|e|e<;>rw[e]<;>omega
theorem Rf(w:World)(p:Nat)(g:G)(v:Int)(c d:Nat)(h:az w p g v)(Z:c<g.n)(J:d<8):Calls Tryz.prog 93 #[.pointer (some ⟨p,0,none⟩),.int .i64 (c:Nat),.int .i64 (d:Nat)] w λe M=>e=.returned (.int .i64 (g.Ai c d))/\Below w.heap.size w M:=by
 obtain⟨B,S⟩:=KM h.1 d;obtain⟨O,P,Q,R⟩:=iY d;obtain⟨o1,o2,o3,o4⟩:=h.1;have k:=G.bR h.1;have e:g.Ai c d=(c:Int)+aZ d*g.w+bu d:=by unfold G.Ai;omega
 rw[e];clear e;have F:=hid (iC d J);have I:=h.size.1;have z:=h.lt;clear h;generalize bu d=T at*;generalize aZ d=U at*;go_enter Tryz.func93,Tryz.ntmps93;go_wp2_with fail;(with_reducible refine(F.out _).mono ?_);rintro e w1 ⟨rfl,u⟩;have L:=(u.cell (p:=⟨p,0,none⟩) z).trans I;clear I;go_wp2;go_ret;exact⟨rfl,u⟩
theorem UJ(w:World)(p:Nat)(g:G)(v:Int)(c d:Nat)(h:aB w p g v)(Z:c<g.n)(J:d<8):Calls Tryz.prog 68 #[.pointer (some ⟨p,0,none⟩),.int .i64 (c:Nat),.int .i64 (d:Nat)] w λe M=>e=.returned (.int .i64 (g.Ai c d))/\Below w.heap.size w M:=by
 obtain⟨B,S⟩:=KM h.1 d;obtain⟨O,P,Q,R⟩:=iY d;obtain⟨o1,o2,o3,o4⟩:=h.1;have k:=G.bR h.1;have e:g.Ai c d=(c:Int)+bu d+aZ d*g.w:=rfl;rw[e];clear e;have F:=hid (yC d J);have I:=h.size.1;have z:=h.lt;clear h;generalize bu d=T at*;generalize aZ d=U at*;go_enter Tryz.func68,Tryz.ntmps68;go_wp2_with fail;(with_reducible refine(F.out _).mono ?_);rintro e w1 ⟨rfl,u⟩;have L:=(u.cell (p:=⟨p,0,none⟩) z).trans I;clear I;go_wp2;go_ret;exact⟨rfl,u⟩
theorem Gs(w:World)(p:Nat)(g:G)(v:Int)(c d:Nat)(x y:Int)(h:aB w p g v)(I:d<8)(u:QG g c)(z:x=(g.X c:Nat))(F:y=(g.Y c:Nat)):Calls Tryz.prog 67 #[.pointer (some ⟨p,0,none⟩),.int .i64 x,.int .i64 y,.int .i64 (d:Nat)] w λe J=>e=.returned (.bool (g.dN c d))/\Below w.heap.size w J:=by
 subst z;subst F;exact Ud w p g v _ _ d h I u.1 u.2
end Go.Proofs.YtokhnobcincfjaaGreatDoor
namespace Go.Proofs.YtokhnobcincfjaaGreatDoor
open Go.Lib (hid)
open Go.RowKit Go.Sort
theorem aH(w:World)(p k:Nat)(cs:Array Value)(T:TypeId)(x:Value)(h:w.heap[p]? =some (.cells cs T (0,0))):(w.setCell ⟨p,k,none⟩ x).heap[p]? =some (.cells (cs.setIfInBounds k x) T (0,0)):=by
 simp[World.setCell,Array.getElem?_modify,h]
theorem nO(f g:Nat->Value)(n k:Nat)(x:Value)(B:g k=x)(F:∀i,i≠k->g i=f i):(rowOf f n).setIfInBounds k x=rowOf g n:=by
 apply Array.ext_getElem?;intro i;rw[Array.getElem?_setIfInBounds];by_cases u:i<n
 .rw[bM _ _ _ u,bM _ _ _ u]
  by_cases z:k=i
  .subst z;rw[if_pos rfl,if_pos (by rw[dI];exact u),B]
  .rw[if_neg z,F i (λe=>z e.symm)]
 .rw[Array.getElem?_eq_none (by rw[dI];omega),Array.getElem?_eq_none (by rw[dI];omega)]
  split
  .rw[if_neg (by rw[dI];omega)]
  .rfl
open FR
