/- Lemmas of this claim: Cost, Cost2, Grid, Grid3, Grid2, RGrid, May, RGrid2, Laid, App, Corner, Moves, RowSet, RCorner. -/
import Derived.Test.YtnifggkjieemeaaGreatDoorBase
import Derived.Test.YtnifggkjieemeaaGreatDoorKNNs2
import Derived.Deep.Cut
import Derived.WalkSpells
set_option linter.unusedVariables false
set_option linter.unusedSimpArgs false
set_option maxHeartbeats 4000000
set_option maxRecDepth 100000
open Go.Proofs.Tryz
namespace Go.Proofs.YtnifggkjieemeaaGreatDoor
section
open Go.Lib (hid)
open Go.RowKit Go.Sort FR
variable {t:Bool}{g:G}{a b c d v x y:Int}{zs:List Int}{S:List Nat}{B k p:Nat}{w w':World}
def zV(x y:Int):Int:=if x<y then -1 else if y<x then 1 else 0
theorem LQ(x:Int)(w:World):Calls prog 239 #[rI x] w λe m=>e=.returned (.bool false)/\w=m:=by
 go_enter func239,ntmps239;go_wp2;go_ret;exact⟨rfl,rfl⟩
theorem Bv(h:a=b):Ending.returned (rI a)=.returned (rI b):=by rw[h]
theorem KA{a b:Bool}(h:a=b):Ending.returned (.bool a)=.returned (.bool b):=by rw[h]
theorem GG(x y:Int)(w:World):Calls prog 226 #[rI x,rI y] w λe m=>e=.returned (rI (zV x y))/\w=m:=by
 go_enter func226,ntmps226;go_wp2_with (go_at_call 239;refine(LQ _ _).mono ?_;rintro e m ⟨rfl,rfl⟩)
 all_goals
  go_ret;exact⟨Bv (by unfold zV;omega),rfl⟩
theorem Ox(h:(0<=a-c/\0<=b-d)\/(a-c<=0/\b-d<=0)):zV (a-c+(b-d)) 0=C.cmp ⟨a,b⟩ ⟨c,d⟩:=by
 unfold zV C.cmp C.lt Pos;simp only;omega
theorem Dg(x y:Int):(x-y)*(x-y)=(y-x)*(y-x):=by grind
theorem Js(h:0<a-c)(k:b-d<0):zV ((a-c)*(a-c)) (2*(b-d)*(b-d))=C.cmp ⟨a,b⟩ ⟨c,d⟩:=by
 unfold zV C.cmp C.lt Pos;simp only;have m:=Dg c a;have u:=Dg d b;have z:2*(b-d)*(b-d)=2*((b-d)*(b-d)):=by grind
 have:=Xy (a-c).natAbs (a-c) (b-d) (Zi _);omega
theorem Jt(h:a-c<0)(k:0<b-d):zV (2*(b-d)*(b-d)) ((a-c)*(a-c))=C.cmp ⟨a,b⟩ ⟨c,d⟩:=by
 unfold zV C.cmp C.lt Pos;simp only;have m:=Dg c a;have u:=Dg d b;have z:2*(b-d)*(b-d)=2*((b-d)*(b-d)):=by grind
 have:=Xy (a-c).natAbs (a-c) (b-d) (Zi _);omega
theorem UI(h:-268435456<=x)(k:x<=268435456):0<=x*x/\x*x<=72057594037927936:=by
 refine⟨?_,?_⟩
 .rcases Int.le_total 0 x with m|m
  .exact Int.mul_nonneg m m
  .have:=Int.mul_nonneg (a:=-x) (b:=-x) om om;rwa[Int.neg_mul_neg]at this
 .rcases Int.le_total 0 x with m|m
  .have:=tO m k;omega
  .have:=tO (a:=-x) (b:=268435456) om om;rw[Int.neg_mul_neg]at this;omega
theorem Q3(h:-268435456<=x)(k:x<=268435456):wrap64 (x*x)=x*x:=IntWalk.wrap64_in _ (by have:=UI h k;omega)
theorem KG(h:-268435456<=x)(k:x<=268435456):wrap64 (2*x*x)=2*x*x:=IntWalk.wrap64_in _ (by have:=UI h k;rw[Int.mul_assoc];omega)
def aT(a:Int):Prop:=-134217728<=a/\a<=134217728
instance (a:Int):Decidable (aT a):=by unfold aT;infer_instance
theorem vZ(a b c d:Int)(w:World)(u:aT a)(z:aT b)(F:aT c)(I:aT d):Calls prog 190 #[.agg #[rI a,rI b],.agg #[rI c,rI d]] w (Rt w (rI (C.cmp ⟨a,b⟩ ⟨c,d⟩))):=by
 unfold aT at u z F I;go_enter func190,ntmps190;go_wp2_with fail;go_quiet (fail);go_wp2_with (go_at_call 226;refine(GG _ _ _).mono ?_;rintro e m ⟨rfl,rfl⟩)
 all_goals
  go_ret;refine⟨Bv ?_,?_⟩
  .first
   |(rw[Q3 om om,KG om om];first|exact Js om om|exact Jt om om)
   |exact Ox om
  ·exact be
theorem rZ(a b c d:Int)(w:World)(u:aT a)(z:aT b)(F:aT c)(I:aT d):Calls prog 146 #[.agg #[rI a,rI b],.agg #[rI c,rI d]] w (Rt w (.bool (decide (C.cmp ⟨a,b⟩ ⟨c,d⟩<0)))):=by
 go_enter func146,ntmps146;go_wp2_with (go_at_call 190;refine(vZ _ _ _ _ _ u z F I).mono ?_;rintro e m ⟨rfl,J⟩);go_ret
 exact⟨rfl,be⟩
theorem pE(a b c d:Int)(w:World)(m:aT a)(u:aT b)(z:aT c)(F:aT d):Calls prog 97 #[.agg #[rI a,rI b],.agg #[rI c,rI d]] w (Rt w (.agg #[rI (a+c),rI (b+d)])):=by
 unfold aT at m u z F;go_enter func97,ntmps97;go_wp2;refine bodyPost_ret (v:=.agg #[rI (a+c),rI (b+d)]) (by simp[results,results97,go_sem]) rfl ?_;exact⟨rfl,be⟩
theorem tK(a b c d:Int)(w:World)(m:aT a)(u:aT b)(z:aT c)(F:aT d):Calls prog 85 #[.agg #[rI a,rI b],.agg #[rI c,rI d]] w (Rt w (.agg #[rI (a+c),rI (b+d)])):=by
 unfold aT at m u z F;go_enter func85,ntmps85;go_wp2;refine bodyPost_ret (v:=.agg #[rI (a+c),rI (b+d)]) (by simp[results,results85,go_sem]) rfl ?_;exact⟨rfl,be⟩
theorem V7(h:a-c=0)(k:(b-d==0)=true):0=C.cmp ⟨a,b⟩ ⟨c,d⟩:=by
 have m:b-d=0:=by simpa using k
 exact(C.yu.2 (C.ext' (by simp only;omega) (by simp only;omega))).symm
theorem Kz(h:c<=a)(k:d<=b)(n:¬(a-c=0/\b-d=0)):1=C.cmp ⟨a,b⟩ ⟨c,d⟩:=by
 have:=C.RQ.2 (C.kJ (a:=⟨c,d⟩) (b:=⟨a,b⟩) h k (λe=>n (by injection e;omega)));have:=C.Ap ⟨a,b⟩ ⟨c,d⟩;omega
theorem Ky(h:a<=c)(k:b<=d)(n:¬(a-c=0/\b-d=0)):-1=C.cmp ⟨a,b⟩ ⟨c,d⟩:=by
 have:=C.dP.2 (C.kJ (a:=⟨a,b⟩) (b:=⟨c,d⟩) h k (λe=>n (by injection e;omega)));have:=C.Ap ⟨a,b⟩ ⟨c,d⟩;omega
theorem Kw(F:aT a)(I:aT b)(J:aT c)(L:aT d)(m:(0<a-c/\b<d)\/(a<c/\0<b-d))(h:(decide (wrap64 (2*(b-d)*(b-d))<wrap64 ((a-c)*(a-c)))==decide (c<a))=t):(if t then 1 else -1:Int)=C.cmp ⟨a,b⟩ ⟨c,d⟩:=by
 unfold aT at F I J L;rw[Q3 om om,KG om om]at h;have q:=Xy (a-c).natAbs (a-c) (b-d) (Zi _);have u:2*(b-d)*(b-d)=2*((b-d)*(b-d)):=by grind
 rw[u]at h;rcases m with⟨z,M⟩|⟨z,M⟩
 .have e:=Js (a:=a) (b:=b) (c:=c) (d:=d) z om
  rw[u]at e;rw[<-e,<-h,decide_eq_true (by omega:c<a)];unfold zV;by_cases x:2*((b-d)*(b-d))<(a-c)*(a-c)
  .simp[x];omega
  .simp[x];omega
 .have e:=Jt (a:=a) (b:=b) (c:=c) (d:=d) om om
  rw[u]at e;rw[<-e,<-h,decide_eq_false (by omega:¬c<a)];unfold zV;by_cases x:2*((b-d)*(b-d))<(a-c)*(a-c)
  .simp[x]
  .simp[x];omega
theorem ry(a b c d:Int)(w:World)(I:aT a)(J:aT b)(L:aT c)(M:aT d):Calls prog 86 #[.agg #[rI a,rI b],.agg #[rI c,rI d]] w (Rt w (rI (C.cmp ⟨a,b⟩ ⟨c,d⟩))):=by
 have m:=I;have u:=J;have z:=L;have F:=M;unfold aT at I J L M;go_enter func86,ntmps86;go_wp2
 all_goals
  go_ret;refine⟨Bv ?_,?_⟩
  .first
   |exact V7 ‹_› ‹_›
   |exact Kw (t:=true) m u z F om ‹_›
   |exact Kw (t:=false) m u z F om ‹_›
   |exact Kz om om (by have h:(b-d==0)=false:=‹_›;simp at h;omega)
   |exact Ky om om (by have h:(b-d==0)=false:=‹_›;simp at h;omega)
   |exact Kz om om om
   |exact Ky om om om
  ·exact be
theorem Va(n:Int)(w:World)(h: -1099511627776<=n/\n<=1099511627776):Calls prog 152 #[rI n] w λe m=>e=.returned (rI (n.natAbs:Int))/\w=m:=by
 go_enter func152,ntmps152;go_wp2
 all_goals
  go_ret;exact⟨Bv om,rfl⟩
theorem XU(n:Int)(w:World)(h: -1099511627776<=n/\n<=1099511627776):Calls prog 240 #[rI n] w λe m=>e=.returned (rI (n.natAbs:Int))/\w=m:=by
 go_enter func240,ntmps240;go_wp2
 all_goals
  go_ret;exact⟨Bv om,rfl⟩
theorem QC(f:Int)(w:World):Calls prog 9 #[.nilIface,rI f] w λe m=>e=.returned (.bool (f==0))/\w=m:=by
 go_enter func9,ntmps9;go_wp2;go_ret;exact⟨rfl,rfl⟩
theorem DT(k:Int)(w:World):Sem.run prog (Instr.typeAssert (.iface 54 (rI k)) 27 54 true) w=.ok (.tuple #[rI k,.bool true]) w:=kr
theorem QB(k f:Int)(w:World)(h:0<f):Calls prog 9 #[.iface 54 (rI k),rI f] w λe u=>e=.returned (.bool (k==f))/\w=u:=by
 have m:=DT k;go_enter func9,ntmps9;go_wp2;go_ret;exact⟨rfl,rfl⟩
theorem Ke(h:x.natAbs<y.natAbs):dD x y=⟨(y.natAbs:Int)-x.natAbs,x.natAbs⟩:=if_pos h
theorem Kc(h:¬x.natAbs<y.natAbs):dD x y=⟨(x.natAbs:Int)-y.natAbs,y.natAbs⟩:=if_neg h
theorem qL(x y u v:Int)(w:World)(L: -1048576<=x/\x<=1048576)(M: -1048576<=y/\y<=1048576)(O: -1048576<=u/\u<=1048576)(P: -1048576<=v/\v<=1048576):Calls prog 92 #[rI x,rI y,rI u,rI v] w (Rt w (.agg #[rI (dD (x-u) (y-v)).s,rI (dD (x-u) (y-v)).d])):=by
 by_cases F:(x-u).natAbs<(y-v).natAbs
 .rw[Ke F]
  have m:((x-u).natAbs:Int)<(y-v).natAbs:=om;go_enter func92,ntmps92;go_wp2_with (go_at_call 152;refine(Va _ _ om).mono ?_;rintro e z ⟨rfl,rfl⟩)
  refine bodyPost_ret (v:=.agg #[rI (((y-v).natAbs:Int)-(x-u).natAbs),rI (x-u).natAbs]) (by simp[results,results92,go_sem]) rfl ?_;exact⟨rfl,be⟩
 .rw[Kc F]
  have m:((y-v).natAbs:Int)<=(x-u).natAbs:=om;by_cases I:((y-v).natAbs:Int)=(x-u).natAbs
  .go_enter func92,ntmps92
   go_wp2_with (go_at_call 152;refine(Va _ _ om).mono ?_;rintro e z ⟨rfl,rfl⟩)
   refine bodyPost_ret (v:=.agg #[rI 0,rI (x-u).natAbs]) (by simp[results,results92,go_sem]) rfl ?_;exact⟨by rw[I,Int.sub_self],be⟩
  .have J:((y-v).natAbs:Int)<(x-u).natAbs:=om
   clear I m;go_enter func92,ntmps92;go_wp2_with (go_at_call 152;refine(Va _ _ om).mono ?_;rintro e z ⟨rfl,rfl⟩)
   refine bodyPost_ret (v:=.agg #[rI (((x-u).natAbs:Int)-(y-v).natAbs),rI (y-v).natAbs]) (by simp[results,results92,go_sem]) rfl ?_;exact⟨rfl,be⟩
theorem MW(x y u v:Int)(w:World)(F: -1048576<=x/\x<=1048576)(I: -1048576<=y/\y<=1048576)(J: -1048576<=u/\u<=1048576)(L: -1048576<=v/\v<=1048576):Calls prog 209 #[rI x,rI y,rI u,rI v] w (Rt w (.agg #[rI (dD (x-u) (y-v)).s,rI (dD (x-u) (y-v)).d])):=by
 go_enter func209,ntmps209;go_wp2_with (go_at_call 240;refine(XU _ _ om).mono ?_;rintro e z ⟨rfl,rfl⟩)
 .have m:(x-u).natAbs<(y-v).natAbs:=au
  refine bodyPost_ret (v:=.agg #[rI (((y-v).natAbs:Int)-(x-u).natAbs),rI (x-u).natAbs]) (by simp[results,results209,go_sem]) rfl ?_;rw[Ke m];exact⟨rfl,be⟩
 .have m:¬(x-u).natAbs<(y-v).natAbs:=au
  refine bodyPost_ret (v:=.agg #[rI (((x-u).natAbs:Int)-(y-v).natAbs),rI (y-v).natAbs]) (by simp[results,results209,go_sem]) rfl ?_;rw[Kc m];exact⟨rfl,be⟩
def bY(g:G)(ws:Nat->Nat)(v:Int):Array Value:=#[rI g.w,rI g.h,.int .u64 (ws 0),.int .u64 (ws 1),.int .u64 (ws 2),.int .u64 (ws 3),rI v]
def aC(w:World)(p:Nat)(g:G)(v:Int):Prop:=g.ok/\∃ws:Nat->Nat,(∀i,ws i<18446744073709551616)/\w.heap[p]? =some (.cells (bY g ws v) 146 (0,0))/\∀c,c<256->g.b c=(ws (c/64)).testBit (c%64)
theorem aC.lt(h:aC w p g v):p<w.heap.size:=by
 obtain⟨_,u,_,m,_⟩:=h;exact(Za.1 m).1
theorem aC.below(h:aC w p g v)(I:Below B w w')(J:p<B):aC w' p g v:=by
 obtain⟨m,L,u,z,F⟩:=h;exact⟨m,L,u,(I.block p J).trans z,F⟩
theorem aC.size(h:aC w p g v):w.cell? ⟨p,0,none⟩=some (rI g.w)/\w.cell? ⟨p,1,none⟩=some (rI g.h):=by
 obtain⟨_,u,_,m,_⟩:=h;simp[World.cell?,m,bY]
theorem aC.word(h:aC w p g v)(c:Nat)(F:c<256):∃x:Nat,x<18446744073709551616/\w.cell? ⟨p,2+c/64,none⟩=some (.int .u64 x)/\g.b c=x.testBit (c%64):=by
 obtain⟨_,I,m,z,u⟩:=h;refine⟨I (c/64),m _,?_,u c F⟩;rcases(show c/64=0\/c/64=1\/c/64=2\/c/64=3 by omega)with e|e|e|e<;>rw[e]<;>simp[World.cell?,z,bY]
theorem Vj(z k:Nat)(I:z<18446744073709551616):(bits BinOp.and IntKind.u64 ((z:Int)/2^k) 1==0)=!z.testBit k:=by
 have u:(z:Int)/2^k=((z/2^k:Nat):Int):=rS;have m:z/2^k<18446744073709551616:=Nat.lt_of_le_of_lt (Nat.div_le_self _ _) I;have F:bits BinOp.and IntKind.u64 ((z/2^k:Nat):Int) 1=((z/2^k&&& 1:Nat):Int):=u64_and_nat _ 1 m rD;rw[u,F,Nat.and_one_is_mod,Nat.testBit_eq_decide_div_mod_eq];rcases Nat.mod_two_eq_zero_or_one (z/2^k)with e|e<;>rw[e]<;>rfl
def yQ(x:Int):Prop:=-1048576<=x/\x<=1048576
theorem kD(w:World)(p:Nat)(g:G)(v x y:Int)(h:aC w p g v)(J:0<=x)(u:x<g.w)(z:0<=y)(F:y<g.h):Calls prog 77 #[vP p,rI x,rI y] w λe I=>e=.returned (.tuple #[rI (y*g.w+x),.nilIface])/\w=I:=by
 obtain⟨L,M⟩:=h.size;obtain⟨Q,R,T,U⟩:=h.1;have m:0<=y*g.w/\y*g.w<=256:=⟨Int.mul_nonneg z om,Int.le_trans (Int.mul_le_mul (show y<=16 by omega) (show(g.w:Int)<=16 by omega) om om) om⟩;obtain⟨O,P⟩:=m;clear h;go_enter func77,ntmps77;go_wp2;go_ret2;exact⟨rfl,rfl⟩
theorem mX(w:World)(p:Nat)(g:G)(v x y:Int)(h:aC w p g v)(u:¬(0<=x/\x<g.w/\0<=y/\y<g.h)):Calls prog 77 #[vP p,rI x,rI y] w λe m=>e=.returned (.tuple #[rI 0,.iface 54 (rI 1)])/\w=m:=by
 obtain⟨z,F⟩:=h.size;clear h;go_enter func77,ntmps77;go_wp2
 all_goals
  go_ret2;exact⟨rfl,rfl⟩
theorem yO(w:World)(p:Nat)(g:G)(v x y:Int)(h:aC w p g v):Calls prog 75 #[vP p,rI x,rI y] w λe J=>e=.returned (.bool (g.op x y))/\w=J:=by
 by_cases O:0<=x/\x<g.w/\0<=y/\y<g.h
 .obtain⟨L,P,M,Q⟩:=O
  have F:=kD w p g v x y h L P M Q;obtain⟨i,rfl⟩:=Zj L;obtain⟨j,rfl⟩:=Zj M;have e:((j:Int)*g.w+i)=((j*g.w+i:Nat):Int):=rS;have u:g.op i j=!g.b (j*g.w+i):=by unfold G.op;simp;omega
  have R:j*g.w+i<256:=by
   obtain⟨Z,U,k,B⟩:=h.1;have:j*g.w<=15*16:=Nat.mul_le_mul om U;omega
  rw[u];rw[e]at F;obtain⟨z,I,T,m⟩:=h.word (j*g.w+i) R;generalize j*g.w+i=c at*;rw[m];clear h m e u;go_enter func75,ntmps75;go_wp2_with fail;refine F.mono ?_;rintro e J ⟨rfl,rfl⟩;go_wp2
  all_goals
   go_ret;exact⟨KA (Vj _ _ I),rfl⟩
 .have F:=mX w p g v x y h O
  have u:g.op x y=false:=by unfold G.op;simp;omega
  rw[u];clear h;go_enter func75,ntmps75;go_wp2_with fail;refine F.mono ?_;rintro e J ⟨rfl,rfl⟩;go_wp2;go_ret;exact⟨rfl,rfl⟩
theorem jK(w:World)(p:Nat)(g:G)(v:Int)(h:aC w p g v):Calls prog 51 #[vP p] w (Rt w (rI (g.n:Nat))):=by
 obtain⟨z,F⟩:=h.size;obtain⟨L,M,O,P⟩:=h.1;have e:((g.n:Nat):Int)=(g.w:Int)*g.h:=by unfold G.n;simp
 have m:0<=(g.w:Int)*g.h/\(g.w:Int)*g.h<=256:=by have:=G.bA h.1;rw[<-e];omega
 obtain⟨I,J⟩:=m;clear h;rw[e];clear e;go_enter func51,ntmps51;go_wp2_with fail;go_quiet (fail);go_wp2;go_ret
 exact⟨rfl,be⟩
theorem aU(w:World)(p:Nat)(g:G)(v:Int)(c:Nat)(h:aC w p g v)(F:c<g.n):Calls prog 74 #[vP p,rI (c:Nat)] w (Rt w (.tuple #[rI (g.X c:Nat),rI (g.Y c:Nat),.nilIface])):=by
 have I:=h.size.1;obtain⟨O,P,Q,R⟩:=h.1;have m:((g.X c:Nat):Int)=(c:Int)%g.w:=by unfold G.X;simp
 have u:((g.Y c:Nat):Int)=(c:Int)/g.w:=by unfold G.Y;simp
 rw[m,u];have T:0<=(c:Int)/g.w:=om;have U:(c:Int)/g.w<=256:=by have:=G.iJ F;omega
 clear m u;have M:=G.bA h.1;go_enter func74,ntmps74;go_wp2_with fail;refine(jK w p g v h).mono ?_;rintro e Z ⟨rfl,z⟩;have J:=(z.cell (p:=⟨p,0,none⟩) h.lt).trans I;clear h;go_wp2_with fail;go_quiet (fail);go_wp2;go_ret3
 exact⟨rfl,be⟩
theorem ql(w:World)(p:Nat)(g:G)(v c:Int)(h:aC w p g v)(m:c<0\/g.n<=c):Calls prog 74 #[vP p,rI c] w (Rt w (.tuple #[rI 0,rI 0,.iface 54 (rI 1)])):=by
 have F:=G.bA h.1;rcases m with m|m
 .go_enter func74,ntmps74
  go_wp2;go_ret3;exact⟨rfl,be⟩
 .go_enter func74,ntmps74
  go_wp2_with fail;refine(jK w p g v h).mono ?_;rintro e I ⟨rfl,z⟩;clear h;go_wp2;go_ret3
  exact⟨rfl,be⟩
theorem dQ(w:World)(p:Nat)(g:G)(v:Int)(c:Nat)(h:aC w p g v)(m:c<g.n):Calls prog 34 #[vP p,rI (c:Nat)] w (Rt w (.tuple #[.bool (!g.b c),.nilIface])):=by
 rw[<-G.sW h.1 m];go_enter func34,ntmps34;go_wp2_with fail;refine(aU w p g v c h m).mono ?_;rintro e F ⟨rfl,z⟩;go_wp2_with fail;refine(yO F p g v _ _ (h.below z h.lt)).mono ?_;rintro e u ⟨rfl,rfl⟩;go_wp2;go_ret2
 exact⟨rfl,be⟩
theorem mY(w:World)(p:Nat)(g:G)(v c:Int)(h:aC w p g v)(m:c<0\/g.n<=c):Calls prog 34 #[vP p,rI c] w (Rt w (.tuple #[.bool false,.iface 54 (rI 1)])):=by
 go_enter func34,ntmps34;go_wp2_with fail;refine(ql w p g v c h m).mono ?_;rintro e F ⟨rfl,z⟩;go_wp2;go_ret2
 exact⟨rfl,be⟩
theorem O0(w:World)(p:Nat)(g:G)(v:Int)(h:aC w p g v):Calls prog 101 #[vP p] w (Rt w (.tuple #[rI g.w,rI g.h])):=by
 obtain⟨u,z⟩:=h.size;clear h;go_enter func101,ntmps101;go_wp2_with fail;go_quiet (fail);go_wp2;go_ret2
 exact⟨rfl,be⟩
theorem aC.XA(h:aC w p g v):w.cell? ⟨p,6,none⟩=some (rI v):=by
 obtain⟨_,u,_,m,_⟩:=h;simp[World.cell?,m,bY]
theorem EB(w:World)(p:Nat)(g:G)(v:Int)(h:aC w p g v):Calls prog 54 #[vP p] w λe m=>e=.returned (rI v)/\w=m:=by
 have u:=h.XA;clear h;go_enter func54,ntmps54;go_wp2;go_ret;exact⟨rfl,rfl⟩
structure Kept (S:List Nat) (w w':World):Prop where
 os:w'.os=w.os
 tape:w'.tape=w.tape
 output:w'.output=w.output
 size:w.heap.size<=w'.heap.size
 block:∀k,k<w.heap.size->k∉S->w'.heap[k]? =w.heap[k]?
theorem Kept.refl(S:List Nat)(w:World):Kept S w w:=⟨rfl,rfl,rfl,Zi _,λ_ _ _=>rfl⟩
theorem Kept.trans{a b c:World}(h:Kept S a b)(k:Kept S b c):Kept S a c:=
 ⟨k.os.trans h.os,k.tape.trans h.tape,k.output.trans h.output,Zg h.size k.size,λi m u=>(k.block i (Zf m h.size) u).trans (h.block i m u)⟩
theorem Kept.more{S m:List Nat}{a b:World}(h:Kept S a b)(F:∀k,k∈S->k∈m):Kept m a b:=⟨h.os,h.tape,h.output,h.size,λk u z=>h.block k u λe=>z (F k e)⟩
theorem Kept.of_below{a b:World}(h:Below a.heap.size a b):Kept S a b:=⟨h.os,h.tape,h.output,h.size,λk m _=>h.block k m⟩
theorem Kept.below{a b c:World}(h:Below B a b)(k:Kept S b c)(m:B<=b.heap.size)(z:∀i,i∈S->B<=i):Below B a c:=
 h.trans ⟨k.os,k.tape,k.output,k.size,λi u=>k.block i (Zf u m) λe=>by have:=z i e;omega⟩
theorem Kept.drew{a b:World}(h:Kept S a b):Kept S a b.drew:=⟨h.os,h.tape,h.output,h.size,h.block⟩
theorem Kept.setCell{a b:World}(h:Kept S a b){p:Addr}{u:Value}(m:p.block∈S\/a.heap.size<=p.block):Kept S a (b.setCell p u):=
 ⟨h.os,h.tape,h.output,by have:=h.size;simpa[World.setCell]using this,λk I F=>by
  have z:k≠p.block:=by
   rintro rfl;rcases m with m|m
   .exact F m
   .omega
  rw[Below.heap_setCell _ _ _ _ z];exact h.block k I F⟩
theorem aC.kept(h:aC w p g v)(I:Kept S w w')(L:p∉S):aC w' p g v:=by
 have J:=h.lt;obtain⟨m,M,u,z,F⟩:=h;exact⟨m,M,u,(I.block p J L).trans z,F⟩
def dN(g:G)(c:Nat)(t:Bool):G:={g with b:=upd g.b c t}
theorem yN(a b:Int)(w:World)(h:1<=a/\a<=16/\1<=b/\b<=16):Calls prog 29 #[rI a,rI b] w λe m=>e=.returned (.tuple #[.pointer (some ⟨w.heap.size,0,none⟩),.nilIface])/\aC m w.heap.size ⟨a.toNat,b.toNat,λ_=>false⟩ 0/\Below w.heap.size w m/\m.heap.size=w.heap.size+1:=by
 obtain⟨u,z,F,I⟩:=h;go_enter func29,ntmps29;go_wp2;go_ret2;refine⟨rfl,?_,be,rS⟩;refine⟨⟨by simp only;omega,by simp only;omega,by simp only;omega,by simp only;omega⟩,λ_=>0,λ_=>(by decide:0<18446744073709551616),?_,λc _=>rS⟩;rw[heap_alloc_new];simp[bY];omega
theorem wL(a b:Int)(w:World)(h:¬(1<=a/\a<=16/\1<=b/\b<=16)):Calls prog 29 #[rI a,rI b] w λe m=>e=.returned (.tuple #[.pointer none,.iface 54 (rI 1)])/\w=m:=by
 go_enter func29,ntmps29;go_wp2
 all_goals
  go_ret2;exact⟨rfl,rfl⟩
theorem Cw(w:World)(p:Nat)(g:G)(v:Int)(c:Nat)(h:aC w p g v)(u:c<g.n):Calls prog 35 #[vP p,rI (c:Nat),.bool (g.b c)] w (Rt w (.tuple #[.bool false,.nilIface])):=by
 have m:=dQ w p g v c h u;generalize g.b c=t at m⊢;clear h;cases t
 all_goals
  go_enter func35,ntmps35;go_wp2_with fail;refine m.mono ?_;rintro e I ⟨rfl,F⟩;go_wp2;go_ret2
  exact⟨rfl,be⟩
theorem EA(w:World)(p:Nat)(g:G)(v:Int)(h:aC w p g v):Calls prog 120 #[vP p] w λe z=>e=.returned (.pointer (some ⟨w.heap.size,0,none⟩))/\aC z w.heap.size g v/\Below w.heap.size w z/\z.heap.size=w.heap.size+1:=by
 obtain⟨F,u,I,m,J⟩:=h;have M:w.cell? ⟨p,0,none⟩=some (rI g.w):=by simp[World.cell?,m,bY]
 have O:w.cell? ⟨p,1,none⟩=some (rI g.h):=by simp[World.cell?,m,bY]
 have P:w.cell? ⟨p,2,none⟩=some (.int .u64 (u 0)):=by simp[World.cell?,m,bY]
 have Q:w.cell? ⟨p,3,none⟩=some (.int .u64 (u 1)):=by simp[World.cell?,m,bY]
 have R:w.cell? ⟨p,4,none⟩=some (.int .u64 (u 2)):=by simp[World.cell?,m,bY]
 have T:w.cell? ⟨p,5,none⟩=some (.int .u64 (u 3)):=by simp[World.cell?,m,bY]
 have U:w.cell? ⟨p,6,none⟩=some (rI v):=by simp[World.cell?,m,bY]
 have L:=hid m;clear m;go_enter func120,ntmps120;go_wp2;go_ret;refine⟨rfl,⟨F,u,I,?_,J⟩,be,rS⟩;rw[heap_alloc_new];rfl
theorem Ch(z k:Nat)(u:z<18446744073709551616)(m:k<64):bits BinOp.xor IntKind.u64 (z:Int) ((2^k:Nat):Int)=((z^^^2^k:Nat):Int):=
 bits_xor_u64_nat z (2^k) u (Zf (Nat.pow_lt_pow_right rD m) rD)
theorem LF(w:World)(p k:Nat)(cs:Array Value)(T:TypeId)(x y:Value)(h:w.heap[p]? =some (.cells cs T (0,0))):(((w.setCell ⟨p,k,none⟩ x).setCell ⟨p,6,none⟩ y).drew).heap[p]? =some (.cells ((cs.setIfInBounds k x).setIfInBounds 6 y) T (0,0)):=by
 simp[World.drew,World.setCell,Array.getElem?_modify,h]
theorem Sd{m:Nat->Nat}{c:Nat}(L:g.ok)(M:w.heap[p]? =some (.cells (bY g m v) 146 (0,0)))(F:∀i,m i<18446744073709551616)(I:∀c,c<256->g.b c=(m (c/64)).testBit (c%64))(Q:c<256)(O:g.b c=!t):aC ((w.setCell ⟨p,2+c/64,none⟩ (.int .u64 (bits BinOp.xor IntKind.u64 (m (c/64):Int) (IntKind.u64.wrap (2^(c%64)))))).setCell ⟨p,6,none⟩ (rI (v+1))).drew p (dN g c t) (v+1):=by
 have J:IntKind.u64.wrap (2^(c%64))=((2^(c%64):Nat):Int):=by
  have:(2:Nat)^(c%64)<2^64:=Nat.pow_lt_pow_right rD (Nat.mod_lt _ rD);rw[IntKind.wrap_u64];have e:((2:Int)^(c%64))=((2^(c%64):Nat):Int):=rS;rw[e];clear e;generalize 2^(c%64)=n at*;omega
 have P:m (c/64)^^^2^(c%64)<18446744073709551616:=Nat.xor_lt_two_pow (n:=64) (F _) (Nat.pow_lt_pow_right rD (Nat.mod_lt _ rD));rw[J,Ch _ _ (F _) (Nat.mod_lt _ rD)];refine⟨L,upd m (c/64) (m (c/64)^^^2^(c%64)),?_,?_,?_⟩
 .intro i
  unfold upd;split
  .exact P
  .exact F i
 .rw[LF _ _ _ _ _ _ _ M]
  rcases(show c/64=0\/c/64=1\/c/64=2\/c/64=3 by omega)with e|e|e|e<;>rw[e]<;>simp[bY,upd,dN]
 .intro u z
  show upd g.b c t u=_;by_cases e:u=c
  .subst e
   rw[upd_same,upd_same,Nat.testBit_xor,<-I u z,O,Nat.testBit_two_pow_self];cases t<;>rfl
  .rw[upd_ne _ _ e,I u z]
   by_cases q:u/64=c/64
   .rw[q,upd_same,Nat.testBit_xor,Nat.testBit_two_pow_of_ne om,Bool.xor_false]
   .rw[upd_ne _ _ q]
theorem kE(w:World)(p:Nat)(g:G)(v:Int)(c:Nat)(t:Bool)(h:aC w p g v)(B:c<g.n)(J:g.b c= !t)(hv:0<=v/\v<=1099511627776):Calls prog 35 #[vP p,rI (c:Nat),.bool t] w λe P=>e=.returned (.tuple #[.bool true,.nilIface])/\aC P p (dN g c t) (v+1)/\Kept [p] w P:=by
 have F:=dQ w p g v c h B;rw[J]at F;have hn:=G.bA h.1;obtain⟨v0,v1⟩:=hv;have I:=h.lt;obtain⟨Z,ws,L,O,M⟩:=h;have T:=hid O;have U:=hid J;have Q:=hid L;have R:=hid M;clear O J L M;go_enter func35,ntmps35;go_wp2_with fail;refine F.mono ?_;rintro e z ⟨rfl,u⟩;have m:=hid ((u.block p I).trans T.out);have S:Kept [p] w z:=.of_below u
 clear u F
 have kz:z.cell? ⟨p,2+c/64,none⟩=some (.int .u64 (ws (c/64))):=by
  have:=m.out;rcases(show c/64=0\/c/64=1\/c/64=2\/c/64=3 by omega)with e|e|e|e<;>rw[e]<;>simp[World.cell?,this,bY]
 have kv:z.cell? ⟨p,6,none⟩=some (rI v):=by have:=m.out;simp[World.cell?,this,bY]
 have kf:∀k,z.frozen? ⟨p,k,none⟩=false:=by intro k;have:=m.out;simp[World.frozen?,this]
 cases t
 all_goals
  go_wp2_with fail;go_region;go_wp2;go_ret2
  refine⟨rfl,Sd Z m.out Q.out R.out om U.out,?_⟩;exact((S.setCell (.inl rS)).setCell (.inl rS)).drew
theorem jH(d:Nat):-1<=bL d/\bL d<=1/\-1<=bD d/\bD d<=1:=by
 rcases Nat.lt_or_ge d 8 with h|h
 .rcases(show d=0\/d=1\/d=2\/d=3\/d=4\/d=5\/d=6\/d=7 by omega)with rfl|rfl|rfl|rfl|rfl|rfl|rfl|rfl<;>decide
 .obtain⟨k,rfl⟩:=Nat.exists_eq_add_of_le h
  have e:bL (8+k)= -1/\bD (8+k)= -1:=by
   unfold bL bD;constructor
   .split<;>first|omega|rfl
   .split<;>first|omega|rfl
  rw[e.1,e.2];decide
theorem jc(d:Nat)(h:d<8)(w:World):Calls prog 126 #[rI (d:Nat)] w (Rt w (.tuple #[rI (bL d),rI (bD d)])):=by
 rcases(show d=0\/d=1\/d=2\/d=3\/d=4\/d=5\/d=6\/d=7 by omega)with rfl|rfl|rfl|rfl|rfl|rfl|rfl|rfl
 all_goals
  have u:bits BinOp.and IntKind.i64 0 7=0:=rD;have z:bits BinOp.and IntKind.i64 1 7=1:=rD;have F:bits BinOp.and IntKind.i64 2 7=2:=rD;have I:bits BinOp.and IntKind.i64 3 7=3:=rD;have J:bits BinOp.and IntKind.i64 4 7=4:=rD;have L:bits BinOp.and IntKind.i64 5 7=5:=rD;have M:bits BinOp.and IntKind.i64 6 7=6:=rD;have O:bits BinOp.and IntKind.i64 7 7=7:=rD;go_enter func126,ntmps126;go_wp2_with fail;go_quiet (fail);go_wp2;go_ret2
  exact⟨rfl,be⟩
theorem BA(d:Nat)(h:d<8)(w:World):Calls prog 99 #[rI (d:Nat)] w (Rt w (.tuple #[rI (bL d),rI (bD d)])):=by
 rcases(show d=0\/d=1\/d=2\/d=3\/d=4\/d=5\/d=6\/d=7 by omega)with rfl|rfl|rfl|rfl|rfl|rfl|rfl|rfl
 all_goals
  go_enter func99,ntmps99;go_wp2;go_ret2;exact⟨rfl,be⟩
def rowOf(f:Nat->Value)(n:Nat):Array Value:=((List.range n).map f).toArray
theorem bI(f:Nat->Value)(n k:Nat)(h:k<n):(rowOf f n)[k]? =some (f k):=by simp[rowOf,h]
theorem di(f:Nat->Value)(n:Nat):(rowOf f n).size=n:=by simp[rowOf]
def zB(g:G)(v:Int)(k:Nat):Value:=if k=0 then rI g.w else if k=1 then rI g.h else if k=258 then rI v else .bool (g.b (k-2))
def aG(w:World)(p:Nat)(g:G)(v:Int):Prop:=g.ok/\w.heap[p]? =some (.cells (rowOf (zB g v) 259) 38 (0,0))
theorem aG.lt(h:aG w p g v):p<w.heap.size:=(Za.1 h.2).1
theorem aG.below(h:aG w p g v)(m:Below B w w')(u:p<B):aG w' p g v:=⟨h.1,(m.block p u).trans h.2⟩
theorem aG.cell(h:aG w p g v)(k:Nat)(m:k<259):w.cell? ⟨p,k,none⟩=some (zB g v k):=by
 simp[World.cell?,h.2,bI _ _ _ m]
theorem aG.size(h:aG w p g v):w.cell? ⟨p,0,none⟩=some (rI g.w)/\w.cell? ⟨p,1,none⟩=some (rI g.h):=
 ⟨h.cell 0 rD,h.cell 1 rD⟩
theorem aG.bit(h:aG w p g v)(c:Nat)(m:c<256):w.cell? ⟨p,2+c,none⟩=some (.bool (g.b c)):=by
 rw[h.cell (2+c) om];unfold zB;rw[if_neg om,if_neg om,if_neg om,show 2+c-2=c by omega]
theorem aG.XA(h:aG w p g v):w.cell? ⟨p,258,none⟩=some (rI v):=h.cell 258 rD
theorem uX(w:World)(p:Nat)(g:G)(v:Int)(c:Nat)(h:aG w p g v)(z:c<g.n):Calls prog 18 #[vP p,rI (c:Nat)] w (Rt w (rI 0)):=by
 obtain⟨L,M⟩:=h.size;obtain⟨Q,R,T,U⟩:=h.1;have I:=G.bA h.1;have e:((g.n:Nat):Int)=(g.w:Int)*g.h:=by unfold G.n;simp
 have O:0<=(g.w:Int)*g.h:=om;have P:(g.w:Int)*g.h<=256:=om;have F:decide ((g.w:Int)*g.h<=(c:Int))=false:=so;have m:decide ((c:Int)<0)=false:=rS;have J:IntKind.i64.wrap ((g.w:Int)*g.h)=(g.w:Int)*g.h:=IntWalk.i64_in _ om;clear h e;go_enter func18,ntmps18;go_wp2_with fail;go_quiet (fail);go_wp2;go_ret
 exact⟨rfl,be⟩
theorem Da(w:World)(p:Nat)(g:G)(v c:Int)(h:aG w p g v)(m:c<0\/g.n<=c):Calls prog 18 #[vP p,rI c] w (Rt w (rI 1)):=by
 obtain⟨M,O⟩:=h.size;obtain⟨R,T,U,Z⟩:=h.1;have L:=G.bA h.1;have e:((g.n:Nat):Int)=(g.w:Int)*g.h:=by unfold G.n;simp
 have P:0<=(g.w:Int)*g.h:=om;have Q:(g.w:Int)*g.h<=256:=om;have I:IntKind.i64.wrap ((g.w:Int)*g.h)=(g.w:Int)*g.h:=IntWalk.i64_in _ om;rcases(show c<0\/(0<=c/\(g.n:Int)<=c)by omega)with m|⟨u,m⟩
 .have z:decide (c<0)=true:=so
  clear h e I;go_enter func18,ntmps18;go_wp2_with fail;go_quiet (fail);go_wp2;go_ret
  exact⟨rfl,be⟩
 .have z:decide ((g.w:Int)*g.h<=c)=true:=so
  have F:decide (c<0)=false:=so;clear h e;go_enter func18,ntmps18;go_wp2_with fail;go_quiet (fail);go_wp2;go_ret
  exact⟨rfl,be⟩
theorem Xl(w:World)(p:Nat)(g:G)(v x y:Int)(h:aG w p g v):Calls prog 100 #[vP p,rI x,rI y] w (Rt w (.bool (g.op x y))):=by
 obtain⟨k1,k2⟩:=h.size;obtain⟨o1,M,o3,o4⟩:=h.1;by_cases U:0<=x/\x<g.w/\0<=y/\y<g.h
 .obtain⟨O,S,P,a4⟩:=U
  obtain⟨i,rfl⟩:=Zj O;obtain⟨j,rfl⟩:=Zj P;have m:g.op i j=!g.b (j*g.w+i):=by unfold G.op;simp;omega
  have L:j*g.w+i<256:=by
   have:j*g.w<=15*16:=Nat.mul_le_mul om M;omega
  have T:j*g.w<=240:=Nat.mul_le_mul (show j<=15 by omega) M;have R:((j:Int)*g.w)=((j*g.w:Nat):Int):=rS;have ht:((j:Int)*g.w+i).toNat=j*g.w+i:=om;have Z:IntKind.i64.wrap ((j:Int)*g.w)=(j:Int)*g.w:=IntWalk.i64_in _ om;have k:IntKind.i64.wrap ((j:Int)*g.w+i)=(j:Int)*g.w+i:=IntWalk.i64_in _ om;have q1:0<=(j:Int)*g.w+i:=om;have q2:(j:Int)*g.w+i<256:=om;have kb:=h.bit (j*g.w+i) L;have u:decide ((0:Int)<=(i:Int))=true:=rS;have F:decide ((0:Int)<=(j:Int))=true:=rS;have J:decide ((i:Int)<g.w)=true:=so;have Q:decide ((j:Int)<g.h)=true:=so;rw[m];clear h m L T R;go_enter func100,ntmps100;go_wp2_with fail;go_quiet (fail);go_wp2;go_ret
  exact⟨rfl,be⟩
 .have m:g.op x y=false:=by unfold G.op;simp;omega
  rw[m];clear h m;rcases(show x<0\/(0<=x/\g.w<=x)\/(0<=x/\x<g.w/\y<0)\/(0<=x/\x<g.w/\0<=y/\g.h<=y)by omega)with z|⟨z,I⟩|⟨z,I,c3⟩|⟨z,I,c3,c4⟩
  .have u:decide ((0:Int)<=x)=false:=so
   go_enter func100,ntmps100;go_wp2_with fail;go_quiet (fail);go_wp2;go_ret
   exact⟨rfl,be⟩
  .have u:decide ((0:Int)<=x)=true:=so
   have F:decide (x<(g.w:Int))=false:=so;go_enter func100,ntmps100;go_wp2_with fail;go_quiet (fail);go_wp2;go_ret
   exact⟨rfl,be⟩
  .have u:decide ((0:Int)<=x)=true:=so
   have F:decide (x<(g.w:Int))=true:=so;have J:decide ((0:Int)<=y)=false:=so;go_enter func100,ntmps100;go_wp2_with fail;go_quiet (fail);go_wp2;go_ret
   exact⟨rfl,be⟩
  .have u:decide ((0:Int)<=x)=true:=so
   have F:decide (x<(g.w:Int))=true:=so;have J:decide ((0:Int)<=y)=true:=so;have Q:decide (y<(g.h:Int))=false:=so;go_enter func100,ntmps100;go_wp2_with fail;go_quiet (fail);go_wp2;go_ret
   exact⟨rfl,be⟩
theorem dR(w:World)(p:Nat)(g:G)(v x y:Int)(t:Bool)(h:aC w p g v)(m:g.op x y=t):Calls prog 75 #[vP p,rI x,rI y] w λe u=>e=.returned (.bool t)/\w=u:=by
 rw[<-m];exact yO w p g v x y h
theorem iF(w:World)(p:Nat)(g:G)(v x y:Int)(t:Bool)(h:aG w p g v)(m:g.op x y=t):Calls prog 100 #[vP p,rI x,rI y] w (Rt w (.bool t)):=by
 rw[<-m];exact Xl w p g v x y h
theorem PT{d:Nat}(z:d<8)(F:d%2=0)(m:g.op x y=true)(u:g.op (x+bL d) (y+bD d)=true):g.op (x+bL d) y=true/\g.op x (y+bD d)=true:=by
 rcases(show d=0\/d=2\/d=4\/d=6 by omega)with rfl|rfl|rfl|rfl<;>simp[bL,bD]at* <;>simp[m,u]
theorem J5{d:Nat}{m u z F:Bool}(I:g.op x y=m)(J:g.op (x+bL d) (y+bD d)=u)(L:g.op (x+bL d) y=z)(M:g.op x (y+bD d)=F):g.may x y d=(m&&u&&z&&F):=by
 unfold G.may;rw[I,J,L,M]
theorem Oc(d:Nat)(h:d<8):(bits BinOp.and IntKind.i64 (d:Int) 1==0)=(d%2==0):=by
 rcases(show d=0\/d=1\/d=2\/d=3\/d=4\/d=5\/d=6\/d=7 by omega)with rfl|rfl|rfl|rfl|rfl|rfl|rfl|rfl<;>decide
theorem Cv(w:World)(p:Nat)(g:G)(v x y:Int)(d:Nat)(h:aC w p g v)(k:d<8)(hx:yQ x)(hy:yQ y):Calls prog 153 #[vP p,rI x,rI y,rI (d:Nat)] w (Rt w (.bool (g.may x y d))):=by
 unfold yQ at hx hy;obtain⟨b1,b2,b3,b4⟩:=jH d;have hb:=Oc d k;obtain⟨t1,M⟩:=rX (g.op x y);obtain⟨t2,O⟩:=rX (g.op (x+bL d) (y+bD d));obtain⟨t3,P⟩:=rX (g.op (x+bL d) y);obtain⟨t4,Q⟩:=rX (g.op x (y+bD d));have he:=hid (PT (g:=g) (x:=x) (y:=y) k);rw[J5 M O P Q];have R:=λm u=>dR m p g v _ _ _ u M;have T:=λm u=>dR m p g v _ _ _ u O;have c3:=λm u=>dR m p g v _ _ _ u P;have U:=λm u=>dR m p g v _ _ _ u Q;have B:=hid M;have S:=hid O;have H3:=hid P;have H4:=hid Q;clear M O P Q;have R:=hid R;have T:=hid T;have c3:=hid c3;have U:=hid U;obtain⟨par,z⟩:∃t,(d%2==0)=t:=⟨_,rfl⟩;rw[z]at hb;have Hp:=hid z;clear z;generalize I:bL d=dx at*;generalize J:bD d=dy at*;have F:=λm=>jc d k m;rw[I,J]at F;have F:=hid F;have aa:=hid I;have ab:=hid J;clear I J;go_enter func153,ntmps153;go_wp2_with fail;refine(F.out _).mono ?_;rintro e w1 ⟨rfl,Z⟩;have u:=h.below Z h.lt;go_wp2_with fail;refine(R.out _ u).mono ?_;rintro e m ⟨rfl,rfl⟩
 cases t1
 .go_wp2
  go_ret;exact⟨rfl,be⟩
 .go_wp2_with fail
  refine(T.out _ u).mono ?_;rintro e m ⟨rfl,rfl⟩;cases t2
  .go_wp2
   go_ret;exact⟨rfl,be⟩
  .cases par
   .go_wp2_with fail
    refine(c3.out _ u).mono ?_;rintro e m ⟨rfl,rfl⟩;cases t3
    .go_wp2
     go_ret;exact⟨rfl,be⟩
    .go_wp2_with fail
     refine(U.out _ u).mono ?_;rintro e m ⟨rfl,rfl⟩;go_wp2;go_ret;exact⟨rS,be⟩
   .have L:=he.out (by have:=Hp.out;simpa using this) B.out S.out
    rw[H3.out,H4.out]at L;obtain⟨e3,e4⟩:=L;subst e3;subst e4;go_wp2;go_ret;exact⟨rfl,be⟩
theorem aG.kept(h:aG w p g v)(m:Kept S w w')(u:p∉S):aG w' p g v:=
 ⟨h.1,(m.block p h.lt u).trans h.2⟩
def Kt(a b:Value):Array Value:=rowOf (λk=>if k=0 then a else if k=1 then b else if k=258 then rI 0 else .bool false) 259
theorem IC(a b:Value):(zeroCells38.setIfInBounds 0 a).setIfInBounds 1 b=Kt a b:=kr
theorem Tx(a b:Int)(w:World)(h:1<=a/\a<=16/\1<=b/\b<=16):Calls prog 31 #[rI a,rI b] w λe m=>e=.returned (.tuple #[.pointer (some ⟨w.heap.size,0,none⟩),rI 0])/\aG m w.heap.size ⟨a.toNat,b.toNat,λ_=>false⟩ 0/\Below w.heap.size w m/\m.heap.size=w.heap.size+1:=by
 obtain⟨u,z,F,I⟩:=h;go_enter func31,ntmps31;go_wp2;go_ret2;refine⟨rfl,?_,be,rS⟩;refine⟨⟨by simp only;omega,by simp only;omega,by simp only;omega,by simp only;omega⟩,?_⟩;rw[heap_alloc_new,IC];unfold Kt zB;simp only[Int.toNat_of_nonneg (show 0<=a by omega),Int.toNat_of_nonneg (show 0<=b by omega)]
theorem Fw(a b:Int)(w:World)(h:¬(1<=a/\a<=16/\1<=b/\b<=16)):Calls prog 31 #[rI a,rI b] w λe m=>e=.returned (.tuple #[.pointer none,rI 1])/\w=m:=by
 go_enter func31,ntmps31;go_wp2
 all_goals
  go_ret2;exact⟨rfl,rfl⟩
theorem MR(w:World)(p:Nat)(g:G)(v:Int)(c:Nat)(h:aG w p g v)(F:c<g.n):Calls prog 39 #[vP p,rI (c:Nat),.bool (g.b c)] w (Rt w (.tuple #[.bool false,rI 0])):=by
 have M:=G.bA h.1;have I:=hid (uX w p g v c h F);have u:=h.bit c om;have m:=h.lt;generalize g.b c=t at u⊢;clear h;cases t
 all_goals
  go_enter func39,ntmps39;go_wp2_with fail;refine I.out.mono ?_;rintro e O ⟨rfl,z⟩;have J:=(z.cell (p:=⟨p,2+c,none⟩) m).trans u;clear u;go_wp2;go_ret2
  exact⟨rfl,be⟩
theorem M3(w:World)(p k:Nat)(cs:Array Value)(T:TypeId)(x y:Value)(h:w.heap[p]? =some (.cells cs T (0,0))):((w.setCell ⟨p,k,none⟩ x).setCell ⟨p,258,none⟩ y).heap[p]? =some (.cells ((cs.setIfInBounds k x).setIfInBounds 258 y) T (0,0)):=by
 simp[World.setCell,Array.getElem?_modify,h]
theorem TE{c:Nat}(h:aG w p g v)(I:c<256):aG ((w.setCell ⟨p,2+c,none⟩ (.bool t)).setCell ⟨p,258,none⟩ (rI (v+1))) p (dN g c t) (v+1):=by
 refine⟨h.1,?_⟩;rw[M3 _ _ _ _ _ _ _ h.2];congr 2;apply Array.ext_getElem?;intro i;rw[Array.getElem?_setIfInBounds,Array.getElem?_setIfInBounds];have m:(rowOf (zB g v) 259).size=259:=di _ _;by_cases u:i<259
 .rw[bI _ _ _ u]
  by_cases z:258=i
  .subst z;rw[if_pos rfl,if_pos (by simp[m])];rfl
  .rw[if_neg z]
   by_cases F:2+c=i
   .subst F;rw[if_pos rfl,if_pos (by rw[m];exact u),bI _ _ _ u];simp[zB,dN,upd,show 2+c≠0 by omega,show 2+c≠1 by omega,show 2+c≠258 by omega]
   .rw[if_neg F,bI _ _ _ u]
    unfold zB dN;by_cases a:i=0
    .rw[if_pos a,if_pos a]
    .rw[if_neg a,if_neg a]
     by_cases b:i=1
     .rw[if_pos b,if_pos b]
     .rw[if_neg b,if_neg b,if_neg om,if_neg om]
      simp only;rw[upd_ne _ _ om]
 .rw[if_neg om,if_neg om,Array.getElem?_eq_none (by rw[m];omega),Array.getElem?_eq_none (by rw[di];omega)]
theorem Fx(w:World)(p:Nat)(g:G)(v:Int)(c:Nat)(t:Bool)(h:aG w p g v)(M:c<g.n)(I:g.b c= !t)(Q:0<=v/\v<=1099511627776):Calls prog 39 #[vP p,rI (c:Nat),.bool t] w λe J=>e=.returned (.tuple #[.bool true,rI 0])/\aG J p (dN g c t) (v+1)/\Kept [p] w J:=by
 have O:=hid (uX w p g v c h M);have T:=G.bA h.1;obtain⟨S,v1⟩:=Q;have z:=h.lt;have R:=hid I;have u:=h.bit c om;rw[I]at u;clear I;cases t
 all_goals
  go_enter func39,ntmps39;go_wp2_with fail;refine O.out.mono ?_;rintro e L ⟨rfl,m⟩;have F:=h.below m z;have P:Kept [p] w L:=.of_below m;have U:=(m.cell (p:=⟨p,2+c,none⟩) z).trans u;have B:=F.XA
  have Z:∀k,L.frozen? ⟨p,k,none⟩=false:=by intro k;have:=F.2;simp[World.frozen?,this]
  clear u m;go_wp2;go_ret2;exact⟨rfl,TE F om,(P.setCell (.inl rS)).setCell (.inl rS)⟩
theorem X5(w:World)(p:Nat)(g:G)(v x y:Int)(d:Nat)(h:aG w p g v)(k:d<8)(B:yQ x)(S:yQ y):Calls prog 47 #[vP p,rI x,rI y,rI (d:Nat)] w (Rt w (.bool (g.may x y d))):=by
 unfold yQ at B S;obtain⟨b1,b2,b3,b4⟩:=jH d;obtain⟨t1,J⟩:=rX (g.op x y);obtain⟨t2,L⟩:=rX (g.op (x+bL d) (y+bD d));obtain⟨t3,M⟩:=rX (g.op (x+bL d) y);obtain⟨t4,O⟩:=rX (g.op x (y+bD d));rw[J5 J L M O];have T:=hid (λm I=>iF m p g v _ _ _ I J);have U:=hid (λm I=>iF m p g v _ _ _ I L);have c3:=hid (λm I=>iF m p g v _ _ _ I M);have Z:=hid (λm I=>iF m p g v _ _ _ I O);clear J L M O;have R:=hid (λm=>BA d k m);generalize bL d=dx at*;generalize bD d=dy at*;go_enter func47,ntmps47;go_wp2_with fail;refine(R.out _).mono ?_;rintro e w1 ⟨rfl,P⟩;have J:=h.below P h.lt;go_wp2_with fail;refine(T.out _ J).mono ?_;rintro e w2 ⟨rfl,u⟩;have L:=J.below u J.lt;have u:=ae P u
 cases t1
 .go_wp2
  go_ret;exact⟨rfl,be⟩
 .go_wp2_with fail
  refine(U.out _ L).mono ?_;rintro e w3 ⟨rfl,z⟩;have M:=L.below z L.lt;have z:=ae u z;cases t2
  .go_wp2
   go_ret;exact⟨rfl,be⟩
  .go_wp2_with fail
   refine(c3.out _ M).mono ?_;rintro e w4 ⟨rfl,F⟩;have O:=M.below F M.lt;have F:=ae z F;cases t3
   .go_wp2
    go_ret;exact⟨rfl,be⟩
   .go_wp2_with fail
    refine(Z.out _ O).mono ?_;rintro e w5 ⟨rfl,Q⟩;have Q:=ae F Q;cases t4
    all_goals
     go_wp2;go_ret;exact⟨rfl,be⟩
def Ints(w:World)(a:Option Addr)(n:Nat)(f:Nat->Int):Prop:=0<n->∃ad,a=some ad/\ad.block<w.heap.size/\∀k,k<n->w.cell? (ad.add k)=some (rI (f k))
theorem add_block(a:Addr)(n:Nat):(a.add n).block=a.block:=by unfold Addr.add;split<;>rfl
theorem Ints.below{a:Option Addr}{n:Nat}{f:Nat->Int}(h:Ints w a n f)(z:Below w.heap.size w w'):Ints w' a n f:=by
 intro L;obtain⟨m,F,u,I⟩:=h L;exact⟨m,F,Zf u z.size,λk J=>(z.cell (p:=m.add k) (by rw[add_block];exact u)).trans (I k J)⟩
theorem H8(a b:Int)(w:World)(h:1<=a/\a<=16/\1<=b/\b<=16):Calls prog 29 #[rI a,rI b] w λe m=>∃p,e=.returned (.tuple #[vP p,.nilIface])/\w.heap.size<=p/\aC m p ⟨a.toNat,b.toNat,λ_=>false⟩ 0/\Below w.heap.size w m:=
 (yN a b w h).mono λ_ _⟨u,z,F,I⟩=>⟨_,u,Zi _,z,F⟩
theorem Ku(a b:Int)(w:World)(h:1<=a/\a<=16/\1<=b/\b<=16):Calls prog 31 #[rI a,rI b] w λe m=>∃p,e=.returned (.tuple #[vP p,rI 0])/\w.heap.size<=p/\aG m p ⟨a.toNat,b.toNat,λ_=>false⟩ 0/\Below w.heap.size w m:=
 (Tx a b w h).mono λ_ _⟨u,z,F,I⟩=>⟨_,u,Zi _,z,F⟩
def aL(w:World)(B:Nat)(v:Value)(zs:List Int):Prop:=w.ownsRow B 3 1 v zs.length (zs.map (Value.int .i64))
theorem aL.nil(w:World)(B:Nat):aL w B (.slice none 0 0) []:=⟨rfl,.inl ⟨rfl,rfl⟩⟩
theorem aL.below{B B':Nat}{v:Value}(h:aL w B v zs)(m:Below w.heap.size w w'):aL w' B v zs:=
 World.ownsRow.kept (row:=none) h ⟨m.os,m.tape,m.output,m.size,λk u _=>m.block k u⟩ (by cases z:v.ownBlock<;>simp)
theorem aL.ints{v:Value}(h:aL w B v zs):∃A m,v=.slice A zs.length m/\Ints w A zs.length (λk=>zs.getD k 0):=by
 rcases h.2 with⟨rfl,J⟩|⟨g,u,z,rfl,M,F,L,O,P,Q⟩
 .rw[J];exact⟨none,0,rfl,λh=>absurd h om⟩
 .refine⟨_,u,rfl,λ_=>⟨⟨g,0,none⟩,rfl,(Za.1 F).1,λk I=>?_⟩⟩
  refine World.ownsRow.cells h (g:=g) rfl k _ ?_;simp[List.getD,I]
theorem oJ:(prog.info? 3).map (λi=>(i.zero,i.size,i.bytes))=some (some (rI 0),1,8):=kr
theorem bH{J:Array Oper}{m:List Oper}{o:Oper}{a:Act}{Q:Exit->Act->World->Prop}(w:World)(P:o.guard=none)(s x:Operand)(ho:o.op=.call {callee:=.builtin .append,args:=#[s,x],argTypes:=#[51,51]})(B:Nat)(v:Value)(M:List Int)(z:Int)(hs:a.eval s=v)(I:aL w B v M)(ad:Addr)(hx:a.eval x=.slice (some ad) 1 1)(S:w.cell? ad=some (rI z))(hl:M.length<1099511627776)(k:B<=w.heap.size)(h:∀O L,aL L B O (M++[z])->w.grownBy L v.ownBlock->wpList prog J Q m (a.put o.dst O) L):wpList prog J Q (o::m) a w:=by
 obtain⟨i0,hi,R,T,U⟩:=info_parts oJ;refine wpList_append_own w P s x 51 ho B 3 i0 (rI 0) 1 8 underlying51 hi R T U rfl rD v M.length (M.map (Value.int .i64)) hs I ad 1 1 [rI z] hx rfl ?_ ?_ ?_ ?_ k ?_
 .intro j u F
  cases j with
  |zero=>simp at F;subst F;simpa[Addr.add]using S
  |succ j=>simp at F
 .intro u F;simp at F;subst F;rfl
 .unfold maxLen;omega
 .omega
 .intro O L Z g _
  refine h O L ?_ g;unfold aL;simpa using Z
theorem dh(w:World)(v:Value)(T:TypeId):(w.alloc (.cells #[v] T)).cell? ⟨w.heap.size,0,none⟩=some v:=by go_simp
theorem aL.alloc{v:Value}(h:aL w B v zs)(o:Obj):aL (w.alloc o) B v zs:=World.ownsRow.alloc h o
theorem below_grown{W w w':World}{v:Value}(m:Below B W w)(F:B<=w.heap.size)(h:aL w B v zs)(u:w.grownBy w' v.ownBlock):Below B W w':=
 m.grown u F (λk z=>(World.ownsRow.lt h k z).1)
def upTo(p:Nat->Bool)(k:Nat):List Int:=((List.range k).filter p).map (λd:Nat=>(d:Int))
theorem tY{p:Nat->Bool}(h:p k=true):upTo p (k+1)=upTo p k++[(k:Int)]:=by simp[upTo,List.range_succ,List.filter_append,h]
theorem xP{p:Nat->Bool}(h:p k=false):upTo p (k+1)=upTo p k:=by simp[upTo,List.range_succ,List.filter_append,h]
theorem iG(p:Nat->Bool)(k:Nat):(upTo p k).length<=k:=by
 unfold upTo;rw[Zr];exact Zg (List.length_filter_le _ _) rS
def gI(g:G)(c:Nat):List Int:=upTo (g.fG c) 8
theorem jA(g:G)(c:Nat):gI g c=(g.moves c).map (λd:Nat=>(d:Int)):=rfl
def UU(g:G)(c:Nat):Prop:=yQ (g.X c:Nat)/\yQ (g.Y c:Nat)
theorem Ph(h:g.ok){c:Nat}(m:c<g.n):UU g c:=by
 have u:=G.ji h c;have z:=G.iJ m;obtain⟨_,F,_,I⟩:=h;unfold UU yQ;omega
def kd(g:G)(x y u v:Int):Bool:=!g.op (x+u) (y+v)&&g.op (x+u) y&&g.op x (y+v)
theorem Pn{x y u v:Int}{m z F:Bool}(I:g.op (x+u) (y+v)=m)(J:g.op (x+u) y=z)(L:g.op x (y+v)=F):kd g x y u v=(!m&&z&&F):=by unfold kd;rw[I,J,L]
def aQ(g:G)(c:Nat):Bool:=g.op (g.X c:Nat) (g.Y c:Nat)&&(kd g (g.X c:Nat) (g.Y c:Nat) 1 (-1)||kd g (g.X c:Nat) (g.Y c:Nat) 1 1||kd g (g.X c:Nat) (g.Y c:Nat) (-1) 1||kd g (g.X c:Nat) (g.Y c:Nat) (-1) (-1))
def Qd(g:G)(x y:Int)(k:Nat):Prop:=∀j,j<k->kd g x y (bL (2*j+1)) (bD (2*j+1))=false
theorem Mt(g:G)(x y:Int):Qd g x y 0:=λj m=>om
theorem Ms(h:Qd g x y k)(m:kd g x y (bL (2*k+1)) (bD (2*k+1))=false):Qd g x y (k+1):=by
 intro j u;by_cases e:j=k
 .subst e;exact m
 .exact h j om
theorem Lg{c:Nat}(h:Qd g (g.X c:Nat) (g.Y c:Nat) 4):aQ g c=false:=by
 have m:=h 0 om;have u:=h 1 om;have z:=h 2 om;have F:=h 3 om;simp[bL,bD]at m u z F;unfold aQ;simp[m,u,z,F]
theorem GJ{c k:Nat}(u:k<4)(m:g.op (g.X c:Nat) (g.Y c:Nat)=true)(h:kd g (g.X c:Nat) (g.Y c:Nat) (bL (2*k+1)) (bD (2*k+1))=true):aQ g c=true:=by
 unfold aQ;rcases(show k=0\/k=1\/k=2\/k=3 by omega)with rfl|rfl|rfl|rfl<;>simp[bL,bD]at h<;>simp[m,h]
theorem Qy{a b:Bool}{v:Value}(h:a=b):Ending.returned (.tuple #[.bool a,v])=.returned (.tuple #[.bool b,v]):=by rw[h]
theorem oz(w:World)(p:Nat)(g:G)(v:Int)(c:Nat)(h:aC w p g v)(hc:c<g.n):Calls prog 127 #[vP p,rI (c:Nat)] w (Rt w (.tuple #[.bool (aQ g c),.nilIface])):=by
 have ab:=Ph h.1 hc;have hp:=hid h.lt;obtain⟨hx,hy⟩:=ab;unfold yQ at hx hy;have aa:=rX (aQ g c);obtain⟨cb,J⟩:=aa;rw[J];have I:=hid J;clear J;go_enter func127,ntmps127;go_wp2_with fail;refine(aU w p g v c h hc).mono ?_;rintro e w1 ⟨rfl,z⟩;have ag:=z.size;go_wp2_with fail;cases L:g.op (g.X c:Nat) (g.Y c:Nat)with
 |false=>
  refine(dR _ p g v _ _ _ (h.below z hp.out) L).mono ?_;rintro e m ⟨rfl,rfl⟩;have M:aQ g c=false:=by unfold aQ;rw[L];rfl
  obtain rfl:false=cb:=M.symm.trans I.out;clear M L;go_wp2;go_ret2;exact⟨rfl,z⟩
 |true=>
  refine(dR _ p g v _ _ _ (h.below z hp.out) L).mono ?_;rintro e m ⟨rfl,rfl⟩;have Ho:=hid L;clear L;go_wp2_with fail;go_loopw [9] (λi wr=>∃k:Nat,k<=4/\i=rI ((2*k+1:Nat):Int)/\Qd g (g.X c:Nat) (g.Y c:Nat) k/\Below w.heap.size w wr) (λi _=>9-(intOf i).toNat)
  case atStart=>exact⟨0,om,rfl,Mt _ _ _,z⟩
  case round=>
   obtain⟨k,hk,rfl,Q,HB⟩:=hrel;have O:=hid Q;clear Q;by_cases ac:k<4
   .have ad:=hid (λm=>jc (2*k+1) om m)
    obtain⟨b1,b2,b3,b4⟩:=jH (2*k+1);have T:=hid (λF=>Ms O.out F);have Hy:=hid (λF=>GJ (g:=g) (c:=c) ac Ho.out F);generalize bL (2*k+1)=dx at*;generalize bD (2*k+1)=dy at*;obtain⟨t1,U⟩:=rX (g.op ((g.X c:Nat)+dx) ((g.Y c:Nat)+dy));obtain⟨t2,Z⟩:=rX (g.op ((g.X c:Nat)+dx) (g.Y c:Nat));obtain⟨t3,B⟩:=rX (g.op (g.X c:Nat) ((g.Y c:Nat)+dy));have R:=hid (Pn U Z B);have c1:=hid (λm F=>dR m p g v _ _ _ F U);have c2:=hid (λm F=>dR m p g v _ _ _ F Z);have c3:=hid (λm F=>dR m p g v _ _ _ F B);clear U Z B;go_wp2_with fail;refine(ad.out _).mono ?_;rintro e w2 ⟨rfl,P⟩;have u:=ae HB P;have S:=h.below u hp.out;clear P;go_wp2_with fail;refine(c1.out _ S).mono ?_;rintro e m ⟨rfl,rfl⟩
    cases t1
    .go_wp2_with fail
     refine(c2.out _ S).mono ?_;rintro e m ⟨rfl,rfl⟩;cases t2
     .go_wp2
      go_roundw
      case rel=>exact⟨k+1,om,by go_num,T.out R.out,u⟩
      case measure=>exact rM
     .go_wp2_with fail
      refine(c3.out _ S).mono ?_;rintro e m ⟨rfl,rfl⟩;cases t3
      .go_wp2
       go_roundw
       case rel=>exact⟨k+1,om,by go_num,T.out R.out,u⟩
       case measure=>exact rM
      .go_wp2
       go_ret2;exact⟨Qy (I.out.symm.trans (Hy.out R.out)).symm,u⟩
    .go_wp2
     go_roundw
     case rel=>exact⟨k+1,om,by go_num,T.out R.out,u⟩
     case measure=>exact rM
   .obtain rfl:k=4:=om
    go_wp2;go_ret2;exact⟨Qy ((Lg O.out).symm.trans I.out),HB⟩
def aA(g:G):List Int:=upTo (aQ g) g.n
theorem OM(h:g.ok)(d:Nat):-16<=bD d*g.w/\bD d*g.w<=16:=by
 obtain⟨z,F,_,_⟩:=h;obtain⟨_,_,m,u⟩:=jH d;rcases(show bD d= -1\/bD d=0\/bD d=1 by omega)with e|e|e<;>rw[e]<;>omega
theorem Vv(w:World)(p:Nat)(g:G)(v:Int)(c d:Nat)(h:aC w p g v)(U:c<g.n)(I:d<8):Calls prog 96 #[vP p,rI (c:Nat),rI (d:Nat)] w (Rt w (rI (g.F3 c d))):=by
 obtain⟨k,B⟩:=OM h.1 d;obtain⟨M,O,P,Q⟩:=jH d;obtain⟨S,o2,o3,o4⟩:=h.1;have Z:=G.bA h.1;have e:g.F3 c d=(c:Int)+bD d*g.w+bL d:=by unfold G.F3;omega
 rw[e];clear e;have z:=hid (jc d I);have F:=h.size.1;have u:=h.lt;clear h;generalize bL d=R at*;generalize bD d=T at*;go_enter func96,ntmps96;go_wp2_with fail;(with_reducible refine(z.out _).mono ?_);rintro e w1 ⟨rfl,m⟩;have J:=(m.cell (p:=⟨p,0,none⟩) u).trans F;clear F;go_wp2;go_ret;exact⟨rfl,m⟩
theorem YD(w:World)(p:Nat)(g:G)(v:Int)(c d:Nat)(h:aG w p g v)(U:c<g.n)(I:d<8):Calls prog 48 #[vP p,rI (c:Nat),rI (d:Nat)] w (Rt w (rI (g.F3 c d))):=by
 obtain⟨k,B⟩:=OM h.1 d;obtain⟨M,O,P,Q⟩:=jH d;obtain⟨S,o2,o3,o4⟩:=h.1;have Z:=G.bA h.1;have e:g.F3 c d=(c:Int)+bL d+bD d*g.w:=rfl;rw[e];clear e;have z:=hid (BA d I);have F:=h.size.1;have u:=h.lt;clear h;generalize bL d=R at*;generalize bD d=T at*;go_enter func48,ntmps48;go_wp2_with fail;(with_reducible refine(z.out _).mono ?_);rintro e w1 ⟨rfl,m⟩;have J:=(m.cell (p:=⟨p,0,none⟩) u).trans F;clear F;go_wp2;go_ret;exact⟨rfl,m⟩
theorem Kq(w:World)(p:Nat)(g:G)(v:Int)(c d:Nat)(x y:Int)(h:aG w p g v)(F:d<8)(m:UU g c)(u:x=(g.X c:Nat))(z:y=(g.Y c:Nat)):Calls prog 47 #[vP p,rI x,rI y,rI (d:Nat)] w (Rt w (.bool (g.fG c d))):=by
 subst u;subst z;exact X5 w p g v _ _ d h F m.1 m.2
end
section
open Go.Lib (hid)
open Go.RowKit Go.Sort
theorem aI(w:World)(p k:Nat)(cs:Array Value)(T:TypeId)(x:Value)(h:w.heap[p]? =some (.cells cs T (0,0))):(w.setCell ⟨p,k,none⟩ x).heap[p]? =some (.cells (cs.setIfInBounds k x) T (0,0)):=by
 simp[World.setCell,Array.getElem?_modify,h]
theorem nH(f g:Nat->Value)(n k:Nat)(x:Value)(z:g k=x)(B:∀i,i≠k->g i=f i):(rowOf f n).setIfInBounds k x=rowOf g n:=by
 apply Array.ext_getElem?;intro i;rw[Array.getElem?_setIfInBounds];by_cases m:i<n
 .rw[bI _ _ _ m,bI _ _ _ m]
  by_cases u:k=i
  .subst u;rw[if_pos rfl,if_pos (by rw[di];exact m),z]
  .rw[if_neg u,B i (λe=>u e.symm)]
 .rw[Array.getElem?_eq_none (by rw[di];omega),Array.getElem?_eq_none (by rw[di];omega)]
  split
  .rw[if_neg (by rw[di];omega)]
  .rfl
open FR
variable {g:G}{a:Nat}
def UF(g:G)(x y:Int)(a b:Nat):Prop:=∀i j:Nat,i<2->j<2->(i<a\/(i=a/\j<b))->kd g x y (2*(i:Int)-1) (2*(j:Int)-1)=false
theorem Qf(g:G)(x y:Int):UF g x y 0 0:=λi j _ _ h=>om
theorem Qe{x y:Int}{a b:Nat}(h:UF g x y a b)(k:kd g x y (2*(a:Int)-1) (2*(b:Int)-1)=false):UF g x y a (b+1):=by
 intro i j m u z;by_cases e:i=a/\j=b
 .obtain⟨rfl,rfl⟩:=e;exact k
 .exact h i j m u om
theorem Tc{x y:Int}(h:UF g x y a 2):UF g x y (a+1) 0:=λi j k m u=>h i j k m om
theorem GI{c:Nat}(h:UF g (g.X c:Nat) (g.Y c:Nat) 2 0):aQ g c=false:=by
 have k:=h 0 0 om om om;have m:=h 0 1 om om om;have u:=h 1 0 om om om;have z:=h 1 1 om om om;simp at k m u z;unfold aQ;simp[k,m,u,z]
theorem Ef{c a b:Nat}(m:a<2)(u:b<2)(k:g.op (g.X c:Nat) (g.Y c:Nat)=true)(h:kd g (g.X c:Nat) (g.Y c:Nat) (2*(a:Int)-1) (2*(b:Int)-1)=true):aQ g c=true:=by
 unfold aQ;rcases(show a=0\/a=1 by omega)with rfl|rfl<;>rcases(show b=0\/b=1 by omega)with rfl|rfl<;>simp at h<;>simp[k,h]
theorem Tv(w:World)(p:Nat)(g:G)(v:Int)(c:Nat)(h:aG w p g v)(hc:c<g.n):Calls prog 158 #[vP p,rI (c:Nat)] w (Rt w (.bool (aQ g c))):=by
 have ai:=Ph h.1 hc;have hp:=hid h.lt;have hn:=G.bA h.1;obtain⟨hx,hy⟩:=ai;unfold yQ at hx hy;obtain⟨o1,o2,o3,o4⟩:=h.1;have k1:=h.size.1;have eX:(c:Int)%g.w=(g.X c:Nat):=by unfold G.X;simp
 have eY:(c:Int)/g.w=(g.Y c:Nat):=by unfold G.Y;simp
 obtain⟨cb,O⟩:=rX (aQ g c);rw[O];have J:=hid O;clear O;go_enter func158,ntmps158;go_wp2_with fail;rw[eX];clear eX eY k1
 cases T:g.op (g.X c:Nat) (g.Y c:Nat)with
 |false=>
  refine(iF _ p g v _ _ _ h T).mono ?_;rintro e w1 ⟨rfl,M⟩;have aa:aQ g c=false:=by unfold aQ;rw[T];rfl
  obtain rfl:false=cb:=aa.symm.trans J.out;clear aa T;go_wp2;go_ret;exact⟨rfl,M⟩
 |true=>
  refine(iF _ p g v _ _ _ h T).mono ?_;rintro e w1 ⟨rfl,M⟩;have Ho:=hid T;clear T;go_wp2_with fail;go_loopw [7] (λi wr=>∃(a:Nat)(z:Int),a<=2/\i=rI z/\z=2*(a:Int)-1/\UF g (g.X c:Nat) (g.Y c:Nat) a 0/\Below w.heap.size w wr) (λi _=>(3-intOf i).toNat)
  case atStart=>exact⟨0,-1,om,rfl,om,Qf _ _ _,M⟩
  case round=>
   obtain⟨a,z,ha,rfl,P,k,S⟩:=hrel;by_cases al:a<2
   .have d1:-1<=z:=om
    have d2:z<2:=om;have L:=hid P;have u:=hid k;clear k P;go_wp2_with fail;obtain⟨wo,rfl⟩:∃wo:World,wo=wr:=⟨_,rfl⟩
    go_loopw [8] (λi wr=>∃(b:Nat)(B:Int),b<=2/\i=rI B/\B=2*(b:Int)-1/\UF g (g.X c:Nat) (g.Y c:Nat) a b/\Below w.heap.size w wr) (λi _=>(3-intOf i).toNat)
    case atStart=>exact⟨0,-1,om,rfl,om,u.out,S⟩
    case round=>
     obtain⟨b,B,hb,rfl,Q,k,S⟩:=hrel;have u:=hid k;clear k;by_cases ag:b<2
     .have f1:-1<=B:=om
      have f2:B<2:=om;have m:=hid Q;clear Q;have Hs:=hid (λ(F:kd g (g.X c:Nat) (g.Y c:Nat) z B=false)=>Qe u.out (by rw[<-L.out,<-m.out];exact F));have Hy:=hid (λ(F:kd g (g.X c:Nat) (g.Y c:Nat) z B=true)=>Ef (g:=g) (c:=c) al ag Ho.out (by rw[<-L.out,<-m.out];exact F));obtain⟨t1,h1⟩:=rX (g.op ((g.X c:Nat)+z) ((g.Y c:Nat)+B));obtain⟨t2,h2⟩:=rX (g.op ((g.X c:Nat)+z) (g.Y c:Nat));obtain⟨t3,h3⟩:=rX (g.op (g.X c:Nat) ((g.Y c:Nat)+B));have Hv:=hid (Pn h1 h2 h3);have c1:=hid (λR F=>iF R p g v _ _ _ F h1);have c2:=hid (λR F=>iF R p g v _ _ _ F h2);have c3:=hid (λR F=>iF R p g v _ _ _ F h3);clear h1 h2 h3;go_wp2_with fail;(with_reducible refine(c1.out _ (h.below S hp.out)).mono ?_);rintro e w2 ⟨rfl,ab⟩;have U:=ae S ab;clear ab;go_wp2_with fail;(with_reducible refine(c2.out _ (h.below U hp.out)).mono ?_);rintro e w3 ⟨rfl,ac⟩;have I:=ae U ac;clear ac;cases t2
      .cases t1
       all_goals
        go_wp2;go_roundw
        case rel=>exact⟨b+1,_,om,rfl,by have:=m.out;omega,Hs.out (Hv.out.trans (by rfl)),I⟩
        case measure=>exact rM
      .go_wp2_with fail
       (with_reducible refine(c3.out _ (h.below I hp.out)).mono ?_);rintro e w4 ⟨rfl,ad⟩;have Z:=ae I ad;clear ad;cases t1<;>cases t3
       all_goals first
        |(go_wp2;go_roundw;(case rel=>exact⟨b+1,_,om,rfl,by have:=m.out;omega,Hs.out (Hv.out.trans (by rfl)),Z⟩);(case measure=>exact rM))
        |(go_wp2;go_ret;exact⟨KA (J.out.symm.trans (Hy.out Hv.out)).symm,Z⟩)
     .obtain rfl:b=2:=om
      subst Q;go_wp2;go_roundw
      case rel=>exact⟨a+1,_,om,rfl,by have:=L.out;omega,Tc u.out,S⟩
      case measure=>exact rM
   .obtain rfl:a=2:=om
    subst P;go_wp2;go_ret;exact⟨KA ((GI k).symm.trans J.out),S⟩
