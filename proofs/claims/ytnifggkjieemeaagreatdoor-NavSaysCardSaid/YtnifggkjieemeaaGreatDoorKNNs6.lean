/- Lemmas of this claim: CostSays, Open, TopMoves, CornerSays, AsGrid, GridSays, Fresh. -/
import Derived.Test.YtnifggkjieemeaaGreatDoorKNNs4
import Derived.Test.YtnifggkjieemeaaGreatDoorRows
import Derived.Deep.Grids
import Derived.Lib.SmallJoins
import Derived.Deep.DeepCutAuto
import Derived.Deep.RegionWith
set_option linter.unusedVariables false
set_option linter.unusedSimpArgs false
set_option maxHeartbeats 800000
open Go.Proofs.Tryz
namespace Go.Proofs.YtnifggkjieemeaaGreatDoor
section
open Go.Lib (hid)
open Go.RowKit Go.Sort FR
theorem Df(w:World):Calls prog 9 #[.nilIface,rI 0] w λe g=>e=.returned (.bool true)/\w=g:=QC 0 w
theorem jV(k:Int)(w:World)(h:0<k):Calls prog 9 #[.iface 54 (rI k),rI k] w λe g=>e=.returned (.bool true)/\w=g:=by
 have:=QB k k w h;simpa using this
end
section
open Go.Lib (hid)
open Go.RowKit Go.Sort FR
open Go.ChangeShapes Go.WideShapes Go.ChangeAt Go.Joins
structure YG (W:World) (A:Option Addr) (n:Nat) (f:Nat->Int):Prop where
 ints:Ints W A n f
 len:n<=9223372036854775807
 wf:∀k,-9223372036854775808<=f k/\f k<=9223372036854775807
def Bools(w:World)(a:Option Addr)(n:Nat)(f:Nat->Bool):Prop:=0<n->∃ad,a=some ad/\ad.block<w.heap.size/\∀k,k<n->w.cell? (ad.add k)=some (.bool (f k))
structure YF (W:World) (A:Option Addr) (n:Nat) (f:Nat->Bool):Prop where
 bools:Bools W A n f
 len:n<=9223372036854775807
theorem Q7{x:Int}(h:(Lit.int .i64 x).wf=true):-9223372036854775808<=x/\x<=9223372036854775807:=by
 have g:IntKind.i64.min= -9223372036854775808:=rD;have k:IntKind.i64.max=9223372036854775807:=rD;simp[Lit.wf,g,k]at h;omega
section
variable {H:Type} {enc:TypeId×Value->H} {w:World} {base:Nat} {held:Bool}
variable {r:Reach} {b0:Nat} {v:Value} {d:DataW H} {p:List MemPlace}
end
end
section
open Go.Lib (hid)
open Go.RowKit Go.Sort FR
variable {zs:List Int}{k n:Nat}{f:Nat->Int}{A:Option Addr}{v:Value}{w w':World}
theorem F8{p:Nat->Bool}(h:k<(upTo p n).length):∃d:Nat,(upTo p n).getD k 0=(d:Int)/\d<n/\p d=true:=by
 have e:(upTo p n).getD k 0=(upTo p n)[k]:=by simp[List.getD,h]
 rw[e];have g:(upTo p n)[k]∈upTo p n:=List.getElem_mem h;generalize (upTo p n)[k]=z at g⊢;unfold upTo at g;rw[List.mem_map]at g;obtain⟨d,m,rfl⟩:=g;rw[List.mem_filter,List.mem_range]at m;exact⟨d,rfl,m.1,m.2⟩
theorem F9{p:Nat->Bool}{n d:Nat}(m:d<n)(z:p d=true):∃k,k<(upTo p n).length/\(upTo p n).getD k 0=(d:Int):=by
 have u:(d:Int)∈upTo p n:=by
  unfold upTo;rw[List.mem_map];exact⟨d,by rw[List.mem_filter,List.mem_range];exact⟨m,z⟩,rfl⟩
 obtain⟨k,g,e⟩:=List.getElem_of_mem u;exact⟨k,g,by simp[List.getD,g,e]⟩
theorem to_eq{g:G}{c d:Nat}(h:g.fG c d=true):g.F3 c d=(g.to c d:Nat)/\g.to c d<g.n:=by
 have B:=G.xK h;refine⟨?_,B⟩;obtain⟨a,b,e⟩:=G.dV h;unfold G.to;unfold G.fG at h;have F:=(G.iE.1 h).2.1;obtain⟨⟨u,z,m,L⟩,_⟩:=G.uW.1 F;have:=G.F4 (g:=g) (c:=c) (d:=d) u z m
 have I:0<=g.F3 c d:=by
  unfold G.F3;have e:=G.XY g c;have J:(c:Int)=(g.Y c:Int)*g.w+g.X c:=by rw[<-Int.natCast_mul,<-Int.natCast_add,e]
  have q:0<=((g.Y c:Int)+bD d)*g.w:=Int.mul_nonneg m om;rw[Int.add_mul]at q;omega
 omega
theorem NH(w:World)(p:Nat)(g:G)(v x y:Int)(d:Nat)(t:Bool)(h:aC w p g v)(m:d<8)(u:yQ x)(z:yQ y)(e:g.may x y d=t):Calls prog 153 #[vP p,rI x,rI y,rI (d:Nat)] w (Rt w (.bool t)):=by
 rw[<-e];exact Cv w p g v x y d h m u z
theorem WL(w:World)(p:Nat)(g:G)(v:Int)(c d:Nat)(z:Int)(h:aC w p g v)(m:c<g.n)(u:d<8)(e:g.F3 c d=z):Calls prog 96 #[vP p,rI (c:Nat),rI (d:Nat)] w (Rt w (rI z)):=by
 rw[<-e];exact Vv w p g v c d h m u
theorem Ints.cell{ad:Addr}(h:Ints w (some ad) n f)(z:Below w.heap.size w w')(B:k<n):w'.cell? (ad.add k)=some (rI (f k)):=by
 obtain⟨g,e,m,u⟩:=h om;cases e;exact(z.cell (p:=ad.add k) (by rw[add_block];exact m)).trans (u k B)
theorem Ints.addr(h:Ints w A n f)(m:0<n):∃g,A=some g:=by
 obtain⟨g,e,_⟩:=h m;exact⟨g,e⟩
theorem aP{ad:Addr}{n m k:Nat}(h:A=some ad)(u:k<n)(g:World):(Instr.indexAt 51 (.slice A n m) (rI (k:Nat))).run prog g=.ok (.pointer (some (ad.add k))) g:=by
 subst h;have q:(k:Int)<(n:Int):=om;go_simp
theorem FC(w:World)(A L:Option Addr)(n m R:Nat)(f:Nat->Int)(h:Ints w A n f)(M:Ints w L n f)(hn:n<1099511627776):Calls prog 28 #[.slice A n m,.slice L n R] w (Rt w (.bool true)):=by
 rcases Nat.eq_zero_or_pos n with J|z
 .subst J
  go_enter func28,ntmps28;go_wp2_with fail;go_loopw [5] (λi wr=>i=rI 0/\Below w.heap.size w wr) (λi _=>0-(intOf i).toNat)
  case atStart=>exact⟨rfl,be⟩
  case round=>
   obtain⟨rfl,g⟩:=hrel;go_wp2;go_ret;exact⟨rfl,g⟩
 .obtain⟨P,rfl,O,B⟩:=h z
  obtain⟨F,rfl,Q,I⟩:=M z;have B:=hid B;have I:=hid I;clear h M;go_enter func28,ntmps28;go_wp2_with fail;go_loopw [5] (λi wr=>∃k:Nat,k<=n/\i=rI k/\Below w.heap.size w wr) (λi _=>n-(intOf i).toNat)
  case atStart=>exact⟨0,om,rfl,be⟩
  case round=>
   obtain⟨k,Z,rfl,g⟩:=hrel;by_cases u:k<n
   .have T:=(g.cell (p:=P.add k) (by rw[add_block];exact O)).trans (B.out k u)
    have U:=(g.cell (p:=F.add k) (by rw[add_block];exact Q)).trans (I.out k u);have q1:(k:Int)<(n:Int):=om;go_wp2_with fail;go_quiet (fail);go_wp2;go_roundw
    case rel=>exact⟨k+1,om,by go_num,ak g⟩
    case measure=>exact rM
   .obtain rfl:k=n:=om
    go_wp2;go_ret;exact⟨rfl,g⟩
theorem MO(w:World)(p:Nat)(g:G)(v:Int)(h:aG w p g v):Calls prog 108 #[vP p] w λe Z=>∃v,e=.returned v/\aL Z w.heap.size v (aA g)/\Below w.heap.size w Z:=by
 have S:=hid h.lt;have hn:=G.bA h.1;have L:((g.n:Nat):Int)=(g.w:Int)*g.h:=by unfold G.n;simp
 have m1:0<=(g.w:Int)*g.h:=om;have m2:(g.w:Int)*g.h<=256:=om;have L:=hid L;go_enter func108,ntmps108;go_wp2_with fail;go_loopw [3,4] (λl i wr=>∃k:Nat,k<=g.n/\i=rI k/\aL wr w.heap.size l (upTo (aQ g) k)/\Below w.heap.size w wr) (λ_ i _=>g.n-(intOf i).toNat)
 case atStart=>exact⟨0,om,rfl,aL.nil _ _,br⟩
 case round=>
  obtain⟨k,hk,rfl,u,I⟩:=hrel;have hl:=iG (aQ g) k;have hR:=h.below I S.out;obtain⟨T,U⟩:=hR.size;have hz:=I.size;by_cases Q:k<g.n
  .have R:IntKind.i64.wrap ((g.w:Int)*g.h)=(g.w:Int)*g.h:=IntWalk.i64_in _ om
   have P:decide ((k:Int)<(g.w:Int)*g.h)=true:=by have:=L.out;simp;omega
   go_wp2_with fail;go_quiet (fail);clear R P T U;go_wp2_with fail;(with_reducible refine(Tv _ p g v k (h.below (ak I) S.out) Q).mono ?_);rintro e w2 ⟨rfl,J⟩;have z:=ae (ak I) J;have m:aL w2 w.heap.size _ _:=aL.below (w:=wr.drewN nq) (B':=0) u J;have aa:=z.size;cases M:aQ g k with
   |false=>
    have e:=hid (xP (p:=aQ g) M);clear M;go_wp2;go_roundw
    case rel=>exact⟨k+1,om,by go_num,by rw[e.out];exact m,z⟩
    case measure=>exact rM
   |true=>
    have e:=hid (tY (p:=aQ g) M);clear M;go_wp2_with (at_builtin;refine bH _ rfl _ _ rfl w.heap.size _ _ _ rfl (m.alloc _) ⟨w2.heap.size,0,none⟩ rfl (dh _ _ _) om so ?_;intro v' w3 F B)
    have O:=below_grown (z.alloc om _) so (m.alloc _) B;go_wp2;go_roundw
    case rel=>exact⟨k+1,om,by go_num,by rw[e.out];exact F,O⟩
    case measure=>exact rM
  .obtain rfl:k=g.n:=om
   have R:IntKind.i64.wrap ((g.w:Int)*g.h)=(g.w:Int)*g.h:=IntWalk.i64_in _ om;have P:decide (((g.n:Nat):Int)<(g.w:Int)*g.h)=false:=by have:=L.out;simp;omega
   go_wp2_with fail;go_quiet (fail);clear R P T U;go_wp2;go_ret;exact⟨_,rfl,u,ak I⟩
theorem IE(w:World)(p:Nat)(g:G)(v:Int)(c d:Nat)(z:Int)(h:aG w p g v)(m:c<g.n)(u:d<8)(e:g.F3 c d=z):Calls prog 48 #[vP p,rI (c:Nat),rI (d:Nat)] w (Rt w (rI z)):=by
 rw[<-e];exact YD w p g v c d h m u
theorem aL.JR{B:Nat}(h:aL w B v zs):∃A m,v=.slice A zs.length m/\Ints w A zs.length (λk=>zs.getD k 0)/\∀u,A=some u->B<=u.block:=by
 rcases h.2 with⟨rfl,M⟩|⟨g,z,F,rfl,I,J,O,P,Q,R⟩
 .rw[M];exact⟨none,0,rfl,λh=>absurd h om,λu h=>by cases h⟩
 .refine⟨_,z,rfl,λ_=>⟨⟨g,0,none⟩,rfl,(Za.1 J).1,λk L=>?_⟩,λu h=>by injection h with h;rw[<-h];exact I⟩
  refine World.ownsRow.cells h (g:=g) rfl k _ ?_;simp[List.getD,L]
def DC(w:World)(zs:List Int)(e:Ending)(w':World):Prop:=∃A m,e=.returned (.slice A zs.length m)/\Ints w' A zs.length (λk=>zs.getD k 0)/\(∀ad,A=some ad->w.heap.size<=ad.block)/\Below w.heap.size w w'
def Ah(w:World)(zs:List Int)(e:Ending)(w':World):Prop:=∃A m,e=.returned (.tuple #[.slice A zs.length m,.nilIface])/\Ints w' A zs.length (λk=>zs.getD k 0)/\(∀ad,A=some ad->w.heap.size<=ad.block)/\Below w.heap.size w w'
theorem MX(h:aL w' w.heap.size v zs)(g:Below w.heap.size w w'):DC w zs (.returned v) w':=by
 obtain⟨A,m,rfl,z,u⟩:=h.JR;exact⟨A,m,rfl,z,u,g⟩
theorem II(h:aL w' w.heap.size v zs)(g:Below w.heap.size w w'):Ah w zs (.returned (.tuple #[v,.nilIface])) w':=by
 obtain⟨A,m,rfl,z,u⟩:=h.JR;exact⟨A,m,rfl,z,u,g⟩
theorem dI{J:Array Oper}{g:List Oper}{o:Oper}{a:Act}{Q:Exit->Act->World->Prop}(w:World)(O:o.guard=none)(s x:Operand)(ho:o.op=.call {callee:=.builtin .append,args:=#[s,x],argTypes:=#[51,51]})(B:Nat)(v:Value)(M:List Int)(z:Int)(hs:a.eval s=v)(I:aL w B v M)(ad:Addr)(hx:a.eval x=.slice (some ad) 1 1)(hc:w.cell? ad=some (rI z))(hl:M.length<1099511627776)(k:B<=w.heap.size)(h:∀F L,aL L B F (M++[z])->w.grownBy L v.ownBlock->(F.ownBlock=v.ownBlock\/F.ownBlock=some w.heap.size)->wpList prog J Q g (a.put o.dst F) L):wpList prog J Q (o::g) a w:=by
 obtain⟨i0,hi,P,R,S⟩:=info_parts oJ;refine wpList_append_own_at w O s x 51 ho B 3 i0 (rI 0) 1 8 underlying51 hi P R S rfl rD v M.length (M.map (Value.int .i64)) hs I ad 1 1 [rI z] hx rfl ?_ ?_ ?_ ?_ k ?_
 .intro j u m
  cases j with
  |zero=>simp at m;subst m;simpa[Addr.add]using hc
  |succ j=>simp at m
 .intro u m;simp at m;subst m;rfl
 .unfold maxLen;omega
 .omega
 .intro F L T U _ Z
  refine h F L ?_ U Z;unfold aL;simpa using T
theorem Ints.kept{S:List Nat}(h:Ints w A n f)(B:Kept S w w')(I:∀g,A=some g->g.block∉S):Ints w' A n f:=by
 intro J;obtain⟨g,u,z,F⟩:=h J
 exact⟨g,u,Zf z B.size,λk m=>by
  have e:w'.cell? (g.add k)=w.cell? (g.add k):=World.cell?_of_block (by rw[add_block];exact B.block _ z (I g u));rw[e];exact F k m⟩
theorem Kr(w:World)(p:Nat)(g:G)(v:Int)(c:Nat)(h:aG w p g v)(T:c<g.n):Calls prog 84 #[vP p,rI (c:Nat)] w (DC w (gI g c)):=by
 have P:=Ph h.1 T;have Z:=hid h.lt;obtain⟨o1,o2,o3,o4⟩:=h.1;have hn:=G.bA h.1;have R:(c:Int)%g.w=(g.X c:Nat):=by unfold G.X;simp
 have S:(c:Int)/g.w=(g.Y c:Nat):=by unfold G.Y;simp
 have hY:=G.iJ T;have q1:0<=(c:Int)/g.w:=om;have q2:(c:Int)/g.w<=256:=om;have U:=hid (rN R S);clear R S;go_enter func84,ntmps84;go_wp2_with fail;go_loopw [5,6] (λl i wr=>∃k:Nat,k<=8/\i=rI k/\aL wr w.heap.size l (upTo (g.fG c) k)/\Below w.heap.size w wr) (λ_ i _=>8-(intOf i).toNat)
 case atStart=>exact⟨0,om,rfl,aL.nil _ _,br⟩
 case round=>
  obtain⟨k,hk,rfl,u,J⟩:=hrel;have hl:=iG (g.fG c) k;by_cases Q:k<8
  .have hR:=h.below J Z.out
   have s1:=hR.size.1;have s2:=ZE s1;go_wp2_with fail;refine qb J (λx(z:Below wr.heap.size wr x)=>Kq x p g v c k _ _ (h.below (J.trans (z.mono J.size)) Z.out) Q P U.out.1 U.out.2) λw2 B O=>?_;clear s1 s2;have m:aL w2 w.heap.size _ _:=u.below (B':=0) O;have aa:=B.size;cases L:g.fG c k with
   |false=>
    have e:=hid (xP (p:=g.fG c) L);clear L;go_wp2;go_roundw
    case rel=>exact⟨k+1,om,by go_num,by rw[e.out];exact m,B⟩
    case measure=>exact rM
   |true=>
    have e:=hid (tY (p:=g.fG c) L);clear L;go_wp2_with (at_builtin;refine bH _ rfl _ _ rfl w.heap.size _ _ _ rfl (m.alloc _) ⟨w2.heap.size,0,none⟩ rfl (dh _ _ _) om so ?_;intro v' w3 I F)
    have M:=below_grown (B.alloc om _) so (m.alloc _) F;go_wp2;go_roundw
    case rel=>exact⟨k+1,om,by go_num,by rw[e.out];exact I,M⟩
    case measure=>exact rM
  .obtain rfl:k=8:=om
   go_wp2;go_ret;exact MX u J
theorem Hw(w:World)(p:Nat)(g:G)(v:Int)(c:Nat)(h:aC w p g v)(R:c<g.n):Calls prog 93 #[vP p,rI (c:Nat)] w (Ah w (gI g c)):=by
 have L:=Ph h.1 R;have S:=hid h.lt;go_enter func93,ntmps93;go_wp2_with fail;refine(aU w p g v c h R).mono ?_;rintro e w1 ⟨rfl,I⟩;go_wp2_with fail;have T:=I.size
 go_loopw [9,21] (λl i wr=>∃k:Nat,k<=8/\i=rI k/\aL wr w.heap.size l (upTo (g.fG c) k)/\Below w.heap.size w wr) (λ_ i _=>8-(intOf i).toNat)
 case atStart=>exact⟨0,om,rfl,aL.nil _ _,I⟩
 case round=>
  obtain⟨k,hk,rfl,u,O⟩:=hrel;have hl:=iG (g.fG c) k;by_cases Q:k<8
  .go_wp2_with fail
   refine(Cv _ p g v _ _ k (h.below O S.out) Q L.1 L.2).mono ?_;rintro e Z ⟨rfl,J⟩;have z:=ae O J;have m:=u.below (B':=0) J;have U:=z.size;cases M:g.may (g.X c:Nat) (g.Y c:Nat) k with
   |false=>
    have e:=hid (xP (p:=g.fG c) M);clear M;go_wp2;go_roundw
    case rel=>exact⟨k+1,om,by go_num,by rw[e.out];exact m,z⟩
    case measure=>exact rM
   |true=>
    have e:=hid (tY (p:=g.fG c) M);clear M;go_wp2_with (at_builtin;(refine bH _ rfl _ _ rfl w.heap.size _ _ _ rfl (m.alloc _) ⟨Z.heap.size,0,none⟩ rfl (dh _ _ _) om so ?_);intro v' w3 F B)
    have P:=below_grown (z.alloc om _) so (m.alloc _) B;go_wp2;go_roundw
    case rel=>exact⟨k+1,om,by go_num,by rw[e.out];exact F,P⟩
    case measure=>exact rM
  .obtain rfl:k=8:=om
   go_wp2;go_ret2;exact II u O
