/- Lemmas of this claim: Reach1. -/
import Derived.Test.YtnifggkjieemeaaGreatDoorKNNs11
import Derived.Test.YtnifggkjieemeaaGreatDoorKNNs3
set_option linter.unusedVariables false
set_option linter.unusedSimpArgs false
set_option maxHeartbeats 1600000
open Go.Proofs.Tryz
namespace Go.Proofs.YtnifggkjieemeaaGreatDoor
open Go.Lib (hid)
open Go.RowKit Go.Sort FR
theorem Bu(w:World)(n:Int)(g: -1000000<=n/\n<=1000000):Calls prog 186 #[rI n] w λe w'=>e=.returned (rI (zJ n))/\w=w':=by
 rcases vg n with⟨h,e⟩|⟨h,e⟩|⟨h,e⟩<;>rw[e]
 all_goals
  go_enter func186,ntmps186;go_wp2
  all_goals
   go_ret;refine⟨Bv ?_,rfl⟩;first|rfl|omega
theorem GL{x y:Int}{d:Nat}(g:d<8)(h:bL d=x/\bD d=y):kX x y=d:=by rw[<-h.1,<-h.2];exact jy g
theorem Lh{x y:Int}(h:∀d,d<8->¬(bL d=x/\bD d=y)):kX x y=0:=by
 have g:=h 0 rD;have k:=h 1 rD;have m:=h 2 rD;have u:=h 3 rD;have z:=h 4 rD;have B:=h 5 rD;have F:=h 6 rD;have I:=h 7 rD;simp only[bL,bD]at g k m u z B F I;unfold kX;repeat' split
 all_goals first|rfl|omega
theorem jT(w:World)(x y:Int):Calls prog 185 #[rI x,rI y] w (Rt w (rI (kX x y:Nat))):=by
 go_enter func185,ntmps185;go_wp2_with fail;go_loopw [8] (λU wr=>∃d:Nat,d<=8/\U=rI d/\(∀g,g<d->¬(bL g=x/\bD g=y))/\Below w.heap.size w wr) (λU _=>8-(intOf U).toNat)
 case atStart=>exact⟨0,om,rfl,λg h=>om,br⟩
 case round=>
  obtain⟨d,hd,rfl,R,S⟩:=hrel;have u:=hid R;clear R;by_cases P:d<8
  .have L:=jc d P wr
   obtain⟨Z,B⟩:=rX (bL d);obtain⟨ay,F⟩:=rX (bD d);rw[B,F]at L;have L:=hid L;have m:=hid (rN B F);clear B F;go_wp2_with fail;(with_reducible refine L.out.mono ?_);rintro e w2 ⟨rfl,O⟩;have k:=ae S O;clear L S O;by_cases I:Z=x
   .by_cases M:ay=y
    .have e:=hid (GL P ⟨m.out.1.trans I,m.out.2.trans M⟩)
     subst I;subst M;go_wp2;go_ret;exact⟨by rw[e.out];rfl,k⟩
    .have ab:(ay==y)=false:=by rw[Zq];exact M
     have Q:∀g,g<d+1->¬(bL g=x/\bD g=y):=λg T=>by
      by_cases e:g=d
      .subst e;rw[m.out.2];exactλz=>M z.2
      .exact u.out g om
     have J:=hid Q;clear Q M;subst I;go_wp2;go_roundw
     case rel=>refine rR ?_;exact⟨d+1,om,by go_num,J.out,k⟩
     case measure=>exact rM
   .have aa:(Z==x)=false:=by rw[Zq];exact I
    have Q:∀g,g<d+1->¬(bL g=x/\bD g=y):=λg T=>by
     by_cases e:g=d
     .subst e;rw[m.out.1];exactλz=>I z.1
     .exact u.out g om
    have J:=hid Q;clear Q I;go_wp2;go_roundw
    case rel=>refine rR ?_;exact⟨d+1,om,by go_num,J.out,k⟩
    case measure=>exact rM
  .obtain rfl:d=8:=om
   have e:=hid (Lh u.out);go_wp2;go_ret;exact⟨by rw[e.out];rfl,S⟩
structure bG (w:World) (b gp mo mk:Nat) (g:G) (v:Int) (ca cb:Nat) (S T:Int×Int->Prop):Prop where
 hb:w.heap[b]? =some (.cells #[vP gp,rI (g.X ca:Nat),rI (g.Y ca:Nat),rI (g.sG ca cb:Nat),rI (g.gJ ca cb:Nat),rI (g.fI ca cb:Nat),rI (g.fJ ca cb:Nat),.map (some mo),.map (some mk)] 235 (0,0))
 grid:aC w gp g v
 on:fe w mo S
 bk:fe w mk T
 ne:b≠mo/\b≠mk/\gp≠mo/\gp≠mk/\mo≠mk
 cells:ca<g.n/\cb<g.n
namespace bG
open Go.Lib (hid)
variable {w w':World} {b gp mo mk:Nat} {g:G} {v:Int} {ca cb:Nat} {S T:Int×Int->Prop}
theorem lt(h:bG w b gp mo mk g v ca cb S T):b<w.heap.size:=(Za.1 h.hb).1
theorem kept{U:List Nat}(h:bG w b gp mo mk g v ca cb S T)(m:Kept U w w')(k:b∉U/\gp∉U/\mo∉U/\mk∉U):bG w' b gp mo mk g v ca cb S T:=
 ⟨(m.block b h.lt k.1).trans h.hb,h.grid.EK m k.2.1,h.on.kept m k.2.2.1,h.bk.kept m k.2.2.2,h.ne,h.cells⟩
theorem below(h:bG w b gp mo mk g v ca cb S T)(k:Below w.heap.size w w'):bG w' b gp mo mk g v ca cb S T:=h.kept (U:=[]) (.of_below k) rS
theorem cell(h:bG w b gp mo mk g v ca cb S T):w.cell? ⟨b,0,none⟩=some (vP gp)/\w.cell? ⟨b,1,none⟩=some (rI (g.X ca:Nat))/\w.cell? ⟨b,2,none⟩=some (rI (g.Y ca:Nat))/\w.cell? ⟨b,3,none⟩=some (rI (g.sG ca cb:Nat))/\w.cell? ⟨b,4,none⟩=some (rI (g.gJ ca cb:Nat))/\w.cell? ⟨b,5,none⟩=some (rI (g.fI ca cb:Nat))/\w.cell? ⟨b,6,none⟩=some (rI (g.fJ ca cb:Nat))/\w.cell? ⟨b,7,none⟩=some (.map (some mo))/\w.cell? ⟨b,8,none⟩=some (.map (some mk)):=by
 simp[World.cell?,h.hb]
theorem ok(h:bG w b gp mo mk g v ca cb S T):g.ok:=h.grid.1
end bG
theorem CX{i:Nat}{x:Int}(m:i<=15)(g:-1<=x)(k:x<=1):-15<=(i:Int)*x/\(i:Int)*x<=15:=by
 rcases(show x= -1\/x=0\/x=1 by omega)with rfl|rfl|rfl<;>omega
theorem Qp{g:G}{ca cb i j:Nat}(B:i<=g.fI ca cb)(F:j<=g.fJ ca cb):(g.X ca:Int)+i*bL (g.sG ca cb)+j*bL (g.gJ ca cb)=g.fx ca cb i j/\(g.Y ca:Int)+i*bD (g.sG ca cb)+j*bD (g.gJ ca cb)=g.fy ca cb i j:=by
 unfold G.fx G.fy
 have u:(i:Int)*bL (g.sG ca cb)=i*g.JF ca cb/\(i:Int)*bD (g.sG ca cb)=i*g.JG ca cb:=by
  rcases Nat.eq_zero_or_pos i with h|h
  .subst h;simp
  .obtain⟨k,m,_⟩:=G.Ep (g:=g) (a:=ca) (b:=cb) om;rw[k,m];exact⟨rfl,rfl⟩
 have z:(j:Int)*bL (g.gJ ca cb)=j*g.JH ca cb/\(j:Int)*bD (g.gJ ca cb)=j*g.JI ca cb:=by
  rcases Nat.eq_zero_or_pos j with h|h
  .subst h;simp
  .obtain⟨k,m,_⟩:=G.Ev (g:=g) (a:=ca) (b:=cb) om;rw[k,m];exact⟨rfl,rfl⟩
 rw[u.1,u.2,z.1,z.2];exact⟨rfl,rfl⟩
theorem fieldPlace(w:World)(b gp mo mk:Nat)(g:G)(v:Int)(ca cb:Nat)(S T:Int×Int->Prop)(i j:Nat)(h:bG w b gp mo mk g v ca cb S T)(hi:i<=g.fI ca cb)(hj:j<=g.fJ ca cb):Calls prog 143 #[vP b,rI (i:Nat),rI (j:Nat)] w (Rt w (.tuple #[rI (g.fx ca cb i j),rI (g.fy ca cb i j)])):=by
 have ab:=h.ok;obtain⟨o1,o2,o3,o4⟩:=ab;obtain⟨l1,l2⟩:=G.wG ⟨o1,o2,o3,o4⟩ h.cells.2 h.cells.1;obtain⟨k,m⟩:=Qp hi hj;obtain⟨k0,k1,k2,k3,k4,_⟩:=h.cell;have ad:=h.lt;have hX:=G.ji ⟨o1,o2,o3,o4⟩ ca;have hY:=G.iJ h.cells.1;obtain⟨d,hd⟩:=rX (g.sG ca cb);obtain⟨s,hs⟩:=rX (g.gJ ca cb);have aa:d<8:=by rw[<-hd];exact kg _ _
 have ac:s<8:=by rw[<-hs];exact kg _ _
 rw[hd]at k m k3;rw[hs]at k m k4;obtain⟨b1,b2,b3,b4⟩:=jH d;obtain⟨b5,b6,b7,b8⟩:=jH s;have R:=λw=>jc d aa w;have B:=λw=>jc s ac w;obtain⟨ax,J⟩:=rX (bL d);obtain⟨ay,L⟩:=rX (bD d);obtain⟨bx,M⟩:=rX (bL s);obtain⟨I,O⟩:=rX (bD s);rw[J,L]at R;rw[M,O]at B;rw[J]at k b1 b2;rw[L]at m b3 b4;rw[M]at k b5 b6;rw[O]at m b7 b8;have R:=hid R;have B:=hid B;have m1:=CX (i:=i) (x:=ax) om om om;have m2:=CX (i:=i) (x:=ay) om om om;have m3:=CX (i:=j) (x:=bx) om om om;have m4:=CX (i:=j) (x:=I) om om om;obtain⟨p1,hp1⟩:=rX ((i:Int)*ax);obtain⟨p2,hp2⟩:=rX ((i:Int)*ay);obtain⟨p3,P⟩:=rX ((j:Int)*bx);obtain⟨p4,Q⟩:=rX ((j:Int)*I);rw[hp1]at m1 k;rw[hp2]at m2 m;rw[P]at m3 k;rw[Q]at m4 m;obtain⟨ag,ai⟩:=m1;obtain⟨al,am⟩:=m2;obtain⟨ao,ap⟩:=m3;obtain⟨aq,ar⟩:=m4;have r1:IntKind.i64.wrap ((i:Int)*ax)=p1:=by rw[hp1];exact IntWalk.i64_in _ om
 have r2:IntKind.i64.wrap ((i:Int)*ay)=p2:=by rw[hp2];exact IntWalk.i64_in _ om
 have r3:IntKind.i64.wrap ((j:Int)*bx)=p3:=by rw[P];exact IntWalk.i64_in _ om
 have r4:IntKind.i64.wrap ((j:Int)*I)=p4:=by rw[Q];exact IntWalk.i64_in _ om
 rw[<-k,<-m];obtain⟨X,U⟩:=rX (g.X ca);obtain⟨Y,Z⟩:=rX (g.Y ca);rw[U]at hX k1⊢;rw[Z]at hY k2⊢;clear k m hp1 hp2 P Q J L M O hd hs U Z h b1 b2 b3 b4 b5 b6 b7 b8;go_enter func143,ntmps143;go_wp2_with fail;(with_reducible refine(R.out _).mono ?_);rintro e w1 ⟨rfl,u⟩;have k1:=af u k1;have k2:=af u k2;have k4:=af u k4;have l1:=u.size;go_wp2_with fail;(with_reducible refine(B.out _).mono ?_);rintro e w2 ⟨rfl,F⟩;have k1:=af F k1;have k2:=af F k2;have l2:=F.size;have HB:=ae u F;clear u F k0 k3 k4 R B;go_wp2_with fail;go_quiet (fail);go_wp2;go_ret2
 exact⟨rfl,be⟩
end Go.Proofs.YtnifggkjieemeaaGreatDoor
