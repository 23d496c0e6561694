/- Lemmas of this claim: Reach1. -/
import Derived.Test.YtokhnobcincfjaaGreatDoorKNEd11
set_option linter.unusedVariables false
set_option linter.unusedSimpArgs false
set_option maxHeartbeats 1600000
namespace Go.Proofs.YtokhnobcincfjaaGreatDoor
open Go.Lib (hid)
open Go.RowKit Go.Sort FR
theorem yA(w:World)(n:Int)(g: -1000000<=n/\n<=1000000):Calls Tryz.prog 192 #[.int .i64 n] w λe w'=>e=.returned (.int .i64 (vX n))/\w=w':=by
 rcases rZ n with⟨h,e⟩|⟨h,e⟩|⟨h,e⟩<;>rw[e]
 all_goals
  go_enter Tryz.func192,Tryz.ntmps192;go_wp2
  all_goals
   go_ret;refine⟨Cr ?_,rfl⟩;first|rfl|omega
theorem Dx{x y:Int}{d:Nat}(g:d<8)(h:bu d=x/\aZ d=y):jQ x y=d:=by rw[<-h.1,<-h.2];exact iT g
theorem Ie{x y:Int}(h:∀d,d<8->¬(bu d=x/\aZ d=y)):jQ x y=0:=by
 have g:=h 0 (by decide);have k:=h 1 (by decide);have u:=h 2 (by decide);have z:=h 3 (by decide);have B:=h 4 (by decide);have F:=h 5 (by decide);have I:=h 6 (by decide);have J:=h 7 (by decide);simp only[bu,aZ]at g k u z B F I J;unfold jQ;repeat' split
 all_goals first|rfl|omega
theorem jm(w:World)(x y:Int):Calls Tryz.prog 191 #[.int .i64 x,.int .i64 y] w λe w'=>e=.returned (.int .i64 (jQ x y:Nat))/\Below w.heap.size w w':=by
 go_enter Tryz.func191,Tryz.ntmps191;go_wp2_with fail;go_loopw [8] (λZ wr=>∃d:Nat,d<=8/\Z=.int .i64 d/\(∀g,g<d->¬(bu g=x/\aZ g=y))/\Below w.heap.size w wr) (λZ _=>8-(intOf Z).toNat)
 case atStart=>exact⟨0,by omega,rfl,λg h=>by omega,Below.refl _ _⟩
 case round=>
  obtain⟨d,hd,rfl,S,T⟩:=hrel;have B:=hid S;clear S;by_cases Q:d<8
  .have M:=iC d Q wr
   obtain⟨ax,F⟩:∃z,bu d=z:=⟨_,rfl⟩;obtain⟨ay,I⟩:∃z,aZ d=z:=⟨_,rfl⟩;rw[F,I]at M;have M:=hid M;have u:=hid (And.intro F I);clear F I;go_wp2_with fail;(with_reducible refine M.out.mono ?_);rintro e w2 ⟨rfl,P⟩;have k:=aa T P;clear M T P;by_cases J:ax=x
   .by_cases O:ay=y
    .have e:=hid (Dx Q ⟨u.out.1.trans J,u.out.2.trans O⟩)
     subst J;subst O;go_wp2;go_ret;exact⟨by rw[e.out];rfl,k⟩
    .have ac:(ay==y)=false:=by rw[beq_eq_false_iff_ne];exact O
     have R:∀g,g<d+1->¬(bu g=x/\aZ g=y):=λg U=>by
      by_cases e:g=d
      .subst e;rw[u.out.2];exactλz=>O z.2
      .exact B.out g (by omega)
     have L:=hid R;clear R O;subst J;go_wp2;go_roundw
     case rel=>first|exact⟨d+1,by omega,by go_num,L.out,k⟩|((repeat apply Exists.intro);exact⟨⟨d+1,by omega,by go_num,L.out,k⟩,rfl⟩)
     case measure=>simp[intOf];omega
   .have ab:(ax==x)=false:=by rw[beq_eq_false_iff_ne];exact J
    have R:∀g,g<d+1->¬(bu g=x/\aZ g=y):=λg U=>by
     by_cases e:g=d
     .subst e;rw[u.out.1];exactλz=>J z.1
     .exact B.out g (by omega)
    have L:=hid R;clear R J;go_wp2;go_roundw
    case rel=>first|exact⟨d+1,by omega,by go_num,L.out,k⟩|((repeat apply Exists.intro);exact⟨⟨d+1,by omega,by go_num,L.out,k⟩,rfl⟩)
    case measure=>simp[intOf];omega
  .obtain rfl:d=8:=by omega
   have e:=hid (Ie B.out);go_wp2;go_ret;exact⟨by rw[e.out];rfl,T⟩
structure bA (w:World) (b gp mo mk:Nat) (g:G) (v:Int) (ca cb:Nat) (S T:Int×Int->Prop):Prop where
 hb:w.heap[b]? =some (.cells #[.pointer (some ⟨gp,0,none⟩),.int .i64 (g.X ca:Nat),.int .i64 (g.Y ca:Nat),.int .i64 (g.qh ca cb:Nat),.int .i64 (g.fK ca cb:Nat),.int .i64 (g.fI ca cb:Nat),.int .i64 (g.fJ ca cb:Nat),.map (some mo),.map (some mk)] 236 (0,0))
 grid:az w gp g v
 on:dK w mo S
 bk:dK w mk T
 ne:b≠mo/\b≠mk/\gp≠mo/\gp≠mk/\mo≠mk
 cells:ca<g.n/\cb<g.n
namespace bA
open Go.Lib (hid)
variable {w w':World} {b gp mo mk:Nat} {g:G} {v:Int} {ca cb:Nat} {S T:Int×Int->Prop}
theorem lt(h:bA w b gp mo mk g v ca cb S T):b<w.heap.size:=(Array.getElem?_eq_some_iff.1 h.hb).1
theorem kept{U:List Nat}(h:bA w b gp mo mk g v ca cb S T)(u:Kept U w w')(k:b∉U/\gp∉U/\mo∉U/\mk∉U):bA w' b gp mo mk g v ca cb S T:=
 ⟨(u.block b h.lt k.1).trans h.hb,h.grid.BI u k.2.1,h.on.kept u k.2.2.1,h.bk.kept u k.2.2.2,h.ne,h.cells⟩
theorem below(h:bA w b gp mo mk g v ca cb S T)(k:Below w.heap.size w w'):bA w' b gp mo mk g v ca cb S T:=h.kept (U:=[]) (.of_below k) (by simp)
theorem cell(h:bA w b gp mo mk g v ca cb S T):w.cell? ⟨b,0,none⟩=some (.pointer (some ⟨gp,0,none⟩))/\w.cell? ⟨b,1,none⟩=some (.int .i64 (g.X ca:Nat))/\w.cell? ⟨b,2,none⟩=some (.int .i64 (g.Y ca:Nat))/\w.cell? ⟨b,3,none⟩=some (.int .i64 (g.qh ca cb:Nat))/\w.cell? ⟨b,4,none⟩=some (.int .i64 (g.fK ca cb:Nat))/\w.cell? ⟨b,5,none⟩=some (.int .i64 (g.fI ca cb:Nat))/\w.cell? ⟨b,6,none⟩=some (.int .i64 (g.fJ ca cb:Nat))/\w.cell? ⟨b,7,none⟩=some (.map (some mo))/\w.cell? ⟨b,8,none⟩=some (.map (some mk)):=by
 simp[World.cell?,h.hb]
theorem ok(h:bA w b gp mo mk g v ca cb S T):g.ok:=h.grid.1
end bA
theorem zQ{i:Nat}{x:Int}(u:i<=15)(g:-1<=x)(k:x<=1):-15<=(i:Int)*x/\(i:Int)*x<=15:=by
 rcases(show x= -1\/x=0\/x=1 by omega)with rfl|rfl|rfl<;>omega
theorem Mv{g:G}{ca cb i j:Nat}(F:i<=g.fI ca cb)(I:j<=g.fJ ca cb):(g.X ca:Int)+i*bu (g.qh ca cb)+j*bu (g.fK ca cb)=g.fx ca cb i j/\(g.Y ca:Int)+i*aZ (g.qh ca cb)+j*aZ (g.fK ca cb)=g.fy ca cb i j:=by
 unfold G.fx G.fy
 have z:(i:Int)*bu (g.qh ca cb)=i*g.FJ ca cb/\(i:Int)*aZ (g.qh ca cb)=i*g.FK ca cb:=by
  rcases Nat.eq_zero_or_pos i with h|h
  .subst h;simp
  .obtain⟨k,u,_⟩:=G.Bj (g:=g) (a:=ca) (b:=cb) (by omega);rw[k,u];exact⟨rfl,rfl⟩
 have B:(j:Int)*bu (g.fK ca cb)=j*g.FL ca cb/\(j:Int)*aZ (g.fK ca cb)=j*g.FN ca cb:=by
  rcases Nat.eq_zero_or_pos j with h|h
  .subst h;simp
  .obtain⟨k,u,_⟩:=G.Bo (g:=g) (a:=ca) (b:=cb) (by omega);rw[k,u];exact⟨rfl,rfl⟩
 rw[z.1,z.2,B.1,B.2];exact⟨rfl,rfl⟩
theorem fieldPlace(w:World)(b gp mo mk:Nat)(g:G)(v:Int)(ca cb:Nat)(S T:Int×Int->Prop)(i j:Nat)(h:bA w b gp mo mk g v ca cb S T)(hi:i<=g.fI ca cb)(hj:j<=g.fJ ca cb):Calls Tryz.prog 141 #[.pointer (some ⟨b,0,none⟩),.int .i64 (i:Nat),.int .i64 (j:Nat)] w λe w'=>e=.returned (.tuple #[.int .i64 (g.fx ca cb i j),.int .i64 (g.fy ca cb i j)])/\Below w.heap.size w w':=by
 have ad:=h.ok;obtain⟨o1,o2,o3,o4⟩:=ad;obtain⟨l1,l2⟩:=G.sQ ⟨o1,o2,o3,o4⟩ h.cells.2 h.cells.1;obtain⟨k,u⟩:=Mv hi hj;obtain⟨k0,k1,k2,k3,k4,_⟩:=h.cell;have ai:=h.lt;have hX:=G.jw ⟨o1,o2,o3,o4⟩ ca;have hY:=G.iM h.cells.1;obtain⟨d,hd⟩:∃z,g.qh ca cb=z:=⟨_,rfl⟩;obtain⟨s,hs⟩:∃z,g.fK ca cb=z:=⟨_,rfl⟩;have ac:d<8:=by rw[<-hd];exact jE _ _
 have ag:s<8:=by rw[<-hs];exact jE _ _
 rw[hd]at k u k3;rw[hs]at k u k4;obtain⟨b1,b2,b3,b4⟩:=iY d;obtain⟨b5,b6,b7,b8⟩:=iY s;have U:=λw=>iC d ac w;have F:=λw=>iC s ag w;obtain⟨ax,L⟩:∃z,bu d=z:=⟨_,rfl⟩;obtain⟨ay,M⟩:∃z,aZ d=z:=⟨_,rfl⟩;obtain⟨bx,O⟩:∃z,bu s=z:=⟨_,rfl⟩;obtain⟨J,P⟩:∃z,aZ s=z:=⟨_,rfl⟩;rw[L,M]at U;rw[O,P]at F;rw[L]at k b1 b2;rw[M]at u b3 b4;rw[O]at k b5 b6;rw[P]at u b7 b8;have U:=hid U;have F:=hid F;have m1:=zQ (i:=i) (x:=ax) (by omega) (by omega) (by omega);have m2:=zQ (i:=i) (x:=ay) (by omega) (by omega) (by omega);have m3:=zQ (i:=j) (x:=bx) (by omega) (by omega) (by omega);have m4:=zQ (i:=j) (x:=J) (by omega) (by omega) (by omega);obtain⟨p1,hp1⟩:∃z,(i:Int)*ax=z:=⟨_,rfl⟩;obtain⟨p2,hp2⟩:∃z,(i:Int)*ay=z:=⟨_,rfl⟩;obtain⟨p3,Q⟩:∃z,(j:Int)*bx=z:=⟨_,rfl⟩;obtain⟨p4,R⟩:∃z,(j:Int)*J=z:=⟨_,rfl⟩;rw[hp1]at m1 k;rw[hp2]at m2 u;rw[Q]at m3 k;rw[R]at m4 u;obtain⟨al,am⟩:=m1;obtain⟨an,ao⟩:=m2;obtain⟨ap,aq⟩:=m3;obtain⟨ar,aw⟩:=m4
 have r1:IntKind.i64.wrap ((i:Int)*ax)=p1:=by rw[hp1];exact IntWalk.i64_in _ (by omega)
 have r2:IntKind.i64.wrap ((i:Int)*ay)=p2:=by rw[hp2];exact IntWalk.i64_in _ (by omega)
 have r3:IntKind.i64.wrap ((j:Int)*bx)=p3:=by rw[Q];exact IntWalk.i64_in _ (by omega)
 have r4:IntKind.i64.wrap ((j:Int)*J)=p4:=by rw[R];exact IntWalk.i64_in _ (by omega)
 rw[<-k,<-u];obtain⟨X,Z⟩:∃z,g.X ca=z:=⟨_,rfl⟩;obtain⟨Y,ab⟩:∃z,g.Y ca=z:=⟨_,rfl⟩;rw[Z]at hX k1⊢;rw[ab]at hY k2⊢;clear k u hp1 hp2 Q R L M O P hd hs Z ab h b1 b2 b3 b4 b5 b6 b7 b8;go_enter Tryz.func141,Tryz.ntmps141;go_wp2_with fail;(with_reducible refine(U.out _).mono ?_);rintro e w1 ⟨rfl,B⟩;have k1:=ae B k1;have k2:=ae B k2;have k4:=ae B k4;have l1:=B.size;go_wp2_with fail;(with_reducible refine(F.out _).mono ?_);rintro e w2 ⟨rfl,I⟩;have k1:=ae I k1;have k2:=ae I k2;have l2:=I.size;have HB:=aa B I;clear B I k0 k3 k4 U F;go_wp2_with fail;go_quiet (fail);go_wp2;go_ret2
 exact⟨rfl,by(repeat' (first|exact Below.refl _ _|assumption|apply aj|apply ah|apply af|(refine aa ?_ (by assumption))))⟩
end Go.Proofs.YtokhnobcincfjaaGreatDoor
