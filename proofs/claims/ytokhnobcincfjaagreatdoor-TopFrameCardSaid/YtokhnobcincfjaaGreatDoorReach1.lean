/- Lemmas of this claim: Reach1. -/
import Derived.Test.YtokhnobcincfjaaGreatDoorKNFr8
import Derived.Test.YtokhnobcincfjaaGreatDoorKNFr9
import Derived.Test.YtokhnobcincfjaaGreatDoorKNFr11
import Derived.Test.YtokhnobcincfjaaGreatDoorKNFr5
import Derived.Test.YtokhnobcincfjaaGreatDoorKNFr6
import Derived.Test.YtokhnobcincfjaaGreatDoorKNFr1
import Derived.Test.YtokhnobcincfjaaGreatDoorKNFr2
set_option linter.unusedVariables false
set_option linter.unusedSimpArgs false
set_option maxHeartbeats 1600000
namespace Go.Proofs.YtokhnobcincfjaaGreatDoor
open Go.RowKit Go.Sort FR
theorem reachSign (w : World) (n : Int) (hn : -1000000 ≤ n ∧ n ≤ 1000000) :
    Calls Tryz.prog 192 #[.int .i64 n] w fun e w'=>e=.returned (.int .i64 (sgn n))∧w=w':=by
 rcases sgn_cases n with ⟨h,e⟩ | ⟨h,e⟩ | ⟨h,e⟩ <;> rw [e]
 all_goals
  go_enter Tryz.func192,Tryz.ntmps192;go_wp2
  all_goals
   go_ret;refine ⟨ret_i ?_,rfl⟩
   first | rfl | omega
theorem dirN_first {x y:Int} {d:Nat} (hd:d<8) (h:dxN d=x∧dyN d=y):dirN x y=d:=by rw [←h.1,←h.2];exact dirN_step hd
theorem dirN_none {x y:Int} (h:∀d,d<8→¬(dxN d=x∧dyN d=y)):dirN x y=0:=by
 have h0:=h 0 (by decide);have h1:=h 1 (by decide);have h2:=h 2 (by decide);have h3:=h 3 (by decide)
 have h4:=h 4 (by decide);have h5:=h 5 (by decide);have h6:=h 6 (by decide);have h7:=h 7 (by decide)
 simp only [dxN,dyN] at h0 h1 h2 h3 h4 h5 h6 h7;unfold dirN
 repeat' split
 all_goals first | rfl | omega
theorem reachDirection (w : World) (x y : Int) :
    Calls Tryz.prog 191 #[.int .i64 x,.int .i64 y] w fun e w'=>e=.returned (.int .i64 (dirN x y:Nat))∧Below w.heap.size w w':=by
 go_enter Tryz.func191,Tryz.ntmps191;go_wp2_with fail
 go_loopw [8] (fun kv wr=>∃d:Nat,d≤8∧kv=.int .i64 d∧(∀d',d'<d→¬(dxN d'=x∧dyN d'=y))∧Below w.heap.size w wr) (fun kv _=>8-(intOf kv).toNat)
 case atStart=>exact ⟨0,by omega,rfl,fun d' h=>by omega,Below.refl _ _⟩
 case round=>
  obtain ⟨d,hd,rfl,hno,HB⟩:=hrel;have Hno:=Lib.hid hno;clear hno
  by_cases hlt:d<8
  ·have cS:=step_one d hlt wr
   obtain ⟨ax,hax⟩:∃z,dxN d=z:=⟨_,rfl⟩;obtain ⟨ay,hay⟩:∃z,dyN d=z:=⟨_,rfl⟩;rw [hax,hay] at cS;have cS:=Lib.hid cS;have Hax:=Lib.hid (And.intro hax hay);clear hax hay;go_wp2_with fail
   (with_reducible refine cS.out.mono ?_)
   rintro e w2 ⟨rfl,hb2⟩;have HB2:=bel_trans HB hb2;clear cS HB hb2
   by_cases h1:ax=x
   ·by_cases h2:ay=y
    ·have e:=Lib.hid (dirN_first hlt ⟨Hax.out.1.trans h1,Hax.out.2.trans h2⟩)
     subst h1;subst h2;go_wp2;go_ret
     exact ⟨by rw [e.out];rfl,HB2⟩
    ·have h2':(ay == y)=false:=by rw [beq_eq_false_iff_ne];exact h2
     have hn:∀d',d'<d+1→¬(dxN d'=x∧dyN d'=y):=fun d' hd'=>by
      by_cases e:d'=d
      ·subst e;rw [Hax.out.2];exact fun z=>h2 z.2
      ·exact Hno.out d' (by omega)
     have Hn:=Lib.hid hn;clear hn h2;subst h1;go_wp2;go_roundw
     case rel=>first | exact ⟨d+1,by omega,by go_num,Hn.out,HB2⟩ | ((repeat apply Exists.intro);exact ⟨⟨d+1,by omega,by go_num,Hn.out,HB2⟩,rfl⟩)
     case measure=>simp [intOf];omega
   ·have h1':(ax == x)=false:=by rw [beq_eq_false_iff_ne];exact h1
    have hn:∀d',d'<d+1→¬(dxN d'=x∧dyN d'=y):=fun d' hd'=>by
     by_cases e:d'=d
     ·subst e;rw [Hax.out.1];exact fun z=>h1 z.1
     ·exact Hno.out d' (by omega)
    have Hn:=Lib.hid hn;clear hn h1;go_wp2;go_roundw
    case rel=>first | exact ⟨d+1,by omega,by go_num,Hn.out,HB2⟩ | ((repeat apply Exists.intro);exact ⟨⟨d+1,by omega,by go_num,Hn.out,HB2⟩,rfl⟩)
    case measure=>simp [intOf];omega
  ·obtain rfl:d=8:=by omega
   have e:=Lib.hid (dirN_none Hno.out);go_wp2;go_ret
   exact ⟨by rw [e.out];rfl,HB⟩
structure FieldIn (w:World) (b gp mo mk:Nat) (g:G) (v:Int) (ca cb:Nat) (S T:Int×Int→Prop):Prop where
 hb:w.heap[b]? = some (.cells #[.pointer (some ⟨gp,0,none⟩),.int .i64 (g.X ca:Nat),.int .i64 (g.Y ca:Nat),.int .i64 (g.fdg ca cb:Nat),.int .i64 (g.fst_ ca cb:Nat),.int .i64 (g.fI ca cb:Nat),.int .i64 (g.fJ ca cb:Nat),.map (some mo),.map (some mk)] 236 (0,0))
 grid:GridAt w gp g v
 on:SetAt w mo S
 bk:SetAt w mk T
 ne:b≠mo∧b≠mk∧gp≠mo∧gp≠mk∧mo≠mk
 cells:ca<g.n∧cb<g.n
namespace FieldIn
variable {w w':World} {b gp mo mk:Nat} {g:G} {v:Int} {ca cb:Nat} {S T:Int×Int→Prop}
theorem lt (h:FieldIn w b gp mo mk g v ca cb S T):b<w.heap.size:=(Array.getElem?_eq_some_iff.1 h.hb).1
theorem kept {U:List Nat} (h:FieldIn w b gp mo mk g v ca cb S T) (hk:Kept U w w') (hS:b∉U∧gp∉U∧mo∉U∧mk∉U):FieldIn w' b gp mo mk g v ca cb S T:=
 ⟨(hk.block b h.lt hS.1).trans h.hb,h.grid.keptS hk hS.2.1,h.on.kept hk hS.2.2.1,h.bk.kept hk hS.2.2.2,h.ne,h.cells⟩
theorem below (h:FieldIn w b gp mo mk g v ca cb S T) (hb:Below w.heap.size w w'):FieldIn w' b gp mo mk g v ca cb S T:=h.kept (U:=[]) (.of_below hb) (by simp)
theorem cell (h : FieldIn w b gp mo mk g v ca cb S T) : w.cell? ⟨b, 0, none⟩ = some (.pointer (some ⟨gp, 0, none⟩)) ∧ w.cell? ⟨b, 1, none⟩ = some (.int .i64 (g.X ca : Nat)) ∧ w.cell? ⟨b, 2, none⟩ = some (.int .i64 (g.Y ca : Nat)) ∧
    w.cell? ⟨b,3,none⟩=some (.int .i64 (g.fdg ca cb:Nat))∧w.cell? ⟨b,4,none⟩=some (.int .i64 (g.fst_ ca cb:Nat))∧w.cell? ⟨b,5,none⟩=some (.int .i64 (g.fI ca cb:Nat))∧w.cell? ⟨b,6,none⟩=some (.int .i64 (g.fJ ca cb:Nat)) ∧
    w.cell? ⟨b,7,none⟩=some (.map (some mo))∧w.cell? ⟨b,8,none⟩=some (.map (some mk)):=by
 simp [World.cell?,h.hb]
theorem ok (h:FieldIn w b gp mo mk g v ca cb S T):g.ok:=h.grid.1
end FieldIn
theorem mul_in {i:Nat} {x:Int} (hi:i≤15) (h1:-1≤x) (h2:x≤1):-15≤(i:Int)*x∧(i:Int)*x≤15:=by
 rcases (show x = -1∨x=0∨x=1 by omega) with rfl | rfl | rfl <;> omega
theorem place_eq {g : G} {ca cb i j : Nat} (hi : i ≤ g.fI ca cb) (hj : j ≤ g.fJ ca cb) :
    (g.X ca:Int)+i*dxN (g.fdg ca cb)+j*dxN (g.fst_ ca cb)=g.fx ca cb i j∧(g.Y ca:Int)+i*dyN (g.fdg ca cb)+j*dyN (g.fst_ ca cb)=g.fy ca cb i j:=by
 unfold G.fx G.fy
 have e1:(i:Int)*dxN (g.fdg ca cb)=i*g.fax ca cb∧(i:Int)*dyN (g.fdg ca cb)=i*g.fay ca cb:=by
  rcases Nat.eq_zero_or_pos i with h | h
  ·subst h;simp
  ·obtain ⟨x1,x2,_⟩:=G.fdg_step (g:=g) (a:=ca) (b:=cb) (by omega);rw [x1,x2];exact ⟨rfl,rfl⟩
 have e2:(j:Int)*dxN (g.fst_ ca cb)=j*g.fbx ca cb∧(j:Int)*dyN (g.fst_ ca cb)=j*g.fby ca cb:=by
  rcases Nat.eq_zero_or_pos j with h | h
  ·subst h;simp
  ·obtain ⟨x1,x2,_⟩:=G.fst_step (g:=g) (a:=ca) (b:=cb) (by omega);rw [x1,x2];exact ⟨rfl,rfl⟩
 rw [e1.1,e1.2,e2.1,e2.2];exact ⟨rfl,rfl⟩
theorem fieldPlace (w : World) (b gp mo mk : Nat) (g : G) (v : Int) (ca cb : Nat) (S T : Int × Int → Prop) (i j : Nat) (h : FieldIn w b gp mo mk g v ca cb S T) (hi : i ≤ g.fI ca cb) (hj : j ≤ g.fJ ca cb) :
    Calls Tryz.prog 141 #[.pointer (some ⟨b,0,none⟩),.int .i64 (i:Nat),.int .i64 (j:Nat)] w fun e w'=>e=.returned (.tuple #[.int .i64 (g.fx ca cb i j),.int .i64 (g.fy ca cb i j)])∧Below w.heap.size w w':=by
 have hok:=h.ok;obtain ⟨o1,o2,o3,o4⟩:=hok;obtain ⟨l1,l2⟩:=G.fI_le ⟨o1,o2,o3,o4⟩ h.cells.2 h.cells.1;obtain ⟨pe1,pe2⟩:=place_eq hi hj;obtain ⟨k0,k1,k2,k3,k4,_⟩:=h.cell;have hbl:=h.lt;have hX:=G.X_lt ⟨o1,o2,o3,o4⟩ ca;have hY:=G.Y_lt h.cells.1;obtain ⟨d,hd⟩:∃z,g.fdg ca cb=z:=⟨_,rfl⟩;obtain ⟨s,hs⟩:∃z,g.fst_ ca cb=z:=⟨_,rfl⟩
 have hd8:d<8:=by rw [←hd];exact dirN_lt _ _
 have hs8:s<8:=by rw [←hs];exact dirN_lt _ _
 rw [hd] at pe1 pe2 k3;rw [hs] at pe1 pe2 k4;obtain ⟨b1,b2,b3,b4⟩:=dN_abs d;obtain ⟨b5,b6,b7,b8⟩:=dN_abs s
 have cS:=fun w=>step_one d hd8 w
 have cS2:=fun w=>step_one s hs8 w
 obtain ⟨ax,hax⟩:∃z,dxN d=z:=⟨_,rfl⟩;obtain ⟨ay,hay⟩:∃z,dyN d=z:=⟨_,rfl⟩;obtain ⟨bx,hbx⟩:∃z,dxN s=z:=⟨_,rfl⟩;obtain ⟨by_,hby⟩:∃z,dyN s=z:=⟨_,rfl⟩;rw [hax,hay] at cS;rw [hbx,hby] at cS2;rw [hax] at pe1 b1 b2;rw [hay] at pe2 b3 b4;rw [hbx] at pe1 b5 b6;rw [hby] at pe2 b7 b8;have cS:=Lib.hid cS;have cS2:=Lib.hid cS2
 have m1:=mul_in (i:=i) (x:=ax) (by omega) (by omega) (by omega)
 have m2:=mul_in (i:=i) (x:=ay) (by omega) (by omega) (by omega)
 have m3:=mul_in (i:=j) (x:=bx) (by omega) (by omega) (by omega)
 have m4:=mul_in (i:=j) (x:=by_) (by omega) (by omega) (by omega)
 obtain ⟨p1,hp1⟩:∃z,(i:Int)*ax=z:=⟨_,rfl⟩;obtain ⟨p2,hp2⟩:∃z,(i:Int)*ay=z:=⟨_,rfl⟩;obtain ⟨p3,hp3⟩:∃z,(j:Int)*bx=z:=⟨_,rfl⟩;obtain ⟨p4,hp4⟩:∃z,(j:Int)*by_=z:=⟨_,rfl⟩;rw [hp1] at m1 pe1;rw [hp2] at m2 pe2;rw [hp3] at m3 pe1;rw [hp4] at m4 pe2;obtain ⟨m11,m12⟩:=m1;obtain ⟨m21,m22⟩:=m2;obtain ⟨m31,m32⟩:=m3;obtain ⟨m41,m42⟩:=m4
 have r1:IntKind.i64.wrap ((i:Int)*ax)=p1:=by rw [hp1];exact IntWalk.i64_in _ (by omega)
 have r2:IntKind.i64.wrap ((i:Int)*ay)=p2:=by rw [hp2];exact IntWalk.i64_in _ (by omega)
 have r3:IntKind.i64.wrap ((j:Int)*bx)=p3:=by rw [hp3];exact IntWalk.i64_in _ (by omega)
 have r4:IntKind.i64.wrap ((j:Int)*by_)=p4:=by rw [hp4];exact IntWalk.i64_in _ (by omega)
 rw [←pe1,←pe2];obtain ⟨X,hXX⟩:∃z,g.X ca=z:=⟨_,rfl⟩;obtain ⟨Y,hYY⟩:∃z,g.Y ca=z:=⟨_,rfl⟩
 rw [hXX] at hX k1 ⊢
 rw [hYY] at hY k2 ⊢
 clear pe1 pe2 hp1 hp2 hp3 hp4 hax hay hbx hby hd hs hXX hYY h b1 b2 b3 b4 b5 b6 b7 b8;go_enter Tryz.func141,Tryz.ntmps141;go_wp2_with fail
 (with_reducible refine (cS.out _).mono ?_)
 rintro e w1 ⟨rfl,hb1⟩;have k1:=bel_cell hb1 k1;have k2:=bel_cell hb1 k2;have k4:=bel_cell hb1 k4;have l1:=hb1.size;go_wp2_with fail
 (with_reducible refine (cS2.out _).mono ?_)
 rintro e w2 ⟨rfl,hb2⟩;have k1:=bel_cell hb2 k1;have k2:=bel_cell hb2 k2;have l2:=hb2.size;have HB:=bel_trans hb1 hb2;clear hb1 hb2 k0 k3 k4 cS cS2;go_wp2_with fail;go_quiet (fail);go_wp2;go_ret2
 exact ⟨rfl,by (repeat' (first | exact Below.refl _ _ | assumption | apply bel_drewN | apply bel_drew | apply bel_alloc | (refine bel_trans ?_ (by assumption))))⟩
end Go.Proofs.YtokhnobcincfjaaGreatDoor
