/- Lemmas of this claim: Open, TopMoves, CostSays, CornerSays, AsGrid, GridSays, Clear2, Clear3, TabF, Fresh. -/
import Derived.Test.YtokhnobcincfjaaGreatDoorKNFr4
import Derived.Deep.Grids
import Derived.ProofKit
import Derived.OpenShut
import Derived.Lib.SmallJoins
import Derived.Deep.Cut
import Derived.Test.YtokhnobcincfjaaGreatDoorRows
import Derived.Deep.DeepCutAuto
import Derived.Deep.RegionWith
import Derived.BigRegion
import Derived.Test.YtokhnobcincfjaaGreatDoorKNFr5
import Derived.Maps.AppendAt
set_option linter.unusedVariables false
set_option linter.unusedSimpArgs false
set_option maxHeartbeats 1600000
set_option maxRecDepth 100000
namespace Go.Proofs.YtokhnobcincfjaaGreatDoor
open Go.RowKit Go.Sort FR
open Go.ChangeShapes Go.WideShapes Go.ChangeAt Go.Joins
structure SlI (W:World) (A:Option Addr) (n:Nat) (f:Nat→Int):Prop where
 ints:Ints W A n f
 len:n≤9223372036854775807
 wf:∀k,-9223372036854775808≤f k∧f k≤9223372036854775807
def Bools (w:World) (a:Option Addr) (n:Nat) (f:Nat→Bool):Prop:=0<n→∃ad,a=some ad∧ad.block<w.heap.size∧∀k,k<n→w.cell? (ad.add k)=some (.bool (f k))
structure SlB (W:World) (A:Option Addr) (n:Nat) (f:Nat→Bool):Prop where
 bools:Bools W A n f
 len:n≤9223372036854775807
theorem wf_bd {x:Int} (h:(Lit.int .i64 x).wf=true):-9223372036854775808≤x∧x≤9223372036854775807:=by
 have h1:IntKind.i64.min = -9223372036854775808:=by decide
 have h2:IntKind.i64.max=9223372036854775807:=by decide
 simp [Lit.wf,h1,h2] at h;omega
section
variable {H:Type} {enc:TypeId×Value→H} {w:World} {base:Nat} {held:Bool}
theorem sli_of {fuel : Nat} {cs : List Value} {x : DataW H × List MemPlace} (h : DataW.trod enc Tryz.prog w base (fun _ => true) held fuel 22 cs = some x) :
    ∃A n m f,cs=[.slice A n m]∧SlI w A n f:=by
 rcases open_ints Tryz.underlying22 Tryz.underlying3 (by kernel_rfl) h with ⟨rfl,_⟩ | ⟨a,len,cap,zs,rfl,_,hl,hm,hz,_,hc,hwf⟩
 ·exact ⟨none,0,0,fun _=>0,rfl,fun h=>absurd h (by omega),by omega,fun _=>by omega⟩
 ·refine ⟨some a,len,cap,fun k=>zs.getD k 0,rfl,fun hp=>⟨a,rfl,?_,fun k hk=>?_⟩,?_,fun k=>?_⟩
  ·have:=hc 0 (by simp at hz;omega)
   have:=block_lt_of_cell this
   rwa [add_block] at this
  ·exact hc k (by simp at hz;omega)
  ·unfold maxLen at hm;omega
  ·by_cases hk:k<zs.length
   ·have e:zs.getD k 0=zs[k]:=by simp [List.getD,hk]
    simp only [e];exact wf_bd (hwf _ (List.getElem_mem hk))
   ·have e:zs.getD k 0=0:=by simp [List.getD,List.getElem?_eq_none (by omega:zs.length≤k)]
    simp only [e];omega
variable {r:Reach} {b0:Nat} {v:Value} {d:DataW H} {p:List MemPlace}
theorem cellsPlot:Tryz.prog.cellsOf 24=3:=by kernel_rfl
theorem open_plot (hv:Value.okWide Tryz.prog w r b0 24 v) (h:DataW.Trod enc Tryz.prog w base (fun _=>true) held 24 v d p):∃a b A n m f,v=.agg #[.int .i64 a,.int .i64 b,.slice A n m]∧SlI w A n f:=by
 obtain ⟨v0,v1,v2,y0,y1,y2,k,rfl,_,_,h0,h1,h2⟩:=open_agg3 Tryz.underlying24 (by kernel_rfl) cellsPlot hv h
 obtain ⟨a,e0,_,_⟩:=DataW.trod_int Tryz.underlying3 h0;obtain ⟨b,e1,_,_⟩:=DataW.trod_int Tryz.underlying3 h1;obtain ⟨A,n,m,f,e2,hs⟩:=sli_of h2;simp at e0 e1 e2;subst e0 e1 e2;exact ⟨a,b,A,n,m,f,rfl,hs⟩
end
end Go.Proofs.YtokhnobcincfjaaGreatDoor
namespace Go.Proofs.YtokhnobcincfjaaGreatDoor
open Go.RowKit Go.Sort FR
theorem upTo_get {p:Nat→Bool} {n k:Nat} (h:k<(upTo p n).length):∃d:Nat,(upTo p n).getD k 0=(d:Int)∧d<n∧p d=true:=by
 have e:(upTo p n).getD k 0=(upTo p n)[k]:=by simp [List.getD,h]
 rw [e];have hm:(upTo p n)[k]∈upTo p n:=List.getElem_mem h
 generalize (upTo p n)[k]=z at hm ⊢
 unfold upTo at hm;rw [List.mem_map] at hm;obtain ⟨d,hd,rfl⟩:=hm;rw [List.mem_filter,List.mem_range] at hd;exact ⟨d,rfl,hd.1,hd.2⟩
theorem upTo_has {p:Nat→Bool} {n d:Nat} (hd:d<n) (hp:p d=true):∃k,k<(upTo p n).length∧(upTo p n).getD k 0=(d:Int):=by
 have hm:(d:Int)∈upTo p n:=by
  unfold upTo;rw [List.mem_map];exact ⟨d,by rw [List.mem_filter,List.mem_range];exact ⟨hd,hp⟩,rfl⟩
 obtain ⟨k,hk,e⟩:=List.getElem_of_mem hm
 exact ⟨k,hk,by simp [List.getD,hk,e]⟩
theorem to_eq {g:G} {c d:Nat} (h:g.mayC c d=true):g.toI c d=(g.to c d:Nat)∧g.to c d<g.n:=by
 have hl:=G.mayC_lt h;refine ⟨?_,hl⟩;obtain ⟨a,b,e⟩:=G.mayC_to h;unfold G.to;unfold G.mayC at h;have hm:=(G.may_iff.1 h).2.1;obtain ⟨⟨h1,h2,h3,h4⟩,_⟩:=G.op_iff.1 hm;have:=G.to_place (g:=g) (c:=c) (d:=d) h1 h2 h3
 have hnn:0≤g.toI c d:=by
  unfold G.toI;have e:=G.XY g c
  have e':(c:Int)=(g.Y c:Int)*g.w+g.X c:=by rw [←Int.natCast_mul,←Int.natCast_add,e]
  have q:0≤((g.Y c:Int)+dyN d)*g.w:=Int.mul_nonneg h3 (by omega)
  rw [Int.add_mul] at q;omega
 omega
theorem May_eq (w : World) (p : Nat) (g : G) (v x y : Int) (d : Nat) (t : Bool) (h : GridAt w p g v) (hd : d < 8) (hx : inP x) (hy : inP y) (e : g.may x y d = t) :
    Calls Tryz.prog 153 #[.pointer (some ⟨p,0,none⟩),.int .i64 x,.int .i64 y,.int .i64 (d:Nat)] w fun e w'=>e=.returned (.bool t)∧Below w.heap.size w w':=by
 rw [←e];exact gridMay w p g v x y d h hd hx hy
theorem To_eq (w : World) (p : Nat) (g : G) (v : Int) (c d : Nat) (z : Int) (h : GridAt w p g v) (hc : c < g.n) (hd : d < 8) (e : g.toI c d = z) :
    Calls Tryz.prog 93 #[.pointer (some ⟨p,0,none⟩),.int .i64 (c:Nat),.int .i64 (d:Nat)] w fun e w'=>e=.returned (.int .i64 z)∧Below w.heap.size w w':=by
 rw [←e];exact gridTo w p g v c d h hc hd
theorem Ints.cell {w w':World} {ad:Addr} {n:Nat} {f:Nat→Int} (h:Ints w (some ad) n f) (hb:Below w.heap.size w w') {k:Nat} (hk:k<n):w'.cell? (ad.add k)=some (.int .i64 (f k)):=by
 obtain ⟨ad',e,h2,h3⟩:=h (by omega)
 cases e
 exact (hb.cell (p:=ad.add k) (by rw [add_block];exact h2)).trans (h3 k hk)
theorem Ints.addr {w:World} {A:Option Addr} {n:Nat} {f:Nat→Int} (h:Ints w A n f) (hn:0<n):∃ad,A=some ad:=by
 obtain ⟨ad,e,_⟩:=h hn;exact ⟨ad,e⟩
theorem idx_run {A:Option Addr} {ad:Addr} {n m k:Nat} (h:A=some ad) (hk:k<n) (wx:World):(Instr.indexAt 22 (.slice A n m) (.int .i64 (k:Nat))).run Tryz.prog wx=.ok (.pointer (some (ad.add k))) wx:=by
 subst h
 have q:(k:Int)<(n:Int):=by omega
 go_simp
theorem Bools.cell {w w':World} {ad:Addr} {n:Nat} {f:Nat→Bool} (h:Bools w (some ad) n f) (hb:Below w.heap.size w w') {k:Nat} (hk:k<n):w'.cell? (ad.add k)=some (.bool (f k)):=by
 obtain ⟨ad',e,h2,h3⟩:=h (by omega)
 cases e
 exact (hb.cell (p:=ad.add k) (by rw [add_block];exact h2)).trans (h3 k hk)
theorem Bools.addr {w:World} {A:Option Addr} {n:Nat} {f:Nat→Bool} (h:Bools w A n f) (hn:0<n):∃ad,A=some ad:=by
 obtain ⟨ad,e,_⟩:=h hn;exact ⟨ad,e⟩
def TabNew (W0:World) (t p:Nat) (g:G) (v:Int) (P:Nat→Nat→Prop) (w:World):Prop:=∃f,TabAt w t p f∧GridAt w p g v∧(∀c d,P c d→f c d=clrC g c d)∧Below W0.heap.size W0 w
theorem zero_row (p:Nat):(Tryz.zeroCells198.setIfInBounds 0 (.pointer (some ⟨p,0,none⟩)))=rowOf (tcell p (fun _ _=>0)) 2049:=by kernel_rfl
def TabMade (w:World) (g:G) (v:Int) (e:Ending) (w':World):Prop:=∃t p,e=.returned (.pointer (some ⟨t,0,none⟩))∧w.heap.size≤p∧p<t∧TabNew w t p g v (fun c d=>c<g.n∧d<8) w'
theorem tabNew (w : World) (p0 : Nat) (g : G) (v : Int) (hG : GridAt w p0 g v) :
    Calls Tryz.prog 81 #[.pointer (some ⟨p0,0,none⟩)] w (TabMade w g v):=by
 have hp0:=Lib.hid hG.lt;have hn:=G.n_le hG.1;go_enter Tryz.func81,Tryz.ntmps81;go_wp2_with fail
 (with_reducible refine (gridCopy _ p0 g v hG).mono ?_)
 rintro e w1 ⟨rfl,hC,hb1,hz1⟩;obtain ⟨p,hpw⟩:∃p,w.heap.size=p:=⟨_,rfl⟩
 rw [hpw] at hC ⊢
 have Hz1:=Lib.hid hz1;have Hpw:=Lib.hid hpw;clear hz1 hpw
 go_upto_region 2 with (fail)
 obtain ⟨t,ht⟩:∃t,w1.heap.size=t:=⟨_,rfl⟩;rw [ht];have hpw:=Hpw.out
 have htz:t=p+1:=by have:=Hz1.out;omega
 have hP:=Lib.hid (show w.heap.size≤p by omega)
 refine wp_name ?_;intro W2 hW2
 have hT2:TabAt W2 t p (fun _ _=>0):=by rw [hW2,←ht];unfold TabAt;rw [heap_alloc_new,zero_row]
 have hC2:GridAt W2 p g v:=by rw [hW2];exact hC.below (Below.alloc (Below.refl _ _) (Nat.le_refl _) _) hC.lt
 have HB2:Below w.heap.size w W2:=by rw [hW2];exact bel_alloc hb1
 have hstart:TabNew w t p g v (fun c d=>c<g.n∧d<0) W2:=⟨_,hT2,hC2,fun c d h=>by omega,HB2⟩
 have Htz:=Lib.hid htz;clear hW2 hT2 hC2 HB2 hC hb1 ht hpw htz;go_wp2_with fail
 go_loopw [10] (fun i wr=>∃d:Nat,d≤8∧i=.int .i64 d∧TabNew w t p g v (fun c' d'=>c'<g.n∧d'<d) wr) (fun i _=>8-(intOf i).toNat)
 case atStart=>exact ⟨0,by omega,rfl,hstart⟩
 case round=>
  obtain ⟨d,hd,rfl,f,hT,hC,hf,HB⟩:=hrel;clear hstart
  by_cases hlt:d<8
  ·go_wp2_with fail
   (with_reducible refine (gridCellsN _ p0 g v (hG.below HB hp0.out)).mono ?_)
   rintro e w3 ⟨rfl,hb3⟩
   have hin:TabNew w t p g v (fun c' d'=>c'<g.n∧d'<d∨c'<0∧d'=d) w3:=⟨f,hT.below hb3 hT.lt,hC.below hb3 hC.lt,fun c' d' h=>hf c' d' (by omega),bel_trans HB hb3⟩
   clear hT hC hf HB hb3;go_wp2_with fail;obtain ⟨wo,rfl⟩:∃wo:World,wo=wr:=⟨_,rfl⟩
   go_loopw [15] (fun i wr=>∃c:Nat,c≤g.n∧i=.int .i64 c∧TabNew w t p g v (fun c' d'=>c'<g.n∧d'<d∨c'<c∧d'=d) wr) (fun i _=>g.n-(intOf i).toNat)
   case atStart=>exact ⟨0,by omega,rfl,hin⟩
   case round=>
    obtain ⟨c,hc,rfl,f,hT,hC,hf,HB⟩:=hrel;clear hin
    by_cases hlc:c<g.n
    ·have htp:t≠p:=by have:=Htz.out;omega
     go_wp2_with fail
     (with_reducible refine (tabCount _ t p f g v c d hT hC htp hlc hlt).mono ?_)
     rintro e w4 ⟨rfl,hT4,hC4,hk4⟩
     have HB4:=Kept.below HB hk4 HB.size (by simp;have:=Htz.out;have:=hP.out;omega)
     clear htp hT hC hk4;go_wp2;go_roundw
     case rel=>exact ⟨c+1,by omega,by go_num,_,hT4,hC4,fun c' d' h=>by
      unfold fset
      by_cases e:c'=c∧d'=d
      ·obtain ⟨rfl,rfl⟩:=e;rw [if_pos ⟨rfl,rfl⟩]
      ·rw [if_neg e];exact hf c' d' (by omega),HB4⟩
     case measure=>simp [intOf];omega
    ·obtain rfl:c=g.n:=by omega
     go_wp2;go_roundw
     case rel=>exact ⟨d+1,by omega,by go_num,f,hT,hC,fun c' d' h=>hf c' d' (by omega),HB⟩
     case measure=>simp [intOf];omega
  ·obtain rfl:d=8:=by omega
   go_wp2;go_ret
   exact ⟨t,p,rfl,hP.out,by have:=Htz.out;omega,f,hT,hC,hf,HB⟩
def Recount (g:G) (f f':Nat→Nat→Int):Prop:=∀c d,f' c d=f c d∨f' c d=clrC g c d
theorem Recount.refl (g:G) (f:Nat→Nat→Int):Recount g f f:=fun _ _=>.inl rfl
theorem Recount.set {g:G} {f f':Nat→Nat→Int} (h:Recount g f f') (c d:Nat):Recount g f (fset f' c d (clrC g c d)):=by
 intro c' d';unfold fset
 by_cases e:c'=c∧d'=d
 ·obtain ⟨rfl,rfl⟩:=e;rw [if_pos ⟨rfl,rfl⟩];exact .inr rfl
 ·rw [if_neg e];exact h c' d'
theorem Recount.trans {g:G} {f f' f'':Nat→Nat→Int} (h:Recount g f f') (k:Recount g f' f''):Recount g f f'':=by
 intro c d
 rcases k c d with e | e
 ·rw [e];exact h c d
 ·exact .inr e
theorem Recount.keep {g:G} {f f':Nat→Nat→Int} (h:Recount g f f') {c d:Nat} (e:f c d=clrC g c d):f' c d=clrC g c d:=by
 rcases h c d with h | h
 ·rw [h,e]
 ·exact h
def Behind (g:G) (x y:Int) (d c k:Nat):Prop:=c<g.n∧(g.X c:Int)=x-k*dxN d∧(g.Y c:Int)=y-k*dyN d
def inG (g:G) (x y:Int):Prop:=0≤x∧x<g.w∧0≤y∧y<g.h
def Full (g:G) (f:Nat→Nat→Int):Prop:=∀c d,c<g.n→d<8→f c d=clrC g c d
def Vis (i j k i' j' k':Nat):Prop:=i'<3∧j'<3∧k'<8∧(i'<i∨(i'=i∧(j'<j∨(j'=j∧k'<k))))
def SetR (W0:World) (t p:Nat) (g':G) (v':Int) (f:Nat→Nat→Int) (x y:Int) (i j k:Nat) (w:World):Prop:=
 ∃f',TabAt w t p f'∧GridAt w p g' v'∧Recount g' f f'∧(∀i' j' k',Vis i j k i' j' k'→inG g' (x-1+j') (y-1+i')→∀c m:Nat,Behind g' (x-1+j') (y-1+i') k' c m→f' c k'=clrC g' c k')∧Kept [t,p] W0 w
theorem SetR.mono {W0:World} {t p:Nat} {g':G} {v':Int} {f:Nat→Nat→Int} {x y:Int} {i j k i2 j2 k2:Nat} {w:World} (h:SetR W0 t p g' v' f x y i j k w) (hv:∀i' j' k',Vis i2 j2 k2 i' j' k'→Vis i j k i' j' k'):SetR W0 t p g' v' f x y i2 j2 k2 w:=by
 obtain ⟨f',h1,h2,h3,h4,h5⟩:=h
 exact ⟨f',h1,h2,h3,fun i' j' k' hvv=>h4 i' j' k' (hv _ _ _ hvv),h5⟩
def TabFull (w:World) (t p:Nat) (g:G) (v:Int):Prop:=∃f,TabAt w t p f∧GridAt w p g v∧Full g f
theorem TabFull.kept {S:List Nat} {w w':World} {t p:Nat} {g:G} {v:Int} (h:TabFull w t p g v) (hk:Kept S w w') (ht:t∉S) (hp:p∉S):TabFull w' t p g v:=by
 obtain ⟨f,h1,h2,h3⟩:=h;exact ⟨f,h1.kept hk ht,h2.kept hk hp,h3⟩
theorem TabFull.below {w w':World} {t p:Nat} {g:G} {v:Int} (h:TabFull w t p g v) (hb:Below w.heap.size w w'):TabFull w' t p g v:=h.kept (S:=[]) (.of_below hb) (by simp) (by simp)
theorem tabNew_full (w : World) (p0 : Nat) (g : G) (v : Int) (hG : GridAt w p0 g v) :
    Calls Tryz.prog 81 #[.pointer (some ⟨p0,0,none⟩)] w fun e w'=>∃t p,e=.returned (.pointer (some ⟨t,0,none⟩))∧w.heap.size≤p∧p<t∧TabFull w' t p g v∧Below w.heap.size w w':=
 (tabNew w p0 g v hG).mono fun _ _ ⟨t,p,h1,h2,h3,f,h4,h5,h6,h7⟩=>⟨t,p,h1,h2,h3,⟨f,h4,h5,fun c d hc hd=>h6 c d ⟨hc,hd⟩⟩,h7⟩
theorem TabFull.lt {w:World} {t p:Nat} {g:G} {v:Int} (h:TabFull w t p g v):t<w.heap.size∧p<w.heap.size:=by
 obtain ⟨f,h1,h2,_⟩:=h;exact ⟨h1.lt,h2.lt⟩
theorem OwnI.intsN {w:World} {B:Nat} {v:Value} {zs:List Int} (h:OwnI w B v zs):∃A m,v=.slice A zs.length m∧Ints w A zs.length (fun k=>zs.getD k 0)∧∀ad,A=some ad→B≤ad.block:=by
 rcases h.2 with ⟨rfl,hn⟩ | ⟨g,cap,cur,rfl,hg,hh,hc,hm,hs,ht⟩
 ·rw [hn];exact ⟨none,0,rfl,fun h=>absurd h (by omega),fun ad h=>by cases h⟩
 ·refine ⟨_,cap,rfl,fun _=>⟨⟨g,0,none⟩,rfl,(Array.getElem?_eq_some_iff.1 hh).1,fun k hk=>?_⟩,fun ad h=>by injection h with h;rw [←h];exact hg⟩
  refine World.ownsRow.cells h (g:=g) rfl k _ ?_;simp [List.getD,hk]
def RetInts2N (w:World) (zs:List Int) (e:Ending) (w':World):Prop:=∃A m,e=.returned (.tuple #[.slice A zs.length m,.nilIface])∧Ints w' A zs.length (fun k=>zs.getD k 0)∧(∀ad,A=some ad→w.heap.size≤ad.block)∧Below w.heap.size w w'
theorem ret_ints2N {w w':World} {v:Value} {zs:List Int} (h:OwnI w' w.heap.size v zs) (hb:Below w.heap.size w w'):RetInts2N w zs (.returned (.tuple #[v,.nilIface])) w':=by
 obtain ⟨A,m,rfl,hi,hf⟩:=h.intsN;exact ⟨A,m,rfl,hi,hf,hb⟩
theorem wpList_append_int2 {ops : Array Oper} {rest : List Oper} {o : Oper} {a : Act} {Q : Exit → Act → World → Prop} (w : World) (hgd : o.guard = none) (s x : Operand)
    (ho:o.op=.call { callee:=.builtin .append,args:=#[s,x],argTypes:=#[22,22] })
    (B:Nat) (v:Value) (zs:List Int) (z:Int) (hs:a.eval s=v) (hown:OwnI w B v zs) (ad:Addr) (hx:a.eval x=.slice (some ad) 1 1) (hc:w.cell? ad=some (.int .i64 z))
    (hl:zs.length<1099511627776) (hB:B≤w.heap.size)
    (h:∀v' w',OwnI w' B v' (zs ++ [z])→w.grownBy w' v.ownBlock→(v'.ownBlock=v.ownBlock∨v'.ownBlock=some w.heap.size)→wpList Tryz.prog ops Q rest (a.put o.dst v') w'):wpList Tryz.prog ops Q (o :: rest) a w:=by
 obtain ⟨i0,hi,hz0,hz1,hz2⟩:=info_parts int_info
 refine wpList_append_own_at w hgd s x 22 ho B 3 i0 (.int .i64 0) 1 8 Tryz.underlying22 hi hz0 hz1 hz2 rfl (by decide) v zs.length (zs.map (Value.int .i64)) hs hown ad 1 1 [.int .i64 z] hx rfl ?_ ?_ ?_ ?_ hB ?_
 ·intro j u hu
  cases j with
  | zero=>simp at hu;subst hu;simpa [Addr.add] using hc
  | succ j=>simp at hu
 ·intro u hu;simp at hu;subst hu;rfl
 ·unfold maxLen;omega
 ·omega
 ·intro v' w' h1 h2 _ h4
  refine h v' w' ?_ h2 h4;unfold OwnI
  simpa using h1
theorem Ints.kept {S:List Nat} {w w':World} {A:Option Addr} {n:Nat} {f:Nat→Int} (h:Ints w A n f) (hk:Kept S w w') (hS:∀ad,A=some ad→ad.block∉S):Ints w' A n f:=by
 intro hn;obtain ⟨ad,h1,h2,h3⟩:=h hn
 exact ⟨ad,h1,Nat.lt_of_lt_of_le h2 hk.size,fun k hk'=>by
  have e:w'.cell? (ad.add k)=w.cell? (ad.add k):=World.cell?_of_block (by rw [add_block];exact hk.block _ h2 (hS ad h1))
  rw [e];exact h3 k hk'⟩
theorem gridMovesN (w : World) (p : Nat) (g : G) (v : Int) (c : Nat) (h : GridAt w p g v) (hc : c < g.n) :
    Calls Tryz.prog 90 #[.pointer (some ⟨p,0,none⟩),.int .i64 (c:Nat)] w (RetInts2N w (movesI g c)):=by
 have hin:=inPG h.1 hc;have hp:=Lib.hid h.lt;go_enter Tryz.func90,Tryz.ntmps90;go_wp2_with fail;refine (gridPlace_in w p g v c h hc).mono ?_;rintro e w1 ⟨rfl,hb1⟩;go_wp2_with fail;have hs1:=hb1.size
 go_loopw [9,21] (fun l i wr=>∃k:Nat,k≤8∧i=.int .i64 k∧OwnI wr w.heap.size l (upTo (g.mayC c) k)∧Below w.heap.size w wr) (fun _ i _=>8-(intOf i).toNat)
 case atStart=>exact ⟨0,by omega,rfl,OwnI.nil _ _,hb1⟩
 case round=>
  obtain ⟨k,hk,rfl,hown,HB⟩:=hrel;have hl:=upTo_len (g.mayC c) k
  by_cases hlt:k<8
  ·go_wp2_with fail
   refine (gridMay _ p g v _ _ k (h.below HB hp.out) hlt hin.1 hin.2).mono ?_;rintro e w2 ⟨rfl,hb2⟩;have HB2:=bel_trans HB hb2;have hown2:=hown.below (B':=0) hb2;have hz2:=HB2.size
   cases hm:g.may (g.X c:Nat) (g.Y c:Nat) k with
   | false=>
    have e:=Lib.hid (upTo_no (p:=g.mayC c) hm);clear hm;go_wp2;go_roundw
    case rel=>exact ⟨k+1,by omega,by go_num,by rw [e.out];exact hown2,HB2⟩
    case measure=>simp [intOf];omega
   | true=>
    have e:=Lib.hid (upTo_yes (p:=g.mayC c) hm);clear hm
    go_wp2_with (at_builtin;(refine wpList_append_int _ rfl _ _ rfl w.heap.size _ _ _ rfl (hown2.alloc _) ⟨w2.heap.size,0,none⟩ rfl (cell1_new _ _ _) (by omega) (by simp;omega) ?_);intro v' w3 hown3 hgrow)
    have HB3:=below_grown (HB2.alloc (by omega) _) (by simp;omega) (hown2.alloc _) hgrow
    go_wp2;go_roundw
    case rel=>exact ⟨k+1,by omega,by go_num,by rw [e.out];exact hown3,HB3⟩
    case measure=>simp [intOf];omega
  ·obtain rfl:k=8:=by omega
   go_wp2;go_ret2;exact ret_ints2N hown HB
end Go.Proofs.YtokhnobcincfjaaGreatDoor
