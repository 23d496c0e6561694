/- Lemmas of this claim: RHeap, RHeap2, HeapBoth, HeapSays, Flood, OpenH. -/
import Derived.Test.YtnifggkjieemeaaGreatDoorKNNs7
set_option linter.unusedVariables false
set_option linter.unusedSimpArgs false
open Go.Proofs.Tryz
namespace Go.Proofs.YtnifggkjieemeaaGreatDoor
section
open Go.RowKit Go.Sort FR
variable {m:Int->Option Value}{b:Nat}{w:World}
def hp0:Int->Option C:=λ_=>none
def hp1:Int->Option C:=hset hp0 5 (some ⟨3,0⟩)
def hp2:Int->Option C:=hset hp1 7 (some ⟨0,2⟩)
structure NQ where
 id:Int
 s:Int
 d:Int
 pop:Bool
def U1(w:World)(A:Option Addr)(n:Nat)(f:Nat->NQ):Prop:=0<n->∃b o,A=some ⟨b,o,none⟩/\b<w.heap.size/\∀k,k<n->
 w.cell? ⟨b,o+k*4,none⟩=some (rI (f k).id)/\w.cell? ⟨b,o+k*4+1,none⟩=some (rI (f k).s)/\w.cell? ⟨b,o+k*4+2,none⟩=some (rI (f k).d)/\w.cell? ⟨b,o+k*4+3,none⟩=some (.bool (f k).pop)
structure YH (W:World) (A:Option Addr) (n:Nat) (f:Nat->NQ):Prop where
 ps:U1 W A n f
 len:n<=9223372036854775807
def eQ(f:Nat->Option Value)(z:Int):Option Value:=if 0<=z then f z.toNat else none
theorem fF(f:Nat->Option Value)(n:Nat):eQ f (n:Nat)=f n:=by unfold eQ;rw[if_pos om];rfl
theorem lZ(f:Nat->Option Value)(n:Nat)(v:Option Value):aN (eQ f) (n:Nat) v=eQ (upd f n v):=by
 funext z;unfold aN eQ upd;by_cases h:0<=z
 .rw[if_pos h,if_pos h]
  by_cases e:z=(n:Nat)
  .rw[if_pos e,if_pos om]
  .rw[if_neg e,if_neg om]
 .rw[if_neg h,if_neg h,if_neg om]
def oD(c:C):Value:=.agg #[rI c.s,rI c.d]
def eP(d:Nat->Option C)(j:Nat):Option Value:=(d j).map oD
theorem pG(d:Nat->Option C)(k:Nat)(c:C):upd (eP d) k (some (oD c))=eP (upd d k (some c)):=by
 funext j;unfold upd eP;split<;>simp_all
theorem aC.EK{S:List Nat}{w w':World}{p:Nat}{g:G}{v:Int}(h:aC w p g v)(F:Kept S w w')(J:p∉S):aC w' p g v:=by
 have I:=h.lt;obtain⟨k,L,u,z,B⟩:=h;exact⟨k,L,u,(F.block p I J).trans z,B⟩
theorem jr(w:World):(zeroValue 53).run prog w=.ok (.agg #[rI 0,rI 0]) w:=kr
theorem j5{b N:Nat}(h:MapAt (λz:Int=>Value.int .i64 z) w b m N){z:Int}{v:Value}(g:m z=some v):(Instr.lookup 242 (.map (some b)) (rI z) true).run prog w=.ok (.tuple #[v,.bool true]) w:=by
 have:=(h.look (aF underlying3) underlying242 (jr w) z).1;rw[g]at this;exact this
theorem jl{b N:Nat}(h:MapAt (λz:Int=>Value.int .i64 z) w b m N){z:Int}(g:m z=none):(Instr.lookup 242 (.map (some b)) (rI z) true).run prog w=.ok (.tuple #[.agg #[rI 0,rI 0],.bool false]) w:=by
 have:=(h.look (aF underlying3) underlying242 (jr w) z).1;rw[g]at this;exact this
theorem Lt(w:World)(d:Nat)(k:d<8):Calls prog 98 #[rI (d:Nat)] w (Rt w (.agg #[rI (bu d).s,rI (bu d).d])):=by
 rcases(show d=0\/d=1\/d=2\/d=3\/d=4\/d=5\/d=6\/d=7 by omega)with rfl|rfl|rfl|rfl|rfl|rfl|rfl|rfl
 all_goals
  go_enter func98,ntmps98;go_wp2
  first
   |(refine bodyPost_ret (v:=.agg #[rI 1,rI 0]) (by simp[results,results98,go_sem]) rfl ?_
     exact⟨rfl,be⟩)
   |(refine bodyPost_ret (v:=.agg #[rI 0,rI 1]) (by simp[results,results98,go_sem]) rfl ?_
     exact⟨rfl,be⟩)
theorem dJ{x y u v:Value}(g:w.cell? ⟨b,0,none⟩=some u)(k:w.cell? ⟨b,1,none⟩=some v):((w.setCell ⟨b,0,none⟩ x).setCell ⟨b,1,none⟩ y).cell? ⟨b,0,none⟩=some x/\((w.setCell ⟨b,0,none⟩ x).setCell ⟨b,1,none⟩ y).cell? ⟨b,1,none⟩=some y:=tX g k
end
section
open Go.RowKit Go.Sort FR
open Go.ChangeShapes Go.WideShapes Go.ChangeAt Go.Joins
instance:Inhabited NQ:=⟨⟨0,0,0,false⟩⟩
theorem M7{w:World}{a:Addr}{v:Value}(h:w.cell? a=some v):a.spot=none:=by
 unfold World.cell? at h;split at h
 .cases g:a.spot with
  |none=>rfl
  |some s=>simp[g]at h
 .cases h
theorem yc{w:World}{a:Addr}{v:Value}(h:w.cell? a=some v):∃b o,a=⟨b,o,none⟩:=by
 have:=M7 h;obtain⟨b,o,s⟩:=a;simp only at this;subst this;exact⟨b,o,rfl⟩
theorem x9(b o j:Nat):(⟨b,o,none⟩:Addr).add j=⟨b,o+j,none⟩:=by unfold Addr.add;split<;>simp_all
theorem ou:prog.cellsOf 3=1:=kr
theorem K8:prog.cellsOf 4=1:=kr
section
variable {H:Type} {enc:TypeId×Value->H} {w:World} {base:Nat} {held:Bool}
theorem KD{P:Program}{t:TypeId}{g k:Field}{m:Nat}{cs:List Value}{x:DataW H×List MemPlace}(Q:P.underlying t=some (.struct #[g,k]))(O:P.cellsOf t=2)(T:g.offset=0)(R:P.cellsOf g.type=1)(U:k.offset=1)(S:P.cellsOf k.type=1)(h:DataW.trod enc P w base (λ_=>true) held m t cs=some x):∃z B n Z y1,cs=[z,B]/\DataW.trod enc P w base (λ_=>true) held n g.type [z]=some Z/\DataW.trod enc P w base (λ_=>true) held n k.type [B]=some y1:=by
 obtain⟨M,n,_,_,L,u,J⟩:=DataW.trod_struct Q h;rw[O]at L
 match cs,L with
 |[z,B],_=>
  have F:=J 0 g rfl;have I:=J 1 k rfl;rw[T,R,Zc (show 0<M.length by rw[u];simp)]at F;rw[U,S,Zc (show 1<M.length by rw[u];simp)]at I;exact⟨z,B,n,_,_,rfl,F,I⟩
variable {r:Reach} {b0:Nat} {v:Value} {d:DataW H} {p:List MemPlace}
end
