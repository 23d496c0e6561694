/- Lemmas of this claim: OpenH, OpenEd. -/
import Derived.Test.YtokhnobcincfjaaGreatDoorKNEd49
import Derived.Test.YtokhnobcincfjaaGreatDoorKNEd51
set_option linter.unusedVariables false
set_option linter.unusedSimpArgs false
set_option maxRecDepth 100000
namespace Go.Proofs.YtokhnobcincfjaaGreatDoor
open Go.RowKit Go.Sort FR
open Go.ChangeShapes Go.WideShapes Go.ChangeAt Go.Joins
instance:Inhabited J3:=⟨⟨0,0,0,false⟩⟩
theorem Jv{w:World}{a:Addr}{v:Value}(h:w.cell? a=some v):a.spot=none:=by
 unfold World.cell? at h;split at h
 .cases g:a.spot with
  |none=>rfl
  |some s=>simp[g]at h
 .cases h
theorem AL{w:World}{a:Addr}{v:Value}(h:w.cell? a=some v):∃b o,a=⟨b,o,none⟩:=by
 have:=Jv h;obtain⟨b,o,s⟩:=a;simp only at this;subst this;exact⟨b,o,rfl⟩
theorem AJ(b o j:Nat):(⟨b,o,none⟩:Addr).add j=⟨b,o+j,none⟩:=by unfold Addr.add;split<;>simp_all
theorem uI:Tryz.prog.cellsOf 3=1:=by kernel_rfl
theorem Ha:Tryz.prog.cellsOf 4=1:=by kernel_rfl
section
variable {H:Type} {enc:TypeId×Value->H} {w:World} {base:Nat} {held:Bool}
theorem GG{P:Program}{t:TypeId}{g k:Field}{u:Nat}{cs:List Value}{x:DataW H×List MemPlace}(R:P.underlying t=some (.struct #[g,k]))(Q:P.cellsOf t=2)(U:g.offset=0)(S:P.cellsOf g.type=1)(Z:k.offset=1)(T:P.cellsOf k.type=1)(h:DataW.trod enc P w base (λ_=>true) held u t cs=some x):∃B F n y0 y1,cs=[B,F]/\DataW.trod enc P w base (λ_=>true) held n g.type [B]=some y0/\DataW.trod enc P w base (λ_=>true) held n k.type [F]=some y1:=by
 obtain⟨O,n,_,_,M,z,L⟩:=DataW.trod_struct R h;rw[Q]at M
 match cs,M with
 |[B,F],_=>
  have I:=L 0 g rfl;have J:=L 1 k rfl;rw[U,S,List.getElem?_eq_getElem (show 0<O.length by rw[z];simp)]at I;rw[Z,T,List.getElem?_eq_getElem (show 1<O.length by rw[z];simp)]at J;exact⟨B,F,n,_,_,rfl,I,J⟩
variable {r:Reach} {b0:Nat} {v:Value} {d:DataW H} {p:List MemPlace}
end
structure Sq (W:World) (A:Option Addr) (n:Nat) (f:Nat->Int×Bool):Prop where
 edt:eZ W A n f
 len:n<=9223372036854775807
 lt:∀ad,A=some ad->ad.block<W.heap.size
theorem tT{P:Program}{w:World}{r:Reach}{base:Nat}{t e:TypeId}{a:Addr}{l c:Nat}(k:P.underlying t=some (.slice e))(h:Value.okWide P w r base t (.slice (some a) l c)):a.block<w.heap.size:=by
 simp only[Value.okWide,k,Cell.okWide,Cell.ok]at h;obtain⟨_,_,_,_,row,cells,g,_⟩:=h;unfold World.shape? at g;apply Classical.byContradiction;intro u;rw[Array.getElem?_eq_none (by omega)]at g;simp at g
theorem AX:Tryz.prog.cellsOf 64=2:=by kernel_rfl
section
variable {H:Type} {enc:TypeId×Value->H} {w:World} {base:Nat} {held:Bool}
theorem Q8{g:Nat}{cs:List Value}{x:DataW H×List MemPlace}(h:DataW.trod enc Tryz.prog w base (λ_=>true) held g 64 cs=some x):∃s d,cs=[.int .i64 s,.bool d]:=by
 obtain⟨F,I,n,J,L,rfl,z,B⟩:=GG Tryz.underlying64 AX rfl uI rfl Ha h;obtain⟨s,k,_⟩:=DataW.trod_int Tryz.underlying3 z;obtain⟨d,u,_⟩:=DataW.trod_bool Tryz.underlying4 B;simp at k u;subst k u;exact⟨s,d,rfl⟩
theorem Py{u:Nat}{cs:List Value}{x:DataW H×List MemPlace}(h:DataW.trod enc Tryz.prog w base (λ_=>true) held u 62 cs=some x):∃A n m f,cs=[.slice A n m]/\eZ w A n f/\n<=9223372036854775807:=by
 rcases Go.Deep.open_slice Tryz.underlying62 h with⟨rfl,_⟩|⟨a,len,z,m,n,D,Z,rfl,_,hl,U,I,_,M⟩
 .exact⟨none,0,0,λ_=>default,rfl,λh=>absurd h (by omega),by omega⟩
 .rw[AX]at M
  simp only[if_true]at I
  obtain⟨F,J⟩:=Go.Deep.choose_lt (α:=Int×Bool) (n:=m) (p:=λi p=>∀j v,[Value.int .i64 p.1,.bool p.2][j]? =some v->w.cell? ((a.add (i*2)).add j)=some v) (λi T=>by
   obtain⟨O,Q,R⟩:=M i T;obtain⟨s,d,rfl⟩:=Q8 R;refine⟨⟨s,d⟩,λj v L=>?_⟩;obtain⟨_,_,S⟩:=World.cells?_some Q;rw[S j (by have:=(List.getElem?_eq_some_iff.1 L).1;simpa using this)];exact L)
  refine⟨some a,len,z,F,rfl,λhp=>?_,?_⟩
  .have B:=J 0 (by omega) 0 _ rfl
   have P:(a.add (0*2)).add 0=a:=by simp[Addr.add]
   rw[P]at B;obtain⟨b,o,rfl⟩:=AL B;refine⟨b,o,rfl,World.block_lt_of_cell? _ _ B,λk hk=>?_⟩;have g:=J k (by omega);simp only[AJ]at g;exact⟨g 0 _ rfl,g 1 _ rfl⟩
  .unfold maxLen at U;omega
variable {r:Reach} {b0:Nat} {v:Value} {d:DataW H} {p:List MemPlace}
theorem Es(g:Value.okWide Tryz.prog w r b0 62 v)(h:DataW.Trod enc Tryz.prog w base (λ_=>true) held 62 v d p):∃A n m f,v=.slice A n m/\Sq w A n f:=by
 obtain⟨a,l,c,rfl⟩:=okWide_slice Tryz.underlying62 g;obtain⟨u,B⟩:=h;obtain⟨A,n,m,f,e,z⟩:=Py B;have k:Value.slice a l c=.slice A n m:=(List.cons.inj (show[Value.slice a l c]=[.slice A n m]from e)).1;rw[k]at g;exact⟨A,n,m,f,k,z.1,z.2,λF e=>by subst e;exact tT Tryz.underlying62 g⟩
end
end Go.Proofs.YtokhnobcincfjaaGreatDoor
