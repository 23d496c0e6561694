/- Lemmas of this claim: OpenA. -/
import Derived.Test.YtokhnobcincfjaaGreatDoorOpenH
import Derived.Test.YtokhnobcincfjaaGreatDoorKNUn47
set_option linter.unusedVariables false
set_option linter.unusedSimpArgs false
set_option maxRecDepth 100000
namespace Go.Proofs.YtokhnobcincfjaaGreatDoor
open Go.RowKit Go.Sort FR
open Go.ChangeShapes Go.WideShapes Go.ChangeAt Go.Joins
theorem cellsAsk:Tryz.prog.cellsOf 60=2:=by kernel_rfl
section
variable {H:Type} {enc:TypeId×Value→H} {w:World} {base:Nat} {held:Bool}
theorem ask_of {fuel:Nat} {cs:List Value} {x:DataW H×List MemPlace} (h:DataW.trod enc Tryz.prog w base (fun _=>true) held fuel 60 cs=some x):∃s d,cs=[.int .i64 s,.int .i64 d]:=by
 obtain ⟨c0,c1,n,y0,y1,rfl,h0,h1⟩:=struct2 Tryz.underlying60 cellsAsk rfl cellsInt rfl cellsInt h;obtain ⟨s,e0,_⟩:=DataW.trod_int Tryz.underlying3 h0;obtain ⟨d,e1,_⟩:=DataW.trod_int Tryz.underlying3 h1;simp at e0 e1;subst e0 e1;exact ⟨s,d,rfl⟩
theorem sla_of {fuel:Nat} {cs:List Value} {x:DataW H×List MemPlace} (h:DataW.trod enc Tryz.prog w base (fun _=>true) held fuel 54 cs=some x):∃A n m f,cs=[.slice A n m]∧SlA w A n f:=by
 rcases Go.Deep.open_slice Tryz.underlying54 h with ⟨rfl,_⟩ | ⟨a,len,cap,m,n,D,Pl,rfl,_,hl,hm,hmm,_,hx⟩
 ·exact ⟨none,0,0,fun _=>default,rfl,fun h=>absurd h (by omega),by omega⟩
 ·rw [cellsAsk] at hx
  simp only [if_true] at hmm
  obtain ⟨F,hF⟩:=Go.Deep.choose_lt (α:=Int×Int) (n:=m) (p:=fun i p=>∀j v,[Value.int .i64 p.1,.int .i64 p.2][j]? = some v→w.cell? ((a.add (i*2)).add j)=some v) (fun i hi=>by
   obtain ⟨cs',h1,h2⟩:=hx i hi;obtain ⟨s,d,rfl⟩:=ask_of h2
   refine ⟨⟨s,d⟩,fun j v hj=>?_⟩
   obtain ⟨_,_,h3⟩:=World.cells?_some h1
   rw [h3 j (by have:=(List.getElem?_eq_some_iff.1 hj).1;simpa using this)];exact hj)
  refine ⟨some a,len,cap,F,rfl,fun hp=>?_,?_⟩
  ·have h0:=hF 0 (by omega) 0 _ rfl
   have ea:(a.add (0*2)).add 0=a:=by simp [Addr.add]
   rw [ea] at h0;obtain ⟨b,o,rfl⟩:=addr_eta h0
   refine ⟨b,o,rfl,World.block_lt_of_cell? _ _ h0,fun k hk=>?_⟩
   have hk':=hF k (by omega)
   simp only [add_none] at hk';exact ⟨hk' 0 _ rfl,hk' 1 _ rfl⟩
  ·unfold maxLen at hm;omega
variable {r:Reach} {b0:Nat} {v:Value} {d:DataW H} {p:List MemPlace}
theorem open_asks (hv:Value.okWide Tryz.prog w r b0 54 v) (h:DataW.Trod enc Tryz.prog w base (fun _=>true) held 54 v d p):∃A n m f,v=.slice A n m∧SlA w A n f:=by
 obtain ⟨a,l,c,rfl⟩:=okWide_slice Tryz.underlying54 hv;obtain ⟨fuel,hf⟩:=h;obtain ⟨A,n,m,f,e,hs⟩:=sla_of hf
 have e':Value.slice a l c=.slice A n m:=(List.cons.inj (show [Value.slice a l c]=[.slice A n m] from e)).1
 exact ⟨A,n,m,f,e',hs⟩
end
end Go.Proofs.YtokhnobcincfjaaGreatDoor
