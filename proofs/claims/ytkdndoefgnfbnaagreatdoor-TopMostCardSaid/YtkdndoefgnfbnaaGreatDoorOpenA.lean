/- Lemmas of this claim: OpenH, OpenA. -/
import Derived.Test.YtkdndoefgnfbnaaGreatDoorKNavB54
import Derived.Test.YtkdndoefgnfbnaaGreatDoorKNavB5
import Derived.Deep.Slices
import Derived.Deep.Fields
import Derived.Test.YtkdndoefgnfbnaaGreatDoorKNavB50
set_option linter.unusedVariables false
set_option linter.unusedSimpArgs false
/- How a slice of pushes, and one of costs, reads. -/
namespace Go.Proofs.YtkdndoefgnfbnaaGreatDoor
open Go.RowKit Go.Sort FR
open Go.ChangeShapes Go.WideShapes Go.ChangeAt Go.Joins
instance:Inhabited PushV:=⟨⟨0,0,0,false⟩⟩
theorem spot_none {w:World} {a:Addr} {v:Value} (h:w.cell? a=some v):a.spot=none:=by
 unfold World.cell? at h
 split at h
 ·cases hs:a.spot with
  | none=>rfl
  | some s=>simp [hs] at h
 ·cases h
theorem addr_eta {w:World} {a:Addr} {v:Value} (h:w.cell? a=some v):∃b o,a=⟨b,o,none⟩:=by
 have:=spot_none h
 obtain ⟨b,o,s⟩:=a
 simp only at this
 subst this
 exact ⟨b,o,rfl⟩
theorem add_none (b o j:Nat):(⟨b,o,none⟩:Addr).add j=⟨b,o+j,none⟩:=by unfold Addr.add;split <;> simp_all
theorem cellsInt:Tryz.prog.cellsOf 3=1:=by kernel_rfl
section
variable {H:Type} {enc:TypeId×Value→H} {w:World} {base:Nat} {held:Bool}
theorem struct2 {P : Program} {t : TypeId} {f0 f1 : Field} {fuel : Nat} {cs : List Value} {x : DataW H × List MemPlace} (hs : P.underlying t = some (.struct #[f0, f1])) (hC : P.cellsOf t = 2) (o0 : f0.offset = 0) (k0 : P.cellsOf f0.type = 1) (o1 : f1.offset = 1) (k1 : P.cellsOf f1.type = 1)
    (h:DataW.trod enc P w base (fun _=>true) held fuel t cs=some x):∃c0 c1 n y0 y1,cs=[c0,c1]∧DataW.trod enc P w base (fun _=>true) held n f0.type [c0]=some y0∧DataW.trod enc P w base (fun _=>true) held n f1.type [c1]=some y1:=by
 obtain ⟨xs,n,_,_,hl,hxl,hf⟩:=DataW.trod_struct hs h
 rw [hC] at hl
 match cs,hl with
 | [c0,c1],_=>
  have h0:=hf 0 f0 rfl
  have h1:=hf 1 f1 rfl
  rw [o0,k0,List.getElem?_eq_getElem (show 0<xs.length by rw [hxl];simp)] at h0
  rw [o1,k1,List.getElem?_eq_getElem (show 1<xs.length by rw [hxl];simp)] at h1
  exact ⟨c0,c1,n,_,_,rfl,h0,h1⟩
variable {r:Reach} {b0:Nat} {v:Value} {d:DataW H} {p:List MemPlace}
end
end Go.Proofs.YtkdndoefgnfbnaaGreatDoor
/- How a slice of asks reads. -/
namespace Go.Proofs.YtkdndoefgnfbnaaGreatDoor
open Go.RowKit Go.Sort FR
open Go.ChangeShapes Go.WideShapes Go.ChangeAt Go.Joins
theorem cellsAsk:Tryz.prog.cellsOf 36=2:=by kernel_rfl
section
variable {H:Type} {enc:TypeId×Value→H} {w:World} {base:Nat} {held:Bool}
theorem ask_of {fuel:Nat} {cs:List Value} {x:DataW H×List MemPlace} (h:DataW.trod enc Tryz.prog w base (fun _=>true) held fuel 36 cs=some x):∃s d,cs=[.int .i64 s,.int .i64 d]:=by
 obtain ⟨c0,c1,n,y0,y1,rfl,h0,h1⟩:=struct2 Tryz.underlying36 cellsAsk rfl cellsInt rfl cellsInt h
 obtain ⟨s,e0,_⟩:=DataW.trod_int Tryz.underlying3 h0
 obtain ⟨d,e1,_⟩:=DataW.trod_int Tryz.underlying3 h1
 simp at e0 e1
 subst e0 e1
 exact ⟨s,d,rfl⟩
set_option maxRecDepth 100000 in
theorem sla_of {fuel:Nat} {cs:List Value} {x:DataW H×List MemPlace} (h:DataW.trod enc Tryz.prog w base (fun _=>true) held fuel 25 cs=some x):∃A n m f,cs=[.slice A n m]∧SlA w A n f:=by
 rcases Go.Deep.open_slice Tryz.underlying25 h with ⟨rfl,_⟩ | ⟨a,len,cap,m,n,D,Pl,rfl,_,hl,hm,hmm,_,hx⟩
 ·exact ⟨none,0,0,fun _=>default,rfl,fun h=>absurd h (by omega),by omega⟩
 ·rw [cellsAsk] at hx
  simp only [if_true] at hmm
  obtain ⟨F,hF⟩:=Go.Deep.choose_lt (α:=Int×Int) (n:=m) (p:=fun i p=>∀j v,[Value.int .i64 p.1,.int .i64 p.2][j]? = some v→w.cell? ((a.add (i*2)).add j)=some v) (fun i hi=>by
   obtain ⟨cs',h1,h2⟩:=hx i hi
   obtain ⟨s,d,rfl⟩:=ask_of h2
   refine ⟨⟨s,d⟩,fun j v hj=>?_⟩
   obtain ⟨_,_,h3⟩:=World.cells?_some h1
   rw [h3 j (by have:=(List.getElem?_eq_some_iff.1 hj).1;simpa using this)];exact hj)
  refine ⟨some a,len,cap,F,rfl,fun hp=>?_,?_⟩
  ·have h0:=hF 0 (by omega) 0 _ rfl
   have ea:(a.add (0*2)).add 0=a:=by simp [Addr.add]
   rw [ea] at h0
   obtain ⟨b,o,rfl⟩:=addr_eta h0
   refine ⟨b,o,rfl,World.block_lt_of_cell? _ _ h0,fun k hk=>?_⟩
   have hk':=hF k (by omega)
   simp only [add_none] at hk'
   exact ⟨hk' 0 _ rfl,hk' 1 _ rfl⟩
  ·unfold maxLen at hm;omega
variable {r:Reach} {b0:Nat} {v:Value} {d:DataW H} {p:List MemPlace}
set_option maxRecDepth 100000 in
theorem open_asks (hv:Value.okWide Tryz.prog w r b0 25 v) (h:DataW.Trod enc Tryz.prog w base (fun _=>true) held 25 v d p):∃A n m f,v=.slice A n m∧SlA w A n f:=by
 obtain ⟨a,l,c,rfl⟩:=okWide_slice Tryz.underlying25 hv
 obtain ⟨fuel,hf⟩:=h
 obtain ⟨A,n,m,f,e,hs⟩:=sla_of hf
 have e':Value.slice a l c=.slice A n m:=(List.cons.inj (show [Value.slice a l c]=[.slice A n m] from e)).1
 exact ⟨A,n,m,f,e',hs⟩
end
end Go.Proofs.YtkdndoefgnfbnaaGreatDoor
