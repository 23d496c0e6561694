/- Lemmas of this claim: RHeap, RHeap2, HeapBoth, HeapSays, OpenH. -/
import Derived.Test.YtokhnobcincfjaaGreatDoorKNUn8
import Derived.Test.YtokhnobcincfjaaGreatDoorKNUn9
import Derived.Test.YtokhnobcincfjaaGreatDoorKNUn2
import Derived.Test.YtokhnobcincfjaaGreatDoorBase
import Derived.Test.YtokhnobcincfjaaGreatDoorKNUn4
import Derived.BigRegion
import Derived.Deep.RegionHeld3
import Derived.Test.YtokhnobcincfjaaGreatDoorKNUn6
import Derived.Deep.Slices
import Derived.Deep.Fields
set_option linter.unusedVariables false
set_option linter.unusedSimpArgs false
namespace Go.Proofs.YtokhnobcincfjaaGreatDoor
open Go.RowKit Go.Sort FR
def hp0:Int→Option C:=fun _=>none
def hp1:Int→Option C:=hset hp0 5 (some ⟨3,0⟩)
def hp2:Int→Option C:=hset hp1 7 (some ⟨0,2⟩)
structure PushV where
 id:Int
 s:Int
 d:Int
 pop:Bool
def Pushes (w:World) (A:Option Addr) (n:Nat) (f:Nat→PushV):Prop:=0<n→∃b o,A=some ⟨b,o,none⟩∧b<w.heap.size∧∀k,k<n→
 w.cell? ⟨b,o+k*4,none⟩=some (.int .i64 (f k).id)∧w.cell? ⟨b,o+k*4+1,none⟩=some (.int .i64 (f k).s)∧w.cell? ⟨b,o+k*4+2,none⟩=some (.int .i64 (f k).d)∧w.cell? ⟨b,o+k*4+3,none⟩=some (.bool (f k).pop)
structure SlP (W:World) (A:Option Addr) (n:Nat) (f:Nat→PushV):Prop where
 ps:Pushes W A n f
 len:n≤9223372036854775807
end Go.Proofs.YtokhnobcincfjaaGreatDoor
namespace Go.Proofs.YtokhnobcincfjaaGreatDoor
open Go.RowKit Go.Sort FR
open Go.ChangeShapes Go.WideShapes Go.ChangeAt Go.Joins
instance:Inhabited PushV:=⟨⟨0,0,0,false⟩⟩
theorem spot_none {w:World} {a:Addr} {v:Value} (h:w.cell? a=some v):a.spot=none:=by
 unfold World.cell? at h
 split at h
 ·cases hs:a.spot with
  | none=>rfl
  | some s=>simp [hs] at h
 ·cases h
theorem addr_eta {w:World} {a:Addr} {v:Value} (h:w.cell? a=some v):∃b o,a=⟨b,o,none⟩:=by
 have:=spot_none h;obtain ⟨b,o,s⟩:=a;simp only at this;subst this;exact ⟨b,o,rfl⟩
theorem add_none (b o j:Nat):(⟨b,o,none⟩:Addr).add j=⟨b,o+j,none⟩:=by unfold Addr.add;split <;> simp_all
theorem cellsInt:Tryz.prog.cellsOf 3=1:=by kernel_rfl
section
variable {H:Type} {enc:TypeId×Value→H} {w:World} {base:Nat} {held:Bool}
theorem struct2 {P : Program} {t : TypeId} {f0 f1 : Field} {fuel : Nat} {cs : List Value} {x : DataW H × List MemPlace} (hs : P.underlying t = some (.struct #[f0, f1])) (hC : P.cellsOf t = 2) (o0 : f0.offset = 0) (k0 : P.cellsOf f0.type = 1) (o1 : f1.offset = 1) (k1 : P.cellsOf f1.type = 1)
    (h:DataW.trod enc P w base (fun _=>true) held fuel t cs=some x):∃c0 c1 n y0 y1,cs=[c0,c1]∧DataW.trod enc P w base (fun _=>true) held n f0.type [c0]=some y0∧DataW.trod enc P w base (fun _=>true) held n f1.type [c1]=some y1:=by
 obtain ⟨xs,n,_,_,hl,hxl,hf⟩:=DataW.trod_struct hs h;rw [hC] at hl
 match cs,hl with
 | [c0,c1],_=>
  have h0:=hf 0 f0 rfl;have h1:=hf 1 f1 rfl
  rw [o0,k0,List.getElem?_eq_getElem (show 0<xs.length by rw [hxl];simp)] at h0
  rw [o1,k1,List.getElem?_eq_getElem (show 1<xs.length by rw [hxl];simp)] at h1
  exact ⟨c0,c1,n,_,_,rfl,h0,h1⟩
variable {r:Reach} {b0:Nat} {v:Value} {d:DataW H} {p:List MemPlace}
end
end Go.Proofs.YtokhnobcincfjaaGreatDoor
