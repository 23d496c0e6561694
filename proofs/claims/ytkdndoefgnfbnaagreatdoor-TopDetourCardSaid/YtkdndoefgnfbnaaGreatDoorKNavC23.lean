/- Lemmas of this claim: FloodSays, RRay, RRay2, RRay3. -/
import Derived.Test.YtkdndoefgnfbnaaGreatDoorKNavC11
import Derived.Test.YtkdndoefgnfbnaaGreatDoorKNavC4
import Derived.Test.YtkdndoefgnfbnaaGreatDoorKNavC5
import Derived.Test.YtkdndoefgnfbnaaGreatDoorKNavC15
import Derived.Laws.CopyOwn
import Derived.Laws.Tables
import Derived.Test.YtkdndoefgnfbnaaGreatDoorKNavC1
import Derived.Test.YtkdndoefgnfbnaaGreatDoorKNavC10
import Derived.Test.YtkdndoefgnfbnaaGreatDoorKNavC12
import Derived.Deep.RegionHeld3
import Derived.Deep.MidRow
set_option linter.unusedVariables false
set_option linter.unusedSimpArgs false
namespace Go.Proofs.YtkdndoefgnfbnaaGreatDoor
open Go.RowKit Go.Sort FR
theorem run_storeCells_row {P : Program} (w : World) (g : Nat) (t ty : TypeId) (old cells : Array Value) (hg : w.heap[g]? = some (.cells old t (0, 0))) (hi : (P.info? ty).map (·.size) = some cells.size) (ho : old.size = cells.size) (h1 : cells.all (·.oneCell') = true) :
    (storeCells ⟨g,0,none⟩ cells.toList).run P w=.ok () (w.setRow g cells):=by
 have:=run_storeVar_row (P:=P) w g t ty old cells hg hi ho h1
 cases hq:P.info? ty with
 | none=>simp [hq] at hi
 | some i=>
  have hs:cells.size=i.size:=by simp [hq] at hi;omega
  simpa [storeVar,sizeOf,typeInfo,hq,Value.cells,hs] using this
theorem setRow_else (w:World) (g k:Nat) (cs:Array Value) (h:k≠g):(w.setRow g cs).heap[k]? = w.heap[k]?:=by
 simp [World.setRow,Array.getElem?_modify,Ne.symm h]
theorem two_arrays (w : World) (Z1 Z2 : Array Value) (z1 : Z1.size = 512) (z2 : Z2.size = 256) (o1 : Z1.all (·.oneCell') = true) (o2 : Z2.all (·.oneCell') = true) :
    ∃W1 W2,(storeCells ⟨w.heap.size,0,none⟩ Z1.toList).run Tryz.prog ((w.alloc (.cells Tryz.zeroCells89 89)).alloc (.cells Tryz.zeroCells53 53))=.ok () W1 ∧
     (storeCells ⟨w.heap.size+1,0,none⟩ Z2.toList).run Tryz.prog W1=.ok () W2∧W2.heap[w.heap.size]? = some (.cells Z1 89 (0,0))∧W2.heap[w.heap.size+1]? = some (.cells Z2 53 (0,0))∧Below w.heap.size w W2:=by
 have s1:(Tryz.prog.info? 89).map (·.size)=some Z1.size:=by rw [z1];kernel_rfl
 have s2:(Tryz.prog.info? 53).map (·.size)=some Z2.size:=by rw [z2];kernel_rfl
 have q1:(Tryz.zeroCells89).size=Z1.size:=by rw [zero_costs,rowOf_size,z1]
 have q2:(Tryz.zeroCells53).size=Z2.size:=by rw [zero_bools,rowOf_size,z2]
 have hb:Below w.heap.size w ((w.alloc (.cells Tryz.zeroCells89 89)).alloc (.cells Tryz.zeroCells53 53)):=by (repeat' (first | exact Below.refl _ _ | assumption | apply bel_drewN | apply bel_drew | apply bel_alloc | (refine bel_trans ?_ (by assumption))))
 have h1:((w.alloc (.cells Tryz.zeroCells89 89)).alloc (.cells Tryz.zeroCells53 53)).heap[w.heap.size]? = some (.cells Tryz.zeroCells89 89 (0,0)):=alloc_old _ _ (by simp) (alloc_at _ _ rfl)
 have h2:((w.alloc (.cells Tryz.zeroCells89 89)).alloc (.cells Tryz.zeroCells53 53)).heap[w.heap.size+1]? = some (.cells Tryz.zeroCells53 53 (0,0)):=alloc_at _ _ (by simp)
 generalize (w.alloc (.cells Tryz.zeroCells89 89)).alloc (.cells Tryz.zeroCells53 53)=W at *
 have h3:(W.setRow w.heap.size Z1).heap[w.heap.size+1]? = some (.cells Tryz.zeroCells53 53 (0,0)):=by rw [setRow_else _ _ _ _ (by omega)];exact h2
 refine ⟨_,_,run_storeCells_row W w.heap.size _ _ _ Z1 h1 s1 q1 o1,run_storeCells_row _ (w.heap.size+1) _ _ _ Z2 h3 s2 q2 o2,?_,setRow_heap _ _ _ _ _ _ h3,?_⟩
 ·rw [setRow_else _ _ _ _ (by omega)];exact setRow_heap _ _ _ _ _ _ h1
 ·exact below_setRow (below_setRow hb (Nat.le_refl _) _) (by omega) _
theorem add_zero' (a:Addr):a.add 0=a:=by
 obtain ⟨b,o,s⟩:=a
 cases s <;> simp [Addr.add]
theorem arr_b' {w w':World} {b:Nat} {is:Nat→Bool} {t:Nat} (h:w.heap[b]? = some (.cells (rowOf (icell is) 256) 53 (0,0))) (hb:Below w.heap.size w w') (ht:t<256):w'.cell? ⟨b,t,none⟩=some (.bool (is t)):=
 (World.cell?_of_block (w:=w) (w':=w') (a:=⟨b,t,none⟩) (hb.block b (Array.getElem?_eq_some_iff.1 h).1)).trans (by simp [World.cell?,h,rowOf_get _ _ _ ht,icell])
theorem arr_c' {w w':World} {b:Nat} {c:Nat→C} {t:Nat} (h:w.heap[b]? = some (.cells (rowOf (ccell c) 512) 89 (0,0))) (hb:Below w.heap.size w w') (ht:t<256):w'.cell? ⟨b,t*2,none⟩=some (.int .i64 (c t).s)∧w'.cell? ⟨b,t*2+1,none⟩=some (.int .i64 (c t).d):=by
 have e1:(t*2+1) % 2=1:=by omega
 have e2:(t*2+1) / 2=t:=by omega
 exact ⟨(World.cell?_of_block (w:=w) (w':=w') (a:=⟨b,t*2,none⟩) (hb.block b (Array.getElem?_eq_some_iff.1 h).1)).trans (by simp [World.cell?,h,rowOf_get _ _ _ (show t*2<512 by omega),ccell]),
  (World.cell?_of_block (w:=w) (w':=w') (a:=⟨b,t*2+1,none⟩) (hb.block b (Array.getElem?_eq_some_iff.1 h).1)).trans (by simp [World.cell?,h,rowOf_get _ _ _ (show t*2+1<512 by omega),ccell,e1,e2])⟩
end Go.Proofs.YtkdndoefgnfbnaaGreatDoor
