/- Lemmas of this claim: RHeap, RHeap2, HeapBoth, HeapSays. -/
import Derived.Test.YtkdndoefgnfbnaaGreatDoorKNavB7
import Derived.Test.YtkdndoefgnfbnaaGreatDoorKNavB8
import Derived.Test.YtkdndoefgnfbnaaGreatDoorKNavB13
import Derived.Test.YtkdndoefgnfbnaaGreatDoorBase
import Derived.Test.YtkdndoefgnfbnaaGreatDoorKNavB2
import Derived.BigRegion
import Derived.Deep.RegionHeld3
set_option linter.unusedVariables false
set_option linter.unusedSimpArgs false
/- What the reference's heap does: place, Pop. -/
namespace Go.Proofs.YtkdndoefgnfbnaaGreatDoor
open Go.RowKit Go.Sort FR
def it0:It:=⟨⟨0,0⟩,0⟩
def nthI (l:List It) (k:Nat):It:=l.getD k it0
theorem nthI_get {l:List It} {k:Nat} (h:k<l.length):nthI l k=l[k]:=by simp [nthI,List.getD,h]
def RItems (w:World) (A:Option Addr) (r:Nat) (l:List It):Prop:=0<l.length→∃o,A=some ⟨r,o,none⟩∧r<w.heap.size∧∀k,k<l.length→
 w.cell? ⟨r,o+k*3,none⟩=some (.int .i64 (nthI l k).id)∧w.cell? ⟨r,o+k*3+1,none⟩=some (.int .i64 (nthI l k).c.s)∧w.cell? ⟨r,o+k*3+2,none⟩=some (.int .i64 (nthI l k).c.d)
theorem RItems.kept {S:List Nat} {w w':World} {A:Option Addr} {r:Nat} {l:List It} (h:RItems w A r l) (hk:Kept S w w') (hr:r∉S):RItems w' A r l:=by
 intro hp
 obtain ⟨o,h1,h2,h3⟩:=h hp
 have e:∀x,w'.cell? ⟨r,x,none⟩=w.cell? ⟨r,x,none⟩:=fun x=>World.cell?_of_block (hk.block r h2 hr)
 refine ⟨o,h1,Nat.lt_of_lt_of_le h2 hk.size,fun k hk=>?_⟩
 rw [e,e,e];exact h3 k hk
theorem RItems.one {w : World} {A : Option Addr} {r : Nat} {l : List It} (h : RItems w A r l) {k : Nat} (hk : k < l.length) {x : It} (hx : nthI l k = x) : ∃ o, A = some ⟨r, o, none⟩ ∧ r < w.heap.size ∧
    w.cell? ⟨r,o+k*3,none⟩=some (.int .i64 x.id)∧w.cell? ⟨r,o+k*3+1,none⟩=some (.int .i64 x.c.s)∧w.cell? ⟨r,o+k*3+2,none⟩=some (.int .i64 x.c.d):=by
 subst hx
 obtain ⟨o,h1,h2,h3⟩:=h (by omega)
 exact ⟨o,h1,h2,h3 k hk⟩
theorem RItems.tail {w:World} {r o m:Nat} {x:It} {l:List It} (h:RItems w (some ⟨r,o,none⟩) r (x :: l)):RItems w (if m=1 then some ⟨r,o,none⟩ else (some (⟨r,o,none⟩:Addr)).map (·.add (1*3))) r l∨m=1:=by
 by_cases e:m=1
 ·exact .inr e
 ·left
  rw [if_neg e]
  intro hp
  obtain ⟨o',h1,h2,h3⟩:=h (by simp)
  simp only [Option.some.injEq,Addr.mk.injEq,true_and,and_true] at h1
  subst h1
  refine ⟨o+3,by simp [Addr.add],h2,fun k hk=>?_⟩
  have:=h3 (k+1) (by simp;omega)
  have e2:nthI (x :: l) (k+1)=nthI l k:=by simp [nthI,List.getD]
  rw [e2] at this
  have e3:o+3+k*3=o+(k+1)*3:=by omega
  rw [e3];exact this
end Go.Proofs.YtkdndoefgnfbnaaGreatDoor
/- What the reference's Push does. -/
namespace Go.Proofs.YtkdndoefgnfbnaaGreatDoor
open Go.RowKit Go.Sort FR
end Go.Proofs.YtkdndoefgnfbnaaGreatDoor
/- The heap and the reference's heap side by side; the closed fact heaps. -/
namespace Go.Proofs.YtkdndoefgnfbnaaGreatDoor
open Go.RowKit Go.Sort FR
theorem HeapOf.cc {w:World} {S:List Nat} {b n:Nat} {hp:Int→Option C} (h:HeapOf w S b n hp):∀z d,hp z=some d→inCC d:=by
 obtain ⟨mb,m,N,c,sl,hb,hM,hne,hR,hP,hH,hD,hL,hC⟩:=h
 exact hC
theorem HeapOf.len {w:World} {S:List Nat} {b n:Nat} {hp:Int→Option C} {l:List It} (h:HeapOf w S b n hp) (hr:RL l hp):n=l.length:=by
 obtain ⟨mb,m,N,c,sl,hb,hM,hne,hR,hP,hH,hD,hL,hC⟩:=h
 exact (hr.len hH hD).symm
end Go.Proofs.YtkdndoefgnfbnaaGreatDoor
/- The law HeapSays: whatever is pushed and popped, it returns true. -/
namespace Go.Proofs.YtkdndoefgnfbnaaGreatDoor
open Go.RowKit Go.Sort FR
def hp0:Int→Option C:=fun _=>none
def hp1:Int→Option C:=hset hp0 5 (some ⟨3,0⟩)
def hp2:Int→Option C:=hset hp1 7 (some ⟨0,2⟩)
structure PushV where
 id:Int
 s:Int
 d:Int
 pop:Bool
def Pushes (w:World) (A:Option Addr) (n:Nat) (f:Nat→PushV):Prop:=0<n→∃b o,A=some ⟨b,o,none⟩∧b<w.heap.size∧∀k,k<n→
 w.cell? ⟨b,o+k*4,none⟩=some (.int .i64 (f k).id)∧w.cell? ⟨b,o+k*4+1,none⟩=some (.int .i64 (f k).s)∧w.cell? ⟨b,o+k*4+2,none⟩=some (.int .i64 (f k).d)∧w.cell? ⟨b,o+k*4+3,none⟩=some (.bool (f k).pop)
structure SlP (W:World) (A:Option Addr) (n:Nat) (f:Nat→PushV):Prop where
 ps:Pushes W A n f
 len:n≤9223372036854775807
def AtIs (l:List It) (id:Int) (j:Nat) (z:Int):Prop:=(z = -1∧∀i,i<j→(nthI l i).id≠id)∨∃i:Nat,i<j∧z=i∧(nthI l i).id=id
theorem AtIs.out {l:List It} {hp:Int→Option C} {id z:Int} (h:AtIs l id l.length z) (hr:RL l hp) (hz:hp id=none):z = -1:=by
 rcases h with ⟨h,_⟩ | ⟨i,hi,_,he⟩
 ·exact h
 ·have:=(hr.2 (nthI l i).id (nthI l i).c).2 (by rw [nthI_get hi];exact List.getElem_mem hi)
  rw [he,hz] at this;cases this
theorem AtIs.at {l:List It} {hp:Int→Option C} {id z:Int} {d:C} (h:AtIs l id l.length z) (hr:RL l hp) (hz:hp id=some d):∃i:Nat,i<l.length∧z=i∧nthI l i=⟨d,id⟩:=by
 obtain ⟨k,hk,hk2⟩:=List.getElem_of_mem ((hr.2 id d).1 hz)
 rcases h with ⟨_,h⟩ | ⟨i,hi,hzi,he⟩
 ·exact absurd (by rw [nthI_get hk,hk2]) (h k hk)
 ·refine ⟨i,hi,hzi,?_⟩
  have:=hr.ids (i:=i) (j:=k) hi hk (by rw [←nthI_get hi,he,hk2])
  subst this
  rw [nthI_get hi,hk2]
end Go.Proofs.YtkdndoefgnfbnaaGreatDoor
