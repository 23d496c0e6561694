/- Lemmas of this claim: Nav5. -/
import Derived.Test.YtkdndoefgnfbnaaGreatDoorNav1
import Derived.Test.YtkdndoefgnfbnaaGreatDoorRTx2
import Derived.Test.YtkdndoefgnfbnaaGreatDoorKNavB48
import Derived.Test.YtkdndoefgnfbnaaGreatDoorBase
import Derived.Test.YtkdndoefgnfbnaaGreatDoorKNavB2
set_option linter.unusedVariables false
set_option linter.unusedSimpArgs false
/- A service's Look and Save, and what the document's Set leaves behind. -/
namespace Go.Proofs.YtkdndoefgnfbnaaGreatDoor
open Go.RowKit Go.Sort FR Go.Lib
set_option maxRecDepth 100000 in
theorem navLook_in (w : World) (s : Nat) (g : G) (v : Int) (most : Nat) (h : ServAt w s g v most) (c d : Nat) (hc : c < g.n) (hd : d < 8) :
    Calls Tryz.prog 21 #[.pointer (some ⟨s,0,none⟩),.int .i64 (c:Nat),.int .i64 (d:Nat)] w fun e w'=>e=.returned (.tuple #[.int .i64 (clrC g c d),.nilIface])∧Below w.heap.size w w':=by
 obtain ⟨_,pg,pt,rb,rp,rm,lb,lm,le,S,E,Sb,nl,hs,m1,m2,hG,hGr,hGs,hLv,ptg,⟨f,hT,hTG,hF⟩,_⟩:=h
 have ks1:w.cell? ⟨s,1,none⟩=some (.pointer (some ⟨pt,0,none⟩)):=by rw [Lib.cell_of_heap hs];rfl
 have cT:=tabSteps_in w pt ptg f g v c d hT hTG hc hd
 rw [hF c d hc hd] at cT
 obtain ⟨z,hz⟩:∃z,clrC g c d=z:=⟨_,rfl⟩
 rw [hz] at cT ⊢
 replace cT:=Lib.hid cT
 clear hs hG hGr hGs hLv hT hTG hF hz m1 m2 hc hd
 go_enter Tryz.func21,Tryz.ntmps21
 go_wp2_with fail
 refine cT.out.mono ?_
 rintro e w2 ⟨rfl,hb2⟩
 go_wp2_with fail
 go_ret2
 exact ⟨rfl,hb2⟩
set_option maxRecDepth 100000 in
theorem navLook_bad (w : World) (s : Nat) (g : G) (v : Int) (most : Nat) (h : ServAt w s g v most) (c d : Int) (hbad : c < 0 ∨ (g.n : Nat) ≤ c ∨ d < 0 ∨ 8 ≤ d) :
    Calls Tryz.prog 21 #[.pointer (some ⟨s,0,none⟩),.int .i64 c,.int .i64 d] w fun e w'=>e=.returned (.tuple #[.int .i64 0,.iface 39 (.int .i64 1)])∧Below w.heap.size w w':=by
 obtain ⟨_,pg,pt,rb,rp,rm,lb,lm,le,S,E,Sb,nl,hs,m1,m2,hG,hGr,hGs,hLv,ptg,⟨f,hT,hTG,hF⟩,_⟩:=h
 have ks1:w.cell? ⟨s,1,none⟩=some (.pointer (some ⟨pt,0,none⟩)):=by rw [Lib.cell_of_heap hs];rfl
 have cT:Calls Tryz.prog 45 #[.pointer (some ⟨pt,0,none⟩),.int .i64 c,.int .i64 d] w fun e w'=>e=.returned (.tuple #[.int .i64 0,.iface 39 (.int .i64 1)])∧Below w.heap.size w w':=by
  by_cases hc:c<0∨(g.n:Nat)≤c
  ·exact tabSteps_cell w pt ptg f g v c d hT hTG hc
  ·obtain ⟨k,rfl⟩:=Int.eq_ofNat_of_zero_le (show 0≤c by omega)
   exact tabSteps_dir w pt ptg f g v k d hT hTG (by omega) (by omega)
 replace cT:=Lib.hid cT
 clear hs hG hGr hGs hLv hT hTG hF m1 m2 hbad
 go_enter Tryz.func21,Tryz.ntmps21
 go_wp2_with fail
 refine cT.out.mono ?_
 rintro e w2 ⟨rfl,hb2⟩
 go_wp2_with fail
 go_ret2
 exact ⟨rfl,hb2⟩
end Go.Proofs.YtkdndoefgnfbnaaGreatDoor
