/- Lemmas of this claim: Nav2. -/
import Derived.Test.YtkdndoefgnfbnaaGreatDoorNav1
import Derived.Test.YtkdndoefgnfbnaaGreatDoorKNavC40
import Derived.Test.YtkdndoefgnfbnaaGreatDoorKNavC25
import Derived.Test.YtkdndoefgnfbnaaGreatDoorKNavC17
import Derived.Test.YtkdndoefgnfbnaaGreatDoorKNavC11
import Derived.Test.YtkdndoefgnfbnaaGreatDoorKNavC4
import Derived.Test.YtkdndoefgnfbnaaGreatDoorKNavC5
import Derived.Test.YtkdndoefgnfbnaaGreatDoorKNavC15
import Derived.Test.YtkdndoefgnfbnaaGreatDoorKNavC29
set_option linter.unusedVariables false
set_option linter.unusedSimpArgs false
set_option maxHeartbeats 1600000
set_option maxRecDepth 100000
namespace Go.Proofs.YtkdndoefgnfbnaaGreatDoor
open Go.RowKit Go.Sort FR Go.Lib
theorem guessNav (W0 : World) (b3 b1 b2 s q : Nat) (g : G) (v : Int) (y : Nat) (hy : y < g.n) (k3 : W0.cell? ⟨b3, 0, none⟩ = some (.pointer (some ⟨s, 0, none⟩))) (ks : W0.cell? ⟨s, 0, none⟩ = some (.pointer (some ⟨q, 0, none⟩)))
    (k1:W0.cell? ⟨b1,0,none⟩=some (.int .i64 (g.X y:Nat))) (k2:W0.cell? ⟨b2,0,none⟩=some (.int .i64 (g.Y y:Nat))) (hG:GridAt W0 q g v) :
    GuessOk W0 74 #[.pointer (some ⟨b3,0,none⟩),.pointer (some ⟨b1,0,none⟩),.pointer (some ⟨b2,0,none⟩)] g (octH g y):=by
 refine ⟨callEnter Tryz.func74 (by kernel_rfl) rfl,fun w hw n hn=>?_⟩
 show Calls Tryz.prog _ #[.int .i64 (n:Nat),.pointer (some ⟨b3,0,none⟩),.pointer (some ⟨b1,0,none⟩),.pointer (some ⟨b2,0,none⟩)] w _
 have h:=hG.below hw hG.lt;have hok:=h.1;have hnn:=G.n_le hok;have l1:=G.X_lt hok n;have l2:=G.X_lt hok y;have l3:=G.Y_lt hn.1;have l4:=G.Y_lt hy;obtain ⟨o1,o2,o3,o4⟩:=hok;obtain ⟨z,hz⟩:∃z,octH g y n=z:=⟨_,rfl⟩
 have hz2:octI ((g.X n:Nat)-(g.X y:Nat)) ((g.Y n:Nat)-(g.Y y:Nat))=z:=by rw [←hz,octH_at h.1 y hn.1];rfl
 have cO:=fun w=>costOctile (g.X n:Nat) (g.Y n:Nat) (g.X y:Nat) (g.Y y:Nat) w (by omega) (by omega) (by omega) (by omega)
 rw [hz2] at cO;replace cO:=Lib.hid cO;have k3:=bel_cell hw k3;have ks:=bel_cell hw ks;have k1:=bel_cell hw k1;have k2:=bel_cell hw k2;rw [hz];obtain ⟨xs,xd⟩:=z;have Hn:=Lib.hid hn.1;clear hz hz2 hw hG hn l1 l2 l3 l4 hy;go_enter Tryz.func74,Tryz.ntmps74
 go_upto_region 1 with (fail)
 refine wp_name ?_;intro W hW
 have HW:Below w.heap.size w W:=by rw [hW];(repeat' (first | exact Below.refl _ _ | assumption | apply bel_drewN | apply bel_drew | apply bel_alloc | (refine bel_trans ?_ (by assumption))))
 have q0:W.cell? ⟨w.heap.size,0,none⟩=some (.int .i64 0):=by rw [hW];go_simp
 have q1:W.cell? ⟨w.heap.size,1,none⟩=some (.int .i64 0):=by rw [hW];go_simp
 have f0:W.frozen? ⟨w.heap.size,0,none⟩=false:=by rw [hW];go_simp
 have f1:W.frozen? ⟨w.heap.size,1,none⟩=false:=by rw [hW];go_simp
 have hs:w.heap.size<W.heap.size:=by rw [hW];simp
 have k3:=bel_cell HW k3;have ks:=bel_cell HW ks;have k1:=bel_cell HW k1;have k2:=bel_cell HW k2;have hG:=h.below HW h.lt;clear hW h;go_wp2_with fail;refine (gridPlace_in W q g v n hG Hn.out).mono ?_;rintro e w2 ⟨rfl,hb2⟩;have k1:=bel_cell hb2 k1;have k2:=bel_cell hb2 k2;go_wp2_with fail;refine (cO.out w2).mono ?_;rintro e w3 ⟨rfl,hb3⟩;have HB:=bel_trans hb2 hb3;have q0:=bel_cell HB q0;have q1:=bel_cell HB q1
 have f0:=(HB.frozen (p:=⟨w.heap.size,0,none⟩) hs).trans f0;have f1:=(HB.frozen (p:=⟨w.heap.size,1,none⟩) hs).trans f1;go_wp2_with fail;have e5:=set_two (x:=.int .i64 xs) (y:=.int .i64 xd) q0 q1
 refine bodyPost_ret (v:=.agg #[.int .i64 xs,.int .i64 xd]) (by simp [results,Tryz.results74,go_sem,e5]) rfl ?_
 exact ⟨rfl,((bel_trans HW HB).setCell (by simp) _).setCell (by simp) _⟩
end Go.Proofs.YtkdndoefgnfbnaaGreatDoor
