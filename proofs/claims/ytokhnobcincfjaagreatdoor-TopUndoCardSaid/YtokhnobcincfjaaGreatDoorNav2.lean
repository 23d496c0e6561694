/- Lemmas of this claim: AsGraph, Links, HntA, SrG, Nav2. -/
import Derived.Test.YtokhnobcincfjaaGreatDoorKNUn21
import Derived.Test.YtokhnobcincfjaaGreatDoorKNUn18
import Derived.Test.YtokhnobcincfjaaGreatDoorGSet4
import Derived.Test.YtokhnobcincfjaaGreatDoorSr7
import Derived.Test.YtokhnobcincfjaaGreatDoorNav1
import Derived.Test.YtokhnobcincfjaaGreatDoorKNUn36
import Derived.Test.YtokhnobcincfjaaGreatDoorKNUn15
import Derived.Test.YtokhnobcincfjaaGreatDoorKNUn11
import Derived.Test.YtokhnobcincfjaaGreatDoorKNUn5
import Derived.Test.YtokhnobcincfjaaGreatDoorKNUn6
import Derived.Test.YtokhnobcincfjaaGreatDoorKNUn24
set_option linter.unusedVariables false
set_option linter.unusedSimpArgs false
set_option maxHeartbeats 1600000
set_option maxRecDepth 100000
namespace Go.Proofs.YtokhnobcincfjaaGreatDoor
open Go.RowKit Go.Sort FR Go.Lib
theorem callEnter {f:FuncId} {fn:Func} {c:Code} (hf:Tryz.prog.funcs[f]? = some fn) (hname:(fn.name == "runtime.NumGoroutine")=false) (hb:fn.body=some c) (args:Array Value) (w:World):(callFunc f args).run Tryz.prog w=.ok (.enter f args) w:=by
 have h1:fn.name ≠ "runtime.NumGoroutine":=by simpa using hname
 simp [callFunc,hf,h1,hb]
def octH (g:G) (x:Nat) (n:Nat):C:=if n=256 then C.zero else g.oct n x
theorem octH_256 (g:G) (x:Nat):octH g x 256=C.zero:=if_pos rfl
theorem octH_at {g:G} (hok:g.ok) (x:Nat) {n:Nat} (hn:n<g.n):octH g x n=g.oct n x:=if_neg (by have:=G.n_le hok;omega)
theorem octH_small {g:G} (hok:g.ok) {x:Nat} (hx:x<g.n):∀j,g.Corner j→0≤(octH g x j).s∧(octH g x j).s≤1000∧0≤(octH g x j).d∧(octH g x j).d≤1000:=fun j hj=>by
 rw [octH_at hok x hj.1];have:=G.oct_small hok hx hj.1;omega
theorem srE_walk {g:G} {tp:Nat} {S:LS} (H:LS.Fin g tp S) {mark:Nat→Bool} {fin:Nat→Option C} {a b:Nat} {p:C} (hw:Walk (srE S tp mark fin) a b p) (ha:a≠256):(b≠256→Walk g.GE a b p)∧(b=256→∃t d e,Walk g.GE a t d∧fin t=some e∧p=C.add d e):=by
 induction hw with
 | nil=>exact ⟨fun _=>.nil _,fun e=>absurd e ha⟩
 | @snoc m b d e hw he ih=>
  rcases he with ⟨m1,b1,_,k,hk⟩ | ⟨m1,b1,hf⟩
  ·exact ⟨fun _=>(ih.1 m1).trans (H.walk _ _ _ _ hk),fun e=>absurd e b1⟩
  ·exact ⟨fun e=>absurd b1 e,fun _=>⟨m,d,e,ih.1 m1,hf,rfl⟩⟩
theorem srE_from {S:LS} {tp:Nat} {mark:Nat→Bool} {fin:Nat→Option C} {b:Nat} {p:C} (hw:Walk (srE S tp mark fin) 256 b p):p=C.zero∧b=256:=by
 induction hw with
 | nil=>exact ⟨rfl,rfl⟩
 | @snoc m b d e hw he ih=>
  rcases he with ⟨m1,_⟩ | ⟨m1,_⟩
  ·exact absurd ih.2 m1
  ·exact absurd ih.2 m1
theorem hh_oct {g:G} (hok:g.ok) {tp:Nat} {S:LS} (H:LS.Fin g tp S) {inn:List Ed} {x:Nat} (hi:∀e∈inn,∀t:Nat,e.to_=t→C.le (g.oct t x) e.c) (mkB:Nat→Bool) (f:Int→Option C) (hf:FinK inn inn.length f):∀j t d,Walk (srE S tp mkB (srF f)) j t d→t=256→C.le (octH g x j) d:=by
 intro j t d hw ht
 by_cases hj:j=256
 ·subst hj
  rw [octH_256,(srE_from hw).1];exact C.le_refl _
 ·obtain ⟨t',d1,e,h1,h2,rfl⟩:=(srE_walk H hw hj).2 ht
  obtain ⟨y,hy,h3,rfl⟩:=hf.some_ _ _ h2;have h4:=hi y hy t' h3;have h5:octH g x j=g.oct j x:=if_neg hj;rw [h5];exact C.le_trans (G.oct_tri g j t' x) (C.add_le_add (G.oct_le (G.GE_walk h1)) h4)
theorem guessNav (W0 : World) (b3 b1 b2 s q : Nat) (g : G) (v : Int) (y : Nat) (hy : y < g.n) (k3 : W0.cell? ⟨b3, 0, none⟩ = some (.pointer (some ⟨s, 0, none⟩))) (ks : W0.cell? ⟨s, 0, none⟩ = some (.pointer (some ⟨q, 0, none⟩)))
    (k1:W0.cell? ⟨b1,0,none⟩=some (.int .i64 (g.X y:Nat))) (k2:W0.cell? ⟨b2,0,none⟩=some (.int .i64 (g.Y y:Nat))) (hG:GridAt W0 q g v) :
    GuessOk W0 88 #[.pointer (some ⟨b3,0,none⟩),.pointer (some ⟨b1,0,none⟩),.pointer (some ⟨b2,0,none⟩)] g (octH g y):=by
 refine ⟨callEnter Tryz.func88 (by kernel_rfl) rfl,fun w hw n hn=>?_⟩
 show Calls Tryz.prog _ #[.int .i64 (n:Nat),.pointer (some ⟨b3,0,none⟩),.pointer (some ⟨b1,0,none⟩),.pointer (some ⟨b2,0,none⟩)] w _
 have h:=hG.below hw hG.lt;have hok:=h.1;have hnn:=G.n_le hok;have l1:=G.X_lt hok n;have l2:=G.X_lt hok y;have l3:=G.Y_lt hn.1;have l4:=G.Y_lt hy;obtain ⟨o1,o2,o3,o4⟩:=hok;obtain ⟨z,hz⟩:∃z,octH g y n=z:=⟨_,rfl⟩
 have hz2:octI ((g.X n:Nat)-(g.X y:Nat)) ((g.Y n:Nat)-(g.Y y:Nat))=z:=by rw [←hz,octH_at h.1 y hn.1];rfl
 have cO:=fun w=>costOctile (g.X n:Nat) (g.Y n:Nat) (g.X y:Nat) (g.Y y:Nat) w (by omega) (by omega) (by omega) (by omega)
 rw [hz2] at cO;replace cO:=Lib.hid cO;have k3:=bel_cell hw k3;have ks:=bel_cell hw ks;have k1:=bel_cell hw k1;have k2:=bel_cell hw k2;rw [hz];obtain ⟨xs,xd⟩:=z;have Hn:=Lib.hid hn.1;clear hz hz2 hw hG hn l1 l2 l3 l4 hy;go_enter Tryz.func88,Tryz.ntmps88
 go_upto_region 1 with (fail)
 refine wp_name ?_;intro W hW
 have HW:Below w.heap.size w W:=by rw [hW];(repeat' (first | exact Below.refl _ _ | assumption | apply bel_drewN | apply bel_drew | apply bel_alloc | (refine bel_trans ?_ (by assumption))))
 have q0:W.cell? ⟨w.heap.size,0,none⟩=some (.int .i64 0):=by rw [hW];go_simp
 have q1:W.cell? ⟨w.heap.size,1,none⟩=some (.int .i64 0):=by rw [hW];go_simp
 have f0:W.frozen? ⟨w.heap.size,0,none⟩=false:=by rw [hW];go_simp
 have f1:W.frozen? ⟨w.heap.size,1,none⟩=false:=by rw [hW];go_simp
 have hs:w.heap.size<W.heap.size:=by rw [hW];simp
 have k3:=bel_cell HW k3;have ks:=bel_cell HW ks;have k1:=bel_cell HW k1;have k2:=bel_cell HW k2;have hG:=h.below HW h.lt;clear hW h;go_wp2_with fail;refine (gridPlace_in W q g v n hG Hn.out).mono ?_;rintro e w2 ⟨rfl,hb2⟩;have k1:=bel_cell hb2 k1;have k2:=bel_cell hb2 k2;go_wp2_with fail;refine (cO.out w2).mono ?_;rintro e w3 ⟨rfl,hb3⟩;have HB:=bel_trans hb2 hb3;have q0:=bel_cell HB q0;have q1:=bel_cell HB q1
 have f0:=(HB.frozen (p:=⟨w.heap.size,0,none⟩) hs).trans f0;have f1:=(HB.frozen (p:=⟨w.heap.size,1,none⟩) hs).trans f1;go_wp2_with fail;have e5:=set_two (x:=.int .i64 xs) (y:=.int .i64 xd) q0 q1
 refine bodyPost_ret (v:=.agg #[.int .i64 xs,.int .i64 xd]) (by simp [results,Tryz.results88,go_sem,e5]) rfl ?_
 exact ⟨rfl,((bel_trans HW HB).setCell (by simp) _).setCell (by simp) _⟩
end Go.Proofs.YtokhnobcincfjaaGreatDoor
