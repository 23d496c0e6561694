/- Lemmas of this claim: AsGraph, Links, HntA, SrG, Nav2. -/
import Derived.Test.YtokhnobcincfjaaGreatDoorGSet4
import Derived.Test.YtokhnobcincfjaaGreatDoorNav1
import Derived.Test.YtokhnobcincfjaaGreatDoorKNEd37
set_option linter.unusedVariables false
set_option linter.unusedSimpArgs false
set_option maxHeartbeats 1600000
set_option maxRecDepth 100000
namespace Go.Proofs.YtokhnobcincfjaaGreatDoor
open Go.Lib (hid)
open Go.RowKit Go.Sort FR Go.Lib
variable {g:G}{S:LS}{tp:Nat}{fin:Nat->Option C}
theorem Ns:Walk UH.E 1 2 ⟨1,0⟩:=Walk.single ⟨by decide+kernel,2,by decide,by decide+kernel,by decide+kernel,rfl⟩
theorem G8{f:FuncId}{u:Func}{c:Code}(F:Tryz.prog.funcs[f]? =some u)(k:(u.name== "runtime.NumGoroutine")=false)(B:u.body=some c)(args:Array Value)(w:World):(callFunc f args).run Tryz.prog w=.ok (.enter f args) w:=by
 have z:u.name≠ "runtime.NumGoroutine":=by simpa using k
 simp[callFunc,F,z,B]
def rV(g:G)(x:Nat)(n:Nat):C:=if n=256 then C.zero else g.bV n x
theorem Ce(g:G)(x:Nat):rV g x 256=C.zero:=if_pos rfl
theorem Gh(k:g.ok)(x:Nat){n:Nat}(u:n<g.n):rV g x n=g.bV n x:=if_neg (by have:=G.bR k;omega)
theorem Ep(k:g.ok){x:Nat}(z:x<g.n):∀j,g.ak j->0<=(rV g x j).s/\(rV g x j).s<=1000/\0<=(rV g x j).d/\(rV g x j).d<=1000:=λj u=>by
 rw[Gh k x u.1];have:=G.yj k z u.1;omega
theorem MN(H:LS.Fin g tp S){mark:Nat->Bool}{a b:Nat}{p:C}(B:Walk (Ah S tp mark fin) a b p)(I:a≠256):(b≠256->Walk g.GE a b p)/\(b=256->∃t d e,Walk g.GE a t d/\fin t=some e/\p=C.add d e):=by
 induction B with
 |nil=>exact⟨λ_=>.nil _,λe=>absurd e I⟩
 | @snoc m b d e B J F=>
  rcases J with⟨z,u,_,k,M⟩|⟨z,u,L⟩
  .exact⟨λ_=>(F.1 z).trans (H.walk _ _ _ _ M),λe=>absurd e u⟩
  .exact⟨λe=>absurd u e,λ_=>⟨m,d,e,F.1 z,L,rfl⟩⟩
theorem MM{mark:Nat->Bool}{b:Nat}{p:C}(u:Walk (Ah S tp mark fin) 256 b p):p=C.zero/\b=256:=by
 induction u with
 |nil=>exact⟨rfl,rfl⟩
 | @snoc m b d e u B z=>
  rcases B with⟨k,_⟩|⟨k,_⟩
  .exact absurd z.2 k
  .exact absurd z.2 k
theorem Rh(Q:g.ok)(H:LS.Fin g tp S){inn:List Ed}{x:Nat}(P:∀e∈inn,∀t:Nat,e.to_=t->C.le (g.bV t x) e.c)(u:Nat->Bool)(f:Int->Option C)(O:jM inn inn.length f):∀j t d,Walk (Ah S tp u (wD f)) j t d->t=256->C.le (rV g x j) d:=by
 intro j t d z R;by_cases k:j=256
 .subst k
  rw[Ce,(MM z).1];exact C.le_refl _
 .obtain⟨B,U,e,F,I,rfl⟩:=(MN H z k).2 R
  obtain⟨y,T,J,rfl⟩:=O.some_ _ _ I;have L:=P y T B J;have M:rV g x j=g.bV j x:=if_neg k;rw[M];exact C.le_trans (G.Gi g j B x) (C.add_le_add (G.Mi (G.yS F)) L)
theorem KY(I:World)(b3 S b2 s q:Nat)(g:G)(v:Int)(y:Nat)(hy:y<g.n)(U:I.cell? ⟨b3,0,none⟩=some (.pointer (some ⟨s,0,none⟩)))(Z:I.cell? ⟨s,0,none⟩=some (.pointer (some ⟨q,0,none⟩)))(L:I.cell? ⟨S,0,none⟩=some (.int .i64 (g.X y:Nat)))(M:I.cell? ⟨b2,0,none⟩=some (.int .i64 (g.Y y:Nat)))(P:az I q g v):kQ I 88 #[.pointer (some ⟨b3,0,none⟩),.pointer (some ⟨S,0,none⟩),.pointer (some ⟨b2,0,none⟩)] g (rV g y):=by
 refine⟨G8 Tryz.func88 (by kernel_rfl) rfl,λw J n T=>?_⟩;show Calls Tryz.prog _ #[.int .i64 (n:Nat),.pointer (some ⟨b3,0,none⟩),.pointer (some ⟨S,0,none⟩),.pointer (some ⟨b2,0,none⟩)] w _;have h:=P.below J P.lt;have k:=h.1;have ac:=G.bR k;have l1:=G.jw k n;have l2:=G.jw k y;have l3:=G.iM T.1;have l4:=G.iM hy;obtain⟨o1,o2,o3,o4⟩:=k;obtain⟨z,hz⟩:∃z,rV g y n=z:=⟨_,rfl⟩;have Q:dh ((g.X n:Nat)-(g.X y:Nat)) ((g.Y n:Nat)-(g.Y y:Nat))=z:=by rw[<-hz,Gh h.1 y T.1];rfl
 have R:=λw=>oW (g.X n:Nat) (g.Y n:Nat) (g.X y:Nat) (g.Y y:Nat) w (by omega) (by omega) (by omega) (by omega);rw[Q]at R;replace R:=hid R;have U:=ae J U;have Z:=ae J Z;have L:=ae J L;have M:=ae J M;rw[hz];obtain⟨xs,xd⟩:=z;have Hn:=hid T.1;clear hz Q J P T l1 l2 l3 l4 hy;go_enter Tryz.func88,Tryz.ntmps88;go_upto_region 1 with(fail);refine au ?_;intro W u;have F:Below w.heap.size w W:=by rw[u];(repeat' (first|exact Below.refl _ _|assumption|apply aj|apply ah|apply af|(refine aa ?_ (by assumption))))
 have q0:W.cell? ⟨w.heap.size,0,none⟩=some (.int .i64 0):=by rw[u];go_simp
 have q1:W.cell? ⟨w.heap.size,1,none⟩=some (.int .i64 0):=by rw[u];go_simp
 have f0:W.frozen? ⟨w.heap.size,0,none⟩=false:=by rw[u];go_simp
 have f1:W.frozen? ⟨w.heap.size,1,none⟩=false:=by rw[u];go_simp
 have hs:w.heap.size<W.heap.size:=by rw[u];simp
 have U:=ae F U;have Z:=ae F Z;have L:=ae F L;have M:=ae F M;have P:=h.below F h.lt;clear u h;go_wp2_with fail;refine(aU W q g v n P Hn.out).mono ?_;rintro e w2 ⟨rfl,B⟩;have L:=ae B L;have M:=ae B M;go_wp2_with fail;refine(R.out w2).mono ?_;rintro e w3 ⟨rfl,ab⟩;have O:=aa B ab;have q0:=ae O q0;have q1:=ae O q1
 have f0:=(O.frozen (p:=⟨w.heap.size,0,none⟩) hs).trans f0;have f1:=(O.frozen (p:=⟨w.heap.size,1,none⟩) hs).trans f1;go_wp2_with fail;have e5:=dF (x:=.int .i64 xs) (y:=.int .i64 xd) q0 q1
 refine bodyPost_ret (v:=.agg #[.int .i64 xs,.int .i64 xd]) (by simp[results,Tryz.results88,go_sem,e5]) rfl ?_;exact⟨rfl,((aa F O).setCell (by simp) _).setCell (by simp) _⟩
