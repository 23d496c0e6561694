/- Lemmas of this claim: NavN, NavS0. -/
import Derived.Test.YtnifggkjieemeaaGreatDoorRTx7
import Derived.Test.YtnifggkjieemeaaGreatDoorKNNs44
set_option linter.unusedVariables false
set_option linter.unusedSimpArgs false
set_option maxHeartbeats 6400000
set_option maxRecDepth 100000
open Go.Proofs.Tryz
namespace Go.Proofs.YtnifggkjieemeaaGreatDoor
open Go.Lib (hid)
open Go.RowKit Go.Sort FR Go.Lib
variable {m n:Nat}{A:Option Addr}{w:World}
def Mx(a b c:Int):Prop:=(1<=a/\a<=16/\1<=b/\b<=16)/\1<=c/\c<=6
def BS(w:World)(a b c:Int)(e:Ending)(w':World):Prop:=
 (¬Mx a b c/\e=.returned (.tuple #[.pointer none,.iface 54 (rI 1)])/\Below w.heap.size w w')\/
 ∃m s,Mx a b c/\c=((m:Nat):Int)/\e=.returned (.tuple #[vP s,.nilIface])/\Gs w.heap.size w' s ⟨a.toNat,b.toNat,λ_=>false⟩ 0 m/\Below w.heap.size w w'
theorem P7(w:World)(a b c:Int):Calls prog 7 #[rI a,rI b,rI c] w (BS w a b c):=by
 go_enter func7,ntmps7;by_cases k:1<=a/\a<=16/\1<=b/\b<=16
 .go_wp2_with fail
  (with_reducible refine(H8 a b _ k).mono ?_);rintro e L ⟨O,rfl,hp0,z,u⟩;by_cases I:c<1\/6<c
  .have B:=hid (wZ L O _ _ c z I)
   have J:Hid (¬Mx a b c):=hid (λh=>by unfold Mx at h;omega);clear z I k;go_wp2_with fail;refine B.out.mono ?_;rintro e Q ⟨rfl,g⟩;go_wp2_with fail;go_ret2;exact .inl ⟨J.out,rfl,ae u g⟩
  .obtain⟨m,rfl⟩:=Zj (show 0<=c by omega)
   have P:Hid (Mx a b m):=hid ⟨k,om⟩;have B:=hid (yX L O _ _ m z om om);clear z I k;go_wp2_with fail;refine B.out.mono ?_;intro e Q M;obtain⟨s,rfl,F,g⟩:=M.fr u hp0;replace F:=hid F;clear M;go_wp2_with fail;go_ret2;exact .inr ⟨m,s,P.out,rfl,rfl,F.out,g⟩
 .have J:Hid (¬Mx a b c):=hid (λh=>k h.1)
  go_wp2_with fail;(with_reducible refine(wL a b _ k).mono ?_);rintro e L ⟨rfl,rfl⟩;clear k;go_wp2_with fail;go_ret2;exact .inl ⟨J.out,rfl,br⟩
def dA(w:World)(x q:Nat)(g:G)(v:Int)(m:Nat):Prop:=
 w.heap[x]? =some (.cells #[vP q,rI (m:Nat)] 41 (0,0))/\aG w q g v/\x≠q
theorem dA.below{w w':World}{x q:Nat}{g:G}{v:Int}(h:dA w x q g v m)(k:Below w.heap.size w w'):dA w' x q g v m:=
 ⟨(k.block x (Za.1 h.1).1).trans h.1,h.2.1.below k h.2.1.lt,h.2.2⟩
theorem dA.new{w W:World}{q:Nat}{g:G}{v:Int}(h:aG w q g v)(k:W=w.alloc (.cells #[vP q,rI (m:Nat)] 41 (0,0))):dA W w.heap.size q g v m:=by
 subst k;exact⟨heap_alloc_new _ _,h.below (ah br) h.lt,by have:=h.lt;omega⟩
def NR(w:World)(a b c:Int)(e:Ending)(w':World):Prop:=
 (¬Mx a b c/\e=.returned (.tuple #[.pointer none,rI 1])/\Below w.heap.size w w')\/
 ∃m x q,Mx a b c/\c=((m:Nat):Int)/\e=.returned (.tuple #[vP x,rI 0])/\dA w' x q ⟨a.toNat,b.toNat,λ_=>false⟩ 0 m/\(w.heap.size<=x/\w.heap.size<=q)/\Below w.heap.size w w'
theorem Qv(w:World)(a b c:Int):Calls prog 8 #[rI a,rI b,rI c] w (NR w a b c):=by
 go_enter func8,ntmps8;by_cases k:1<=a/\a<=16/\1<=b/\b<=16
 .go_wp2_with fail
  (with_reducible refine(Ku a b _ k).mono ?_);rintro e M ⟨L,rfl,hp0,u,g⟩;by_cases z:c<1\/6<c
  .have B:Hid (¬Mx a b c):=hid (λh=>by unfold Mx at h;omega)
   clear u k;rcases z with z|z
   .go_wp2_with fail
    go_ret2;exact .inl ⟨B.out,rfl,g⟩
   .have I:¬c<1:=om
    go_wp2_with fail;go_ret2;exact .inl ⟨B.out,rfl,g⟩
  .obtain⟨m,rfl⟩:=Zj (show 0<=c by omega)
   have J:Hid (Mx a b m):=hid ⟨k,om⟩;have O:¬(m:Int)<1:=om;have P:¬6<(m:Int):=om;replace u:=hid u;have F:=g.size;clear z k;go_wp2_with fail;go_ret2;exact .inr ⟨m,_,L,J.out,rfl,rfl,dA.new u.out rfl,⟨F,hp0⟩,ah g⟩
 .have B:Hid (¬Mx a b c):=hid (λh=>k h.1)
  go_wp2_with fail;(with_reducible refine(Fw a b _ k).mono ?_);rintro e M ⟨rfl,rfl⟩;clear k;go_wp2_with fail;go_ret2;exact .inl ⟨B.out,rfl,br⟩
def Gq(w:World)(l:List UInt8)(most:Int)(e:Ending)(w':World):Prop:=
 (∃k:Nat,0<k/\e=.returned (.tuple #[.pointer none,rI (k:Nat)])/\Below w.heap.size w w'/\((bK l=.bad k)\/((∃a b R,bK l=.ok a b R)/\(most<1\/6<most)/\k=1)))\/
 ∃a b R m x q,bK l=.ok a b R/\most=((m:Nat):Int)/\1<=m/\m<=6/\e=.returned (.tuple #[vP x,rI 0])/\dA w' x q (eT a b R (b*a)) (iN (fq a R) (b*a)) m/\(w.heap.size<=x/\w.heap.size<=q)/\Below w.heap.size w w'
theorem MP(w:World)(l:List UInt8)(most:Int):Calls prog 11 #[.string (bs l),rI most] w (Gq w l most):=by
 have J:=hid (VX w l);go_enter func11,ntmps11;go_wp2_with fail;refine J.out.mono ?_
 rintro e U (⟨k,u,L,rfl,g⟩|⟨a,b,R,p,u,rfl,M,B,g⟩)
 .replace u:=hid u
  go_wp2_with fail;go_ret2;exact .inl ⟨k,L,rfl,g,.inl u.out⟩
 .replace u:=hid u
  by_cases z:most<1\/6<most
  .clear B
   have I:=hid z;rcases z with z|z
   .go_wp2_with fail
    go_ret2;exact .inl ⟨1,rD,rfl,g,.inr ⟨⟨a,b,R,u.out⟩,I.out,rfl⟩⟩
   .have O:¬most<1:=om
    go_wp2_with fail;go_ret2
    exact .inl ⟨1,rD,rfl,g,.inr ⟨⟨a,b,R,u.out⟩,I.out,rfl⟩⟩
  .obtain⟨m,rfl⟩:=Zj (show 0<=most by omega)
   have P:1<=m:=om;have Q:m<=6:=om;have S:¬(m:Int)<1:=om;have T:¬6<(m:Int):=om;replace B:=hid B;have F:=g.size;clear z;go_wp2_with fail;go_ret2;exact .inr ⟨a,b,R,m,_,p,u.out,rfl,P,Q,rfl,dA.new B.out rfl,⟨F,M⟩,ah g⟩
theorem Cc.below{w w':World}{F:Nat->qB}(h:Cc w A n F)(z:Below w.heap.size w w'):Cc w' A n F:=⟨λJ=>by
 obtain⟨b,o,e,I,g⟩:=h.at_ J;exact⟨b,o,e,Zf I z.size,λk u=>⟨λj v B=>af z ((g k u).1 j v B),⟨(g k u).2.1.1.below z,(g k u).2.1.2⟩,(g k u).2.2.1.below z,(g k u).2.2.2⟩⟩,h.len⟩
theorem AV{b o n m k:Nat}(h:A=some ⟨b,o,none⟩)(u:k<n)(g:World):(Instr.indexAt 22 (.slice A n m) (rI (k:Nat))).run prog g=.ok (.pointer (some ⟨b,o+k*6,none⟩)) g:=by
 subst h;have q:(k:Int)<(n:Int):=om;go_simp
theorem Cc.cells{F:Nat->qB}(h:Cc w A n F){k:Nat}(u:k<n):∃b o,A=some ⟨b,o,none⟩/\b<w.heap.size/\w.cell? ⟨b,o+k*6,none⟩=some (.string (F k).kind)/\w.cell? ⟨b,o+k*6+1,none⟩=some (rI (F k).a)/\w.cell? ⟨b,o+k*6+2,none⟩=some (rI (F k).b)/\w.cell? ⟨b,o+k*6+3,none⟩=some (.slice (F k).eA (F k).eN (F k).eM)/\w.cell? ⟨b,o+k*6+4,none⟩=some (.slice (F k).qA (F k).qN (F k).qM)/\w.cell? ⟨b,o+k*6+5,none⟩=some (.string (F k).s)/\(F k).At w:=by
 obtain⟨b,o,e,z,g⟩:=h.at_ om;obtain⟨c,a⟩:=g k u;exact⟨b,o,e,z,c 0 _ rfl,c 1 _ rfl,c 2 _ rfl,c 3 _ rfl,c 4 _ rfl,c 5 _ rfl,a⟩
def UW(F:Nat->qB)(n:Nat):Prop:=n<=25/\∀k,k<n->(F k).eN<=80/\(F k).qN<=50
def UX(w:World)(F:Nat->qB)(n:Nat)(e:Ending)(w':World):Prop:=∃t:Bool,e=.returned (.bool t)/\(t=true->UW F n)/\Below w.heap.size w w'
theorem Mg(w:World)(A:Option Addr)(n m:Nat)(F:Nat->qB)(h:Cc w A n F):Calls prog 6 #[.slice A n m,rI 25] w (UX w F n):=by
 have Q:=hid h;have hl:=h.len;clear h;go_enter func6,ntmps6;by_cases ac:25<n
 .go_wp2_with fail
  go_ret;exact⟨false,rfl,rS,br⟩
 go_wp2_with fail;go_loopw [5] (λS wr=>∃k:Nat,k<=n/\S=rI (k:Nat)/\Hid (∀j,j<k->(F j).eN<=80/\(F j).qN<=50)/\Below w.heap.size w wr) (λS _=>n-(intOf S).toNat)
 case atStart=>exact⟨0,Zw _,rfl,hid (λj Z=>absurd Z om),br⟩
 case round=>
  obtain⟨k,hk,rfl,g,P⟩:=hrel;by_cases M:k<n
  .obtain⟨ba,o,L,_,_,_,_,x3,x4,x5,_⟩:=(Q.out.below P).cells M
   have R:=λwx=>AV (A:=A) (m:=m) L M wx;obtain⟨ok,O⟩:=rX (o+k*6);rw[O]at x3 x4 x5 R;obtain⟨U,B⟩:=rX ((F k).eN);obtain⟨qn,I⟩:=rX ((F k).qN);rw[B]at x3;rw[I]at x4;have T:=hid (rN B I);have J:=hid P;clear O L B I P;by_cases ag:80<U
   .go_wp2_with fail
    go_ret;exact⟨false,rfl,rS,J.out⟩
   have ab:decide (80<(U:Int))=false:=so;by_cases ad:50<qn
   .go_wp2_with fail
    go_ret;exact⟨false,rfl,rS,J.out⟩
   have aa:decide (50<(qn:Int))=false:=so;by_cases hs:1200<((F k).s.size:Int)
   .go_wp2_with fail
    go_ret;exact⟨false,rfl,rS,J.out⟩
   have u:Hid (∀j,j<k+1->(F j).eN<=80/\(F j).qN<=50):=hid (λj Z=>by
    by_cases e:j=k
    .rw[e,T.out.1,T.out.2];omega
    .exact g.out j om)
   clear g;go_wp2;go_roundw
   case rel=>refine rR ?_;exact⟨k+1,om,by go_num,u,J.out⟩
   case measure=>exact rM
  .obtain rfl:n=k:=om
   go_wp2_with fail;go_ret
   exact⟨true,rfl,λ_=>⟨om,g.out⟩,P⟩
theorem FH(w:World):Calls prog 5 #[] w (Rt w (.bool true)):=by
 go_enter func5,ntmps5;go_wp2_with fail;(with_reducible refine(P7 _ 3 2 2).mono ?_);rintro e w1 (⟨hn,_⟩|⟨m,s,_,hm,rfl,hS,R⟩)
 .exact absurd (by unfold Mx;omega) hn
 obtain rfl:m=2:=om;obtain⟨T,O,Q⟩:=hS;replace O:fT w1 s O1 0 2 T:=O;have Z:=O.lt;have HT:=hid O;have u:=hid (rN Q (rN R Z));clear hm O Q R Z;go_wp2_with fail;refine(wX _ s O1 0 2 T (HT.out.below (ah br)) (some ⟨w1.heap.size,0,none⟩) 1 1 f32 ?_ rD ?_ rD ?_).mono ?_
 .intro _
  refine⟨w1.heap.size,0,rfl,rS,λk hk=>?_⟩;obtain rfl:k=0:=om;refine⟨?_,?_⟩<;>(rw[Lib.cell_of_heap (heap_alloc_new _ _)];rfl)
 .intro _ ad e hm
  injection e with e
  subst e;exact absurd (u.out.2.2 _ hm) rS
 .intro j hj
  exact⟨(by decide:(0:Int)<=1),(by decide:(1:Int)<((O1.n:Nat):Int))⟩
 rintro e w2 ⟨rfl,T',P,_,hK⟩;rw[n32];have I:Hid (Below w.heap.size w w2):=hid (Kept.below (ah u.out.2.1) hK (by have:=u.out.2.1.size;simp;omega) u.out.1);have cA:=hid (PZ w2 s Gg _ 2 ⟨T',P⟩ 0 2);clear P hK HT u;go_wp2_with fail;refine cA.out.mono ?_;rintro e F ⟨W,c,er,A,m,hA,rfl,hI,ab,S⟩;obtain⟨rfl,rfl,rfl⟩:=WN hA;have HI:=hid hI;have J:=hid (ae I.out S);clear hA hI ab cA S I
 rw[show(Value.agg #[.slice A ([0,3,4,5,2]:List Nat).length m,rI (⟨4,0⟩:C).s,rI (⟨4,0⟩:C).d,rI ((0:Nat):Int)])=.agg #[.slice A 5 m,rI 4,rI 0,rI 0]from rfl];go_upto_region 6 with(fail);refine aB ?_;intro z g;have B:Below F.heap.size F z:=by rw[g];exact be
 have c0:z.cell? ⟨F.heap.size,0,none⟩=some (.slice A 5 m):=by rw[g];go_simp
 have c1:z.cell? ⟨F.heap.size,1,none⟩=some (rI 4):=by rw[g];go_simp
 have c2:z.cell? ⟨F.heap.size,2,none⟩=some (rI 0):=by rw[g];go_simp
 have c3:z.cell? ⟨F.heap.size,3,none⟩=some (rI 0):=by rw[g];go_simp
 have L:=hid (ae J.out B);have M:=hid (HI.out.below B);clear g B HI J;go_wp2_with fail;(with_reducible refine(Df _).mono ?_);rintro e w' ⟨rfl,rfl⟩;go_wp2_with fail;refine(FC _ A (some ⟨z.heap.size,0,none⟩) 5 m 5 (λk=>(cK [0,3,4,5,2]).getD k 0) (M.out.below (ah br)) ?_ rD).mono ?_
 .intro _
  refine⟨⟨z.heap.size,0,none⟩,rfl,rS,λk hk=>?_⟩;rw[Addr.add_lit,Zx,Lib.cell_of_heap (heap_alloc_new _ _)];rcases(show k=0\/k=1\/k=2\/k=3\/k=4 by omega)with rfl|rfl|rfl|rfl|rfl<;>rfl
 rintro e w5 ⟨rfl,U⟩;have aa:=hid (ae (ah L.out) U);clear U L M;go_wp2;go_ret;exact⟨rfl,aa.out⟩
theorem Cf(w:World)(s x q:Nat)(g:G)(v v':Int)(mo ay:Nat)(hS:gH w s g v mo)(hx:dA w x q g v' ay)(A:Option Addr)(n m:Nat)(f:Nat->Int×Int)(hA:qC w A n f)(hl:n<=9223372036854775807):Calls prog 16 #[vP s,vP x,.slice A n m] w (Rt w (.bool true)):=by
 by_cases ar:40<n
 .go_enter func16,ntmps16
  go_wp2_with fail;refine(zX w s A n m ar hl).mono ?_;rintro e w1 ⟨rfl,u⟩;clear hS hx hA;go_wp2_with fail;(with_reducible refine(jV 2 _ rD).mono ?_);rintro e w2 ⟨rfl,rfl⟩;go_wp2;go_ret;exact⟨rfl,u⟩
 .have HA:=hid hA
  have T:=hid hx;have cB:=hid (P6 w s g v mo hS A n m f hA om);clear hS hx hA;go_enter func16,ntmps16;go_wp2_with fail;refine cB.out.mono ?_;rintro e w1 ⟨vv,rfl,⟨L,hL,hO,M⟩,u⟩;obtain⟨AL,mL,rfl,I,aw⟩:=hO.ans
  rw[hL]at M⊢;have ao:=hid M;have HL:=hid hL;have R:=hid I;have al:=hid u;have ap:=hid (T.out.below u);have ai:=hid (HA.out.below u);clear hL hO M I aw cB u HA T;go_wp2_with fail;go_loopw [9] (λiv wr=>∃(k:Nat),k<=n/\iv=rI (k:Nat)/\Below w1.heap.size w1 wr) (λiv _=>n-(intOf iv).toNat)
  case atStart=>exact⟨0,Zw _,rfl,br⟩
  case round=>
   obtain⟨j,hj,rfl,B⟩:=hrel;by_cases P:j<n
   .obtain⟨ba,o,Z,_,hc⟩:=(ai.out.below B) om
    obtain⟨x1,x2⟩:=hc j P;have aa:=λwx=>EG (A:=A) (m:=m) Z P wx;obtain⟨⟨fa,fb⟩,Q⟩:=rX (f j);rw[Q]at x1 x2;simp only at x1 x2;obtain⟨ok,ad⟩:=rX (o+j*2);rw[ad]at x1 x2 aa;obtain⟨U,O⟩:∃U,L[j]? =some U:=⟨_,Zc (by rw[HL.out];omega)⟩;obtain⟨gA,eA,a0,a1,a2,a3⟩:=(R.out.below B) j U O;obtain⟨W2,⟨aS,aE⟩,aq,F,e1,e2,e3,e4,J,_⟩:=(ao.out j U O).1.below B;rw[Q]at F;obtain⟨A2,n2,m2,s2,d2,z2⟩:=U;simp only at a0 a1 a2 a3 e1 e2 e3 e4 J F;subst e1;subst e2;subst e3;subst e4;have ab:=λwx=>LM (m:=mL) eA P wx;obtain⟨jo,ac⟩:=rX (j*4);rw[ac]at a0 a1 a2 a3 ab;have kx:=ap.out.below B;have ag:wr.cell? ⟨x,0,none⟩=some (vP q):=by rw[Lib.cell_of_heap kx.1];rfl
    have cR:=hid (λw'(hb:Below wr.heap.size wr w')=>Qw w' x q g v' (af hb ag) (kx.2.1.below hb kx.2.1.lt) fa fb A2 W2.length m2 W2 rfl s2 d2 aq F.1 (J.below hb));have q1:=ZE x1;have q2:=ZE x2;have q3:=ZE a0;have q4:=ZE a1;have q5:=ZE a2;have q6:=ZE a3;have am:=Below.refl wr.heap.size wr;replace B:=hid B;clear Z hc Q ad O eA F J ac kx ag;go_upto_region 9 with(fail);refine qb am cR.out λw3 S ax=>?_;have HF:=hid (ae B.out S);clear S ax cR x1 x2 a0 a1 a2 a3 q1 q2 q3 q4 q5 q6 aa ab B;go_wp2;go_roundw
    case rel=>refine rR ?_;exact⟨j+1,om,by go_num,HF.out⟩
    case measure=>exact rM
   .obtain rfl:n=j:=om
    go_wp2;go_ret;exact⟨rfl,ae al.out B⟩
