/- Lemmas of this claim: Reach5. -/
import Derived.Test.YtnifggkjieemeaaGreatDoorKNNs15
import Derived.Test.YtnifggkjieemeaaGreatDoorRWalk
set_option linter.unusedVariables false
set_option linter.unusedSimpArgs false
set_option maxHeartbeats 800000
open Go.Proofs.Tryz
namespace Go.Proofs.YtnifggkjieemeaaGreatDoor
open Go.Lib (hid)
open Go.RowKit Go.Sort FR
variable {g:G}{x y:Int}
def iH(g:G)(x y:Int):Nat:=if g.fault x≠0 then g.fault x else g.fault y
def Fb(x y:Int)(k:Nat):Int:=if k=0 then x else y
theorem JK{k:Nat}(h:∀j,j<k->g.fault (Fb x y j)=0)(z:k<2)(m:g.fault (Fb x y k)≠0):iH g x y=g.fault (Fb x y k):=by
 unfold iH;rcases(show k=0\/k=1 by omega)with rfl|rfl
 .exact if_pos m
 .have:=h 0 om
  rw[if_neg (λu=>u this)];rfl
theorem R9(h:∀j,j<2->g.fault (Fb x y j)=0):iH g x y=0:=by
 unfold iH;rw[if_neg (λk=>k (h 0 om))];exact h 1 om
theorem LB(h:iH g x y=0):g.fault x=0/\g.fault y=0:=by
 unfold iH at h;by_cases e:g.fault x=0
 .rw[if_neg (λk=>k e)]at h;exact⟨e,h⟩
 .rw[if_pos e]at h;exact absurd h e
theorem WQ(w:World)(T:TypeId)(x y:Int)(k:Nat)(h:k<2):(w.alloc (.cells #[rI x,rI y] T)).cell? ⟨w.heap.size,k,none⟩=some (rI (Fb x y k)):=by
 rcases(show k=0\/k=1 by omega)with rfl|rfl<;>go_simp<;>rfl
theorem Cr(z:Int):((z<0\/(g.n:Int)<=z)/\g.fault z=1)\/(∃c:Nat,z=c/\c<g.n/\g.b c=true/\g.fault z=4)\/(∃c:Nat,z=c/\c<g.n/\g.b c=false/\g.fault z=0):=by
 by_cases h:z<0\/(g.n:Int)<=z
 .exact .inl ⟨h,G.uE h⟩
 .obtain⟨c,rfl⟩:=Zj (show 0<=z by omega)
  have m:c<g.n:=om;have:=G.bQ m;cases k:g.b c with
  |true=>exact .inr (.inl ⟨c,rfl,m,k,by rw[this,k];rfl⟩)
  |false=>exact .inr (.inr ⟨c,rfl,m,k,by rw[this,k];rfl⟩)
theorem Bt(w:World)(p:Nat)(g:G)(v x y:Int)(h:aC w p g v):Calls prog 139 #[vP p,rI x,rI y] w (Rt w (Vs (iH g x y))):=by
 have S:=h.lt;have HG:=hid h;clear h;go_enter func139,ntmps139;go_wp2_with fail;have F:=hid (λk(hk:k<2)=>WQ w 3 x y k hk);have U:Below w.heap.size w (w.alloc (.cells #[rI x,rI y] 3)):=ah br;obtain⟨W,hW⟩:∃z,w.alloc (.cells #[rI x,rI y] 3)=z:=⟨_,rfl⟩;rw[hW]at F U⊢;obtain⟨B,hB⟩:=rX w.heap.size;have aa:B<W.heap.size:=by rw[<-hW,<-hB];simp
 rw[hB]at F⊢;clear hW;go_loopw [15] (λkv wr=>∃k:Nat,k<=2/\kv=rI k/\(∀j,j<k->g.fault (Fb x y j)=0)/\Below W.heap.size W wr) (λkv _=>2-(intOf kv).toNat)
 case atStart=>exact⟨0,om,rfl,λj hj=>om,br⟩
 case round=>
  obtain⟨k,hk,rfl,M,P⟩:=hrel;have u:=hid M;clear M;have m:=ae U P;by_cases R:k<2
  .have hc:=(P.cell (p:=⟨B,k,none⟩) aa).trans (F.out k R)
   obtain⟨z,hz⟩:=rX (Fb x y k);rw[hz]at hc;have Hz:=hid hz;clear hz;rcases Cr (g:=g) z with⟨ho,O⟩|⟨c,rfl,Q,hb,O⟩|⟨c,rfl,Q,hb,O⟩
   .have e:iH g x y=1:=by rw[JK u.out R (by rw[Hz.out,O];decide),Hz.out,O]
    have L:=hid (λT h'=>mY T p g v z h' ho);have Z:=hid e;clear e O ho;go_wp2_with fail;(with_reducible refine(L.out _ (HG.out.below m S)).mono ?_);rintro e w2 ⟨rfl,J⟩;have I:=ae m J;go_wp2;go_ret;exact⟨by rw[Z.out];rfl,I⟩
   .have e:iH g x y=4:=by rw[JK u.out R (by rw[Hz.out,O];decide),Hz.out,O]
    have L:=λT h'=>dQ T p g v c h' Q;rw[hb]at L;have L:=hid L;have Z:=hid e;clear e O hb;go_wp2_with fail;(with_reducible refine(L.out _ (HG.out.below m S)).mono ?_);rintro e w2 ⟨rfl,J⟩;have I:=ae m J;go_wp2;go_ret;exact⟨by rw[Z.out];rfl,I⟩
   .have L:=λT h'=>dQ T p g v c h' Q
    rw[hb]at L;have L:=hid L
    have M:∀j,j<k+1->g.fault (Fb x y j)=0:=λj hj=>by
     by_cases e:j=k
     .rw[e,Hz.out,O]
     .exact u.out j om
    have u:=hid M;clear M O hb;go_wp2_with fail;(with_reducible refine(L.out _ (HG.out.below m S)).mono ?_);rintro e w2 ⟨rfl,J⟩;have I:=ae P J;clear hc J P m L;go_wp2;go_roundw
    case rel=>refine rR ?_;exact⟨k+1,om,by go_num,u.out,I⟩
    case measure=>exact rM
  .obtain rfl:k=2:=om
   have Z:=hid (R9 u.out);go_wp2;go_ret;exact⟨by rw[Z.out];rfl,m⟩
theorem OT{k:Nat}(h:k≠0):Vs k=.iface 54 (rI (k:Nat)):=if_neg h
theorem zZ(w:World)(p:Nat)(g:G)(v x y:Int)(f:Nat)(h:aC w p g v)(z:iH g x y=f)(u:f≠0):Calls prog 87 #[vP p,rI x,rI y] w (Rt w (.tuple #[.bool false,.iface 54 (rI (f:Nat))])):=by
 have k:=Bt w p g v x y h;rw[z,OT u]at k;have k:=hid k;clear h z u;go_enter func87,ntmps87;go_wp2_with fail;(with_reducible refine k.out.mono ?_);rintro e F ⟨rfl,m⟩;go_wp2;go_ret2;exact⟨rfl,m⟩
theorem JL(w:World)(p:Nat)(g:G)(v:Int)(ca cb:Nat)(h:aC w p g v)(k:ca<g.n)(m:cb<g.n)(u:g.b ca=false)(z:g.b cb=false):Calls prog 139 #[vP p,rI (ca:Nat),rI (cb:Nat)] w λe B=>e=.returned .nilIface/\Below w.heap.size w B:=by
 have:=Bt w p g v ca cb h
 have e:iH g ca cb=0:=by
  unfold iH;rw[G.bQ k,G.bQ m,u,z];rfl
 rw[e]at this;exact this
theorem tH(w:World)(p:Nat)(g:G)(v:Int)(ca cb:Nat)(t:Bool)(h:aC w p g v)(m:ca<g.n)(u:cb<g.n)(U:g.b ca=false)(Z:g.b cb=false)(M:t=true↔g.dL ca cb):Calls prog 87 #[vP p,rI (ca:Nat),rI (cb:Nat)] w (Rt w (.tuple #[.bool t,.nilIface])):=by
 have Q:=hid (JL w p g v ca cb h m u U Z);have L:=h.lt;have J:=h.1;have R:=hid (λO T=>newField O p g v ca cb T m u);have H:=hid h
 have B:t=true↔iQ (g.Rc ca cb) ((g.fI ca cb:Nat),(g.fJ ca cb:Nat)):=by
  rw[M,nD,G.Ka J u m];exact⟨λx=>⟨Zi _,Zi _,x⟩,λx=>x.2.2⟩
 have M:=hid B;clear h B;go_enter func87,ntmps87;go_wp2_with fail;(with_reducible refine Q.out.mono ?_);rintro e w1 ⟨rfl,k⟩;go_wp2_with fail;(with_reducible refine(R.out _ (H.out.below k L)).mono ?_);rintro e w2 ⟨b,mo,mk,rfl,P,z⟩;have F:=ae k z;have S:=hid (sH w2 b p mo mk g v ca cb _ _ t P M.out);clear P k z;go_wp2_with fail;(with_reducible refine S.out.mono ?_);rintro e w3 ⟨rfl,I⟩;have F:=ae F I;go_wp2;go_ret2;exact⟨rfl,F⟩
