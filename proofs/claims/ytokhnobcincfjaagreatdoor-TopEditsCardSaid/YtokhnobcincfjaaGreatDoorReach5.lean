/- Lemmas of this claim: Reach5. -/
import Derived.Test.YtokhnobcincfjaaGreatDoorKNEd13
import Derived.Test.YtokhnobcincfjaaGreatDoorRWalk
set_option linter.unusedVariables false
set_option linter.unusedSimpArgs false
set_option maxHeartbeats 800000
namespace Go.Proofs.YtokhnobcincfjaaGreatDoor
open Go.Lib (hid)
open Go.RowKit Go.Sort FR
variable {g:G}{x y:Int}
def eP(g:G)(x y:Int):Nat:=if g.fault x≠0 then g.fault x else g.fault y
def Cc(x y:Int)(k:Nat):Int:=if k=0 then x else y
theorem FP{k:Nat}(h:∀j,j<k->g.fault (Cc x y j)=0)(B:k<2)(u:g.fault (Cc x y k)≠0):eP g x y=g.fault (Cc x y k):=by
 unfold eP;rcases(show k=0\/k=1 by omega)with rfl|rfl
 .exact if_pos u
 .have:=h 0 (by omega)
  rw[if_neg (λz=>z this)];rfl
theorem Ot(h:∀j,j<2->g.fault (Cc x y j)=0):eP g x y=0:=by
 unfold eP;rw[if_neg (λk=>k (h 0 (by omega)))];exact h 1 (by omega)
theorem Ip(h:eP g x y=0):g.fault x=0/\g.fault y=0:=by
 unfold eP at h;by_cases e:g.fault x=0
 .rw[if_neg (λk=>k e)]at h;exact⟨e,h⟩
 .rw[if_pos e]at h;exact absurd h e
theorem SI(w:World)(T:TypeId)(x y:Int)(k:Nat)(h:k<2):(w.alloc (.cells #[.int .i64 x,.int .i64 y] T)).cell? ⟨w.heap.size,k,none⟩=some (.int .i64 (Cc x y k)):=by
 rcases(show k=0\/k=1 by omega)with rfl|rfl<;>go_simp<;>rfl
theorem zg(z:Int):((z<0\/(g.n:Int)<=z)/\g.fault z=1)\/(∃c:Nat,z=c/\c<g.n/\g.b c=true/\g.fault z=4)\/(∃c:Nat,z=c/\c<g.n/\g.b c=false/\g.fault z=0):=by
 by_cases h:z<0\/(g.n:Int)<=z
 .exact .inl ⟨h,G.rE h⟩
 .obtain⟨c,rfl⟩:=Int.eq_ofNat_of_zero_le (show 0<=z by omega)
  have u:c<g.n:=by omega
  have:=G.aN u;cases k:g.b c with
  |true=>exact .inr (.inl ⟨c,rfl,u,k,by rw[this,k];rfl⟩)
  |false=>exact .inr (.inr ⟨c,rfl,u,k,by rw[this,k];rfl⟩)
theorem yz(w:World)(p:Nat)(g:G)(v x y:Int)(h:az w p g v):Calls Tryz.prog 137 #[.pointer (some ⟨p,0,none⟩),.int .i64 x,.int .i64 y] w λe U=>e=.returned (Rb (eP g x y))/\Below w.heap.size w U:=by
 have T:=h.lt;have HG:=hid h;clear h;go_enter Tryz.func137,Tryz.ntmps137;go_wp2_with fail;have I:=hid (λk(hk:k<2)=>SI w 3 x y k hk);have Z:Below w.heap.size w (w.alloc (.cells #[.int .i64 x,.int .i64 y] 3)):=af (Below.refl _ _);obtain⟨W,hW⟩:∃z,w.alloc (.cells #[.int .i64 x,.int .i64 y] 3)=z:=⟨_,rfl⟩;rw[hW]at I Z⊢;obtain⟨B,hB⟩:∃z,w.heap.size=z:=⟨_,rfl⟩;have ab:B<W.heap.size:=by rw[<-hW,<-hB];simp
 rw[hB]at I⊢;clear hW;go_loopw [15] (λkv wr=>∃k:Nat,k<=2/\kv=.int .i64 k/\(∀j,j<k->g.fault (Cc x y j)=0)/\Below W.heap.size W wr) (λkv _=>2-(intOf kv).toNat)
 case atStart=>exact⟨0,by omega,rfl,λj hj=>by omega,Below.refl _ _⟩
 case round=>
  obtain⟨k,hk,rfl,O,Q⟩:=hrel;have F:=hid O;clear O;have u:=aa Z Q;by_cases S:k<2
  .have hc:=(Q.cell (p:=⟨B,k,none⟩) ab).trans (I.out k S)
   obtain⟨z,hz⟩:∃z,Cc x y k=z:=⟨_,rfl⟩;rw[hz]at hc;have Hz:=hid hz;clear hz;rcases zg (g:=g) z with⟨ho,P⟩|⟨c,rfl,R,hb,P⟩|⟨c,rfl,R,hb,P⟩
   .have e:eP g x y=1:=by rw[FP F.out S (by rw[Hz.out,P];decide),Hz.out,P]
    have M:=hid (λU h'=>iR U p g v z h' ho);have He:=hid e;clear e P ho;go_wp2_with fail;(with_reducible refine(M.out _ (HG.out.below u T)).mono ?_);rintro e w2 ⟨rfl,L⟩;have J:=aa u L;go_wp2;go_ret;exact⟨by rw[He.out];rfl,J⟩
   .have e:eP g x y=4:=by rw[FP F.out S (by rw[Hz.out,P];decide),Hz.out,P]
    have M:=λU h'=>dC U p g v c h' R;rw[hb]at M;have M:=hid M;have He:=hid e;clear e P hb;go_wp2_with fail;(with_reducible refine(M.out _ (HG.out.below u T)).mono ?_);rintro e w2 ⟨rfl,L⟩;have J:=aa u L;go_wp2;go_ret;exact⟨by rw[He.out];rfl,J⟩
   .have M:=λU h'=>dC U p g v c h' R
    rw[hb]at M;have M:=hid M
    have O:∀j,j<k+1->g.fault (Cc x y j)=0:=λj hj=>by
     by_cases e:j=k
     .rw[e,Hz.out,P]
     .exact F.out j (by omega)
    have F:=hid O;clear O P hb;go_wp2_with fail;(with_reducible refine(M.out _ (HG.out.below u T)).mono ?_);rintro e w2 ⟨rfl,L⟩;have J:=aa Q L;clear hc L Q u M;go_wp2;go_roundw
    case rel=>first|exact⟨k+1,by omega,by go_num,F.out,J⟩|((repeat apply Exists.intro);exact⟨⟨k+1,by omega,by go_num,F.out,J⟩,rfl⟩)
    case measure=>simp[intOf];omega
  .obtain rfl:k=2:=by omega
   have He:=hid (Ot F.out);go_wp2;go_ret;exact⟨by rw[He.out];rfl,u⟩
theorem KQ{k:Nat}(h:k≠0):Rb k=.iface 45 (.int .i64 (k:Nat)):=if_neg h
theorem xz(w:World)(p:Nat)(g:G)(v x y:Int)(f:Nat)(h:az w p g v)(B:eP g x y=f)(z:f≠0):Calls Tryz.prog 83 #[.pointer (some ⟨p,0,none⟩),.int .i64 x,.int .i64 y] w λe F=>e=.returned (.tuple #[.bool false,.iface 45 (.int .i64 (f:Nat))])/\Below w.heap.size w F:=by
 have k:=yz w p g v x y h;rw[B,KQ z]at k;have k:=hid k;clear h B z;go_enter Tryz.func83,Tryz.ntmps83;go_wp2_with fail;(with_reducible refine k.out.mono ?_);rintro e I ⟨rfl,u⟩;go_wp2;go_ret2;exact⟨rfl,u⟩
theorem FQ(w:World)(p:Nat)(g:G)(v:Int)(ca k:Nat)(h:az w p g v)(u:ca<g.n)(z:k<g.n)(B:g.b ca=false)(F:g.b k=false):Calls Tryz.prog 137 #[.pointer (some ⟨p,0,none⟩),.int .i64 (ca:Nat),.int .i64 (k:Nat)] w λe I=>e=.returned .nilIface/\Below w.heap.size w I:=by
 have:=yz w p g v ca k h
 have e:eP g ca k=0:=by
  unfold eP;rw[G.aN u,G.aN z,B,F];rfl
 rw[e]at this;exact this
theorem qN(w:World)(p:Nat)(g:G)(v:Int)(ca k:Nat)(t:Bool)(h:az w p g v)(z:ca<g.n)(B:k<g.n)(ha:g.b ca=false)(hb:g.b k=false)(P:t=true↔g.dz ca k):Calls Tryz.prog 83 #[.pointer (some ⟨p,0,none⟩),.int .i64 (ca:Nat),.int .i64 (k:Nat)] w λe Q=>e=.returned (.tuple #[.bool t,.nilIface])/\Below w.heap.size w Q:=by
 have S:=hid (FQ w p g v ca k h z B ha hb);have O:=h.lt;have M:=h.1;have T:=hid (λQ Z=>newField Q p g v ca k Z z B);have H:=hid h
 have I:t=true↔gQ (g.Nk ca k) ((g.fI ca k:Nat),(g.fJ ca k:Nat)):=by
  rw[P,lD,G.Gg M B z];exact⟨λx=>⟨Nat.le_refl _,Nat.le_refl _,x⟩,λx=>x.2.2⟩
 have P:=hid I;clear h I;go_enter Tryz.func83,Tryz.ntmps83;go_wp2_with fail;(with_reducible refine S.out.mono ?_);rintro e w1 ⟨rfl,u⟩;go_wp2_with fail;(with_reducible refine(T.out _ (H.out.below u O)).mono ?_);rintro e w2 ⟨b,mo,mk,rfl,R,F⟩;have J:=aa u F;have U:=hid (qi w2 b p mo mk g v ca k _ _ t R P.out);clear R u F;go_wp2_with fail;(with_reducible refine U.out.mono ?_);rintro e w3 ⟨rfl,L⟩;have J:=aa J L;go_wp2;go_ret2;exact⟨rfl,J⟩
