/- Lemmas of this claim: RTx2. -/
import Derived.Test.YtokhnobcincfjaaGreatDoorRTx1
import Derived.Test.YtokhnobcincfjaaGreatDoorTxPrint
set_option linter.unusedVariables false
set_option linter.unusedSimpArgs false
set_option maxHeartbeats 1000000
set_option maxRecDepth 100000
namespace Go.Proofs.YtokhnobcincfjaaGreatDoor
open Go.Lib (hid)
open Go.RowKit Go.Sort FR
theorem Un(H L:List UInt8)(b:Bool):bs (H++L)++bs [Dm b]++bs [10]=bs (H++(L++[Dm b]++[10])):=by rw[oQ,oQ];simp
theorem Um(H L:List UInt8)(b:Bool):bs (H++L)++bs [Dm b]=bs (H++(L++[Dm b]++[])):=by rw[oQ];simp
theorem ME(w:World)(p:Nat)(g:G)(v:Int)(h:aB w p g v):Calls Tryz.prog 18 #[.pointer (some ⟨p,0,none⟩)] w λe w'=>e=.returned (.string (bs (di g)))/\Below w.heap.size w w':=by
 obtain⟨o1,o2,o3,o4⟩:=h.1;obtain⟨k1,k2⟩:=h.size;have l1:(Lib.decDigits g.h).length<=19:=iP g.h (by omega);have l2:(Lib.decDigits g.w).length<=19:=iP g.w (by omega);have hh:=zq g;have c1:=hid (λ(wx:World)=>Ck g.h (by omega) wx);have c2:=hid (λ(wx:World)=>Ck g.w (by omega) wx);have hm:=FT g h.1;obtain⟨D1,S⟩:∃D,Lib.decDigits g.h=D:=⟨_,rfl⟩;obtain⟨D2,T⟩:∃D,Lib.decDigits g.w=D:=⟨_,rfl⟩;obtain⟨H,hH⟩:∃H,hdr g=H:=⟨_,rfl⟩;have U:di g=H++cellsS g (g.h*g.w):=by rw[<-hH];rfl
 rw[U];obtain⟨N,hN⟩:∃N,g.h*g.w=N:=⟨_,rfl⟩;rw[hN];rw[hH]at hh hm;rw[S]at l1 hh c1;rw[T]at l2 hh c2;clear S T hH U;have ai:=cell_regrown k1;have al:=cell_regrown k2;have ab:=Below.refl w.heap.size w;go_enter Tryz.func18,Tryz.ntmps18;go_wp2_with fail;refine wp_region_quiet_below (by kernel_rfl) (by kernel_rfl) ?_;repeat (first|go_big_quiet_step ((first|(with_reducible exact Calls.regrown_of (c1.out _))|(with_reducible exact Calls.regrown_of (c2.out _))))|quiet_step ((first|(with_reducible exact Calls.regrown_of (c1.out _))|(with_reducible exact Calls.regrown_of (c2.out _)))))
 refine wpQuiet_nil ?_;intro _ F;obtain⟨⟨B,osq⟩,k⟩:=F;have P:=aa ab (below_regrown w B osq);have u:=below_regrown w B osq;subst k;generalize grow (redrawn w B) osq=W at P u⊢;clear ai al u c1 c2 l1 l2 hh;have am:N<=256:=by rw[<-hN];exact Nat.mul_le_mul o4 o2
 have eN:(g.w:Int)*g.h=(N:Nat):=by rw[<-hN,Nat.mul_comm];simp
 have wN:IntKind.i64.wrap (N:Int)=(N:Nat):=IntWalk.i64_in _ (by omega);have ww:IntKind.i64.wrap ((g.w:Int)-1)=(g.w:Int)-1:=IntWalk.i64_in _ (by omega);have w0:(g.w:Int)≠0:=by omega
 replace h:=hid h;clear ab osq B;go_wp2_with fail;go_loopw [3,4] (λs i wr=>∃c:Nat,c<=N/\i=.int .i64 (c:Nat)/\s=.string (bs (H++cellsS g c))/\Below w.heap.size w wr) (λ_ i _=>N-(intOf i).toNat)
 case atStart=>exact⟨0,by omega,rfl,by simp[cellsS],P⟩
 case round=>
  clear P W;obtain⟨c,hc,rfl,rfl,P⟩:=hrel;have hp:=h.out.lt;have j1:=(P.cell (p:=⟨p,0,none⟩) hp).trans k1;have j2:=(P.cell (p:=⟨p,1,none⟩) hp).trans k2;have ac:=cell_regrown j1;have ag:=cell_regrown j2;by_cases an:c<N
  .have q:(c:Int)<N:=by omega
   have M:=(P.cell (p:=⟨p,2+c,none⟩) hp).trans (h.out.bit c (by omega));have Z:=iW g c;go_wp2_with fail;refine wp_region_quiet_below (by kernel_rfl) (by kernel_rfl) ?_;repeat (first|go_big_quiet_step (fail)|quiet_step (fail))
   refine wpQuiet_nil ?_;intro _ F;obtain⟨⟨B,osq⟩,k⟩:=F;have I:=aa P (below_regrown wr B osq);have u:=below_regrown wr B osq;subst k;generalize grow (redrawn wr B) osq=R at I u⊢;clear M j1 j2 ac ag P u B osq;have M:=(I.cell (p:=⟨p,2+c,none⟩) hp).trans (h.out.bit c (by omega));have j1:=(I.cell (p:=⟨p,0,none⟩) hp).trans k1;have ac:=cell_regrown j1;obtain⟨z,hz⟩:∃z,c%g.w=z:=⟨_,rfl⟩;have ap:(c:Int).tmod g.w=(z:Nat):=by rw[Int.tmod_eq_emod_of_nonneg (by omega),<-hz];simp
   have O:=ic g c;rw[hz]at O;clear hz;obtain⟨b,hb⟩:∃b,g.b c=b:=⟨_,rfl⟩;rw[hb]at O M;clear hb;have ad:(cellsS g c).length<=600:=by omega
   clear Z;obtain⟨L,hL⟩:∃L,cellsS g c=L:=⟨_,rfl⟩;rw[hL]at O ad⊢;clear hL;have ao:=hm.2;by_cases Q:z=g.w-1
   .have qz:(z:Int)=(g.w:Int)-1:=by omega
    rw[if_pos Q]at O;replace O:=hid O;clear Q;cases b<;>
    .go_wp2_with fail
     refine wp_region_quiet_below (by kernel_rfl) (by kernel_rfl) ?_;repeat (first|go_big_quiet_step (fail)|quiet_step (fail))
     refine wpQuiet_nil ?_;intro _ F;obtain⟨⟨B,osq⟩,k⟩:=F;have J:=aa I (below_regrown R B osq);have u:=below_regrown R B osq;subst k;generalize grow (redrawn R B) osq=W2 at J u⊢;go_wp2_with fail;go_roundw
     case rel=>exact⟨c+1,by omega,by go_num,by rw[O.out];first|exact congrArg Value.string (Un H L false)|exact congrArg Value.string (Un H L true),J⟩
     case measure=>simp[intOf];omega
   .have qz:(z:Int)≠(g.w:Int)-1:=by omega
    rw[if_neg Q]at O;replace O:=hid O;clear Q;cases b<;>
    .go_wp2_with fail
     refine wp_region_quiet_below (by kernel_rfl) (by kernel_rfl) ?_;repeat (first|go_big_quiet_step (fail)|quiet_step (fail))
     refine wpQuiet_nil ?_;intro _ F;obtain⟨⟨B,osq⟩,k⟩:=F;have J:=aa I (below_regrown R B osq);have u:=below_regrown R B osq;subst k;generalize grow (redrawn R B) osq=W2 at J u⊢;go_wp2_with fail;go_roundw
     case rel=>exact⟨c+1,by omega,by go_num,by rw[O.out];first|exact congrArg Value.string (Um H L false)|exact congrArg Value.string (Um H L true),J⟩
     case measure=>simp[intOf];omega
  .obtain rfl:c=N:=by omega
   go_wp2_with fail;refine wp_region_quiet_below (by kernel_rfl) (by kernel_rfl) ?_;repeat (first|go_big_quiet_step (fail)|quiet_step (fail))
   refine wpQuiet_nil ?_;intro _ F;obtain⟨⟨B,osq⟩,k⟩:=F;have I:=aa P (below_regrown wr B osq);have u:=below_regrown wr B osq;subst k;generalize grow (redrawn wr B) osq=R at I u⊢;go_wp2_with fail;go_ret;exact⟨rfl,I⟩
