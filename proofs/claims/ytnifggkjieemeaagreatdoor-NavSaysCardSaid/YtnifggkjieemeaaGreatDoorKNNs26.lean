/- Lemmas of this claim: Lv9, Lv10, Lv11, Lv12, Lv13, Cn, LvA1, LvA2, RLv1, RLv2, RLv3, RLv4, RLv5, RLv6, RLv8. -/
import Derived.Test.YtnifggkjieemeaaGreatDoorLv8
import Derived.Test.YtnifggkjieemeaaGreatDoorKNNs9
set_option linter.unusedVariables false
set_option linter.unusedSimpArgs false
set_option maxHeartbeats 6400000
set_option maxRecDepth 100000
open Go.Proofs.Tryz
namespace Go.Proofs.YtnifggkjieemeaaGreatDoor
section
open Go.Lib (hid)
open Go.RowKit Go.Sort FR Go.Lib
variable {g:G}{E:Int->Option (List Ed)}{S:LS}{Sb:List Nat}{b me ml n nl tp:Nat}
theorem Em(w:World)(B:Nat)(v:Value)(L:List Ed)(h:bf w B v L)(hl:L.length<=100000):Calls prog 107 #[v] w (Ca w L):=by
 obtain⟨i0,z0,hi,aa,ab,ac,ad⟩:=fV;have hq:∀(w:World)(a:Option Addr)(n c n' U:Nat),(binOp .eql 119 (.slice a n c) (.slice none n' U)).run prog w=.ok (.bool a.isNone) w:=λw a n c n' U=>Lib.run_eql_slice_nil w _ _ a n c n' U underlying119;rcases h.2 with⟨rfl,h0⟩|⟨g,Z,ag,rfl,_,hg,_,_,_,J⟩
 .have:L=[]:=List.eq_nil_of_length_eq_zero h0
  subst this;go_enter func107,ntmps107;go_wp2;go_ret;exact⟨_,rfl,bf.nil _ _,br⟩
 .have P:∀j u,(dM L)[j]? =some u->w.cell? ((⟨g,0,none⟩:Addr).add j)=some u:=λj u T=>by
   rw[Addr.add_lit,Zx];rw[<-J,ZA]at T;split at T
   .rw[ZB]at T
    simp[World.cell?,hg,T]
   .cases T
  have ai:g<w.heap.size:=(Za.1 hg).1;have F:=bE L;have M:=xH L;obtain⟨n,hn⟩:=rX L.length;obtain⟨X,S⟩:=rX (dM L);rw[hn]at hl F⊢;rw[S]at P F M;have Hn:=hid (rN hn S);clear hn S J hg h;go_enter func107,ntmps107;go_wp2_with (at_builtin;(refine wpList_append_own _ rfl _ _ 119 rfl w.heap.size 192 i0 z0 4 32 underlying119 hi aa ab ac ad rD _ _ _ rfl (World.ownsRow_made w #[] 0 (Zi _) (Zw _) rfl) ⟨g,0,none⟩ n Z X rfl F (λj u hj=>Lib.cell?_alloc_some _ (P j u hj)) M (by unfold maxLen;omega) om rS ?_);intro v' w1 O z R)
  have I:bf w1 w.heap.size v' L:=by
   unfold bf;rw[Hn.out.1,Hn.out.2];simpa using O
  have Q:Below w.heap.size w w1:=((Below.refl _ w).alloc (Zi _) _).grown z rS (λk hk=>(World.ownsRow.lt (World.ownsRow_made (e:=192) (size:=4) w #[] 0 (Zi _) (Zw _) rfl) k hk).1);have m:Ca w L (.returned v') w1:=⟨_,rfl,I,Q⟩;have m:=hid m;clear O z R I Q;go_wp2;go_ret;exact m.out
theorem Ey(w:World)(b p M:Nat)(S:List Nat)(g:G)(v:Int)(E:Int->Option (List Ed))(h:aJ w b p M S g v E)(c:Int)(L:List Ed)(F:E c=some L)(hl:L.length<=100000):Calls prog 56 #[vP b,rI c] w (vV w L):=by
 obtain⟨P,_,⟨V,N,R,T,U,_,_,_,_⟩,_⟩:=h;have aa:w.cell? ⟨b,1,none⟩=some (.map (some M)):=by simp[World.cell?,P]
 obtain⟨u,J⟩:∃u,V c=some u:=by
  cases hV:V c with
  |none=>rw[(T c).2 hV]at F;cases F
  |some u=>exact⟨u,rfl⟩
 have Q:=U c u L J F
 have I:(Instr.lookup 124 (.map (some M)) (rI c) true).run prog w=.ok (.tuple #[u,.bool true]) w:=by
  have:=(R.look (aF underlying3) underlying124 (z:=.slice none 0 0) (by simp[zeroValue119]) c).1;rw[J]at this;exact this
 have O:=hid (Em w 0 u L Q hl);clear P R T U J Q F;go_enter func56,ntmps56;go_wp2_with fail;(with_reducible refine O.out.mono ?_);rintro e w1 ⟨Z,rfl,m,B⟩;have k:vV w L (.returned (.tuple #[Z,.nilIface])) w1:=⟨Z,rfl,m,B⟩;have k:=hid k;clear m B I O;go_wp2;go_ret2;exact k.out
open Classical in
noncomputable def CP(g:G)(i:Nat)(z:Int):Option Value:=if ∃j,j<i/\z=(cf g j:Nat)then some (rI 0)else none
open Classical in
noncomputable def R6(g:G)(i:Nat)(z:Int):Option (List Ed):=if ∃j,j<i/\z=(cf g j:Nat)then some (dZ (LS.first g) g.n z.toNat)else none
theorem Me(g:G):CP g 0=λ_=>none:=by
 funext z;unfold CP;rw[if_neg];rintro⟨j,h,_⟩;omega
theorem OQ(g:G):R6 g 0=λ_=>none:=by
 funext z;unfold R6;rw[if_neg];rintro⟨j,h,_⟩;omega
theorem Md(g:G)(i:Nat):aN (CP g i) ((cf g i:Nat):Int) (some (rI 0))=CP g (i+1):=by
 funext z;unfold aN CP;by_cases e:z=(cf g i:Nat)
 .rw[if_pos e,if_pos ⟨i,om,e⟩]
 .rw[if_neg e]
  by_cases h:∃j,j<i/\z=(cf g j:Nat)
  .obtain⟨j,m,k⟩:=h
   rw[if_pos ⟨j,m,k⟩,if_pos ⟨j,om,k⟩]
  .rw[if_neg h,if_neg]
   rintro⟨j,m,k⟩;by_cases q:j=i
   .subst q;exact e k
   .exact h ⟨j,om,k⟩
theorem OP(g:G)(i:Nat):bT (R6 g i) ((cf g i:Nat):Int) (some (dZ (LS.first g) g.n (cf g i)))=R6 g (i+1):=by
 funext z;unfold bT R6;by_cases e:z=(cf g i:Nat)
 .rw[if_pos e,if_pos ⟨i,om,e⟩,e];simp
 .rw[if_neg e]
  by_cases h:∃j,j<i/\z=(cf g j:Nat)
  .obtain⟨j,m,k⟩:=h
   rw[if_pos ⟨j,m,k⟩,if_pos ⟨j,om,k⟩]
  .rw[if_neg h,if_neg]
   rintro⟨j,m,k⟩;by_cases q:j=i
   .subst q;exact e k
   .exact h ⟨j,om,k⟩
theorem nJ(z:Int):(∃j,j<(aA g).length/\z=(cf g j:Nat))↔(0<=z/\g.av z.toNat):=by
 constructor
 .rintro⟨j,k,rfl⟩
  exact⟨om,by simpa using(bW k).2⟩
 .rintro⟨k,m⟩
  obtain⟨j,u,B⟩:=mM m;exact⟨j,u,by rw[B];omega⟩
theorem PE(g:G):CP g (aA g).length=bN g (LS.first g):=by
 funext z;unfold CP bN;by_cases h:0<=z/\g.av z.toNat
 .rw[if_pos h,if_pos ((nJ z).2 h)];rfl
 .rw[if_neg h,if_neg (λq=>h ((nJ z).1 q))]
theorem R7(g:G):R6 g (aA g).length=eZ g (LS.first g):=by
 funext z;unfold R6 eZ;by_cases h:0<=z/\g.av z.toNat
 .rw[if_pos h,if_pos ((nJ z).2 h)]
 .rw[if_neg h,if_neg (λq=>h ((nJ z).1 q))]
theorem G7(h:bZ g (λ_ _=>True) E){c:Nat}{L:List Ed}(F:E c=some L):L=dZ (LS.first g) g.n c:=by
 obtain⟨M,O⟩:=h.2 c L F
 have z:g.av c:=by
  obtain⟨P,e,Q⟩:=(h.1 c).1 (by rw[F];simp);obtain rfl:c=P:=om;exact Q
 refine tQ (QK M) (Iz _ _ _) λe=>?_;rw[O e,eH];constructor
 .rintro⟨y,m,k,_,u,rfl⟩
  exact⟨y,m.1,rfl,LS.yK ⟨z,m,Ne.symm k,u,rfl⟩⟩
 .rintro⟨t,m,k,u⟩
  obtain⟨B,I,J⟩:=LS.jJ u;refine⟨t,B.2.1,Ne.symm B.2.2.1,trivial,B.2.2.2.1,?_⟩;cases e;simp at k I J⊢;exact⟨k,I,J⟩
theorem AJ(h:bZ g (λ_ _=>True) E){c:Nat}(m:g.av c):E c=some (dZ (LS.first g) g.n c):=by
 cases k:E c with
 |none=>exact absurd k ((h.1 c).2 ⟨c,rfl,m⟩)
 |some L=>rw[G7 h k]
theorem Ao{top n:Nat}(k:g.av n)(m:S.lev n=0):bN g (S.close (az g) top) ((n:Nat):Int)=some (rI (top:Nat)):=by
 rw[gq k];have e:(S.close (az g) top).lev n=top:=if_pos ⟨dm.2 k,m⟩;rw[e]
theorem D9{top n:Nat}(k:g.av n)(m:S.lev n≠0):bN g (S.close (az g) top) ((n:Nat):Int)=bN g S (n:Nat):=by
 rw[gq k,gq k];have e:(S.close (az g) top).lev n=S.lev n:=if_neg (λq=>m q.2);rw[e]
theorem Ld{top:Nat}{z:Int}(h:bN g S z=none):bN g (S.close (az g) top) z=none:=by
 by_cases q:0<=z/\g.av z.toNat
 .exact absurd h (sQ.2 ⟨z.toNat,om,q.2⟩)
 .exact pJ q
theorem cz.none{w:World}{k n:Nat}(h:MapAt iK w k (λ_=>Option.none) n):cz w [] k (λ_=>Option.none):=
 ⟨λ_=>Option.none,n,h,(λ_=>⟨λ_=>rfl,λ_=>rfl⟩),(λ_ _ _ h=>nomatch h),(λ_ _ _ h=>nomatch h),rS,(λ_ _ _ _ _ h=>nomatch h),rS⟩
theorem dF.top{w:World}{top k:Int}{V:Int->Option Value}(h:dF w b ml me Sb top V nl E):dF (w.setCell ⟨b,2,none⟩ (rI k)) b ml me Sb k V nl E:=by
 obtain⟨F,I,J,m,L,u,z,M⟩:=h;have B:Kept [b] w (w.setCell ⟨b,2,none⟩ (rI k)):=(Kept.refl _ _).setCell (.inl rS);refine⟨?_,I.kept B (by simpa using Ne.symm u),J.kept B (λs O=>by simp;rintro rfl;exact m O) (by simpa using Ne.symm z),m,L,u,z,M⟩;have:=aI w b 2 _ _ (rI k) F;simpa using this
theorem Mk(w:World)(b:Nat)(most:Int)(h:most<1\/6<most):Calls prog 38 #[vP b,rI most] w (Rt w (.tuple #[.pointer none,.iface 54 (rI 1)])):=by
 rcases h with h|h
 .go_enter func38,ntmps38
  go_wp2;go_ret2;exact⟨rfl,br⟩
 .have m:¬most<1:=om
  go_enter func38,ntmps38;go_wp2;go_ret2;exact⟨rfl,br⟩
def Wx(w:World)(g:G)(most:Nat)(e:Ending)(w':World):Prop:=
 ∃b ml me Sb nl,e=.returned (.tuple #[vP b,.nilIface])/\dF w' b ml me Sb ((LS.all g (az g) most).2:Nat) (bN g (LS.all g (az g) most).1) nl (eZ g (LS.all g (az g) most).1)/\(∀k∈b::ml::me::Sb,w.heap.size<=k)/\Below w.heap.size w w'
def U5(W:World)(b ml me:Nat)(g:G)(most gk:Nat)(wr:World):Prop:=
 ∃k tp K S Sb nl,dF wr b ml me Sb (tp:Nat) (bN g S) nl (eZ g S)/\LS.Inv g g.n tp K S (λ_=>false)/\(∀a,S.lev a<tp)/\K<=15*2^(tp-1)/\1<=tp/\tp+k=most/\LS.rounds g.n (az g) k tp S=LS.rounds g.n (az g) (most-1) 1 (LS.first g)/\(∀i∈b::ml::me::Sb,W.heap.size<=i)/\Below W.heap.size W wr/\k<=gk
def Yc(W:World)(b ml me:Nat)(g:G)(most gk:Nat)(wr:World):Prop:=
 ∃k tp K S Sb nl,dF wr b ml me Sb (tp:Nat) (bN g S) nl (eZ g S)/\LS.Inv g g.n (tp+1) K S (λ_=>false)/\(∀a,S.lev a<tp+1)/\K<=15*2^tp/\1<=tp/\tp+1+k=most/\LS.rounds g.n (az g) k (tp+1) S=LS.rounds g.n (az g) (most-1) 1 (LS.first g)/\(∀i∈b::ml::me::Sb,W.heap.size<=i)/\Below W.heap.size W wr/\k<gk
def XO(W:World)(b ml me:Nat)(g:G)(most:Nat)(wr:World):Prop:=
 ∃S tp Sb nl,dF wr b ml me Sb (tp:Nat) (bN g S) nl (eZ g S)/\(S,tp)=LS.rounds g.n (az g) (most-1) 1 (LS.first g)/\(∀i∈b::ml::me::Sb,W.heap.size<=i)/\Below W.heap.size W wr
theorem U5.done{W wr:World}{most tp:Nat}(h:dF wr b ml me Sb (tp:Nat) (bN g S) nl (eZ g S))(u:LS.rounds g.n (az g) 0 tp S=LS.rounds g.n (az g) (most-1) 1 (LS.first g))(k:∀i∈b::ml::me::Sb,W.heap.size<=i)(m:Below W.heap.size W wr):XO W b ml me g most wr:=
 ⟨S,tp,Sb,nl,h,u,k,m⟩
theorem U5.round{W wr w':World}{b ml me nl k K gk:Nat}{most tp:Nat}{e:Ending}(z:LS.Inv g g.n tp K S (λ_=>false))(ab:∀a,S.lev a<tp)(Z:K<=15*2^(tp-1))(Q:1<=tp)(hk:tp+(k+1)=most)(J:LS.rounds g.n (az g) (k+1) tp S=LS.rounds g.n (az g) (most-1) 1 (LS.first g))(B:∀i∈b::ml::me::Sb,W.heap.size<=i)(L:Below W.heap.size W wr)(aa:k+1<=gk)(U:Gr wr b ml me nl Sb tp g S e w'):∃t:Bool,e=.returned (.bool t)/\((t=true/\Yc W b ml me g most gk w')\/(t=false/\XO W b ml me g most w')):=by
 obtain⟨he,u,M,R,T⟩:=U
 have F:∀i∈b::ml::me::u,W.heap.size<=i:=λi m=>by
  rcases Zd.1 m with r|m
  .exact B i (by simp[r])
  rcases Zd.1 m with r|m
  .exact B i (by simp[r])
  rcases Zd.1 m with r|m
  .exact B i (by simp[r])
  rcases R i m with r|r
  .exact B i (by simp[r])
  .exact Zg L.size r
 have I:Below W.heap.size W w':=Kept.below L T L.size (λi m=>B i (List.mem_cons_of_mem _ m));have O:=LS.lU (az g) ⟨S,λ_=>false,false⟩ z (λn hn=>dm.1 hn);refine⟨_,he,?_⟩;change (if(RS.run g.n tp (az g) S).some_=true then LS.rounds g.n (az g) k (tp+1) (RS.run g.n tp (az g) S).S else((RS.run g.n tp (az g) S).S,tp))=_ at J;cases P:(RS.run g.n tp (az g) S).some_ with
 |true=>
  rw[P,if_pos rfl]at J;refine .inl ⟨rfl,k,tp,2*K,_,u,nl,M,O.next,λa=>Nat.lt_succ_of_le (O.levs a),?_,Q,om,J,F,I,om⟩;obtain⟨j,rfl⟩:∃j,tp=j+1:=⟨tp-1,om⟩;rw[Nat.pow_succ];simp only[Nat.add_sub_cancel]at Z;omega
 |false=>
  rw[P,if_neg rS]at J;exact .inr ⟨rfl,_,tp,u,nl,M,J,F,I⟩
theorem I6{K tp:Nat}(u:K<=15*2^(tp-1))(h:tp<=6):K<=1000:=by
 have k:2^(tp-1)<=2^5:=Nat.pow_le_pow_right om om;have m:15*2^(tp-1)<=15*2^5:=Nat.mul_le_mul_left _ k;omega
def Xv(W:World)(b ml me r:Nat)(Sb:List Nat)(tp:Nat)(g:G)(S:LS)(wr:World):Prop:=
 ∃m left cnt nl,aO iK wr ml r m left cnt/\dF wr b ml me Sb (tp:Nat) m nl (eZ g S)/\(∀z,left z->m z=bN g S z)/\(∀z,¬left z->m z=bN g (S.close (az g) tp) z)/\Kept [ml,r] W wr
theorem EU(w:World)(gb gp a2:Nat)(GS:List Nat)(g:G)(v:Int)(GE:Int->Option (List Ed))(most:Nat)(h:aJ w gb gp a2 GS g v GE)(hs:bZ g (λ_ _=>True) GE)(h1:1<=most)(h2:most<=6):Calls prog 38 #[vP gb,rI (most:Nat)] w (Wx w g most):=by
 have b3:=h.2.1.1;have hn:=G.bA b3;have cE:=@run_makeMap prog;have bz:¬(most:Int)<1:=om;have b0:¬(6:Int)<(most:Int):=om;have HG:=hid h;have Hs:=hid hs;have bi:=hid b3;have Hn:=hid hn;clear h hs b3 hn;go_enter func38,ntmps38;go_upto_region 4 with(fail);refine aB ?_;intro W4 aq;have bh:Below w.heap.size w W4:=by rw[aq];exact be
 obtain⟨I,cr⟩:=rX w.heap.size;obtain⟨me,cD⟩:=rX (I+1);obtain⟨b,hb⟩:=rX (me+1);rw[cr]at aq⊢;rw[cD]at aq⊢;rw[hb];have cQ:W4.heap.size=b+1:=by rw[aq];simp;omega
 have cb:dF W4 b I me [] ((1:Nat):Int) (CP g 0) 0 (R6 g 0):=by
  have q1:MapAt iK (w.alloc (.map #[] 0)) w.heap.size (λ_=>none) 0:=MapAt.made w;have q2:MapAt iK ((w.alloc (.map #[] 0)).alloc (.map #[] 0)) (w.alloc (.map #[] 0)).heap.size (λ_=>none) 0:=MapAt.made _;rw[Me,OQ,aq];refine⟨?_,?_,?_,rS,rS,om,om,om⟩
  .have:=heap_alloc_new ((w.alloc (.map #[] 0)).alloc (.map #[] 0)) (.cells #[.map (some I),.map (some me),rI 1] 171 (0,0))
   have e:((w.alloc (.map #[] 0)).alloc (.map #[] 0)).heap.size=b:=so;rw[e]at this;exact this
  .rw[cr]at q1
   exact(q1.below (ah br)).below (ah br)
  .refine cz.none (n:=0) ?_
   have e:(w.alloc (.map #[] 0)).heap.size=me:=so;rw[e]at q2;exact q2.below (ah br)
 have b6:=hid cb;have bk:=HG.out.below bh;have cB:=HG.out;have b5:=hid bk;have cN:=hid (kC W4 gb gp a2 GS g v GE bk Hs.out.1);clear aq cb bk cB cE;go_wp2_with fail;(with_reducible refine cN.out.mono ?_);rintro e w5 ⟨A,m,rfl,cq,hI,hA,aE⟩;obtain⟨aw,ao⟩:=rX ((aA g).length);rw[ao]at hI cq⊢;have cm:aw<=256:=by rw[<-ao];exact bM bi.out
 have a7:=hid ao;have HI:=hid hI;have HA:=hid (show∀ad,A=some ad->ad.block∉[I,me]from λad e=>by have:=(hA ad e).1;simp;omega);have cx:=hid (b6.out.below aE);have cv:=hid (b5.out.below aE);have b4:=ae bh aE;have cS:b<w5.heap.size:=by have:=aE.size;omega
 have b9:∀k∈gb::gp::a2::GS,k<I:=λk J=>by
  obtain⟨g1,g2,⟨V,N,q1,q2,q3,q4,q5,q6,q7⟩,g4⟩:=HG.out;rcases Zd.1 J with r|J
  .have:=(Za.1 g1).1;omega
  rcases Zd.1 J with r|J
  .have:=g2.lt;omega
  rcases Zd.1 J with r|J
  .have:=q1.lt;omega
  .have:=q7 k J;omega
 have cw:=hid b9;clear hI hA ao cq cN b6 b5 aE bh b9;go_wp2_with fail;obtain⟨wz,rfl⟩:∃wz:World,wz=w5:=⟨_,rfl⟩
 go_loopw [25] (λkv wr=>∃(i:Nat)(Sb:List Nat)(nl:Nat),kv=rI i/\i<=aw/\dF wr b I me Sb ((1:Nat):Int) (CP g i) nl (R6 g i)/\(∀k∈Sb,wz.heap.size<=k)/\Kept [I,me] wz wr) (λkv _=>aw-(intOf kv).toNat)
 case atStart=>exact⟨0,[],0,rfl,om,cx.out,λk J=>by simp at J,Kept.refl _ _⟩
 case round=>
  obtain⟨i,Sb,nl,rfl,hi,Q,a4,hK⟩:=hrel;have R:=hid (rN Q (rN a4 hK));by_cases bx:i<aw
  .have a3:=HI.out.kept hK HA.out
   obtain⟨ad,bj⟩:=a3.addr om;rw[bj]at a3;have cO:=λwx=>aP (m:=m) bj bx wx;have hE:=a3.cell br bx;obtain⟨c1,c2⟩:=bW (g:=g) (i:=i) (by rw[a7.out];exact bx);rw[c1]at hE;have hG:=cv.out.kept hK (λk J=>by have:=cw.out k J;simp;omega);have co:=AJ Hs.out c2;have cG:=hid (λw'(hb:Below wr.heap.size wr w')=>Ey w' gb gp a2 GS g v GE (hG.below hb) (cf g i:Nat) _ co (by have:=dS (LS.first g) g.n (cf g i);have:=Hn.out;omega));obtain⟨c,hc⟩:=rX (cf g i);rw[hc]at hE cG c2;have Hc:=hid (rN hc c2);have B:wr.heap[b]? =some (.cells #[.map (some I),.map (some me),rI ((1:Nat):Int)] 171 (0,0)):=Q.1;have k0:wr.cell? ⟨b,0,none⟩=some (.map (some I)):=by simp[World.cell?,B]
   have k1:wr.cell? ⟨b,1,none⟩=some (.map (some me)):=by simp[World.cell?,B]
   obtain⟨V,N,e1,e2,e3,e4,e5,e6,e7⟩:=Q.2.2.1;have HE:=hid (rN e1 (rN e2 (rN e3 (rN e4 (rN e5 (rN e6 e7))))));have cA:b≠me:=om;clear Q a4 hK a3 bj c1 hG co hc c2 B e1 e2 e3 e4 e5 e6 e7;go_upto_region 7 with(fail);have a5:=Below.refl wr.heap.size wr
   go_region_held3 (λw'=>w'.cell? ⟨b,1,none⟩=some (.map (some me)))
    (first
     |exact k1
     |exact bo
     |exact ck)
    ((first
     |(go_at_call 56
       refine(cG.out _ (aj a5)).mono ?_;rintro e wI ⟨vE,rfl,bm,a6⟩;have bo:wI.cell? ⟨b,1,none⟩=some (.map (some me)):=af (w:=wr.drew) a6 k1;have ci:MapAt iK wI me V N:=(HE.out.1.below (aj a5)).below a6;obtain⟨wU,hU,cj,ax⟩:=ci.store (P:=prog) (aF underlying3) underlying124 (c:Nat) vE;have hU:(Instr.mapUpdate 124 (.map (some me)) (rI (c:Nat)) vE).run prog wI=.ok () wU:=hU;have ck:wU.cell? ⟨b,1,none⟩=some (.map (some me)):=aH ax (by simpa using cA) bo)))
   all_goals
    have am:Below wr.heap.size wr wI:=ae (aj a5) a6;have b8:=cz.fresh (w:=wr) HE.out.1 HE.out.2.1 HE.out.2.2.1 HE.out.2.2.2.1 HE.out.2.2.2.2.1 HE.out.2.2.2.2.2.1 HE.out.2.2.2.2.2.2 am bm cj ax
    have aS:∀k,k∈vE.ownBlock.toList->wr.heap.size<=k:=λk J=>by
     rw[Zv]at J;exact(World.ownsRow.lt bm k J).1
    have ay:=R.out.1.put b8 (λk J=>by
     rcases Zl.1 J with q|q
     .exact .inr (aS k q)
     .exact .inl q) ((Kept.of_below am).trans (ax.wid rS))
    have e1:=OP g i;rw[Hc.out.1]at e1;rw[e1]at ay
    have a9:∀k∈vE.ownBlock.toList++Sb,wz.heap.size<=k:=λk J=>by
     rcases Zl.1 J with q|q
     .exact Zg R.out.2.2.size (aS k q)
     .exact R.out.2.1 k q
    have a8:Kept [I,me] wz wU:=(R.out.2.2.trans (.of_below am)).trans (ax.wid rS);have B:wU.heap[b]? =some (.cells #[.map (some I),.map (some me),rI ((1:Nat):Int)] 171 (0,0)):=ay.1;have k0:wU.cell? ⟨b,0,none⟩=some (.map (some I)):=by simp[World.cell?,B]
    have a0:=hid (rN ay (rN a9 a8));clear bm a6 bo ci hU cj ax ck am b8 aS a9 a8 B k1 hE a5;go_wp2_with (refine bV rfl _ _ _ rfl (aF underlying3) underlying129 ay.2.1 rfl ((c:Nat):Int) rfl (rI 0) rfl ?_;intro wV b1 bw);have e2:=Md g i;rw[Hc.out.1]at e2;rw[e2]at b1;have cg:=a0.out.1.lev b1 bw
    have HF:=hid (rN cg (rN a0.out.2.1 (a0.out.2.2.trans (bw.wid rS))));clear b1 bw cg ay a0 k0 e1 e2;go_roundw
    case rel=>refine rR ?_;exact⟨i+1,_,_,by go_num,om,HF.out⟩
    case measure=>exact rM
  .obtain rfl:i=aw:=om
   have bl:=Q;rw[<-a7.out,PE,R7]at bl
   have F:∀k∈b::I::me::Sb,w.heap.size<=k:=λk J=>by
    rcases Zd.1 J with r|J
    .omega
    rcases Zd.1 J with r|J
    .omega
    rcases Zd.1 J with r|J
    .omega
    .have:=a4 k J;omega
   have M:Below w.heap.size w wr:=Kept.below b4 hK b4.size so;obtain⟨N0,cy⟩:∃N0,N0=most-1:=⟨_,rfl⟩;have hstart:U5 w b I me g most N0 wr:=⟨most-1,1,15,LS.first g,Sb,nl,bl,LS.uH bi.out g.n (Zi _),λ_=>by show(0:Nat)<1;omega,rS,om,om,rfl,F,M,om⟩;clear Q a4 hK R bl F M cy;obtain⟨wy,rfl⟩:∃wy:World,wy=wr:=⟨_,rfl⟩;go_wp2_with fail;go_loopg [] N0 (λgk wr=>U5 w b I me g most gk wr)
   case atStart=>exact hstart
   case round=>
    obtain⟨k,O,K,S,Sb,nl,Q,Z,aa,hK,bg,cI,ab,F,M,bt⟩:=hrel;clear hstart;have R:=hid Q;have L:=hid (rN Z (rN aa (rN hK ab)));have al:=hid F;have B:wr.heap[b]? =some (.cells #[.map (some I),.map (some me),rI ((O:Nat):Int)] 171 (0,0)):=Q.1;have k2:wr.cell? ⟨b,2,none⟩=some (rI ((O:Nat):Int)):=by simp[World.cell?,B]
    clear Q Z aa hK ab F B;go_upto_region 10 with(fail);go_cut [55] (λs wx=>(s=.bool true/\Yc w b I me g most gk wx)\/(s=.bool false/\XO w b I me g most wx))
    case first=>
     by_cases cC:k=0
     .subst cC
      obtain rfl:O=most:=om;have U:=hid (U5.done (W:=w) R.out L.out.2.2.2 al.out M);clear R L al;go_wp2;go_meet
      case rel=>exact .inr ⟨rfl,U.out⟩
     .obtain⟨k,rfl⟩:∃j,k=j+1:=⟨k-1,om⟩
      have cL:((O:Nat):Int)<(most:Nat):=om;have cR:=hid (SL wr b I me nl Sb O K g S bi.out L.out.1 (I6 L.out.2.2.1 om) R.out);go_wp2_with fail;(with_reducible refine cR.out.mono ?_);intro e w8 hD;obtain⟨t,rfl,hT⟩:=U5.round L.out.1 L.out.2.1 L.out.2.2.1 bg om L.out.2.2.2 al.out M bt hD;have hT:=hid hT;clear hD cR k2;go_wp2;go_meet
      case rel=>
       rcases hT.out with⟨rfl,q⟩|⟨rfl,q⟩
       .exact .inl ⟨rfl,q⟩
       .exact .inr ⟨rfl,q⟩
    case rest=>
     clear R L al k2 M;rcases hcut with⟨rfl,hT⟩|⟨rfl,U⟩
     .obtain⟨k,O,K,S,Sb,nl,Q,Z,aa,hK,bg,cI,ab,F,M,bt⟩:=hT
      have B:wc.heap[b]? =some (.cells #[.map (some I),.map (some me),rI ((O:Nat):Int)] 171 (0,0)):=Q.1;have k2:wc.cell? ⟨b,2,none⟩=some (rI ((O:Nat):Int)):=by simp[World.cell?,B]
      have kf:wc.frozen? ⟨b,2,none⟩=false:=by simp[World.frozen?,B]
      have hw:IntKind.i64.wrap (((O:Nat):Int)+1)=((O+1:Nat):Int):=by rw[IntWalk.i64_in _ om];omega
      have U:U5 w b I me g most k (wc.setCell ⟨b,2,none⟩ (rI ((O+1:Nat):Int))):=⟨k,O+1,K,S,Sb,nl,Q.top,Z,aa,by simpa using hK,om,om,ab,F,M.setCell (by simpa using F b rS) _,om⟩;have U:=hid U;clear Q Z aa hK ab F M B;go_wp2;go_roundg k
      case measure=>exact bt
      case rel=>exact U.out
     .obtain⟨S,O,Sb,nl,Q,ab,F,M⟩:=U
      have B:wc.heap[b]? =some (.cells #[.map (some I),.map (some me),rI ((O:Nat):Int)] 171 (0,0)):=Q.1;have k0:wc.cell? ⟨b,0,none⟩=some (.map (some I)):=by simp[World.cell?,B]
      have hM:=Q.2.1;have bc:=Q.qp;have R:=hid Q;have a1:=hid (rN ab F);clear Q ab B F;go_wp2_with (at_range;refine dY rfl _ rfl kY underlying129 hM rfl ?_;intro wR ac bp cH)
      try go_frame
      obtain⟨r,hr⟩:=rX wc.heap.size;rw[hr]at ac bc⊢
      have hstart:Xv wR b I me r Sb O g S wR:=⟨_,_,_,nl,ac,R.out.below bp,λz _=>rfl,λz hz=>by
       have:bN g S z=none:=Classical.not_not.1 hz;rw[this,Ld this],Kept.refl _ _⟩
      have b7:=ae M bp;have cT:w.heap.size<=r:=by rw[<-hr];exact M.size
      clear ac bp cH hM hr k0 M R;obtain⟨wv,rfl⟩:∃wv:World,wv=wR:=⟨_,rfl⟩;go_loopw [] (λwr=>Xv wv b I me r Sb O g S wr) (λwr=>wr.rangeLeft I r)
      case atStart=>exact hstart
      case round=>
       obtain⟨m3,left,cl,ct,ac,Q,bz,b0,hK⟩:=hrel;clear hstart;have hleft:=hid ac.left_eq;have Hm:=hid (rN bz b0);have R:=hid (rN Q hK);clear bz b0 Q hK;go_wp2_with (at_next;refine fD rfl _ rfl kY ac rfl ?_ ?_)
       .intro h0 hl
        have hm:m3=bN g (S.close (az g) O):=funext λz=>Hm.out.2 z (hl z)
        have U:Wx w g most (.returned (.tuple #[vP b,.nilIface])) wr:=by
         refine⟨b,I,me,Sb,ct,rfl,?_,a1.out.2,Kept.below b7 R.out.2 b7.size (by simp;have:=a1.out.2 I rS;omega)⟩;have e1:(LS.all g (az g) most).1=S.close (az g) O:=by unfold LS.all;rw[<-a1.out.1]
         have e2:(LS.all g (az g) most).2=O:=by unfold LS.all;rw[<-a1.out.1]
         rw[e1,e2,<-hm];exact R.out.1
        have U:=hid U;clear hl ac R hm;go_wp2;go_ret2;exact U.out
       .intro z u w6 Uo b2 cp bd bb bv cF cn
        have ar:=Hm.out.1 z cp;rw[b2]at ar;obtain⟨n,rfl,bq⟩:=sQ.1 (show bN g S z≠none by rw[<-ar];simp);rw[gq bq]at ar;injection ar with ar
        subst ar;have Hz:=hid (rN b2 bq);have T:=hid bd
        have cd:=R.out.1.kept bv (λk J=>by
         simp;rcases Zd.1 J with q|J
         .omega
         rcases Zd.1 J with q|J
         .omega
         rcases Zd.1 J with q|J
         .omega
         .have:=bc.2.2.2 k J;omega)
        have ca:=R.out.2.trans (bv.wid rS);have ag:=hid (rN cd ca);obtain⟨t,ht⟩:=rX (S.lev n);have Ht:=hid ht;rw[ht]at cn⊢;rw[show iK ((n:Nat):Int)=rI (n:Nat)from rfl]at cn⊢;clear b2 cp ac bd bv cF bq ht cd ca R;have cP:r≠I:=om;by_cases cs:t=0
        .subst cs
         have B:w6.heap[b]? =some (.cells #[.map (some I),.map (some me),rI ((O:Nat):Int)] 171 (0,0)):=ag.out.1.1;have k0:w6.cell? ⟨b,0,none⟩=some (.map (some I)):=by simp[World.cell?,B]
         have k2:w6.cell? ⟨b,2,none⟩=some (rI ((O:Nat):Int)):=by simp[World.cell?,B]
         obtain⟨w7,cM,ap,ai⟩:=(T.out.below (aj br)).store (P:=prog) (mt:=129) (aF underlying3) underlying129 ((n:Nat):Int) (rI ((O:Nat):Int)) (by rw[Hz.out.1];simp);obtain⟨cJ,ch⟩:=ap.map;have ce:=(ag.out.1.below (aj br)).lev ch ai;have ba:Kept [I,r] w6 w7:=(⟨ai.os,ai.tape,ai.output,ai.size,ai.block⟩:Kept [I] w6 w7).wid rS
         have U:Xv wv b I me r Sb O g S w7:=by
          refine⟨_,_,Uo,cJ,ap,ce,λz hz=>?_,λz hz=>?_,ag.out.2.trans ba⟩
          .unfold aN
           rw[if_neg hz.2];exact Hm.out.1 z hz.1
          .unfold aN
           by_cases e:z=((n:Nat):Int)
           .rw[if_pos e,e,Ao Hz.out.2 Ht.out]
           .rw[if_neg e]
            exact Hm.out.2 z (λq=>hz ⟨q,e⟩)
         have HF:=hid (rN U ap.left_eq);clear U ap ai ch ce ba B ag T;go_upto_region 16 with(fail);go_region;go_wp2;go_roundw
         case rel=>exact rR HF.out.1
         case measure=>rw[hleft.out,HF.out.2];exact bb
        .have hd:(((t:Nat):Int)==0)=false:=Zq.2 om
         have U:Xv wv b I me r Sb O g S w6:=by
          refine⟨_,_,Uo,ct,T.out,ag.out.1,λz hz=>Hm.out.1 z hz.1,λz hz=>?_,ag.out.2⟩;by_cases e:z=((n:Nat):Int)
          .rw[e,D9 Hz.out.2 (by rw[Ht.out];exact cs),gq Hz.out.2,Ht.out,Hz.out.1,Ht.out]
          .exact Hm.out.2 z (λq=>hz ⟨q,e⟩)
         have HF:=hid (rN U T.out.left_eq);clear U ag T;go_wp2;go_roundw
         case rel=>exact rR HF.out.1
         case measure=>rw[hleft.out,HF.out.2];exact bb
theorem UC(w:World)(b u me z:Nat)(k:List Nat)(top:Int)(V:Int->Option Value)(E:Int->Option (List Ed))(h:dF w b u me k top V z E):Calls prog 53 #[vP b] w λe B=>e=.returned (rI top)/\w=B:=by
 have m:w.cell? ⟨b,2,none⟩=some (rI top):=by simp[World.cell?,h.1]
 clear h;go_enter func53,ntmps53;go_wp2;go_ret;exact⟨rfl,rfl⟩
theorem jN(w:World)(b m me J:Nat)(B:List Nat)(top:Int)(V:Int->Option Value)(E:Int->Option (List Ed))(h:dF w b m me B top V J E)(z k:Int)(u:V z=some (rI k)):Calls prog 147 #[vP b,rI z] w λe L=>e=.returned (.tuple #[rI k,.nilIface])/\w=L:=by
 have I:w.cell? ⟨b,0,none⟩=some (.map (some m)):=by simp[World.cell?,h.1]
 have F:(Instr.lookup 129 (.map (some m)) (rI z) true).run prog w=.ok (.tuple #[rI k,.bool true]) w:=by
  have:=(h.2.1.look (aF underlying3) underlying129 (z:=rI 0) (by simp[zeroValue3]) z).1;rw[u]at this;exact this
 clear h u;go_enter func147,ntmps147;go_wp2;go_ret2;exact⟨rfl,rfl⟩
theorem wQ(w:World)(b k me I:Nat)(u:List Nat)(top:Int)(V:Int->Option Value)(E:Int->Option (List Ed))(h:dF w b k me u top V I E)(z:Int)(m:V z=none):Calls prog 147 #[vP b,rI z] w λe J=>e=.returned (.tuple #[rI 0,.iface 54 (rI 5)])/\w=J:=by
 have F:w.cell? ⟨b,0,none⟩=some (.map (some k)):=by simp[World.cell?,h.1]
 have B:(Instr.lookup 129 (.map (some k)) (rI z) true).run prog w=.ok (.tuple #[rI 0,.bool false]) w:=by
  have:=(h.2.1.look (aF underlying3) underlying129 (z:=rI 0) (by simp[zeroValue3]) z).1;rw[m]at this;exact this
 clear h m;go_enter func147,ntmps147;go_wp2;go_ret2;exact⟨rfl,rfl⟩
theorem wO(w:World)(b M me nl:Nat)(Sb:List Nat)(top:Int)(V:Int->Option Value)(E:Int->Option (List Ed))(h:dF w b M me Sb top V nl E)(z k:Int)(T:V z=some (rI k))(L:List Ed)(I:E z=some L)(hl:L.length<=100000):Calls prog 189 #[vP b,rI z] w (vV w L):=by
 have ab:w.cell? ⟨b,0,none⟩=some (.map (some M)):=by simp[World.cell?,h.1]
 have ac:w.cell? ⟨b,1,none⟩=some (.map (some me)):=by simp[World.cell?,h.1]
 have aa:(Instr.lookup 129 (.map (some M)) (rI z) true).run prog w=.ok (.tuple #[rI k,.bool true]) w:=by
  have:=(h.2.1.look (aF underlying3) underlying129 (z:=rI 0) (by simp[zeroValue3]) z).1;rw[T]at this;exact this
 obtain⟨_,_,⟨O,N,U,Z,g,_,_,_,_⟩,_⟩:=h
 obtain⟨u,J⟩:∃u,O z=some u:=by
  cases hV:O z with
  |none=>rw[(Z z).2 hV]at I;cases I
  |some u=>exact⟨u,rfl⟩
 have Q:=g z u L J I
 have R:(Instr.lookup 124 (.map (some me)) (rI z) false).run prog w=.ok u w:=by
  have:=(U.look (aF underlying3) underlying124 (z:=.slice none 0 0) (by simp[zeroValue119]) z).2;rw[J]at this;exact this
 have P:=hid (Em w 0 u L Q hl);clear U Z g J Q I T;go_enter func189,ntmps189;go_wp2_with fail;(with_reducible refine P.out.mono ?_);rintro e w1 ⟨S,rfl,B,F⟩;have m:vV w L (.returned (.tuple #[S,.nilIface])) w1:=⟨S,rfl,B,F⟩;have m:=hid m;clear B F P;go_wp2;go_ret2;exact m.out
end
section
open Go.Lib (hid)
open Go.RowKit Go.Sort FR
theorem J3(w:World)(e:Ed)(t:Int)(g:aT e.to_)(k:aT t):Calls prog 229 #[.agg #[rI e.to_,rI e.c.s,rI e.c.d,rI e.mid],rI t] w (Rt w (rI (e.to_-t))):=by
 obtain⟨x,⟨s,d⟩,m⟩:=e;simp only at g⊢;unfold aT at g k;have z:IntKind.i64.wrap (x-t)=x-t:=IntWalk.i64_in _ om;go_enter func229,ntmps229;go_wp2;go_ret;exact⟨rfl,be⟩
theorem VI(w:World)(A:Option Addr)(n ab:Nat)(L:List Ed)(t:Int)(h:bP w A L)(hn:L.length=n)(hs:rQ L)(hb:∀e∈L,aT e.to_)(ht:aT t)(hl:n<=100000):Calls prog 180 #[.slice A n ab,rI t,.func (.func 229) #[] #[]] w (BK w L t):=by
 have hs:=hid hs;have hb:=hid hb;have Hn:=hid hn;have h:=hid h;clear hn;go_enter func180,ntmps180;go_wp2_with fail;go_loopw [9,10] (λiv jv wr=>∃i j:Nat,iv=rI i/\jv=rI j/\i<=j/\j<=n/\(∀k e,L[k]? =some e->k<i->e.to_<t)/\(∀k e,L[k]? =some e->j<=k->t<=e.to_)/\Below w.heap.size w wr) (λiv jv _=>(intOf jv).toNat-(intOf iv).toNat)
 case atStart=>exact⟨0,n,rfl,rfl,om,om,λk e _ h=>om,λk e hk hj=>by have:=(Zb.1 hk).1;have:=Hn.out;omega,br⟩
 case round=>
  obtain⟨i,j,rfl,rfl,aw,ax,h1,h2,HB⟩:=hrel;have h1:=hid h1;have h2:=hid h2;by_cases ay:i<j
  .have aq:IntKind.i64.wrap ((i:Int)+(j:Int))=(i:Int)+(j:Int):=IntWalk.i64_in _ om
   go_upto_region 5 with(fail);have al:((i:Int)+(j:Int))/2=(((i+j)/2:Nat):Int):=om;have ao:i<=(i+j)/2:=om;have ap:(i+j)/2<j:=om;rw[al];obtain⟨m,hm⟩:=rX ((i+j)/2);rw[hm]at ao ap⊢;clear hm al aq;have am:m<n:=om;obtain⟨e,u⟩:∃e,L[m]? =some e:=⟨L[m]'(by rw[Hn.out];exact am),Zc _⟩;have He:=hid u;obtain⟨g,hA,a1,a2,a3,a4⟩:=(h.out.below HB).get u;have ad:=λwx=>gZ (m:=ab) hA am wx;have M:=hid (J3 wr e t (hb.out e (Ze u)) ht);have Q:aT e.to_:=hb.out e (Ze u)
   have F:e.to_<t->∀k x,L[k]? =some x->k<m+1->x.to_<t:=λhl k x J hk=>by
    by_cases e1:k=m
    .subst e1;rw[J]at u;injection u with u;rw[u];exact hl
    .exact Int.lt_trans (hs.out k m x e om J u) hl
   have I:t<=e.to_->∀k x,L[k]? =some x->m<=k->t<=x.to_:=λhl k x J hk=>by
    by_cases e1:k=m
    .subst e1;rw[J]at u;injection u with u;rw[u];exact hl
    .have:=hs.out m k e x om u J
     omega
   have F:=hid F;have I:=hid I;obtain⟨x,J⟩:=rX e.to_;rw[J]at a1 M Q F I;obtain⟨xs,T⟩:=rX e.c.s;obtain⟨xd,R⟩:=rX e.c.d;obtain⟨xm,S⟩:=rX e.mid;rw[T]at a2 M;rw[R]at a3 M;rw[S]at a4 M;clear hA u J T R S;go_wp2_with fail;(with_reducible refine M.out.mono ?_);rintro r w2 ⟨rfl,Z⟩;have U:=ae HB Z;clear a1 a2 a3 a4 M ad;unfold aT at Q;by_cases ar:x<t
   .have hd:decide (x-t<0)=true:=so
    have F:=hid (F.out ar);have aE:IntKind.i64.wrap ((m:Int)+1)=((m+1:Nat):Int):=by rw[IntWalk.i64_in _ om];omega
    clear I;go_wp2;go_roundw
    case rel=>exact⟨m+1,j,rfl,rfl,om,om,F.out,h2.out,U⟩
    case measure=>exact rM
   .have hd:decide (x-t<0)=false:=so
    have I:=hid (I.out om);clear F;go_wp2;go_roundw
    case rel=>exact⟨i,m,rfl,rfl,om,om,h1.out,I.out,U⟩
    case measure=>exact rM
  .obtain rfl:i=j:=om
   have hcut:∀k x,L[k]? =some x->(k<i↔x.to_<t):=λk x J=>by
    constructor
    .exactλhk=>h1.out k x J hk
    .intro hl
     by_cases hk:k<i
     .exact hk
     .have:=h2.out k x J om
      omega
   have aa:=hid hcut;clear hcut;clear h1 h2;by_cases Q:i<n
   .obtain⟨e,u⟩:∃e,L[i]? =some e:=⟨L[i]'(by rw[Hn.out];exact Q),Zc _⟩
    obtain⟨g,hA,a1,a2,a3,a4⟩:=(h.out.below HB).get u;have ad:=λwx=>gZ (m:=ab) hA Q wx;have M:=hid (J3 wr e t (hb.out e (Ze u)) ht);have ai:aT e.to_:=hb.out e (Ze u);obtain⟨fd,ac⟩:∃fd,(e.to_-t==0)=fd:=⟨_,rfl⟩
    have B:fd=true↔∃x,L[i]? =some x/\x.to_=t:=by
     rw[<-ac,u];simp;omega
    have O:=hid B;clear B;have ag:=hid ac;obtain⟨x,J⟩:=rX e.to_;rw[J]at a1 M ag;obtain⟨xs,T⟩:=rX e.c.s;obtain⟨xd,R⟩:=rX e.c.d;obtain⟨xm,S⟩:=rX e.mid;rw[T]at a2 M;rw[R]at a3 M;rw[S]at a4 M;have q:(i:Int)<(n:Int):=om;clear hA u J T R S ac ai;go_wp2_with fail;(with_reducible refine M.out.mono ?_);rintro r w2 ⟨rfl,Z⟩;have U:=ae HB Z;clear a1 a2 a3 a4 M ad Z;have z:BK w L t (.returned (.tuple #[rI (i:Nat),.bool fd])) w2:=⟨i,fd,rfl,by rw[Hn.out];omega,aa.out,O.out,U⟩;rw[<-ag.out]at z;have P:=hid z;clear z;go_wp2;go_ret2;exact P.out
   .obtain rfl:i=n:=om
    have B:false=true↔∃x,L[i]? =some x/\x.to_=t:=by
     rw[List.getElem?_eq_none (by rw[Hn.out];omega)];simp
    have O:=hid B;clear B;have z:BK w L t (.returned (.tuple #[rI (i:Nat),.bool false])) wr:=⟨i,false,rfl,by rw[Hn.out];omega,aa.out,O.out,HB⟩;have P:=hid z;clear z;go_wp2;go_ret2;exact P.out
theorem SN(w:World)(A:Option Addr)(n g:Nat)(L:List Ed)(t:Int)(h:bP w A L)(P:L.length=n)(m:rQ L)(M:∀e∈L,aT e.to_)(Q:aT t)(O:n<=100000):Calls prog 180 #[.slice A n g,rI t,.func (.func 229) #[] #[]] w (Rt w (.tuple #[rI (fE L t:Nat),.bool (gU L t)])):=by
 refine(VI w A n g L t h P m M Q O).mono ?_;rintro r u ⟨i,B,rfl,F,I,k,J⟩;have e:=Ii F I;subst e;rw[qV m]at k;have z:B=gU L t:=Bool.eq_iff_iff.2 k;rw[z];exact⟨rfl,J⟩
end
section
open Go.Lib (hid)
open Go.RowKit Go.Sort FR Go.Lib
variable {e:Ed}{Q:Exit->Act->World->Prop}{g:G}{z:Int}{E:Int->Option (List Ed)}{V:Int->Option Value}{left:Int->Prop}{S:LS}{L:List Ed}{Sb:List Nat}{K N b i k me ml nl:Nat}{f:Nat->Nat}{w w':World}
theorem rA{M:Array Oper}{I:List Oper}{o:Oper}{a:Act}(w:World)(T:o.guard=none)(s x:Operand)(ho:o.op=.call {callee:=.builtin .append,args:=#[s,x],argTypes:=#[51,51]})(B:Nat)(v:Value)(P ys:List Int)(hs:a.eval s=v)(J:aL w B v P)(ad:Addr)(m c:Nat)(hx:a.eval x=.slice (some ad) m c)(hm:ys.length=m)(hc:∀k z,ys[k]? =some z->w.cell? (ad.add k)=some (rI z))(hl:P.length+m<1099511627776)(hB:B<=w.heap.size)(h:∀R O,aL O B R (P++ys)->w.grownBy O v.ownBlock->wpList prog M Q I (a.put o.dst R) O):wpList prog M Q (o::I) a w:=by
 obtain⟨i0,hi,Z,g,L⟩:=info_parts oJ;refine wpList_append_own w T s x 51 ho B 3 i0 (rI 0) 1 8 underlying51 hi Z g L rfl rD v P.length (P.map (Value.int .i64)) hs J ad m c (ys.map (Value.int .i64)) hx (by rw[Zr];omega) ?_ ?_ ?_ ?_ hB ?_
 .intro j u F
  rw[Zy]at F;cases U:ys[j]? with
  |none=>rw[U]at F;cases F
  |some z=>rw[U]at F;simp at F;subst F;exact hc j z U
 .intro u F
  rw[List.mem_map]at F;obtain⟨z,_,rfl⟩:=F;rfl
 .unfold maxLen;omega
 .omega
 .intro R O S h2 _
  refine h R O ?_ h2;unfold aL;rw[Zp,hm,List.map_append];exact S
theorem Ae{F:Array Oper}{u:List Oper}{o:Oper}{a:Act}(R:o.guard=none)(x O:Operand)(M:o.op=Op.slice 51 x (some O) none none)(g n m l:Nat)(U:a.eval x=.slice (some ⟨g,0,none⟩) n m)(J:a.eval O=rI (l:Nat))(z:l<n)(L:n<=m)(P:∀Z,wpList prog F Q u (a.put o.dst (.slice (some ⟨g,l,none⟩) (n-l) Z)) w):wpList prog F Q (o::u) a w:=by
 refine wpList_plain R λk I=>?_;unfold Oper.wp;have T:¬m=l:=om
 have B:(Instr.sliceAt 51 (.slice (some ⟨g,0,none⟩) n m) (some (rI (l:Nat))) none none).run prog w=.ok (.slice (some ⟨g,l,none⟩) (n-l) (m-l)) w:=by
  unfold Instr.sliceAt;go_simp;intro q;omega
 simp[execOp,M,U,J,B,Result.andThen];exact I _ _ (P _)
theorem aL.two(w:World)(B:Nat)(x y:Int)(m:B<=w.heap.size):aL (w.alloc (.cells #[rI x,rI y] 3)) B (.slice (some ⟨w.heap.size,0,none⟩) 2 2) [x,y]:=
 ⟨rfl,.inr ⟨w.heap.size,2,#[rI x,rI y],rfl,m,heap_alloc_new _ _,Zi _,by unfold maxLen;omega,rfl,rfl⟩⟩
theorem aL.cell{B g n m:Nat}{u:List Int}(h:aL w B (.slice (some ⟨g,0,none⟩) n m) u)(F:u[k]? =some z):w.cell? ⟨g,k,none⟩=some (rI z):=by
 have:=World.ownsRow.cells h (g:=g) rfl k (rI z) (by rw[Zy,F];rfl);rwa[Addr.add_lit,Zx]at this
theorem aL.addr{B:Nat}{v:Value}{u:List Int}(h:aL w B v u)(Z:0<u.length):∃g m,v=.slice (some ⟨g,0,none⟩) u.length m/\u.length<=m:=by
 rcases h.2 with⟨rfl,R⟩|⟨g,F,I,rfl,M,O,J,P,T,U⟩
 .omega
 .exact⟨g,F,rfl,J⟩
def U7(w:World)(L:List Nat)(e:Ending)(w':World):Prop:=∃v,e=.returned (.tuple #[v,.nilIface])/\aL w' w.heap.size v (L.map λn:Nat=>(n:Int))/\Below w.heap.size w w'
theorem VG(w:World)(A:Option Addr)(m:Nat)(g:G)(S:LS)(a:Nat)(t:Int)(u:g.n<=256)(h:bP w A (dZ S g.n a))(B:aT t):Calls prog 180 #[.slice A (dZ S g.n a).length m,rI t,.func (.func 229) #[] #[]] w (Rt w (.tuple #[rI (fE (dZ S g.n a) t:Nat),.bool (gU (dZ S g.n a) t)])):=
 SN w A (dZ S g.n a).length m (dZ S g.n a) t h rfl (kM S g.n a) (tu (n:=0) u) B (by have:=dS S g.n a;omega)
theorem Xd{a t:Nat}(P:t<g.n){c:C}{m:Int}(h:S.eg a t=some (c,m)):gU (dZ S g.n a) ((t:Nat):Int)=true/\(dZ S g.n a)[fE (dZ S g.n a) ((t:Nat):Int)]? =some ⟨((t:Nat):Int),c,m⟩:=by
 have O:(⟨((t:Nat):Int),c,m⟩:Ed)∈dZ S g.n a:=eH.2 ⟨t,P,rfl,h⟩;have F:gU (dZ S g.n a) ((t:Nat):Int)=true:=kF.2 ⟨_,O,rfl⟩;refine⟨F,?_⟩;obtain⟨e,I,u⟩:=(qV (kM S g.n a) _).2 F;rw[I];obtain⟨T,U,R,B⟩:=eH.1 (Ze I);rw[u]at R;obtain rfl:t=T:=om;rw[h]at B;injection B with B
 injection B with J M
 cases e;simp at u J M⊢;exact⟨u,J.symm,M.symm⟩
theorem dF.look{top:Int}(h:dF w b ml me Sb top V nl E)(I:E z=some L):∃A m,bP w A L/\∀B,Below w.heap.size w B->(Instr.lookup 124 (.map (some me)) (rI z) false).run prog B=.ok (.slice A L.length m) B:=by
 obtain⟨_,_,⟨J,N,R,T,U,_,_,_,_⟩,_⟩:=h
 obtain⟨u,M⟩:∃u,J z=some u:=by
  cases O:J z with
  |none=>rw[(T z).2 O]at I;cases I
  |some u=>exact⟨u,rfl⟩
 obtain⟨A,m,rfl,F⟩:=(U z u L M I).yI;refine⟨A,m,F,λB P=>?_⟩;have:=((R.below P).look (aF underlying3) underlying124 (z:=.slice none 0 0) (by simp[zeroValue119]) z).2;rw[M]at this;exact this
theorem PL(b ml me nl:Nat)(Sb:List Nat)(g:G)(S:LS)(tp:Nat)(top:Int)(bi:g.ok)(H:LS.Fin g tp S):∀(n:Nat)(a c:Nat)(R:C)(m:Int),n<=20->S.lev a+S.lev c<=n->S.eg a c=some (R,m)->∃L,LS.Jf S a c L/\LS.LW g.GE L R/\L.length<=2^n+1/\∀w,dF w b ml me Sb top (bN g S) nl (eZ g S)->Calls prog 195 #[vP b,rI (a:Nat),rI (c:Nat)] w (U7 w L):=by
 intro n
 induction n using Nat.strongRecOn with
 |_ n ih=>
  intro a c R m B hn F;have ao:=G.bA bi;obtain⟨ai,Z,bg⟩:=H.dw a c (by rw[F];simp);obtain⟨L,u1,w1,l1⟩:=H.YE n hn F;refine⟨L,u1,w1,l1,λw h=>?_⟩;have a6:w.cell? ⟨b,1,none⟩=some (.map (some me)):=by simp[World.cell?,h.1]
  obtain⟨A,ar,ag,Q⟩:=h.look (fM ai);obtain⟨hh,U⟩:=Xd Z.1 F;have cF:=VG w A ar g S a (c:Nat) ao ag (by unfold aT;have:=Z.1;omega);rw[hh]at cF;have cF:=hid cF;obtain⟨nE,aa⟩:=rX ((dZ S g.n a).length);obtain⟨i,hi⟩:=rX (fE (dZ S g.n a) ((c:Nat):Int));rw[aa,hi]at cF;rw[aa]at Q;rw[hi]at U;have ba:i<nE:=by rw[<-aa];exact(Zb.1 U).1
  have aE:=Q w br;have a8:=hid Q;have ap:=hid (rN ag U);have H0:=hid (rN h (rN F (rN ai Z)));have aq:=hid ih;have HH:=hid (rN H (rN u1 (rN hn B)));clear h ag Q hh U aa hi ih F ai Z u1 w1 l1 hn H bg B;go_enter func195,ntmps195;go_wp2_with fail;(with_reducible refine cF.out.mono ?_);rintro e w1 ⟨rfl,u⟩;obtain⟨gb,hA,a1,a2,a3,a4⟩:=(ap.out.1.below u).get ap.out.2;have bb:=λwx=>gZ (m:=ar) hA ba wx;have aS:=a8.out w1 u;have a6:=af u a6;simp only at a1 a2 a3 a4;clear aE hA cF;by_cases hm:m<0
  .have hL:L=[a,c]:=by
    have:=HH.out.2.1.Yq (.edge H0.out.2.1 hm);exact this
   subst hL;go_wp2;have hF:U7 w [a,c] (.returned (.tuple #[.slice (some ⟨w1.heap.size,0,none⟩) 2 2,.nilIface])) (w1.alloc (.cells #[rI (a:Nat),rI (c:Nat)] 3)):=⟨_,rfl,aL.two w1 w.heap.size _ _ u.size,ah u⟩;go_ret2;exact hF
  .obtain⟨k,rfl,e2,e3,c1,m1,c2,m2,e4,e5,e6⟩:=HH.out.1.sum a c R m H0.out.2.1 om
   have bh:=HH.out.2.2.1;have B:=HH.out.2.2.2;obtain⟨L1,v1,_,l1,O⟩:=aq.out (n-1) om a k c1 m1 om om e4;obtain⟨L2,v2,_,l2,P⟩:=aq.out (n-1) om k c c2 m2 om om e5;have hL:L=L1++L2.tail:=HH.out.2.1.Yq (.two H0.out.2.1 rfl v1 v2);have hp:2^(n-1)<=2^20:=Nat.pow_le_pow_right om om;have bd:2<=L2.length:=by obtain⟨M,rfl⟩:=v2.ends;simp
   have HL:=hid (rN hL (rN l1 (rN l2 hp)));have O:=hid O;have P:=hid P;clear e2 e3 e4 e5 e6 v1 v2 hL l1 l2 hp bh B;go_wp2_with fail;(with_reducible refine(O.out _ (H0.out.1.below u)).mono ?_);rintro e w2 ⟨va,rfl,aw,ax⟩;have ad:=ae u ax;clear a1 a2 a3 a4 bb aS;go_wp2_with fail;(with_reducible refine(P.out _ (H0.out.1.below ad)).mono ?_);rintro e w3 ⟨vb,rfl,T,al⟩;obtain⟨g2,mb,rfl,a0⟩:=T.addr (by rw[Zr];omega);have am:(L2.map λn:Nat=>(n:Int)).length=L2.length:=Zr _;have ac:=aw.below (B':=w1.heap.size) al
   have ay:∀(k:Nat)(z:Int),(L2.tail.map λn:Nat=>(n:Int))[k]? =some z->w3.cell? ((⟨g2,1,none⟩:Addr).add k)=some (rI z):=λk z hz=>by
    rw[Addr.add_lit];refine T.cell (k:=1+k) ?_;rw[Zy,List.getElem?_tail]at hz;rw[Zy,Nat.add_comm];exact hz
   have a7:=hid ay;have ab:=ae ad al;have HO:=hid (rN ac T);obtain⟨n2,a5⟩:∃z,(L2.map λn:Nat=>(n:Int)).length=z:=⟨_,rfl⟩;rw[a5]at am a0⊢;have bc:(L1.map λn:Nat=>(n:Int)).length+(n2-1)<1099511627776:=by rw[Zr];have:=HL.out.2.1;have:=HL.out.2.2.1;have:=HL.out.2.2.2;omega
   have bj:(L2.tail.map λn:Nat=>(n:Int)).length=n2-1:=by rw[Zr,List.length_tail];omega
   have a9:1<n2:=om;have bk:=hid am;clear ay aw T ac O P a5 am
   go_wp2_with (first
    |(refine Ae rfl (.tmp 64) (.const (rI 1)) rfl g2 n2 mb 1 rfl rfl a9 a0 ?_;intro m2)
    |(at_builtin;(refine rA w3 rfl _ _ rfl w1.heap.size va (L1.map λn:Nat=>(n:Int)) (L2.tail.map λn:Nat=>(n:Int)) rfl HO.out.1 ⟨g2,1,none⟩ (n2-1) _ rfl bj a7.out bc (by have:=ax.size;have:=al.size;omega) ?_);intro v' w9 J I))
   have hF:U7 w L (.returned (.tuple #[v',.nilIface])) w9:=by
    refine⟨v',rfl,?_,below_grown ab ab.size (aL.mono HO.out.1 u.size) I⟩;rw[HL.out.1,List.map_append];exact aL.mono J u.size
   have hF:=hid hF;clear J I;go_wp2;go_ret2;exact hF.out
theorem J8:∀{L M:List Nat},L.Pairwise (· < ·)->M.Pairwise (· < ·)->(∀z,z∈L↔z∈M)->L=M
 |[],[],_,_,_=>rfl
 |[],y::M,_,_,h=>by have:=(h y).2 rS;simp at this
 |x::L,[],_,_,h=>by have:=(h x).1 rS;simp at this
 |x::L,y::M,u,B,h=>by
  rw[List.pairwise_cons]at u B
  have F:x=y:=by
   have a:=(h x).1 rS;have b:=(h y).2 rS;rcases Zd.1 a with a|a
   .exact a
   .rcases Zd.1 b with b|b
    .exact b.symm
    .have:=B.1 x a;have:=u.1 y b;omega
  subst F;rw[J8 u.2 B.2 (λz=>?_)];constructor
  .intro m
   rcases Zd.1 ((h z).1 (List.mem_cons_of_mem _ m))with e|e
   .subst e;have:=u.1 z m;omega
   .exact e
  .intro m
   rcases Zd.1 ((h z).2 (List.mem_cons_of_mem _ m))with e|e
   .subst e;have:=B.1 z m;omega
   .exact e
theorem Oy(g:G):(aA g).map Int.toNat=az g:=by
 refine J8 ?_ (gN g) λz=>?_
 .rw[List.pairwise_map]
  refine(jG g).imp_of_mem λ{a b}u I h=>?_
  have:∀a∈aA g,0<=a:=λa u=>by
   obtain⟨i,m⟩:=Zo u;have:=(bW (g:=g) (Zb.1 m).1).1;rw[Zk,m]at this;simp at this;omega
  have O:=this a u;have P:=this b I;omega
 .rw[List.mem_map,dm]
  constructor
  .rintro⟨a,u,rfl⟩
   obtain⟨i,m⟩:=Zo u;have B:=(Zb.1 m).1;obtain⟨F,M⟩:=bW (g:=g) B;rw[Zk,m]at F;simp at F;rw[F];simpa using M
  .intro J
   obtain⟨i,m,rfl⟩:=mM J;have q:=(bW (g:=g) m).1;rw[Zk,Zc m]at q;simp at q;exact⟨_,List.getElem_mem m,by rw[q];simp⟩
theorem yw(g:G):(az g).length=(aA g).length:=by rw[<-Oy,Zr]
theorem Uq(m:i<(aA g).length):(az g)[i]? =some (cf g i):=by
 have q:=(bW (g:=g) m).1;rw[Zk,Zc m]at q;simp at q;rw[<-Oy,Zy,Zc m,Option.map_some,q];simp
theorem JE(m:g.n<=256):∀z L,eZ g S z=some L->L.length<=256:=λz L h=>by
 unfold eZ at h;split at h
 .injection h with h;subst h;exact Zg (dS _ _ _) m
 .cases h
theorem JD:∀z,eZ g S z≠none->∃n:Nat,z=n/\n<g.n:=λz h=>by
 unfold eZ at h;split at h
 .rename_i q
  exact⟨z.toNat,om,q.2.1⟩
 .exact absurd rfl h
theorem zM(f h:Nat->Nat):∀n,bC (λk=>f k+h k) n=bC f n+bC h n
 |0=>rfl
 |n+1=>by simp only[bC];rw[zM f h n];omega
theorem mg:∀n,bC (λ_=>0) n=0
 |0=>rfl
 |n+1=>by simp only[bC];rw[mg n]
theorem BH{f h:Nat->Nat}{k d:Nat}:∀n,k<n->h k=f k+d->(∀j,j≠k->h j=f j)->bC h n=bC f n+d
 |0,B,_,_=>om
 |n+1,B,u,m=>by
  simp only[bC];by_cases e:k=n
  .subst e
   rw[bO (f:=h) (g:=f) k λj F=>m j om,u];omega
  .rw[BH n om u m,m n (λx=>e x.symm)];omega
theorem zN{q:Nat->Nat->Nat}(u:∀a b,q a b=q b a)(m:∀a,q a a=0):∀n,bC (λa=>bC (q a) n) n=2*bC (λa=>bC (λb=>if a<b then q a b else 0) n) n
 |0=>rfl
 |n+1=>by
  have O:=zN u m n
  have B:bC (λa=>bC (q a) (n+1)) n=bC (λa=>bC (q a) n) n+bC (λa=>q a n) n:=by
   rw[<-zM];rfl
  have F:bC (λa=>bC (λb=>if a<b then q a b else 0) (n+1)) n=bC (λa=>bC (λb=>if a<b then q a b else 0) n) n+bC (λa=>q a n) n:=by
   rw[<-zM];refine bO n λa M=>?_;simp only[bC];rw[if_pos M]
  have I:bC (q n) (n+1)=bC (λa=>q a n) n:=by
   simp only[bC];rw[m,bO (f:=q n) (g:=λa=>q a n) n λa _=>u n a];omega
  have J:bC (λb=>if n<b then q n b else 0) (n+1)=0:=by
   rw[bO (g:=λ_=>0) (n+1) λb P=>if_neg om,mg]
  show bC (λa=>bC (q a) (n+1)) n+bC (q n) (n+1)=2*(bC (λa=>bC (λb=>if a<b then q a b else 0) (n+1)) n+bC (λb=>if n<b then q n b else 0) (n+1));rw[B,F,I,J,O];omega
def uw(L:List Ed):Nat:=L.countP λe=>decide (0<=e.mid)
def rV(z:Int)(L:List Ed):Nat:=L.countP λe=>decide (0<=e.mid)&&decide (z<e.to_)
def rU(E:Int->Option (List Ed))(k:Nat):Nat:=match E k with|some L=>uw L|none=>0
def iU(E:Int->Option (List Ed))(k:Nat):Nat:=match E k with|some L=>rV k L|none=>0
theorem Jh(h:E k=some L):rU E k=uw L:=by unfold rU;rw[h]
theorem DN(h:E k=some L):iU E k=rV k L:=by unfold iU;rw[h]
theorem Ai(h:E k=none):rU E k=0:=by unfold rU;rw[h]
theorem x8(h:E k=none):iU E k=0:=by unfold iU;rw[h]
theorem KQ(h:L[i]? =some e):uw (L.take (i+1))=uw (L.take i)+(if 0<=e.mid then 1 else 0):=by
 obtain⟨u,m⟩:=Zb.1 h;unfold uw;rw[Zt u,List.countP_append,m];by_cases q:0<=e.mid<;>simp[q]
theorem KR(h:L[i]? =some e):rV z (L.take (i+1))=rV z (L.take i)+(if 0<=e.mid/\z<e.to_ then 1 else 0):=by
 obtain⟨u,m⟩:=Zb.1 h;unfold rV;rw[Zt u,List.countP_append,m];by_cases q:0<=e.mid<;>by_cases B:z<e.to_<;>simp[q,B]
theorem Jj(L:List Ed):uw L<=L.length:=List.countP_le_length
theorem Jk(z:Int)(L:List Ed):rV z L<=L.length:=List.countP_le_length
def zT(S:LS)(a t:Nat):Nat:=match S.eg a t with|some cm=>if 0<=cm.2 then 1 else 0|none=>0
theorem DL(S:LS)(a:Nat):∀N,uw (dZ S N a)=bC (zT S a) N
 |0=>rfl
 |N+1=>by
  have m:=DL S a N;unfold uw dZ at*;rw[List.range_succ,List.filterMap_append,List.countP_append,m,bC];congr 1;unfold zT;cases h:S.eg a N with
  |none=>simp[h]
  |some cm=>by_cases q:0<=cm.2<;>simp[h,q]
theorem DR(S:LS)(a:Nat):∀N,rV a (dZ S N a)=bC (λt=>if a<t then zT S a t else 0) N
 |0=>rfl
 |N+1=>by
  have m:=DR S a N;unfold rV dZ at*;rw[List.range_succ,List.filterMap_append,List.countP_append,m,bC];congr 1;unfold zT;cases h:S.eg a N with
  |none=>simp[h]
  |some cm=>by_cases q:0<=cm.2<;>by_cases u:a<N<;>simp[h,q,u]
theorem Gw{tp:Nat}(H:LS.Fin g tp S):bC (rU (eZ g S)) g.n=2*bC (iU (eZ g S)) g.n:=by
 have u:∀a,¬g.av a->∀t,zT S a t=0:=λa m t=>by
  unfold zT;cases h:S.eg a t with
  |none=>rfl
  |some cm=>exact absurd (H.dw a t (by rw[h];simp)).1 m
 have B:∀a,rU (eZ g S) a=bC (zT S a) g.n:=λa=>by
  by_cases m:g.av a
  .rw[Jh (fM m),DL]
  .rw[Ai (sF (λh=>m (by simpa using h.2))),bO (g:=λ_=>0) _ (λt _=>u a m t),mg]
 have F:∀a,iU (eZ g S) a=bC (λt=>if a<t then zT S a t else 0) g.n:=λa=>by
  by_cases m:g.av a
  .rw[DN (fM m),DR]
  .rw[x8 (sF (λh=>m (by simpa using h.2))),bO (g:=λ_=>0) _ (λt _=>by rw[u a m t];simp),mg]
 rw[bO _ (λa _=>B a),bO (f:=iU (eZ g S)) _ (λa _=>F a)];refine zN (λa b=>?_) (λa=>?_) g.n
 .unfold zT;rw[H.symm a b]
 .unfold zT
  cases h:S.eg a a with
  |none=>rfl
  |some cm=>exact absurd rfl (H.dw a a (by rw[h];simp)).2.2
open Classical in
noncomputable def doneN(left:Int->Prop)(f:Nat->Nat)(N:Nat):Nat:=bC (λk=>if left (k:Nat)then 0 else f k) N
theorem wF(h:∀k:Nat,¬left k->f k=0):doneN left f N=0:=by
 unfold doneN;rw[bO (g:=λ_=>0) N λk _=>?_,mg];split
 .rfl
 .exact h k ‹_›
theorem yF(m:k<N)(u:left k):doneN (λj=>left j/\j≠(k:Nat)) f N=doneN left f N+f k:=by
 unfold doneN;refine BH N m ?_ (λj B=>?_)
 .rw[if_pos u,if_neg rS];omega
 .by_cases e:left (j:Nat)
  .rw[if_pos ⟨e,om⟩,if_pos e]
  .rw[if_neg (λh=>e h.1),if_neg e]
theorem Az(h:∀z,¬left z):doneN left f N=bC f N:=by
 unfold doneN;exact bO N λk _=>if_neg (h _)
theorem Ej(h:∀k,f k<=K):doneN left f N<=N*K:=by
 unfold doneN;rw[<-iR];refine nI N λk _=>?_;split
 .omega
 .exact h k
theorem Ji(h:∀z L,E z=some L->L.length<=K)(k:Nat):rU E k<=K:=by
 unfold rU;split
 .exact Zg (Jj _) (h _ _ ‹_›)
 .omega
theorem N7(h:∀z L,E z=some L->L.length<=K)(k:Nat):iU E k<=K:=by
 unfold iU;split
 .exact Zg (Jk _ _) (h _ _ ‹_›)
 .omega
theorem Tu(D:Nat):IntKind.i64.wrap (((2*D:Nat):Int).tdiv 2)=if D<1000000 then((D:Nat):Int)else IntKind.i64.wrap (((2*D:Nat):Int).tdiv 2):=by
 split
 .rw[Int.tdiv_eq_ediv_of_nonneg om,IntWalk.i64_in _ om];omega
 .rfl
theorem SI(w:World)(b ml me nl:Nat)(S:List Nat)(top:Int)(V:Int->Option Value)(E:Int->Option (List Ed))(N D:Nat)(h:dF w b ml me S top V nl E)(hl:∀z L,E z=some L->L.length<=256)(hb:∀z,E z≠none->∃n:Nat,z=n/\n<N)(hN:N<=256)(hD:bC (rU E) N=2*D):Calls prog 52 #[vP b] w (Rt w (rI (D:Nat))):=by
 obtain⟨g1,_,⟨W3,n3,q1,q2,q3,_,_,_,_⟩,_⟩:=h;have a7:w.cell? ⟨b,1,none⟩=some (.map (some me)):=by simp[World.cell?,g1]
 have H2:=hid q2;have H3:=hid q3;have Hl:=hid hl;have Hb:=hid hb;have HD:=hid hD
 have a9:D<=40000:=by
  have h1:bC (rU E) N<=N*256:=by rw[<-iR];exact nI N λk _=>Ji hl k
  have h2:N*256<=256*256:=Nat.mul_le_mul_right _ hN;omega
 clear g1 q2 q3 hl hb hD;go_enter func52,ntmps52;go_wp2_with (at_range;refine dY rfl _ rfl kY underlying124 q1 rfl ?_;intro w1 B al a5);go_frame;obtain⟨r,hr⟩:=rX w.heap.size
 rw[hr]at B⊢;have hstart:∃left J,aO iK w1 me r W3 left J/\0=doneN left (rU E) N/\Below w.heap.size w w1:=⟨_,_,B,(wF λk hk=>Ai ((H2.out _).2 (Zu λh=>hk h))).symm,al⟩;have ba:w.heap.size<=r:=om;clear B al a5 q1 a7 hr;go_loopw [3] (λlv wr=>∃T:Nat,lv=rI T/\∃left J,aO iK wr me r W3 left J/\T=doneN left (rU E) N/\Below w.heap.size w wr) (λ_ wr=>wr.rangeLeft me r)
 case atStart=>exact⟨0,rfl,hstart⟩
 case round=>
  obtain⟨T,rfl,left,J,B,hT,hB⟩:=hrel;clear hstart;have hleft:=hid B.left_eq;have HT:=hid hT
  have ax:T<=100000:=by
   have h1:=Ej (left:=left) (N:=N) (K:=256) (λk=>Ji Hl.out k);have h2:N*256<=256*256:=Nat.mul_le_mul_right _ hN;omega
  clear hT;go_wp2_with (at_next;refine fD rfl _ rfl kY B rfl ?_ ?_)
  .intro h0 hl
   have ay:T=2*D:=by rw[HT.out,Az hl,HD.out]
   subst ay;have hq:=Tu D;rw[if_pos om]at hq;have HB:=hid hB;have Hq:=hid hq;clear hl B hq HT ax hB;go_wp2;go_ret;exact⟨rfl,HB.out⟩
  .intro k u w4 a8 hk am R P ag a6 g
   obtain⟨L,hL⟩:∃L,E k=some L:=by
    cases hE:E k with
    |none=>rw[(H2.out k).1 hE]at hk;cases hk
    |some L=>exact⟨L,rfl⟩
   obtain⟨kn,rfl,aS⟩:=Hb.out k (by rw[hL];simp);have U:Below w.heap.size w w4:=Kept.below hB ag hB.size so;obtain⟨A,aw,rfl,ad⟩:=(H3.out _ u L hk hL).yI;have ar:=hid (ad.below U);have ai:T+uw L=doneN (λj=>left j/\j≠(kn:Nat)) (rU E) N:=by rw[yF aS am,Jh hL,HT.out]
   have ab:=hid R;have aa:=hid (rN ai P);have Q:=Hl.out _ L hL;obtain⟨n,hn⟩:=rX L.length;rw[hn]at g Q⊢;have Hn:=hid hn;rw[show iK ((kn:Nat):Int)=rI ((kn:Nat):Int)from rfl]at g⊢;clear hk am R P ag a6 ad hB B HT ai hn hL;go_wp2_with fail;clear g;have bc:=U.size
   go_loopw [3,19] (λlv kv wr=>∃i t:Nat,kv=rI i/\lv=rI t/\i<=n/\t=T+uw (L.take i)/\Below w4.heap.size w4 wr) (λ_ kv _=>n-(intOf kv).toNat)
   case atStart=>exact⟨0,T,rfl,rfl,om,by simp[uw],br⟩
   case round=>
    obtain⟨i,t,rfl,rfl,hi,ht,F⟩:=hrel;have Ht:=hid ht
    have bb:t<=200000:=by
     have h1:=Jj (L.take i);rw[List.length_take]at h1;omega
    clear ht;by_cases ao:i<n
    .obtain⟨e,he⟩:∃e,L[i]? =some e:=⟨L[i]'(by rw[Hn.out];exact ao),Zc _⟩
     obtain⟨gb,hA,a1,a2,a3,a4⟩:=(ar.out.below F).get he;have aE:=λwx=>gZ (m:=aw) hA ao wx;have aq:=KQ he;obtain⟨xt,⟨xs,xd⟩,xm⟩:=e;simp only at a1 a2 a3 a4;have I:=hid aq;clear hA he aq;go_upto_region 8 with(fail);refine aB ?_;intro W hW;have HW:Below w4.heap.size w4 W:=by rw[hW];exact ah F
     obtain⟨b7,Z⟩:=rX wr.heap.size;have o2:W.cell? ⟨b7,3,none⟩=some (rI xm):=by rw[hW,<-Z];go_simp
     rw[Z];clear hW Z F a1 a2 a3 a4 aE;by_cases hm:0<=xm
     .have O:t+1=T+uw (L.take (i+1)):=by have:=I.out;rw[if_pos hm]at this;rw[this,Ht.out];omega
      have M:=hid O;clear O I Ht;go_wp2;go_roundw
      case rel=>refine rR ?_;exact⟨i+1,t+1,by go_num,by go_num,om,M.out,HW⟩
      case measure=>exact rM
     .have O:t=T+uw (L.take (i+1)):=by have:=I.out;rw[if_neg hm]at this;rw[this,Ht.out];omega
      have M:=hid O;clear O I Ht;go_wp2;go_roundw
      case rel=>refine rR ?_;exact⟨i+1,t,by go_num,rfl,om,M.out,HW⟩
      case measure=>exact rM
    .obtain rfl:i=n:=om
     have O:t=doneN (λj=>left j/\j≠(kn:Nat)) (rU E) N:=by
      have:=Ht.out;rw[<-Hn.out,List.take_length]at this;rw[this,aa.out.1]
     have B:=ab.out.below F;have a0:=hid B.left_eq;have ac:Below w.heap.size w wr:=U.trans (F.mono om);have M:=hid (rN B (rN O ac));have ap:=aa.out.2;clear O B ac Ht;go_wp2;go_roundw
     case rel=>refine rR ?_;exact⟨t,rfl,_,_,M.out⟩
     case measure=>rw[hleft.out,a0.out];exact ap
def iD(x:Ed)(s:List Ed×Bool)(e:Ed):List Ed×Bool:=
 let s1:=if s.2=false/\x.to_<=e.to_ then(s.1++[x],true)else s
 if e.to_=x.to_ then s1 else(s1.1++[e],s1.2)
def fo(L:List Ed)(x:Ed)(i:Nat):List Ed×Bool:=(L.take i).foldl (iD x) ([],false)
theorem qX{x e:Ed}(h:L[i]? =some e):fo L x (i+1)=iD x (fo L x i) e:=by
 unfold fo;obtain⟨u,m⟩:=Zb.1 h;rw[Zt u,List.foldl_append,m];rfl
structure Rl (x:Ed) (T M:List Ed) (laid:Bool):Prop where
 pw:M.Pairwise λa b=>a.to_<b.to_
 mem:∀e,e∈M↔(laid=true/\e=x)\/(e∈T/\e.to_≠x.to_)
 yes:laid=true↔∃e∈T,x.to_<=e.to_
theorem Rl.step{x e:Ed}{T M:List Ed}{laid:Bool}(h:Rl x T M laid)(U:∀y∈T,y.to_<e.to_):Rl x (T++[e]) (iD x (M,laid) e).1 (iD x (M,laid) e).2:=by
 have I:∀(N:List Ed)(y:Ed),N.Pairwise (λa b=>a.to_<b.to_)->(∀z∈N,z.to_<y.to_)->(N++[y]).Pairwise (λa b=>a.to_<b.to_):=λN y L Q=>by
  rw[List.pairwise_append];exact⟨L,rS,λa S b k=>by simp at k;subst k;exact Q a S⟩
 unfold iD;cases laid with
 |true=>
  obtain⟨g,O,B⟩:=h.yes.1 rfl;have aa:=U g O;have m:¬e.to_=x.to_:=om;simp only[Bool.true_eq_false,false_and,if_false,if_neg m];refine⟨I _ _ h.pw λz J=>?_,λz=>?_,?_⟩
  .rcases(h.mem z).1 J with⟨_,rfl⟩|⟨q,_⟩
   .omega
   .exact U z q
  .rw[Zl,h.mem z,Zl]
   simp only[List.mem_singleton,true_and];constructor
   .rintro((q|⟨F,u⟩)|rfl)
    .exact .inl q
    .exact .inr ⟨.inl F,u⟩
    .exact .inr ⟨.inr rfl,m⟩
   .rintro(q|⟨F|rfl,u⟩)
    .exact .inl (.inl q)
    .exact .inl (.inr ⟨F,u⟩)
    .exact .inr rfl
  .exact⟨λ_=>⟨g,by simp[O],B⟩,λ_=>rfl⟩
 |false=>
  have P:∀y∈T,y.to_<x.to_:=λy Z=>by
   apply Zu;intro q;have:=h.yes.2 ⟨y,Z,om⟩;cases this
  have R:∀z∈M,z.to_<x.to_:=λz J=>by
   rcases(h.mem z).1 J with⟨q,_⟩|⟨q,_⟩
   .cases q
   .exact P z q
  by_cases B:x.to_<=e.to_
  .simp only[true_and,if_pos B]
   by_cases m:e.to_=x.to_
   .simp only[if_pos m]
    refine⟨I _ _ h.pw R,λz=>?_,?_⟩
    .rw[Zl,h.mem z,Zl]
     simp only[Bool.false_eq_true,false_and,false_or,List.mem_singleton,true_and];constructor
     .rintro(⟨F,u⟩|q)
      .exact .inr ⟨.inl F,u⟩
      .exact .inl q
     .rintro(q|⟨F|rfl,u⟩)
      .exact .inr q
      .exact .inl ⟨F,u⟩
      .exact absurd m u
    .exact⟨λ_=>⟨e,rS,B⟩,λ_=>rfl⟩
   .simp only[if_neg m]
    refine⟨I _ _ (I _ _ h.pw R) λz J=>?_,λz=>?_,?_⟩
    .rcases Zl.1 J with q|q
     .have:=R z q;omega
     .simp at q;subst q;omega
    .rw[Zl,Zl,h.mem z,Zl]
     simp only[Bool.false_eq_true,false_and,false_or,List.mem_singleton,true_and];constructor
     .rintro((⟨F,u⟩|q)|rfl)
      .exact .inr ⟨.inl F,u⟩
      .exact .inl q
      .exact .inr ⟨.inr rfl,m⟩
     .rintro(q|⟨F|rfl,u⟩)
      .exact .inl (.inr q)
      .exact .inl (.inl ⟨F,u⟩)
      .exact .inr rfl
    .exact⟨λ_=>⟨e,rS,B⟩,λ_=>rfl⟩
  .have m:¬e.to_=x.to_:=om
   simp only[true_and,if_neg B,if_neg m];refine⟨I _ _ h.pw λz J=>?_,λz=>?_,?_⟩
   .rcases(h.mem z).1 J with⟨q,_⟩|⟨q,_⟩
    .cases q
    .exact U z q
   .rw[Zl,h.mem z,Zl]
    simp only[Bool.false_eq_true,false_and,false_or,List.mem_singleton];constructor
    .rintro(⟨F,u⟩|rfl)
     .exact⟨.inl F,u⟩
     .exact⟨.inr rfl,m⟩
    .rintro⟨F|rfl,u⟩
     .exact .inl ⟨F,u⟩
     .exact .inr rfl
   .refine⟨λq=>(nomatch q),?_⟩
    rintro⟨y,Z,q⟩;rcases Zl.1 Z with r|r
    .have:=P y r;omega
    .simp at r;subst r;exact absurd q B
theorem AY(B:rQ L)(x:Ed):∀i,i<=L.length->Rl x (L.take i) (fo L x i).1 (fo L x i).2
 |0,_=>⟨by simp[fo],λe=>by simp[fo],by simp[fo]⟩
 |i+1,h=>by
  have I:=AY B x i om;have u:L[i]? =some (L[i]'om):=Zc _;rw[qX u,Zt om];refine I.step λy F=>?_;obtain⟨j,m⟩:=Zo F;rw[ZA]at m;split at m
  .exact B j i y _ au m u
  .cases m
theorem Sz(m:rQ L)(x:Ed):(if(fo L x L.length).2=true then(fo L x L.length).1 else(fo L x L.length).1++[x])=qa L x:=by
 have h:=AY m x L.length (Zi _);rw[List.take_length]at h;have B:=QK (FO m x);generalize fo L x L.length=F at h⊢;obtain⟨M,laid⟩:=F;simp only at h⊢;cases laid with
 |true=>
  rw[if_pos rfl];refine tQ h.pw B λz=>?_;rw[h.mem z,yV m];simp
 |false=>
  rw[if_neg rS]
  have I:∀z∈M,z.to_<x.to_:=λz O=>by
   rcases(h.mem z).1 O with⟨q,_⟩|⟨q,_⟩
   .cases q
   .apply Zu
    intro r;have:=h.yes.2 ⟨z,q,om⟩;cases this
  refine tQ ?_ B λz=>?_
  .rw[List.pairwise_append]
   exact⟨h.pw,rS,λa J b u=>by simp at u;subst u;exact I a J⟩
  .rw[Zl,h.mem z,yV m]
   simp only[Bool.false_eq_true,false_and,false_or,List.mem_singleton];exact or_comm
theorem L6(L:List Ed)(x:Ed):∀i,(fo L x i).1.length<=2*i:=by
 intro i
 induction i with
 |zero=>simp[fo]
 |succ i m=>
  cases h:L[i]? with
  |none=>
   have:fo L x (i+1)=fo L x i:=by
    unfold fo;rw[List.take_of_length_le (by have:=List.getElem?_eq_none_iff.1 h;omega),List.take_of_length_le (List.getElem?_eq_none_iff.1 h)]
   rw[this];omega
  |some e=>
   rw[qX h];unfold iD;split<;>split<;>simp<;>omega
theorem Xj(w:World)(A:Option Addr)(m:Nat)(L:List Ed)(x:Ed)(h:bP w A L)(hs:rQ L)(hl:L.length<=1000):Calls prog 162 #[.slice A L.length m,.agg #[rI x.to_,rI x.c.s,rI x.c.d,rI x.mid]] w (Ca w (qa L x)):=by
 have J:=Sz hs x;obtain⟨n,hn⟩:=rX L.length;rw[hn]at hl J⊢;have H:=hid (rN h (rN hn J));obtain⟨S,⟨xs,xd⟩,xm⟩:=x;simp only;clear h hs hn J;go_enter func162,ntmps162;go_upto_region 1 with(fail);refine aB ?_;intro W hW;have HW:Below w.heap.size w W:=by rw[hW];exact be
 have O:W.cell? ⟨w.heap.size,0,none⟩=some (rI S):=by rw[hW];go_simp
 have U:W.cell? ⟨w.heap.size,1,none⟩=some (rI xs):=by rw[hW];go_simp
 have Z:W.cell? ⟨w.heap.size,2,none⟩=some (rI xd):=by rw[hW];go_simp
 have g:W.cell? ⟨w.heap.size,3,none⟩=some (rI xm):=by rw[hW];go_simp
 obtain⟨b3,a5⟩:=rX w.heap.size;rw[a5]at O U Z g⊢;have l3:b3<W.heap.size:=ZF _ _ O;have X0:=hid (rN O (rN U (rN Z g)));clear hW O U Z g;go_wp2_with fail;obtain⟨wz,rfl⟩:∃wz:World,wz=W:=⟨_,rfl⟩
 go_loopw [5,6,7] (λlv bv kv wr=>∃i:Nat,kv=rI i/\i<=n/\bv=.bool (fo L ⟨S,⟨xs,xd⟩,xm⟩ i).2/\bf wr wz.heap.size lv (fo L ⟨S,⟨xs,xd⟩,xm⟩ i).1/\Below wz.heap.size wz wr) (λ_ _ kv _=>n-(intOf kv).toNat)
 case atStart=>exact⟨0,rfl,om,rfl,bf.nil _ _,br⟩
 case round=>
  obtain⟨i,rfl,hi,rfl,hO,hB⟩:=hrel;have HO:=hid hO;have ao:=L6 L ⟨S,⟨xs,xd⟩,xm⟩ i;by_cases aS:i<n
  .obtain⟨e,he⟩:∃e,L[i]? =some e:=⟨L[i]'(by rw[H.out.2.1];exact aS),Zc _⟩
   obtain⟨gb,hA,_⟩:=((H.out.1.below HW).below hB).get he;have aw:=λwx=>gZ (m:=m) hA aS wx;have al:=qX (x:=⟨S,⟨xs,xd⟩,xm⟩) he;obtain⟨M,hM⟩:∃M,fo L ⟨S,⟨xs,xd⟩,xm⟩ i=M:=⟨_,rfl⟩;obtain⟨M,laid⟩:=M;rw[hM]at al ao HO⊢;simp only at ao HO⊢;obtain⟨et,⟨es,ed⟩,em⟩:=e
   have hc:∀w',Below wz.heap.size wz w'->w'.cell? ⟨gb,i*4,none⟩=some (rI et)/\w'.cell? ⟨gb,i*4+1,none⟩=some (rI es)/\w'.cell? ⟨gb,i*4+2,none⟩=some (rI ed)/\w'.cell? ⟨gb,i*4+3,none⟩=some (rI em)/\
    w'.cell? ⟨b3,0,none⟩=some (rI S)/\w'.cell? ⟨b3,1,none⟩=some (rI xs)/\w'.cell? ⟨b3,2,none⟩=some (rI xd)/\w'.cell? ⟨b3,3,none⟩=some (rI xm):=λw' hb=>by
    obtain⟨a7,aq,q1,q2,q3,q4⟩:=((H.out.1.below HW).below hb).get he;rw[hA]at aq;injection aq with aq;injection aq with aq
    subst aq;exact⟨q1,q2,q3,q4,af hb X0.out.1,af hb X0.out.2.1,af hb X0.out.2.2.1,af hb X0.out.2.2.2⟩
   have HC:=hid hc;have HS:=hid al;obtain⟨a1,a2,a3,a4,O,U,Z,g⟩:=HC.out _ hB;clear hA he al hM hO hc;cases laid with
   |true=>
    go_upto_region 6 with(fail);go_quiet (fail);have ag:=hid (HO.out.kept (w':=wr.drewN nq) (T:=[]) (.of_below (ak br)) (λ_ _=>rS));have aa:Below wz.heap.size wz (wr.drewN nq):=ak hB;clear HO hB a1 a2 a3 a4 O U Z g;generalize wr.drewN nq=w4 at*;obtain⟨a1,a2,a3,a4,O,U,Z,g⟩:=HC.out _ aa;have l3:b3<w4.heap.size:=ZF _ _ O;by_cases ad:et=S
    .have hF:fo L ⟨S,⟨xs,xd⟩,xm⟩ (i+1)=(M,true):=by rw[HS.out];unfold iD;simp[ad]
     have Q:=hid hF;clear hF;have ay:(et != S)=false:=by simp[ad]
     go_upto_region 9 with(fail);go_quiet (fail);have R:=hid (ag.out.kept (w':=w4.drewN nq) (T:=[]) (.of_below (ak br)) (λ_ _=>rS));have I:Below wz.heap.size wz (w4.drewN nq):=ak aa;clear ag aa a1 a2 a3 a4 O U Z g;generalize w4.drewN nq=w5 at*;obtain⟨a1,a2,a3,a4,O,U,Z,g⟩:=HC.out _ I;have l3:b3<w5.heap.size:=ZF _ _ O;have P:=hid I;clear I a1 a2 a3 a4 O U Z g aw;go_wp2
     first
      |exact⟨⟨i+1,by go_num,om,by rw[Q.out],by rw[Q.out];exact R.out,P.out⟩,by simp[intOf];omega⟩
      |(go_roundw;(case rel=>(refine rR ?_;exact⟨i+1,by go_num,om,by rw[Q.out],by rw[Q.out];exact R.out,P.out⟩));(case measure=>exact rM))
    .have hF:fo L ⟨S,⟨xs,xd⟩,xm⟩ (i+1)=(M++[⟨et,⟨es,ed⟩,em⟩],true):=by rw[HS.out];unfold iD;simp[ad]
     have Q:=hid hF;clear hF;have ay:(et != S)=true:=by simp[ad]
     go_upto_region 9 with(fail);go_quiet (fail);have R:=hid (ag.out.kept (w':=w4.drewN nq) (T:=[]) (.of_below (ak br)) (λ_ _=>rS));have I:Below wz.heap.size wz (w4.drewN nq):=ak aa;clear ag aa a1 a2 a3 a4 O U Z g;generalize w4.drewN nq=w5 at*;obtain⟨a1,a2,a3,a4,O,U,Z,g⟩:=HC.out _ I;have l3:b3<w5.heap.size:=ZF _ _ O;go_wp2_with (at_builtin;(refine cu _ rfl _ _ rfl wz.heap.size _ M ⟨et,⟨es,ed⟩,em⟩ rfl (R.out.kept (T:=[]) (.of_below (ah br)) (λ_ _=>rS)) ⟨w5.heap.size,0,none⟩ rfl (λj u hu=>by rw[Addr.add_lit,Zx];exact dH (alloc_at w5 _ rfl) j u hu) (by first|omega|(simp;omega)) (by have:=I.size;simp;omega) ?_);intro v' w9 F B)
     have ac:=hid F;have ab:=(ah I).grown B (by have:=I.size;simp;omega) (λk hk=>(World.ownsRow.lt R.out k hk).1);clear F B R I a1 a2 a3 a4 O U Z g;obtain⟨w6,ai⟩:∃z,z=w9:=⟨_,rfl⟩;rw[<-ai]at ac ab⊢;clear ai;obtain⟨a1,a2,a3,a4,O,U,Z,g⟩:=HC.out _ ab;have l3:b3<w6.heap.size:=ZF _ _ O;have P:=hid ab;clear ab a1 a2 a3 a4 O U Z g aw;go_wp2
     first
      |exact⟨⟨i+1,by go_num,om,by rw[Q.out],by rw[Q.out];exact ac.out,P.out⟩,by simp[intOf];omega⟩
      |(go_roundw;(case rel=>(refine rR ?_;exact⟨i+1,by go_num,om,by rw[Q.out],by rw[Q.out];exact ac.out,P.out⟩));(case measure=>exact rM))
   |false=>
    by_cases ax:S<=et
    .have a6:decide (S<=et)=true:=by simp[ax]
     go_upto_region 6 with(fail);go_quiet (fail);have ag:=hid (HO.out.kept (w':=wr.drewN nq) (T:=[]) (.of_below (ak br)) (λ_ _=>rS));have aa:Below wz.heap.size wz (wr.drewN nq):=ak hB;clear HO hB a1 a2 a3 a4 O U Z g;generalize wr.drewN nq=w4 at*;obtain⟨a1,a2,a3,a4,O,U,Z,g⟩:=HC.out _ aa;have l3:b3<w4.heap.size:=ZF _ _ O;go_wp2_with (at_builtin;(refine cu _ rfl _ _ rfl wz.heap.size _ M ⟨S,⟨xs,xd⟩,xm⟩ rfl (ag.out.kept (T:=[]) (.of_below (ah br)) (λ_ _=>rS)) ⟨w4.heap.size,0,none⟩ rfl (λj u hu=>by rw[Addr.add_lit,Zx];exact dH (alloc_at w4 _ rfl) j u hu) (by first|omega|(simp;omega)) (by have:=aa.size;simp;omega) ?_);intro v' w9 F B)
     have ar:=hid F;have ap:=(ah aa).grown B (by have:=aa.size;simp;omega) (λk hk=>(World.ownsRow.lt ag.out k hk).1);clear F B ag aa a1 a2 a3 a4 O U Z g;obtain⟨w7,ai⟩:∃z,z=w9:=⟨_,rfl⟩;rw[<-ai]at ar ap⊢;clear ai;obtain⟨a1,a2,a3,a4,O,U,Z,g⟩:=HC.out _ ap;have l3:b3<w7.heap.size:=ZF _ _ O;by_cases ad:et=S
     .have hF:fo L ⟨S,⟨xs,xd⟩,xm⟩ (i+1)=(M++[⟨S,⟨xs,xd⟩,xm⟩],true):=by rw[HS.out];unfold iD;simp[ad,ax]
      have Q:=hid hF;clear hF;have ay:(et != S)=false:=by simp[ad]
      go_upto_region 9 with(fail);go_quiet (fail);have R:=hid (ar.out.kept (w':=w7.drewN nq) (T:=[]) (.of_below (ak br)) (λ_ _=>rS));have I:Below wz.heap.size wz (w7.drewN nq):=ak ap;clear ar ap a1 a2 a3 a4 O U Z g;generalize w7.drewN nq=w5 at*;obtain⟨a1,a2,a3,a4,O,U,Z,g⟩:=HC.out _ I;have l3:b3<w5.heap.size:=ZF _ _ O;have P:=hid I;clear I a1 a2 a3 a4 O U Z g aw;go_wp2
      first
       |exact⟨⟨i+1,by go_num,om,by rw[Q.out],by rw[Q.out];exact R.out,P.out⟩,by simp[intOf];omega⟩
       |(go_roundw;(case rel=>(refine rR ?_;exact⟨i+1,by go_num,om,by rw[Q.out],by rw[Q.out];exact R.out,P.out⟩));(case measure=>exact rM))
     .have hF:fo L ⟨S,⟨xs,xd⟩,xm⟩ (i+1)=(M++[⟨S,⟨xs,xd⟩,xm⟩]++[⟨et,⟨es,ed⟩,em⟩],true):=by rw[HS.out];unfold iD;simp[ad,ax]
      have Q:=hid hF;clear hF;have ay:(et != S)=true:=by simp[ad]
      go_upto_region 9 with(fail);go_quiet (fail);have R:=hid (ar.out.kept (w':=w7.drewN nq) (T:=[]) (.of_below (ak br)) (λ_ _=>rS));have I:Below wz.heap.size wz (w7.drewN nq):=ak ap;clear ar ap a1 a2 a3 a4 O U Z g;generalize w7.drewN nq=w5 at*;obtain⟨a1,a2,a3,a4,O,U,Z,g⟩:=HC.out _ I;have l3:b3<w5.heap.size:=ZF _ _ O;go_wp2_with (at_builtin;(refine cu _ rfl _ _ rfl wz.heap.size _ (M++[⟨S,⟨xs,xd⟩,xm⟩]) ⟨et,⟨es,ed⟩,em⟩ rfl (R.out.kept (T:=[]) (.of_below (ah br)) (λ_ _=>rS)) ⟨w5.heap.size,0,none⟩ rfl (λj u hu=>by rw[Addr.add_lit,Zx];exact dH (alloc_at w5 _ rfl) j u hu) (by first|omega|(simp;omega)) (by have:=I.size;simp;omega) ?_);intro v' w9 F B)
      have ac:=hid F;have ab:=(ah I).grown B (by have:=I.size;simp;omega) (λk hk=>(World.ownsRow.lt R.out k hk).1);clear F B R I a1 a2 a3 a4 O U Z g;obtain⟨w6,ai⟩:∃z,z=w9:=⟨_,rfl⟩;rw[<-ai]at ac ab⊢;clear ai;obtain⟨a1,a2,a3,a4,O,U,Z,g⟩:=HC.out _ ab;have l3:b3<w6.heap.size:=ZF _ _ O;have P:=hid ab;clear ab a1 a2 a3 a4 O U Z g aw;go_wp2
      first
       |exact⟨⟨i+1,by go_num,om,by rw[Q.out],by rw[Q.out];exact ac.out,P.out⟩,by simp[intOf];omega⟩
       |(go_roundw;(case rel=>(refine rR ?_;exact⟨i+1,by go_num,om,by rw[Q.out],by rw[Q.out];exact ac.out,P.out⟩));(case measure=>exact rM))
    .have a6:decide (S<=et)=false:=so
     have ad:¬et=S:=om;have hF:fo L ⟨S,⟨xs,xd⟩,xm⟩ (i+1)=(M++[⟨et,⟨es,ed⟩,em⟩],false):=by rw[HS.out];unfold iD;simp[ad,ax]
     have Q:=hid hF;clear hF;have ay:(et != S)=true:=by simp[ad]
     go_upto_region 6 with(fail);go_quiet (fail);have ag:=hid (HO.out.kept (w':=wr.drewN nq) (T:=[]) (.of_below (ak br)) (λ_ _=>rS));have aa:Below wz.heap.size wz (wr.drewN nq):=ak hB;clear HO hB a1 a2 a3 a4 O U Z g;generalize wr.drewN nq=w4 at*;obtain⟨a1,a2,a3,a4,O,U,Z,g⟩:=HC.out _ aa;have l3:b3<w4.heap.size:=ZF _ _ O;go_upto_region 9 with(fail);go_quiet (fail);have R:=hid (ag.out.kept (w':=w4.drewN nq) (T:=[]) (.of_below (ak br)) (λ_ _=>rS));have I:Below wz.heap.size wz (w4.drewN nq):=ak aa;clear ag aa a1 a2 a3 a4 O U Z g;generalize w4.drewN nq=w5 at*;obtain⟨a1,a2,a3,a4,O,U,Z,g⟩:=HC.out _ I;have l3:b3<w5.heap.size:=ZF _ _ O;go_wp2_with (at_builtin;(refine cu _ rfl _ _ rfl wz.heap.size _ M ⟨et,⟨es,ed⟩,em⟩ rfl (R.out.kept (T:=[]) (.of_below (ah br)) (λ_ _=>rS)) ⟨w5.heap.size,0,none⟩ rfl (λj u hu=>by rw[Addr.add_lit,Zx];exact dH (alloc_at w5 _ rfl) j u hu) (by first|omega|(simp;omega)) (by have:=I.size;simp;omega) ?_);intro v' w9 F B)
     have ac:=hid F;have ab:=(ah I).grown B (by have:=I.size;simp;omega) (λk hk=>(World.ownsRow.lt R.out k hk).1);clear F B R I a1 a2 a3 a4 O U Z g;obtain⟨w6,ai⟩:∃z,z=w9:=⟨_,rfl⟩;rw[<-ai]at ac ab⊢;clear ai;obtain⟨a1,a2,a3,a4,O,U,Z,g⟩:=HC.out _ ab;have l3:b3<w6.heap.size:=ZF _ _ O;have P:=hid ab;clear ab a1 a2 a3 a4 O U Z g aw;go_wp2
     first
      |exact⟨⟨i+1,by go_num,om,by rw[Q.out],by rw[Q.out];exact ac.out,P.out⟩,by simp[intOf];omega⟩
      |(go_roundw;(case rel=>(refine rR ?_;exact⟨i+1,by go_num,om,by rw[Q.out],by rw[Q.out];exact ac.out,P.out⟩));(case measure=>exact rM))
  .obtain rfl:i=n:=om
   have J:=H.out.2.2;have hc:wr.cell? ⟨b3,0,none⟩=some (rI S)/\wr.cell? ⟨b3,1,none⟩=some (rI xs)/\wr.cell? ⟨b3,2,none⟩=some (rI xd)/\wr.cell? ⟨b3,3,none⟩=some (rI xm):=⟨af hB X0.out.1,af hB X0.out.2.1,af hB X0.out.2.2.1,af hB X0.out.2.2.2⟩;obtain⟨O,U,Z,g⟩:=hc;obtain⟨M,hM⟩:∃M,fo L ⟨S,⟨xs,xd⟩,xm⟩ i=M:=⟨_,rfl⟩;obtain⟨M,laid⟩:=M;rw[hM]at J ao HO⊢;simp only at J ao HO⊢;have am:=hid J;clear hM hO J;cases laid with
   |true=>
    have J:=am.out;rw[if_pos rfl]at J;have hF:Ca w (qa L ⟨S,⟨xs,xd⟩,xm⟩) (.returned u5) wr:=by rw[<-J];exact⟨_,rfl,HO.out.mono HW.size,ae HW hB⟩
    have hF:=hid hF;clear J am HO O U Z g;go_wp2;go_ret;exact hF.out
   |false=>
    have J:=am.out;rw[if_neg rS]at J;have a0:=hid J;clear J am;go_wp2_with (at_builtin;(refine cu _ rfl _ _ rfl wz.heap.size _ M ⟨S,⟨xs,xd⟩,xm⟩ rfl (HO.out.kept (T:=[]) (.of_below (ah br)) (λ_ _=>rS)) ⟨wr.heap.size,0,none⟩ rfl (λj u hu=>by rw[Addr.add_lit,Zx];exact dH (alloc_at wr _ rfl) j u hu) (by first|omega|(simp;omega)) (by have:=hB.size;simp;omega) ?_);intro v' w9 F B)
    have aE:=(ah hB).grown B (by have:=hB.size;simp;omega) (λk hk=>(World.ownsRow.lt HO.out k hk).1);have hF:Ca w (qa L ⟨S,⟨xs,xd⟩,xm⟩) (.returned v') w9:=by rw[<-a0.out];exact⟨_,rfl,F.mono HW.size,ae HW aE⟩
    have hF:=hid hF;clear HO F B aE O U Z g;go_wp2;go_ret;exact hF.out
def oo(w:World)(b ml me:Nat)(S:List Nat)(top:Int)(V:Int->Option Value)(nl:Nat)(E:Int->Option (List Ed)):Prop:=
 w.heap[b]? =some (.cells #[.map (some ml),.map (some me),rI top] 131 (0,0))/\MapAt iK w ml V nl/\cz w S me E/\b∉S/\ml∉S/\b≠ml/\b≠me/\ml≠me
theorem oo.kept{S T:List Nat}{top:Int}(h:oo w b ml me S top V nl E)(u:Kept T w w')(m:∀k,k∈b::ml::me::S->k∉T):oo w' b ml me S top V nl E:=by
 obtain⟨B,F,I,J⟩:=h;exact⟨(u.block b (Za.1 B).1 (m b rS)).trans B,F.kept u (m ml rS),I.kept u (λs M=>m s (by simp[M])) (m me rS),J⟩
theorem oo.below{S:List Nat}{top:Int}(h:oo w b ml me S top V nl E)(m:Below w.heap.size w w'):oo w' b ml me S top V nl E:=h.kept (T:=[]) (.of_below m) (λ_ _=>rS)
theorem oo.put{Sb m:List Nat}{top:Int}{E B:Int->Option (List Ed)}(h:oo w b ml me Sb top V nl E)(Z:cz w' m me B)(R:∀k∈m,k∈Sb\/w.heap.size<=k)(T:Kept (me::Sb) w w'):oo w' b ml me m top V nl B:=by
 obtain⟨F,I,z,J,M,U,O,P⟩:=h;have g:=(Za.1 F).1;refine⟨(T.block b g (by simp;exact⟨O,J⟩)).trans F,I.kept T (by simp;exact⟨P,M⟩),Z,λu=>?_,λu=>?_,U,O,P⟩
 .rcases R _ u with q|q
  .exact J q
  .omega
 .rcases R _ u with q|q
  .exact M q
  .have:=I.lt;omega
theorem oo.qp{top:Int}(h:oo w b ml me Sb top V nl E):b<w.heap.size/\ml<w.heap.size/\me<w.heap.size/\∀k∈Sb,k<w.heap.size:=by
 obtain⟨u,B,m,_⟩:=h;refine⟨(Za.1 u).1,B.lt,m.lt,?_⟩;obtain⟨_,_,_,_,_,_,_,_,F⟩:=m;exact F
theorem oo.lev{b ml me nl m:Nat}{top:Int}{V u:Int->Option Value}(h:oo w b ml me Sb top V nl E)(T:MapAt iK w' ml u m)(M:Kept [ml] w w'):oo w' b ml me Sb top u m E:=by
 obtain⟨B,Z,O,P,F,I,R,J⟩:=h;exact⟨(M.block b (Za.1 B).1 (by simpa using I)).trans B,T,O.kept M (λs U=>by simp;rintro rfl;exact F U) (by simpa using Ne.symm J),P,F,I,R,J⟩
theorem oo.top{top m:Int}(h:oo w b ml me Sb top V nl E):oo (w.setCell ⟨b,2,none⟩ (rI m)) b ml me Sb m V nl E:=by
 obtain⟨J,M,O,u,P,B,F,R⟩:=h;have I:Kept [b] w (w.setCell ⟨b,2,none⟩ (rI m)):=(Kept.refl _ _).setCell (.inl rS);refine⟨?_,M.kept I (by simpa using Ne.symm B),O.kept I (λs T=>by simp;rintro rfl;exact u T) (by simpa using Ne.symm F),u,P,B,F,R⟩;have:=aI w b 2 _ _ (rI m) J;simpa using this
theorem oo.look{top:Int}(h:oo w b ml me Sb top V nl E)(I:E z=some L):∃A m,bP w A L/\∀B,Below w.heap.size w B->(Instr.lookup 124 (.map (some me)) (rI z) false).run prog B=.ok (.slice A L.length m) B:=by
 obtain⟨_,_,⟨J,N,R,T,U,_,_,_,_⟩,_⟩:=h
 obtain⟨u,M⟩:∃u,J z=some u:=by
  cases O:J z with
  |none=>rw[(T z).2 O]at I;cases I
  |some u=>exact⟨u,rfl⟩
 obtain⟨A,m,rfl,F⟩:=(U z u L M I).yI;refine⟨A,m,F,λB P=>?_⟩;have:=((R.below P).look (aF underlying3) underlying124 (z:=.slice none 0 0) (by simp[zeroValue119]) z).2;rw[M]at this;exact this
section
variable {P:Program} {kt et mt:TypeId} {K:Type} [DecidableEq K] {kf:K->Value} {w:World} {b n:Nat} {m:K->Option Value}
theorem o8{z:Array Oper}{g:List Oper}{o:Oper}{a:Act}{Q:Exit->Act->World->Prop}(S:o.guard=none)(M L O:Operand)(J:o.op=Op.insert mt M L O)(F:jC P kt kf)(Z:P.underlying mt=some (.map kt et))(h:MapAt kf w b m n)(U:a.eval M=.map (some b))(k:K)(T:a.eval L=kf k)(v:Value)(hv:a.eval O=v)(R:∀B,MapAt kf B b (aN m k (some v)) (if(m k).isSome then n else n+1)->Kept [b] w B->wpList P z Q g (a.put o.dst undef) B):wpList P z Q (o::g) a w:=by
 refine wpList_plain S λK' I=>?_;obtain⟨B,u,r1,r2⟩:=h.store F Z k v;unfold Oper.wp;simp[execOp,J,U,T,hv,u,Result.andThen];exact I _ _ (R B r1 r2)
end
variable {g:G}{S:LS}{M:List (Nat×Nat)}{N fr i k mc mi n tp x:Nat}{L:Nat->Option C}{u:Value}{W w w':World}
open Classical in
noncomputable def ic(g:G)(S:LS)(z:Int):Option Value:=if(0<=z/\g.av z.toNat)/\S.lev z.toNat≠0 then some (rI (S.lev z.toNat:Nat))else none
theorem CO(g:G)(S:LS):NA (ic g S) (uQ g S):=λz=>by
 unfold ic uQ;by_cases h:0<=z/\g.av z.toNat
 .rw[if_pos h]
  by_cases m:S.lev z.toNat≠0
  .rw[if_pos ⟨h,m⟩];rfl
  .rw[if_neg (λq=>m q.2)]
   simp at m;rw[m];rfl
 .rw[if_neg h,if_neg (λq=>h q.1)];rfl
theorem Mc{T:Nat->Nat->Prop}(m:g.av n)(B:tp≠0):aN (ic g S) ((n:Nat):Int) (some (rI (tp:Nat)))=ic g (S.part n tp T):=by
 funext z;unfold aN;by_cases e:z=(n:Nat)
 .rw[if_pos e,e]
  unfold ic;have q:(S.part n tp T).lev n=tp:=upd_same _ _ _;rw[if_pos ⟨⟨om,by simpa using m⟩,by simp only[Int.toNat_natCast];rw[q];exact B⟩];simp only[Int.toNat_natCast];rw[q]
 .rw[if_neg e]
  unfold ic;by_cases h:0<=z/\g.av z.toNat
  .have q:(S.part n tp T).lev z.toNat=S.lev z.toNat:=upd_ne _ _ om
   rw[q]
  .rw[if_neg (λr=>h r.1),if_neg (λr=>h r.1)]
def Ri(L:Nat->Option C)(z:Int):Option Value:=if 0<=z/\(L z.toNat).isSome=true then some (.bool true)else none
theorem Vz(L:Nat->Option C)(n:Nat):(Ri L (n:Nat)).getD (.bool false)=.bool (L n).isSome:=by
 cases h:(L n).isSome<;>simp[Ri,h]
theorem JU(L:Nat->Option C)(t:Nat)(c:C):aN (Ri L) ((t:Nat):Int) (some (.bool true))=Ri (FR.upd L t (some c)):=by
 funext z;unfold aN Ri;by_cases e:z=(t:Nat)
 .rw[if_pos e,if_pos ⟨om,by rw[e];simp[upd_same]⟩]
 .rw[if_neg e]
  by_cases h:0<=z
  .have:FR.upd L t (some c) z.toNat=L z.toNat:=upd_ne _ _ om
   rw[this]
  .rw[if_neg (λq=>h q.1),if_neg (λq=>h q.1)]
theorem Pm:Ri (λ_=>none)=λ_=>none:=by funext z;unfold Ri;simp
theorem VB{c:C}(h:0<=c.s/\c.s<=2000/\0<=c.d/\c.d<=2000):C.le c ⟨0,((4000:Nat):Int)⟩:=by
 obtain⟨s,d⟩:=c;simp only at h;refine C.le_trans (C.Pt h.1) (C.aM (Int.le_refl _) ?_);simp only;omega
def kU(W w:World)(mc mi:Nat)(L:Nat->Option C):Prop:=(∃n1,MapAt iK w mc (eQ (eP L)) n1)/\(∃n2,MapAt iK w mi (Ri L) n2)/\Kept [mc,mi] W w
theorem kU.below(h:kU W w mc mi L)(m:Below w.heap.size w w'):kU W w' mc mi L:=by
 obtain⟨⟨I,z⟩,⟨J,B⟩,F⟩:=h;exact⟨⟨I,z.below m⟩,⟨J,B.below m⟩,F.trans (.of_below m)⟩
theorem kU.lt(h:kU W w mc mi L):mc<w.heap.size/\mi<w.heap.size:=by
 obtain⟨⟨B,m⟩,⟨F,z⟩,_⟩:=h;exact⟨m.lt,z.lt⟩
theorem kU.is(h:kU W w mc mi L)(t:Nat):∀m,Below w.heap.size w m->(Instr.lookup 225 (.map (some mi)) (rI (t:Nat)) false).run prog m=.ok (.bool (L t).isSome) m:=λm B=>by
 obtain⟨_,⟨F,z⟩,_⟩:=h;have:=((z.below B).look (aF underlying3) underlying225 (Oo m) ((t:Nat):Int)).2;rw[Vz]at this;exact this
theorem kU.cost(h:kU W w mc mi L)(t:Nat):∃I F:Int,(∀d,L t=some d->d=⟨I,F⟩)/\(L t=none->I=0/\F=0)/\∀m,Below w.heap.size w m->(Instr.lookup 242 (.map (some mc)) (rI (t:Nat)) false).run prog m=.ok (.agg #[rI I,rI F]) m:=by
 obtain⟨⟨P,O⟩,_,_⟩:=h;have B:=λm z=>((O.below (w':=m) z).look (aF underlying3) underlying242 (jr m) ((t:Nat):Int)).2;cases J:L t with
 |none=>
  refine⟨0,0,(λd h=>nomatch h),λ_=>⟨rfl,rfl⟩,λm z=>?_⟩;have h:=B m z;rw[fF]at h;unfold eP at h;rw[J]at h;exact h
 |some c=>
  refine⟨c.s,c.d,(λd h=>by injection h with h;rw[<-h]),(λh=>nomatch h),λm z=>?_⟩;have h:=B m z;rw[fF]at h;unfold eP at h;rw[J]at h;exact h
theorem kU.put{W w w1 w2:World}{mc mi O P:Nat}{t:Nat}{cs m:Int}(h:kU W w mc mi L)(B:MapAt iK w1 mc (aN (eQ (eP L)) ((t:Nat):Int) (some (.agg #[rI cs,rI m]))) O)(I:Kept [mc] w w1)(F:MapAt iK w2 mi (aN (Ri L) ((t:Nat):Int) (some (.bool true))) P)(z:Kept [mi] w1 w2)(J:mc≠mi):kU W w2 mc mi (FR.upd L t (some ⟨cs,m⟩)):=by
 rw[lZ,show(some (Value.agg #[rI cs,rI m]):Option Value)=some (oD ⟨cs,m⟩)from rfl,pG]at B;rw[JU L t ⟨cs,m⟩]at F;exact⟨⟨_,B.kept z (by simpa using J)⟩,⟨_,F⟩,(h.2.2.trans (I.wid rS)).trans (z.wid rS)⟩
def MB(fr:Nat):Nat->C->Prop:=λs c0=>s=fr/\c0=C.zero
abbrev Nl(N:Nat)(L:Nat->Option C):Nat:=BF.meas N (BF.K N 0 4000) L
def lI(S:LS)(n:Nat)(L:Nat->Option C)(a:Nat):Prop:=∀c b e,L a=some c->S.Lw n a b e->∃d,L b=some d/\C.le d (C.add c e)
def DD(S:LS)(n:Nat)(L:Nat->Option C)(x:Nat)(es:List Ed)(k:Nat):Prop:=∀c,L x=some c->∀(j:Nat)(e:Ed),j<k->es[j]? =some e->∀y:Nat,e.to_=y->S.lev y=0->y≠n->∃d,L y=some d/\C.le d (C.add c e.c)
theorem MZ(J:I4 g S)(h:DD S n L x (dZ S g.n x) (dZ S g.n x).length):lI S n L x:=by
 rintro c b e P ⟨⟨_,F,m,z⟩,_,I⟩;have O:(⟨(b:Nat),e,m⟩:Ed)∈dZ S g.n x:=eH.2 ⟨b,(J x b (by rw[z];simp)).2.1.1,rfl,z⟩;obtain⟨j,B⟩:=Zo O;exact h c P j _ (Zb.1 B).1 B b rfl F I
theorem Bw{x k t:Nat}{es:List Ed}{e:Ed}(h:DD S n L x es k)(P:es[k]? =some e)(T:e.to_=t)(z:S.lev t=0->t≠n->∀c,L x=some c->∃d,L t=some d/\C.le d (C.add c e.c)):DD S n L x es (k+1):=by
 intro c I j J R m y Q B F;by_cases O:j=k
 .subst O
  rw[P]at m;injection m with m;subst m
  obtain rfl:t=y:=om;exact z B F c I
 .exact h c I j J om m y Q B F
def Q9(W wr:World)(S:LS)(n fr N mc mi mm:Nat)(P Q:(Nat->Option C)->Prop)(ag:Bool):Prop:=
 ∃L,kU W wr mc mi L/\BF (S.Lw n) (MB fr) N 0 4000 L/\(∃d,L fr=some d/\C.le d C.zero)/\Nl N L<=mm/\(ag=true->Nl N L<mm)/\P L/\(ag=false->Q L)
def XB(W wr:World)(g:G)(S:LS)(n fr mc mi gk:Nat)(sv:Value):Prop:=
 ∃ag L,sv=.bool ag/\kU W wr mc mi L/\BF (S.Lw n) (MB fr) g.n 0 4000 L/\(∃d,L fr=some d/\C.le d C.zero)/\gk=2*Nl g.n L+(if ag then 1 else 0)/\(ag=false->∀a,g.av a->lI S n L a)
theorem Ve(m:NU S)(n fr:Nat):∀j c,FR.Reach (S.Lw n) (MB fr) j c->C.Nn c:=by
 intro j c h;exact(FR.Reach.one.1 h).nn (vz m n)
theorem RB{W wr w1 w2:World}{n fr mc mi mm n1 n2:Nat}{P Q:(Nat->Option C)->Prop}(hs:NU S)(hM:kU W wr mc mi L)(hB:BF (S.Lw n) (MB fr) g.n 0 4000 L)(I:∃d,L fr=some d/\C.le d C.zero)(F:Nl g.n L<=mm){x y:Nat}{c:C}{es ed:Int}(hx:L x=some c)(z:S.Lw n x y ⟨es,ed⟩)(hy:y<g.n)(B:∀d,L y=some d->C.lt (C.add c ⟨es,ed⟩) d)(hP:P (FR.upd L y (some (C.add c ⟨es,ed⟩))))(T:MapAt iK w1 mc (aN (eQ (eP L)) ((y:Nat):Int) (some (.agg #[rI (c.s+es),rI (c.d+ed)]))) n1)(J:Kept [mc] wr w1)(U:MapAt iK w2 mi (aN (Ri L) ((y:Nat):Int) (some (.bool true))) n2)(O:Kept [mi] w1 w2)(R:mc≠mi):Q9 W w2 S n fr g.n mc mi mm P Q true:=by
 have Z:C.le ⟨es,ed⟩ ⟨0,((4000:Nat):Int)⟩:=by
  obtain⟨⟨_,_,m,h3⟩,_⟩:=z;exact VB (hs _ _ _ _ h3)
 obtain⟨b1,k⟩:=hB.Xn (Ve hs n fr) hx z Z hy B;refine⟨_,hM.put T J U O R,b1,?_,Zg (Nat.le_of_lt k) F,λ_=>Zf k F,hP,λh=>nomatch h⟩;obtain⟨d,M,h2⟩:=I;by_cases u:fr=y
 .subst u
  exact⟨_,upd_same _ _ _,C.le_trans (C.le_of_lt (B d M)) h2⟩
 .exact⟨d,by rw[upd_ne _ _ u];exact M,h2⟩
def X8(w:World)(S:LS)(fr n N:Nat)(e:Ending)(w':World):Prop:=∃mc mi L,e=.returned (.tuple #[.map (some mc),.map (some mi)])/\kU w' w' mc mi L/\(∀t c,L t=some c->df (S.Lw n) fr t c)/\(∀t,L t=none->∀c,¬Walk (S.Lw n) fr t c)/\
 (∀t c,L t=some c->0<=c.s/\c.s<=3000000/\0<=c.d/\c.d<=3000000)/\w.heap.size<=mc/\w.heap.size<=mi/\mc≠mi/\Below w.heap.size w w'
theorem RD(B:NU S)(m:fr<N):BF (S.Lw n) (MB fr) N 0 4000 (FR.upd (λ_=>none) fr (some C.zero)):=by
 refine(BF.put (Ve B n fr) BF.start m (FR.Reach.src ⟨rfl,rfl⟩) (λd z=>nomatch z) (λ_=>?_)).1;exact C.aM (Int.le_refl _) (by simp only[C.zero];omega)
theorem WM(z:I4 g S)(U:NU S)(O:g.av fr)(P:S.lev fr=0)(Q:fr≠n)(H:BF (S.Lw n) (MB fr) g.n 0 4000 L)(J:∃d,L fr=some d/\C.le d C.zero)(B:∀a,g.av a->lI S n L a)(t:Nat):(∀c,L t=some c->df (S.Lw n) fr t c)/\(L t=none->∀c,¬Walk (S.Lw n) fr t c):=by
 have I:=BF.fin (Ve U n fr) H (λs k h=>by obtain⟨rfl,rfl⟩:=h;exact J) (λa c b e F R=>by
  have m:=(PQ z O P Q (FR.Reach.one.1 (H.reach a c F).1)).1;exact B a m c b e F R) t
 exact⟨λc z=>vT.one.1 (I.1 c z),λT c Z=>I.2 T c (FR.Reach.one.2 Z)⟩
theorem VS(w:World)(b ml me nl:Nat)(Sb:List Nat)(top:Int)(g:G)(S:LS)(b9:g.ok)(hc:I4 g S)(hs:NU S)(h:oo w b ml me Sb top (ic g S) nl (eZ g S))(A:Option Addr)(n0 m0:Nat)(hI:Ints w A n0 (λk=>(aA g).getD k 0))(b8:(aA g).length=n0)(fr n:Nat)(cx:g.av fr)(hl:S.lev fr=0)(M:fr≠n):Calls prog 161 #[vP b,.slice A n0 m0,rI (fr:Nat),rI (n:Nat)] w (X8 w S fr n g.n):=by
 have hn:=G.bA b9;have bo:=@run_makeMap prog;have dj:n0<=256:=by rw[<-b8];exact bM b9
 have H:=hid h;have Hc:=hid hc;have Hs:=hid hs;have ai:=hid (rN cx (rN hl M));have Hn:=hid (rN hn b8);have HI:=hid hI;clear h hc hs cx hl M b9 hn b8 hI;go_enter func161,ntmps161
 go_wp2_with (first
  |(refine o8 rfl _ _ _ rfl (aF underlying3) underlying242 (MapAt.made w) rfl ((fr:Nat):Int) rfl (.agg #[rI 0,rI 0]) rfl ?_;intro w1 Z bk)
  |(refine o8 rfl _ _ _ rfl (aF underlying3) underlying225 (MapAt.made w1) rfl ((fr:Nat):Int) rfl (.bool true) rfl ?_;intro w2 u a6))
 have c0:=bk.size;have c4:=a6.size;simp at c0 c4;have co:Below w.heap.size w w1:=Kept.below (ah (Below.refl _ w)) bk rS rS;have bd:Below w.heap.size w w2:=Kept.below (ah co) a6 so so;obtain⟨mc,cO⟩:=rX w.heap.size;obtain⟨mi,cR⟩:=rX w1.heap.size;rw[cO]at Z bk⊢;rw[cR]at u a6⊢;have M:mc≠mi:=om
 have Q:kU w2 w2 mc mi (FR.upd (λ_=>none) fr (some C.zero)):=by
  refine⟨⟨1,?_⟩,⟨1,?_⟩,Kept.refl _ _⟩
  .have e:(λ_=>none:Int->Option Value)=eQ (eP λ_=>none):=(lY (λ_=>rfl)).symm
   rw[e,lZ,show(some (Value.agg #[rI 0,rI 0]):Option Value)=some (oD C.zero)from rfl,pG]at Z;exact(Z.below (ah br)).kept a6 (by simpa using M)
  .rw[<-Pm,JU _ _ C.zero]at u
   exact u
 have hA:XB w2 w2 g S n fr mc mi (2*Nl g.n (FR.upd (λ_=>none) fr (some C.zero))+1) (.bool true):=
  ⟨true,_,rfl,Q,RD Hs.out ai.out.1.1,⟨C.zero,upd_same _ _ _,C.le_refl _⟩,rS,(λh=>nomatch h)⟩
 obtain⟨G0,cq⟩:∃z,2*Nl g.n (FR.upd (λ_=>none) fr (some C.zero))+1=z:=⟨_,rfl⟩;rw[cq]at hA;have c6:=hid (HI.out.below bd)
 have c7:Hid (0<n0->∀ad,A=some ad->ad.block∉[mc,mi]):=hid λhp ad e=>by
  obtain⟨dq,e',aa,_⟩:=HI.out hp;rw[e']at e;injection e with e;subst e
  simp;omega
 have H2:=hid (H.out.below bd)
 have cI:∀k∈b::ml::me::Sb,k∉[mc,mi]:=λk hk=>by
  obtain⟨q1,q2,q3,q4⟩:=H.out.qp;rcases Zd.1 hk with e|hk
  .simp;omega
  rcases Zd.1 hk with e|hk
  .simp;omega
  rcases Zd.1 hk with e|hk
  .simp;omega
  .have:=q4 k hk;simp;omega
 have c8:=hid cI;have cQ:w.heap.size<=mc:=om;have cS:w.heap.size<=mi:=om;clear Q cq Z u bk a6 co c0 c4 cI bo cO cR HI H;go_wp2_with fail;obtain⟨W3,rfl⟩:∃wo:World,wo=w2:=⟨_,rfl⟩
 go_loopg [12] G0 (λgk sv wr=>XB W3 wr g S n fr mc mi gk sv)
 case atStart=>exact hA
 case round=>
  obtain⟨O,L,rfl,hM,R,Q,b6,aq⟩:=hrel;clear hA;cases O with
  |false=>
   have a5:=WM Hc.out Hs.out ai.out.1 ai.out.2.1 ai.out.2.2 R Q (aq rfl)
   have B:X8 w S fr n g.n (.returned (.tuple #[.map (some mc),.map (some mi)])) wr:=
    ⟨mc,mi,L,rfl,⟨hM.1,hM.2.1,Kept.refl _ _⟩,λt=>(a5 t).1,λt=>(a5 t).2,λt c ht=>by have:=R.small ht;have:=Hn.out.1;omega,cQ,cS,M,Kept.below bd hM.2.2 bd.size so⟩
   have B:=hid B;clear hM R Q b6 aq a5;go_wp2;go_ret2;exact B.out
  |true=>
   have cy:gk=2*Nl g.n L+1:=by simpa using b6
   have hstart:Q9 W3 wr S n fr g.n mc mi (Nl g.n L) (λ_=>True) (λJ=>∀I,I<0->lI S n J (cf g I)) false:=⟨L,hM,R,Q,Zi _,(λh=>nomatch h),trivial,λ_ I h=>om⟩;obtain⟨mm,bo⟩:=rX (Nl g.n L);rw[bo]at hstart cy;clear hM R Q b6 aq bo;go_wp2_with fail;obtain⟨wo,rfl⟩:∃wo:World,wo=wr:=⟨_,rfl⟩
   go_loopw [12,13] (λsv kv wr=>∃(O:Bool)(i:Nat),sv=.bool O/\kv=rI i/\i<=n0/\Q9 W3 wr S n fr g.n mc mi mm (λ_=>True) (λJ=>∀I,I<i->lI S n J (cf g I)) O) (λ_ kv _=>n0-(intOf kv).toNat)
   case atStart=>exact⟨false,0,rfl,rfl,om,hstart⟩
   case round=>
    obtain⟨O,i,rfl,rfl,hi,L,hM,R,Q,Z,u,_,hQ⟩:=hrel;clear hstart;have HM:=hid hM;have P:=hid R;have HQ:=hid hQ;have F:=hid (rN Z u);have T:=hid Q;by_cases aa:i<n0
    .have bg:=c6.out.iC hM.2.2 c7.out
     obtain⟨ad,hA⟩:=bg.addr om;rw[hA]at bg;have b7:=λwx=>aP (m:=m0) hA aa wx;have hE:=bg.cell br aa;obtain⟨c1,c2⟩:=bW (g:=g) (i:=i) (by rw[Hn.out.2];exact aa);rw[c1]at hE;obtain⟨x,hx⟩:=rX (cf g i);rw[hx]at hE c2;have Hx:=hid (rN hx c2);have bj:=hM.is x wr br;obtain⟨th,ce⟩:=rX ((L x).isSome);rw[ce]at bj;have b2:=hid ce;clear bg hA c1 hx c2 ce hM R hQ Z u Q;cases th with
     |false=>
      have B:Q9 W3 wr S n fr g.n mc mi mm (λ_=>True) (λJ=>∀I,I<i+1->lI S n J (cf g I)) O:=⟨L,HM.out,P.out,T.out,F.out.1,F.out.2,trivial,λap I dg=>by
       by_cases e1:I<i
       .exact HQ.out ap I e1
       .obtain rfl:I=i:=om
        rw[Hx.out.1];intro c b' e' hc;have:=b2.out;rw[hc]at this;cases this⟩
      have B:=hid B;go_wp2;go_roundw
      case rel=>refine rR ?_;exact⟨O,i+1,rfl,by go_num,om,B.out⟩
      case measure=>exact rM
     |true=>
      go_wp2_with fail
      obtain⟨⟨cs,cd⟩,bi⟩:∃c,L x=some c:=by
       cases hL:L x with
       |none=>have:=b2.out;rw[hL]at this;cases this
       |some c=>exact⟨c,rfl⟩
      have cY:=PQ Hc.out ai.out.1 ai.out.2.1 ai.out.2.2 (FR.Reach.one.1 (P.out.reach x _ bi).1);have cm:=hid cY;have bv:=P.out.small bi;simp only at bv;have aq:Q9 W3 wr S n fr g.n mc mi mm (λJ=>J x=some ⟨cs,cd⟩) (λJ=>(∀I,I<i->lI S n J (cf g I))/\DD S n J x (dZ S g.n x) 0) O:=⟨L,HM.out,P.out,T.out,F.out.1,F.out.2,bi,λh=>⟨HQ.out h,λc hc j e hj=>om⟩⟩;obtain⟨ne,M⟩:=rX ((dZ S g.n x).length);have c5:ne<=256:=by rw[<-M];exact Zg (dS S g.n x) Hn.out.1
      have b1:=hid M;have ci:=hid (show 0<=cs/\cs<=3000000/\0<=cd/\cd<=3000000 by have:=Hn.out.1;omega);clear bi M cY bv HM P HQ F T b2 hE b7;obtain⟨wz,rfl⟩:∃wz:World,wz=wr:=⟨_,rfl⟩;go_loopw [12,15] (λsv kv wr=>∃(O:Bool)(k:Nat),sv=.bool O/\kv=rI k/\k<=ne/\Q9 W3 wr S n fr g.n mc mi mm (λJ=>J x=some ⟨cs,cd⟩) (λJ=>(∀I,I<i->lI S n J (cf g I))/\DD S n J x (dZ S g.n x) k) O) (λ_ kv _=>ne-(intOf kv).toNat)
      case atStart=>exact⟨O,0,rfl,rfl,om,aq⟩
      case round=>
       obtain⟨O,k,rfl,rfl,hk,L,hM,R,Q,Z,u,hP,hQ⟩:=hrel;clear aq;have ay:=H2.out.kept hM.2.2 c8.out;have k0:wr.cell? ⟨b,0,none⟩=some (.map (some ml)):=by simp[World.cell?,ay.1]
       have k1:wr.cell? ⟨b,1,none⟩=some (.map (some me)):=by simp[World.cell?,ay.1]
       obtain⟨A5,m5,cp,bm⟩:=ay.look (fM Hx.out.2);rw[b1.out]at bm;have cG:=bm wr br;have HM:=hid hM;have P:=hid R;have T:=hid Q;have F:=hid (rN Z u);have HP:=hid hP;have HQ:=hid hQ;have cj:=hid bm;have bz:=hid ay;have bx:=hid cp;clear hM R Q Z u hP hQ bm ay cp;by_cases cB:k<ne
       .obtain⟨e,he⟩:∃e,(dZ S g.n x)[k]? =some e:=⟨_,Zc (by rw[b1.out];exact cB)⟩
        obtain⟨t,dn,cU,ba⟩:=eH.1 (Ze he);obtain⟨gb,hA,a1,a2,a3,a4⟩:=bx.out.get he;have b7:=λwx=>gZ (m:=m5) hA cB wx;have ar:=Hs.out _ _ _ _ ba;obtain⟨xt,⟨xs,xd⟩,xm⟩:=e;simp only at a1 a2 a3 a4 cU ba ar;subst cU;have cb:=Hc.out x t (by rw[ba];simp);have He:=hid (rN he (rN ba (rN cb ar)))
        have cJ:∀w',Below wr.heap.size wr w'->(Instr.lookup 129 (.map (some ml)) (rI (t:Nat)) false).run prog w'=.ok (rI (S.lev t:Nat)) w':=λw' hb=>by
         have:=((bz.out.2.1.below hb).look (aF underlying3) underlying129 (z:=rI 0) (by simp[zeroValue3]) ((t:Nat):Int)).2;rw[CO g S _,nu cb.2.1]at this;exact this
        have cl:=hid cJ;clear hA he ba cb ar cJ;go_upto_region 15 with(fail);refine aB ?_;intro Wc aE;have ac:Below wr.heap.size wr Wc:=by rw[aE];exact be
        have o0:Wc.cell? ⟨wr.heap.size,0,none⟩=some (rI (t:Nat)):=by rw[aE];go_simp
        have o1:Wc.cell? ⟨wr.heap.size,1,none⟩=some (rI xs):=by rw[aE];go_simp
        have o2:Wc.cell? ⟨wr.heap.size,2,none⟩=some (rI xd):=by rw[aE];go_simp
        obtain⟨cn,bq⟩:=rX wr.heap.size;have k0:=af ac k0;have k1:=af ac k1;have ax:=hid (HM.out.below ac);have am:∀n,(Instr.lookup 129 (.map (some ml)) (rI (t:Nat)) false).run prog (Wc.drewN n)=.ok (rI (S.lev t:Nat)) (Wc.drewN n):=λn=>cl.out _ (ak ac);obtain⟨lt,a7⟩:=rX (S.lev t);rw[a7]at am;have ck:=hid a7;have b3:cn∉[mc]:=by have:=HM.out.lt;simp;omega
        rw[bq]at o0 o1 o2⊢;clear aE bq HM a1 a2 a3 a4 b7 cG a7
        have a9:(lt≠0\/t=n)->∀wx,Below Wc.heap.size Wc wx->Q9 W3 wx S n fr g.n mc mi mm (λJ=>J x=some ⟨cs,cd⟩) (λJ=>(∀I,I<i->lI S n J (cf g I))/\DD S n J x (dZ S g.n x) (k+1)) O:=λdl wx hb=>
         ⟨L,ax.out.below hb,P.out,T.out,F.out.1,F.out.2,HP.out,λh=>⟨(HQ.out h).1,Bw (HQ.out h).2 He.out.1 rfl (λh1 h2=>by
          rcases dl with q|q
          .exact absurd (ck.out.symm.trans h1) q
          .exact absurd q h2)⟩⟩
        have U:=hid a9;clear a9;by_cases h0:lt=0
        .subst h0
         by_cases cV:t=n
         .subst cV
          go_quiet (fail);have B:=U.out (.inr rfl) _ (ak (n:=nq) (Below.refl Wc.heap.size Wc));have B:=hid B;clear U ax o0 o1 o2 k0 k1 am ac;go_wp2;go_roundw
          case rel=>refine rR ?_;exact⟨O,k+1,rfl,by go_num,om,B.out⟩
          case measure=>exact rM
         .have dk:(((t:Nat):Int)==((n:Nat):Int))=false:=Zq.2 om
          clear U;go_quiet (fail);have aS:Below Wc.heap.size Wc (Wc.drewN nq):=ak br;have o0:=af aS o0;have o1:=af aS o1;have o2:=af aS o2;have bb:=hid (ax.out.below aS);clear aS ax k0 k1 am ac cj bz bx cl dk;generalize Wc.drewN nq=w5 at*;have cT:=bb.out.lt;have ar:=He.out.2.2.2;have cw:=ci.out;obtain⟨ds,dr,q1,_,q3⟩:=bb.out.cost x;have q1:=q1 _ HP.out;injection q1 with q1 q2
          subst q1;subst q2;have cH:=q3 w5 br;have cP:=hid (λw=>tK cs cd xs xd w (by unfold aT;omega) (by unfold aT;omega) (by unfold aT;omega) (by unfold aT;omega));have c9:=hid (rN ar cw);clear q3 ar cw;go_wp2_with fail;(with_reducible refine(cP.out _).mono ?_);rintro e w6 ⟨rfl,b4⟩;have o0:=af b4 o0;have ch:=hid (bb.out.below b4);clear cH cP bb o1 o2 b4 cT;go_upto_region 17 with(fail);refine aB ?_;intro W7 bh;have b0:Below w6.heap.size w6 W7:=by rw[bh];exact be
          have d0:W7.cell? ⟨w6.heap.size,0,none⟩=some (rI (cs+xs)):=by rw[bh];go_simp
          have d1:W7.cell? ⟨w6.heap.size,1,none⟩=some (rI (cd+xd)):=by rw[bh];go_simp
          have o0:=af b0 o0;have bc:=hid (ch.out.below b0);obtain⟨db,bt⟩:=rX w6.heap.size;rw[bt]at d0 d1⊢;have bj:=bc.out.is t;obtain⟨ws,wd,cg,cX,cD⟩:=bc.out.cost t;have bw:=bj W7 br;have cE:=cD W7 br;obtain⟨tb,ca⟩:=rX ((L t).isSome);rw[ca]at bw
          have ao:aT ws/\aT wd:=by
           cases hL:L t with
           |none=>obtain⟨rfl,rfl⟩:=cX hL;exact⟨by unfold aT;omega,by unfold aT;omega⟩
           |some c=>
            have h:=P.out.small hL;rw[cg c hL]at h;simp only at h;have:=Hn.out.1;unfold aT;omega
          have al:aT (cs+xs)/\aT (cd+xd):=by have:=c9.out;unfold aT;omega
          obtain⟨tt,cW⟩:∃z,(!tb||decide (C.cmp ⟨cs+xs,cd+xd⟩ ⟨ws,wd⟩<0))=z:=⟨_,rfl⟩;have ab:=hid (rN cW (rN ca cg));clear bh b0 bt ch bj cD cX cW ca cg;go_cut [93] (λs wx=>s=.bool tt/\Below W7.heap.size W7 wx)
          case first=>
           cases tb with
           |false=>
            have ht:tt=true:=by rw[<-ab.out.1];rfl
            subst ht;go_wp2;go_meet
            case rel=>exact⟨rfl,be⟩
           |true=>
            have cC:=ry (cs+xs) (cd+xd) ws wd;obtain⟨cv,b5⟩:∃cv,C.cmp ⟨cs+xs,cd+xd⟩ ⟨ws,wd⟩=cv:=⟨_,rfl⟩;have ht:tt=decide (cv<0):=by rw[<-ab.out.1,b5];rfl
            rw[b5]at cC;have cC:=hid (λw=>cC w al.1 al.2 ao.1 ao.2);have da:=hid ht;clear b5 ht al ao;go_wp2_with fail;(with_reducible refine(cC.out _).mono ?_);rintro e w8 ⟨rfl,de⟩;go_wp2;go_meet
            case rel=>exact⟨by rw[da.out],de⟩
          case rest=>
           obtain⟨rfl,a0⟩:=hcut;have aw:=hid (bc.out.below a0);have o0:=af a0 o0;have d0:=af a0 d0;have d1:=af a0 d1;clear bc bw cE ao al a0;cases tt with
           |false=>
            have cF:∃d,L t=some d/\C.le d ⟨cs+xs,cd+xd⟩:=by
             have h:=ab.out.1;cases hL:L t with
             |none=>have:=ab.out.2.1;rw[hL]at this;subst this;simp at h
             |some d=>
              refine⟨d,rfl,?_⟩;rw[ab.out.2.2 d hL];intro aa;have:=C.dP.2 aa;simp at h;omega
            have B:Q9 W3 wc S n fr g.n mc mi mm (λJ=>J x=some ⟨cs,cd⟩) (λJ=>(∀I,I<i->lI S n J (cf g I))/\DD S n J x (dZ S g.n x) (k+1)) O:=
             ⟨L,aw.out,P.out,T.out,F.out.1,F.out.2,HP.out,λh=>⟨(HQ.out h).1,Bw (HQ.out h).2 He.out.1 rfl (λ_ _ c hc=>by
              rw[HP.out]at hc;injection hc with hc;subst hc
              exact cF)⟩⟩
            have B:=hid B;clear cF aw o0 d0 d1;go_wp2;go_roundw
            case rel=>refine rR ?_;exact⟨O,k+1,rfl,by go_num,om,B.out⟩
            case measure=>exact rM
           |true=>
            have aa:∀d,L t=some d->C.lt ⟨cs+xs,cd+xd⟩ d:=λd hd=>by
             have h:=ab.out.1;have h2:=ab.out.2.1;rw[hd]at h2;subst h2;simp at h;rw[ab.out.2.2 d hd];exact C.dP.1 h
            have cL:S.Lw n x t ⟨xs,xd⟩:=⟨⟨cm.out.2.1,ck.out,xm,He.out.2.1⟩,cm.out.2.2,cV⟩;have Hl:=hid (rN aa cL);have dp:x≠t:=He.out.2.2.1.2.2;have du:cn<wc.heap.size:=ZF _ _ o0;have dt:db<wc.heap.size:=ZF _ _ d0;obtain⟨⟨n1,cr⟩,⟨n2,ct⟩,dd⟩:=aw.out;clear aa cL
            go_wp2_with (first
             |(refine bV rfl _ _ _ rfl (aF underlying3) underlying242 cr rfl ((t:Nat):Int) rfl (.agg #[rI (cs+xs),rI (cd+xd)]) rfl ?_;intro wU cM bl;have o0:=aH bl b3 o0)
             |(refine bV rfl _ _ _ rfl (aF underlying3) underlying225 (ct.kept bl (by simpa using Ne.symm M)) rfl ((t:Nat):Int) rfl (.bool true) rfl ?_;intro wV cN cA))
            have B:Q9 W3 wV S n fr g.n mc mi mm (λJ=>J x=some ⟨cs,cd⟩) (λJ=>(∀I,I<i->lI S n J (cf g I))/\DD S n J x (dZ S g.n x) (k+1)) true:=
             RB (es:=xs) (ed:=xd) Hs.out aw.out P.out T.out F.out.1 HP.out Hl.out.2 dn Hl.out.1 (by show FR.upd L t _ x=_;rw[upd_ne _ _ dp];exact HP.out) cM bl cN cA M
            have B:=hid B;clear cM bl cN cA cr ct dd aw o0 d0 d1;go_wp2;go_roundw
            case rel=>refine rR ?_;exact⟨true,k+1,rfl,by go_num,om,B.out⟩
            case measure=>exact rM
        .have hd:decide ((0:Int)<((lt:Nat):Int))=true:=so
         go_quiet (fail);have B:=U.out (.inl h0) _ (ak (n:=nq) (Below.refl Wc.heap.size Wc));have B:=hid B;clear U ax o0 o1 o2 k0 k1 am ac;go_wp2;go_roundw
         case rel=>refine rR ?_;exact⟨O,k+1,rfl,by go_num,om,B.out⟩
         case measure=>exact rM
       .obtain rfl:k=ne:=om
        have B:Q9 W3 wr S n fr g.n mc mi mm (λ_=>True) (λJ=>∀I,I<i+1->lI S n J (cf g I)) O:=⟨L,HM.out,P.out,T.out,F.out.1,F.out.2,trivial,λap I dg=>by
         by_cases e1:I<i
         .exact(HQ.out ap).1 I e1
         .obtain rfl:I=i:=om
          rw[Hx.out.1];have:=(HQ.out ap).2;rw[<-b1.out]at this;exact MZ Hc.out this⟩
        have B:=hid B;clear HM P T F HP HQ cj bz bx;go_wp2;go_roundw
        case rel=>refine rR ?_;exact⟨O,i+1,rfl,by go_num,om,B.out⟩
        case measure=>exact rM
    .obtain rfl:i=n0:=om
     have bp:O=false->∀a,g.av a->lI S n L a:=λap a ha=>by
      obtain⟨j,q1,rfl⟩:=mM ha;exact HQ.out ap j (by rw[<-Hn.out.2];exact q1)
     have B:XB W3 wr g S n fr mc mi (2*Nl g.n L+(if O then 1 else 0)) (.bool O):=⟨O,L,rfl,HM.out,P.out,T.out,rfl,bp⟩
     have a8:2*Nl g.n L+(if O then 1 else 0)<gk:=by
      cases O with
      |true=>have:=F.out.2 rfl;simp;omega
      |false=>have:=F.out.1;simp;omega
     have B:=hid B;have a8:=hid a8;clear HM P T F HQ hM R Q Z u hQ bp;go_wp2;go_roundg (2*Nl g.n L+(if O then 1 else 0))
     case measure=>exact a8.out
     case rel=>exact B.out
theorem vM{I:Array Oper}{m:List Oper}{o:Oper}{a:Act}{Q:Exit->Act->World->Prop}(w:World)(O:o.guard=none)(s x:Operand)(ho:o.op=.call {callee:=.builtin .append,args:=#[s,x],argTypes:=#[119,119]})(B:Nat)(v:Value)(L:List Ed)(e:Ed)(hs:a.eval s=v)(F:bf w B v L)(ad:Addr)(hx:a.eval x=.slice (some ad) 1 1)(S:∀j u,e.cells[j]? =some u->w.cell? (ad.add j)=some u)(hl:L.length<=100000)(M:B<=w.heap.size)(h:∀z J,bf J B z (L++[e])->w.grownBy J v.ownBlock->(z.ownBlock=v.ownBlock\/z.ownBlock=some w.heap.size)->wpList prog I Q m (a.put o.dst z) J):wpList prog I Q (o::m) a w:=by
 obtain⟨i0,z0,hi,P,R,T,U⟩:=fV;refine wpList_append_own_at w O s x 119 ho B 192 i0 z0 4 32 underlying119 hi P R T U rD v L.length (dM L) hs F ad 1 1 e.cells hx rfl S (oG e) ?_ ?_ M ?_
 .unfold maxLen;omega
 .omega
 .intro z J Z g _ k
  refine h z J ?_ g k;unfold bf;rw[Zp,iO,dz,xG,List.append_nil];exact Z
noncomputable def oP(g:G)(S:LS)(tp i:Nat):RS:=((az g).take i).foldl (RS.step g.n tp) ⟨S,λ_=>false,false⟩
theorem TD(h:i<(aA g).length):oP g S tp (i+1)=RS.step g.n tp (oP g S tp i) (cf g i):=by
 unfold oP;obtain⟨m,e⟩:=Zb.1 (Uq h);rw[Zt m,List.foldl_append,e];rfl
theorem V8(h:(aA g).length<=i):oP g S tp i=RS.run g.n tp (az g) S:=by
 unfold oP RS.run;rw[List.take_of_length_le (by rw[yw];exact h)]
theorem V9{tp K:Nat}(H:LS.Inv g g.n tp K S (λ_=>false))(i:Nat):LS.Inv g g.n tp K (oP g S tp i).S (oP g S tp i).near:=
 LS.lU _ _ H (λn m=>dm.1 (List.mem_of_mem_take m))
theorem QP{R:RS}(h:R.S.lev n≠0):RS.step N tp R n=R:=by unfold RS.step;rw[if_pos (.inl h)]
def Mo(S:LS)(n:Nat)(p:Nat×Nat):Ed:=⟨(p.2:Nat),C.add (S.cost n p.1) (S.cost n p.2),(n:Nat)⟩
def ApartL(v u:Value):Prop:=∀q,v.ownBlock=some q->u.ownBlock≠some q
theorem ApartL.symm{v u:Value}(h:ApartL v u):ApartL u v:=λq m z=>h q z m
theorem ApartL.grown{v F u:Value}(h:ApartL v u)(B:F.ownBlock=v.ownBlock\/F.ownBlock=some w.heap.size)(I:∀q,u.ownBlock=some q->q<w.heap.size):ApartL F u:=λq z m=>by
 rcases B with e|e
 .exact h q (by rw[<-e];exact z) m
 .rw[e]at z;injection z with z
  have:=I q m;omega
theorem Sa{e:Ed}(h:(dZ S N n)[k]? =some e):((dZ S N n).take (k+1)).filter (λe=>decide (S.lev e.to_.toNat=0))=((dZ S N n).take k).filter (λe=>decide (S.lev e.to_.toNat=0))++(if S.lev e.to_.toNat=0 then[e]else[]):=by
 obtain⟨z,m⟩:=Zb.1 h;rw[Zt z,List.filter_append,m];by_cases q:S.lev e.to_.toNat=0<;>simp[q]
def TK(M:List (Nat×Nat))(k:Nat)(a b:Nat):Prop:=(a,b)∈M.take k
theorem Rx(M:List (Nat×Nat)):TK M 0=λ_ _=>False:=by funext a b;simp[TK]
theorem Rw{k a b:Nat}(h:M[k]? =some (a,b)):(λx y=>TK M k x y\/(x=a/\y=b))=TK M (k+1):=by
 obtain⟨m,e⟩:=Zb.1 h;funext x y;unfold TK;rw[Zt m,e];simp
theorem U6(h:M.length<=k)(a b:Nat):TK M k a b↔(a,b)∈M:=by unfold TK;rw[List.take_of_length_le h]
theorem Lp:eZ g (S.part n tp λ_ _=>False)=eZ g S:=AA (λ_ _ h=>h)
open Classical in
noncomputable def Ab(g:G)(V:Int->Option Value)(i:Nat)(z:Int):Option Value:=if ∃j,j<i/\z=(cf g j:Nat)then V z else none
theorem Nb(g:G)(V:Int->Option Value):Ab g V 0=λ_=>none:=by
 funext z;unfold Ab;rw[if_neg];rintro⟨j,h,_⟩;omega
theorem Na(g:G)(V:Int->Option Value)(i:Nat)(F:V (cf g i:Nat)=some u):aN (Ab g V i) ((cf g i:Nat):Int) (some u)=Ab g V (i+1):=by
 funext z;unfold aN Ab;by_cases e:z=(cf g i:Nat)
 .rw[if_pos e,if_pos ⟨i,om,e⟩,e,F]
 .rw[if_neg e]
  by_cases h:∃j,j<i/\z=(cf g j:Nat)
  .obtain⟨j,B,m⟩:=h
   rw[if_pos ⟨j,B,m⟩,if_pos ⟨j,om,m⟩]
  .rw[if_neg h,if_neg]
   rintro⟨j,B,m⟩;by_cases q:j=i
   .subst q;exact e m
   .exact h ⟨j,om,m⟩
theorem I5(g:G):BL g (aA g).length=eZ g (LS.first g):=by
 funext z;by_cases h:0<=z/\g.av z.toNat
 .have F:z=((z.toNat:Nat):Int):=om
  rw[F,fM h.2];exact AJ (Dv g) h.2
 .rw[sF h]
  unfold BL;rw[if_neg];rintro⟨j,m,B⟩;exact h ((nJ z).1 ⟨j,m,B⟩)
theorem cz.copy{S:List Nat}{me N:Nat}{V:Int->Option Value}(B:∀k,eZ g (LS.first g) k=Option.none↔V k=Option.none)(R:∀k u L,V k=some u->eZ g (LS.first g) k=some L->bf w 0 u L)(F:∀k u q,V k=some u->u.ownBlock=some q->q∈S)(T:∀k P u Q q,V k=some u->V P=some Q->u.ownBlock=some q->Q.ownBlock=some q->k=P)(U:∀s,s∈S->s<w.heap.size)(I:MapAt iK w' me (Ab g V (aA g).length) N)(J:Kept [me] w w')(m:me∉S):cz w' S me (eZ g (LS.first g)):=by
 have M:Ab g V (aA g).length=V:=by
  funext z;unfold Ab;by_cases h:∃j,j<(aA g).length/\z=(cf g j:Nat)
  .rw[if_pos h]
  .rw[if_neg h]
   have:=sF (g:=g) (S:=LS.first g) (λq=>h ((nJ z).2 q));exact((B z).1 this).symm
 rw[M]at I;exact⟨V,N,I,B,λk u L O Z=>(R k u L O Z).kept J (λq hq=>by have:=F k u q O hq;simp;rintro rfl;exact m this),F,m,T,λs hs=>Zf (U s hs) J.size⟩
open Classical in
noncomputable def qY(g:G)(S:LS)(top i:Nat)(z:Int):Option Value:=if ∃j,j<i/\z=(cf g j:Nat)then bN g (S.close (az g) top) z else ic g S z
theorem Ma(g:G)(S:LS)(top:Nat):qY g S top 0=ic g S:=by
 funext z;unfold qY;rw[if_neg];rintro⟨j,h,_⟩;omega
theorem Px(g:G)(S:LS)(top:Nat):qY g S top (aA g).length=bN g (S.close (az g) top):=by
 funext z;unfold qY;by_cases h:∃j,j<(aA g).length/\z=(cf g j:Nat)
 .rw[if_pos h]
 .rw[if_neg h]
  have m:¬(0<=z/\g.av z.toNat):=λq=>h ((nJ z).2 q);rw[pJ m];unfold ic;rw[if_neg (λq=>m q.1)]
theorem Pz(m:g.av n):(ic g S (n:Nat)).getD (rI 0)=rI (S.lev n:Nat):=by
 rw[CO g S _,nu m]
theorem EN{top i:Nat}(m:i<(aA g).length):qY g S top i (cf g i:Nat)=ic g S (cf g i:Nat):=by
 unfold qY;rw[if_neg];rintro⟨j,z,B⟩;have:=kV (g:=g) (i:=j) (j:=i) om m om;omega
theorem Py{top i:Nat}(I:i<(aA g).length)(F:S.lev (cf g i)=0):aN (qY g S top i) ((cf g i:Nat):Int) (some (rI (top:Nat)))=qY g S top (i+1):=by
 funext z;unfold aN;by_cases e:z=(cf g i:Nat)
 .rw[if_pos e,e]
  unfold qY;rw[if_pos ⟨i,om,rfl⟩,Ao (bW I).2 F]
 .rw[if_neg e]
  unfold qY;by_cases h:∃j,j<i/\z=(cf g j:Nat)
  .obtain⟨j,B,m⟩:=h
   rw[if_pos ⟨j,B,m⟩,if_pos ⟨j,om,m⟩]
  .rw[if_neg h,if_neg]
   rintro⟨j,B,m⟩;by_cases q:j=i
   .subst q;exact e m
   .exact h ⟨j,om,m⟩
theorem L9{top i:Nat}(J:i<(aA g).length)(F:S.lev (cf g i)≠0):qY g S top i=qY g S top (i+1):=by
 funext z;by_cases e:z=(cf g i:Nat)
 .rw[e,EN J]
  have B:=(bW (g:=g) J).2;unfold qY;rw[if_pos ⟨i,om,rfl⟩,D9 B F,gq B];unfold ic;rw[if_pos ⟨⟨om,by simpa using B⟩,by simpa using F⟩];simp
 .unfold qY
  by_cases h:∃j,j<i/\z=(cf g j:Nat)
  .obtain⟨j,I,m⟩:=h
   rw[if_pos ⟨j,I,m⟩,if_pos ⟨j,om,m⟩]
  .rw[if_neg h,if_neg]
   rintro⟨j,I,m⟩;by_cases q:j=i
   .subst q;exact e m
   .exact h ⟨j,om,m⟩
theorem Ie(g:G):ic g (LS.first g)=λ_=>none:=by
 funext z;unfold ic;rw[if_neg];rintro⟨_,h⟩;exact h rfl
def WE(w:World)(g:G)(most:Nat)(e:Ending)(w':World):Prop:=
 ∃b ml me Sb nl,e=.returned (vP b)/\oo w' b ml me Sb ((LS.all g (az g) most).2:Nat) (bN g (LS.all g (az g) most).1) nl (eZ g (LS.all g (az g) most).1)/\Below w.heap.size w w'
def U3(W:World)(b ml me:Nat)(g:G)(most:Nat)(wr:World):Prop:=
 ∃S tp Sb nl,oo wr b ml me Sb (tp:Nat) (ic g S) nl (eZ g S)/\(S,tp)=LS.rounds g.n (az g) (most-1) 1 (LS.first g)/\Kept [b,ml,me] W wr
def U4(W:World)(b ml me:Nat)(g:G)(most gk:Nat)(wr:World):Prop:=
 ∃k tp K S Sb nl,oo wr b ml me Sb (tp:Nat) (ic g S) nl (eZ g S)/\LS.Inv g g.n tp K S (λ_=>false)/\(∀a,S.lev a<tp)/\K<=15*2^(tp-1)/\1<=tp/\tp+k=most/\LS.rounds g.n (az g) k tp S=LS.rounds g.n (az g) (most-1) 1 (LS.first g)/\Kept [b,ml,me] W wr/\k<=gk
