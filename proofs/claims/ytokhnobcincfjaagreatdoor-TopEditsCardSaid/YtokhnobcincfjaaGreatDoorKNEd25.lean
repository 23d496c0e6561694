/- Lemmas of this claim: Lv9, Lv10, Lv11, Lv12, Lv13, Cn, LvA1, LvA2. -/
import Derived.Test.YtokhnobcincfjaaGreatDoorLv8
import Derived.Test.YtokhnobcincfjaaGreatDoorKNEd10
set_option linter.unusedVariables false
set_option linter.unusedSimpArgs false
set_option maxHeartbeats 6400000
set_option maxRecDepth 100000
namespace Go.Proofs.YtokhnobcincfjaaGreatDoor
open Go.Lib (hid)
open Go.RowKit Go.Sort FR Go.Lib
variable {g:G}{E:Int->Option (List Ed)}{S:LS}{Sb:List Nat}{b me ml n nl tp:Nat}
theorem Be(w:World)(B:Nat)(v:Value)(L:List Ed)(h:bU w B v L)(hl:L.length<=100000):Calls Tryz.prog 98 #[v] w (NF w L):=by
 obtain⟨i0,z0,hi,ab,ac,ad,ag⟩:=gM;have hq:∀(w:World)(a:Option Addr)(n c n' Z:Nat),(binOp .eql 119 (.slice a n c) (.slice none n' Z)).run Tryz.prog w=.ok (.bool a.isNone) w:=λw a n c n' Z=>Lib.run_eql_slice_nil w _ _ a n c n' Z Tryz.underlying119;rcases h.2 with⟨rfl,h0⟩|⟨g,S,ai,rfl,_,hg,_,_,_,M⟩
 .have:L=[]:=List.eq_nil_of_length_eq_zero h0
  subst this;go_enter Tryz.func98,Tryz.ntmps98;go_wp2;go_ret;exact⟨_,rfl,bU.nil _ _,Below.refl _ _⟩
 .have Q:∀j u,(dw L)[j]? =some u->w.cell? ((⟨g,0,none⟩:Addr).add j)=some u:=λj u U=>by
   rw[Addr.add_lit,Nat.zero_add];rw[<-M,List.getElem?_take]at U;split at U
   .rw[Array.getElem?_toList]at U
    simp[World.cell?,hg,U]
   .cases U
  have al:g<w.heap.size:=(Array.getElem?_eq_some_iff.1 hg).1;have I:=bz L;have O:=tZ L;obtain⟨n,hn⟩:∃n,L.length=n:=⟨_,rfl⟩;obtain⟨X,hX⟩:∃X,dw L=X:=⟨_,rfl⟩;rw[hn]at hl I⊢;rw[hX]at Q I O;have Hn:=hid (And.intro hn hX);clear hn hX M hg h;go_enter Tryz.func98,Tryz.ntmps98;go_wp2_with (at_builtin;(refine wpList_append_own _ rfl _ _ 119 rfl w.heap.size 182 i0 z0 4 32 Tryz.underlying119 hi ab ac ad ag (by decide) _ _ _ rfl (World.ownsRow_made w #[] 0 (Nat.le_refl _) (Nat.zero_le _) rfl) ⟨g,0,none⟩ n S X rfl I (λj u hj=>Lib.cell?_alloc_some _ (Q j u hj)) O (by unfold maxLen;omega) (by omega) (by simp) ?_);intro v' w1 P F T)
  have J:bU w1 w.heap.size v' L:=by
   unfold bU;rw[Hn.out.1,Hn.out.2];simpa using P
  have R:Below w.heap.size w w1:=((Below.refl _ w).alloc (Nat.le_refl _) _).grown F (by simp) (λk hk=>(World.ownsRow.lt (World.ownsRow_made (e:=182) (size:=4) w #[] 0 (Nat.le_refl _) (Nat.zero_le _) rfl) k hk).1);have z:NF w L (.returned v') w1:=⟨_,rfl,J,R⟩;have z:=hid z;clear P F T J R;go_wp2;go_ret;exact z.out
theorem Bt(w:World)(b p O:Nat)(S:List Nat)(g:G)(v:Int)(E:Int->Option (List Ed))(h:aD w b p O S g v E)(c:Int)(L:List Ed)(I:E c=some L)(hl:L.length<=100000):Calls Tryz.prog 54 #[.pointer (some ⟨b,0,none⟩),.int .i64 c] w (sH w L):=by
 obtain⟨Q,_,⟨V,N,T,U,Z,_,_,_,_⟩,_⟩:=h;have ab:w.cell? ⟨b,1,none⟩=some (.map (some O)):=by simp[World.cell?,Q]
 obtain⟨u,M⟩:∃u,V c=some u:=by
  cases hV:V c with
  |none=>rw[(U c).2 hV]at I;cases I
  |some u=>exact⟨u,rfl⟩
 have R:=Z c u L M I
 have J:(Instr.lookup 137 (.map (some O)) (.int .i64 c) true).run Tryz.prog w=.ok (.tuple #[u,.bool true]) w:=by
  have:=(T.look (aG Tryz.underlying3) Tryz.underlying137 (z:=.slice none 0 0) (by simp[Tryz.zeroValue119]) c).1;rw[M]at this;exact this
 have P:=hid (Be w 0 u L R hl);clear Q T U Z M R I;go_enter Tryz.func54,Tryz.ntmps54;go_wp2_with fail;(with_reducible refine P.out.mono ?_);rintro e w1 ⟨vE,rfl,B,F⟩;have k:sH w L (.returned (.tuple #[vE,.nilIface])) w1:=⟨vE,rfl,B,F⟩;have k:=hid k;clear B F J P;go_wp2;go_ret2;exact k.out
open Classical in
noncomputable def zI(g:G)(i:Nat)(z:Int):Option Value:=if ∃j,j<i/\z=(cf g j:Nat)then some (.int .i64 0)else none
open Classical in
noncomputable def Om(g:G)(i:Nat)(z:Int):Option (List Ed):=if ∃j,j<i/\z=(cf g j:Nat)then some (gz (LS.first g) g.n z.toNat)else none
theorem IP(g:G):zI g 0=λ_=>none:=by
 funext z;unfold zI;rw[if_neg];rintro⟨j,h,_⟩;omega
theorem KP(g:G):Om g 0=λ_=>none:=by
 funext z;unfold Om;rw[if_neg];rintro⟨j,h,_⟩;omega
theorem IM(g:G)(i:Nat):aL (zI g i) ((cf g i:Nat):Int) (some (.int .i64 0))=zI g (i+1):=by
 funext z;unfold aL zI;by_cases e:z=(cf g i:Nat)
 .rw[if_pos e,if_pos ⟨i,by omega,e⟩]
 .rw[if_neg e]
  by_cases h:∃j,j<i/\z=(cf g j:Nat)
  .obtain⟨j,u,k⟩:=h
   rw[if_pos ⟨j,u,k⟩,if_pos ⟨j,by omega,k⟩]
  .rw[if_neg h,if_neg]
   rintro⟨j,u,k⟩;by_cases q:j=i
   .subst q;exact e k
   .exact h ⟨j,by omega,k⟩
theorem KO(g:G)(i:Nat):bO (Om g i) ((cf g i:Nat):Int) (some (gz (LS.first g) g.n (cf g i)))=Om g (i+1):=by
 funext z;unfold bO Om;by_cases e:z=(cf g i:Nat)
 .rw[if_pos e,if_pos ⟨i,by omega,e⟩,e];simp
 .rw[if_neg e]
  by_cases h:∃j,j<i/\z=(cf g j:Nat)
  .obtain⟨j,u,k⟩:=h
   rw[if_pos ⟨j,u,k⟩,if_pos ⟨j,by omega,k⟩]
  .rw[if_neg h,if_neg]
   rintro⟨j,u,k⟩;by_cases q:j=i
   .subst q;exact e k
   .exact h ⟨j,by omega,k⟩
theorem uy(z:Int):(∃j,j<(aA g).length/\z=(cf g j:Nat))↔(0<=z/\g.ak z.toNat):=by
 constructor
 .rintro⟨j,k,rfl⟩
  exact⟨by omega,by simpa using(dS k).2⟩
 .rintro⟨k,u⟩
  obtain⟨j,B,F⟩:=oU u;exact⟨j,B,by rw[F];omega⟩
theorem LC(g:G):zI g (aA g).length=bH g (LS.first g):=by
 funext z;unfold zI bH;by_cases h:0<=z/\g.ak z.toNat
 .rw[if_pos h,if_pos ((uy z).2 h)];rfl
 .rw[if_neg h,if_neg (λq=>h ((uy z).1 q))]
theorem Oo(g:G):Om g (aA g).length=gK g (LS.first g):=by
 funext z;unfold Om gK;by_cases h:0<=z/\g.ak z.toNat
 .rw[if_pos h,if_pos ((uy z).2 h)]
 .rw[if_neg h,if_neg (λq=>h ((uy z).1 q))]
theorem DV(h:bI g (λ_ _=>True) E){c:Nat}{L:List Ed}(I:E c=some L):L=gz (LS.first g) g.n c:=by
 obtain⟨O,P⟩:=h.2 c L I
 have B:g.ak c:=by
  obtain⟨Q,e,R⟩:=(h.1 c).1 (by rw[I];simp);obtain rfl:c=Q:=by omega
  exact R
 refine uu (EL O) (EB _ _ _) λe=>?_;rw[P e,fw];constructor
 .rintro⟨y,u,k,_,z,rfl⟩
  exact⟨y,u.1,rfl,LS.uW ⟨B,u,Ne.symm k,z,rfl⟩⟩
 .rintro⟨t,u,k,z⟩
  obtain⟨F,J,M⟩:=LS.jb z;refine⟨t,F.2.1,Ne.symm F.2.2.1,trivial,F.2.2.2.1,?_⟩;cases e;simp at k J M⊢;exact⟨k,J,M⟩
theorem Iw(h:bI g (λ_ _=>True) E){c:Nat}(u:g.ak c):E c=some (gz (LS.first g) g.n c):=by
 cases k:E c with
 |none=>exact absurd k ((h.1 c).2 ⟨c,rfl,u⟩)
 |some L=>rw[DV h k]
theorem H9{top n:Nat}(k:g.ak n)(u:S.lev n=0):bH g (S.close (av g) top) ((n:Nat):Int)=some (.int .i64 (top:Nat)):=by
 rw[fQ k];have e:(S.close (av g) top).lev n=top:=if_pos ⟨bn.2 k,u⟩;rw[e]
theorem Kt{top n:Nat}(k:g.ak n)(u:S.lev n≠0):bH g (S.close (av g) top) ((n:Nat):Int)=bH g S (n:Nat):=by
 rw[fQ k,fQ k];have e:(S.close (av g) top).lev n=S.lev n:=if_neg (λq=>u q.2);rw[e]
theorem H8{top:Nat}{z:Int}(h:bH g S z=none):bH g (S.close (av g) top) z=none:=by
 by_cases q:0<=z/\g.ak z.toNat
 .exact absurd h (qB.2 ⟨z.toNat,by omega,q.2⟩)
 .exact rT q
theorem dL.none{w:World}{k n:Nat}(h:MapAt iK w k (λ_=>Option.none) n):dL w [] k (λ_=>Option.none):=
 ⟨λ_=>Option.none,n,h,(λ_=>⟨λ_=>rfl,λ_=>rfl⟩),(λ_ _ _ h=>nomatch h),(λ_ _ _ h=>nomatch h),(by simp),(λ_ _ _ _ _ h=>nomatch h),(by simp)⟩
theorem cz.top{w:World}{top k:Int}{V:Int->Option Value}(h:cz w b ml me Sb top V nl E):cz (w.setCell ⟨b,2,none⟩ (.int .i64 k)) b ml me Sb k V nl E:=by
 obtain⟨I,J,L,u,M,z,B,O⟩:=h;have F:Kept [b] w (w.setCell ⟨b,2,none⟩ (.int .i64 k)):=(Kept.refl _ _).setCell (.inl (by simp));refine⟨?_,J.kept F (by simpa using Ne.symm z),L.kept F (λs P=>by simp;rintro rfl;exact u P) (by simpa using Ne.symm B),u,M,z,B,O⟩;have:=aH w b 2 _ _ (.int .i64 k) I;simpa using this
theorem IY(w:World)(b:Nat)(most:Int)(h:most<1\/6<most):Calls Tryz.prog 60 #[.pointer (some ⟨b,0,none⟩),.int .i64 most] w λe k=>e=.returned (.tuple #[.pointer none,.iface 45 (.int .i64 1)])/\Below w.heap.size w k:=by
 rcases h with h|h
 .go_enter Tryz.func60,Tryz.ntmps60
  go_wp2;go_ret2;exact⟨rfl,Below.refl _ _⟩
 .have u:¬most<1:=by omega
  go_enter Tryz.func60,Tryz.ntmps60;go_wp2;go_ret2;exact⟨rfl,Below.refl _ _⟩
def Sk(w:World)(g:G)(most:Nat)(e:Ending)(w':World):Prop:=
 ∃b ml me Sb nl,e=.returned (.tuple #[.pointer (some ⟨b,0,none⟩),.nilIface])/\cz w' b ml me Sb ((LS.all g (av g) most).2:Nat) (bH g (LS.all g (av g) most).1) nl (gK g (LS.all g (av g) most).1)/\(∀k∈b::ml::me::Sb,w.heap.size<=k)/\Below w.heap.size w w'
def QM(W:World)(b ml me:Nat)(g:G)(most gk:Nat)(wr:World):Prop:=
 ∃k tp K S Sb nl,cz wr b ml me Sb (tp:Nat) (bH g S) nl (gK g S)/\LS.Inv g g.n tp K S (λ_=>false)/\(∀a,S.lev a<tp)/\K<=15*2^(tp-1)/\1<=tp/\tp+k=most/\LS.rounds g.n (av g) k tp S=LS.rounds g.n (av g) (most-1) 1 (LS.first g)/\(∀i∈b::ml::me::Sb,W.heap.size<=i)/\Below W.heap.size W wr/\k<=gk
def Ui(W:World)(b ml me:Nat)(g:G)(most gk:Nat)(wr:World):Prop:=
 ∃k tp K S Sb nl,cz wr b ml me Sb (tp:Nat) (bH g S) nl (gK g S)/\LS.Inv g g.n (tp+1) K S (λ_=>false)/\(∀a,S.lev a<tp+1)/\K<=15*2^tp/\1<=tp/\tp+1+k=most/\LS.rounds g.n (av g) k (tp+1) S=LS.rounds g.n (av g) (most-1) 1 (LS.first g)/\(∀i∈b::ml::me::Sb,W.heap.size<=i)/\Below W.heap.size W wr/\k<gk
def TP(W:World)(b ml me:Nat)(g:G)(most:Nat)(wr:World):Prop:=
 ∃S tp Sb nl,cz wr b ml me Sb (tp:Nat) (bH g S) nl (gK g S)/\(S,tp)=LS.rounds g.n (av g) (most-1) 1 (LS.first g)/\(∀i∈b::ml::me::Sb,W.heap.size<=i)/\Below W.heap.size W wr
theorem QM.done{W wr:World}{most tp:Nat}(h:cz wr b ml me Sb (tp:Nat) (bH g S) nl (gK g S))(z:LS.rounds g.n (av g) 0 tp S=LS.rounds g.n (av g) (most-1) 1 (LS.first g))(k:∀i∈b::ml::me::Sb,W.heap.size<=i)(u:Below W.heap.size W wr):TP W b ml me g most wr:=
 ⟨S,tp,Sb,nl,h,z,k,u⟩
theorem QM.round{W wr w':World}{b ml me nl k K gk:Nat}{most tp:Nat}{e:Ending}(B:LS.Inv g g.n tp K S (λ_=>false))(ac:∀a,S.lev a<tp)(hK:K<=15*2^(tp-1))(R:1<=tp)(hk:tp+(k+1)=most)(L:LS.rounds g.n (av g) (k+1) tp S=LS.rounds g.n (av g) (most-1) 1 (LS.first g))(F:∀i∈b::ml::me::Sb,W.heap.size<=i)(M:Below W.heap.size W wr)(ab:k+1<=gk)(Z:Db wr b ml me nl Sb tp g S e w'):∃t:Bool,e=.returned (.bool t)/\((t=true/\Ui W b ml me g most gk w')\/(t=false/\TP W b ml me g most w')):=by
 obtain⟨he,z,O,T,U⟩:=Z
 have I:∀i∈b::ml::me::z,W.heap.size<=i:=λi u=>by
  rcases List.mem_cons.1 u with r|u
  .exact F i (by simp[r])
  rcases List.mem_cons.1 u with r|u
  .exact F i (by simp[r])
  rcases List.mem_cons.1 u with r|u
  .exact F i (by simp[r])
  rcases T i u with r|r
  .exact F i (by simp[r])
  .exact Nat.le_trans M.size r
 have J:Below W.heap.size W w':=Kept.below M U M.size (λi u=>F i (List.mem_cons_of_mem _ u));have P:=LS.ql (av g) ⟨S,λ_=>false,false⟩ B (λn hn=>bn.1 hn);refine⟨_,he,?_⟩;change (if(RS.run g.n tp (av g) S).some_=true then LS.rounds g.n (av g) k (tp+1) (RS.run g.n tp (av g) S).S else((RS.run g.n tp (av g) S).S,tp))=_ at L;cases Q:(RS.run g.n tp (av g) S).some_ with
 |true=>
  rw[Q,if_pos rfl]at L;refine .inl ⟨rfl,k,tp,2*K,_,z,nl,O,P.next,λa=>Nat.lt_succ_of_le (P.levs a),?_,R,by omega,L,I,J,by omega⟩;obtain⟨j,rfl⟩:∃j,tp=j+1:=⟨tp-1,by omega⟩;rw[Nat.pow_succ];simp only[Nat.add_sub_cancel]at hK;omega
 |false=>
  rw[Q,if_neg (by simp)]at L;exact .inr ⟨rfl,_,tp,z,nl,O,L,I,J⟩
theorem Ny{K tp:Nat}(z:K<=15*2^(tp-1))(h:tp<=6):K<=1000:=by
 have k:2^(tp-1)<=2^5:=Nat.pow_le_pow_right (by omega) (by omega);have u:15*2^(tp-1)<=15*2^5:=Nat.mul_le_mul_left _ k;omega
def Tw(W:World)(b ml me r:Nat)(Sb:List Nat)(tp:Nat)(g:G)(S:LS)(wr:World):Prop:=
 ∃m left cnt nl,aO iK wr ml r m left cnt/\cz wr b ml me Sb (tp:Nat) m nl (gK g S)/\(∀z,left z->m z=bH g S z)/\(∀z,¬left z->m z=bH g (S.close (av g) tp) z)/\Kept [ml,r] W wr
theorem BQ(w:World)(gb gp a1:Nat)(GS:List Nat)(g:G)(v:Int)(GE:Int->Option (List Ed))(most:Nat)(h:aD w gb gp a1 GS g v GE)(hs:bI g (λ_ _=>True) GE)(h1:1<=most)(h2:most<=6):Calls Tryz.prog 60 #[.pointer (some ⟨gb,0,none⟩),.int .i64 (most:Nat)] w (Sk w g most):=by
 have b2:=h.2.1.1;have hn:=G.bR b2;have cD:=@run_makeMap Tryz.prog;have bw:¬(most:Int)<1:=by omega
 have bx:¬(6:Int)<(most:Int):=by omega
 have HG:=hid h;have Hs:=hid hs;have bg:=hid b2;have Hn:=hid hn;clear h hs b2 hn;go_enter Tryz.func60,Tryz.ntmps60;go_upto_region 4 with(fail);refine au ?_;intro W4 aq;have be:Below w.heap.size w W4:=by rw[aq];(repeat' (first|exact Below.refl _ _|assumption|apply aj|apply ah|apply af|(refine aa ?_ (by assumption))))
 obtain⟨I,cq⟩:∃I,w.heap.size=I:=⟨_,rfl⟩;obtain⟨me,cC⟩:∃me,I+1=me:=⟨_,rfl⟩;obtain⟨b,hb⟩:∃b,me+1=b:=⟨_,rfl⟩;rw[cq]at aq⊢;rw[cC]at aq⊢;rw[hb];have cP:W4.heap.size=b+1:=by rw[aq];simp;omega
 have ca:cz W4 b I me [] ((1:Nat):Int) (zI g 0) 0 (Om g 0):=by
  have q1:MapAt iK (w.alloc (.map #[] 0)) w.heap.size (λ_=>none) 0:=MapAt.made w;have q2:MapAt iK ((w.alloc (.map #[] 0)).alloc (.map #[] 0)) (w.alloc (.map #[] 0)).heap.size (λ_=>none) 0:=MapAt.made _;rw[IP,KP,aq];refine⟨?_,?_,?_,by simp,by simp,by omega,by omega,by omega⟩
  .have:=heap_alloc_new ((w.alloc (.map #[] 0)).alloc (.map #[] 0)) (.cells #[.map (some I),.map (some me),.int .i64 1] 180 (0,0))
   have e:((w.alloc (.map #[] 0)).alloc (.map #[] 0)).heap.size=b:=by simp;omega
   rw[e]at this;exact this
  .rw[cq]at q1
   exact(q1.below (af (Below.refl _ _))).below (af (Below.refl _ _))
  .refine dL.none (n:=0) ?_
   have e:(w.alloc (.map #[] 0)).heap.size=me:=by simp;omega
   rw[e]at q2;exact q2.below (af (Below.refl _ _))
 have b5:=hid ca;have bi:=HG.out.below be;have cA:=HG.out;have b4:=hid bi;have cN:=hid (jG W4 gb gp a1 GS g v GE bi Hs.out.1);clear aq ca bi cA cD;go_wp2_with fail;(with_reducible refine cN.out.mono ?_);rintro e w5 ⟨A,m,rfl,cp,hI,hA,ay⟩;obtain⟨cnt,ao⟩:∃c,(aA g).length=c:=⟨_,rfl⟩;rw[ao]at hI cp⊢;have ck:cnt<=256:=by rw[<-ao];exact eQ bg.out
 have a6:=hid ao;have HI:=hid hI;have HA:=hid (show∀ad,A=some ad->ad.block∉[I,me]from λad e=>by have:=(hA ad e).1;simp;omega);have cw:=hid (b5.out.below ay);have ct:=hid (b4.out.below ay);have b3:=aa be ay;have cQ:b<w5.heap.size:=by have:=ay.size;omega
 have b8:∀k∈gb::gp::a1::GS,k<I:=λk J=>by
  obtain⟨g1,g2,⟨V,N,q1,q2,q3,q4,q5,q6,q7⟩,g4⟩:=HG.out;rcases List.mem_cons.1 J with r|J
  .have:=(Array.getElem?_eq_some_iff.1 g1).1;omega
  rcases List.mem_cons.1 J with r|J
  .have:=g2.lt;omega
  rcases List.mem_cons.1 J with r|J
  .have:=q1.lt;omega
  .have:=q7 k J;omega
 have cv:=hid b8;clear hI hA ao cp cN b5 b4 ay be b8;go_wp2_with fail;obtain⟨wz,rfl⟩:∃wz:World,wz=w5:=⟨_,rfl⟩
 go_loopw [25] (λkv wr=>∃(i:Nat)(Sb:List Nat)(nl:Nat),kv=.int .i64 i/\i<=cnt/\cz wr b I me Sb ((1:Nat):Int) (zI g i) nl (Om g i)/\(∀k∈Sb,wz.heap.size<=k)/\Kept [I,me] wz wr) (λkv _=>cnt-(intOf kv).toNat)
 case atStart=>exact⟨0,[],0,rfl,by omega,cw.out,λk J=>by simp at J,Kept.refl _ _⟩
 case round=>
  obtain⟨i,Sb,nl,rfl,hi,Q,a3,hK⟩:=hrel;have R:=hid (And.intro Q (And.intro a3 hK));by_cases bv:i<cnt
  .have a2:=HI.out.kept hK HA.out
   obtain⟨ad,bh⟩:=a2.addr (by omega);rw[bh]at a2;have cM:=λwx=>aX (m:=m) bh bv wx;have hE:=a2.cell (Below.refl _ _) bv;obtain⟨c1,c2⟩:=dS (g:=g) (i:=i) (by rw[a6.out];exact bv);rw[c1]at hE;have hG:=ct.out.kept hK (λk J=>by have:=cv.out k J;simp;omega);have cn:=Iw Hs.out c2;have cG:=hid (λw'(hb:Below wr.heap.size wr w')=>Bt w' gb gp a1 GS g v GE (hG.below hb) (cf g i:Nat) _ cn (by have:=fq (LS.first g) g.n (cf g i);have:=Hn.out;omega));obtain⟨c,hc⟩:∃c,cf g i=c:=⟨_,rfl⟩;rw[hc]at hE cG c2;have Hc:=hid (And.intro hc c2);have B:wr.heap[b]? =some (.cells #[.map (some I),.map (some me),.int .i64 ((1:Nat):Int)] 180 (0,0)):=Q.1;have k0:wr.cell? ⟨b,0,none⟩=some (.map (some I)):=by simp[World.cell?,B]
   have k1:wr.cell? ⟨b,1,none⟩=some (.map (some me)):=by simp[World.cell?,B]
   obtain⟨V,N,e1,e2,e3,e4,e5,e6,e7⟩:=Q.2.2.1;have HE:=hid (And.intro e1 (And.intro e2 (And.intro e3 (And.intro e4 (And.intro e5 (And.intro e6 e7))))));have cy:b≠me:=by omega
   clear Q a3 hK a2 bh c1 hG cn hc c2 B e1 e2 e3 e4 e5 e6 e7;go_upto_region 7 with(fail);have a4:=Below.refl wr.heap.size wr
   go_region_held3 (λw'=>w'.cell? ⟨b,1,none⟩=some (.map (some me)))
    (first
     |exact k1
     |exact bm
     |exact cj)
    ((first
     |(go_at_call 54
       refine(cG.out _ (ah a4)).mono ?_;rintro e wI ⟨vE,rfl,bk,a5⟩;have bm:wI.cell? ⟨b,1,none⟩=some (.map (some me)):=ae (w:=wr.drew) a5 k1;have ch:MapAt iK wI me V N:=(HE.out.1.below (ah a4)).below a5;obtain⟨wU,hU,ci,aw⟩:=ch.store (P:=Tryz.prog) (aG Tryz.underlying3) Tryz.underlying137 (c:Nat) vE;have hU:(Instr.mapUpdate 137 (.map (some me)) (.int .i64 (c:Nat)) vE).run Tryz.prog wI=.ok () wU:=hU;have cj:wU.cell? ⟨b,1,none⟩=some (.map (some me)):=aJ aw (by simpa using cy) bm)))
   all_goals
    have an:Below wr.heap.size wr wI:=aa (ah a4) a5;have b7:=dL.fresh (w:=wr) HE.out.1 HE.out.2.1 HE.out.2.2.1 HE.out.2.2.2.1 HE.out.2.2.2.2.1 HE.out.2.2.2.2.2.1 HE.out.2.2.2.2.2.2 an bk ci aw
    have aE:∀k,k∈vE.ownBlock.toList->wr.heap.size<=k:=λk J=>by
     rw[Option.mem_toList]at J;exact(World.ownsRow.lt bk k J).1
    have ax:=R.out.1.put b7 (λk J=>by
     rcases List.mem_append.1 J with q|q
     .exact .inr (aE k q)
     .exact .inl q) ((Kept.of_below an).trans (aw.wid (by simp)))
    have e1:=KO g i;rw[Hc.out.1]at e1;rw[e1]at ax
    have a8:∀k∈vE.ownBlock.toList++Sb,wz.heap.size<=k:=λk J=>by
     rcases List.mem_append.1 J with q|q
     .exact Nat.le_trans R.out.2.2.size (aE k q)
     .exact R.out.2.1 k q
    have a7:Kept [I,me] wz wU:=(R.out.2.2.trans (.of_below an)).trans (aw.wid (by simp));have B:wU.heap[b]? =some (.cells #[.map (some I),.map (some me),.int .i64 ((1:Nat):Int)] 180 (0,0)):=ax.1;have k0:wU.cell? ⟨b,0,none⟩=some (.map (some I)):=by simp[World.cell?,B]
    have aS:=hid (And.intro ax (And.intro a8 a7));clear bk a5 bm ch hU ci aw cj an b7 aE a8 a7 B k1 hE a4;go_wp2_with (refine dJ rfl _ _ _ rfl (aG Tryz.underlying3) Tryz.underlying142 ax.2.1 rfl ((c:Nat):Int) rfl (.int .i64 0) rfl ?_;intro wV b0 bt);have e2:=IM g i;rw[Hc.out.1]at e2;rw[e2]at b0;have ce:=aS.out.1.lev b0 bt
    have HF:=hid (And.intro ce (And.intro aS.out.2.1 (aS.out.2.2.trans (bt.wid (by simp)))));clear b0 bt ce ax aS k0 e1 e2;go_roundw
    case rel=>first|exact⟨i+1,_,_,by go_num,by omega,HF.out⟩|((repeat apply Exists.intro);exact⟨⟨i+1,_,_,by go_num,by omega,HF.out⟩,rfl⟩)
    case measure=>simp[intOf];omega
  .obtain rfl:i=cnt:=by omega
   have bj:=Q;rw[<-a6.out,LC,Oo]at bj
   have F:∀k∈b::I::me::Sb,w.heap.size<=k:=λk J=>by
    rcases List.mem_cons.1 J with r|J
    .omega
    rcases List.mem_cons.1 J with r|J
    .omega
    rcases List.mem_cons.1 J with r|J
    .omega
    .have:=a3 k J;omega
   have M:Below w.heap.size w wr:=Kept.below b3 hK b3.size (by simp;omega);obtain⟨N0,cx⟩:∃N0,N0=most-1:=⟨_,rfl⟩;have hstart:QM w b I me g most N0 wr:=⟨most-1,1,15,LS.first g,Sb,nl,bj,LS.xS bg.out g.n (Nat.le_refl _),λ_=>by show(0:Nat)<1;omega,by simp,by omega,by omega,rfl,F,M,by omega⟩;clear Q a3 hK R bj F M cx;obtain⟨wy,rfl⟩:∃wy:World,wy=wr:=⟨_,rfl⟩;go_wp2_with fail;go_loopg [] N0 (λgk wr=>QM w b I me g most gk wr)
   case atStart=>exact hstart
   case round=>
    obtain⟨k,O,K,S,Sb,nl,Q,Z,ab,hK,bd,cH,ac,F,M,bq⟩:=hrel;clear hstart;have R:=hid Q;have L:=hid (And.intro Z (And.intro ab (And.intro hK ac)));have am:=hid F;have B:wr.heap[b]? =some (.cells #[.map (some I),.map (some me),.int .i64 ((O:Nat):Int)] 180 (0,0)):=Q.1;have k2:wr.cell? ⟨b,2,none⟩=some (.int .i64 ((O:Nat):Int)):=by simp[World.cell?,B]
    clear Q Z ab hK ac F B;go_upto_region 10 with(fail);go_cut [55] (λs wx=>(s=.bool true/\Ui w b I me g most gk wx)\/(s=.bool false/\TP w b I me g most wx))
    case first=>
     by_cases cB:k=0
     .subst cB
      obtain rfl:O=most:=by omega
      have U:=hid (QM.done (W:=w) R.out L.out.2.2.2 am.out M);clear R L am;go_wp2;go_meet
      case rel=>exact .inr ⟨rfl,U.out⟩
     .obtain⟨k,rfl⟩:∃j,k=j+1:=⟨k-1,by omega⟩
      have cJ:((O:Nat):Int)<(most:Nat):=by omega
      have cR:=hid (OQ wr b I me nl Sb O K g S bg.out L.out.1 (Ny L.out.2.2.1 (by omega)) R.out);go_wp2_with fail;(with_reducible refine cR.out.mono ?_);intro e w8 hD;obtain⟨t,rfl,hT⟩:=QM.round L.out.1 L.out.2.1 L.out.2.2.1 bd (by omega) L.out.2.2.2 am.out M bq hD;have hT:=hid hT;clear hD cR k2;go_wp2;go_meet
      case rel=>
       rcases hT.out with⟨rfl,q⟩|⟨rfl,q⟩
       .exact .inl ⟨rfl,q⟩
       .exact .inr ⟨rfl,q⟩
    case rest=>
     clear R L am k2 M;rcases hcut with⟨rfl,hT⟩|⟨rfl,U⟩
     .obtain⟨k,O,K,S,Sb,nl,Q,Z,ab,hK,bd,cH,ac,F,M,bq⟩:=hT
      have B:wc.heap[b]? =some (.cells #[.map (some I),.map (some me),.int .i64 ((O:Nat):Int)] 180 (0,0)):=Q.1;have k2:wc.cell? ⟨b,2,none⟩=some (.int .i64 ((O:Nat):Int)):=by simp[World.cell?,B]
      have kf:wc.frozen? ⟨b,2,none⟩=false:=by simp[World.frozen?,B]
      have hw:IntKind.i64.wrap (((O:Nat):Int)+1)=((O+1:Nat):Int):=by rw[IntWalk.i64_in _ (by omega)];omega
      have U:QM w b I me g most k (wc.setCell ⟨b,2,none⟩ (.int .i64 ((O+1:Nat):Int))):=⟨k,O+1,K,S,Sb,nl,Q.top,Z,ab,by simpa using hK,by omega,by omega,ac,F,M.setCell (by simpa using F b (by simp)) _,by omega⟩;have U:=hid U;clear Q Z ab hK ac F M B;go_wp2;go_roundg k
      case measure=>exact bq
      case rel=>exact U.out
     .obtain⟨S,O,Sb,nl,Q,ac,F,M⟩:=U
      have B:wc.heap[b]? =some (.cells #[.map (some I),.map (some me),.int .i64 ((O:Nat):Int)] 180 (0,0)):=Q.1;have k0:wc.cell? ⟨b,0,none⟩=some (.map (some I)):=by simp[World.cell?,B]
      have hM:=Q.2.1;have bb:=Q.q9;have R:=hid Q;have a0:=hid (And.intro ac F);clear Q ac B F;go_wp2_with (at_range;refine eB rfl _ rfl mr Tryz.underlying142 hM rfl ?_;intro wR ag bo cF)
      try go_frame
      obtain⟨r,hr⟩:∃z,wc.heap.size=z:=⟨_,rfl⟩;rw[hr]at ag bb⊢
      have hstart:Tw wR b I me r Sb O g S wR:=⟨_,_,_,nl,ag,R.out.below bo,λz _=>rfl,λz hz=>by
       have:bH g S z=none:=Classical.not_not.1 hz;rw[this,H8 this],Kept.refl _ _⟩
      have b6:=aa M bo;have cS:w.heap.size<=r:=by rw[<-hr];exact M.size
      clear ag bo cF hM hr k0 M R;obtain⟨wv,rfl⟩:∃wv:World,wv=wR:=⟨_,rfl⟩;go_loopw [] (λwr=>Tw wv b I me r Sb O g S wr) (λwr=>wr.rangeLeft I r)
      case atStart=>exact hstart
      case round=>
       obtain⟨m3,left,cl,cs,ag,Q,bw,bx,hK⟩:=hrel;clear hstart;have hleft:=hid ag.left_eq;have Hm:=hid (And.intro bw bx);have R:=hid (And.intro Q hK);clear bw bx Q hK;go_wp2_with (at_next;refine fB rfl _ rfl mr ag rfl ?_ ?_)
       .intro h0 hl
        have hm:m3=bH g (S.close (av g) O):=funext λz=>Hm.out.2 z (hl z)
        have U:Sk w g most (.returned (.tuple #[.pointer (some ⟨b,0,none⟩),.nilIface])) wr:=by
         refine⟨b,I,me,Sb,cs,rfl,?_,a0.out.2,Kept.below b6 R.out.2 b6.size (by simp;have:=a0.out.2 I (by simp);omega)⟩;have e1:(LS.all g (av g) most).1=S.close (av g) O:=by unfold LS.all;rw[<-a0.out.1]
         have e2:(LS.all g (av g) most).2=O:=by unfold LS.all;rw[<-a0.out.1]
         rw[e1,e2,<-hm];exact R.out.1
        have U:=hid U;clear hl ag R hm;go_wp2;go_ret2;exact U.out
       .intro z u w6 Qb b1 co bc ba br cE cm
        have ar:=Hm.out.1 z co;rw[b1]at ar;obtain⟨n,rfl,bp⟩:=qB.1 (show bH g S z≠none by rw[<-ar];simp);rw[fQ bp]at ar;injection ar with ar
        subst ar;have Hz:=hid (And.intro b1 bp);have T:=hid bc
        have cb:=R.out.1.kept br (λk J=>by
         simp;rcases List.mem_cons.1 J with q|J
         .omega
         rcases List.mem_cons.1 J with q|J
         .omega
         rcases List.mem_cons.1 J with q|J
         .omega
         .have:=bb.2.2.2 k J;omega)
        have b9:=R.out.2.trans (br.wid (by simp));have ai:=hid (And.intro cb b9);obtain⟨t,ht⟩:∃t,S.lev n=t:=⟨_,rfl⟩;have Ht:=hid ht;rw[ht]at cm⊢;rw[show iK ((n:Nat):Int)=.int .i64 (n:Nat)from rfl]at cm⊢;clear b1 co ag bc br cE bp ht cb b9 R;have cO:r≠I:=by omega
        by_cases cr:t=0
        .subst cr
         have B:w6.heap[b]? =some (.cells #[.map (some I),.map (some me),.int .i64 ((O:Nat):Int)] 180 (0,0)):=ai.out.1.1;have k0:w6.cell? ⟨b,0,none⟩=some (.map (some I)):=by simp[World.cell?,B]
         have k2:w6.cell? ⟨b,2,none⟩=some (.int .i64 ((O:Nat):Int)):=by simp[World.cell?,B]
         obtain⟨w7,cL,ap,al⟩:=(T.out.below (ah (Below.refl _ _))).store (P:=Tryz.prog) (mt:=142) (aG Tryz.underlying3) Tryz.underlying142 ((n:Nat):Int) (.int .i64 ((O:Nat):Int)) (by rw[Hz.out.1];simp);obtain⟨cI,cg⟩:=ap.map;have cd:=(ai.out.1.below (ah (Below.refl _ _))).lev cg al;have a9:Kept [I,r] w6 w7:=(⟨al.os,al.tape,al.output,al.size,al.block⟩:Kept [I] w6 w7).wid (by simp)
         have U:Tw wv b I me r Sb O g S w7:=by
          refine⟨_,_,Qb,cI,ap,cd,λz hz=>?_,λz hz=>?_,ai.out.2.trans a9⟩
          .unfold aL
           rw[if_neg hz.2];exact Hm.out.1 z hz.1
          .unfold aL
           by_cases e:z=((n:Nat):Int)
           .rw[if_pos e,e,H9 Hz.out.2 Ht.out]
           .rw[if_neg e]
            exact Hm.out.2 z (λq=>hz ⟨q,e⟩)
         have HF:=hid (And.intro U ap.left_eq);clear U ap al cg cd a9 B ai T;go_upto_region 16 with(fail);go_region;go_wp2;go_roundw
         case rel=>first|exact HF.out.1|((repeat apply Exists.intro);exact⟨HF.out.1,rfl⟩)
         case measure=>rw[hleft.out,HF.out.2];exact ba
        .have hd:(((t:Nat):Int)==0)=false:=beq_eq_false_iff_ne.2 (by omega)
         have U:Tw wv b I me r Sb O g S w6:=by
          refine⟨_,_,Qb,cs,T.out,ai.out.1,λz hz=>Hm.out.1 z hz.1,λz hz=>?_,ai.out.2⟩;by_cases e:z=((n:Nat):Int)
          .rw[e,Kt Hz.out.2 (by rw[Ht.out];exact cr),fQ Hz.out.2,Ht.out,Hz.out.1,Ht.out]
          .exact Hm.out.2 z (λq=>hz ⟨q,e⟩)
         have HF:=hid (And.intro U T.out.left_eq);clear U ai T;go_wp2;go_roundw
         case rel=>first|exact HF.out.1|((repeat apply Exists.intro);exact⟨HF.out.1,rfl⟩)
         case measure=>rw[hleft.out,HF.out.2];exact ba
theorem Qo(w:World)(b z me B:Nat)(k:List Nat)(top:Int)(V:Int->Option Value)(E:Int->Option (List Ed))(h:cz w b z me k top V B E):Calls Tryz.prog 50 #[.pointer (some ⟨b,0,none⟩)] w λe F=>e=.returned (.int .i64 top)/\w=F:=by
 have u:w.cell? ⟨b,2,none⟩=some (.int .i64 top):=by simp[World.cell?,h.1]
 clear h;go_enter Tryz.func50,Tryz.ntmps50;go_wp2;go_ret;exact⟨rfl,rfl⟩
theorem jf(w:World)(b u me L:Nat)(F:List Nat)(top:Int)(V:Int->Option Value)(E:Int->Option (List Ed))(h:cz w b u me F top V L E)(z k:Int)(B:V z=some (.int .i64 k)):Calls Tryz.prog 147 #[.pointer (some ⟨b,0,none⟩),.int .i64 z] w λe M=>e=.returned (.tuple #[.int .i64 k,.nilIface])/\w=M:=by
 have J:w.cell? ⟨b,0,none⟩=some (.map (some u)):=by simp[World.cell?,h.1]
 have I:(Instr.lookup 142 (.map (some u)) (.int .i64 z) true).run Tryz.prog w=.ok (.tuple #[.int .i64 k,.bool true]) w:=by
  have:=(h.2.1.look (aG Tryz.underlying3) Tryz.underlying142 (z:=.int .i64 0) (by simp[Tryz.zeroValue3]) z).1;rw[B]at this;exact this
 clear h B;go_enter Tryz.func147,Tryz.ntmps147;go_wp2;go_ret2;exact⟨rfl,rfl⟩
theorem sZ(w:World)(b k me J:Nat)(B:List Nat)(top:Int)(V:Int->Option Value)(E:Int->Option (List Ed))(h:cz w b k me B top V J E)(z:Int)(u:V z=none):Calls Tryz.prog 147 #[.pointer (some ⟨b,0,none⟩),.int .i64 z] w λe L=>e=.returned (.tuple #[.int .i64 0,.iface 45 (.int .i64 5)])/\w=L:=by
 have I:w.cell? ⟨b,0,none⟩=some (.map (some k)):=by simp[World.cell?,h.1]
 have F:(Instr.lookup 142 (.map (some k)) (.int .i64 z) true).run Tryz.prog w=.ok (.tuple #[.int .i64 0,.bool false]) w:=by
  have:=(h.2.1.look (aG Tryz.underlying3) Tryz.underlying142 (z:=.int .i64 0) (by simp[Tryz.zeroValue3]) z).1;rw[u]at this;exact this
 clear h u;go_enter Tryz.func147,Tryz.ntmps147;go_wp2;go_ret2;exact⟨rfl,rfl⟩
theorem sW(w:World)(b O me nl:Nat)(Sb:List Nat)(top:Int)(V:Int->Option Value)(E:Int->Option (List Ed))(h:cz w b O me Sb top V nl E)(z k:Int)(U:V z=some (.int .i64 k))(L:List Ed)(J:E z=some L)(hl:L.length<=100000):Calls Tryz.prog 195 #[.pointer (some ⟨b,0,none⟩),.int .i64 z] w (sH w L):=by
 have ac:w.cell? ⟨b,0,none⟩=some (.map (some O)):=by simp[World.cell?,h.1]
 have ad:w.cell? ⟨b,1,none⟩=some (.map (some me)):=by simp[World.cell?,h.1]
 have ab:(Instr.lookup 142 (.map (some O)) (.int .i64 z) true).run Tryz.prog w=.ok (.tuple #[.int .i64 k,.bool true]) w:=by
  have:=(h.2.1.look (aG Tryz.underlying3) Tryz.underlying142 (z:=.int .i64 0) (by simp[Tryz.zeroValue3]) z).1;rw[U]at this;exact this
 obtain⟨_,_,⟨P,N,Z,g,S,_,_,_,_⟩,_⟩:=h
 obtain⟨u,M⟩:∃u,P z=some u:=by
  cases hV:P z with
  |none=>rw[(g z).2 hV]at J;cases J
  |some u=>exact⟨u,rfl⟩
 have R:=S z u L M J
 have T:(Instr.lookup 137 (.map (some me)) (.int .i64 z) false).run Tryz.prog w=.ok u w:=by
  have:=(Z.look (aG Tryz.underlying3) Tryz.underlying137 (z:=.slice none 0 0) (by simp[Tryz.zeroValue119]) z).2;rw[M]at this;exact this
 have Q:=hid (Be w 0 u L R hl);clear Z g S M R J U;go_enter Tryz.func195,Tryz.ntmps195;go_wp2_with fail;(with_reducible refine Q.out.mono ?_);rintro e w1 ⟨vE,rfl,F,I⟩;have B:sH w L (.returned (.tuple #[vE,.nilIface])) w1:=⟨vE,rfl,F,I⟩;have B:=hid B;clear F I Q;go_wp2;go_ret2;exact B.out
end Go.Proofs.YtokhnobcincfjaaGreatDoor
namespace Go.Proofs.YtokhnobcincfjaaGreatDoor
open Go.Lib (hid)
open Go.RowKit Go.Sort FR
theorem F7(w:World)(e:Ed)(t:Int)(g:aV e.to_)(k:aV t):Calls Tryz.prog 239 #[.agg #[.int .i64 e.to_,.int .i64 e.c.s,.int .i64 e.c.d,.int .i64 e.mid],.int .i64 t] w λr u=>r=.returned (.int .i64 (e.to_-t))/\Below w.heap.size w u:=by
 obtain⟨x,⟨s,d⟩,m⟩:=e;simp only at g⊢;unfold aV at g k;have z:IntKind.i64.wrap (x-t)=x-t:=IntWalk.i64_in _ (by omega);go_enter Tryz.func239,Tryz.ntmps239;go_wp2;go_ret;exact⟨rfl,by(repeat' (first|exact Below.refl _ _|assumption|apply aj|apply ah|apply af|(refine aa ?_ (by assumption))))⟩
theorem Ru(w:World)(A:Option Addr)(n ac:Nat)(L:List Ed)(t:Int)(h:bQ w A L)(hn:L.length=n)(hs:sJ L)(hb:∀e∈L,aV e.to_)(ht:aV t)(hl:n<=100000):Calls Tryz.prog 216 #[.slice A n ac,.int .i64 t,.func (.func 239) #[] #[]] w (yO w L t):=by
 have hs:=hid hs;have hb:=hid hb;have Hn:=hid hn;have h:=hid h;clear hn;go_enter Tryz.func216,Tryz.ntmps216;go_wp2_with fail;go_loopw [9,10] (λiv jv wr=>∃i j:Nat,iv=.int .i64 i/\jv=.int .i64 j/\i<=j/\j<=n/\(∀k e,L[k]? =some e->k<i->e.to_<t)/\(∀k e,L[k]? =some e->j<=k->t<=e.to_)/\Below w.heap.size w wr) (λiv jv _=>(intOf jv).toNat-(intOf iv).toNat)
 case atStart=>exact⟨0,n,rfl,rfl,by omega,by omega,λk e _ h=>by omega,λk e hk hj=>by have:=(List.getElem?_eq_some_iff.1 hk).1;have:=Hn.out;omega,Below.refl _ _⟩
 case round=>
  obtain⟨i,j,rfl,rfl,aw,ax,h1,h2,HB⟩:=hrel;have h1:=hid h1;have h2:=hid h2;by_cases ay:i<j
  .have aq:IntKind.i64.wrap ((i:Int)+(j:Int))=(i:Int)+(j:Int):=IntWalk.i64_in _ (by omega)
   go_upto_region 5 with(fail);have am:((i:Int)+(j:Int))/2=(((i+j)/2:Nat):Int):=by omega
   have ao:i<=(i+j)/2:=by omega
   have ap:(i+j)/2<j:=by omega
   rw[am];obtain⟨m,hm⟩:∃m,(i+j)/2=m:=⟨_,rfl⟩;rw[hm]at ao ap⊢;clear hm am aq;have an:m<n:=by omega
   obtain⟨e,u⟩:∃e,L[m]? =some e:=⟨L[m]'(by rw[Hn.out];exact an),List.getElem?_eq_getElem _⟩;have He:=hid u;obtain⟨g,hA,a1,a2,a3,a4⟩:=(h.out.below HB).get u;have ag:=λwx=>jy (m:=ac) hA an wx;have M:=hid (F7 wr e t (hb.out e (List.mem_of_getElem? u)) ht);have Q:aV e.to_:=hb.out e (List.mem_of_getElem? u)
   have F:e.to_<t->∀k x,L[k]? =some x->k<m+1->x.to_<t:=λhl k x J hk=>by
    by_cases e1:k=m
    .subst e1;rw[J]at u;injection u with u;rw[u];exact hl
    .exact Int.lt_trans (hs.out k m x e (by omega) J u) hl
   have I:t<=e.to_->∀k x,L[k]? =some x->m<=k->t<=x.to_:=λhl k x J hk=>by
    by_cases e1:k=m
    .subst e1;rw[J]at u;injection u with u;rw[u];exact hl
    .have:=hs.out m k e x (by omega) u J
     omega
   have F:=hid F;have I:=hid I;obtain⟨x,J⟩:∃x,e.to_=x:=⟨_,rfl⟩;rw[J]at a1 M Q F I;obtain⟨xs,T⟩:∃x,e.c.s=x:=⟨_,rfl⟩;obtain⟨xd,R⟩:∃x,e.c.d=x:=⟨_,rfl⟩;obtain⟨xm,S⟩:∃x,e.mid=x:=⟨_,rfl⟩;rw[T]at a2 M;rw[R]at a3 M;rw[S]at a4 M;clear hA u J T R S;go_wp2_with fail;(with_reducible refine M.out.mono ?_);rintro r w2 ⟨rfl,Z⟩;have U:=aa HB Z;clear a1 a2 a3 a4 M ag;unfold aV at Q;by_cases ar:x<t
   .have hd:decide (x-t<0)=true:=by simp;omega
    have F:=hid (F.out ar);have aE:IntKind.i64.wrap ((m:Int)+1)=((m+1:Nat):Int):=by rw[IntWalk.i64_in _ (by omega)];omega
    clear I;go_wp2;go_roundw
    case rel=>exact⟨m+1,j,rfl,rfl,by omega,by omega,F.out,h2.out,U⟩
    case measure=>simp[intOf];omega
   .have hd:decide (x-t<0)=false:=by simp;omega
    have I:=hid (I.out (by omega));clear F;go_wp2;go_roundw
    case rel=>exact⟨i,m,rfl,rfl,by omega,by omega,h1.out,I.out,U⟩
    case measure=>simp[intOf];omega
  .obtain rfl:i=j:=by omega
   have hcut:∀k x,L[k]? =some x->(k<i↔x.to_<t):=λk x J=>by
    constructor
    .exactλhk=>h1.out k x J hk
    .intro hl
     by_cases hk:k<i
     .exact hk
     .have:=h2.out k x J (by omega)
      omega
   have ab:=hid hcut;clear hcut;clear h1 h2;by_cases Q:i<n
   .obtain⟨e,u⟩:∃e,L[i]? =some e:=⟨L[i]'(by rw[Hn.out];exact Q),List.getElem?_eq_getElem _⟩
    obtain⟨g,hA,a1,a2,a3,a4⟩:=(h.out.below HB).get u;have ag:=λwx=>jy (m:=ac) hA Q wx;have M:=hid (F7 wr e t (hb.out e (List.mem_of_getElem? u)) ht);have al:aV e.to_:=hb.out e (List.mem_of_getElem? u);obtain⟨fd,ad⟩:∃fd,(e.to_-t==0)=fd:=⟨_,rfl⟩
    have B:fd=true↔∃x,L[i]? =some x/\x.to_=t:=by
     rw[<-ad,u];simp;omega
    have O:=hid B;clear B;have ai:=hid ad;obtain⟨x,J⟩:∃x,e.to_=x:=⟨_,rfl⟩;rw[J]at a1 M ai;obtain⟨xs,T⟩:∃x,e.c.s=x:=⟨_,rfl⟩;obtain⟨xd,R⟩:∃x,e.c.d=x:=⟨_,rfl⟩;obtain⟨xm,S⟩:∃x,e.mid=x:=⟨_,rfl⟩;rw[T]at a2 M;rw[R]at a3 M;rw[S]at a4 M;have q:(i:Int)<(n:Int):=by omega
    clear hA u J T R S ad al;go_wp2_with fail;(with_reducible refine M.out.mono ?_);rintro r w2 ⟨rfl,Z⟩;have U:=aa HB Z;clear a1 a2 a3 a4 M ag Z;have z:yO w L t (.returned (.tuple #[.int .i64 (i:Nat),.bool fd])) w2:=⟨i,fd,rfl,by rw[Hn.out];omega,ab.out,O.out,U⟩;rw[<-ai.out]at z;have P:=hid z;clear z;go_wp2;go_ret2;exact P.out
   .obtain rfl:i=n:=by omega
    have B:false=true↔∃x,L[i]? =some x/\x.to_=t:=by
     rw[List.getElem?_eq_none (by rw[Hn.out];omega)];simp
    have O:=hid B;clear B;have z:yO w L t (.returned (.tuple #[.int .i64 (i:Nat),.bool false])) wr:=⟨i,false,rfl,by rw[Hn.out];omega,ab.out,O.out,HB⟩;have P:=hid z;clear z;go_wp2;go_ret2;exact P.out
theorem OT(w:World)(A:Option Addr)(n g:Nat)(L:List Ed)(t:Int)(h:bQ w A L)(Q:L.length=n)(u:sJ L)(O:∀e∈L,aV e.to_)(R:aV t)(P:n<=100000):Calls Tryz.prog 216 #[.slice A n g,.int .i64 t,.func (.func 239) #[] #[]] w λr z=>r=.returned (.tuple #[.int .i64 (dV L t:Nat),.bool (fV L t)])/\Below w.heap.size w z:=by
 refine(Ru w A n g L t h Q u O R P).mono ?_;rintro r z ⟨i,F,rfl,I,J,k,M⟩;have e:=Ec I J;subst e;rw[o7 u]at k;have B:F=fV L t:=Bool.eq_iff_iff.2 k;rw[B];exact⟨rfl,M⟩
open Go.Lib
variable {Q:Exit->Act->World->Prop}{g:G}{E:Int->Option (List Ed)}{left:Int->Prop}{S:LS}{L:List Ed}{N k:Nat}{f:Nat->Nat}{w:World}
theorem pF{M:Array Oper}{I:List Oper}{o:Oper}{a:Act}(w:World)(U:o.guard=none)(s x:Operand)(ho:o.op=.call {callee:=.builtin .append,args:=#[s,x],argTypes:=#[22,22]})(B:Nat)(v:Value)(R P:List Int)(hs:a.eval s=v)(J:aI w B v R)(ad:Addr)(m c:Nat)(hx:a.eval x=.slice (some ad) m c)(hm:P.length=m)(hc:∀k z,P[k]? =some z->w.cell? (ad.add k)=some (.int .i64 z))(hl:R.length+m<1099511627776)(hB:B<=w.heap.size)(h:∀T O,aI O B T (R++P)->w.grownBy O v.ownBlock->wpList Tryz.prog M Q I (a.put o.dst T) O):wpList Tryz.prog M Q (o::I) a w:=by
 obtain⟨i0,hi,g,L,S⟩:=info_parts mD;refine wpList_append_own w U s x 22 ho B 3 i0 (.int .i64 0) 1 8 Tryz.underlying22 hi g L S rfl (by decide) v R.length (R.map (Value.int .i64)) hs J ad m c (P.map (Value.int .i64)) hx (by rw[List.length_map];omega) ?_ ?_ ?_ ?_ hB ?_
 .intro j u F
  rw[List.getElem?_map]at F;cases Z:P[j]? with
  |none=>rw[Z]at F;cases F
  |some z=>rw[Z]at F;simp at F;subst F;exact hc j z Z
 .intro u F
  rw[List.mem_map]at F;obtain⟨z,_,rfl⟩:=F;rfl
 .unfold maxLen;omega
 .omega
 .intro T O h1 h2 _
  refine h T O ?_ h2;unfold aI;rw[List.length_append,hm,List.map_append];exact h1
theorem xB{B:Array Oper}{u:List Oper}{o:Oper}{a:Act}(P:o.guard=none)(x M:Operand)(J:o.op=Op.slice 22 x (some M) none none)(g n m l:Nat)(T:a.eval x=.slice (some ⟨g,0,none⟩) n m)(I:a.eval M=.int .i64 (l:Nat))(k:l<n)(L:n<=m)(O:∀U,wpList Tryz.prog B Q u (a.put o.dst (.slice (some ⟨g,l,none⟩) (n-l) U)) w):wpList Tryz.prog B Q (o::u) a w:=by
 refine wpList_plain P λZ F=>?_;unfold Oper.wp;have R:¬m=l:=by omega
 have z:(Instr.sliceAt 22 (.slice (some ⟨g,0,none⟩) n m) (some (.int .i64 (l:Nat))) none none).run Tryz.prog w=.ok (.slice (some ⟨g,l,none⟩) (n-l) (m-l)) w:=by
  unfold Instr.sliceAt;go_simp;intro q;omega
 simp[execOp,J,T,I,z,Result.andThen];exact F _ _ (O _)
theorem aI.two(w:World)(B:Nat)(x y:Int)(u:B<=w.heap.size):aI (w.alloc (.cells #[.int .i64 x,.int .i64 y] 3)) B (.slice (some ⟨w.heap.size,0,none⟩) 2 2) [x,y]:=
 ⟨rfl,.inr ⟨w.heap.size,2,#[.int .i64 x,.int .i64 y],rfl,u,heap_alloc_new _ _,Nat.le_refl _,by unfold maxLen;omega,rfl,rfl⟩⟩
theorem aI.cell{B g n m:Nat}{u:List Int}(h:aI w B (.slice (some ⟨g,0,none⟩) n m) u){z:Int}(F:u[k]? =some z):w.cell? ⟨g,k,none⟩=some (.int .i64 z):=by
 have:=World.ownsRow.cells h (g:=g) rfl k (.int .i64 z) (by rw[List.getElem?_map,F];rfl);rwa[Addr.add_lit,Nat.zero_add]at this
theorem aI.addr{B:Nat}{v:Value}{u:List Int}(h:aI w B v u)(U:0<u.length):∃g m,v=.slice (some ⟨g,0,none⟩) u.length m/\u.length<=m:=by
 rcases h.2 with⟨rfl,P⟩|⟨g,z,F,rfl,J,M,I,O,R,T⟩
 .omega
 .exact⟨g,z,rfl,I⟩
def QN(w:World)(L:List Nat)(e:Ending)(w':World):Prop:=∃v,e=.returned (.tuple #[v,.nilIface])/\aI w' w.heap.size v (L.map λn:Nat=>(n:Int))/\Below w.heap.size w w'
theorem Rs(w:World)(A:Option Addr)(u:Nat)(g:G)(S:LS)(a:Nat)(t:Int)(z:g.n<=256)(h:bQ w A (gz S g.n a))(B:aV t):Calls Tryz.prog 216 #[.slice A (gz S g.n a).length u,.int .i64 t,.func (.func 239) #[] #[]] w λr F=>r=.returned (.tuple #[.int .i64 (dV (gz S g.n a) t:Nat),.bool (fV (gz S g.n a) t)])/\Below w.heap.size w F:=
 OT w A (gz S g.n a).length u (gz S g.n a) t h rfl (nQ S g.n a) (qK (n:=0) z) B (by have:=fq S g.n a;omega)
theorem Tf{a t:Nat}(O:t<g.n){c:C}{m:Int}(h:S.eg a t=some (c,m)):fV (gz S g.n a) ((t:Nat):Int)=true/\(gz S g.n a)[dV (gz S g.n a) ((t:Nat):Int)]? =some ⟨((t:Nat):Int),c,m⟩:=by
 have M:(⟨((t:Nat):Int),c,m⟩:Ed)∈gz S g.n a:=fw.2 ⟨t,O,rfl,h⟩;have B:fV (gz S g.n a) ((t:Nat):Int)=true:=jI.2 ⟨_,M,rfl⟩;refine⟨B,?_⟩;obtain⟨e,F,u⟩:=(o7 (nQ S g.n a) _).2 B;rw[F];obtain⟨R,T,P,z⟩:=fw.1 (List.mem_of_getElem? F);rw[u]at P;obtain rfl:t=R:=by omega
 rw[h]at z;injection z with z
 injection z with I J
 cases e;simp at u I J⊢;exact⟨u,I.symm,J.symm⟩
theorem cz.look{b U me Z:Nat}{P:List Nat}{top:Int}{V:Int->Option Value}(h:cz w b U me P top V Z E){z:Int}(J:E z=some L):∃A B,bQ w A L/\∀F,Below w.heap.size w F->(Instr.lookup 137 (.map (some me)) (.int .i64 z) false).run Tryz.prog F=.ok (.slice A L.length B) F:=by
 obtain⟨_,_,⟨M,N,g,k,Q,_,_,_,_⟩,_⟩:=h
 obtain⟨u,O⟩:∃u,M z=some u:=by
  cases R:M z with
  |none=>rw[(k z).2 R]at J;cases J
  |some u=>exact⟨u,rfl⟩
 obtain⟨A,B,rfl,I⟩:=(Q z u L O J).Ag;refine⟨A,B,I,λF T=>?_⟩;have:=((g.below T).look (aG Tryz.underlying3) Tryz.underlying137 (z:=.slice none 0 0) (by simp[Tryz.zeroValue119]) z).2;rw[O]at this;exact this
theorem LH(b ml me nl:Nat)(Sb:List Nat)(g:G)(S:LS)(tp:Nat)(top:Int)(bh:g.ok)(H:LS.Fin g tp S):∀(n:Nat)(a c:Nat)(R:C)(m:Int),n<=20->S.lev a+S.lev c<=n->S.eg a c=some (R,m)->∃L,LS.Fa S a c L/\LS.LW g.GE L R/\L.length<=2^n+1/\∀w,cz w b ml me Sb top (bH g S) nl (gK g S)->Calls Tryz.prog 201 #[.pointer (some ⟨b,0,none⟩),.int .i64 (a:Nat),.int .i64 (c:Nat)] w (QN w L):=by
 intro n
 induction n using Nat.strongRecOn with
 |_ n ih=>
  intro a c R m B hn F;have ao:=G.bR bh;obtain⟨al,Z,be⟩:=H.bG a c (by rw[F];simp);obtain⟨L,u1,w1,l1⟩:=H.UL n hn F;refine⟨L,u1,w1,l1,λw h=>?_⟩;have a6:w.cell? ⟨b,1,none⟩=some (.map (some me)):=by simp[World.cell?,h.1]
  obtain⟨A,ar,ai,Q⟩:=h.look (ja al);obtain⟨hh,U⟩:=Tf Z.1 F;have cF:=Rs w A ar g S a (c:Nat) ao ai (by unfold aV;have:=Z.1;omega);rw[hh]at cF;have cF:=hid cF;obtain⟨nE,ab⟩:∃n,(gz S g.n a).length=n:=⟨_,rfl⟩;obtain⟨i,hi⟩:∃n,dV (gz S g.n a) ((c:Nat):Int)=n:=⟨_,rfl⟩;rw[ab,hi]at cF;rw[ab]at Q;rw[hi]at U;have ba:i<nE:=by rw[<-ab];exact(List.getElem?_eq_some_iff.1 U).1
  have aE:=Q w (Below.refl _ _);have a8:=hid Q;have ap:=hid (And.intro ai U);have H0:=hid (And.intro h (And.intro F (And.intro al Z)));have aq:=hid ih;have HH:=hid (And.intro H (And.intro u1 (And.intro hn B)));clear h ai Q hh U ab hi ih F al Z u1 w1 l1 hn H be B;go_enter Tryz.func201,Tryz.ntmps201;go_wp2_with fail;(with_reducible refine cF.out.mono ?_);rintro e w1 ⟨rfl,u⟩;obtain⟨gb,hA,a1,a2,a3,a4⟩:=(ap.out.1.below u).get ap.out.2;have bb:=λwx=>jy (m:=ar) hA ba wx;have aS:=a8.out w1 u;have a6:=ae u a6;simp only at a1 a2 a3 a4;clear aE hA cF;by_cases hm:m<0
  .have hL:L=[a,c]:=by
    have:=HH.out.2.1.JH (.edge H0.out.2.1 hm);exact this
   subst hL;go_wp2;have hF:QN w [a,c] (.returned (.tuple #[.slice (some ⟨w1.heap.size,0,none⟩) 2 2,.nilIface])) (w1.alloc (.cells #[.int .i64 (a:Nat),.int .i64 (c:Nat)] 3)):=⟨_,rfl,aI.two w1 w.heap.size _ _ u.size,af u⟩;go_ret2;exact hF
  .obtain⟨k,rfl,e2,e3,c1,m1,c2,m2,e4,e5,e6⟩:=HH.out.1.sum a c R m H0.out.2.1 (by omega)
   have bg:=HH.out.2.2.1;have B:=HH.out.2.2.2;obtain⟨L1,v1,_,l1,O⟩:=aq.out (n-1) (by omega) a k c1 m1 (by omega) (by omega) e4;obtain⟨L2,v2,_,l2,P⟩:=aq.out (n-1) (by omega) k c c2 m2 (by omega) (by omega) e5;have hL:L=L1++L2.tail:=HH.out.2.1.JH (.two H0.out.2.1 rfl v1 v2);have hp:2^(n-1)<=2^20:=Nat.pow_le_pow_right (by omega) (by omega);have bd:2<=L2.length:=by obtain⟨M,rfl⟩:=v2.ends;simp
   have HL:=hid (And.intro hL (And.intro l1 (And.intro l2 hp)));have O:=hid O;have P:=hid P;clear e2 e3 e4 e5 e6 v1 v2 hL l1 l2 hp bg B;go_wp2_with fail;(with_reducible refine(O.out _ (H0.out.1.below u)).mono ?_);rintro e w2 ⟨va,rfl,aw,ax⟩;have ag:=aa u ax;clear a1 a2 a3 a4 bb aS;go_wp2_with fail;(with_reducible refine(P.out _ (H0.out.1.below ag)).mono ?_);rintro e w3 ⟨vb,rfl,T,am⟩;obtain⟨g2,mb,rfl,a0⟩:=T.addr (by rw[List.length_map];omega);have an:(L2.map λn:Nat=>(n:Int)).length=L2.length:=List.length_map _;have ad:=aw.below (B':=w1.heap.size) am
   have ay:∀(k:Nat)(z:Int),(L2.tail.map λn:Nat=>(n:Int))[k]? =some z->w3.cell? ((⟨g2,1,none⟩:Addr).add k)=some (.int .i64 z):=λk z hz=>by
    rw[Addr.add_lit];refine T.cell (k:=1+k) ?_;rw[List.getElem?_map,List.getElem?_tail]at hz;rw[List.getElem?_map,Nat.add_comm];exact hz
   have a7:=hid ay;have ac:=aa ag am;have HO:=hid (And.intro ad T);obtain⟨n2,a5⟩:∃z,(L2.map λn:Nat=>(n:Int)).length=z:=⟨_,rfl⟩;rw[a5]at an a0⊢;have bc:(L1.map λn:Nat=>(n:Int)).length+(n2-1)<1099511627776:=by rw[List.length_map];have:=HL.out.2.1;have:=HL.out.2.2.1;have:=HL.out.2.2.2;omega
   have bi:(L2.tail.map λn:Nat=>(n:Int)).length=n2-1:=by rw[List.length_map,List.length_tail];omega
   have a9:1<n2:=by omega
   have bj:=hid an;clear ay aw T ad O P a5 an
   go_wp2_with (first
    |(refine xB rfl (.tmp 64) (.const (.int .i64 1)) rfl g2 n2 mb 1 rfl rfl a9 a0 ?_;intro m2)
    |(at_builtin;(refine pF w3 rfl _ _ rfl w1.heap.size va (L1.map λn:Nat=>(n:Int)) (L2.tail.map λn:Nat=>(n:Int)) rfl HO.out.1 ⟨g2,1,none⟩ (n2-1) _ rfl bi a7.out bc (by have:=ax.size;have:=am.size;omega) ?_);intro v' w9 J I))
   have hF:QN w L (.returned (.tuple #[v',.nilIface])) w9:=by
    refine⟨v',rfl,?_,below_grown ac ac.size (aI.mono HO.out.1 u.size) I⟩;rw[HL.out.1,List.map_append];exact aI.mono J u.size
   have hF:=hid hF;clear J I;go_wp2;go_ret2;exact hF.out
theorem Gc:∀{L M:List Nat},L.Pairwise (· < ·)->M.Pairwise (· < ·)->(∀z,z∈L↔z∈M)->L=M
 |[],[],_,_,_=>rfl
 |[],y::M,_,_,h=>by have:=(h y).2 (by simp);simp at this
 |x::L,[],_,_,h=>by have:=(h x).1 (by simp);simp at this
 |x::L,y::M,B,F,h=>by
  rw[List.pairwise_cons]at B F
  have I:x=y:=by
   have a:=(h x).1 (by simp);have b:=(h y).2 (by simp);rcases List.mem_cons.1 a with a|a
   .exact a
   .rcases List.mem_cons.1 b with b|b
    .exact b.symm
    .have:=F.1 x a;have:=B.1 y b;omega
  subst I;rw[Gc B.2 F.2 (λz=>?_)];constructor
  .intro u
   rcases List.mem_cons.1 ((h z).1 (List.mem_cons_of_mem _ u))with e|e
   .subst e;have:=B.1 z u;omega
   .exact e
  .intro u
   rcases List.mem_cons.1 ((h z).2 (List.mem_cons_of_mem _ u))with e|e
   .subst e;have:=F.1 z u;omega
   .exact e
theorem Ky(g:G):(aA g).map Int.toNat=av g:=by
 refine Gc ?_ (dU g) λz=>?_
 .rw[List.pairwise_map]
  refine(iX g).imp_of_mem λ{a b}B J h=>?_
  have:∀a∈aA g,0<=a:=λa B=>by
   obtain⟨i,u⟩:=List.getElem?_of_mem B;have:=(dS (g:=g) (List.getElem?_eq_some_iff.1 u).1).1;rw[List.getD_eq_getElem?_getD,u]at this;simp at this;omega
  have P:=this a B;have R:=this b J;omega
 .rw[List.mem_map,bn]
  constructor
  .rintro⟨a,B,rfl⟩
   obtain⟨i,u⟩:=List.getElem?_of_mem B;have F:=(List.getElem?_eq_some_iff.1 u).1;obtain⟨I,O⟩:=dS (g:=g) F;rw[List.getD_eq_getElem?_getD,u]at I;simp at I;rw[I];simpa using O
  .intro M
   obtain⟨i,u,rfl⟩:=oU M;have q:=(dS (g:=g) u).1;rw[List.getD_eq_getElem?_getD,List.getElem?_eq_getElem u]at q;simp at q;exact⟨_,List.getElem_mem u,by rw[q];simp⟩
theorem Dr(g:G):(av g).length=(aA g).length:=by rw[<-Ky,List.length_map]
theorem SN{i:Nat}(u:i<(aA g).length):(av g)[i]? =some (cf g i):=by
 have q:=(dS (g:=g) u).1;rw[List.getD_eq_getElem?_getD,List.getElem?_eq_getElem u]at q;simp at q;rw[<-Ky,List.getElem?_map,List.getElem?_eq_getElem u,Option.map_some,q];simp
theorem Ol(u:g.n<=256):∀z L,gK g S z=some L->L.length<=256:=λz L h=>by
 unfold gK at h;split at h
 .injection h with h;subst h;exact Nat.le_trans (fq _ _ _) u
 .cases h
theorem Oj:∀z,gK g S z≠none->∃n:Nat,z=n/\n<g.n:=λz h=>by
 unfold gK at h;split at h
 .rename_i q
  exact⟨z.toNat,by omega,q.2.1⟩
 .exact absurd rfl h
theorem wH(f h:Nat->Nat):∀n,bB (λk=>f k+h k) n=bB f n+bB h n
 |0=>rfl
 |n+1=>by simp only[bB];rw[wH f h n];omega
theorem kH:∀n,bB (λ_=>0) n=0
 |0=>rfl
 |n+1=>by simp only[bB];rw[kH n]
theorem yI{f h:Nat->Nat}{k d:Nat}:∀n,k<n->h k=f k+d->(∀j,j≠k->h j=f j)->bB h n=bB f n+d
 |0,B,_,_=>by omega
 |n+1,B,z,u=>by
  simp only[bB];by_cases e:k=n
  .subst e
   rw[bD (f:=h) (g:=f) k λj F=>u j (by omega),z];omega
  .rw[yI n (by omega) z u,u n (λx=>e x.symm)];omega
theorem wJ{q:Nat->Nat->Nat}(z:∀a b,q a b=q b a)(u:∀a,q a a=0):∀n,bB (λa=>bB (q a) n) n=2*bB (λa=>bB (λb=>if a<b then q a b else 0) n) n
 |0=>rfl
 |n+1=>by
  have O:=wJ z u n
  have B:bB (λa=>bB (q a) (n+1)) n=bB (λa=>bB (q a) n) n+bB (λa=>q a n) n:=by
   rw[<-wH];rfl
  have F:bB (λa=>bB (λb=>if a<b then q a b else 0) (n+1)) n=bB (λa=>bB (λb=>if a<b then q a b else 0) n) n+bB (λa=>q a n) n:=by
   rw[<-wH];refine bD n λa M=>?_;simp only[bB];rw[if_pos M]
  have I:bB (q n) (n+1)=bB (λa=>q a n) n:=by
   simp only[bB];rw[u,bD (f:=q n) (g:=λa=>q a n) n λa _=>z n a];omega
  have J:bB (λb=>if n<b then q n b else 0) (n+1)=0:=by
   rw[bD (g:=λ_=>0) (n+1) λb P=>if_neg (by omega),kH]
  show bB (λa=>bB (q a) (n+1)) n+bB (q n) (n+1)=2*(bB (λa=>bB (λb=>if a<b then q a b else 0) (n+1)) n+bB (λb=>if n<b then q n b else 0) (n+1));rw[B,F,I,J,O];omega
def ru(L:List Ed):Nat:=L.countP λe=>decide (0<=e.mid)
def NL(z:Int)(L:List Ed):Nat:=L.countP λe=>decide (0<=e.mid)&&decide (z<e.to_)
def pY(E:Int->Option (List Ed))(k:Nat):Nat:=match E k with|some L=>ru L|none=>0
def sK(E:Int->Option (List Ed))(k:Nat):Nat:=match E k with|some L=>NL k L|none=>0
theorem Fb(h:E k=some L):pY E k=ru L:=by unfold pY;rw[h]
theorem Kb(h:E k=some L):sK E k=NL k L:=by unfold sK;rw[h]
theorem xG(h:E k=none):pY E k=0:=by unfold pY;rw[h]
theorem Dh(h:E k=none):sK E k=0:=by unfold sK;rw[h]
theorem GQ{i:Nat}{e:Ed}(h:L[i]? =some e):ru (L.take (i+1))=ru (L.take i)+(if 0<=e.mid then 1 else 0):=by
 obtain⟨z,u⟩:=List.getElem?_eq_some_iff.1 h;unfold ru;rw[List.take_succ_eq_append_getElem z,List.countP_append,u];by_cases q:0<=e.mid<;>simp[q]
theorem Ff(L:List Ed):ru L<=L.length:=List.countP_le_length
def xh(S:LS)(a t:Nat):Nat:=match S.eg a t with|some cm=>if 0<=cm.2 then 1 else 0|none=>0
theorem AA(S:LS)(a:Nat):∀N,ru (gz S N a)=bB (xh S a) N
 |0=>rfl
 |N+1=>by
  have u:=AA S a N;unfold ru gz at*;rw[List.range_succ,List.filterMap_append,List.countP_append,u,bB];congr 1;unfold xh;cases h:S.eg a N with
  |none=>simp[h]
  |some cm=>by_cases q:0<=cm.2<;>simp[h,q]
theorem AB(S:LS)(a:Nat):∀N,NL a (gz S N a)=bB (λt=>if a<t then xh S a t else 0) N
 |0=>rfl
 |N+1=>by
  have u:=AB S a N;unfold NL gz at*;rw[List.range_succ,List.filterMap_append,List.countP_append,u,bB];congr 1;unfold xh;cases h:S.eg a N with
  |none=>simp[h]
  |some cm=>by_cases q:0<=cm.2<;>by_cases z:a<N<;>simp[h,q,z]
theorem Di{tp:Nat}(H:LS.Fin g tp S):bB (pY (gK g S)) g.n=2*bB (sK (gK g S)) g.n:=by
 have z:∀a,¬g.ak a->∀t,xh S a t=0:=λa u t=>by
  unfold xh;cases h:S.eg a t with
  |none=>rfl
  |some cm=>exact absurd (H.bG a t (by rw[h];simp)).1 u
 have B:∀a,pY (gK g S) a=bB (xh S a) g.n:=λa=>by
  by_cases u:g.ak a
  .rw[Fb (ja u),AA]
  .rw[xG (Bh (λh=>u (by simpa using h.2))),bD (g:=λ_=>0) _ (λt _=>z a u t),kH]
 have F:∀a,sK (gK g S) a=bB (λt=>if a<t then xh S a t else 0) g.n:=λa=>by
  by_cases u:g.ak a
  .rw[Kb (ja u),AB]
  .rw[Dh (Bh (λh=>u (by simpa using h.2))),bD (g:=λ_=>0) _ (λt _=>by rw[z a u t];simp),kH]
 rw[bD _ (λa _=>B a),bD (f:=sK (gK g S)) _ (λa _=>F a)];refine wJ (λa b=>?_) (λa=>?_) g.n
 .unfold xh;rw[H.symm a b]
 .unfold xh
  cases h:S.eg a a with
  |none=>rfl
  |some cm=>exact absurd rfl (H.bG a a (by rw[h];simp)).2.2
open Classical in
noncomputable def doneN(left:Int->Prop)(f:Nat->Nat)(N:Nat):Nat:=bB (λk=>if left (k:Nat)then 0 else f k) N
theorem Bc(h:∀k:Nat,¬left k->f k=0):doneN left f N=0:=by
 unfold doneN;rw[bD (g:=λ_=>0) N λk _=>?_,kH];split
 .rfl
 .exact h k ‹_›
theorem DI(u:k<N)(z:left k):doneN (λj=>left j/\j≠(k:Nat)) f N=doneN left f N+f k:=by
 unfold doneN;refine yI N u ?_ (λj B=>?_)
 .rw[if_pos z,if_neg (by simp)];omega
 .by_cases e:left (j:Nat)
  .rw[if_pos ⟨e,by omega⟩,if_pos e]
  .rw[if_neg (λh=>e h.1),if_neg e]
theorem Ih(h:∀z,¬left z):doneN left f N=bB f N:=by
 unfold doneN;exact bD N λk _=>if_neg (h _)
theorem KJ{N K:Nat}(h:∀k,f k<=K):doneN left f N<=N*K:=by
 unfold doneN;rw[<-gU];refine lJ N λk _=>?_;split
 .omega
 .exact h k
theorem Fe{K:Nat}(h:∀z L,E z=some L->L.length<=K)(k:Nat):pY E k<=K:=by
 unfold pY;split
 .exact Nat.le_trans (Ff _) (h _ _ ‹_›)
 .omega
theorem Pp(D:Nat):IntKind.i64.wrap (((2*D:Nat):Int).tdiv 2)=if D<1000000 then((D:Nat):Int)else IntKind.i64.wrap (((2*D:Nat):Int).tdiv 2):=by
 split
 .rw[Int.tdiv_eq_ediv_of_nonneg (by omega),IntWalk.i64_in _ (by omega)];omega
 .rfl
theorem OO(w:World)(b ml me nl:Nat)(S:List Nat)(top:Int)(V:Int->Option Value)(E:Int->Option (List Ed))(N D:Nat)(h:cz w b ml me S top V nl E)(hl:∀z L,E z=some L->L.length<=256)(hb:∀z,E z≠none->∃n:Nat,z=n/\n<N)(hN:N<=256)(hD:bB (pY E) N=2*D):Calls Tryz.prog 49 #[.pointer (some ⟨b,0,none⟩)] w λe w'=>e=.returned (.int .i64 (D:Nat))/\Below w.heap.size w w':=by
 obtain⟨g1,_,⟨W3,n3,q1,q2,q3,_,_,_,_⟩,_⟩:=h;have a7:w.cell? ⟨b,1,none⟩=some (.map (some me)):=by simp[World.cell?,g1]
 have H2:=hid q2;have H3:=hid q3;have Hl:=hid hl;have Hb:=hid hb;have HD:=hid hD
 have a9:D<=40000:=by
  have h1:bB (pY E) N<=N*256:=by rw[<-gU];exact lJ N λk _=>Fe hl k
  have h2:N*256<=256*256:=Nat.mul_le_mul_right _ hN;omega
 clear g1 q2 q3 hl hb hD;go_enter Tryz.func49,Tryz.ntmps49;go_wp2_with (at_range;refine eB rfl _ rfl mr Tryz.underlying137 q1 rfl ?_;intro w1 B am a5);go_frame;obtain⟨r,hr⟩:∃z,w.heap.size=z:=⟨_,rfl⟩
 rw[hr]at B⊢;have hstart:∃left cnt,aO iK w1 me r W3 left cnt/\0=doneN left (pY E) N/\Below w.heap.size w w1:=⟨_,_,B,(Bc λk hk=>xG ((H2.out _).2 (Classical.byContradiction λh=>hk h))).symm,am⟩;have ba:w.heap.size<=r:=by omega
 clear B am a5 q1 a7 hr;go_loopw [3] (λlv wr=>∃T:Nat,lv=.int .i64 T/\∃left cnt,aO iK wr me r W3 left cnt/\T=doneN left (pY E) N/\Below w.heap.size w wr) (λ_ wr=>wr.rangeLeft me r)
 case atStart=>exact⟨0,rfl,hstart⟩
 case round=>
  obtain⟨T,rfl,left,cnt,B,hT,hB⟩:=hrel;clear hstart;have hleft:=hid B.left_eq;have HT:=hid hT
  have ax:T<=100000:=by
   have h1:=KJ (left:=left) (N:=N) (K:=256) (λk=>Fe Hl.out k);have h2:N*256<=256*256:=Nat.mul_le_mul_right _ hN;omega
  clear hT;go_wp2_with (at_next;refine fB rfl _ rfl mr B rfl ?_ ?_)
  .intro h0 hl
   have ay:T=2*D:=by rw[HT.out,Ih hl,HD.out]
   subst ay;have hq:=Pp D;rw[if_pos (by omega)]at hq;have HB:=hid hB;have Hq:=hid hq;clear hl B hq HT ax hB;go_wp2;go_ret;exact⟨rfl,HB.out⟩
  .intro k u w4 a8 hk an P O ai a6 Z
   obtain⟨L,hL⟩:∃L,E k=some L:=by
    cases hE:E k with
    |none=>rw[(H2.out k).1 hE]at hk;cases hk
    |some L=>exact⟨L,rfl⟩
   obtain⟨kn,rfl,aS⟩:=Hb.out k (by rw[hL];simp);have R:Below w.heap.size w w4:=Kept.below hB ai hB.size (by simp;omega);obtain⟨A,aw,rfl,ag⟩:=(H3.out _ u L hk hL).Ag;have ar:=hid (ag.below R);have al:T+ru L=doneN (λj=>left j/\j≠(kn:Nat)) (pY E) N:=by rw[DI aS an,Fb hL,HT.out]
   have ac:=hid P;have ab:=hid (And.intro al O);have g:=Hl.out _ L hL;obtain⟨n,hn⟩:∃n,L.length=n:=⟨_,rfl⟩;rw[hn]at Z g⊢;have Hn:=hid hn;rw[show iK ((kn:Nat):Int)=.int .i64 ((kn:Nat):Int)from rfl]at Z⊢;clear hk an P O ai a6 ag hB B HT al hn hL;go_wp2_with fail;clear Z;have bc:=R.size
   go_loopw [3,19] (λlv kv wr=>∃i t:Nat,kv=.int .i64 i/\lv=.int .i64 t/\i<=n/\t=T+ru (L.take i)/\Below w4.heap.size w4 wr) (λ_ kv _=>n-(intOf kv).toNat)
   case atStart=>exact⟨0,T,rfl,rfl,by omega,by simp[ru],Below.refl _ _⟩
   case round=>
    obtain⟨i,t,rfl,rfl,hi,ht,F⟩:=hrel;have Q:=hid ht
    have bb:t<=200000:=by
     have h1:=Ff (L.take i);rw[List.length_take]at h1;omega
    clear ht;by_cases ao:i<n
    .obtain⟨e,he⟩:∃e,L[i]? =some e:=⟨L[i]'(by rw[Hn.out];exact ao),List.getElem?_eq_getElem _⟩
     obtain⟨gb,hA,a1,a2,a3,a4⟩:=(ar.out.below F).get he;have aE:=λwx=>jy (m:=aw) hA ao wx;have aq:=GQ he;obtain⟨xt,⟨xs,xd⟩,xm⟩:=e;simp only at a1 a2 a3 a4;have I:=hid aq;clear hA he aq;go_upto_region 8 with(fail);refine au ?_;intro W hW;have HW:Below w4.heap.size w4 W:=by rw[hW];exact af F
     obtain⟨b7,U⟩:∃z,wr.heap.size=z:=⟨_,rfl⟩;have o2:W.cell? ⟨b7,3,none⟩=some (.int .i64 xm):=by rw[hW,<-U];go_simp
     rw[U];clear hW U F a1 a2 a3 a4 aE;by_cases hm:0<=xm
     .have M:t+1=T+ru (L.take (i+1)):=by have:=I.out;rw[if_pos hm]at this;rw[this,Q.out];omega
      have J:=hid M;clear M I Q;go_wp2;go_roundw
      case rel=>first|exact⟨i+1,t+1,by go_num,by go_num,by omega,J.out,HW⟩|((repeat apply Exists.intro);exact⟨⟨i+1,t+1,by go_num,by go_num,by omega,J.out,HW⟩,rfl⟩)
      case measure=>simp[intOf];omega
     .have M:t=T+ru (L.take (i+1)):=by have:=I.out;rw[if_neg hm]at this;rw[this,Q.out];omega
      have J:=hid M;clear M I Q;go_wp2;go_roundw
      case rel=>first|exact⟨i+1,t,by go_num,rfl,by omega,J.out,HW⟩|((repeat apply Exists.intro);exact⟨⟨i+1,t,by go_num,rfl,by omega,J.out,HW⟩,rfl⟩)
      case measure=>simp[intOf];omega
    .obtain rfl:i=n:=by omega
     have M:t=doneN (λj=>left j/\j≠(kn:Nat)) (pY E) N:=by
      have:=Q.out;rw[<-Hn.out,List.take_length]at this;rw[this,ab.out.1]
     have B:=ac.out.below F;have a0:=hid B.left_eq;have ad:Below w.heap.size w wr:=R.trans (F.mono (by omega));have J:=hid (And.intro B (And.intro M ad));have ap:=ab.out.2;clear M B ad Q;go_wp2;go_roundw
     case rel=>first|exact⟨t,rfl,_,_,J.out⟩|((repeat apply Exists.intro);exact⟨⟨t,rfl,_,_,J.out⟩,rfl⟩)
     case measure=>rw[hleft.out,a0.out];exact ap
