/- Lemmas of this claim: Nav5, NavEd, RServ. -/
import Derived.Test.YtokhnobcincfjaaGreatDoorTxPrint
import Derived.Test.YtokhnobcincfjaaGreatDoorKNEd43
set_option linter.unusedVariables false
set_option linter.unusedSimpArgs false
set_option maxHeartbeats 12800000
set_option maxRecDepth 100000
namespace Go.Proofs.YtokhnobcincfjaaGreatDoor
open Go.Lib (hid)
open Go.RowKit Go.Sort FR Go.Lib
variable {sc:Array Value}{g:G}{v:Int}{E:Int->Option (List Ed)}{S:List Nat}{k n pg pt ptg rb rm rp s:Nat}{f:Nat->Int×Bool}{A:Option Addr}{w w' wr:World}
theorem Gf(w:World)(s:Nat)(g:G)(v:Int)(most:Nat)(h:fT w s g v most):Calls Tryz.prog 23 #[.pointer (some ⟨s,0,none⟩)] w λe Q=>e=.returned (.string (bs (di g)))/\Below w.heap.size w Q:=by
 obtain⟨_,L,k,rb,rp,rm,T,U,le,S,E,R,Z,I,O,P,F,_⟩:=h;have M:w.cell? ⟨s,0,none⟩=some (.pointer (some ⟨L,0,none⟩)):=by rw[Lib.cell_of_heap I];rfl
 have u:=JB w L g v F;obtain⟨z,J⟩:∃z,bs (di g)=z:=⟨_,rfl⟩;rw[J]at u⊢;replace u:=hid u;clear I F J O P;go_enter Tryz.func23,Tryz.ntmps23;go_wp2_with fail;refine u.out.mono ?_;rintro e w2 ⟨rfl,B⟩;go_wp2_with fail;go_ret;exact⟨rfl,B⟩
theorem Ps(w:World)(q:Nat)(g:G)(v:Int)(c:Nat)(t:Bool)(h:aB w q g v)(F:c<g.n)(M:0<=v/\v<=1099511627776):Calls Tryz.prog 16 #[.pointer (some ⟨q,0,none⟩),.int .i64 (c:Nat),.bool t] w λe z=>e=.returned (.tuple #[.bool (g.b c != t),.int .i64 0])/\aB z q (bS g c t) (v+(if g.b c=t then 0 else 1:Nat))/\Kept [q] w z:=by
 by_cases I:g.b c=t
 .subst I
  refine(Jo w q g v c h F).mono λe z⟨B,u⟩=>⟨by simpa using B,?_,.of_below u⟩
  rw[rO rfl,if_pos rfl];simpa using h.below u h.lt
 .have J:g.b c=!t:=by cases h:g.b c<;>cases t<;>simp_all
  refine(Cm w q g v c t h F J M).mono λe z⟨B,u,L⟩=>⟨by rw[J];simpa using B,?_,L⟩
  rw[if_neg I];simpa using u
def eZ(W:World)(A:Option Addr)(n:Nat)(f:Nat->Int×Bool):Prop:=
 0<n->∃b o,A=some ⟨b,o,none⟩/\b<W.heap.size/\∀k,k<n->W.cell? ⟨b,o+k*2,none⟩=some (.int .i64 (f k).1)/\W.cell? ⟨b,o+k*2+1,none⟩=some (.bool (f k).2)
theorem eZ.kept(h:eZ w A n f)(B:Kept S w w')(J:∀F,A=some F->F.block∉S):eZ w' A n f:=λM=>by
 obtain⟨b,o,e,L,I⟩:=h M;have u:b∉S:=J ⟨b,o,none⟩ e;exact⟨b,o,e,Nat.lt_of_lt_of_le L B.size,λk z=>⟨aJ (p:=⟨b,_,none⟩) B u (I k z).1,aJ (p:=⟨b,_,none⟩) B u (I k z).2⟩⟩
theorem eZ.below(h:eZ w A n f)(u:Below w.heap.size w w'):eZ w' A n f:=h.kept (S:=[]) (.of_below u) (λ_ _=>by simp)
theorem kD{b o n m k:Nat}(h:A=some ⟨b,o,none⟩)(z:k<n)(u:World):(Instr.indexAt 62 (.slice A n m) (.int .i64 (k:Nat))).run Tryz.prog u=.ok (.pointer (some ⟨b,o+k*2,none⟩)) u:=by
 subst h;have q:(k:Int)<(n:Int):=by omega
 go_simp
def JN(w:World)(s:Nat)(g:G)(v:Int)(most:Nat)(T:List Nat)(f:Nat->Int×Bool)(n:Nat)(e:Ending)(w':World):Prop:=
 e=.returned (.tuple #[.int .i64 (aP f g n:Nat),.nilIface])/\∃T',fU w' s (aM f g n) (v+(aP f g n:Nat)) most T'/\(∀k∈T',k∈T\/w.heap.size<=k)/\Kept T w w'
def Ac(w:World)(s pg pt ptg rb rp rm:Nat)(S:List Nat)(sc:Array Value)(g:G)(v:Int)(f:Nat->Int×Bool)(k:Nat)(wr:World):Prop:=
 ∃S' E',wr.heap[s]? =some (.cells sc 114 (0,0))/\az wr pg (aM f g k) (v+(aP f g k:Nat))/\eH wr pt ptg (aM f g k) (v+(aP f g k:Nat))/\
  aD wr rb rp rm S' (aM f g k) (v+(aP f g k:Nat)) E'/\bI (aM f g k) (λ_ _=>True) E'/\Apart s pg pt ptg rb rp rm S'/\(∀q∈S',q∈S\/w.heap.size<=q)/\Kept (pg::pt::ptg::rp::rm::S) w wr/\(aP f g k=0->Below w.heap.size w wr)
theorem Ac.below{w wr w2:World}(h:Ac w s pg pt ptg rb rp rm S sc g v f k wr)(u:Below wr.heap.size wr w2):Ac w s pg pt ptg rb rp rm S sc g v f k w2:=by
 obtain⟨I,F,z,B,J,L,M,O,P,Q,R⟩:=h;exact⟨I,F,(u.block s (Array.getElem?_eq_some_iff.1 z).1).trans z,B.below u B.lt,J.below u,L.below u,M,O,P,Q.trans (.of_below u),λe=>aa (R e) u⟩
theorem Ac.same{w wr w2:World}(h:Ac w s pg pt ptg rb rp rm S sc g v f k wr)(F:Below wr.heap.size wr w2)(u:(aM f g k).b (f k).1.toNat=(f k).2):Ac w s pg pt ptg rb rp rm S sc g v f (k+1) w2:=by
 have z:aM f g (k+1)=aM f g k:=rO u
 have B:aP f g (k+1)=aP f g k:=by
  show aP f g k+_=_;rw[if_pos u];rfl
 have:=h.below F;unfold Ac at this⊢;rw[z,B];exact this
theorem Ac.start(u:w.heap[s]? =some (.cells sc 114 (0,0)))(z:az w pg g v)(B:eH w pt ptg g v)(F:aD w rb rp rm S g v E)(I:bI g (λ_ _=>True) E)(J:Apart s pg pt ptg rb rp rm S):Ac w s pg pt ptg rb rp rm S sc g v f 0 w:=
 ⟨S,E,u,by simpa[aM,aP]using z,by simpa[aM,aP]using B,by simpa[aM,aP]using F,I,J,λ_ h=>.inl h,.refl _ _,λ_=>.refl _ _⟩
theorem Ac.next{w wr w1 w2 w3:World}{s J L u M F B:Nat}{S:List Nat}{sc:Array Value}{g:G}{v:Int}{f:Nat->Int×Bool}{k:Nat}{I Z:List Nat}{E' U:Int->Option (List Ed)}(hs:¬(aM f g k).b (f k).1.toNat=(f k).2)(h1:wr.heap[s]? =some (.cells sc 114 (0,0)))(h4:aD wr M F B I (aM f g k) (v+(aP f g k:Nat)) E')(h6:Apart s J L u M F B I)(h7:∀q∈I,q∈S\/w.heap.size<=q)(h8:Kept (J::L::u::F::B::S) w wr)(g1:az w1 J (aM f g (k+1)) (v+(aP f g k:Nat)+1))(Q:Kept [J] wr w1)(g2:eH w2 L u (aM f g (k+1)) (v+(aP f g k:Nat)+1))(O:Kept [L,u] w1 w2)(g3:aD w3 M F B Z (aM f g (k+1)) (v+(aP f g k:Nat)+1) U)(g4:bI (aM f g (k+1)) (λ_ _=>True) U)(g5:∀q∈Z,q∈I\/w2.heap.size<=q)(R:Kept (F::B::I) w2 w3):Ac w s J L u M F B S sc g v f (k+1) w3:=by
 have e2:aP f g (k+1)=aP f g k+1:=by
  show aP f g k+_=_;rw[if_neg hs]
 have ev:v+((aP f g (k+1):Nat):Int)=v+(aP f g k:Nat)+1:=by rw[e2];omega
 unfold Ac;rw[ev];have nd:=h6.nd;simp only[List.nodup_cons,List.mem_cons,List.not_mem_nil,or_false,not_or,List.nodup_nil,and_true,not_false_eq_true]at nd;obtain⟨⟨a1,a2,a3,a4,a5,a6⟩,⟨b1,b2,b3,b4,b5⟩,⟨c1,c2,c3,c4⟩,⟨d1,d2,d3⟩,⟨e1,ac⟩,f1⟩:=nd;have ho:=h6.out;have T:∀{x},x∈[s,J,L,u,M,F,B]->x∉I:=λhx P=>ho _ P hx;have z1:=h1;have l1:s<wr.heap.size:=(Array.getElem?_eq_some_iff.1 h1).1;have s1:=(Q.block s l1 (by simp[a1])).trans h1;have l2:s<w1.heap.size:=(Array.getElem?_eq_some_iff.1 s1).1;have s2:=(O.block s l2 (by simp[a2,a3])).trans s1;have l3:s<w2.heap.size:=(Array.getElem?_eq_some_iff.1 s2).1;have s3:=(R.block s l3 (by simp[a5,a6,T])).trans s2;have ab:wr.heap.size<=w2.heap.size:=Nat.le_trans Q.size O.size;refine⟨Z,U,s3,(g1.kept O (by simp[b1,b2])).kept R (by simp[b4,b5,T]),g2.kept R (by simp[c3,c4,T]) (by simp[d2,d3,T]),g3,g4,⟨h6.nd,λq hq P=>?_⟩,λq hq=>?_,?_,λe=>by omega⟩
 .rcases g5 q hq with r|r
  .exact ho q r P
  .have lg:=g1.lt
   have lt:=g2.lt;have l4:M<wr.heap.size:=(Array.getElem?_eq_some_iff.1 h4.1).1;have l5:=h4.2.1.lt;have l6:=h4.2.2.1.lt;have ad:=Q.size;have ag:=O.size;simp only[List.mem_cons,List.not_mem_nil,or_false]at P;omega
 .rcases g5 q hq with r|r
  .exact h7 q r
  .exact .inr (Nat.le_trans (Nat.le_trans h8.size ab) r)
 .refine((h8.fO Q λi z _=>?_).fO O λi z _=>?_).fO R λi z hl=>?_
  .simp at z;simp[z]
  .simp only[List.mem_cons,List.not_mem_nil,or_false]at z⊢
   omega
  .simp only[List.mem_cons]at z⊢
   rcases z with e|e|e
   .simp[e]
   .simp[e]
   .rcases h7 i e with r|r
    .simp[r]
    .omega
theorem uY{b p z:Nat}{S X:List Nat}(h:aD w b p z S g v E)(u:Kept X w w')(B:b∉X)(F:p∉X)(I:z∉X)(J:∀q∈S,q∉X):aD w' b p z S g v E:=
 ⟨(u.block b (Array.getElem?_eq_some_iff.1 h.1).1 B).trans h.1,h.2.1.kept u F,h.2.2.1.kept u J I,h.2.2.2⟩
theorem Ac.fin{w wr L P:World}{s pg pt ptg rb rp rm bl O me nl:Nat}{S T M:List Nat}{most:Nat}{n Z:Nat}(h:Ac w s pg pt ptg rb rp rm S #[.pointer (some ⟨pg,0,none⟩),.pointer (some ⟨pt,0,none⟩),.pointer (some ⟨rb,0,none⟩),.pointer (some ⟨Z,0,none⟩),.int .i64 (most:Nat)] g v f n wr)(z:∀k∈s::pg::pt::ptg::rb::rp::rm::S,k∈T)(m1:1<=most)(m2:most<=6)(hw:∀k∈T,k<w.heap.size)(hL:cz L bl O me M ((LS.all (aM f g n) (av (aM f g n)) most).2:Nat) (bH (aM f g n) (LS.all (aM f g n) (av (aM f g n)) most).1) nl (gK (aM f g n) (LS.all (aM f g n) (av (aM f g n)) most).1))(I:∀k∈bl::O::me::M,wr.heap.size<=k)(hb:Below wr.heap.size wr L)(J:P=L.setCell ⟨s,3,none⟩ (.pointer (some ⟨bl,0,none⟩))):JN w s g v most T f n (.returned (.tuple #[.int .i64 (aP f g n:Nat),.nilIface])) P:=by
 obtain⟨S',E',h1,h2,h3,h4,h5,Q,h7,R,_⟩:=h.below hb;have U:w.heap.size<=wr.heap.size:=by obtain⟨_,_,_,_,_,_,_,_,_,R,_⟩:=h;exact R.size
 have B:Kept [s] L P:=by rw[J];exact(Kept.refl [s] L).setCell (.inl (by simp))
 have ab:=hw s (z s (by simp));have nd:=Q.nd;simp only[List.nodup_cons,List.mem_cons,List.not_mem_nil,or_false,not_or,List.nodup_nil,and_true,not_false_eq_true]at nd;obtain⟨⟨a1,a2,a3,a4,a5,a6⟩,_⟩:=nd;have aS:∀k∈S',k≠s:=λk B e=>Q.out k B (by rw[e];simp)
 have z1:P.heap[s]? =some (.cells #[.pointer (some ⟨pg,0,none⟩),.pointer (some ⟨pt,0,none⟩),.pointer (some ⟨rb,0,none⟩),.pointer (some ⟨bl,0,none⟩),.int .i64 (most:Nat)] 114 (0,0)):=by
  rw[J];exact aH _ s 3 _ _ _ h1
 obtain⟨r1,r2,r3,r4⟩:=h4
 refine⟨rfl,_,⟨pg,pt,rb,rp,rm,bl,O,me,S',E',M,nl,z1,m1,m2,h2.kept B (by simp;omega),⟨(B.block rb (Array.getElem?_eq_some_iff.1 r1).1 (by simp;omega)).trans r1,r2.kept B (by simp;omega),r3.kept B (λq hq=>by simp;exact aS q hq) (by simp;omega),r4⟩,h5,
  hL.kept B (λk u=>by have:=I k u;simp;omega),ptg,h3.kept B (by simp;omega) (by simp;omega),Q,rfl⟩,λk u=>?_,?_⟩
 .simp only[List.mem_cons,List.mem_append]at u
  have F:=λk(B:k∈bl::O::me::M)=>Nat.le_trans U (I k B);rcases u with rfl|rfl|rfl|rfl|rfl|rfl|rfl|u|rfl|rfl|rfl|u
  .exact .inl (z _ (by simp))
  .exact .inl (z _ (by simp))
  .exact .inl (z _ (by simp))
  .exact .inl (z _ (by simp))
  .exact .inl (z _ (by simp))
  .exact .inl (z _ (by simp))
  .exact .inl (z _ (by simp))
  .rcases h7 k u with r|r
   .exact .inl (z _ (by simp[r]))
   .exact .inr r
  .exact .inr (F _ (by simp))
  .exact .inr (F _ (by simp))
  .exact .inr (F _ (by simp))
  .exact .inr (F _ (by simp[u]))
 .refine(R.more λk u=>z k ?_).trans (B.more λk u=>z k ?_)
  .simp only[List.mem_cons]at u
   rcases u with e|e|e|e|e|e<;>simp[e]
  .simp at u;simp[u]
theorem Ei(w:World)(s:Nat)(g:G)(v:Int)(most:Nat)(T:List Nat)(h:fU w s g v most T)(A:Option Addr)(n m:Nat)(f:Nat->Int×Bool)(hE:eZ w A n f)(hn:n<=60)(hA:∀ad,A=some ad->ad.block∉T)(hv:0<=v/\v<=1000000)(b9:∀j,j<n->0<=(f j).1/\(f j).1<(g.n:Nat)):Calls Tryz.prog 24 #[.pointer (some ⟨s,0,none⟩),.slice A n m] w (JN w s g v most T f n):=by
 have HT:=hid h.lt;have ce:=hid h;obtain⟨M,U,Q,rp,rm,lb,lm,le,S,E,Sb,nl,hs,m1,m2,hG,b0,b1,ch,al,b4,bx,b5⟩:=h;have aw:w.cell? ⟨s,0,none⟩=some (.pointer (some ⟨M,0,none⟩)):=by rw[Lib.cell_of_heap hs];rfl
 have b2:=Ac.start (f:=f) hs hG b4 b0 b1 bx
 have b6:∀k∈s::M::U::al::Q::rp::rm::S,k∈T:=λk hk=>by
  rw[b5];simp only[List.mem_cons,List.mem_append]at hk⊢;rcases hk with e|e|e|e|e|e|e|e<;>simp[e]
 have bq:=hid b6;have bp:=hid b2;have HG:=hid hG;have HE:=hid hE;have HA:=hid hA;have br:=hid b9;have Hm:=hid (And.intro m1 m2);have Hv:=hid hv;have a2:=hid aw;clear hs m1 m2 hG b0 b1 ch b4 bx b5 b2 b6 hE hA b9 hv aw;go_enter Tryz.func24,Tryz.ntmps24;go_wp2_with fail;go_loopw [21] (λiv wr=>∃(k:Nat),k<=n/\iv=.int .i64 (k:Nat)/\Below w.heap.size w wr) (λiv _=>n-(intOf iv).toNat)
 case atStart=>exact⟨0,Nat.zero_le _,rfl,Below.refl _ _⟩
 case round=>
  obtain⟨k,hk,rfl,hB⟩:=hrel;by_cases ag:k<n
  .obtain⟨ba,o,ao,be,hc⟩:=HE.out (by omega)
   obtain⟨x1,x2⟩:=hc k ag;have ax:=λwx=>kD (A:=A) (m:=m) ao ag wx;obtain⟨i0,i1⟩:=br.out k ag;obtain⟨⟨x,t⟩,ai⟩:∃z,f k=z:=⟨_,rfl⟩;rw[ai]at x1 x2 i0 i1;simp only at x1 x2 i0 i1;obtain⟨c,rfl⟩:=Int.eq_ofNat_of_zero_le i0;obtain⟨ok,ay⟩:∃z,o+k*2=z:=⟨_,rfl⟩;rw[ay]at x1 x2 ax;replace x1:=ae hB x1;replace x2:=ae hB x2;obtain⟨u,hu⟩:∃u,(!g.b c)=u:=⟨_,rfl⟩;have Z:c<g.n:=by omega
   have cF:=λI(hb:Below w.heap.size w I)=>dC I M g v c (HG.out.below hb HG.out.lt) Z;rw[hu]at cF;replace cF:=hid cF;clear ao be hc ai ay hu i0 i1 Z;go_upto_region 6 with(fail);refine au ?_;intro W hW;have aq:Below wr.heap.size wr W:=by rw[hW];(repeat' (first|exact Below.refl _ _|assumption|apply aj|apply ah|apply af|(refine aa ?_ (by assumption))))
   obtain⟨b7,bc⟩:∃z,wr.heap.size=z:=⟨_,rfl⟩;have e0:W.cell? ⟨b7,0,none⟩=some (.int .i64 (c:Nat)):=by rw[hW,<-bc];go_simp
   have bo:=aa hB aq;rw[bc];clear hW bc aq x1 x2 ax hB;have F:Below w.heap.size w W.drew:=ah bo;have O:W.drew.cell? ⟨s,0,none⟩=some (.pointer (some ⟨M,0,none⟩))/\W.drew.cell? ⟨b7,0,none⟩=some (.int .i64 (c:Nat)):=⟨ae F a2.out,ae (ah (Below.refl _ _)) e0⟩
   go_region_held3 (λI=>I.cell? ⟨s,0,none⟩=some (.pointer (some ⟨M,0,none⟩))/\I.cell? ⟨b7,0,none⟩=some (.int .i64 (c:Nat)))
    (first
     |exact O)
    (first
     |(go_at_call 52
       refine(cF.out _ F).mono ?_;rintro e L ⟨rfl,P⟩;have O:L.cell? ⟨s,0,none⟩=some (.pointer (some ⟨M,0,none⟩))/\L.cell? ⟨b7,0,none⟩=some (.int .i64 (c:Nat)):=⟨ae P O.1,ae P O.2⟩))
   have HF:=hid (aa F P);clear O P F e0 bo cF;go_wp2;go_roundw
   case rel=>first|exact⟨k+1,by omega,by go_num,HF.out⟩|((repeat apply Exists.intro);exact⟨⟨k+1,by omega,by go_num,HF.out⟩,rfl⟩)
   case measure=>simp[intOf];omega
  .obtain rfl:n=k:=by omega
   have b3:=hid (bp.out.below hB);clear hB bp;go_wp2_with fail;go_loopw [10,41] (λcv iv wr=>∃(j:Nat),j<=n/\iv=.int .i64 (j:Nat)/\cv=.int .i64 (aP f g j:Nat)/\Ac w s M U al Q rp rm S #[.pointer (some ⟨M,0,none⟩),.pointer (some ⟨U,0,none⟩),.pointer (some ⟨Q,0,none⟩),.pointer (some ⟨lb,0,none⟩),.int .i64 (most:Nat)] g v f j wr) (λ_ iv _=>n-(intOf iv).toNat)
   case atStart=>exact⟨0,Nat.zero_le _,rfl,rfl,b3.out⟩
   case round=>
    obtain⟨j,hj,rfl,rfl,hI⟩:=hrel;clear b3;by_cases ag:j<n
    .obtain⟨ba,o,ao,be,hc⟩:=HE.out (by omega)
     obtain⟨x1,x2⟩:=hc j ag;have ax:=λwx=>kD (A:=A) (m:=m) ao ag wx;obtain⟨i0,i1⟩:=br.out j ag;have bw:=HA.out ⟨ba,o,none⟩ ao;have a9:=hI;obtain⟨S',E',z1,z2,z3,z4,z5,z6,z7,z8,z9⟩:=a9;have bd:ba∉M::U::al::rp::rm::S:=λhm=>bw (bq.out _ (by simp only[List.mem_cons]at hm;rcases hm with e|e|e|e|e|e<;>simp[e]));replace x1:=aJ z8 (p:=⟨ba,o+j*2,none⟩) bd x1;replace x2:=aJ z8 (p:=⟨ba,o+j*2+1,none⟩) bd x2;obtain⟨⟨x,t⟩,ai⟩:∃z,f j=z:=⟨_,rfl⟩;rw[ai]at x1 x2 i0 i1;simp only at x1 x2 i0 i1;obtain⟨c,rfl⟩:=Int.eq_ofNat_of_zero_le i0;obtain⟨ok,ay⟩:∃z,o+j*2=z:=⟨_,rfl⟩;rw[ay]at x1 x2 ax;obtain⟨gk,ab⟩:∃z,aM f g j=z:=⟨_,rfl⟩;obtain⟨nk,J⟩:∃z,aP f g j=z:=⟨_,rfl⟩;have Z:c<gk.n:=by rw[<-ab,uf];omega
     have bh:nk<=60:=by have:=qg f g j;omega
     have a4:(f j).1.toNat=c:=by rw[ai];simp
     have a5:(f j).2=t:=by rw[ai]
     have aE:gk.b c=t->aP f g (j+1)=nk/\(aM f g j).b (f j).1.toNat=(f j).2:=λh=>by
      have h2:(aM f g j).b (f j).1.toNat=(f j).2:=by rw[ab,a4,a5];exact h
      refine⟨?_,h2⟩;show aP f g j+_=nk;rw[if_pos h2,J];rfl
     have a6:¬gk.b c=t->aP f g (j+1)=nk+1/\¬(aM f g j).b (f j).1.toNat=(f j).2/\aM f g (j+1)=bS gk c t:=λh=>by
      have h2:¬(aM f g j).b (f j).1.toNat=(f j).2:=by rw[ab,a4,a5];exact h
      refine⟨?_,h2,?_⟩
      .show aP f g j+_=nk+1
       rw[if_neg h2,J]
      .show bS (aM f g j) _ _=_
       rw[ab,a4,a5]
     have a0:0<=v+((nk:Nat):Int)/\v+((nk:Nat):Int)<=1099511627776:=by have:=Hv.out;omega
     obtain⟨vk,an⟩:∃z,v+((nk:Nat):Int)=z:=⟨_,rfl⟩;rw[an]at a0;rw[ab,J,an]at z2 z3 z4;rw[ab]at z5;have HI:=hid hI;have lS:=(Array.getElem?_eq_some_iff.1 z1).1;have lG:=z2.lt;have lT:=z3.lt;have bj:=(Array.getElem?_eq_some_iff.1 z4.1).1;have bm:=z4.2.1.lt;have bk:=z4.2.2.1.lt;have bi:=z4.2.2.1.q9;have bg:=z6.nd;have a7:=z6.out;have aw:wr.cell? ⟨s,0,none⟩=some (.pointer (some ⟨M,0,none⟩)):=by rw[Lib.cell_of_heap z1];rfl
     have ca:wr.cell? ⟨s,1,none⟩=some (.pointer (some ⟨U,0,none⟩)):=by rw[Lib.cell_of_heap z1];rfl
     have a1:wr.cell? ⟨s,2,none⟩=some (.pointer (some ⟨Q,0,none⟩)):=by rw[Lib.cell_of_heap z1];rfl
     obtain⟨B,am⟩:∃z,wr.heap.size=z:=⟨_,rfl⟩;rw[am]at lS lG lT bj bm bk bi;simp only[List.nodup_cons,List.mem_cons,List.not_mem_nil,or_false,not_or,List.nodup_nil,and_true,not_false_eq_true]at bg;have R:=hid (And.intro bg (And.intro lS (And.intro lG (And.intro lT (And.intro bj (And.intro bm bk))))));have a3:=hid (And.intro a7 bi);have HZ:=hid (And.intro z1 (And.intro z2 (And.intro z3 (And.intro z4 (And.intro z5 (And.intro z6 (And.intro z7 z8)))))));have Hk:=hid aw;have a8:=hid aE;have bt:=hid a6;have cg:=hid (And.intro ab (And.intro J an));rw[J];clear ao be hc ai ay i0 i1 bw bd hI z1 z2 z3 z4 z5 z6 z7 z8 z9 a4 a5 aE a6 ab J an lS lG lT bj bm bk bi bg a7;go_upto_region 14 with(fail);refine au ?_;intro W hW;have aq:Below wr.heap.size wr W:=by rw[hW];(repeat' (first|exact Below.refl _ _|assumption|apply aj|apply ah|apply af|(refine aa ?_ (by assumption))))
     have e0:W.cell? ⟨B,0,none⟩=some (.int .i64 (c:Nat)):=by rw[hW,<-am];go_simp
     have e1:W.cell? ⟨B,1,none⟩=some (.bool t):=by rw[hW,<-am];go_simp
     try rw[am]
     clear hW x1 x2 ax;have F:Below wr.heap.size wr W.drew:=ah aq;have O:W.drew.cell? ⟨s,0,none⟩=some (.pointer (some ⟨M,0,none⟩))/\W.drew.cell? ⟨s,1,none⟩=some (.pointer (some ⟨U,0,none⟩))/\W.drew.cell? ⟨s,2,none⟩=some (.pointer (some ⟨Q,0,none⟩))/\W.drew.cell? ⟨B,0,none⟩=some (.int .i64 (c:Nat))/\W.drew.cell? ⟨B,1,none⟩=some (.bool t):=⟨ae F aw,ae F ca,ae F a1,ae (ah (Below.refl _ _)) e0,ae (ah (Below.refl _ _)) e1⟩;clear aw ca a1 Hk;by_cases aS:gk.b c=t
     .have cG:Calls Tryz.prog 57 #[.pointer (some ⟨M,0,none⟩),.int .i64 (c:Nat),.bool t] W.drew λe I=>e=.returned (.tuple #[.bool false,.nilIface])/\Below W.drew.heap.size W.drew I:=by
       have:=zo W.drew M gk vk c (HZ.out.2.1.below F HZ.out.2.1.lt) Z;rw[aS]at this;exact this
      replace cG:=hid cG;obtain⟨hN,ac⟩:=a8.out aS;replace hN:=hid hN;replace ac:=hid ac;replace F:=hid F;clear aS aq e0 e1 a0 Z
      go_region_held3 (λI=>I.cell? ⟨s,0,none⟩=some (.pointer (some ⟨M,0,none⟩))/\I.cell? ⟨s,1,none⟩=some (.pointer (some ⟨U,0,none⟩))/\I.cell? ⟨s,2,none⟩=some (.pointer (some ⟨Q,0,none⟩))/\I.cell? ⟨B,0,none⟩=some (.int .i64 (c:Nat))/\I.cell? ⟨B,1,none⟩=some (.bool t))
       (first
        |exact O)
       (first
        |(go_at_call 57
          refine cG.out.mono ?_;rintro e L ⟨rfl,P⟩;have O:L.cell? ⟨s,0,none⟩=some (.pointer (some ⟨M,0,none⟩))/\L.cell? ⟨s,1,none⟩=some (.pointer (some ⟨U,0,none⟩))/\L.cell? ⟨s,2,none⟩=some (.pointer (some ⟨Q,0,none⟩))/\L.cell? ⟨B,0,none⟩=some (.int .i64 (c:Nat))/\L.cell? ⟨B,1,none⟩=some (.bool t):=⟨ae P O.1,ae P O.2.1,ae P O.2.2.1,ae P O.2.2.2.1,ae P O.2.2.2.2⟩))
      have hF:=hid (HI.out.same (aa F.out P) ac.out);clear O P cG F;go_wp2;go_roundw
      case rel=>first|exact⟨j+1,by omega,by go_num,by rw[hN.out],hF.out⟩|((repeat apply Exists.intro);exact⟨⟨j+1,by omega,by go_num,by rw[hN.out],hF.out⟩,rfl⟩)
      case measure=>simp[intOf];omega
     .have ht:gk.b c=!t:=by cases h:gk.b c<;>cases t<;>simp_all
      have cG:=hid (iw W.drew M gk vk c t (HZ.out.2.1.below F HZ.out.2.1.lt) Z ht a0);obtain⟨hN,ac,ap⟩:=bt.out aS;replace hN:=hid hN;replace ac:=hid ac;replace ap:=hid ap;replace F:=hid F;replace ht:=hid ht;clear aS aq e0 e1
      go_region_held3 (λI=>I.cell? ⟨s,0,none⟩=some (.pointer (some ⟨M,0,none⟩))/\I.cell? ⟨s,1,none⟩=some (.pointer (some ⟨U,0,none⟩))/\I.cell? ⟨s,2,none⟩=some (.pointer (some ⟨Q,0,none⟩))/\I.cell? ⟨B,0,none⟩=some (.int .i64 (c:Nat))/\I.cell? ⟨B,1,none⟩=some (.bool t))
       (first
        |exact O
        |exact q1)
       (first
        |(go_at_call 57
          refine cG.out.mono ?_;rintro e L ⟨rfl,g1,k1⟩;have q1:L.cell? ⟨s,0,none⟩=some (.pointer (some ⟨M,0,none⟩))/\L.cell? ⟨s,1,none⟩=some (.pointer (some ⟨U,0,none⟩))/\L.cell? ⟨s,2,none⟩=some (.pointer (some ⟨Q,0,none⟩))/\L.cell? ⟨B,0,none⟩=some (.int .i64 (c:Nat))/\L.cell? ⟨B,1,none⟩=some (.bool t):=⟨aJ k1 (by have:=R.out;simp;omega) O.1,aJ k1 (by have:=R.out;simp;omega) O.2.1,aJ k1 (by have:=R.out;simp;omega) O.2.2.1,aJ k1 (by have:=R.out;simp;omega) O.2.2.2.1,aJ k1 (by have:=R.out;simp;omega) O.2.2.2.2⟩))
      have K1:=(Kept.of_below (S:=[M]) F.out).trans k1;have T2:=HZ.out.2.2.1.kept K1 (by have:=R.out;simp;omega) (by have:=R.out;simp;omega);have R2:=uY HZ.out.2.2.2.1 K1 (by have:=R.out;simp;omega) (by have:=R.out;simp;omega) (by have:=R.out;simp;omega) (λq hq=>by have:=a3.out.1 q hq;simp at this⊢;omega);replace K1:=hid K1;replace R2:=hid R2;have g1:=hid g1;obtain⟨f2,t1,t2,t3⟩:=T2;have cn:B<L.heap.size:=World.block_lt_of_cell? L (a:=⟨B,0,none⟩) q1.2.2.2.1;have d2:=ah (Below.refl L.heap.size L);have cT:=hid (EM L.drew U al f2 gk vk c t (t1.below d2 t1.lt) (t2.below d2 t2.lt) (by have:=R.out;omega) t3 Z ht.out a0);have q2:L.drew.cell? ⟨s,0,none⟩=some (.pointer (some ⟨M,0,none⟩))/\L.drew.cell? ⟨s,1,none⟩=some (.pointer (some ⟨U,0,none⟩))/\L.drew.cell? ⟨s,2,none⟩=some (.pointer (some ⟨Q,0,none⟩))/\L.drew.cell? ⟨B,0,none⟩=some (.int .i64 (c:Nat))/\L.drew.cell? ⟨B,1,none⟩=some (.bool t):=⟨ae d2 q1.1,ae d2 q1.2.1,ae d2 q1.2.2.1,ae d2 q1.2.2.2.1,ae d2 q1.2.2.2.2⟩;have ci:=hid (k1.size)
      clear O k1 t1 t2 t3 cG F d2;go_wp2;go_upto_region 16 with(fail)
      go_region_held3 (λI=>I.cell? ⟨s,0,none⟩=some (.pointer (some ⟨M,0,none⟩))/\I.cell? ⟨s,1,none⟩=some (.pointer (some ⟨U,0,none⟩))/\I.cell? ⟨s,2,none⟩=some (.pointer (some ⟨Q,0,none⟩))/\I.cell? ⟨B,0,none⟩=some (.int .i64 (c:Nat))/\I.cell? ⟨B,1,none⟩=some (.bool t))
       (first
        |exact q2
        |exact q3
        |exact q1)
       (first
        |(go_at_call 58
          refine cT.out.mono ?_;rintro e w3 ⟨rfl,f3,u1,u2,u3,k2⟩;have q3:w3.cell? ⟨s,0,none⟩=some (.pointer (some ⟨M,0,none⟩))/\w3.cell? ⟨s,1,none⟩=some (.pointer (some ⟨U,0,none⟩))/\w3.cell? ⟨s,2,none⟩=some (.pointer (some ⟨Q,0,none⟩))/\w3.cell? ⟨B,0,none⟩=some (.int .i64 (c:Nat))/\w3.cell? ⟨B,1,none⟩=some (.bool t):=⟨aJ k2 (by have:=R.out;simp;omega) q2.1,aJ k2 (by have:=R.out;simp;omega) q2.2.1,aJ k2 (by have:=R.out;simp;omega) q2.2.2.1,aJ k2 (by have:=R.out;simp;omega) q2.2.2.2.1,aJ k2 (by have:=R.out;simp;omega) q2.2.2.2.2⟩))
      have K2:=(Kept.of_below (S:=[U,al]) (ah (Below.refl L.heap.size L))).trans k2;have R3:=uY R2.out K2 (by have:=R.out;simp;omega) (by have:=R.out;simp;omega) (by have:=R.out;simp;omega) (λq hq=>by have:=a3.out.1 q hq;simp at this⊢;omega);have d3:=ah (Below.refl w3.heap.size w3);have cR:=hid (zm w3.drew Q rp rm S' gk vk E' c t (R3.below d3) HZ.out.2.2.2.2.1 Z ht.out a0);have T3:eH w3 U al (bS gk c t) (vk+1):=⟨f3,u1,u2,u3⟩;replace T3:=hid T3;replace K2:=hid K2;have q4:w3.drew.cell? ⟨s,0,none⟩=some (.pointer (some ⟨M,0,none⟩))/\w3.drew.cell? ⟨s,1,none⟩=some (.pointer (some ⟨U,0,none⟩))/\w3.drew.cell? ⟨s,2,none⟩=some (.pointer (some ⟨Q,0,none⟩))/\w3.drew.cell? ⟨B,0,none⟩=some (.int .i64 (c:Nat))/\w3.drew.cell? ⟨B,1,none⟩=some (.bool t):=⟨ae d3 q3.1,ae d3 q3.2.1,ae d3 q3.2.2.1,ae d3 q3.2.2.2.1,ae d3 q3.2.2.2.2⟩
      have nS:s∉rp::rm::S':=by
       have:=R.out;simp only[List.mem_cons,not_or];exact⟨by omega,by omega,λhm=>a3.out.1 s hm (by simp)⟩
      have nB:B∉rp::rm::S':=by
       have:=R.out;simp only[List.mem_cons,not_or];exact⟨by omega,by omega,λhm=>by have:=a3.out.2 B hm;omega⟩
      replace nS:=hid nS;replace nB:=hid nB;clear q1 q2 k2 u1 u2 u3 cT d3 R3;go_upto_region 17 with(fail)
      go_region_held3 (λI=>I.cell? ⟨s,0,none⟩=some (.pointer (some ⟨M,0,none⟩))/\I.cell? ⟨s,1,none⟩=some (.pointer (some ⟨U,0,none⟩))/\I.cell? ⟨s,2,none⟩=some (.pointer (some ⟨Q,0,none⟩))/\I.cell? ⟨B,0,none⟩=some (.int .i64 (c:Nat))/\I.cell? ⟨B,1,none⟩=some (.bool t))
       (first
        |exact q4
        |exact q5
        |exact q3)
       (first
        |(go_at_call 59
          refine cR.out.mono ?_;rintro e w4 ⟨rfl,S4,E4,g3,g4,g5,k3⟩;have q5:w4.cell? ⟨s,0,none⟩=some (.pointer (some ⟨M,0,none⟩))/\w4.cell? ⟨s,1,none⟩=some (.pointer (some ⟨U,0,none⟩))/\w4.cell? ⟨s,2,none⟩=some (.pointer (some ⟨Q,0,none⟩))/\w4.cell? ⟨B,0,none⟩=some (.int .i64 (c:Nat))/\w4.cell? ⟨B,1,none⟩=some (.bool t):=⟨aJ k3 nS.out q4.1,aJ k3 nS.out q4.2.1,aJ k3 nS.out q4.2.2.1,aJ k3 nB.out q4.2.2.2.1,aJ k3 nB.out q4.2.2.2.2⟩))
      have K3:=(Kept.of_below (S:=rp::rm::S') (ah (Below.refl w3.heap.size w3))).trans k3
      have hF:Ac w s M U al Q rp rm S #[.pointer (some ⟨M,0,none⟩),.pointer (some ⟨U,0,none⟩),.pointer (some ⟨Q,0,none⟩),.pointer (some ⟨lb,0,none⟩),.int .i64 (most:Nat)] g v f (j+1) w4:=by
       obtain⟨z1,z2,z3,z4,z5,z6,z7,z8⟩:=HZ.out;obtain⟨e1,e2,e3⟩:=cg.out;refine Ac.next ac.out z1 (by rw[e1,e2,e3];exact z4) z6 z7 z8 (w1:=L) (w2:=w3) (by rw[ap.out,e2,e3];exact g1.out) K1.out (by rw[ap.out,e2,e3];exact T3.out) K2.out (by rw[ap.out,e2,e3];exact g3) (by rw[ap.out];exact g4) g5 K3
      replace hF:=hid hF;clear q3 q4 q5 k3 g1 g3 g4 g5 K1 K2 K3 R2 T3 cR ci;go_wp2;go_roundw
      case rel=>first|exact⟨j+1,by omega,by go_num,by rw[hN.out];go_num,hF.out⟩|((repeat apply Exists.intro);exact⟨⟨j+1,by omega,by go_num,by rw[hN.out];go_num,hF.out⟩,rfl⟩)
      case measure=>simp[intOf];omega
    .obtain rfl:n=j:=by omega
     obtain⟨nk,J⟩:∃z,aP f g n=z:=⟨_,rfl⟩;rw[J];by_cases h0:nk=0
     .have bb:Below w.heap.size w wr:=by
       obtain⟨_,_,_,_,_,_,_,_,_,_,h9⟩:=hI;exact h9 (by rw[J,h0])
      have hF:JN w s g v most T f n (.returned (.tuple #[.int .i64 (0:Nat),.nilIface])) wr:=by
       have e1:aP f g n=0:=by rw[J,h0]
       refine⟨by rw[e1],T,?_,λk hk=>.inl hk,.of_below bb⟩;rw[e1,uT e1];simpa using ce.out.below bb
      replace hF:=hid hF;subst h0;clear hI bb J;go_wp2_with fail;go_ret2;exact hF.out
     .have h1:0<nk:=by omega
      have a9:=hI;obtain⟨S',E',z1,z2,z3,z4,z5,z6,z7,z8,z9⟩:=a9;have a1:wr.cell? ⟨s,2,none⟩=some (.pointer (some ⟨Q,0,none⟩)):=by rw[Lib.cell_of_heap z1];rfl
      have cd:wr.cell? ⟨s,4,none⟩=some (.int .i64 (most:Nat)):=by rw[Lib.cell_of_heap z1];rfl
      have bv:wr.frozen? ⟨s,3,none⟩=false:=Lib.frozen_of_heap z1 3;have cb:wr.cell? ⟨s,3,none⟩=some (.pointer (some ⟨lb,0,none⟩)):=by rw[Lib.cell_of_heap z1];rfl
      have lS:=(Array.getElem?_eq_some_iff.1 z1).1;have d:=ah (Below.refl wr.heap.size wr);have cL:=hid (BQ wr.drew Q rp rm S' (aM f g n) _ E' most (z4.below d) z5 Hm.out.1 Hm.out.2);have HI:=hid hI;have bh:nk<=60:=by have:=qg f g n;omega
      have cl:decide (0<((nk:Nat):Int))=true:=by simp;omega
      replace J:=hid J;have O:wr.drew.cell? ⟨s,2,none⟩=some (.pointer (some ⟨Q,0,none⟩))/\wr.drew.cell? ⟨s,4,none⟩=some (.int .i64 (most:Nat)):=⟨ae d a1,ae d cd⟩;clear hI z1 z2 z3 z4 z5 z6 z7 z8 z9;have cj:=hid (λ(X:World)(u:Value)=>World.cell?_setCell_other (w:=X) (a:=⟨s,3,none⟩) (b:=⟨s,2,none⟩) (v:=u) (by intro e;injection e with e1 e2;omega));have ck:=hid (λ(X:World)(u:Value)=>World.cell?_setCell_other (w:=X) (a:=⟨s,3,none⟩) (b:=⟨s,4,none⟩) (v:=u) (by intro e;injection e with e1 e2;omega));have a2:=hid (And.intro cb bv);go_upto_region 21 with(fail);clear a1 cb cd bv
      go_region_held3 (λI=>I.cell? ⟨s,2,none⟩=some (.pointer (some ⟨Q,0,none⟩))/\I.cell? ⟨s,4,none⟩=some (.int .i64 (most:Nat)))
       (first
        |with_reducible exact O
        |with_reducible exact q1
        |(simp only[cj.out,ck.out];exact q1))
       (first
        |(go_at_call 60
          refine cL.out.mono ?_;rintro e w4 ⟨bl,ml,me,cm,co,rfl,hL,b8,ar⟩;have q1:w4.cell? ⟨s,2,none⟩=some (.pointer (some ⟨Q,0,none⟩))/\w4.cell? ⟨s,4,none⟩=some (.int .i64 (most:Nat)):=⟨ae ar O.1,ae ar O.2⟩;have k3:=ae (aa d ar) a2.out.1;have f3:=(((aa d ar).frozen (p:=⟨s,3,none⟩) lS).trans a2.out.2)))
      have hF:=HI.out.fin bq.out Hm.out.1 Hm.out.2 HT.out hL b8 (aa d ar) rfl;rw[J.out]at hF;replace hF:=hid hF;clear O q1 k3 f3 hL b8 ar cL d;go_wp2;go_ret2;exact hF.out
theorem Eo(w:World):Calls Tryz.prog 26 #[.nilIface] w λe u=>e=.returned (.int .i64 0)/\Below w.heap.size w u:=by
 go_enter Tryz.func26,Tryz.ntmps26;go_wp2_with fail;go_ret;exact⟨rfl,Below.refl _ _⟩
theorem En(w:World)(k:Int):Calls Tryz.prog 26 #[.iface 45 (.int .i64 k)] w λe z=>e=.returned (.int .i64 k)/\Below w.heap.size w z:=by
 have u:=AP k;go_enter Tryz.func26,Tryz.ntmps26;go_wp2_with fail;go_ret;exact⟨rfl,Below.refl _ _⟩
theorem BZ(w:World)(s:Nat)(g:G)(v:Int)(most:Nat)(h:fT w s g v most)(A:Option Addr)(n m:Nat)(f:Nat->Int×Bool)(hE:eZ w A n f)(hn:n<=60)(Q:∃j,j<n/\¬(0<=(f j).1/\(f j).1<(g.n:Nat))):Calls Tryz.prog 24 #[.pointer (some ⟨s,0,none⟩),.slice A n m] w λe L=>e=.returned (.tuple #[.int .i64 0,.iface 45 (.int .i64 1)])/\Below w.heap.size w L:=by
 obtain⟨_,R,pt,rb,rp,rm,lb,lm,le,S,E,Sb,nl,hs,m1,m2,hG,_⟩:=h;have ao:w.cell? ⟨s,0,none⟩=some (.pointer (some ⟨R,0,none⟩)):=by rw[Lib.cell_of_heap hs];rfl
 have HG:=hid hG;have HE:=hid hE;have ab:=hid Q;have aq:=hid ao;clear hs hG hE Q ao m1 m2;go_enter Tryz.func24,Tryz.ntmps24;go_wp2_with fail;go_loopw [21] (λiv wr=>∃(k:Nat),k<=n/\iv=.int .i64 (k:Nat)/\Hid (∀j,j<k->0<=(f j).1/\(f j).1<(g.n:Nat))/\Below w.heap.size w wr) (λiv _=>n-(intOf iv).toNat)
 case atStart=>exact⟨0,Nat.zero_le _,rfl,hid (λj hj=>absurd hj (by omega)),Below.refl _ _⟩
 case round=>
  obtain⟨k,hk,rfl,I,hB⟩:=hrel;by_cases am:k<n
  .obtain⟨ba,o,ac,ar,hc⟩:=HE.out (by omega)
   obtain⟨x1,x2⟩:=hc k am;have al:=λwx=>kD (A:=A) (m:=m) ac am wx;obtain⟨⟨x,t⟩,Z⟩:∃z,f k=z:=⟨_,rfl⟩;have ai:(f k).1=x:=by rw[Z]
   rw[Z]at x1 x2;simp only at x1 x2;obtain⟨ok,an⟩:∃z,o+k*2=z:=⟨_,rfl⟩;rw[an]at x1 x2 al;replace x1:=ae hB x1;replace x2:=ae hB x2;have ap:=hid ai;clear ac ar hc Z an ai;go_upto_region 6 with(fail);refine au ?_;intro W hW;have ad:Below wr.heap.size wr W:=by rw[hW];(repeat' (first|exact Below.refl _ _|assumption|apply aj|apply ah|apply af|(refine aa ?_ (by assumption))))
   obtain⟨b7,U⟩:∃z,wr.heap.size=z:=⟨_,rfl⟩;have e0:W.cell? ⟨b7,0,none⟩=some (.int .i64 x):=by rw[hW,<-U];go_simp
   have T:=aa hB ad;rw[U];clear hW U ad x1 x2 al hB;have F:Below w.heap.size w W.drew:=ah T;have O:W.drew.cell? ⟨s,0,none⟩=some (.pointer (some ⟨R,0,none⟩))/\W.drew.cell? ⟨b7,0,none⟩=some (.int .i64 x):=⟨ae F aq.out,ae (ah (Below.refl _ _)) e0⟩;by_cases J:0<=x/\x<(g.n:Nat)
   .obtain⟨c,rfl⟩:=Int.eq_ofNat_of_zero_le J.1
    have ag:c<g.n:=by omega
    obtain⟨u,hu⟩:∃u,(!g.b c)=u:=⟨_,rfl⟩;have P:=λL(hb:Below w.heap.size w L)=>dC L R g v c (HG.out.below hb HG.out.lt) ag;rw[hu]at P;replace P:=hid P
    have M:Hid (∀j,j<k+1->0<=(f j).1/\(f j).1<(g.n:Nat)):=hid (λj hj=>by
     by_cases e:j=k
     .rw[e,ap.out];exact J
     .exact I.out j (by omega))
    replace J:=hid J;clear I ag hu
    go_region_held3 (λL=>L.cell? ⟨s,0,none⟩=some (.pointer (some ⟨R,0,none⟩))/\L.cell? ⟨b7,0,none⟩=some (.int .i64 (c:Nat)))
     (first
      |exact O)
     (first
      |(go_at_call 52
        refine(P.out _ F).mono ?_;rintro e w2 ⟨rfl,B⟩;have O:w2.cell? ⟨s,0,none⟩=some (.pointer (some ⟨R,0,none⟩))/\w2.cell? ⟨b7,0,none⟩=some (.int .i64 (c:Nat)):=⟨ae B O.1,ae B O.2⟩))
    have HF:=hid (aa F B);clear O B F e0 T P;go_wp2;go_roundw
    case rel=>first|exact⟨k+1,by omega,by go_num,M,HF.out⟩|((repeat apply Exists.intro);exact⟨⟨k+1,by omega,by go_num,M,HF.out⟩,rfl⟩)
    case measure=>simp[intOf];omega
   .have P:=hid (λL(hb:Below w.heap.size w L)=>iR L R g v x (HG.out.below hb HG.out.lt) (by omega))
    replace J:=hid J;clear I
    go_region_held3 (λL=>L.cell? ⟨s,0,none⟩=some (.pointer (some ⟨R,0,none⟩))/\L.cell? ⟨b7,0,none⟩=some (.int .i64 x))
     (first
      |exact O)
     (first
      |(go_at_call 52
        refine(P.out _ F).mono ?_;rintro e w2 ⟨rfl,B⟩;have O:w2.cell? ⟨s,0,none⟩=some (.pointer (some ⟨R,0,none⟩))/\w2.cell? ⟨b7,0,none⟩=some (.int .i64 x):=⟨ae B O.1,ae B O.2⟩))
    have HF:=hid (aa F B);clear O B F e0 T P;go_wp2;go_ret2;exact⟨rfl,HF.out⟩
  .obtain rfl:n=k:=by omega
   obtain⟨j,hj,aw⟩:=ab.out;exact absurd (I.out j hj) aw
def Sm(w:World)(q:Nat)(g:G)(v:Int)(f:Nat->Int×Bool)(n:Nat)(e:Ending)(w':World):Prop:=
 (e=.returned (.tuple #[.int .i64 (aP f g n:Nat),.int .i64 0])/\(∀j,j<n->0<=(f j).1/\(f j).1<(g.n:Nat))/\aB w' q (aM f g n) (v+(aP f g n:Nat))/\Kept [q] w w')\/
 (e=.returned (.tuple #[.int .i64 0,.int .i64 1])/\(∃j,j<n/\¬(0<=(f j).1/\(f j).1<(g.n:Nat)))/\Below w.heap.size w w')
theorem Qs(w:World)(x q:Nat)(g:G)(v:Int)(hR:aB w q g v)(kx:w.cell? ⟨x,0,none⟩=some (.pointer (some ⟨q,0,none⟩)))(aE:x≠q)(A:Option Addr)(n m:Nat)(f:Nat->Int×Bool)(hE:eZ w A n f)(hA:∀ad,A=some ad->ad.block≠q)(hn:n<=60)(hv:0<=v/\v<=1000000):Calls Tryz.prog 25 #[.pointer (some ⟨x,0,none⟩),.slice A n m] w (Sm w q g v f n):=by
 have HR:=hid hR;have HE:=hid hE;have HA:=hid hA;have an:=hid kx;clear hR hE hA kx;go_enter Tryz.func25,Tryz.ntmps25;go_wp2_with fail;go_loopw [6] (λiv wr=>∃(k:Nat),k<=n/\iv=.int .i64 (k:Nat)/\Hid (∀j,j<k->0<=(f j).1/\(f j).1<(g.n:Nat))/\Below w.heap.size w wr) (λiv _=>n-(intOf iv).toNat)
 case atStart=>exact⟨0,Nat.zero_le _,rfl,hid (λj hj=>absurd hj (by omega)),Below.refl _ _⟩
 case round=>
  obtain⟨k,hk,rfl,L,hB⟩:=hrel;by_cases O:k<n
  .obtain⟨P,o,T,ao,hc⟩:=HE.out (by omega)
   obtain⟨x1,x2⟩:=hc k O;have am:=λwx=>kD (A:=A) (m:=m) T O wx;obtain⟨⟨z,t⟩,M⟩:∃z,f k=z:=⟨_,rfl⟩;have aw:(f k).1=z:=by rw[M]
   rw[M]at x1 x2;simp only at x1 x2;obtain⟨ok,al⟩:∃z,o+k*2=z:=⟨_,rfl⟩;rw[al]at x1 x2 am;have ap:=hid aw;have J:Below w.heap.size w wr.drew:=ah hB;have Q:wr.drew.cell? ⟨x,0,none⟩=some (.pointer (some ⟨q,0,none⟩))/\wr.drew.cell? ⟨P,ok,none⟩=some (.int .i64 z):=⟨ae J an.out,ae J x1⟩;replace hB:=hid hB;clear T ao hc M al aw x1 x2;by_cases B:0<=z/\z<(g.n:Nat)
   .obtain⟨c,rfl⟩:=Int.eq_ofNat_of_zero_le B.1
    have ar:c<g.n:=by omega
    have cF:=hid (λI(hb:Below w.heap.size w I)=>vN I q g v c (HR.out.below hb HR.out.lt) ar)
    have ag:Hid (∀j,j<k+1->0<=(f j).1/\(f j).1<(g.n:Nat)):=hid (λj hj=>by
     by_cases e:j=k
     .rw[e,ap.out];exact B
     .exact L.out j (by omega))
    replace B:=hid B;clear L ar;go_upto_region 6 with(fail)
    go_region_held3 (λI=>I.cell? ⟨x,0,none⟩=some (.pointer (some ⟨q,0,none⟩))/\I.cell? ⟨P,ok,none⟩=some (.int .i64 (c:Nat)))
     (first
      |exact Q)
     (first
      |(go_at_call 13
        refine(cF.out _ J).mono ?_;rintro e w2 ⟨rfl,F⟩;have Q:w2.cell? ⟨x,0,none⟩=some (.pointer (some ⟨q,0,none⟩))/\w2.cell? ⟨P,ok,none⟩=some (.int .i64 (c:Nat)):=⟨ae F Q.1,ae F Q.2⟩))
    have HF:=hid (aa J F);clear Q F J cF;go_wp2;go_roundw
    case rel=>first|exact⟨k+1,by omega,by go_num,ag,HF.out⟩|((repeat apply Exists.intro);exact⟨⟨k+1,by omega,by go_num,ag,HF.out⟩,rfl⟩)
    case measure=>simp[intOf];omega
   .have cF:=hid (λI(hb:Below w.heap.size w I)=>uq I q g v z (HR.out.below hb HR.out.lt) (by omega))
    have aq:=hid (show∃j,j<n/\¬(0<=(f j).1/\(f j).1<(g.n:Nat))from⟨k,O,by rw[ap.out];exact B⟩);replace B:=hid B;clear L;go_upto_region 6 with(fail)
    go_region_held3 (λI=>I.cell? ⟨x,0,none⟩=some (.pointer (some ⟨q,0,none⟩))/\I.cell? ⟨P,ok,none⟩=some (.int .i64 z))
     (first
      |exact Q)
     (first
      |(go_at_call 13
        refine(cF.out _ J).mono ?_;rintro e w2 ⟨rfl,F⟩;have Q:w2.cell? ⟨x,0,none⟩=some (.pointer (some ⟨q,0,none⟩))/\w2.cell? ⟨P,ok,none⟩=some (.int .i64 z):=⟨ae F Q.1,ae F Q.2⟩))
    have HF:=hid (aa J F);clear Q F J cF;go_wp2;go_ret2;exact .inr ⟨rfl,aq.out,HF.out⟩
  .obtain rfl:n=k:=by omega
   have a2:=hid (HR.out.below hB HR.out.lt);have HB:=hid hB;clear hB;go_wp2_with fail;obtain⟨wo,rfl⟩:∃wo:World,wo=wr:=⟨_,rfl⟩
   go_loopw [8,9] (λcv iv wx=>∃(j:Nat),j<=n/\iv=.int .i64 (j:Nat)/\cv=.int .i64 (aP f g j:Nat)/\aB wx q (aM f g j) (v+(aP f g j:Nat))/\Kept [q] wo wx) (λ_ iv _=>n-(intOf iv).toNat)
   case atStart=>exact⟨0,Nat.zero_le _,rfl,rfl,by simpa[aM,aP]using a2.out,Kept.refl _ _⟩
   case round=>
    obtain⟨j,hj,rfl,rfl,ac,Z⟩:=hrel;have ay:=qg f g j;by_cases O:j<n
    .obtain⟨P,o,T,ao,hc⟩:=HE.out (by omega)
     obtain⟨x1,x2⟩:=hc j O;have am:=λwx=>kD (A:=A) (m:=m) T O wx;have B:=L.out j O;have ai:=HA.out _ T;simp only at ai;obtain⟨⟨z,t⟩,M⟩:∃z,f j=z:=⟨_,rfl⟩;rw[M]at x1 x2 B;simp only at x1 x2 B;obtain⟨c,rfl⟩:=Int.eq_ofNat_of_zero_le B.1;obtain⟨ok,al⟩:∃z,o+j*2=z:=⟨_,rfl⟩;rw[al]at x1 x2 am;have R:=hid (And.intro (ae HB.out an.out) (And.intro (ae HB.out x1) (And.intro (ae HB.out x2) ai)));have a0:=aJ Z (p:=⟨P,ok,none⟩) (by simp[ai]) (ae HB.out x1);have a1:=aJ Z (p:=⟨P,ok+1,none⟩) (by simp[ai]) (ae HB.out x2);have aS:=aJ Z (p:=⟨x,0,none⟩) (by simp[aE]) (ae HB.out an.out);have hd:=ah (Below.refl wr.heap.size wr);have Q:wr.drew.cell? ⟨x,0,none⟩=some (.pointer (some ⟨q,0,none⟩))/\wr.drew.cell? ⟨P,ok,none⟩=some (.int .i64 (c:Nat))/\wr.drew.cell? ⟨P,ok+1,none⟩=some (.bool t):=⟨ae hd aS,ae hd a0,ae hd a1⟩;have ax:(aM f g j).n=g.n:=uf f g j;have e1:(f j).1.toNat=c:=by rw[M];simp
     have e2:(f j).2=t:=by rw[M]
     have cS:Calls Tryz.prog 16 #[.pointer (some ⟨q,0,none⟩),.int .i64 (c:Nat),.bool t] wr.drew λe I=>∃u,e=.returned (.tuple #[.bool u,.int .i64 0])/\aP f g (j+1)=aP f g j+(if u=true then 1 else 0)/\aB I q (aM f g (j+1)) (v+(aP f g (j+1):Nat))/\Kept [q] wo I:=by
      refine(Ps wr.drew q (aM f g j) _ c t (ac.below hd ac.lt) (by rw[ax];omega) (by omega)).mono ?_;rintro e I ⟨rfl,h2,h3⟩
      have hN:aP f g (j+1)=aP f g j+(if(aM f g j).b c=t then 0 else 1):=by
       show aP f g j+(if(aM f g j).b (f j).1.toNat=(f j).2 then 0 else 1)=_;rw[e1,e2]
      have hG:aM f g (j+1)=bS (aM f g j) c t:=by
       show bS (aM f g j) (f j).1.toNat (f j).2=_;rw[e1,e2]
      refine⟨_,rfl,?_,?_,(Z.trans (.of_below hd)).trans h3⟩
      .rw[hN]
       by_cases hb:(aM f g j).b c=t
       .rw[if_pos hb,if_neg (by simp[hb])]
       .rw[if_neg hb,if_pos (by simpa using hb)]
      .rw[hG,hN,Int.natCast_add,<-Int.add_assoc]
       by_cases hb:(aM f g j).b c=t
       .rw[if_pos hb]at h2⊢;exact h2
       .rw[if_neg hb]at h2⊢;exact h2
     replace cS:=hid cS;obtain⟨nj,S⟩:∃z,aP f g j=z:=⟨_,rfl⟩;have a3:=hid S;rw[S]at ay⊢;clear T ao hc M al B x1 x2 ai aS a0 a1 ac Z ax e1 e2 S;go_upto_region 13 with(fail)
     go_region_held3 (λI=>I.cell? ⟨x,0,none⟩=some (.pointer (some ⟨q,0,none⟩))/\I.cell? ⟨P,ok,none⟩=some (.int .i64 (c:Nat))/\I.cell? ⟨P,ok+1,none⟩=some (.bool t))
      (first
       |exact Q)
      (first
       |(go_at_call 16
         refine cS.out.mono ?_;rintro e w2 ⟨u,rfl,hN,hG,Z⟩;have Q:w2.cell? ⟨x,0,none⟩=some (.pointer (some ⟨q,0,none⟩))/\w2.cell? ⟨P,ok,none⟩=some (.int .i64 (c:Nat))/\w2.cell? ⟨P,ok+1,none⟩=some (.bool t):=⟨aJ Z (by simp[aE]) R.out.1,aJ Z (by simp[R.out.2.2.2]) R.out.2.1,aJ Z (by simp[R.out.2.2.2]) R.out.2.2.1⟩))
     rw[a3.out]at hN;have U:=hid (And.intro hG Z);clear Q hG Z cS hd R am;cases u with
     |true=>
      have ab:=hid (show aP f g (j+1)=nj+1 by rw[hN];simp);clear hN;go_wp2;go_roundw
      case rel=>first|exact⟨j+1,by omega,by go_num,by rw[ab.out];go_num,U.out.1,U.out.2⟩|((repeat apply Exists.intro);exact⟨⟨j+1,by omega,by go_num,by rw[ab.out];go_num,U.out.1,U.out.2⟩,rfl⟩)
      case measure=>simp[intOf];omega
     |false=>
      have ab:=hid (show aP f g (j+1)=nj by rw[hN];simp);clear hN;go_wp2;go_roundw
      case rel=>first|exact⟨j+1,by omega,by go_num,by rw[ab.out],U.out.1,U.out.2⟩|((repeat apply Exists.intro);exact⟨⟨j+1,by omega,by go_num,by rw[ab.out],U.out.1,U.out.2⟩,rfl⟩)
      case measure=>simp[intOf];omega
    .obtain rfl:n=j:=by omega
     have U:Sm w q g v f n (.returned (.tuple #[.int .i64 (aP f g n:Nat),.int .i64 0])) wr:=.inl ⟨rfl,L.out,ac,(Kept.of_below HB.out).trans Z⟩;obtain⟨nj,S⟩:∃z,aP f g n=z:=⟨_,rfl⟩;rw[S]at U⊢;replace U:=hid U;clear ac Z S ay;go_wp2;go_ret2;exact U.out
