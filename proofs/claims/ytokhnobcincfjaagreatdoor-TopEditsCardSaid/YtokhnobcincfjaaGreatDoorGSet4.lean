/- Lemmas of this claim: GSet4. -/
import Derived.Test.YtokhnobcincfjaaGreatDoorKNEd19
set_option linter.unusedVariables false
set_option linter.unusedSimpArgs false
set_option maxHeartbeats 6400000
set_option maxRecDepth 100000
namespace Go.Proofs.YtokhnobcincfjaaGreatDoor
open Go.Lib (hid)
open Go.RowKit Go.Sort FR
variable {bl:List Nat}{w wr:World}
theorem iH.row{b p k:Nat}{S:List Nat}{g g':G}{v:Int}{c:Nat}{u z:Int}{i j:Nat}(h:iH w b p k S g g' v c u z bl i j wr)(P:(aA g').length<=j):iH w b p k S g g' v c u z bl (i+1) (i+2) wr:=by
 obtain⟨F,B,I,J,L,M,O⟩:=h;refine⟨F,B,I,J.congr (λ_=>Iff.rfl) (λa b _ _ _=>?_) (λ_ _=>rfl),L,M,O⟩;unfold lM;rw[KI P a b]
theorem Ints.same{w w':World}{A:Option Addr}{n:Nat}{f:Nat->Int}(h:Ints w A n f)(I:∀g,A=some g->w'.heap[g.block]? =w.heap[g.block]?)(J:w.heap.size<=w'.heap.size):Ints w' A n f:=by
 intro F;obtain⟨g,e,B,u⟩:=h F;refine⟨g,e,Nat.lt_of_lt_of_le B J,λk z=>?_⟩;exact(World.cell?_of_block (a:=g.add k) (by rw[add_block];exact I g e)).trans (u k z)
def kR(w3 wr:World)(bl:List Nat):Prop:=(∀q∈bl,wr.heap[q]? =w3.heap[q]?)/\w3.heap.size<=wr.heap.size
theorem kR.kept{k wr w':World}{bl T:List Nat}(h:kR k wr bl)(B:∀q∈bl,q<k.heap.size)(u:Kept T wr w')(z:∀q∈bl,q∉T):kR k w' bl:=
 ⟨λq g=>(u.block q (Nat.lt_of_lt_of_le (B q g) h.2) (z q g)).trans (h.1 q g),Nat.le_trans h.2 u.size⟩
theorem iH.anew{w wr O P:World}{b p B:Nat}{S F J L:List Nat}{g g':G}{v:Int}{c:Nat}{nx ny:Int}{i j:Nat}{I:Int->Option (List Ed)}(M:i<j)(hj:j<(aA g').length)(U:∀k∈F,k∈S\/w.heap.size<=k)(Z:Kept (p::B::S) w wr)(h5:∀q∈bl,q∉b::p::B::F)(hl:∀q∈bl,q<wr.heap.size)(Q:∀k∈J,k∈F\/wr.heap.size<=k)(R:Kept (B::F) wr O)(b0:aD P b p B L g' v I)(b1:lK g' g'.ak (λx y=>(lM g g' c nx ny i j x y/\¬Pr (cf g' i) (cf g' j) x y)\/(Pr (cf g' i) (cf g' j) x y/\g'.aF x y)) I)(T:∀k∈L,k∈J\/O.heap.size<=k)(b3:Kept (B::J) O P):iH w b p B S g g' v c nx ny bl i (j+1) P:=by
 have m1:=nG Z.size U Q;have k1:=o8 Z R U;have m2:=nG k1.size m1 T;have k2:=o8 k1 b3 m1;refine⟨L,I,b0,b1.congr (λ_=>Iff.rfl) (λx y _ _ _=>Jf M hj x y) (λ_ _=>rfl),m2,k2,λq hq z=>?_⟩;have ab:=hl q hq;have u:=h5 q hq;have hs:=R.size;rcases List.mem_cons.1 z with r|z
 .exact u (by simp[r])
 rcases List.mem_cons.1 z with r|z
 .exact u (by simp[r])
 rcases List.mem_cons.1 z with r|z
 .exact u (by simp[r])
 rcases T q z with r|r
 .rcases Q q r with r|r
  .exact u (by simp[r])
  .omega
 .omega
theorem zm(w:World)(b p T:Nat)(S:List Nat)(g:G)(v:Int)(E:Int->Option (List Ed))(c:Nat)(t:Bool)(h:aD w b p T S g v E)(hS:bI g (λ_ _=>True) E)(hc:c<g.n)(ht:g.b c= !t)(hv:0<=v/\v<=1099511627776):Calls Tryz.prog 59 #[.pointer (some ⟨b,0,none⟩),.int .i64 (c:Nat),.bool t] w (P7 w b p T S (bS g c t) (v+1)):=by
 have hg:=h.2.1;have bh:=hg.1;have cO:=G.bR bh;have aq:w.cell? ⟨b,0,none⟩=some (.pointer (some ⟨p,0,none⟩)):=by simp[World.cell?,h.1]
 have cS:=hid (iw w p g v c t hg hc ht hv);have H:=hid h;have HS:=hid hS;obtain⟨I,ci⟩:∃z,bS g c t=z:=⟨_,rfl⟩;have ar:G.But g I (g.X c) (g.Y c):=by rw[<-ci];exact G.NT hc
 have ba:I.n=g.n:=ar.n;have b0:I.ok:=ar.ok bh;rw[ci]at cS⊢;have L:=hid ar;have ax:=hid (And.intro bh b0);obtain⟨o1,o2,o3,o4⟩:=bh;have xX:=G.jw ax.out.1 c;have yY:=G.iM hc;clear h hS ht hg ci ar b0;go_enter Tryz.func59,Tryz.ntmps59;go_wp2_with fail
 (refine cS.out.mono ?_)
 rintro e w1 ⟨rfl,b7,a6⟩;have cV:b≠p:=H.out.2.2.2.2.2.2.2;have aq:=aJ a6 (by simpa using cV) aq
 have br:aD w1 b p T S I (v+1) E:=by
  obtain⟨g1,g2,g3,g4,g5,g6,g7,g8⟩:=H.out;refine⟨(a6.block b (Array.getElem?_eq_some_iff.1 g1).1 (by simpa using cV)).trans g1,b7,g3.kept a6 (λs hs=>by simp;rintro rfl;exact g5 hs) (by simpa using Ne.symm g7),g4,g5,g6,g7,g8⟩
 have cP:=hid (aU w1 p I (v+1) c b7 (by omega));rw[L.out.X,L.out.Y]at cP;obtain⟨X,hX⟩:∃X:Int,((g.X c:Nat):Int)=X:=⟨_,rfl⟩;obtain⟨Y,hY⟩:∃Y:Int,((g.Y c:Nat):Int)=Y:=⟨_,rfl⟩;have X0:0<=X:=by omega
 have X1:X<=16:=by omega
 have Y0:0<=Y:=by omega
 have Y1:Y<=16:=by omega
 rw[hX,hY]at cP;have HX:=hid hX;have HY:=hid hY;have bp:=hid br;have b4:=hid a6;clear hX hY b7 br a6 cS;go_wp2_with fail;(with_reducible refine cP.out.mono ?_);rintro e w2 ⟨rfl,ay⟩;have dn:=ay.size;have dr:=b4.out.size
 have hstart:oM w b p T S g I (v+1) c (X-1) (Y-1) (.slice none 0 0) w2:=by
  refine⟨S,E,[],bp.out.below ay,HS.out.sp.congr (λz=>?_) (λx y _ _ _=>?_) (λx y=>L.out.bV x y),λk hk=>.inl hk,(b4.out.wid (by simp)).trans (Kept.of_below ay),aI.nil _ _,?_,?_⟩
  .unfold G.PN
   have:=G.uF (g:=g) (c:=c) (z:=z);rw[HX.out,HY.out]at this;exact⟨λhz=>⟨hz.1,.inr ⟨this,hz⟩⟩,λhz=>(hz.2.resolve_left (λq=>this q.1)).2⟩
  .unfold G.PD
   have q1:=G.uF (g:=g) (c:=c) (z:=x);have q2:=G.uF (g:=g) (c:=c) (z:=y);rw[HX.out,HY.out]at q1 q2;exact⟨λhz=>⟨hz.2,λr=>absurd r q1,λr=>absurd r q2⟩,λhz=>⟨trivial,hz.1⟩⟩
  .rw[HX.out,HY.out];simp;omega
  .intro q J;simp[Value.ownBlock]at J
 clear ay aq cP bp b4 dn dr;go_wp2_with fail;obtain⟨wz,rfl⟩:∃wz:World,wz=w2:=⟨_,rfl⟩
 go_loopw [13,14] (λfv cq wr=>∃ny:Int,cq=.int .i64 ny/\Y-1<=ny/\ny<=Y+2/\oM w b p T S g I (v+1) c (X-1) ny fv wr) (λ_ cq _=>(Y+2-intOf cq).toNat)
 case atStart=>exact⟨Y-1,rfl,by omega,by omega,hstart⟩
 case round=>
  obtain⟨ny,rfl,ed,ee,hI⟩:=hrel;have HI:=hid hI;clear hstart hI;by_cases d5:ny<=Y+1
  .have ap:=HI.out
   clear HI;go_wp2_with fail;obtain⟨wo,rfl⟩:∃wo:World,wo=wr:=⟨_,rfl⟩
   go_loopw [13,15] (λfv cp wr=>∃Z:Int,cp=.int .i64 Z/\X-1<=Z/\Z<=X+2/\oM w b p T S g I (v+1) c Z ny fv wr) (λ_ cp _=>(X+2-intOf cp).toNat)
   case atStart=>exact⟨X-1,rfl,by omega,by omega,ap⟩
   case round=>
    obtain⟨Z,rfl,eb,ec,hI⟩:=hrel;have HI:=hid hI;clear ap hI;by_cases d6:Z<=X+1
    .obtain⟨S1,E1,zs,h1,h2,h3,h4,h5,h6,h7⟩:=HI.out
     have aq:wr.cell? ⟨b,0,none⟩=some (.pointer (some ⟨p,0,none⟩)):=by simp[World.cell?,h1.1]
     by_cases bg:0<=Z/\Z<g.w/\0<=ny/\ny<g.h
     .obtain⟨i1,i2,i3,i4⟩:=bg
      obtain⟨k,hk⟩:∃k,g.cell Z.toNat ny.toNat=k:=⟨_,rfl⟩;have ck:(g.X k:Int)=Z:=by rw[<-hk,G.oN (by omega)];omega
      have cl:(g.Y k:Int)=ny:=by rw[<-hk,G.oO (by omega)];omega
      have cj:k<g.n:=by rw[<-hk];exact G.mY (by omega) (by omega)
      have cY:ny*(I.w:Int)+Z=(k:Nat):=by
       rw[L.out.w,<-hk];unfold G.cell;obtain⟨a,ha⟩:∃a:Nat,Z=a:=⟨Z.toNat,by omega⟩;obtain⟨d,hd⟩:∃d:Nat,ny=d:=⟨ny.toNat,by omega⟩;subst ha;subst hd;simp
      have cC:=jH wr p I (v+1) Z ny h1.2.1 i1 (by rw[L.out.w];exact i2) i3 (by rw[L.out.h];exact i4);rw[cY]at cC;have cC:=hid cC;have cT:=hid (Ir wr b p T S1 I (v+1) E1 _ _ k h1 h2 (λz hz=>by rw[ba];exact hz.1) (by rw[ba];exact cj) (λx y bj=>G.NC bj))
      have bb:g.nX c k:=by
       unfold G.nX;rw[HX.out,HY.out,ck,cl];omega
      have ac:=hid (And.intro cj (And.intro ck (And.intro cl bb)));have HH:=hid (And.intro h3 (And.intro h4 (And.intro h5 (And.intro h6 h7))));clear h1 h2 h3 h4 h5 h6 h7 i1 i2 i3 i4 hk ck cl cj cY bb HI;go_wp2_with fail;(with_reducible refine cC.out.mono ?_);rintro e w' ⟨rfl,rfl⟩;go_wp2_with fail
      (refine cT.out.mono ?_)
      rintro e w3 ⟨tt,S2,E2,rfl,t1,t2,t3,t4⟩;obtain⟨r1,r2⟩:=oM.turned ba HH.out.1 HH.out.2.1 HH.out.2.2.1 HH.out.2.2.2.1 HH.out.2.2.2.2 ac.out.1 ac.out.2.1 ac.out.2.2.1 ac.out.2.2.2 t1 t2 t3 t4;have R1:=hid r1;have R2:=hid r2;clear t1 t2 t3 t4 r1 r2 cT cC aq;cases tt with
      |false=>
       clear R2 HH;go_wp2;go_roundw
       case rel=>first|exact⟨Z+1,rfl,by omega,by omega,R1.out⟩|((repeat apply Exists.intro);exact⟨⟨Z+1,rfl,by omega,by omega,R1.out⟩,rfl⟩)
       case measure=>simp[intOf];omega
      |true=>
       clear R1 HH;obtain⟨S3,E3,c9,u1,u2,u3,u4,u5,u6,u7⟩:=R2.out
       have hl:c9.length<1099511627776:=by
        have:=HX.out;have:=HY.out;omega
       have ea:=u4.size;have U:=hid (And.intro u1 (And.intro u2 (And.intro u3 (And.intro u4 (And.intro u5 (And.intro u6 u7))))));clear u1 u2 u3 u4 u6 u7 R2;go_wp2_with (at_builtin;(refine dR _ rfl _ _ rfl w.heap.size _ _ _ rfl (u5.alloc _) ⟨w3.heap.size,0,none⟩ rfl (dm _ _ _) hl (by simp;omega) ?_);intro v' w9 bc M cU)
       have F:oM w b p T S g I (v+1) c (Z+1) ny v' w9:=by
        obtain⟨u1,u2,u3,u4,u5,u6,u7⟩:=U.out;have d4:=M;have aS:Kept (Value.ownBlock _).toList (w3.alloc _) w9:=⟨M.os,M.tape,M.output,M.size,λq J hn=>M.block q J (λe=>hn (by rw[<-e];simp))⟩;have Q:=λo=>af (o:=o) (Below.refl w3.heap.size w3)
        have dj:∀q,q∈b::p::T::S3->q∉(Value.ownBlock _).toList:=λq J O=>by
         rw[Option.mem_toList]at O;exact u7 q O J
        have dg:=(u1.below (Q _)).kept aS dj;refine⟨S3,E3,c9++[((k:Nat):Int)],dg,u2,u3,?_,bc,?_,?_⟩
        .have aE:=λo=>u4.trans (Kept.of_below (S:=p::T::S) (Q o))
         refine⟨aS.os.trans (aE _).os,aS.tape.trans (aE _).tape,aS.output.trans (aE _).output,Nat.le_trans (aE _).size aS.size,λq J hn=>?_⟩;refine(aS.block q (Nat.lt_of_lt_of_le J (aE _).size) ?_).trans ((aE _).block q J hn);intro O;rw[Option.mem_toList]at O;have:=(World.ownsRow.lt u5 q O).1;omega
        .rw[List.length_append];simp;omega
        .intro q J
         rcases cU with e|e
         .rw[e]at J;exact u7 q J
         .rw[e]at J
          injection J with J
          intro O;have cm:=u1.2.2.1.q9;have dt:=u1.2.2.1.lt;have du:=u1.2.1.lt;have ds:=(Array.getElem?_eq_some_iff.1 u1.1).1;simp at J;rcases List.mem_cons.1 O with r|O
          .omega
          rcases List.mem_cons.1 O with r|O
          .omega
          rcases List.mem_cons.1 O with r|O
          .omega
          have:=cm q O;omega
       have F:=hid F;clear bc M cU u5 hl U;go_wp2;go_roundw
       case rel=>first|exact⟨Z+1,rfl,by omega,by omega,F.out⟩|((repeat apply Exists.intro);exact⟨⟨Z+1,rfl,by omega,by omega,F.out⟩,rfl⟩)
       case measure=>simp[intOf];omega
     .have cC:=hid (lh wr p I (v+1) Z ny h1.2.1 (by rw[L.out.w,L.out.h];exact bg))
      have F:=hid (oM.none ax.out.1 HI.out bg);clear h1 h2 h3 h4 h5 h6 h7 HI bg;go_wp2_with fail;(with_reducible refine cC.out.mono ?_);rintro e w' ⟨rfl,rfl⟩;clear cC;go_wp2;go_roundw
      case rel=>first|exact⟨Z+1,rfl,by omega,by omega,F.out⟩|((repeat apply Exists.intro);exact⟨⟨Z+1,rfl,by omega,by omega,F.out⟩,rfl⟩)
      case measure=>simp[intOf];omega
    .have F:=hid (oM.row HI.out (by rw[HX.out];omega))
     rw[HX.out]at F;clear HI;go_wp2;go_roundw
     case rel=>first|exact⟨ny+1,rfl,by omega,by omega,F.out⟩|((repeat apply Exists.intro);exact⟨⟨ny+1,rfl,by omega,by omega,F.out⟩,rfl⟩)
     case measure=>simp[intOf];omega
  .obtain rfl:ny=Y+2:=by omega
   obtain⟨S1,E1,zs,h1,h2,h3,h4,h5,h6,h7⟩:=HI.out;have dT:zs.length<=100:=by have:=HX.out;have:=HY.out;omega
   have cn:lK I I.ak (lM g I c (X-1) (Y+2) 0 (0+1)) E1:=
    h2.congr (λz=>G.QJ L.out (by rw[HY.out]) z) (λx y _ _ _=>⟨λq=>.inr ⟨uR _ _,q⟩,λq=>(q.resolve_left (λr=>uR _ _ r.1)).2⟩) (λ_ _=>rfl)
   obtain⟨Af,mf,rfl,cM⟩:=h5.ints;have cH:∀P,Af=some P->P.block<wr.heap.size:=λP e=>(World.ownsRow.lt h5 P.block (by rw[e];rfl)).2;have cN:=hid (jG wr b p T S1 I (v+1) E1 h1 cn.1);have HH:=hid (And.intro h1 (And.intro cn (And.intro h3 (And.intro h4 h7))));have bd:=hid cM;obtain⟨nf,c5⟩:∃z,zs.length=z:=⟨_,rfl⟩;obtain⟨ff,cW⟩:∃ff:Nat->Int,(λk=>zs.getD k 0)=ff:=⟨_,rfl⟩;rw[c5]at dT bd HH⊢;rw[cW]at bd;clear h1 h2 h3 h4 h5 h6 h7 cn cM HI c5 cW;go_wp2_with fail;(with_reducible refine cN.out.mono ?_);rintro e w3 ⟨A,m,rfl,O,hI,cF,Q⟩;obtain⟨bl,be⟩:∃bl,Af.toList.map (·.block)++A.toList.map (·.block)=bl:=⟨_,rfl⟩;have bv:∀P,A=some P->P.block∈bl:=λP e=>by rw[<-be,e];simp
   have bw:∀P,Af=some P->P.block∈bl:=λP e=>by rw[<-be,e];simp
   have ai:∀q∈bl,q∉b::p::T::S1/\q<w3.heap.size:=by
    intro q J;rw[<-be,List.mem_append]at J;have d9:=Q.size;have gl:=HH.out.1;rcases J with J|J
    .cases Af with
     |none=>simp at J
     |some P=>
      simp at J;subst J;refine⟨HH.out.2.2.2.2 P.block rfl,?_⟩;have:=cH P rfl;omega
    .cases A with
     |none=>simp at J
     |some P=>
      simp at J;subst J;obtain⟨r1,r2⟩:=cF P rfl;refine⟨λO=>?_,r2⟩;have cm:=gl.2.2.1.q9;have dt:=gl.2.2.1.lt;have du:=gl.2.1.lt;have ds:=(Array.getElem?_eq_some_iff.1 gl.1).1;rcases List.mem_cons.1 O with r|O
      .omega
      rcases List.mem_cons.1 O with r|O
      .omega
      rcases List.mem_cons.1 O with r|O
      .omega
      have:=cm _ O;omega
   have d1:=hid ai;have c0:∀q∈bl,q<w3.heap.size:=λq J=>(ai q J).2;have a5:=hid c0;have a4:=hid bv;have ct:=hid bw;have cr:=hid (bd.out.below Q);obtain⟨n,hn⟩:∃n,(aA I).length=n:=⟨_,rfl⟩;have dv:n<=256:=by rw[<-hn];exact eQ ax.out.2
   rw[hn]at O hI⊢;have Hn:=hid hn;have HI:=hid hI
   have hP:iH w b p T S g I (v+1) c (X-1) (Y+2) bl 0 (0+1) w3:=
    ⟨S1,E1,HH.out.1.below Q,HH.out.2.1,HH.out.2.2.1,HH.out.2.2.2.1.trans (Kept.of_below Q),λq J=>(ai q J).1⟩
   have cR:kR w3 w3 bl:=⟨λ_ _=>rfl,Nat.le_refl _⟩;have d0:w.heap.size<=w3.heap.size:=Nat.le_trans HH.out.2.2.2.1.size Q.size;clear HH Q cN ai c0 bv bw be hn hI cF cH bd;go_wp2_with fail;go_loopw [91] (λkv wr=>∃i:Nat,kv=.int .i64 i/\i<=n/\iH w b p T S g I (v+1) c (X-1) (Y+2) bl i (i+1) wr/\kR w3 wr bl) (λkv _=>n-(intOf kv).toNat)
   case atStart=>exact⟨0,rfl,by omega,hP,cR⟩
   case round=>
    obtain⟨i,rfl,hi,a7,ao⟩:=hrel;clear hP cR;have ab:=hid a7;have B:=hid ao;clear a7 ao;by_cases aw:i<n
    .have an:=HI.out.same (λP e=>B.out.1 _ (a4.out P e)) B.out.2
     have am:=Ints.drop HI.out O (show i+1<=n by omega);obtain⟨P,hA⟩:=an.addr (by omega);have b9:=an;rw[hA]at b9;have dq:=λwx=>aX (m:=m) hA aw wx;have hE:=b9.cell (Below.refl _ _) aw;rw[(dS (by rw[Hn.out];exact aw)).1]at hE;obtain⟨x,hx⟩:∃x,cf I i=x:=⟨_,rfl⟩;rw[hx]at hE;have Hx:=hid hx;have b3:=hid am;have dy:IntKind.i64.wrap ((i:Int)+1)=(i:Int)+1:=IntWalk.i64_in _ (by omega);have dk:(0:Int)<=(i:Int)+1:=by omega
     have ay:(i:Int)+1<=(n:Int):=by omega
     have Q:i+1<=n:=by omega
     have a8:i+1<=m:=by omega
     have ch:((i:Int)+1).toNat=i+1:=by omega
     clear an b9 hA hx am;go_upto_region 19 with(fail);go_cut [99,100,101] (λsv lv zv wx=>∃A' m',sv=.slice A' (n-(i+1)) m'/\Ints w3 A' (n-(i+1)) (λt=>(aA I).getD (i+1+t) 0)/\(∀P,A'=some P->P.block∈bl)/\lv=.int .i64 ((n-(i+1):Nat):Int)/\zv=.int .i64 (0:Nat)/\wx=wr)
     case first=>
      by_cases c2:m=i+1
      .have am:=b3.out
       rw[if_pos c2]at am;go_wp2;go_meet
       case rel=>exact⟨_,_,rfl,am,a4.out,rfl,rfl,rfl⟩
      .have am:=b3.out
       rw[if_neg c2]at am;go_wp2;go_meet
       case rel=>
        refine⟨_,_,rfl,by simpa[Addr.add]using am,?_,rfl,rfl,rfl⟩;intro d2 e;cases A with
        |none=>simp at e
        |some a0=>
         simp at e;rw[<-e];exact a4.out a0 rfl
     case rest=>
     obtain⟨A',m',rfl,b8,hA2,rfl,rfl,bi⟩:=hcut;have bi:wc=wr:=bi;rw[bi];obtain⟨r,hr⟩:∃r,n-(i+1)=r:=⟨_,rfl⟩;rw[hr]at b8⊢;have db:=hid b8;have da:=hid hA2;have a1:I.ak x:=by rw[<-Hx.out];exact(dS (by rw[Hn.out];exact aw)).2
     have R:iH w b p T S g I (v+1) c (X-1) (Y+2) bl i (i+1+0) wr/\kR w3 wr bl:=⟨ab.out,B.out⟩;clear bi hE dq b3 b8 hA2 ab B dy dk ay Q a8 ch;obtain⟨w0,c8⟩:∃z:World,wr=z:=⟨_,rfl⟩;rw[c8]at R⊢;clear c8;go_wp2_with fail;obtain⟨wp,rfl⟩:∃wp:World,wp=wr:=⟨_,rfl⟩
     go_loopw [101] (λkv wr=>∃j:Nat,j<=r/\kv=.int .i64 j/\iH w b p T S g I (v+1) c (X-1) (Y+2) bl i (i+1+j) wr/\kR w3 wr bl) (λkv _=>r-(intOf kv).toNat)
     case atStart=>exact⟨0,by omega,rfl,R⟩
     case round=>
      obtain⟨j,hj,rfl,a7,ao⟩:=hrel;clear R;have ab:=hid a7;have B:=hid ao;clear a7 ao;by_cases bx:j<r
      .have an:=db.out.same (λP e=>B.out.1 _ (da.out P e)) B.out.2
       have bt:=cr.out.same (λP e=>B.out.1 _ (ct.out P e)) B.out.2;obtain⟨d3,hA1⟩:=an.addr (by omega);rw[hA1]at an;have cX:=λwx=>aX (m:=m') hA1 bx wx;have b6:=an.cell (Below.refl _ _) bx;have a9:i+1+j<(aA I).length:=by rw[Hn.out];omega
       rw[(dS a9).1]at b6;obtain⟨y,hy⟩:∃y,cf I (i+1+j)=y:=⟨_,rfl⟩;have a2:I.ak y:=by rw[<-hy];exact(dS a9).2
       rw[hy]at b6;have Hy:=hid hy
       have bj:x≠y:=by
        rw[<-Hx.out,<-hy];have:=Fq (g:=I) (show i<i+1+j by omega) a9;omega
       obtain⟨S2,E2,g2,bk,n2,k2,b2⟩:=ab.out;have aq:wr.cell? ⟨b,0,none⟩=some (.pointer (some ⟨p,0,none⟩)):=by simp[World.cell?,g2.1]
       have cB:=hid (zk wr b p I (v+1) (.map (some T)) x y X Y g2.1 g2.2.1 a1.1 a2.1 ⟨by omega,by omega⟩ ⟨by omega,by omega⟩);have cC:=hid (λw'(hb:Below wr.heap.size wr w')z=>zC w' Af nf mf ff z (bt.below hb) (by omega));have d7:(0:Int)<=(j:Int):=by omega
       have d8:(j:Int)<(r:Int):=by omega
       have HG:=hid (And.intro g2 (And.intro bk (And.intro n2 (And.intro k2 b2))));have cw:=hid a9;clear an hA1 hy g2 bk n2 k2 b2 bt a9;go_upto_region 22 with(fail);go_cut [120] (λs wx=>∃u:Bool,s=.bool u/\(u=false->¬I.uC x y X Y)/\Below wr.heap.size wr wx)
       case first=>
        go_wp2_with fail;(with_reducible refine cB.out.mono ?_);rintro e w4 ⟨u1,rfl,c7,a8⟩;have cE:=hid c7;clear c7 cB aq;cases u1 with
        |true=>
         go_wp2;go_meet
         case rel=>exact⟨true,rfl,(λh=>by cases h),a8⟩
        |false=>
         have c6:¬I.uC x y X Y:=λhh=>by have:=cE.out.2 hh;cases this
         have dd:=hid c6;clear c6 cE;go_wp2_with fail;(with_reducible refine(cC.out _ a8 _).mono ?_);rintro e w5 ⟨u2,rfl,ch⟩;have b5:=aa a8 ch;cases u2 with
         |true=>
          go_wp2;go_meet
          case rel=>exact⟨true,rfl,(λh=>by cases h),b5⟩
         |false=>
          go_wp2_with fail;(with_reducible refine(cC.out _ b5 _).mono ?_);rintro e w6 ⟨u3,rfl,dl⟩;have de:=aa b5 dl;go_wp2;go_meet
          case rel=>exact⟨u3,rfl,(λ_=>dd.out),de⟩
       case rest=>
        obtain⟨u,rfl,hu,ag⟩:=hcut;have Hu:=hid hu;have c1:∀q∈bl,q<wr.heap.size:=λq J=>Nat.lt_of_lt_of_le (a5.out q J) B.out.2;have cA:=hid c1;clear b6 cX hu cB cC aq c1;cases u with
        |false=>
         have hF:iH w b p T S g I (v+1) c (X-1) (Y+2) bl i (i+1+(j+1)) wc/\kR w3 wc bl:=by
          obtain⟨q1,q2,q3,q4,q5⟩:=HG.out
          have c4:¬g.uC x y (g.X c) (g.Y c):=by
           rw[HX.out,HY.out]
           exactλhh=>Hu.out rfl ((L.out.TZ x y X Y).2 hh)
          refine⟨⟨S2,E2,q1.below ag,q2.congr (λ_=>Iff.rfl) (λa d _ _ _=>Je (by omega) cw.out (λa d hp=>?_) a d) (λ_ _=>rfl),q3,q4.trans (Kept.of_below ag),q5⟩,B.out.kept a5.out (Kept.of_below (S:=[]) ag) (by simp)⟩;rw[Hx.out,Hy.out]at hp;rcases hp with⟨rfl,rfl⟩|⟨rfl,rfl⟩
          .exact G.JY ax.out.1 L.out (by rw[HY.out]) a1 a2 c4
          .exact G.JY ax.out.1 L.out (by rw[HY.out]) a2 a1 (λhh=>c4 (G.AU.1 hh))
         have HF:=hid hF;clear hF ag HG ab B;go_wp2;go_roundw
         case rel=>first|exact⟨j+1,by omega,by go_num,HF.out⟩|((repeat apply Exists.intro);exact⟨⟨j+1,by omega,by go_num,HF.out⟩,rfl⟩)
         case measure=>simp[intOf];omega
        |true=>
         obtain⟨q1,q2,q3,q4,q5⟩:=HG.out;obtain⟨Lx,cd,_,_,lx,_⟩:=q2.facts cO (λz hz=>by have:=hz.1;rw[ba]at this;exact this) a1;obtain⟨Ly,ce,_,_,ly,_⟩:=q2.facts cO (λz hz=>by have:=hz.1;rw[ba]at this;exact this) a2;have a3:=q1.below ag;have cT:=hid (Br wc S2 b p T E2 (x:Nat) (y:Nat) Lx Ly a3.1 a3.2.2.1 a3.2.2.2.1 a3.2.2.2.2.2.1 cd ce (by omega) (by omega) (by omega));have cv:=hid (q2.cut a1 a2 bj cd ce);have bq:=hid a3;have dc:=hid (q4.trans (Kept.of_below (S:=p::T::S) ag));have cs:=hid (B.out.kept a5.out (Kept.of_below (S:=[]) ag) (by simp));have al:=hid (And.intro q3 q5);have cy:Hid (∀q∈bl,q<wc.heap.size):=hid λq J=>Nat.lt_of_lt_of_le (cA.out q J) ag.size;clear q1 q2 q3 q4 q5 a3 cd ce lx ly ag HG B ab cA;go_wp2_with fail
         (refine cT.out.mono ?_)
         rintro e w4 ⟨rfl,S3,cG,cg,ca⟩;have cI:=bq.out.put cG cg ca;have cL:=hid (D5 w4 b p T S3 I (v+1) _ I.ak _ x y cI cv.out (λz hz=>ig ax.out.2 hz) a1 a2 bj (λhh=>hh.2 (.inl ⟨rfl,rfl⟩)) (λhh=>hh.2 (.inr ⟨rfl,rfl⟩)));have cD:=hid cg;have cx:=hid ca;clear cG cg ca cI cT;go_wp2_with fail
         (refine cL.out.mono ?_)
         rintro e w5 ⟨rfl,S4,E4,cJ,b1,cQ,cb⟩
         have hF:iH w b p T S g I (v+1) c (X-1) (Y+2) bl i (i+1+(j+1)) w5/\kR w3 w5 bl:=by
          have co:lK I I.ak (λbm bo=>(lM g I c (X-1) (Y+2) i (i+1+j) bm bo/\¬Pr (cf I i) (cf I (i+1+j)) bm bo)\/(Pr (cf I i) (cf I (i+1+j)) bm bo/\I.aF bm bo)) E4:=by
           rw[Hx.out,Hy.out];exact b1
          refine⟨iH.anew (i:=i) (j:=i+1+j) (by omega) cw.out al.out.1 dc.out al.out.2 cy.out cD.out cx.out cJ co cQ cb,?_⟩;have h1:=cs.out.kept a5.out cx.out (λq J O=>al.out.2 q J (by rcases List.mem_cons.1 O with r|r<;>simp[r]));refine h1.kept a5.out cb (λq J O=>?_);rcases List.mem_cons.1 O with r|r
          .exact al.out.2 q J (by simp[r])
          .rcases cD.out q r with r|r
           .exact al.out.2 q J (by simp[r])
           .have:=cy.out q J;omega
         have HF:=hid hF;clear hF cJ b1 cQ cb cL cv bq;go_wp2;go_roundw
         case rel=>first|exact⟨j+1,by omega,by go_num,HF.out⟩|((repeat apply Exists.intro);exact⟨⟨j+1,by omega,by go_num,HF.out⟩,rfl⟩)
         case measure=>simp[intOf];omega
      .obtain rfl:j=r:=by omega
       have HF:=hid (And.intro (iH.row ab.out (by rw[Hn.out];omega)) B.out);clear ab B;go_wp2;go_roundw
       case rel=>first|exact⟨i+1,by go_num,by omega,HF.out⟩|((repeat apply Exists.intro);exact⟨⟨i+1,by go_num,by omega,HF.out⟩,rfl⟩)
       case measure=>simp[intOf];omega
    .obtain rfl:i=n:=by omega
     have F:P7 w b p T S I (v+1) (.returned (.tuple #[.bool true,.nilIface])) wr:=by
      obtain⟨S2,E2,g2,bk,n2,k2,_⟩:=ab.out;refine⟨rfl,S2,E2,g2,lK.spec (bk.congr (λ_=>Iff.rfl) (λa d ha hd dx=>?_) (λ_ _=>rfl)),n2,k2⟩;have dp:Dn I i (i+1) a d:=oZ (by rw[Hn.out];omega) ha hd (Ne.symm dx);unfold lM;simp[dp]
     have F:=hid F;clear ab B;go_wp2;go_ret2;exact F.out
