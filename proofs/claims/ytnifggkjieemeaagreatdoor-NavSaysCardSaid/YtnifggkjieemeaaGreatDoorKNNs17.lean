/- Lemmas of this claim: Reach6, Reach7. -/
import Derived.Test.YtnifggkjieemeaaGreatDoorReach5
set_option linter.unusedVariables false
set_option linter.unusedSimpArgs false
set_option maxHeartbeats 3200000
set_option maxRecDepth 100000
open Go.Proofs.Tryz
namespace Go.Proofs.YtnifggkjieemeaaGreatDoor
open Go.Lib (hid)
open Go.RowKit Go.Sort FR
variable {g:G}{a b:Nat}
theorem fU{c:Nat}(F:c<g.n):aQ g c=true↔g.av c:=by
 unfold aQ G.av kd;simp only[Bool.and_eq_true,Bool.or_eq_true,Bool.not_eq_true'];constructor
 .rintro⟨B,((⟨⟨k,m⟩,z⟩|⟨⟨k,m⟩,z⟩)|⟨⟨k,m⟩,z⟩)|⟨⟨k,m⟩,z⟩⟩
  .exact⟨F,B,1,-1,rD,rD,k,m,z⟩
  .exact⟨F,B,1,1,rD,rD,k,m,z⟩
  .exact⟨F,B,-1,1,rD,rD,k,m,z⟩
  .exact⟨F,B,-1,-1,rD,rD,k,m,z⟩
 .rintro⟨_,B,u,v,rfl|rfl,rfl|rfl,k,m,z⟩
  .exact⟨B,.inl (.inl (.inr ⟨⟨k,m⟩,z⟩))⟩
  .exact⟨B,.inl (.inl (.inl ⟨⟨k,m⟩,z⟩))⟩
  .exact⟨B,.inl (.inr ⟨⟨k,m⟩,z⟩)⟩
  .exact⟨B,.inr ⟨⟨k,m⟩,z⟩⟩
def Ra(g:G)(ca cb:Nat)(k:Int×Int):Prop:=∃p q:Nat,k=((p:Int),(q:Int))/\g.Rc ca cb p q/\g.bR ca cb p q≠ca/\g.bR ca cb p q≠cb/\g.TY ca cb p q/\aQ g (g.bR ca cb p q)=true
theorem Eo(u:g.ok)(m:b<g.n)(k:a<g.n){i j:Nat}(z:i<=g.fI a b)(B:j<=g.fJ a b):g.bR a b i j<g.n:=by
 obtain⟨F,I,J,L⟩:=G.R8 u m k z B;unfold G.bR;exact G.pq om om
theorem GN(O:g.ok)(M:b<g.n)(L:a<g.n)(Q:g.dL a b)(h:∀k,iQ (g.Rc a b) k->¬Ra g a b k):g.aK a b:=by
 refine⟨Q,λk B I J P=>?_⟩;obtain⟨i,j,u,z,e,F,m⟩:=(G.CW O M L).1 P;refine h ((i:Int),(j:Int)) ⟨i,j,rfl,u,z,F⟩ ⟨i,j,rfl,⟨u,z,F⟩,?_,?_,⟨u,z,m⟩,?_⟩
 .rw[<-e];exact I
 .rw[<-e];exact J
 .rw[<-e];exact(fU B.1).2 B
theorem Li(F:g.ok)(B:b<g.n)(z:a<g.n){k:Int×Int}(h:Ra g a b k):¬g.aK a b:=by
 obtain⟨p,q,_,⟨m,u,I⟩,J,L,⟨_,_,M⟩,O⟩:=h;intro P;exact P.2 _ ((fU (Eo F B z m u)).1 O) J L ((G.CW F B z).2 ⟨p,q,m,u,rfl,I,M⟩)
theorem cellAt(w:World)(p:Nat)(g:G)(v:Int)(ca cb i j:Nat)(h:aC w p g v)(k:ca<g.n)(m:cb<g.n)(I:i<=g.fI ca cb)(J:j<=g.fJ ca cb):Calls prog 77 #[vP p,rI (g.fx ca cb i j),rI (g.fy ca cb i j)] w λe O=>e=.returned (.tuple #[rI (g.bR ca cb i j:Nat),.nilIface])/\w=O:=by
 obtain⟨u,B,z,F⟩:=G.R8 h.1 m k I J;have:=kD w p g v _ _ h u B z F
 have e:g.fy ca cb i j*g.w+g.fx ca cb i j=(g.bR ca cb i j:Nat):=by
  unfold G.bR G.cell;obtain⟨x,L⟩:=Zj u;obtain⟨y,M⟩:=Zj z;rw[L,M];simp
 rw[e]at this;exact this
def Du(w2:World)(g:G)(ca cb mo r:Nat)(m:Int×Int->Option Value)(wr:World):Prop:=
 ∃left cnt,aO kP wr mo r m left cnt/\(∀k,m k≠none->¬left k->¬Ra g ca cb k)/\Below w2.heap.size w2 wr
theorem Du.next{w2 I M:World}{ca cb L r u:Nat}{m:Int×Int->Option Value}{left:Int×Int->Prop}{k:Int×Int}(z:aO kP I L r m (λj=>left j/\j≠k) u)(J:∀k,m k≠none->¬left k->¬Ra g ca cb k)(R:¬Ra g ca cb k)(F:Below w2.heap.size w2 I)(B:Below I.heap.size I M):Du w2 g ca cb L r m M/\M.rangeLeft L r=u:=
 ⟨⟨_,u,z.below B,λO P Q=>by
  by_cases e:O=k
  .rw[e];exact R
  .exact J O P (λh=>Q ⟨h,e⟩),F.trans (B.mono F.size)⟩,(z.below B).left_eq⟩
theorem jS(w:World)(p:Nat)(g:G)(v:Int)(ca cb:Nat)(t:Bool)(h:aC w p g v)(T:ca<g.n)(U:cb<g.n)(ha:g.b ca=false)(hb:g.b cb=false)(ht:t=true↔g.aK ca cb):Calls prog 132 #[vP p,rI (ca:Nat),rI (cb:Nat)] w (Rt w (.tuple #[.bool t,.nilIface])):=by
 have cF:=hid (JL w p g v ca cb h T U ha hb);have b6:=h.lt;have aw:=h.1;have ch:=G.bA aw;have cN:=hid (λw' h'=>newField w' p g v ca cb h' T U);have H:=hid h
 obtain⟨t1,bg⟩:∃t1:Bool,t1=true↔g.dL ca cb:=by
  by_cases h:g.dL ca cb
  .exact⟨true,by simp[h]⟩
  .exact⟨false,by simp[h]⟩
 have a0:t1=true↔iQ (g.Rc ca cb) ((g.fI ca cb:Nat),(g.fJ ca cb:Nat)):=by
  rw[bg,nD,G.Ka aw U T];exact⟨λx=>⟨Zi _,Zi _,x⟩,λx=>x.2.2⟩
 have a7:=hid bg;have ay:=hid a0;have Ht:=hid ht;have a6:=hid aw;clear h aw bg a0 ht;go_enter func132,ntmps132;go_wp2_with fail;(with_reducible refine cF.out.mono ?_);rintro e w1 ⟨rfl,a9⟩;have H1:=hid (H.out.below a9 b6);go_wp2_with fail;(with_reducible refine(cN.out _ H1.out).mono ?_);rintro e w2 ⟨b,mo,mk,rfl,hF,L⟩;have HB:=ae a9 L;have cR:=hid (sH w2 b p mo mk g v ca cb _ _ t1 hF ay.out);have HF:=hid hF;clear hF a9 L H1;go_wp2_with fail;(with_reducible refine cR.out.mono ?_);rintro e w3 ⟨rfl,ba⟩;have HB:=ae HB ba;have a1:=hid (HF.out.below ba);clear HF ba cR;cases t1 with
 |false=>
  have et:t=false:=by
   cases t with
   |false=>rfl
   |true=>have:=a7.out.2 (Ht.out.1 rfl).1;simp at this
  subst et;go_wp2;go_ret2;exact⟨rfl,HB⟩
 |true=>
  have ai:g.dL ca cb:=a7.out.1 rfl;have a5:=hid ai;obtain⟨_,_,_,_,_,_,_,k7,_⟩:=a1.out.cell;obtain⟨m,n,hM,bz⟩:=a1.out.on;have a4:=hid bz;clear ai bz a7 ay;go_wp2_with (at_range;refine dY rfl _ rfl uO underlying233 hM rfl ?_;intro w4 al bt b9);go_frame;obtain⟨r,hr⟩:=rX w3.heap.size
  rw[hr]at al⊢;have hstart:Du w3 g ca cb mo r m w4:=⟨_,n,al,λk h1 h2=>absurd h1 h2,bt⟩;have b8:w3.heap.size<=r:=om;clear k7 hM b9 bt hr al;go_loopw [] (λwr=>Du w3 g ca cb mo r m wr) (λwr=>wr.rangeLeft mo r)
  case atStart=>exact hstart
  case round=>
   obtain⟨left,cg,bd,b1,hB⟩:=hrel;clear hstart;have ad:=hid b1;have hleft:=hid bd.left_eq;clear b1;go_wp2_with (at_next;refine fD rfl _ rfl uO bd rfl ?_ ?_)
   .intro h0 hl
    have hd:=GN a6.out U T a5.out (λk hk=>ad.out k (by
     rcases a4.out k with⟨x,_⟩|⟨_,y⟩
     .rw[x];simp
     .exact absurd hk y) (hl k.1 k.2))
    have et:t=true:=Ht.out.2 hd;clear hl bd hd;subst et;go_wp2;go_ret2;exact⟨rfl,ae HB hB⟩
   .intro kx ky u w5 ce ar b5 aS aa bw cd bc
    obtain⟨M,O,b7,bq⟩:iQ (g.Rc ca cb) (kx,ky):=by
     rcases a4.out (kx,ky)with⟨_,x⟩|⟨y,_⟩
     .exact x
     .rw[ar]at y;cases y
    injection b7 with e1 e2
    subst e1;subst e2
    have hu:u=.bool true:=by
     rcases a4.out ((M:Int),(O:Int))with⟨x,_⟩|⟨y,_⟩
     .rw[ar]at x;injection x
     .rw[ar]at y;cases y
    subst hu;have S:=hid bq;have ab:Below w3.heap.size w3 w5:=Kept.below hB bw hB.size (by simp;exact b8);have Z:=hid aS;have bp:=a1.out.below ab;have bj:=hid bp;clear ar b5 aS bw cd bq bp;rw[show kP ((M:Int),(O:Int))=.agg #[rI (M:Int),rI (O:Int)]from rfl];replace bc:(Instr.entry (vP r)).run prog w5=.ok (.tuple #[.agg #[rI (M:Int),rI (O:Int)],.bool true]) w5:=bc;go_upto_region 10 with(fail);refine aB ?_;intro W6 aq;have a3:Below w5.heap.size w5 W6:=by rw[aq];exact be
    have c0:W6.cell? ⟨w5.heap.size,0,none⟩=some (rI (M:Nat)):=by rw[aq];go_simp
    have c1:W6.cell? ⟨w5.heap.size,1,none⟩=some (rI (O:Nat)):=by rw[aq];go_simp
    have a2:=hid (bj.out.below a3);obtain⟨kb,bx⟩:=rX w5.heap.size;rw[bx]at c0 c1⊢;clear aq bc bj bx;obtain⟨c,hc⟩:=rX (g.bR ca cb M O);have b4:c<g.n:=by rw[<-hc];exact Eo a6.out U T S.out.1 S.out.2.1
    have cP:=hid (fieldPlace W6 b p mo mk g v ca cb _ _ M O a2.out S.out.1 S.out.2.1);have cC:=λw' h'=>cellAt w' p g v ca cb M O h' T U S.out.1 S.out.2.1;rw[hc]at cC;have cC:=hid cC;have Hc:=hid hc;clear hc;go_wp2_with fail;(with_reducible refine cP.out.mono ?_);rintro e w7 ⟨rfl,ag⟩;have c0:=af ag c0;have c1:=af ag c1;have P:=ae a3 ag;have am:=hid (a2.out.below ag);clear ag cP a2 a3;go_wp2_with fail;(with_reducible refine(cC.out _ am.out.grid).mono ?_);rintro e w' ⟨rfl,rfl⟩;clear cC;go_upto_region 12 with(fail);have ci:(0:Int)<=(c:Int):=om;obtain⟨_,_,_,_,_,_,_,_,k8⟩:=am.out.cell;obtain⟨t2,bh,ac⟩:=am.out.bk.look (M:Int) (O:Int);rw[nD]at bh;have bm:=hid bh;clear bh;have ac:=λa os=>ac _ (ZC w7 a os);have ao:=ZE c0;have ap:=ZE c1;have ax:=ZE k8;have HX:=Below.refl w7.heap.size w7;by_cases e1:c=ca
    .have B:¬Ra g ca cb ((M:Int),(O:Int)):=by
      rintro⟨p2,q2,e,_,h1,_⟩;injection e with e3 e4
      obtain rfl:M=p2:=om;obtain rfl:O=q2:=om;exact h1 (Hc.out.trans e1)
     have B:=hid B;subst e1;refine qb HX trivial λw8 HY L=>?_;have Q:=ae P HY;clear L HY HX c0 c1 k8 ao ap ax ac P;have hD:=Du.next Z.out ad.out B.out ab Q;obtain⟨I,J⟩:=hD;have F:=hid I;have R:=hid J;clear I J;go_wp2;go_roundw
     case rel=>exact rR F.out
     case measure=>rw[hleft.out,R.out];exact aa
    .have a8:((c:Int)==(ca:Int))=false:=by rw[Zq];omega
     by_cases e2:c=cb
     .have B:¬Ra g ca cb ((M:Int),(O:Int)):=by
       rintro⟨p2,q2,e,_,_,h1,_⟩;injection e with e3 e4
       obtain rfl:M=p2:=om;obtain rfl:O=q2:=om;exact h1 (Hc.out.trans e2)
      have B:=hid B;subst e2;refine qb HX trivial λw8 HY L=>?_;have Q:=ae P HY;clear L HY HX c0 c1 k8 ao ap ax ac P e1 a8;have hD:=Du.next Z.out ad.out B.out ab Q;obtain⟨I,J⟩:=hD;have F:=hid I;have R:=hid J;clear I J;go_wp2;go_roundw
      case rel=>exact rR F.out
      case measure=>rw[hleft.out,R.out];exact aa
     .have bo:((c:Int)==(cb:Int))=false:=by rw[Zq];omega
      cases t2 with
      |false=>
       have B:¬Ra g ca cb ((M:Int),(O:Int)):=by
        rintro⟨p2,q2,e,_,_,_,h1,_⟩;injection e with e3 e4
        obtain rfl:M=p2:=om;obtain rfl:O=q2:=om;have:=bm.out.2 h1;simp at this
       have B:=hid B;refine qb HX trivial λw8 HY L=>?_;have Q:=ae P HY;clear L HY HX c0 c1 k8 ao ap ax ac P e1 a8 e2 bo;have hD:=Du.next Z.out ad.out B.out ab Q;obtain⟨I,J⟩:=hD;have F:=hid I;have R:=hid J;clear I J;go_wp2;go_roundw
       case rel=>exact rR F.out
       case measure=>rw[hleft.out,R.out];exact aa
      |true=>
       refine qb HX trivial λw8 HY L=>?_;have Q:=ae P HY;have b3:=hid (am.out.below HY);have bi:=hid (rN e1 e2);clear L HY HX c0 c1 k8 ao ap ax ac P e1 a8 e2 bo;obtain⟨cr,bb⟩:=rX (aQ g c);have cI:=λw' h'=>oz w' p g v c h' b4;rw[bb]at cI;have cI:=hid cI;have bl:=hid bb;clear bb;go_wp2_with fail;(with_reducible refine(cI.out _ b3.out.grid).mono ?_);rintro e w9 ⟨rfl,bv⟩;have bk:=ae Q bv;clear bv Q cI;cases cr with
       |true=>
        have aE:Ra g ca cb ((M:Int),(O:Int)):=⟨M,O,rfl,S.out,by rw[Hc.out];exact bi.out.1,by rw[Hc.out];exact bi.out.2,bm.out.1 rS,by rw[Hc.out];exact bl.out⟩;have b0:=Li a6.out U T aE
        have et:t=false:=by
         cases t with
         |false=>rfl
         |true=>exact absurd (Ht.out.1 rfl) b0
        have b2:=ae HB (ae ab bk);clear aE b0;subst et;go_wp2;go_ret2;exact⟨rfl,b2⟩
       |false=>
        have B:¬Ra g ca cb ((M:Int),(O:Int)):=by
         rintro⟨p2,q2,e,_,_,_,_,h1⟩;injection e with e3 e4
         obtain rfl:M=p2:=om;obtain rfl:O=q2:=om;rw[Hc.out,bl.out]at h1;cases h1
        have B:=hid B;have hD:=Du.next Z.out ad.out B.out ab bk;obtain⟨I,J⟩:=hD;have F:=hid I;have R:=hid J;clear I J;go_wp2;go_roundw
        case rel=>exact rR F.out
        case measure=>rw[hleft.out,R.out];exact aa
def og(g:G)(ca cb:Nat)(P:Nat->Nat×Nat)(n:Nat):List Int:=(List.range n).map λk=>((g.bR ca cb (P k).1 (P k).2:Nat):Int)
theorem Ni(g:G)(ca cb:Nat)(P:Nat->Nat×Nat)(n:Nat):og g ca cb P (n+1)=og g ca cb P n++[((g.bR ca cb (P n).1 (P n).2:Nat):Int)]:=by
 simp[og,List.range_succ]
theorem xh(g:G)(ca cb:Nat)(P:Nat->Nat×Nat)(n:Nat):(og g ca cb P n).length=n:=by simp[og]
theorem aL.mono{w:World}{B B':Nat}{v:Value}{z:List Int}(h:aL w B v z)(F:B'<=B):aL w B' v z:=by
 refine⟨h.1,?_⟩;rcases h.2 with J|⟨g,m,u,rfl,I,k⟩
 .exact .inl J
 .exact .inr ⟨g,m,u,rfl,Zg F I,k⟩
def Ui(w:World)(g:G)(ca cb:Nat)(e:Ending)(w':World):Prop:=∃P,g.DK ca cb P/\∃v,e=.returned (.tuple #[v,.nilIface])/\aL w' w.heap.size v (og g ca cb P (g.fI ca cb+g.fJ ca cb+1))/\Below w.heap.size w w'
def U8(w2:World)(g:G)(ca cb:Nat)(P:Nat->Nat×Nat)(n k:Nat)(sl iv jv:Value)(wr:World):Prop:=
 k<=n/\iv=rI ((P k).1:Nat)/\jv=rI ((P k).2:Nat)/\aL wr w2.heap.size sl (og g ca cb P (k+1))/\Below w2.heap.size w2 wr
theorem tJ(w:World)(p:Nat)(g:G)(v:Int)(ca cb:Nat)(h:aC w p g v)(O:ca<g.n)(Q:cb<g.n)(ha:g.b ca=false)(hb:g.b cb=false)(hn:g.dL ca cb):Calls prog 88 #[vP p,rI (ca:Nat),rI (cb:Nat)] w (Ui w g ca cb):=by
 have cF:=hid (tH w p g v ca cb true h O Q ha hb (by simp[hn]));have bv:=h.lt;have T:=h.1;have b5:=G.bA T;have cN:=hid (λw' h'=>newField w' p g v ca cb h' O Q);have H:=hid h;obtain⟨P,hP⟩:=G.IZ g ca cb;have HW:=hid (G.xR T Q O hn hP);have b4:=hid T;have HP:=hid hP;obtain⟨q1,q2⟩:=G.wG T Q O;clear h T hP hn;go_enter func88,ntmps88;go_wp2_with fail;(with_reducible refine cF.out.mono ?_);rintro e w1 ⟨rfl,aS⟩;go_wp2_with fail;(with_reducible refine(cN.out _ (H.out.below aS bv)).mono ?_);rintro e L ⟨b,mo,mk,rfl,hF,bd⟩;have ap:=ae aS bd;have HF:=hid hF;clear hF aS bd cF cN H;obtain⟨I,hI⟩:=rX (g.fI ca cb);obtain⟨J,hJ⟩:=rX (g.fJ ca cb);rw[hI]at q1;rw[hJ]at q2;have m:=hid (rN hI hJ);clear hI hJ;go_upto_region 8 with(fail);refine aB ?_;intro W hW;have a5:Below L.heap.size L W:=by rw[hW];exact be
 have hO:aL W L.heap.size (.slice (some ⟨L.heap.size,0,none⟩) 1 1) (og g ca cb P 1):=by
  have e:og g ca cb P 1=[((ca:Nat):Int)]:=by
   unfold og;simp only[List.range_one,List.map_cons,List.map_nil];rw[HP.out.1,G.mV]
  rw[e,hW];refine⟨rfl,.inr ⟨L.heap.size,1,#[rI (ca:Nat)],rfl,Zi _,?_,rS,rD,rfl,rfl⟩⟩;exact heap_alloc_new L (.cells #[rI (ca:Nat)] 3 (0,0))
 have ay:=HP.out.1;have e1:(P 0).1=0:=by rw[ay]
 have e2:(P 0).2=0:=by rw[ay]
 have hstart:∃k,U8 L g ca cb P (I+J) k (.slice (some ⟨L.heap.size,0,none⟩) 1 1) (rI 0) (rI 0) W:=⟨0,Zw _,by rw[e1];rfl,by rw[e2];rfl,hO,a5⟩;clear hW a5 hO ay e1 e2;go_wp2_with fail;go_loopw [11,12,13] (λsl iv jv wr=>∃k,U8 L g ca cb P (I+J) k sl iv jv wr) (λ_ iv jv _=>I+J-((intOf iv).toNat+(intOf jv).toNat))
 case atStart=>exact hstart
 case round=>
  obtain⟨k,hk,rfl,rfl,hO,hB⟩:=hrel;clear hstart;have hw:=HW.out k (by rw[m.out.1,m.out.2];exact hk);rw[m.out.1,m.out.2]at hw;have a2:=HP.out.2 k;obtain⟨⟨i,j⟩,aE⟩:=rX (P k);rw[aE]at hw a2⊢;simp only at hw⊢;obtain⟨bx,bz,b0,bk,bl⟩:=hw;have bp:=hid a2;have b3:=hid aE;have b2:=hid (rN bk bl);have aa:=hid b0;have M:=HF.out.below hB;obtain⟨_,_,_,_,_,k5,k6,_,_⟩:=M.cell;rw[m.out.1]at k5;rw[m.out.2]at k6;have M:=hid M;obtain⟨A,mm,rfl,bb⟩:=hO.ints;have a0:=xh g ca cb P (k+1);rw[a0]at hO bb⊢;have bo:=hid a0;have HO:=hid hO;clear a2 aE bk bl hO bb a0;by_cases b1:k<I+J
  .go_upto_region 9 with(fail)
   go_cut [50] (λs wx=>s=.bool true/\wx=wr)
   case first=>
    by_cases hi:i<I
    .have bt:(i:Int)<(I:Int):=om
     go_wp2;go_meet
     case rel=>exact⟨rfl,rfl⟩
    .have bt:¬(i:Int)<(I:Int):=om
     have b6:(j:Int)<(J:Int):=by have:=aa.out;omega
     go_wp2;go_meet
     case rel=>exact⟨rfl,rfl⟩
   case rest=>
   obtain⟨rfl,rfl⟩:=hcut;clear k5 k6;obtain⟨td,a4⟩:=rX (dB g ca cb i j);obtain⟨ts,bi⟩:=rX (sB g ca cb i j);have a8:=hid (uG _ b p mo mk g v ca cb _ _ i j td ts M.out (by rw[m.out.1];exact bx) (by rw[m.out.2];exact bz) a4 bi);have a7:=hid a4;clear a4 bi;go_wp2_with fail;(with_reducible refine a8.out.mono ?_);rintro e w4 ⟨rfl,ac⟩;have u:=M.out.below ac;have ax:=ae hB ac;obtain⟨_,_,_,_,_,_,_,_,k8⟩:=u.cell;obtain⟨t2,ai,S⟩:=u.bk.look ((i+1:Nat):Int) (j:Int);have S:=S w4 br;rw[nD]at ai;rw[show(((i+1:Nat):Int))=(i:Int)+1 by omega]at S;have bc:=HO.out.below (B':=0) ac;have aq:=hid bc;have u:=hid u;obtain⟨⟨i',j'⟩,ab⟩:=rX (P (k+1));have a1:=HW.out (k+1) (by rw[m.out.1,m.out.2];omega);rw[m.out.1,m.out.2,ab]at a1;simp only at a1;obtain⟨n1,n2,n3,n4,n5⟩:=a1;have hx:=bp.out;rw[ab]at hx
   have ao:(td=true/\t2=true/\i'=i+1/\j'=j)\/((td=false\/t2=false)/\i'=i/\j'=j+1):=by
    rcases hx with⟨x1,x2,x3⟩|⟨x1,x3⟩
    .injection x3 with x3 x4
     exact .inl ⟨by rw[<-a7.out];exact yB.2 x1,ai.2 x2,x3,x4⟩
    .injection x3 with x3 x4
     refine .inr ⟨?_,x3,x4⟩;cases td with
     |false=>exact .inl rfl
     |true=>
      cases t2 with
      |false=>exact .inr rfl
      |true=>exact absurd ⟨yB.1 a7.out,ai.1 rfl⟩ x1
   have B:=hid ao;have aw:=hid ab;clear ac ai bc ab n4 n5 hx ao a8 hB;go_upto_region 11 with(fail);obtain⟨r,hr⟩:∃r,r=(td&&t2):=⟨_,rfl⟩;go_cut [69] (λs wx=>s=.bool r/\wx=w4)
   case first=>
    cases td with
    |false=>
     have a3:r=false:=by rw[hr];rfl
     clear S hr;subst a3;go_wp2;go_meet
     case rel=>exact⟨rfl,rfl⟩
    |true=>
     have a3:r=t2:=by rw[hr];rfl
     clear hr;subst a3;go_wp2;go_meet
     case rel=>exact⟨rfl,rfl⟩
   case rest=>
   obtain⟨rfl,rfl⟩:=hcut
   have Z:(r=true/\i'=i+1/\j'=j)\/(r=false/\i'=i/\j'=j+1):=by
    rcases B.out with⟨rfl,rfl,h1,h2⟩|⟨h0|h0,h1,h2⟩
    .exact .inl ⟨hr,h1,h2⟩
    .exact .inr ⟨by rw[hr,h0];rfl,h1,h2⟩
    .exact .inr ⟨by rw[hr,h0];simp,h1,h2⟩
   have B:=hid Z;clear hr Z S k8;go_upto_if 69 with(fail)
   obtain⟨w4,bj⟩:∃z:World,wc=z:=⟨_,rfl⟩;rw[bj]at aq u ax⊢;clear bj;go_cut [12,13] (λiv jv wx=>iv=rI (i':Nat)/\jv=rI (j':Nat)/\wx=w4)
   case first=>
    rcases B.out with⟨rfl,rfl,rfl⟩|⟨rfl,rfl,rfl⟩
    .go_wp2
     go_meet
     case rel=>exact⟨by go_num,rfl,rfl⟩
    .go_wp2
     go_meet
     case rel=>exact⟨rfl,by go_num,rfl⟩
   case rest=>
   obtain⟨rfl,rfl,al⟩:=hcut;have al:wc=w4:=al;rw[al];clear al B;have cP:=hid (fieldPlace w4 b p mo mk g v ca cb _ _ i' j' u.out (by rw[m.out.1];exact n1) (by rw[m.out.2];exact n2));have cC:=λw' h'=>cellAt w' p g v ca cb i' j' h' O Q (by rw[m.out.1];exact n1) (by rw[m.out.2];exact n2);obtain⟨c,hc⟩:=rX (g.bR ca cb i' j');rw[hc]at cC;have cC:=hid cC;have am:og g ca cb P (k+1+1)=og g ca cb P (k+1)++[((c:Nat):Int)]:=by rw[Ni,aw.out,hc]
   have a6:=hid am;have Hc:=hid hc;clear hc am;go_wp2_with fail;(with_reducible refine cP.out.mono ?_);rintro e w7 ⟨rfl,ad⟩;have bm:=hid (u.out.below ad);have ar:=hid (aq.out.below (B':=0) ad);have a9:=ae ax ad;clear ad cP u aq ax;go_wp2_with fail;(with_reducible refine(cC.out _ bm.out.grid).mono ?_);rintro e w' ⟨rfl,rfl⟩;clear cC;have bh:(og g ca cb P (k+1)).length<1099511627776:=by rw[bo.out];omega
   have b8:=a9.size;have b7:=ap.size;go_wp2_with (at_builtin;(refine bH _ rfl _ _ rfl L.heap.size _ _ _ rfl (ar.out.alloc _) ⟨w7.heap.size,0,none⟩ rfl (dh _ _ _) bh so ?_);intro v' w9 U R)
   have ba:=below_grown (a9.alloc om _) so (ar.out.alloc _) R;have F:aL w9 L.heap.size v' (og g ca cb P (k+1+1)):=by rw[a6.out];exact U
   have ag:U8 L g ca cb P (I+J) (k+1) v' (rI (i':Nat)) (rI (j':Nat)) w9:=⟨om,by rw[aw.out],by rw[aw.out],F,ba⟩;have ag:=hid ag;clear U F R ar bh ba;go_wp2;go_roundw
   case rel=>refine rR ?_;exact⟨k+1,ag.out⟩
   case measure=>have:=aa.out;simp[intOf];omega
  .have bw:i=I/\j=J:=by have:=aa.out;omega
   obtain⟨rfl,rfl⟩:=bw;have bq:k=i+j:=aa.out.symm
   have bg:Ui w g ca cb (.returned (.tuple #[.slice A (k+1) mm,.nilIface])) wr:=by
    refine⟨P,HP.out,?_⟩;rw[m.out.1,m.out.2];have hO:=HO.out;rw[bq]at hO⊢;exact⟨_,rfl,hO.mono ap.size,ae ap hB⟩
   clear HO;go_wp2;go_ret2;exact bg
