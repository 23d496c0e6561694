/- Lemmas of this claim: Reach6, Reach7. -/
import Derived.Test.YtokhnobcincfjaaGreatDoorReach5
set_option linter.unusedVariables false
set_option linter.unusedSimpArgs false
set_option maxHeartbeats 3200000
set_option maxRecDepth 100000
namespace Go.Proofs.YtokhnobcincfjaaGreatDoor
open Go.Lib (hid)
open Go.RowKit Go.Sort FR
variable {g:G}{a b:Nat}
theorem ik{c:Nat}(I:c<g.n):bT g c=true↔g.ak c:=by
 unfold bT G.ak kd;simp only[Bool.and_eq_true,Bool.or_eq_true,Bool.not_eq_true'];constructor
 .rintro⟨F,((⟨⟨k,z⟩,B⟩|⟨⟨k,z⟩,B⟩)|⟨⟨k,z⟩,B⟩)|⟨⟨k,z⟩,B⟩⟩
  .exact⟨I,F,1,-1,by decide,by decide,k,z,B⟩
  .exact⟨I,F,1,1,by decide,by decide,k,z,B⟩
  .exact⟨I,F,-1,1,by decide,by decide,k,z,B⟩
  .exact⟨I,F,-1,-1,by decide,by decide,k,z,B⟩
 .rintro⟨_,F,u,v,rfl|rfl,rfl|rfl,k,z,B⟩
  .exact⟨F,.inl (.inl (.inr ⟨⟨k,z⟩,B⟩))⟩
  .exact⟨F,.inl (.inl (.inl ⟨⟨k,z⟩,B⟩))⟩
  .exact⟨F,.inl (.inr ⟨⟨k,z⟩,B⟩)⟩
  .exact⟨F,.inr ⟨⟨k,z⟩,B⟩⟩
def Ni(g:G)(ca cb:Nat)(k:Int×Int):Prop:=∃p q:Nat,k=((p:Int),(q:Int))/\g.Nk ca cb p q/\g.bE ca cb p q≠ca/\g.bE ca cb p q≠cb/\g.PS ca cb p q/\bT g (g.bE ca cb p q)=true
theorem Bi(z:g.ok)(u:b<g.n)(k:a<g.n){i j:Nat}(B:i<=g.fI a b)(F:j<=g.fJ a b):g.bE a b i j<g.n:=by
 obtain⟨I,J,L,M⟩:=G.Oq z u k B F;unfold G.bE;exact G.mY (by omega) (by omega)
theorem Dz(P:g.ok)(O:b<g.n)(M:a<g.n)(R:g.dz a b)(h:∀k,gQ (g.Nk a b) k->¬Ni g a b k):g.aF a b:=by
 refine⟨R,λk F J L Q=>?_⟩;obtain⟨i,j,z,B,e,I,u⟩:=(G.zP P O M).1 Q;refine h ((i:Int),(j:Int)) ⟨i,j,rfl,z,B,I⟩ ⟨i,j,rfl,⟨z,B,I⟩,?_,?_,⟨z,B,u⟩,?_⟩
 .rw[<-e];exact J
 .rw[<-e];exact L
 .rw[<-e];exact(ik F.1).2 F
theorem Ig(I:g.ok)(F:b<g.n)(B:a<g.n){k:Int×Int}(h:Ni g a b k):¬g.aF a b:=by
 obtain⟨p,q,_,⟨u,z,J⟩,L,M,⟨_,_,O⟩,P⟩:=h;intro Q;exact Q.2 _ ((ik (Bi I F B u z)).1 P) L M ((G.zP I F B).2 ⟨p,q,u,z,rfl,J,O⟩)
theorem cellAt(w:World)(p:Nat)(g:G)(v:Int)(ca k i j:Nat)(h:az w p g v)(u:ca<g.n)(z:k<g.n)(L:i<=g.fI ca k)(M:j<=g.fJ ca k):Calls Tryz.prog 105 #[.pointer (some ⟨p,0,none⟩),.int .i64 (g.fx ca k i j),.int .i64 (g.fy ca k i j)] w λe Q=>e=.returned (.tuple #[.int .i64 (g.bE ca k i j:Nat),.nilIface])/\w=Q:=by
 obtain⟨B,I,F,J⟩:=G.Oq h.1 z u L M;have:=jH w p g v _ _ h B I F J
 have e:g.fy ca k i j*g.w+g.fx ca k i j=(g.bE ca k i j:Nat):=by
  unfold G.bE G.cell;obtain⟨x,O⟩:=Int.eq_ofNat_of_zero_le B;obtain⟨y,P⟩:=Int.eq_ofNat_of_zero_le F;rw[O,P];simp
 rw[e]at this;exact this
def Am(w2:World)(g:G)(ca cb mo r:Nat)(m:Int×Int->Option Value)(wr:World):Prop:=
 ∃left cnt,aO kP wr mo r m left cnt/\(∀k,m k≠none->¬left k->¬Ni g ca cb k)/\Below w2.heap.size w2 wr
theorem Am.next{w2 I O:World}{g:G}{ca J M r u:Nat}{m:Int×Int->Option Value}{left:Int×Int->Prop}{k:Int×Int}(z:aO kP I M r m (λj=>left j/\j≠k) u)(L:∀k,m k≠none->¬left k->¬Ni g ca J k)(S:¬Ni g ca J k)(F:Below w2.heap.size w2 I)(B:Below I.heap.size I O):Am w2 g ca J M r m O/\O.rangeLeft M r=u:=
 ⟨⟨_,u,z.below B,λP Q R=>by
  by_cases e:P=k
  .rw[e];exact S
  .exact L P Q (λh=>R ⟨h,e⟩),F.trans (B.mono F.size)⟩,(z.below B).left_eq⟩
theorem jl(w:World)(p:Nat)(g:G)(v:Int)(ca I:Nat)(t:Bool)(h:az w p g v)(ab:ca<g.n)(ac:I<g.n)(ha:g.b ca=false)(hb:g.b I=false)(ht:t=true↔g.aF ca I):Calls Tryz.prog 142 #[.pointer (some ⟨p,0,none⟩),.int .i64 (ca:Nat),.int .i64 (I:Nat)] w λe w'=>e=.returned (.tuple #[.bool t,.nilIface])/\Below w.heap.size w w':=by
 have cF:=hid (FQ w p g v ca I h ab ac ha hb);have cd:=h.lt;have aS:=h.1;have ck:=G.bR aS;have cN:=hid (λw' h'=>newField w' p g v ca I h' ab ac);have H:=hid h
 obtain⟨t1,bj⟩:∃t1:Bool,t1=true↔g.dz ca I:=by
  by_cases h:g.dz ca I
  .exact⟨true,by simp[h]⟩
  .exact⟨false,by simp[h]⟩
 have a4:t1=true↔gQ (g.Nk ca I) ((g.fI ca I:Nat),(g.fJ ca I:Nat)):=by
  rw[bj,lD,G.Gg aS ac ab];exact⟨λx=>⟨Nat.le_refl _,Nat.le_refl _,x⟩,λx=>x.2.2⟩
 have bb:=hid bj;have a1:=hid a4;have Ht:=hid ht;have ba:=hid aS;clear h aS bj a4 ht;go_enter Tryz.func142,Tryz.ntmps142;go_wp2_with fail;(with_reducible refine cF.out.mono ?_);rintro e w1 ⟨rfl,bd⟩;have H1:=hid (H.out.below bd cd);go_wp2_with fail;(with_reducible refine(cN.out _ H1.out).mono ?_);rintro e w2 ⟨b,mo,mk,rfl,hF,F⟩;have HB:=aa bd F;have cR:=hid (qi w2 b p mo mk g v ca I _ _ t1 hF a1.out);have HF:=hid hF;clear hF bd F H1;go_wp2_with fail;(with_reducible refine cR.out.mono ?_);rintro e w3 ⟨rfl,be⟩;have HB:=aa HB be;have a5:=hid (HF.out.below be);clear HF be cR;cases t1 with
 |false=>
  have et:t=false:=by
   cases t with
   |false=>rfl
   |true=>have:=bb.out.2 (Ht.out.1 rfl).1;simp at this
  subst et;go_wp2;go_ret2;exact⟨rfl,HB⟩
 |true=>
  have ap:g.dz ca I:=bb.out.1 rfl;have a9:=hid ap;obtain⟨_,_,_,_,_,_,_,k7,_⟩:=a5.out.cell;obtain⟨m,n,hM,b3⟩:=a5.out.on;have a8:=hid b3;clear ap b3 bb a1;go_wp2_with (at_range;refine eB rfl _ rfl rQ Tryz.underlying234 hM rfl ?_;intro w4 aq bx ch);go_frame;obtain⟨r,hr⟩:∃z,w3.heap.size=z:=⟨_,rfl⟩
  rw[hr]at aq⊢;have hstart:Am w3 g ca I mo r m w4:=⟨_,n,aq,λk h1 h2=>absurd h1 h2,bx⟩;have cg:w3.heap.size<=r:=by omega
  clear k7 hM ch bx hr aq;go_loopw [] (λwr=>Am w3 g ca I mo r m wr) (λwr=>wr.rangeLeft mo r)
  case atStart=>exact hstart
  case round=>
   obtain⟨left,cnt,bi,b5,hB⟩:=hrel;clear hstart;have an:=hid b5;have hleft:=hid bi.left_eq;clear b5;go_wp2_with (at_next;refine fB rfl _ rfl rQ bi rfl ?_ ?_)
   .intro h0 hl
    have hd:=Dz ba.out ac ab a9.out (λk hk=>an.out k (by
     rcases a8.out k with⟨x,_⟩|⟨_,y⟩
     .rw[x];simp
     .exact absurd hk y) (hl k.1 k.2))
    have et:t=true:=Ht.out.2 hd;clear hl bi hd;subst et;go_wp2;go_ret2;exact⟨rfl,aa HB hB⟩
   .intro kx ky u w5 cj aE b9 a3 ai b1 ci bh
    obtain⟨P,Q,ce,bw⟩:gQ (g.Nk ca I) (kx,ky):=by
     rcases a8.out (kx,ky)with⟨_,x⟩|⟨y,_⟩
     .exact x
     .rw[aE]at y;cases y
    injection ce with e1 e2
    subst e1;subst e2
    have hu:u=.bool true:=by
     rcases a8.out ((P:Int),(Q:Int))with⟨x,_⟩|⟨y,_⟩
     .rw[aE]at x;injection x
     .rw[aE]at y;cases y
    subst hu;have Z:=hid bw;have al:Below w3.heap.size w3 w5:=Kept.below hB b1 hB.size (by simp;exact cg);have ag:=hid a3;have bv:=a5.out.below al;have bo:=hid bv;clear aE b9 a3 b1 ci bw bv;rw[show kP ((P:Int),(Q:Int))=.agg #[.int .i64 (P:Int),.int .i64 (Q:Int)]from rfl];replace bh:(Instr.entry (.pointer (some ⟨r,0,none⟩))).run Tryz.prog w5=.ok (.tuple #[.agg #[.int .i64 (P:Int),.int .i64 (Q:Int)],.bool true]) w5:=bh;go_upto_region 10 with(fail);refine au ?_;intro W6 ay;have a7:Below w5.heap.size w5 W6:=by rw[ay];(repeat' (first|exact Below.refl _ _|assumption|apply aj|apply ah|apply af|(refine aa ?_ (by assumption))))
    have c0:W6.cell? ⟨w5.heap.size,0,none⟩=some (.int .i64 (P:Nat)):=by rw[ay];go_simp
    have c1:W6.cell? ⟨w5.heap.size,1,none⟩=some (.int .i64 (Q:Nat)):=by rw[ay];go_simp
    have a6:=hid (bo.out.below a7);obtain⟨kb,b2⟩:∃z,w5.heap.size=z:=⟨_,rfl⟩;rw[b2]at c0 c1⊢;clear ay bh bo b2;obtain⟨c,hc⟩:∃c,g.bE ca I P Q=c:=⟨_,rfl⟩;have b8:c<g.n:=by rw[<-hc];exact Bi ba.out ac ab Z.out.1 Z.out.2.1
    have cP:=hid (fieldPlace W6 b p mo mk g v ca I _ _ P Q a6.out Z.out.1 Z.out.2.1);have cC:=λw' h'=>cellAt w' p g v ca I P Q h' ab ac Z.out.1 Z.out.2.1;rw[hc]at cC;have cC:=hid cC;have Hc:=hid hc;clear hc;go_wp2_with fail;(with_reducible refine cP.out.mono ?_);rintro e w7 ⟨rfl,ao⟩;have c0:=ae ao c0;have c1:=ae ao c1;have R:=aa a7 ao;have ar:=hid (a6.out.below ao);clear ao cP a6 a7;go_wp2_with fail;(with_reducible refine(cC.out _ ar.out.grid).mono ?_);rintro e w' ⟨rfl,rfl⟩;clear cC;go_upto_region 12 with(fail);have cl:(0:Int)<=(c:Int):=by omega
    obtain⟨_,_,_,_,_,_,_,_,k8⟩:=ar.out.cell;obtain⟨t2,bk,am⟩:=ar.out.bk.look (P:Int) (Q:Int);rw[lD]at bk;have br:=hid bk;clear bk;have am:=λa os=>am _ (below_regrown w7 a os);have aw:=cell_regrown c0;have ax:=cell_regrown c1;have a0:=cell_regrown k8;have HX:=Below.refl w7.heap.size w7;by_cases e1:c=ca
    .have B:¬Ni g ca I ((P:Int),(Q:Int)):=by
      rintro⟨p2,q2,e,_,h1,_⟩;injection e with e3 e4
      obtain rfl:P=p2:=by omega
      obtain rfl:Q=q2:=by omega
      exact h1 (Hc.out.trans e1)
     have B:=hid B;subst e1;refine wp_region_quiet_below (by kernel_rfl) (by kernel_rfl) ?_;repeat (first|go_big_quiet_step (fail)|quiet_step (fail))
     refine wpQuiet_nil ?_;intro _ ad;obtain⟨⟨dq,osq⟩,O⟩:=ad;have T:=aa HX (below_regrown w7 dq osq);have F:=below_regrown w7 dq osq;subst O;generalize grow (redrawn w7 dq) osq=w8 at T F⊢;have S:=aa R T;clear F T HX c0 c1 k8 aw ax a0 am R;have hD:=Am.next ag.out an.out B.out al S;obtain⟨L,M⟩:=hD;have J:=hid L;have U:=hid M;clear L M;go_wp2;go_roundw
     case rel=>first|exact J.out|((repeat apply Exists.intro);exact⟨J.out,rfl⟩)
     case measure=>rw[hleft.out,U.out];exact ai
    .have bc:((c:Int)==(ca:Int))=false:=by rw[beq_eq_false_iff_ne];omega
     by_cases e2:c=I
     .have B:¬Ni g ca I ((P:Int),(Q:Int)):=by
       rintro⟨p2,q2,e,_,_,h1,_⟩;injection e with e3 e4
       obtain rfl:P=p2:=by omega
       obtain rfl:Q=q2:=by omega
       exact h1 (Hc.out.trans e2)
      have B:=hid B;subst e2;refine wp_region_quiet_below (by kernel_rfl) (by kernel_rfl) ?_;repeat (first|go_big_quiet_step (fail)|quiet_step (fail))
      refine wpQuiet_nil ?_;intro _ ad;obtain⟨⟨dq,osq⟩,O⟩:=ad;have T:=aa HX (below_regrown w7 dq osq);have F:=below_regrown w7 dq osq;subst O;generalize grow (redrawn w7 dq) osq=w8 at T F⊢;have S:=aa R T;clear F T HX c0 c1 k8 aw ax a0 am R e1 bc;have hD:=Am.next ag.out an.out B.out al S;obtain⟨L,M⟩:=hD;have J:=hid L;have U:=hid M;clear L M;go_wp2;go_roundw
      case rel=>first|exact J.out|((repeat apply Exists.intro);exact⟨J.out,rfl⟩)
      case measure=>rw[hleft.out,U.out];exact ai
     .have bt:((c:Int)==(I:Int))=false:=by rw[beq_eq_false_iff_ne];omega
      cases t2 with
      |false=>
       have B:¬Ni g ca I ((P:Int),(Q:Int)):=by
        rintro⟨p2,q2,e,_,_,_,h1,_⟩;injection e with e3 e4
        obtain rfl:P=p2:=by omega
        obtain rfl:Q=q2:=by omega
        have:=br.out.2 h1;simp at this
       have B:=hid B;refine wp_region_quiet_below (by kernel_rfl) (by kernel_rfl) ?_;repeat (first|go_big_quiet_step (fail)|quiet_step (fail))
       refine wpQuiet_nil ?_;intro _ ad;obtain⟨⟨dq,osq⟩,O⟩:=ad;have T:=aa HX (below_regrown w7 dq osq);have F:=below_regrown w7 dq osq;subst O;generalize grow (redrawn w7 dq) osq=w8 at T F⊢;have S:=aa R T;clear F T HX c0 c1 k8 aw ax a0 am R e1 bc e2 bt;have hD:=Am.next ag.out an.out B.out al S;obtain⟨L,M⟩:=hD;have J:=hid L;have U:=hid M;clear L M;go_wp2;go_roundw
       case rel=>first|exact J.out|((repeat apply Exists.intro);exact⟨J.out,rfl⟩)
       case measure=>rw[hleft.out,U.out];exact ai
      |true=>
       refine wp_region_quiet_below (by kernel_rfl) (by kernel_rfl) ?_;repeat (first|go_big_quiet_step (fail)|quiet_step (fail))
       refine wpQuiet_nil ?_;intro _ ad;obtain⟨⟨dq,osq⟩,O⟩:=ad;have T:=aa HX (below_regrown w7 dq osq);have F:=below_regrown w7 dq osq;subst O;generalize grow (redrawn w7 dq) osq=w8 at T F⊢;have S:=aa R T;have b7:=hid (ar.out.below T);have bm:=hid (And.intro e1 e2);clear F T HX c0 c1 k8 aw ax a0 am R e1 bc e2 bt;obtain⟨cr,bg⟩:∃z,bT g c=z:=⟨_,rfl⟩;have cI:=λw' h'=>l7 w' p g v c h' b8;rw[bg]at cI;have cI:=hid cI;have bq:=hid bg;clear bg;go_wp2_with fail;(with_reducible refine(cI.out _ b7.out.grid).mono ?_);rintro e w9 ⟨rfl,b0⟩;have bp:=aa S b0;clear b0 S cI;cases cr with
       |true=>
        have a2:Ni g ca I ((P:Int),(Q:Int)):=⟨P,Q,rfl,Z.out,by rw[Hc.out];exact bm.out.1,by rw[Hc.out];exact bm.out.2,br.out.1 (by simp),by rw[Hc.out];exact bq.out⟩;have b4:=Ig ba.out ac ab a2
        have et:t=false:=by
         cases t with
         |false=>rfl
         |true=>exact absurd (Ht.out.1 rfl) b4
        have b6:=aa HB (aa al bp);clear a2 b4;subst et;go_wp2;go_ret2;exact⟨rfl,b6⟩
       |false=>
        have B:¬Ni g ca I ((P:Int),(Q:Int)):=by
         rintro⟨p2,q2,e,_,_,_,_,h1⟩;injection e with e3 e4
         obtain rfl:P=p2:=by omega
         obtain rfl:Q=q2:=by omega
         rw[Hc.out,bq.out]at h1;cases h1
        have B:=hid B;have hD:=Am.next ag.out an.out B.out al bp;obtain⟨L,M⟩:=hD;have J:=hid L;have U:=hid M;clear L M;go_wp2;go_roundw
        case rel=>first|exact J.out|((repeat apply Exists.intro);exact⟨J.out,rfl⟩)
        case measure=>rw[hleft.out,U.out];exact ai
def lU(g:G)(ca cb:Nat)(P:Nat->Nat×Nat)(n:Nat):List Int:=(List.range n).map λk=>((g.bE ca cb (P k).1 (P k).2:Nat):Int)
theorem JF(g:G)(ca k:Nat)(P:Nat->Nat×Nat)(n:Nat):lU g ca k P (n+1)=lU g ca k P n++[((g.bE ca k (P n).1 (P n).2:Nat):Int)]:=by
 simp[lU,List.range_succ]
theorem tK(g:G)(ca k:Nat)(P:Nat->Nat×Nat)(n:Nat):(lU g ca k P n).length=n:=by simp[lU]
theorem aI.mono{w:World}{B B':Nat}{v:Value}{F:List Int}(h:aI w B v F)(I:B'<=B):aI w B' v F:=by
 refine⟨h.1,?_⟩;rcases h.2 with L|⟨g,u,z,rfl,J,k⟩
 .exact .inl L
 .exact .inr ⟨g,u,z,rfl,Nat.le_trans I J,k⟩
def P9(w:World)(g:G)(ca cb:Nat)(e:Ending)(w':World):Prop:=∃P,g.xg ca cb P/\∃v,e=.returned (.tuple #[v,.nilIface])/\aI w' w.heap.size v (lU g ca cb P (g.fI ca cb+g.fJ ca cb+1))/\Below w.heap.size w w'
def QO(w2:World)(g:G)(ca cb:Nat)(P:Nat->Nat×Nat)(n k:Nat)(sl iv jv:Value)(wr:World):Prop:=
 k<=n/\iv=.int .i64 ((P k).1:Nat)/\jv=.int .i64 ((P k).2:Nat)/\aI wr w2.heap.size sl (lU g ca cb P (k+1))/\Below w2.heap.size w2 wr
theorem qO(w:World)(p:Nat)(g:G)(v:Int)(ca B:Nat)(h:az w p g v)(R:ca<g.n)(S:B<g.n)(ha:g.b ca=false)(hb:g.b B=false)(hn:g.dz ca B):Calls Tryz.prog 84 #[.pointer (some ⟨p,0,none⟩),.int .i64 (ca:Nat),.int .i64 (B:Nat)] w (P9 w g ca B):=by
 have cF:=hid (qN w p g v ca B true h R S ha hb (by simp[hn]));have bw:=h.lt;have Z:=h.1;have b7:=G.bR Z;have cN:=hid (λw' h'=>newField w' p g v ca B h' R S);have H:=hid h;obtain⟨P,hP⟩:=G.ES g ca B;have HW:=hid (G.uz Z S R hn hP);have b6:=hid Z;have HP:=hid hP;obtain⟨q1,q2⟩:=G.sQ Z S R;clear h Z hP hn;go_enter Tryz.func84,Tryz.ntmps84;go_wp2_with fail;(with_reducible refine cF.out.mono ?_);rintro e w1 ⟨rfl,a1⟩;go_wp2_with fail;(with_reducible refine(cN.out _ (H.out.below a1 bw)).mono ?_);rintro e O ⟨b,mo,mk,rfl,hF,bg⟩;have ar:=aa a1 bg;have HF:=hid hF;clear hF a1 bg cF cN H;obtain⟨I,hI⟩:∃z,g.fI ca B=z:=⟨_,rfl⟩;obtain⟨J,hJ⟩:∃z,g.fJ ca B=z:=⟨_,rfl⟩;rw[hI]at q1;rw[hJ]at q2;have u:=hid (And.intro hI hJ);clear hI hJ;go_upto_region 8 with(fail);refine au ?_;intro W hW;have a7:Below O.heap.size O W:=by rw[hW];(repeat' (first|exact Below.refl _ _|assumption|apply aj|apply ah|apply af|(refine aa ?_ (by assumption))))
 have hO:aI W O.heap.size (.slice (some ⟨O.heap.size,0,none⟩) 1 1) (lU g ca B P 1):=by
  have e:lU g ca B P 1=[((ca:Nat):Int)]:=by
   unfold lU;simp only[List.range_one,List.map_cons,List.map_nil];rw[HP.out.1,G.kZ]
  rw[e,hW];refine⟨rfl,.inr ⟨O.heap.size,1,#[.int .i64 (ca:Nat)],rfl,Nat.le_refl _,?_,by simp,by decide,rfl,rfl⟩⟩;exact heap_alloc_new O (.cells #[.int .i64 (ca:Nat)] 3 (0,0))
 have aS:=HP.out.1;have e1:(P 0).1=0:=by rw[aS]
 have e2:(P 0).2=0:=by rw[aS]
 have hstart:∃k,QO O g ca B P (I+J) k (.slice (some ⟨O.heap.size,0,none⟩) 1 1) (.int .i64 0) (.int .i64 0) W:=⟨0,Nat.zero_le _,by rw[e1];rfl,by rw[e2];rfl,hO,a7⟩;clear hW a7 hO aS e1 e2;go_wp2_with fail;go_loopw [11,12,13] (λsl iv jv wr=>∃k,QO O g ca B P (I+J) k sl iv jv wr) (λ_ iv jv _=>I+J-((intOf iv).toNat+(intOf jv).toNat))
 case atStart=>exact hstart
 case round=>
  obtain⟨k,hk,rfl,rfl,hO,hB⟩:=hrel;clear hstart;have hw:=HW.out k (by rw[u.out.1,u.out.2];exact hk);rw[u.out.1,u.out.2]at hw;have a4:=HP.out.2 k;obtain⟨⟨i,j⟩,a0⟩:∃z,P k=z:=⟨_,rfl⟩;rw[a0]at hw a4⊢;simp only at hw⊢;obtain⟨b0,b1,b2,bm,bo⟩:=hw;have br:=hid a4;have b5:=hid a0;have b4:=hid (And.intro bm bo);have ad:=hid b2;have Q:=HF.out.below hB;obtain⟨_,_,_,_,_,k5,k6,_,_⟩:=Q.cell;rw[u.out.1]at k5;rw[u.out.2]at k6;have Q:=hid Q;obtain⟨A,mm,rfl,bd⟩:=hO.ints;have a2:=tK g ca B P (k+1);rw[a2]at hO bd⊢;have bq:=hid a2;have HO:=hid hO;clear a4 a0 bm bo hO bd a2;by_cases b3:k<I+J
  .go_upto_region 9 with(fail)
   go_cut [50] (λs wx=>s=.bool true/\wx=wr)
   case first=>
    by_cases hi:i<I
    .have bv:(i:Int)<(I:Int):=by omega
     go_wp2;go_meet
     case rel=>exact⟨rfl,rfl⟩
    .have bv:¬(i:Int)<(I:Int):=by omega
     have b8:(j:Int)<(J:Int):=by have:=ad.out;omega
     go_wp2;go_meet
     case rel=>exact⟨rfl,rfl⟩
   case rest=>
   obtain⟨rfl,rfl⟩:=hcut;clear k5 k6;obtain⟨td,a6⟩:∃t,dB g ca B i j=t:=⟨_,rfl⟩;obtain⟨ts,bj⟩:∃t,sB g ca B i j=t:=⟨_,rfl⟩;have ba:=hid (rG _ b p mo mk g v ca B _ _ i j td ts Q.out (by rw[u.out.1];exact b0) (by rw[u.out.2];exact b1) a6 bj);have a9:=hid a6;clear a6 bj;go_wp2_with fail;(with_reducible refine ba.out.mono ?_);rintro e w4 ⟨rfl,ai⟩;have F:=Q.out.below ai;have aE:=aa hB ai;obtain⟨_,_,_,_,_,_,_,_,k8⟩:=F.cell;obtain⟨t2,an,U⟩:=F.bk.look ((i+1:Nat):Int) (j:Int);have U:=U w4 (Below.refl _ _);rw[lD]at an;rw[show(((i+1:Nat):Int))=(i:Int)+1 by omega]at U;have be:=HO.out.below (B':=0) ai;have aw:=hid be;have F:=hid F;obtain⟨⟨i',j'⟩,ag⟩:∃z,P (k+1)=z:=⟨_,rfl⟩;have a3:=HW.out (k+1) (by rw[u.out.1,u.out.2];omega);rw[u.out.1,u.out.2,ag]at a3;simp only at a3;obtain⟨n1,n2,n3,n4,n5⟩:=a3;have hx:=br.out;rw[ag]at hx
   have aq:(td=true/\t2=true/\i'=i+1/\j'=j)\/((td=false\/t2=false)/\i'=i/\j'=j+1):=by
    rcases hx with⟨x1,x2,x3⟩|⟨x1,x3⟩
    .injection x3 with x3 x4
     exact .inl ⟨by rw[<-a9.out];exact uQ.2 x1,an.2 x2,x3,x4⟩
    .injection x3 with x3 x4
     refine .inr ⟨?_,x3,x4⟩;cases td with
     |false=>exact .inl rfl
     |true=>
      cases t2 with
      |false=>exact .inr rfl
      |true=>exact absurd ⟨uQ.1 a9.out,an.1 rfl⟩ x1
   have L:=hid aq;have ay:=hid ag;clear ai an be ag n4 n5 hx aq ba hB;go_upto_region 11 with(fail);obtain⟨r,hr⟩:∃r,r=(td&&t2):=⟨_,rfl⟩;go_cut [69] (λs wx=>s=.bool r/\wx=w4)
   case first=>
    cases td with
    |false=>
     have a5:r=false:=by rw[hr];rfl
     clear U hr;subst a5;go_wp2;go_meet
     case rel=>exact⟨rfl,rfl⟩
    |true=>
     have a5:r=t2:=by rw[hr];rfl
     clear hr;subst a5;go_wp2;go_meet
     case rel=>exact⟨rfl,rfl⟩
   case rest=>
   obtain⟨rfl,rfl⟩:=hcut
   have ac:(r=true/\i'=i+1/\j'=j)\/(r=false/\i'=i/\j'=j+1):=by
    rcases L.out with⟨rfl,rfl,h1,h2⟩|⟨h0|h0,h1,h2⟩
    .exact .inl ⟨hr,h1,h2⟩
    .exact .inr ⟨by rw[hr,h0];rfl,h1,h2⟩
    .exact .inr ⟨by rw[hr,h0];simp,h1,h2⟩
   have L:=hid ac;clear hr ac U k8;go_upto_if 69 with(fail)
   obtain⟨w4,bk⟩:∃z:World,wc=z:=⟨_,rfl⟩;rw[bk]at aw F aE⊢;clear bk;go_cut [12,13] (λiv jv wx=>iv=.int .i64 (i':Nat)/\jv=.int .i64 (j':Nat)/\wx=w4)
   case first=>
    rcases L.out with⟨rfl,rfl,rfl⟩|⟨rfl,rfl,rfl⟩
    .go_wp2
     go_meet
     case rel=>exact⟨by go_num,rfl,rfl⟩
    .go_wp2
     go_meet
     case rel=>exact⟨rfl,by go_num,rfl⟩
   case rest=>
   obtain⟨rfl,rfl,ao⟩:=hcut;have ao:wc=w4:=ao;rw[ao];clear ao L;have cP:=hid (fieldPlace w4 b p mo mk g v ca B _ _ i' j' F.out (by rw[u.out.1];exact n1) (by rw[u.out.2];exact n2));have cC:=λw' h'=>cellAt w' p g v ca B i' j' h' R S (by rw[u.out.1];exact n1) (by rw[u.out.2];exact n2);obtain⟨c,hc⟩:∃c,g.bE ca B i' j'=c:=⟨_,rfl⟩;rw[hc]at cC;have cC:=hid cC;have ap:lU g ca B P (k+1+1)=lU g ca B P (k+1)++[((c:Nat):Int)]:=by rw[JF,ay.out,hc]
   have a8:=hid ap;have Hc:=hid hc;clear hc ap;go_wp2_with fail;(with_reducible refine cP.out.mono ?_);rintro e w7 ⟨rfl,al⟩;have bp:=hid (F.out.below al);have ax:=hid (aw.out.below (B':=0) al);have bb:=aa aE al;clear al cP F aw aE;go_wp2_with fail;(with_reducible refine(cC.out _ bp.out.grid).mono ?_);rintro e w' ⟨rfl,rfl⟩;clear cC;have bi:(lU g ca B P (k+1)).length<1099511627776:=by rw[bq.out];omega
   have cd:=bb.size;have b9:=ar.size;go_wp2_with (at_builtin;(refine bK _ rfl _ _ rfl O.heap.size _ _ _ rfl (ax.out.alloc _) ⟨w7.heap.size,0,none⟩ rfl (dm _ _ _) bi (by simp;omega) ?_);intro v' w9 ab T)
   have bc:=below_grown (bb.alloc (by omega) _) (by simp;omega) (ax.out.alloc _) T;have M:aI w9 O.heap.size v' (lU g ca B P (k+1+1)):=by rw[a8.out];exact ab
   have am:QO O g ca B P (I+J) (k+1) v' (.int .i64 (i':Nat)) (.int .i64 (j':Nat)) w9:=⟨by omega,by rw[ay.out],by rw[ay.out],M,bc⟩;have am:=hid am;clear ab M T ax bi bc;go_wp2;go_roundw
   case rel=>first|exact⟨k+1,am.out⟩|((repeat apply Exists.intro);exact⟨⟨k+1,am.out⟩,rfl⟩)
   case measure=>have:=ad.out;simp[intOf];omega
  .have bx:i=I/\j=J:=by have:=ad.out;omega
   obtain⟨rfl,rfl⟩:=bx;have bt:k=i+j:=ad.out.symm
   have bh:P9 w g ca B (.returned (.tuple #[.slice A (k+1) mm,.nilIface])) wr:=by
    refine⟨P,HP.out,?_⟩;rw[u.out.1,u.out.2];have hO:=HO.out;rw[bt]at hO⊢;exact⟨_,rfl,hO.mono ar.size,aa ar hB⟩
   clear HO;go_wp2;go_ret2;exact bh
