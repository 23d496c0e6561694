/- Lemmas of this claim: Lv8. -/
import Derived.Test.YtokhnobcincfjaaGreatDoorKNEd23
set_option linter.unusedVariables false
set_option linter.unusedSimpArgs false
set_option maxHeartbeats 6400000
set_option maxRecDepth 100000
namespace Go.Proofs.YtokhnobcincfjaaGreatDoor
open Go.Lib (hid)
open Go.RowKit Go.Sort FR Go.Lib
variable {g:G}{top:Int}{E:Int->Option (List Ed)}{V:Int->Option Value}{left:Int×Int->Prop}{M:List (Nat×Nat)}{Sb:List Nat}{N b me ml n nl tp:Nat}{w w':World}
theorem bU.QY{B n k:Nat}{A:Option Addr}{L:List Ed}(h:bU w B (.slice A n k) L):n<=k:=by
 have Q:n=L.length:=by
  obtain⟨I,J,e,_⟩:=h.Ag;injection e
 rcases h.2 with⟨e,P⟩|⟨g,u,z,e,_,_,F,_⟩
 .omega
 .injection e with _ _ O;omega
theorem cz.put{Sb u:List Nat}{E B:Int->Option (List Ed)}(h:cz w b ml me Sb top V nl E)(T:dL w' u me B)(Q:∀k∈u,k∈Sb\/w.heap.size<=k)(R:Kept (me::Sb) w w'):cz w' b ml me u top V nl B:=by
 obtain⟨F,I,Z,J,L,S,O,P⟩:=h;have U:=(Array.getElem?_eq_some_iff.1 F).1;refine⟨(R.block b U (by simp;exact⟨O,J⟩)).trans F,I.kept R (by simp;exact⟨P,L⟩),T,λz=>?_,λz=>?_,S,O,P⟩
 .rcases Q _ z with q|q
  .exact J q
  .omega
 .rcases Q _ z with q|q
  .exact L q
  .have:=I.lt;omega
theorem cz.q9(h:cz w b ml me Sb top V nl E):b<w.heap.size/\ml<w.heap.size/\me<w.heap.size/\∀k∈Sb,k<w.heap.size:=by
 obtain⟨z,B,u,_⟩:=h;refine⟨(Array.getElem?_eq_some_iff.1 z).1,B.lt,u.lt,?_⟩;obtain⟨_,_,_,_,_,_,_,_,F⟩:=u;exact F
theorem cz.lev{b ml me nl k:Nat}{V u:Int->Option Value}(h:cz w b ml me Sb top V nl E)(Q:MapAt iK w' ml u k)(J:Kept [ml] w w'):cz w' b ml me Sb top u k E:=by
 obtain⟨z,S,L,O,B,F,P,I⟩:=h;exact⟨(J.block b (Array.getElem?_eq_some_iff.1 z).1 (by simpa using F)).trans z,Q,L.kept J (λs R=>by simp;rintro rfl;exact B R) (by simpa using Ne.symm I),O,B,F,P,I⟩
def TL(M:List (Nat×Nat))(left:Int×Int->Prop)(a b:Nat):Prop:=(a,b)∈M/\¬left (((a:Nat):Int),((b:Nat):Int))
def QL(W:World)(b ml me mo r nl:Nat)(Sb0:List Nat)(tp:Nat)(g:G)(S:LS)(n:Nat)(M:List (Nat×Nat))(wr:World):Prop:=
 ∃left cnt Sb,aO kP wr mo r (jT S n λa b=>(a,b)∈M) left cnt/\cz wr b ml me Sb (tp:Nat) (bH g (S.part n tp (TL M left))) nl (gK g (S.part n tp (TL M left)))/\(∀k∈Sb,k∈Sb0\/W.heap.size<=k)/\Kept (me::r::Sb0) W wr
theorem J9(S:LS)(n:Nat)(M:List (Nat×Nat))(a b:Nat):¬TL M (λk=>jT S n (λa b=>(a,b)∈M) k≠none) a b:=by
 rintro⟨u,z⟩;apply z;rw[zS u];simp
theorem NI{a b:Nat}(h:(a,b)∈M):(λx y=>TL M left x y\/(x=a/\y=b))=TL M (λk=>left k/\k≠(((a:Nat):Int),((b:Nat):Int))):=by
 funext x y;apply propext;unfold TL;constructor
 .rintro(⟨u,z⟩|⟨rfl,rfl⟩)
  .exact⟨u,λq=>z q.1⟩
  .exact⟨h,λq=>q.2 rfl⟩
 .rintro⟨u,z⟩
  by_cases e:x=a/\y=b
  .exact .inr e
  .refine .inl ⟨u,λq=>z ⟨q,λB=>e ?_⟩⟩
   injection B with F I
   exact⟨by omega,by omega⟩
theorem NH(h:∀k,¬left k)(a b:Nat):TL M left a b↔(a,b)∈M:=⟨λq=>q.1,λq=>⟨q,h _⟩⟩
theorem Kept.fO{T u:List Nat}{a b c:World}(h:Kept u a b)(k:Kept T b c)(F:∀i∈T,i<a.heap.size->i∈u):Kept u a c:=
 ⟨k.os.trans h.os,k.tape.trans h.tape,k.output.trans h.output,Nat.le_trans h.size k.size,λi z B=>(k.block i (Nat.lt_of_lt_of_le z h.size) (λI=>B (F i I z))).trans (h.block i z B)⟩
theorem DJ(w:World)(b:Nat)(x y:Value)(h:w.cell? ⟨b,0,none⟩=some y):(w.setCell ⟨b,0,none⟩ x).cell? ⟨b,0,none⟩=some x:=World.cell?_setCell_same (w:=w) (a:=⟨b,0,none⟩) (v:=x) h
theorem o5(w:World)(b o:Nat)(x y:Value)(k:o≠0)(h:w.cell? ⟨b,o,none⟩=some y):(w.setCell ⟨b,0,none⟩ x).cell? ⟨b,o,none⟩=some y:=(World.cell?_setCell_other (w:=w) (a:=⟨b,0,none⟩) (b:=⟨b,o,none⟩) (v:=x) (by simp;try omega)).trans h
theorem qK{S:LS}{n x:Nat}(B:g.n<=256):∀e∈gz S g.n x,aV e.to_:=λe u=>by
 obtain⟨t,z,k,_⟩:=fw.1 u;rw[k];unfold aV;omega
def Nl(W w:World)(b ml me mn nl:Nat)(Sb0:List Nat)(tp:Nat)(g:G)(R:RS):Prop:=
 ∃Sb c,cz w b ml me Sb (tp:Nat) (bH g R.S) nl (gK g R.S)/\MapAt iK w mn (oz R.near) c/\(∀k∈Sb,k∈Sb0\/W.heap.size<=k)/\Kept (mn::ml::me::Sb0) W w
theorem Nl.below{W w w':World}{b ml me z nl:Nat}{k:List Nat}{R:RS}(h:Nl W w b ml me z nl k tp g R)(u:Below w.heap.size w w'):Nl W w' b ml me z nl k tp g R:=by
 obtain⟨B,c,F,I,J,L⟩:=h;exact⟨B,c,F.below u,I.below u,J,L.trans (.of_below u)⟩
def Db(w:World)(b ml me nl:Nat)(Sb0:List Nat)(tp:Nat)(g:G)(S:LS)(e:Ending)(w':World):Prop:=
 e=.returned (.bool (RS.run g.n tp (av g) S).some_)/\∃Sb,cz w' b ml me Sb (tp:Nat) (bH g (RS.run g.n tp (av g) S).S) nl (gK g (RS.run g.n tp (av g) S).S)/\(∀k∈Sb,k∈Sb0\/w.heap.size<=k)/\Kept (ml::me::Sb0) w w'
theorem Nl.fin{F W w:World}{b ml me L nl:Nat}{z:List Nat}{S:LS}{i:Nat}(h:Nl W w b ml me L nl z tp g (jU g S tp i))(R:(jd g S).length<=i)(u:Below F.heap.size F W)(Z:F.heap.size<=L):Db F b ml me nl z tp g S (.returned (.bool (jU g S tp i).some_)) w:=by
 obtain⟨O,c,P,U,Q,B⟩:=h;rw[RH R]at*;refine⟨rfl,O,P,λk I=>(Q k I).imp_right (λq=>Nat.le_trans u.size q),⟨B.os.trans u.os,B.tape.trans u.tape,B.output.trans u.output,Nat.le_trans u.size B.size,λk I T=>?_⟩⟩;refine(B.block k (Nat.lt_of_lt_of_le I u.size) ?_).trans (u.block k I);intro J;rcases List.mem_cons.1 J with e|e
 .omega
 .exact T e
theorem yH{R:RS}(h:R.near n=true):RS.step N tp R n=R:=by unfold RS.step;rw[if_pos (.inr h)]
theorem yG{R:RS}(h:(R.S.nb N n).length<(R.S.more N n).length):RS.step N tp R n=R:=by
 unfold RS.step;split
 .rfl
 .first|rfl|rw[if_pos h]
theorem Jy{R:RS}(k:R.S.lev n=0)(u:R.near n=false)(z:¬(R.S.nb N n).length<(R.S.more N n).length):RS.step N tp R n=⟨R.S.pass N n tp,λt=>R.near t||decide (t∈R.S.nb N n),true⟩:=by
 unfold RS.step;rw[if_neg (by rw[k,u];simp),if_neg z]
theorem SH(w:World):(zeroValue 4).run Tryz.prog w=.ok (.bool false) w:=by kernel_rfl
theorem OQ(w:World)(b L me nl:Nat)(M:List Nat)(tp K:Nat)(g:G)(S:LS)(cM:g.ok)(H:LS.Inv g g.n tp K S (λ_=>false))(hK:K<=1000)(h:cz w b L me M (tp:Nat) (bH g S) nl (gK g S)):Calls Tryz.prog 111 #[.pointer (some ⟨b,0,none⟩)] w (Db w b L me nl M tp g S):=by
 have hn:=G.bR cM;have ep:=@run_makeMap Tryz.prog;have bt:=hid h;have ei:=hid cM;have b8:=hid (And.intro H hK);have Hn:=hid hn;clear h cM H hK hn;go_enter Tryz.func111,Tryz.ntmps111;go_upto_region 3 with(fail);refine au ?_;intro W1 b4;have bv:Below w.heap.size w W1:=by rw[b4];(repeat' (first|exact Below.refl _ _|assumption|apply aj|apply ah|apply af|(refine aa ?_ (by assumption))))
 have ct:MapAt iK W1 w.heap.size (λ_=>none) 0:=by rw[b4];exact MapAt.made w
 have es:W1.heap.size=w.heap.size+1:=by rw[b4];simp
 obtain⟨mn,er⟩:∃mn,w.heap.size=mn:=⟨_,rfl⟩;rw[er]at ct⊢;have cL:=hid (Rt W1 b L me nl M (tp:Nat) (bH g S) (vv g S) (gK g S) ((jd g S).map λn:Nat=>(n:Int)) (bt.out.below bv) LD (zF g S) IZ (λz hz=>by obtain⟨n,rfl,hc⟩:=qB.1 hz;have:=hc.1;have:=Hn.out;omega));clear b4 ep;go_wp2_with fail;(with_reducible refine cL.out.mono ?_);rintro e w2 ⟨A,m,rfl,eo,hI,hA,bk⟩;have dc:Nl w2 w2 b L me mn nl M tp g (jU g S tp 0):=⟨M,0,bt.out.below (aa bv bk),by show MapAt iK w2 mn (oz λ_=>false) 0;rw[Em];exact ct.below bk,λk B=>.inl B,Kept.refl _ _⟩;obtain⟨cnt,a0⟩:∃c,(jd g S).length=c:=⟨_,rfl⟩;rw[List.length_map,a0]at hI eo⊢;have dp:cnt<=256:=by rw[<-a0];exact Nat.le_trans (IL S) Hn.out
 have cX:∀ad,A=some ad->ad.block∉mn::L::me::M:=λad e I=>by
  have:=(hA ad e).1;obtain⟨q1,q2,q3,q4⟩:=bt.out.q9;rcases List.mem_cons.1 I with r|I
  .omega
  rcases List.mem_cons.1 I with r|I
  .omega
  rcases List.mem_cons.1 I with r|I
  .omega
  have:=q4 _ I;omega
 have ed:=hid cX;have HI:=hid hI;have b9:=hid a0;have ee:=aa bv bk;have d3:mn<w2.heap.size:=by have:=bk.size;omega
 clear hI hA bk ct cL a0 cX es bv;go_wp2_with fail;obtain⟨wz,rfl⟩:∃wz:World,wz=w2:=⟨_,rfl⟩
 go_loopw [4,17] (λsv kv wr=>∃i:Nat,kv=.int .i64 i/\i<=cnt/\sv=.bool (jU g S tp i).some_/\Nl wz wr b L me mn nl M tp g (jU g S tp i)) (λ_ kv _=>cnt-(intOf kv).toNat)
 case atStart=>exact⟨0,rfl,by omega,rfl,dc⟩
 case round=>
  obtain⟨i,rfl,hi,rfl,hS⟩:=hrel;have HS:=hid hS;clear dc hS;obtain⟨wo,rfl⟩:∃wo:World,wo=wr:=⟨_,rfl⟩;by_cases cH:i<cnt
  .obtain⟨n,hn⟩:∃n,(jd g S)[i]? =some n:=⟨_,List.getElem?_eq_getElem (by rw[b9.out];exact cH)⟩
   have dq:((jd g S).map λn:Nat=>(n:Int)).getD i 0=(n:Nat):=by
    rw[List.getD_eq_getElem?_getD,List.getElem?_map,hn];rfl
   obtain⟨Sb,c,hL,hN,cy,hK⟩:=HS.out;have b0:=HI.out.kept hK ed.out;obtain⟨ad,hA⟩:=b0.addr (by omega);rw[hA]at b0;have eL:=λwx=>aX (m:=m) hA cH wx;have hE:=b0.cell (Below.refl _ _) cH;rw[dq]at hE;have aE:=Pv (tp:=tp) hn;obtain⟨h0,dn⟩:=RJ (tp:=tp) hn;have bd:=RI b8.out.1 i;obtain⟨R,hR⟩:∃R,jU g S tp i=R:=⟨_,rfl⟩;rw[hR]at hL hN aE h0 bd HS⊢;obtain⟨sm,cO⟩:∃s,R.some_=s:=⟨_,rfl⟩;rw[cO]
   have d7:∀w',Below wo.heap.size wo w'->(Instr.lookup 244 (.map (some mn)) (.int .i64 (n:Nat)) false).run Tryz.prog w'=.ok (.bool (R.near n)) w':=λw' hb=>by
    have:=((hN.below hb).look (aG Tryz.underlying3) Tryz.underlying244 (SH w') ((n:Nat):Int)).2;rw[LY]at this;exact this
   have cm:=d7 wo (Below.refl _ _);obtain⟨nr,cJ⟩:∃s,R.near n=s:=⟨_,rfl⟩;rw[cJ]at cm;have HR:=hid (And.intro aE (And.intro h0 (And.intro dn (And.intro bd (And.intro cO cJ)))));clear hn dq hA aE h0 dn bd hR cO cJ d7 hK b0;cases nr with
   |true=>
    have hF:Nl wz wo b L me mn nl M tp g (jU g S tp (i+1)):=by rw[HR.out.1,yH HR.out.2.2.2.2.2];exact HS.out
    have Q:sm=(jU g S tp (i+1)).some_:=by rw[HR.out.1,yH HR.out.2.2.2.2.2,HR.out.2.2.2.2.1]
    have HF:=hid (And.intro Q hF);clear hF Q hL hN cy HS;go_wp2;go_roundw
    case rel=>exact⟨i+1,by go_num,by omega,by rw[HF.out.1],HF.out.2⟩
    case measure=>simp[intOf];omega
   |false=>
    have cE:=hid (F5 wo b L me nl Sb (tp:Nat) (bH g R.S) (vv g R.S) (gK g R.S) (n:Nat) (gz R.S g.n n) hL (Qm g R.S) (ja HR.out.2.2.1) (by have:=fq R.S g.n n;have:=Hn.out;omega));have bm:=OA HR.out.2.2.2.1;have co:=OB HR.out.2.2.2.1 b8.out.2;rw[Bn bm]at cE;have HL:=hid (And.intro hL (And.intro hN (And.intro bm (And.intro co cy))));clear hL hN cy bm co;go_wp2_with fail;(with_reducible refine cE.out.mono ?_);rintro e w3 ⟨vE,rfl,b3,a9⟩;obtain⟨A1,m1,rfl,cp⟩:=b3.Ag;have d2:=b3.QY;have hA1:∀ad,A1=some ad->wo.heap.size<=ad.block:=λad e=>(World.ownsRow.lt b3 ad.block (by rw[e];rfl)).1;obtain⟨nE,b7⟩:∃z,(uX R.S g.n n).length=z:=⟨_,rfl⟩;rw[b7]at d2⊢;have ec:nE<=256:=by have:=zG R.S g.n n;have:=Hn.out;omega
    have cN:=hid (zK w3 b L me nl Sb (tp:Nat) g R.S ei.out HL.out.2.2.1 HL.out.2.2.2.1 n HR.out.2.1 (HL.out.1.below a9) A1 nE m1 cp b7 d2);have cQ:=hid cp;have bx:=hid b7;clear cp b3 b7 cm hE cE;go_wp2_with fail;(with_reducible refine cN.out.mono ?_);rintro e w4 ⟨mo,rfl,hM,eN,cA⟩;have dx:=hM.len (P:=Tryz.prog) (mt:=268) Tryz.underlying268 3;have ac:=aa a9 cA;obtain⟨ln,cF⟩:∃z,(R.S.more g.n n).length=z:=⟨_,rfl⟩;rw[cF]at dx hM;have cV:=hid cF;by_cases bo:nE<ln
    .have ba:(R.S.nb g.n n).length<(R.S.more g.n n).length:=by rw[<-ug,bx.out,cV.out];exact bo
     have hF:Nl wz w4 b L me mn nl M tp g (jU g S tp (i+1)):=by rw[HR.out.1,yG ba];exact HS.out.below ac
     have Q:sm=(jU g S tp (i+1)).some_:=by rw[HR.out.1,yG ba,HR.out.2.2.2.2.1]
     have HF:=hid (And.intro Q hF);clear hF Q ba hM ac a9 cA cN HS HL;go_wp2;go_roundw
     case rel=>exact⟨i+1,by go_num,by omega,by rw[HF.out.1],HF.out.2⟩
     case measure=>simp[intOf];omega
    .have ba:¬(R.S.nb g.n n).length<(R.S.more g.n n).length:=by rw[<-ug,bx.out,cV.out];exact bo
     have ay:=Jy (N:=g.n) (tp:=tp) HR.out.2.1 HR.out.2.2.2.2.2 ba;rw[<-HR.out.1]at ay;have bc:=hid ay;have HM:=hid hM
     have ci:∀k,k∈b::L::me::Sb->k≠mn:=λk I=>by
      obtain⟨q1,q2,q3,q4⟩:=bt.out.q9;rcases List.mem_cons.1 I with r|I
      .omega
      rcases List.mem_cons.1 I with r|I
      .omega
      rcases List.mem_cons.1 I with r|I
      .omega
      rcases HL.out.2.2.2.2 _ I with r|r
      .have:=q4 _ r;omega
      .have:=d3;omega
     have cb:∀ad,A1=some ad->ad.block∉[mn]:=λad e=>by have:=hA1 ad e;have:=HL.out.2.1.lt;simp;omega
     have am:=hid (And.intro ci cb);have dj:=a9.size;have d5:mo≠mn:=by have:=HL.out.2.1.lt;have:=a9.size;omega
     have ef:=hid (HL.out.1.below ac);have eg:=hid (HL.out.2.1.below ac);have ej:=hid (cQ.out.below cA);have ek:=hid (HS.out.below ac);clear ay ba hM cF cN cQ HS ci cb hA1 a9;go_wp2_with fail;obtain⟨wy,rfl⟩:∃wy:World,wy=w4:=⟨_,rfl⟩
     go_loopw [38] (λkv wx=>∃(j:Nat)(c:Nat),kv=.int .i64 j/\j<=nE/\MapAt iK wx mn (oz (tu R.near (R.S.nb g.n n) j)) c/\Kept [mn] wy wx) (λkv _=>nE-(intOf kv).toNat)
     case atStart=>exact⟨0,c,rfl,by omega,by rw[El];exact eg.out,Kept.refl _ _⟩
     case round=>
      obtain⟨j,cj,rfl,hj,bg,a7⟩:=hrel;by_cases dy:j<nE
      .obtain⟨x,hx⟩:∃x,(uX R.S g.n n)[j]? =some x:=⟨_,List.getElem?_eq_getElem (by rw[bx.out];exact dy)⟩
       obtain⟨t,eS,d9,ev,ew,ea,ex⟩:=zh hx;obtain⟨gb,hA,a1,a2,a3,a4⟩:=(ej.out.kept a7 am.out.2).get hx;have ds:=λwx=>jy (m:=m1) hA dy wx;obtain⟨xt,⟨xs,xd⟩,xm⟩:=x;simp only at a1 a2 a3 a4 d9;subst d9;have Ht:=hid ea;have cS:=hid bg;clear hx ev ew ea ex hA bg;go_upto_region 14 with(fail);refine au ?_;intro W hW;have HW:Below wr.heap.size wr W:=by rw[hW];(repeat' (first|exact Below.refl _ _|assumption|apply aj|apply ah|apply af|(refine aa ?_ (by assumption))))
       have o0:W.cell? ⟨wr.heap.size,0,none⟩=some (.int .i64 (t:Nat)):=by rw[hW];go_simp
       obtain⟨eK,ch⟩:∃z,wr.heap.size=z:=⟨_,rfl⟩;have db:=cS.out.below HW;have c4:=a7.trans (.of_below HW);rw[ch]at o0⊢;clear hW ch HW a1 a2 a3 a4 ds cS;go_wp2_with (refine dJ rfl _ _ _ rfl (aG Tryz.underlying3) Tryz.underlying244 db rfl ((t:Nat):Int) rfl (.bool true) rfl ?_;intro wU cI du);rw[I5,Ej Ht.out]at cI;have HF:=hid (And.intro cI (c4.trans du));clear cI du c4 db o0;go_roundw
       case rel=>first|exact⟨j+1,_,by go_num,by omega,HF.out⟩|((repeat apply Exists.intro);exact⟨⟨j+1,_,by go_num,by omega,HF.out⟩,rfl⟩)
       case measure=>simp[intOf];omega
      .obtain rfl:j=nE:=by omega
       rw[I4 (by rw[<-ug,bx.out];exact Nat.le_refl _)]at bg;have cs:=ef.out.kept a7 (λk B=>by simpa using am.out.1 k B);have c9:=HM.out.kept a7 (by simpa using d5);have cD:wr.heap[b]? =some (.cells #[.map (some L),.map (some me),.int .i64 (tp:Nat)] 180 (0,0)):=cs.1;have ey:wr.cell? ⟨b,0,none⟩=some (.map (some L)):=by simp[World.cell?,cD]
       have ez:wr.cell? ⟨b,2,none⟩=some (.int .i64 (tp:Nat)):=by simp[World.cell?,cD]
       have cr:=cs.below (ah (Below.refl _ _));obtain⟨wU,d8,b2,ar⟩:=cr.2.1.store (P:=Tryz.prog) (mt:=142) (aG Tryz.underlying3) Tryz.underlying142 ((n:Nat):Int) (.int .i64 (tp:Nat));rw[fQ HR.out.2.2.1,IQ (T:=λ_ _=>False) HR.out.2.2.1]at b2;simp only[Option.isSome_some,if_true]at b2;have c7:=cr.lev b2 ar;have ao:=hid (And.intro bg (And.intro a7 (And.intro c7 (And.intro c9 (⟨ar.os,ar.tape,ar.output,ar.size,ar.block⟩:Kept [L] wr wU)))));clear bg a7 cs c9 cD cr b2 ar c7;go_upto_region 16 with(fail);go_region
       have cG:∀k∈b::L::me::Sb,k<mo:=λk B=>by
        obtain⟨q1,q2,q3,q4⟩:=HL.out.1.q9;have:=ac.size;have:wo.heap.size<=w3.heap.size:=dj;rcases List.mem_cons.1 B with e|B
        .omega
        rcases List.mem_cons.1 B with e|B
        .omega
        rcases List.mem_cons.1 B with e|B
        .omega
        have:=q4 _ B;omega
       have eC:=cG L (by simp);have cv:=ao.out.2.2.2.1.kept (w':=wU) (S:=[L]) ao.out.2.2.2.2 (by simp;omega);have da:=ao.out.1.kept (w':=wU) (S:=[L]) ao.out.2.2.2.2 (by simp;have:=am.out.1 L (by simp);omega);have cq:=ao.out.2.2.1;rw[<-Ik (g:=g) (S:=R.S) (n:=n) (tp:=tp) (T:=λ_ _=>False) (λ_ _ h=>h)]at cq
       have c2:Kept (mn::L::me::M) wz wU:=by
        obtain⟨_,_,_,_,_,q4⟩:=ek.out;exact(q4.fO ao.out.2.1 (λi hi _=>by simp at hi;simp[hi])).fO ao.out.2.2.2.2 (λi hi _=>by simp at hi;simp[hi])
       have d4:=cv.lt;have HV:=hid (And.intro da (And.intro cq c2));have bw:=hid cG;clear da cq c2 ao d8 ey ez cG;go_wp2_with (at_range;refine eB rfl _ rfl rQ Tryz.underlying268 cv rfl ?_;intro w5 aq b5 et)
       try go_frame
       obtain⟨r,hr⟩:∃z,wU.heap.size=z:=⟨_,rfl⟩;rw[hr]at aq d4⊢;have eJ:wz.heap.size<=r:=by rw[<-hr];exact HV.out.2.2.size
       have hstart:QL w5 b L me mo r nl Sb tp g R.S n (R.S.more g.n n) w5:=by
        refine⟨_,_,Sb,aq,?_,λk B=>.inl B,Kept.refl _ _⟩
        have e:TL (R.S.more g.n n) (λk=>jT R.S n (λa b=>(a,b)∈R.S.more g.n n) k≠none)=λ_ _=>False:=by
         funext x y;exact propext ⟨λq=>J9 _ _ _ _ _ q,λq=>q.elim⟩
        rw[e];exact HV.out.2.1.below b5
       have cT:=hid (And.intro (HV.out.1.below b5) (HV.out.2.2.trans (.of_below b5)));have eR:r<w5.heap.size:=by omega
       clear aq cv HV b5 et hr;obtain⟨wv,rfl⟩:∃wv:World,wv=w5:=⟨_,rfl⟩;go_loopw [] (λwr=>QL wv b L me mo r nl Sb tp g R.S n (R.S.more g.n n) wr) (λwr=>wr.rangeLeft mo r)
       case atStart=>exact hstart
       case round=>
        obtain⟨left,cl,Sc,aq,c8,dd,c5⟩:=hrel;clear hstart;have hleft:=hid aq.left_eq;have O:=hid (And.intro c8 (And.intro dd c5));clear c8 dd c5;go_wp2_with (at_next;refine fB rfl _ rfl rQ aq rfl ?_ ?_)
        .intro h0 hl
         have hF:Nl wz wr b L me mn nl M tp g (jU g S tp (i+1)):=by
          rw[bc.out];have e:=LS.Mo (S:=R.S) (N:=g.n) (n:=n) (top:=tp) (T:=TL (R.S.more g.n n) left) (λa b=>NH (λk=>hl k.1 k.2) a b);have q:=O.out.1;rw[e]at q;have eE:mn<wv.heap.size:=by omega
          refine⟨Sc,_,q,cT.out.1.kept O.out.2.2 ?_,λk B=>?_,cT.out.2.fO O.out.2.2 ?_⟩
          .intro I
           rcases List.mem_cons.1 I with F|I
           .exact am.out.1 me (by simp) F.symm
           rcases List.mem_cons.1 I with F|I
           .omega
           exact am.out.1 mn (by simp[I]) rfl
          .rcases O.out.2.1 k B with F|F
           .exact HL.out.2.2.2.2 k F
           .right;omega
          .intro k B eM
           rcases List.mem_cons.1 B with F|B
           .simp[F]
           rcases List.mem_cons.1 B with F|B
           .omega
           rcases HL.out.2.2.2.2 k B with F|F
           .simp[F]
           .omega
         have Q:true=(jU g S tp (i+1)).some_:=by rw[bc.out]
         have HF:=hid (And.intro Q hF);clear hF Q hl aq O;go_wp2;go_roundw
         case rel=>first|exact⟨i+1,by go_num,by omega,by rw[HF.out.1],HF.out.2⟩|((repeat apply Exists.intro);exact⟨⟨i+1,by go_num,by omega,by rw[HF.out.1],HF.out.2⟩,rfl⟩)
         case measure=>simp[intOf];omega
        .intro kx ky u w6 Qb ax en cn d0 dt eu cC
         obtain⟨a',U,e,bj⟩:=Jd (by rw[ax];simp);injection e with e1 e2
         subst e1;subst e2;rw[zS bj]at ax;injection ax with ax
         obtain⟨⟨xs,xd⟩,cB⟩:∃z,C.add (R.S.cost n a') (R.S.cost n U)=z:=⟨_,rfl⟩;rw[cB]at ax;obtain rfl:u=.agg #[.int .i64 (U:Nat),.int .i64 xs,.int .i64 xd,.int .i64 (n:Nat)]:=ax.symm;obtain⟨na,eb,dT,_⟩:=LS.BS.1 bj;have dk:g.ak a':=(HL.out.2.2.1 n a' (by have:=(LS.lC.1 na).2.1;intro h;rw[h]at this;cases this)).2.1;have dl:g.ak U:=(HL.out.2.2.1 n U (by have:=(LS.lC.1 eb).2.1;intro h;rw[h]at this;cases this)).2.1;have al:=hid (And.intro dk (And.intro dl (And.intro bj cB)));have cW:=hid cn;have bq:=hid dt;clear ax en aq cn dt eu na eb dk dl bj cB;rw[show kP (((a':Nat):Int),((U:Nat):Int))=.agg #[.int .i64 (a':Nat),.int .i64 (U:Nat)]from rfl];replace cC:(Instr.entry (.pointer (some ⟨r,0,none⟩))).run Tryz.prog w6=.ok (.tuple #[.agg #[.int .i64 (a':Nat),.int .i64 (U:Nat)],.agg #[.int .i64 (U:Nat),.int .i64 xs,.int .i64 xd,.int .i64 (n:Nat)]]) w6:=cC;go_upto_region 20 with(fail);refine au ?_;intro W6 ag
         have bb:Below w6.heap.size w6 W6:=by rw[ag];(repeat' (first|exact Below.refl _ _|assumption|apply aj|apply ah|apply af|(refine aa ?_ (by assumption))))
         have p0:W6.cell? ⟨w6.heap.size,0,none⟩=some (.int .i64 (a':Nat)):=by rw[ag];go_simp
         have p1:W6.cell? ⟨w6.heap.size,1,none⟩=some (.int .i64 (U:Nat)):=by rw[ag];go_simp
         have x0:W6.cell? ⟨w6.heap.size+1,0,none⟩=some (.int .i64 (U:Nat)):=by rw[ag];go_simp
         have x1:W6.cell? ⟨w6.heap.size+1,1,none⟩=some (.int .i64 xs):=by rw[ag];go_simp
         have x2:W6.cell? ⟨w6.heap.size+1,2,none⟩=some (.int .i64 xd):=by rw[ag];go_simp
         have x3:W6.cell? ⟨w6.heap.size+1,3,none⟩=some (.int .i64 (n:Nat)):=by rw[ag];go_simp
         have xf:W6.frozen? ⟨w6.heap.size+1,0,none⟩=false:=by rw[ag];go_simp
         obtain⟨a6,de⟩:∃z,w6.heap.size=z:=⟨_,rfl⟩;obtain⟨Z,dg⟩:∃z,a6+1=z:=⟨_,rfl⟩;obtain⟨P,hP⟩:∃P,R.S.part n tp (TL (R.S.more g.n n) left)=P:=⟨_,rfl⟩;obtain⟨T,hT⟩:∃T,TL (R.S.more g.n n) left=T:=⟨_,rfl⟩
         have aS:∀k∈b::L::me::Sc,k<mo\/wv.heap.size<=k:=λk B=>by
          rcases List.mem_cons.1 B with F|B
          .exact .inl (bw.out k (by simp[F]))
          rcases List.mem_cons.1 B with F|B
          .exact .inl (bw.out k (by simp[F]))
          rcases List.mem_cons.1 B with F|B
          .exact .inl (bw.out k (by simp[F]))
          rcases O.out.2.1 k B with F|F
          .exact .inl (bw.out k (by simp[F]))
          .exact .inr F
         have eI:wv.heap.size<=w6.heap.size:=Nat.le_trans O.out.2.2.size bq.out.size;have an:=(O.out.1.kept bq.out (λk B=>by have:=aS k B;simp;omega)).below bb;have cd:=(O.out.2.2.fO bq.out (λk B _=>by simp at B;simp[B])).trans (.of_below bb);have d1:=an.q9
         have cg:∀k∈b::L::me::Sc,k<a6:=λk B=>by
          obtain⟨q1,q2,q3,q4⟩:=(O.out.1.kept bq.out (λk B=>by have:=aS k B;simp;omega)).q9;rcases List.mem_cons.1 B with F|B
          .omega
          rcases List.mem_cons.1 B with F|B
          .omega
          rcases List.mem_cons.1 B with F|B
          .omega
          have:=q4 k B;omega
         rw[hP]at an;have dr:=qK (g:=g) (S:=P) (n:=n) (x:=a') Hn.out;have a5:=qK (g:=g) (S:=P) (n:=n) (x:=U) Hn.out;have el:(a':Int)<256:=by have:=al.out.1.1;have:=Hn.out;omega
         have em:(U:Int)<256:=by have:=al.out.2.1.1;have:=Hn.out;omega
         have bj:a'<U:=dT;have cP:=hid (Qn W6 Sc b L me (tp:Nat) (gK g P) a' ⟨(U:Nat),⟨xs,xd⟩,(n:Nat)⟩ (gz P g.n a') an.1 an.2.2.1 an.2.2.2.1 an.2.2.2.2.2.2.1 (ja al.out.1) (nQ _ _ _) dr (by unfold aV;simp only;omega) (by have:=fq P g.n a';have:=Hn.out;omega));have cU:=bb.size;rw[de]at p0 p1 x0 x1 x2 x3 xf cU⊢;rw[dg]at x0 x1 x2 x3 xf⊢;have J:=hid (And.intro aS cg);have cR:=hid (And.intro an cd);have HP:=hid (And.intro hP hT);have eh:=hid bb;have eA:Z<W6.heap.size:=World.block_lt_of_cell? _ _ x0;clear ag cC aS an cd hP hT dr a5 d1 cg bb;go_wp2_with fail;(with_reducible refine cP.out.mono ?_);rintro e w8 ⟨rfl,S8,cY,cw,ab⟩;have ck:a6∉me::Sc:=λI=>by have:=J.out.2 a6 (by simp;right;right;simpa using I);omega
         have ap:Z∉me::Sc:=λI=>by have:=J.out.2 Z (by simp;right;right;simpa using I);omega
         have p0:=aJ ab (by exact ck) p0;have p1:=aJ ab (by exact ck) p1;have x0:=aJ ab (by exact ap) x0;have x1:=aJ ab (by exact ap) x1;have x2:=aJ ab (by exact ap) x2;have x3:=aJ ab (by exact ap) x3;have xf:w8.frozen? ⟨Z,0,none⟩=false:=(World.frozen?_of_block (ab.block Z eA ap)).trans xf;have c6:=cR.out.1.put cY cw ab;have ai:=hid (And.intro c6 (And.intro cw ab));clear cY cw ab c6 cP;go_upto_region 22 with(fail);refine au ?_;intro W9 aw;have p1:W9.cell? ⟨a6,1,none⟩=some (.int .i64 (U:Nat)):=by rw[aw];exact(World.cell?_setCell_other (w:=w8) (a:=⟨Z,0,none⟩) (b:=⟨a6,1,none⟩) (v:=.int .i64 (a':Nat)) (by simp;try omega)).trans p1
         have x0:W9.cell? ⟨Z,0,none⟩=some (.int .i64 (a':Nat)):=by rw[aw];exact DJ _ _ _ _ x0
         have x1:W9.cell? ⟨Z,1,none⟩=some (.int .i64 xs):=by rw[aw];exact o5 _ _ _ _ _ (by omega) x1
         have x2:W9.cell? ⟨Z,2,none⟩=some (.int .i64 xd):=by rw[aw];exact o5 _ _ _ _ _ (by omega) x2
         have x3:W9.cell? ⟨Z,3,none⟩=some (.int .i64 (n:Nat)):=by rw[aw];exact o5 _ _ _ _ _ (by omega) x3
         have be:Kept [Z] w8 W9:=by rw[aw];exact(Kept.refl _ _).setCell (.inl (by simp))
         have ca:∀k∈b::L::me::S8,k≠Z:=λk B=>by
          rcases List.mem_cons.1 B with F|B
          .have:=J.out.2 k (by simp[F]);omega
          rcases List.mem_cons.1 B with F|B
          .have:=J.out.2 k (by simp[F]);omega
          rcases List.mem_cons.1 B with F|B
          .have:=J.out.2 k (by simp[F]);omega
          rcases ai.out.2.1 k B with F|F
          .have:=J.out.2 k (by simp[F]);omega
          .omega
         have a8:=ai.out.1.kept be (λk B=>by simpa using ca k B);have a5:=qK (g:=g) (S:=P) (n:=n) (x:=U) Hn.out
         have c1:bO (gK g P) ((a':Nat):Int) (some (vL (gz P g.n a') ⟨(U:Nat),⟨xs,xd⟩,(n:Nat)⟩)) ((U:Nat):Int)=some (gz P g.n U):=by
          unfold bO;rw[if_neg (by omega),ja al.out.2.1]
         have cP:=hid (Qn W9 S8 b L me (tp:Nat) _ U ⟨(a':Nat),⟨xs,xd⟩,(n:Nat)⟩ (gz P g.n U) a8.1 a8.2.2.1 a8.2.2.2.1 a8.2.2.2.2.2.2.1 c1 (nQ _ _ _) a5 (by unfold aV;simp only;omega) (by have:=fq P g.n U;have:=Hn.out;omega));have br:=hid (And.intro a8 be);clear aw a8 be ca a5 c1;go_wp2_with fail;(with_reducible refine cP.out.mono ?_);rintro e wA ⟨rfl,SA,c0,cx,b6⟩;have b1:=br.out.1.put c0 cx b6;have bp:=Mq (g:=g) (S:=R.S) (n:=n) (top:=tp) (a:=a') (b:=U) (T:=T) al.out.1 al.out.2.1 (by omega);rw[al.out.2.2.2,<-HP.out.2,HP.out.1,NI al.out.2.2.1]at bp;rw[bp]at b1;have hV:bH g P=bH g (R.S.part n tp (TL (R.S.more g.n n) λk=>left k/\k≠(((a':Nat):Int),((U:Nat):Int)))):=by rw[<-HP.out.1];rfl
         rw[hV]at b1
         have ce:∀k∈SA,k∈Sc\/W6.heap.size<=k:=λk B=>by
          rcases cx k B with q|q
          .exact ai.out.2.1 k q
          .right;have:=ai.out.2.2.size;have:=br.out.2.size;omega
         have bh:∀k∈me::S8,k<mo\/wv.heap.size<=k:=λk B=>by
          rcases List.mem_cons.1 B with F|B
          .exact J.out.1 k (by simp[F])
          rcases ai.out.2.1 k B with F|F
          .exact J.out.1 k (by simp[F])
          .right;omega
         have bi:∀k∈me::Sc,k<mo\/wv.heap.size<=k:=λk B=>by
          rcases List.mem_cons.1 B with F|B
          .exact J.out.1 k (by simp[F])
          .exact J.out.1 k (by simp[B])
         have d6:mo<wv.heap.size:=by omega
         have hg:aO kP wA mo r (jT R.S n λa b=>(a,b)∈R.S.more g.n n) (λk=>left k/\k≠(((a':Nat):Int),((U:Nat):Int))) Qb:=by
          refine aO.iff ((((cW.out.below eh.out).kept ai.out.2.2 ?_ ?_).kept br.out.2 ?_ ?_).kept b6 ?_ ?_) (λk=>Iff.rfl)
          .intro I;have:=bi _ I;omega
          .intro I;have:=bi _ I;omega
          .simp;omega
          .simp;omega
          .intro I;have:=bh _ I;omega
          .intro I;have:=bh _ I;omega
         have hF:QL wv b L me mo r nl Sb tp g R.S n (R.S.more g.n n) wA:=by
          refine⟨_,Qb,SA,hg,b1,λk B=>?_,?_⟩
          .rcases ce k B with q|q
           .exact O.out.2.1 k q
           .right;omega
          .refine((cR.out.2.fO ai.out.2.2 ?_).fO br.out.2 ?_).fO b6 ?_
           .intro k B hl
            rcases List.mem_cons.1 B with F|B
            .simp[F]
            rcases O.out.2.1 k B with F|F
            .simp[F]
            .omega
           .intro k B hl
            simp at B;omega
           .intro k B hl
            rcases List.mem_cons.1 B with F|B
            .simp[F]
            rcases ai.out.2.1 k B with F|F
            .rcases O.out.2.1 k F with r2|r2
             .simp[r2]
             .omega
            .omega
         have dv:wA.rangeLeft mo r=Qb:=hg.left_eq;have HF:=hid (And.intro hF dv);clear hF dv hg hV ce bh bi d6 c0 cx b6 b1 bp p0 p1 x0 x1 x2 x3 xf;go_wp2;go_roundw
         case rel=>first|exact HF.out.1|((repeat apply Exists.intro);exact⟨HF.out.1,rfl⟩)
         case measure=>rw[hleft.out,HF.out.2];exact d0
  .obtain rfl:i=cnt:=by omega
   have hF:=HS.out.fin (by rw[b9.out];exact Nat.le_refl _) ee (by omega);have HF:=hid hF;clear hF HS;go_wp2;go_ret;exact HF.out
