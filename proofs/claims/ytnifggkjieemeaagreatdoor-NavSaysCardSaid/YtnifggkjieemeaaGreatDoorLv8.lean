/- Lemmas of this claim: Lv8. -/
import Derived.Test.YtnifggkjieemeaaGreatDoorKNNs24
set_option linter.unusedVariables false
set_option linter.unusedSimpArgs false
set_option maxHeartbeats 6400000
set_option maxRecDepth 100000
open Go.Proofs.Tryz
namespace Go.Proofs.YtnifggkjieemeaaGreatDoor
open Go.Lib (hid)
open Go.RowKit Go.Sort FR Go.Lib
variable {g:G}{top:Int}{E:Int->Option (List Ed)}{V:Int->Option Value}{left:Int×Int->Prop}{M:List (Nat×Nat)}{Sb:List Nat}{N b me ml n nl tp:Nat}{w w':World}
theorem bf.Vl{B n k:Nat}{A:Option Addr}{L:List Ed}(h:bf w B (.slice A n k) L):n<=k:=by
 have P:n=L.length:=by
  obtain⟨F,I,e,_⟩:=h.yI;injection e
 rcases h.2 with⟨e,O⟩|⟨g,m,u,e,_,_,z,_⟩
 .omega
 .injection e with _ _ J;omega
theorem dF.put{Sb m:List Nat}{E z:Int->Option (List Ed)}(h:dF w b ml me Sb top V nl E)(S:cz w' m me z)(P:∀k∈m,k∈Sb\/w.heap.size<=k)(Q:Kept (me::Sb) w w'):dF w' b ml me m top V nl z:=by
 obtain⟨B,F,U,I,J,R,L,O⟩:=h;have T:=(Za.1 B).1;refine⟨(Q.block b T (by simp;exact⟨L,I⟩)).trans B,F.kept Q (by simp;exact⟨O,J⟩),S,λu=>?_,λu=>?_,R,L,O⟩
 .rcases P _ u with q|q
  .exact I q
  .omega
 .rcases P _ u with q|q
  .exact J q
  .have:=F.lt;omega
theorem dF.qp(h:dF w b ml me Sb top V nl E):b<w.heap.size/\ml<w.heap.size/\me<w.heap.size/\∀k∈Sb,k<w.heap.size:=by
 obtain⟨u,z,m,_⟩:=h;refine⟨(Za.1 u).1,z.lt,m.lt,?_⟩;obtain⟨_,_,_,_,_,_,_,_,B⟩:=m;exact B
theorem dF.lev{b ml me nl k:Nat}{V m:Int->Option Value}(h:dF w b ml me Sb top V nl E)(P:MapAt iK w' ml m k)(I:Kept [ml] w w'):dF w' b ml me Sb top m k E:=by
 obtain⟨u,R,J,L,z,B,O,F⟩:=h;exact⟨(I.block b (Za.1 u).1 (by simpa using B)).trans u,P,J.kept I (λs Q=>by simp;rintro rfl;exact z Q) (by simpa using Ne.symm F),L,z,B,O,F⟩
def TL(M:List (Nat×Nat))(left:Int×Int->Prop)(a b:Nat):Prop:=(a,b)∈M/\¬left (((a:Nat):Int),((b:Nat):Int))
def U2(W:World)(b ml me mo r nl:Nat)(Sb0:List Nat)(tp:Nat)(g:G)(S:LS)(n:Nat)(M:List (Nat×Nat))(wr:World):Prop:=
 ∃left cnt Sb,aO kP wr mo r (lu S n λa b=>(a,b)∈M) left cnt/\dF wr b ml me Sb (tp:Nat) (bN g (S.part n tp (TL M left))) nl (eZ g (S.part n tp (TL M left)))/\(∀k∈Sb,k∈Sb0\/W.heap.size<=k)/\Kept (me::r::Sb0) W wr
theorem NY(S:LS)(n:Nat)(M:List (Nat×Nat))(a b:Nat):¬TL M (λk=>lu S n (λa b=>(a,b)∈M) k≠none) a b:=by
 rintro⟨m,u⟩;apply u;rw[C8 m];simp
theorem Rz{a b:Nat}(h:(a,b)∈M):(λx y=>TL M left x y\/(x=a/\y=b))=TL M (λk=>left k/\k≠(((a:Nat):Int),((b:Nat):Int))):=by
 funext x y;apply propext;unfold TL;constructor
 .rintro(⟨m,u⟩|⟨rfl,rfl⟩)
  .exact⟨m,λq=>u q.1⟩
  .exact⟨h,λq=>q.2 rfl⟩
 .rintro⟨m,u⟩
  by_cases e:x=a/\y=b
  .exact .inr e
  .refine .inl ⟨m,λq=>u ⟨q,λz=>e ?_⟩⟩
   injection z with B F
   exact⟨om,om⟩
theorem Ry(h:∀k,¬left k)(a b:Nat):TL M left a b↔(a,b)∈M:=⟨λq=>q.1,λq=>⟨q,h _⟩⟩
theorem Kept.gK{T m:List Nat}{a b c:World}(h:Kept m a b)(k:Kept T b c)(B:∀i∈T,i<a.heap.size->i∈m):Kept m a c:=
 ⟨k.os.trans h.os,k.tape.trans h.tape,k.output.trans h.output,Zg h.size k.size,λi u z=>(k.block i (Zf u h.size) (λF=>z (B i F u))).trans (h.block i u z)⟩
theorem GV(w:World)(b:Nat)(x y:Value)(h:w.cell? ⟨b,0,none⟩=some y):(w.setCell ⟨b,0,none⟩ x).cell? ⟨b,0,none⟩=some x:=World.cell?_setCell_same (w:=w) (a:=⟨b,0,none⟩) (v:=x) h
theorem qQ(w:World)(b o:Nat)(x y:Value)(k:o≠0)(h:w.cell? ⟨b,o,none⟩=some y):(w.setCell ⟨b,0,none⟩ x).cell? ⟨b,o,none⟩=some y:=(World.cell?_setCell_other (w:=w) (a:=⟨b,0,none⟩) (b:=⟨b,o,none⟩) (v:=x) (by simp;try omega)).trans h
theorem tu{S:LS}{n x:Nat}(z:g.n<=256):∀e∈dZ S g.n x,aT e.to_:=λe m=>by
 obtain⟨t,u,k,_⟩:=eH.1 m;rw[k];unfold aT;omega
def Re(W w:World)(b ml me mn nl:Nat)(Sb0:List Nat)(tp:Nat)(g:G)(R:RS):Prop:=
 ∃Sb c,dF w b ml me Sb (tp:Nat) (bN g R.S) nl (eZ g R.S)/\MapAt iK w mn (kL R.near) c/\(∀k∈Sb,k∈Sb0\/W.heap.size<=k)/\Kept (mn::ml::me::Sb0) W w
theorem Re.below{W w w':World}{b ml me u nl:Nat}{k:List Nat}{R:RS}(h:Re W w b ml me u nl k tp g R)(m:Below w.heap.size w w'):Re W w' b ml me u nl k tp g R:=by
 obtain⟨z,c,B,F,I,J⟩:=h;exact⟨z,c,B.below m,F.below m,I,J.trans (.of_below m)⟩
def Gr(w:World)(b ml me nl:Nat)(Sb0:List Nat)(tp:Nat)(g:G)(S:LS)(e:Ending)(w':World):Prop:=
 e=.returned (.bool (RS.run g.n tp (az g) S).some_)/\∃Sb,dF w' b ml me Sb (tp:Nat) (bN g (RS.run g.n tp (az g) S).S) nl (eZ g (RS.run g.n tp (az g) S).S)/\(∀k∈Sb,k∈Sb0\/w.heap.size<=k)/\Kept (ml::me::Sb0) w w'
theorem Re.fin{B W w:World}{b ml me J nl:Nat}{u:List Nat}{S:LS}{i:Nat}(h:Re W w b ml me J nl u tp g (lC g S tp i))(Q:(jM g S).length<=i)(m:Below B.heap.size B W)(U:B.heap.size<=J):Gr B b ml me nl u tp g S (.returned (.bool (lC g S tp i).some_)) w:=by
 obtain⟨L,c,O,T,P,z⟩:=h;rw[V4 Q]at*;refine⟨rfl,L,O,λk F=>(P k F).imp_right (λq=>Zg m.size q),⟨z.os.trans m.os,z.tape.trans m.tape,z.output.trans m.output,Zg m.size z.size,λk F R=>?_⟩⟩;refine(z.block k (Zf F m.size) ?_).trans (m.block k F);intro I;rcases Zd.1 I with e|e
 .omega
 .exact R e
theorem vC{R:RS}(h:R.near n=true):RS.step N tp R n=R:=by unfold RS.step;rw[if_pos (.inr h)]
theorem vB{R:RS}(h:(R.S.nb N n).length<(R.S.more N n).length):RS.step N tp R n=R:=by
 unfold RS.step;split
 .rfl
 .first|rfl|rw[if_pos h]
theorem BG{R:RS}(k:R.S.lev n=0)(m:R.near n=false)(u:¬(R.S.nb N n).length<(R.S.more N n).length):RS.step N tp R n=⟨R.S.pass N n tp,λt=>R.near t||decide (t∈R.S.nb N n),true⟩:=by
 unfold RS.step;rw[if_neg (by rw[k,m];simp),if_neg u]
theorem Oo(w:World):(zeroValue 4).run prog w=.ok (.bool false) w:=kr
theorem SL(w:World)(b L me nl:Nat)(M:List Nat)(tp K:Nat)(g:G)(S:LS)(cO:g.ok)(H:LS.Inv g g.n tp K S (λ_=>false))(hK:K<=1000)(h:dF w b L me M (tp:Nat) (bN g S) nl (eZ g S)):Calls prog 83 #[vP b] w (Gr w b L me nl M tp g S):=by
 have hn:=G.bA cO;have es:=@run_makeMap prog;have bw:=hid h;have ek:=hid cO;have b9:=hid (rN H hK);have Hn:=hid hn;clear h cO H hK hn;go_enter func83,ntmps83;go_upto_region 3 with(fail);refine aB ?_;intro W1 b5;have bx:Below w.heap.size w W1:=by rw[b5];exact be
 have cv:MapAt iK W1 w.heap.size (λ_=>none) 0:=by rw[b5];exact MapAt.made w
 have eu:W1.heap.size=w.heap.size+1:=by rw[b5];simp
 obtain⟨mn,et⟩:=rX w.heap.size;rw[et]at cv⊢;have cL:=hid (VH W1 b L me nl M (tp:Nat) (bN g S) (uQ g S) (eZ g S) ((jM g S).map λn:Nat=>(n:Int)) (bw.out.below bx) PG (CL g S) Ml (λz hz=>by obtain⟨n,rfl,hc⟩:=sQ.1 hz;have:=hc.1;have:=Hn.out;omega));clear b5 es;go_wp2_with fail;(with_reducible refine cL.out.mono ?_);rintro e w2 ⟨A,m,rfl,er,hI,hA,bm⟩;have de:Re w2 w2 b L me mn nl M tp g (lC g S tp 0):=⟨M,0,bw.out.below (ae bx bm),by show MapAt iK w2 mn (kL λ_=>false) 0;rw[y8];exact cv.below bm,λk B=>.inl B,Kept.refl _ _⟩;obtain⟨bd,a0⟩:=rX ((jM g S).length);rw[Zr,a0]at hI er⊢;have dr:bd<=256:=by rw[<-a0];exact Zg (L8 S) Hn.out
 have cY:∀ad,A=some ad->ad.block∉mn::L::me::M:=λad e I=>by
  have:=(hA ad e).1;obtain⟨q1,q2,q3,q4⟩:=bw.out.qp;rcases Zd.1 I with r|I
  .omega
  rcases Zd.1 I with r|I
  .omega
  rcases Zd.1 I with r|I
  .omega
  have:=q4 _ I;omega
 have ef:=hid cY;have HI:=hid hI;have ca:=hid a0;have eg:=ae bx bm;have d5:mn<w2.heap.size:=by have:=bm.size;omega
 clear hI hA bm cv cL a0 cY eu bx;go_wp2_with fail;obtain⟨wz,rfl⟩:∃wz:World,wz=w2:=⟨_,rfl⟩
 go_loopw [4,17] (λsv kv wr=>∃i:Nat,kv=rI i/\i<=bd/\sv=.bool (lC g S tp i).some_/\Re wz wr b L me mn nl M tp g (lC g S tp i)) (λ_ kv _=>bd-(intOf kv).toNat)
 case atStart=>exact⟨0,rfl,om,rfl,de⟩
 case round=>
  obtain⟨i,rfl,hi,rfl,hS⟩:=hrel;have HS:=hid hS;clear de hS;obtain⟨wo,rfl⟩:∃wo:World,wo=wr:=⟨_,rfl⟩;by_cases cI:i<bd
  .obtain⟨n,hn⟩:∃n,(jM g S)[i]? =some n:=⟨_,Zc (by rw[ca.out];exact cI)⟩
   have ds:((jM g S).map λn:Nat=>(n:Int)).getD i 0=(n:Nat):=by
    rw[Zk,Zy,hn];rfl
   obtain⟨Sb,c,hL,hN,cA,hK⟩:=HS.out;have b1:=HI.out.kept hK ef.out;obtain⟨ad,hA⟩:=b1.addr om;rw[hA]at b1;have eN:=λwx=>aP (m:=m) hA cI wx;have hE:=b1.cell br cI;rw[ds]at hE;have aE:=TC (tp:=tp) hn;obtain⟨h0,dq⟩:=V6 (tp:=tp) hn;have bg:=V5 b9.out.1 i;obtain⟨R,hR⟩:=rX (lC g S tp i);rw[hR]at hL hN aE h0 bg HS⊢;obtain⟨sm,cQ⟩:=rX R.some_;rw[cQ]
   have d9:∀w',Below wo.heap.size wo w'->(Instr.lookup 225 (.map (some mn)) (rI (n:Nat)) false).run prog w'=.ok (.bool (R.near n)) w':=λw' hb=>by
    have:=((hN.below hb).look (aF underlying3) underlying225 (Oo w') ((n:Nat):Int)).2;rw[E9]at this;exact this
   have cn:=d9 wo br;obtain⟨nr,cM⟩:=rX (R.near n);rw[cM]at cn;have HR:=hid (rN aE (rN h0 (rN dq (rN bg (rN cQ cM)))));clear hn ds hA aE h0 dq bg hR cQ cM d9 hK b1;cases nr with
   |true=>
    have hF:Re wz wo b L me mn nl M tp g (lC g S tp (i+1)):=by rw[HR.out.1,vC HR.out.2.2.2.2.2];exact HS.out
    have Q:sm=(lC g S tp (i+1)).some_:=by rw[HR.out.1,vC HR.out.2.2.2.2.2,HR.out.2.2.2.2.1]
    have HF:=hid (rN Q hF);clear hF Q hL hN cA HS;go_wp2;go_roundw
    case rel=>exact⟨i+1,by go_num,om,by rw[HF.out.1],HF.out.2⟩
    case measure=>exact rM
   |false=>
    have cE:=hid (JZ wo b L me nl Sb (tp:Nat) (bN g R.S) (uQ g R.S) (eZ g R.S) (n:Nat) (dZ R.S g.n n) hL (UA g R.S) (fM HR.out.2.2.1) (by have:=dS R.S g.n n;have:=Hn.out;omega));have bo:=CJ HR.out.2.2.2.1;have cp:=JS HR.out.2.2.2.1 b9.out.2;rw[Eu bo]at cE;have HL:=hid (rN hL (rN hN (rN bo (rN cp cA))));clear hL hN cA bo cp;go_wp2_with fail;(with_reducible refine cE.out.mono ?_);rintro e w3 ⟨vE,rfl,b4,a9⟩;obtain⟨A1,m1,rfl,cq⟩:=b4.yI;have d4:=b4.Vl;have hA1:∀ad,A1=some ad->wo.heap.size<=ad.block:=λad e=>(World.ownsRow.lt b4 ad.block (by rw[e];rfl)).1;obtain⟨nE,b8⟩:=rX ((rH R.S g.n n).length);rw[b8]at d4⊢;have ee:nE<=256:=by have:=sP R.S g.n n;have:=Hn.out;omega
    have cN:=hid (CR w3 b L me nl Sb (tp:Nat) g R.S ek.out HL.out.2.2.1 HL.out.2.2.2.1 n HR.out.2.1 (HL.out.1.below a9) A1 nE m1 cq b8 d4);have cR:=hid cq;have b0:=hid b8;clear cq b4 b8 cn hE cE;go_wp2_with fail;(with_reducible refine cN.out.mono ?_);rintro e w4 ⟨mo,rfl,hM,eS,cB⟩;have dT:=hM.len (P:=prog) (mt:=227) underlying227 3;have ab:=ae a9 cB;obtain⟨ln,cG⟩:=rX ((R.S.more g.n n).length);rw[cG]at dT hM;have cW:=hid cG;by_cases bp:nE<ln
    .have ba:(R.S.nb g.n n).length<(R.S.more g.n n).length:=by rw[<-pI,b0.out,cW.out];exact bp
     have hF:Re wz w4 b L me mn nl M tp g (lC g S tp (i+1)):=by rw[HR.out.1,vB ba];exact HS.out.below ab
     have Q:sm=(lC g S tp (i+1)).some_:=by rw[HR.out.1,vB ba,HR.out.2.2.2.2.1]
     have HF:=hid (rN Q hF);clear hF Q ba hM ab a9 cB cN HS HL;go_wp2;go_roundw
     case rel=>exact⟨i+1,by go_num,om,by rw[HF.out.1],HF.out.2⟩
     case measure=>exact rM
    .have ba:¬(R.S.nb g.n n).length<(R.S.more g.n n).length:=by rw[<-pI,b0.out,cW.out];exact bp
     have ay:=BG (N:=g.n) (tp:=tp) HR.out.2.1 HR.out.2.2.2.2.2 ba;rw[<-HR.out.1]at ay;have bc:=hid ay;have HM:=hid hM
     have ck:∀k,k∈b::L::me::Sb->k≠mn:=λk I=>by
      obtain⟨q1,q2,q3,q4⟩:=bw.out.qp;rcases Zd.1 I with r|I
      .omega
      rcases Zd.1 I with r|I
      .omega
      rcases Zd.1 I with r|I
      .omega
      rcases HL.out.2.2.2.2 _ I with r|r
      .have:=q4 _ r;omega
      .have:=d5;omega
     have cd:∀ad,A1=some ad->ad.block∉[mn]:=λad e=>by have:=hA1 ad e;have:=HL.out.2.1.lt;simp;omega
     have al:=hid (rN ck cd);have dl:=a9.size;have d7:mo≠mn:=by have:=HL.out.2.1.lt;have:=a9.size;omega
     have eh:=hid (HL.out.1.below ab);have ei:=hid (HL.out.2.1.below ab);have el:=hid (cR.out.below cB);have em:=hid (HS.out.below ab);clear ay ba hM cG cN cR HS ck cd hA1 a9;go_wp2_with fail;obtain⟨wy,rfl⟩:∃wy:World,wy=w4:=⟨_,rfl⟩
     go_loopw [38] (λkv wx=>∃(j:Nat)(c:Nat),kv=rI j/\j<=nE/\MapAt iK wx mn (kL (sV R.near (R.S.nb g.n n) j)) c/\Kept [mn] wy wx) (λkv _=>nE-(intOf kv).toNat)
     case atStart=>exact⟨0,c,rfl,om,by rw[y7];exact ei.out,Kept.refl _ _⟩
     case round=>
      obtain⟨j,cj,rfl,hj,bi,a7⟩:=hrel;by_cases d0:j<nE
      .obtain⟨x,hx⟩:∃x,(rH R.S g.n n)[j]? =some x:=⟨_,Zc (by rw[b0.out];exact d0)⟩
       obtain⟨t,eW,eb,ey,ez,ec,eA⟩:=qU hx;obtain⟨gb,hA,a1,a2,a3,a4⟩:=(el.out.kept a7 al.out.2).get hx;have du:=λwx=>gZ (m:=m1) hA d0 wx;obtain⟨xt,⟨xs,xd⟩,xm⟩:=x;simp only at a1 a2 a3 a4 eb;subst eb;have Ht:=hid ec;have cT:=hid bi;clear hx ey ez ec eA hA bi;go_upto_region 14 with(fail);refine aB ?_;intro W hW;have HW:Below wr.heap.size wr W:=by rw[hW];exact be
       have o0:W.cell? ⟨wr.heap.size,0,none⟩=some (rI (t:Nat)):=by rw[hW];go_simp
       obtain⟨eM,ci⟩:=rX wr.heap.size;have dd:=cT.out.below HW;have c5:=a7.trans (.of_below HW);rw[ci]at o0⊢;clear hW ci HW a1 a2 a3 a4 du cT;go_wp2_with (refine bV rfl _ _ _ rfl (aF underlying3) underlying225 dd rfl ((t:Nat):Int) rfl (.bool true) rfl ?_;intro wU cJ dx);rw[Ba,yZ Ht.out]at cJ;have HF:=hid (rN cJ (c5.trans dx));clear cJ dx c5 dd o0;go_roundw
       case rel=>refine rR ?_;exact⟨j+1,_,by go_num,om,HF.out⟩
       case measure=>exact rM
      .obtain rfl:j=nE:=om
       rw[A9 (by rw[<-pI,b0.out];exact Zi _)]at bi;have ct:=eh.out.kept a7 (λk B=>by simpa using al.out.1 k B);have da:=HM.out.kept a7 (by simpa using d7);have cF:wr.heap[b]? =some (.cells #[.map (some L),.map (some me),rI (tp:Nat)] 171 (0,0)):=ct.1;have eC:wr.cell? ⟨b,0,none⟩=some (.map (some L)):=by simp[World.cell?,cF]
       have eE:wr.cell? ⟨b,2,none⟩=some (rI (tp:Nat)):=by simp[World.cell?,cF]
       have cs:=ct.below (aj br);obtain⟨wU,ea,b3,ar⟩:=cs.2.1.store (P:=prog) (mt:=129) (aF underlying3) underlying129 ((n:Nat):Int) (rI (tp:Nat));rw[gq HR.out.2.2.1,Mf (T:=λ_ _=>False) HR.out.2.2.1]at b3;simp only[Option.isSome_some,if_true]at b3;have c8:=cs.lev b3 ar;have ao:=hid (rN bi (rN a7 (rN c8 (rN da (⟨ar.os,ar.tape,ar.output,ar.size,ar.block⟩:Kept [L] wr wU)))));clear bi a7 ct da cF cs b3 ar c8;go_upto_region 16 with(fail);go_region
       have cH:∀k∈b::L::me::Sb,k<mo:=λk B=>by
        obtain⟨q1,q2,q3,q4⟩:=HL.out.1.qp;have:=ab.size;have:wo.heap.size<=w3.heap.size:=dl;rcases Zd.1 B with e|B
        .omega
        rcases Zd.1 B with e|B
        .omega
        rcases Zd.1 B with e|B
        .omega
        have:=q4 _ B;omega
       have eI:=cH L rS;have cw:=ao.out.2.2.2.1.kept (w':=wU) (S:=[L]) ao.out.2.2.2.2 so;have db:=ao.out.1.kept (w':=wU) (S:=[L]) ao.out.2.2.2.2 (by simp;have:=al.out.1 L rS;omega);have cr:=ao.out.2.2.1;rw[<-AA (g:=g) (S:=R.S) (n:=n) (tp:=tp) (T:=λ_ _=>False) (λ_ _ h=>h)]at cr
       have c4:Kept (mn::L::me::M) wz wU:=by
        obtain⟨_,_,_,_,_,q4⟩:=em.out;exact(q4.gK ao.out.2.1 (λi hi _=>by simp at hi;simp[hi])).gK ao.out.2.2.2.2 (λi hi _=>by simp at hi;simp[hi])
       have d6:=cw.lt;have HV:=hid (rN db (rN cr c4));have bz:=hid cH;clear db cr c4 ao ea eC eE cH;go_wp2_with (at_range;refine dY rfl _ rfl uO underlying227 cw rfl ?_;intro w5 aq b6 ev)
       try go_frame
       obtain⟨r,hr⟩:=rX wU.heap.size;rw[hr]at aq d6⊢;have eL:wz.heap.size<=r:=by rw[<-hr];exact HV.out.2.2.size
       have hstart:U2 w5 b L me mo r nl Sb tp g R.S n (R.S.more g.n n) w5:=by
        refine⟨_,_,Sb,aq,?_,λk B=>.inl B,Kept.refl _ _⟩
        have e:TL (R.S.more g.n n) (λk=>lu R.S n (λa b=>(a,b)∈R.S.more g.n n) k≠none)=λ_ _=>False:=by
         funext x y;exact propext ⟨λq=>NY _ _ _ _ _ q,λq=>q.elim⟩
        rw[e];exact HV.out.2.1.below b6
       have cU:=hid (rN (HV.out.1.below b6) (HV.out.2.2.trans (.of_below b6)));have eV:r<w5.heap.size:=om;clear aq cw HV b6 ev hr;obtain⟨wv,rfl⟩:∃wv:World,wv=w5:=⟨_,rfl⟩;go_loopw [] (λwr=>U2 wv b L me mo r nl Sb tp g R.S n (R.S.more g.n n) wr) (λwr=>wr.rangeLeft mo r)
       case atStart=>exact hstart
       case round=>
        obtain⟨left,cl,Sc,aq,c9,dg,c6⟩:=hrel;clear hstart;have hleft:=hid aq.left_eq;have O:=hid (rN c9 (rN dg c6));clear c9 dg c6;go_wp2_with (at_next;refine fD rfl _ rfl uO aq rfl ?_ ?_)
        .intro h0 hl
         have hF:Re wz wr b L me mn nl M tp g (lC g S tp (i+1)):=by
          rw[bc.out];have e:=LS.Fs (S:=R.S) (N:=g.n) (n:=n) (top:=tp) (T:=TL (R.S.more g.n n) left) (λa b=>Ry (λk=>hl k.1 k.2) a b);have q:=O.out.1;rw[e]at q;have eJ:mn<wv.heap.size:=om;refine⟨Sc,_,q,cU.out.1.kept O.out.2.2 ?_,λk B=>?_,cU.out.2.gK O.out.2.2 ?_⟩
          .intro I
           rcases Zd.1 I with F|I
           .exact al.out.1 me rS F.symm
           rcases Zd.1 I with F|I
           .omega
           exact al.out.1 mn (by simp[I]) rfl
          .rcases O.out.2.1 k B with F|F
           .exact HL.out.2.2.2.2 k F
           .right;omega
          .intro k B eR
           rcases Zd.1 B with F|B
           .simp[F]
           rcases Zd.1 B with F|B
           .omega
           rcases HL.out.2.2.2.2 k B with F|F
           .simp[F]
           .omega
         have Q:true=(lC g S tp (i+1)).some_:=by rw[bc.out]
         have HF:=hid (rN Q hF);clear hF Q hl aq O;go_wp2;go_roundw
         case rel=>refine rR ?_;exact⟨i+1,by go_num,om,by rw[HF.out.1],HF.out.2⟩
         case measure=>exact rM
        .intro kx ky u w6 Uo ax ep co d2 dv ew cD
         obtain⟨a',U,e,bl⟩:=ME (by rw[ax];simp);injection e with e1 e2
         subst e1;subst e2;rw[C8 bl]at ax;injection ax with ax
         obtain⟨⟨xs,xd⟩,cC⟩:=rX (C.add (R.S.cost n a') (R.S.cost n U));rw[cC]at ax;obtain rfl:u=.agg #[rI (U:Nat),rI xs,rI xd,rI (n:Nat)]:=ax.symm;obtain⟨na,ed,d1,_⟩:=LS.yU.1 bl;have dn:g.av a':=(HL.out.2.2.1 n a' (by have:=(LS.jO.1 na).2.1;intro h;rw[h]at this;cases this)).2.1;have dp:g.av U:=(HL.out.2.2.1 n U (by have:=(LS.jO.1 ed).2.1;intro h;rw[h]at this;cases this)).2.1;have ai:=hid (rN dn (rN dp (rN bl cC)));have cX:=hid co;have bt:=hid dv;clear ax ep aq co dv ew na ed dn dp bl cC;rw[show kP (((a':Nat):Int),((U:Nat):Int))=.agg #[rI (a':Nat),rI (U:Nat)]from rfl];replace cD:(Instr.entry (vP r)).run prog w6=.ok (.tuple #[.agg #[rI (a':Nat),rI (U:Nat)],.agg #[rI (U:Nat),rI xs,rI xd,rI (n:Nat)]]) w6:=cD;go_upto_region 20 with(fail);refine aB ?_;intro W6 ac
         have bb:Below w6.heap.size w6 W6:=by rw[ac];exact be
         have p0:W6.cell? ⟨w6.heap.size,0,none⟩=some (rI (a':Nat)):=by rw[ac];go_simp
         have p1:W6.cell? ⟨w6.heap.size,1,none⟩=some (rI (U:Nat)):=by rw[ac];go_simp
         have x0:W6.cell? ⟨w6.heap.size+1,0,none⟩=some (rI (U:Nat)):=by rw[ac];go_simp
         have x1:W6.cell? ⟨w6.heap.size+1,1,none⟩=some (rI xs):=by rw[ac];go_simp
         have x2:W6.cell? ⟨w6.heap.size+1,2,none⟩=some (rI xd):=by rw[ac];go_simp
         have x3:W6.cell? ⟨w6.heap.size+1,3,none⟩=some (rI (n:Nat)):=by rw[ac];go_simp
         have xf:W6.frozen? ⟨w6.heap.size+1,0,none⟩=false:=by rw[ac];go_simp
         obtain⟨a6,dj⟩:=rX w6.heap.size;obtain⟨Z,dk⟩:=rX (a6+1);obtain⟨P,hP⟩:=rX (R.S.part n tp (TL (R.S.more g.n n) left));obtain⟨T,hT⟩:=rX (TL (R.S.more g.n n) left)
         have aS:∀k∈b::L::me::Sc,k<mo\/wv.heap.size<=k:=λk B=>by
          rcases Zd.1 B with F|B
          .exact .inl (bz.out k (by simp[F]))
          rcases Zd.1 B with F|B
          .exact .inl (bz.out k (by simp[F]))
          rcases Zd.1 B with F|B
          .exact .inl (bz.out k (by simp[F]))
          rcases O.out.2.1 k B with F|F
          .exact .inl (bz.out k (by simp[F]))
          .exact .inr F
         have eK:wv.heap.size<=w6.heap.size:=Zg O.out.2.2.size bt.out.size;have am:=(O.out.1.kept bt.out (λk B=>by have:=aS k B;simp;omega)).below bb;have ce:=(O.out.2.2.gK bt.out (λk B _=>by simp at B;simp[B])).trans (.of_below bb);have d3:=am.qp
         have ch:∀k∈b::L::me::Sc,k<a6:=λk B=>by
          obtain⟨q1,q2,q3,q4⟩:=(O.out.1.kept bt.out (λk B=>by have:=aS k B;simp;omega)).qp;rcases Zd.1 B with F|B
          .omega
          rcases Zd.1 B with F|B
          .omega
          rcases Zd.1 B with F|B
          .omega
          have:=q4 k B;omega
         rw[hP]at am;have dt:=tu (g:=g) (S:=P) (n:=n) (x:=a') Hn.out;have a5:=tu (g:=g) (S:=P) (n:=n) (x:=U) Hn.out;have en:(a':Int)<256:=by have:=ai.out.1.1;have:=Hn.out;omega
         have eo:(U:Int)<256:=by have:=ai.out.2.1.1;have:=Hn.out;omega
         have bl:a'<U:=d1;have cP:=hid (UB W6 Sc b L me (tp:Nat) (eZ g P) a' ⟨(U:Nat),⟨xs,xd⟩,(n:Nat)⟩ (dZ P g.n a') am.1 am.2.2.1 am.2.2.2.1 am.2.2.2.2.2.2.1 (fM ai.out.1) (kM _ _ _) dt (by unfold aT;simp only;omega) (by have:=dS P g.n a';have:=Hn.out;omega));have cV:=bb.size;rw[dj]at p0 p1 x0 x1 x2 x3 xf cV⊢;rw[dk]at x0 x1 x2 x3 xf⊢;have J:=hid (rN aS ch);have cS:=hid (rN am ce);have HP:=hid (rN hP hT);have ej:=hid bb;have eF:Z<W6.heap.size:=ZF _ _ x0;clear ac cD aS am ce hP hT dt a5 d3 ch bb;go_wp2_with fail;(with_reducible refine cP.out.mono ?_);rintro e w8 ⟨rfl,S8,c0,cx,aa⟩;have cm:a6∉me::Sc:=λI=>by have:=J.out.2 a6 (by simp;right;right;simpa using I);omega
         have ap:Z∉me::Sc:=λI=>by have:=J.out.2 Z (by simp;right;right;simpa using I);omega
         have p0:=aH aa (by exact cm) p0;have p1:=aH aa (by exact cm) p1;have x0:=aH aa (by exact ap) x0;have x1:=aH aa (by exact ap) x1;have x2:=aH aa (by exact ap) x2;have x3:=aH aa (by exact ap) x3;have xf:w8.frozen? ⟨Z,0,none⟩=false:=(World.frozen?_of_block (aa.block Z eF ap)).trans xf;have c7:=cS.out.1.put c0 cx aa;have ag:=hid (rN c7 (rN cx aa));clear c0 cx aa c7 cP;go_upto_region 22 with(fail);refine aB ?_;intro W9 aw;have p1:W9.cell? ⟨a6,1,none⟩=some (rI (U:Nat)):=by rw[aw];exact(World.cell?_setCell_other (w:=w8) (a:=⟨Z,0,none⟩) (b:=⟨a6,1,none⟩) (v:=rI (a':Nat)) (by simp;try omega)).trans p1
         have x0:W9.cell? ⟨Z,0,none⟩=some (rI (a':Nat)):=by rw[aw];exact GV _ _ _ _ x0
         have x1:W9.cell? ⟨Z,1,none⟩=some (rI xs):=by rw[aw];exact qQ _ _ _ _ _ om x1
         have x2:W9.cell? ⟨Z,2,none⟩=some (rI xd):=by rw[aw];exact qQ _ _ _ _ _ om x2
         have x3:W9.cell? ⟨Z,3,none⟩=some (rI (n:Nat)):=by rw[aw];exact qQ _ _ _ _ _ om x3
         have bh:Kept [Z] w8 W9:=by rw[aw];exact(Kept.refl _ _).setCell (.inl rS)
         have cb:∀k∈b::L::me::S8,k≠Z:=λk B=>by
          rcases Zd.1 B with F|B
          .have:=J.out.2 k (by simp[F]);omega
          rcases Zd.1 B with F|B
          .have:=J.out.2 k (by simp[F]);omega
          rcases Zd.1 B with F|B
          .have:=J.out.2 k (by simp[F]);omega
          rcases ag.out.2.1 k B with F|F
          .have:=J.out.2 k (by simp[F]);omega
          .omega
         have a8:=ag.out.1.kept bh (λk B=>by simpa using cb k B);have a5:=tu (g:=g) (S:=P) (n:=n) (x:=U) Hn.out
         have c2:bT (eZ g P) ((a':Nat):Int) (some (qa (dZ P g.n a') ⟨(U:Nat),⟨xs,xd⟩,(n:Nat)⟩)) ((U:Nat):Int)=some (dZ P g.n U):=by
          unfold bT;rw[if_neg om,fM ai.out.2.1]
         have cP:=hid (UB W9 S8 b L me (tp:Nat) _ U ⟨(a':Nat),⟨xs,xd⟩,(n:Nat)⟩ (dZ P g.n U) a8.1 a8.2.2.1 a8.2.2.2.1 a8.2.2.2.2.2.2.1 c2 (kM _ _ _) a5 (by unfold aT;simp only;omega) (by have:=dS P g.n U;have:=Hn.out;omega));have bv:=hid (rN a8 bh);clear aw a8 bh cb a5 c2;go_wp2_with fail;(with_reducible refine cP.out.mono ?_);rintro e wA ⟨rfl,SA,c1,cy,b7⟩;have b2:=bv.out.1.put c1 cy b7;have bq:=Fu (g:=g) (S:=R.S) (n:=n) (top:=tp) (a:=a') (b:=U) (T:=T) ai.out.1 ai.out.2.1 om;rw[ai.out.2.2.2,<-HP.out.2,HP.out.1,Rz ai.out.2.2.1]at bq;rw[bq]at b2;have hV:bN g P=bN g (R.S.part n tp (TL (R.S.more g.n n) λk=>left k/\k≠(((a':Nat):Int),((U:Nat):Int)))):=by rw[<-HP.out.1];rfl
         rw[hV]at b2
         have cg:∀k∈SA,k∈Sc\/W6.heap.size<=k:=λk B=>by
          rcases cy k B with q|q
          .exact ag.out.2.1 k q
          .right;have:=ag.out.2.2.size;have:=bv.out.2.size;omega
         have bj:∀k∈me::S8,k<mo\/wv.heap.size<=k:=λk B=>by
          rcases Zd.1 B with F|B
          .exact J.out.1 k (by simp[F])
          rcases ag.out.2.1 k B with F|F
          .exact J.out.1 k (by simp[F])
          .right;omega
         have bk:∀k∈me::Sc,k<mo\/wv.heap.size<=k:=λk B=>by
          rcases Zd.1 B with F|B
          .exact J.out.1 k (by simp[F])
          .exact J.out.1 k (by simp[B])
         have d8:mo<wv.heap.size:=om
         have hg:aO kP wA mo r (lu R.S n λa b=>(a,b)∈R.S.more g.n n) (λk=>left k/\k≠(((a':Nat):Int),((U:Nat):Int))) Uo:=by
          refine aO.iff ((((cX.out.below ej.out).kept ag.out.2.2 ?_ ?_).kept bv.out.2 ?_ ?_).kept b7 ?_ ?_) (λk=>Iff.rfl)
          .intro I;have:=bk _ I;omega
          .intro I;have:=bk _ I;omega
          .simp;omega
          .simp;omega
          .intro I;have:=bj _ I;omega
          .intro I;have:=bj _ I;omega
         have hF:U2 wv b L me mo r nl Sb tp g R.S n (R.S.more g.n n) wA:=by
          refine⟨_,Uo,SA,hg,b2,λk B=>?_,?_⟩
          .rcases cg k B with q|q
           .exact O.out.2.1 k q
           .right;omega
          .refine((cS.out.2.gK ag.out.2.2 ?_).gK bv.out.2 ?_).gK b7 ?_
           .intro k B hl
            rcases Zd.1 B with F|B
            .simp[F]
            rcases O.out.2.1 k B with F|F
            .simp[F]
            .omega
           .intro k B hl
            simp at B;omega
           .intro k B hl
            rcases Zd.1 B with F|B
            .simp[F]
            rcases ag.out.2.1 k B with F|F
            .rcases O.out.2.1 k F with r2|r2
             .simp[r2]
             .omega
            .omega
         have dy:wA.rangeLeft mo r=Uo:=hg.left_eq;have HF:=hid (rN hF dy);clear hF dy hg hV cg bj bk d8 c1 cy b7 b2 bq p0 p1 x0 x1 x2 x3 xf;go_wp2;go_roundw
         case rel=>exact rR HF.out.1
         case measure=>rw[hleft.out,HF.out.2];exact d2
  .obtain rfl:i=bd:=om
   have hF:=HS.out.fin (by rw[ca.out];exact Zi _) eg om;have HF:=hid hF;clear hF HS;go_wp2;go_ret;exact HF.out
