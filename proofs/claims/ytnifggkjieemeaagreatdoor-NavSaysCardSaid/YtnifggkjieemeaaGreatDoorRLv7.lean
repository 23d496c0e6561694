/- Lemmas of this claim: RLv7. -/
import Derived.Test.YtnifggkjieemeaaGreatDoorKNNs50
set_option linter.unusedVariables false
set_option linter.unusedSimpArgs false
set_option maxHeartbeats 6400000
set_option maxRecDepth 100000
open Go.Proofs.Tryz
namespace Go.Proofs.YtnifggkjieemeaaGreatDoor
open Go.Lib (hid)
open Go.RowKit Go.Sort FR Go.Lib
theorem VZ(w:World)(b Z me nl:Nat)(cO:List Nat)(tp K:Nat)(g:G)(S:LS)(b5:g.ok)(H:LS.Inv g g.n tp K S (λ_=>false))(hK:K<=1000)(h:oo w b Z me cO (tp:Nat) (ic g S) nl (eZ g S))(A:Option Addr)(n0 m0:Nat)(hI:Ints w A n0 (λk=>(aA g).getD k 0))(cA:(aA g).length=n0)(hA:0<n0->∀ad,A=some ad->ad.block≠Z/\ad.block≠me):Calls prog 111 #[vP b,.slice A n0 m0] w (Jc w b Z me tp g S):=by
 have hn:=G.bA b5;have dp:=@run_makeMap prog;have dr:n0<=256:=by rw[<-cA];exact bM b5
 have d3:0<tp:=H.pos;have cm:=hid h;have cM:=hid b5;have b7:=hid (rN H hK);have Hn:=hid (rN hn cA);have bv:=hid (rN hI hA);clear h b5 H hK hn cA hI hA;go_enter func111,ntmps111;go_upto_region 3 with(fail);refine aB ?_;intro W1 cw;have co:Below w.heap.size w W1:=by rw[cw];exact be
 have b2:MapAt iK W1 w.heap.size (λ_=>none) 0:=by rw[cw];exact MapAt.made w
 obtain⟨M,dq⟩:=rX w.heap.size;rw[dq]at b2⊢;have c7:=cm.out.qp;have cU:Rs W1 W1 b Z me M tp g (oP g S tp 0):=⟨cO,0,nl,cm.out.below co,by show MapAt iK W1 M (kL λ_=>false) 0;rw[y8];exact b2,λhm=>by have:=c7.2.2.2 _ hm;omega,Kept.refl _ _⟩;have HI:=hid (bv.out.1.below co)
 have dk:Hid (0<n0->∀ad,A=some ad->ad.block∉[M,Z,me]):=hid λhp ad e=>by
  obtain⟨d2,e',bc,_⟩:=bv.out.1 hp;have:=bv.out.2 hp ad e;rw[e']at e;injection e with e;subst e
  simp;omega
 have d0:M<W1.heap.size:=b2.lt;have d1:M≠Z/\M≠me/\M≠b:=om;have Hd:=hid cm.out.2.2.2;clear cw dp b2 bv;go_wp2_with fail;obtain⟨wz,rfl⟩:∃wz:World,wz=W1:=⟨_,rfl⟩
 go_loopw [5,7] (λsv kv wr=>∃i:Nat,kv=rI i/\i<=n0/\sv=.bool (oP g S tp i).some_/\Rs wz wr b Z me M tp g (oP g S tp i)) (λ_ kv _=>n0-(intOf kv).toNat)
 case atStart=>exact⟨0,rfl,om,rfl,cU⟩
 case round=>
  obtain⟨i,rfl,hi,rfl,hS⟩:=hrel;have HS:=hid hS;clear cU hS;obtain⟨wo,rfl⟩:∃wo:World,wo=wr:=⟨_,rfl⟩;by_cases bc:i<n0
  .obtain⟨Sb,c,nl,hL,hN,c8,hK⟩:=HS.out
   have ay:=HI.out.iC hK dk.out;have cQ:=ay;obtain⟨ad,hA⟩:=ay.addr om;rw[hA]at ay;have ba:=λwx=>aP (m:=m0) hA bc wx;have hE:=ay.cell br bc;obtain⟨c1,c2⟩:=bW (g:=g) (i:=i) (by rw[Hn.out.2];exact bc);rw[c1]at hE;have U:=TD (g:=g) (S:=S) (tp:=tp) (i:=i) (by rw[Hn.out.2];exact bc);have ax:=V9 b7.out.1 i;obtain⟨n,cV⟩:=rX (cf g i);rw[cV]at hE c2 U;obtain⟨R,hR⟩:=rX (oP g S tp i);rw[hR]at hL hN U ax HS⊢;obtain⟨sm,cE⟩:=rX R.some_;rw[cE];have k0:wo.cell? ⟨b,0,none⟩=some (.map (some Z)):=by simp[World.cell?,hL.1]
   have bm:(Instr.lookup 225 (.map (some M)) (rI (n:Nat)) false).run prog wo=.ok (.bool (R.near n)) wo:=by
    have:=(hN.look (aF underlying3) underlying225 (Oo wo) ((n:Nat):Int)).2;rw[E9]at this;exact this
   have bg:(Instr.lookup 129 (.map (some Z)) (rI (n:Nat)) false).run prog wo=.ok (rI (R.S.lev n:Nat)) wo:=by
    have:=(hL.2.1.look (aF underlying3) underlying129 (z:=rI 0) (by simp[zeroValue3]) ((n:Nat):Int)).2;rw[CO g R.S _,nu c2]at this;exact this
   obtain⟨nr,cD⟩:=rX (R.near n);obtain⟨lv,cx⟩:=rX (R.S.lev n);rw[cD]at bm;rw[cx]at bg;have HR:=hid (rN U (rN c2 (rN ax (rN cE (rN cD cx)))));have HL:=hid (rN hL (rN hN c8));clear hA c1 U c2 ax hR cE cD cx hL hN c8 ay cV
   have bp:RS.step g.n tp R n=R->(sm=(oP g S tp (i+1)).some_/\∀wx,Below wo.heap.size wo wx->Rs wz wx b Z me M tp g (oP g S tp (i+1))):=λhh=>by
    rw[HR.out.1,hh];exact⟨HR.out.2.2.2.1.symm,λwx hb=>HS.out.below hb⟩
   have I:=hid bp;clear bp;by_cases ce:lv=0
   case neg=>
    have hd:decide ((0:Int)<((lv:Nat):Int))=true:=so;have J:=I.out (QP (by rw[HR.out.2.2.2.2.2];exact ce));have B:=hid J;clear J I HS HL;go_wp2;go_roundw
    case rel=>refine rR ?_;exact⟨i+1,by go_num,om,by rw[B.out.1],B.out.2 _ (be)⟩
    case measure=>exact rM
   subst ce;cases nr with
   |true=>
    have J:=I.out (vC HR.out.2.2.2.2.1);have B:=hid J;clear J I HS HL;go_wp2;go_roundw
    case rel=>refine rR ?_;exact⟨i+1,by go_num,om,by rw[B.out.1],B.out.2 _ (be)⟩
    case measure=>exact rM
   |false=>
    go_upto_block 2 with(fail)
    go_cut [9] (λv wx=>bf wx wo.heap.size v (rH R.S g.n n)/\Below wo.heap.size wo wx)
    case first=>
     obtain⟨ne,cC⟩:∃n',(dZ R.S g.n n).length=n':=⟨_,rfl⟩;have dg:ne<=256:=by rw[<-cC];exact Zg (dS R.S g.n n) Hn.out.1
     have cp:=hid cC;clear cC bm bg hE ba;go_wp2_with fail;obtain⟨wy,rfl⟩:∃wy:World,wy=wo:=⟨_,rfl⟩
     go_loopw [9,10] (λlv kv wr=>∃k:Nat,kv=rI k/\k<=ne/\bf wr wy.heap.size lv (((dZ R.S g.n n).take k).filter (λe=>decide (R.S.lev e.to_.toNat=0)))/\Below wy.heap.size wy wr) (λ_ kv _=>ne-(intOf kv).toNat)
     case atStart=>exact⟨0,rfl,om,bf.nil _ _,br⟩
     case round=>
      obtain⟨k,rfl,hk,hO,hB⟩:=hrel;have HO:=hid hO;have a0:=HL.out.1.below hB;have k0:wr.cell? ⟨b,0,none⟩=some (.map (some Z)):=by simp[World.cell?,a0.1]
      have k1:wr.cell? ⟨b,1,none⟩=some (.map (some me)):=by simp[World.cell?,a0.1]
      obtain⟨A5,m5,ar,b3⟩:=a0.look (fM HR.out.2.1);rw[cp.out]at b3;have cd:=b3 wr br;have Q:=hid (rN a0 (rN ar b3));clear hO a0 ar b3;by_cases cY:k<ne
      .obtain⟨e,he⟩:∃e,(dZ R.S g.n n)[k]? =some e:=⟨_,Zc (by rw[cp.out];exact cY)⟩
       obtain⟨t,ds,bq,bt⟩:=eH.1 (Ze he);obtain⟨gb,hA,a1,a2,a3,a4⟩:=Q.out.2.1.get he;have ba:=λwx=>gZ (m:=m5) hA cY wx;have b6:=Sa he;obtain⟨xt,⟨xs,xd⟩,xm⟩:=e;simp only at a1 a2 a3 a4 bq bt b6;subst bq;have db:=CJ HR.out.2.2.1 n t (by rw[bt];simp);simp only[Int.toNat_natCast]at b6;have bz:=hid b6;obtain⟨lt,bd⟩:=rX (R.S.lev t)
       have cg:∀q,(Instr.lookup 129 (.map (some Z)) (rI (t:Nat)) false).run prog (wr.drewN q)=.ok (rI (lt:Nat)) (wr.drewN q):=λq=>by
        have:=((Q.out.1.2.1.below (ak (n:=q) (Below.refl _ wr))).look (aF underlying3) underlying129 (z:=rI 0) (by simp[zeroValue3]) ((t:Nat):Int)).2;rw[CO g R.S _,nu db.2.1,bd]at this;exact this
       have bb:∀q,(Instr.lookup 124 (.map (some me)) (rI (n:Nat)) false).run prog (wr.drewN q)=.ok (.slice A5 ne m5) (wr.drewN q):=λq=>Q.out.2.2 _ (ak (Below.refl _ wr));have cJ:=hid bd
       have c4:(((dZ R.S g.n n).take k).filter (λe=>decide (R.S.lev e.to_.toNat=0))).length<=100000:=by
        have h1:=List.length_filter_le (λe:Ed=>decide (R.S.lev e.to_.toNat=0)) ((dZ R.S g.n n).take k);have h2:((dZ R.S g.n n).take k).length<=k:=by rw[List.length_take];omega
        omega
       clear hA he bt b6 db bd;go_upto_region 12 with(fail);by_cases c0:lt=0
       .subst c0
        have hd:((0:Int)==0)=true:=rfl;have L:=bz.out;rw[if_pos cJ.out]at L;have L:=hid L;go_quiet (fail);have aa:Below wy.heap.size wy (wr.drewN nq):=ak hB;have ag:Below wr.heap.size wr (wr.drewN nq):=ak br;have cn:=hid (HO.out.kept (w':=wr.drewN nq) (T:=[]) (.of_below ag) (λ_ _=>rS));have a1:=af ag a1;have a2:=af ag a2;have a3:=af ag a3;have a4:=af ag a4;have k1:=af ag k1;have c6:=bb nq;clear cg bb cd k0 HO hB ag Q bz;generalize wr.drewN nq=w5 at*;go_wp2_with (at_builtin;(refine cu _ rfl _ _ rfl wy.heap.size _ _ ⟨(t:Nat),⟨xs,xd⟩,xm⟩ rfl (cn.out.kept (T:=[]) (.of_below (ah br)) (λ_ _=>rS)) ⟨w5.heap.size,0,none⟩ rfl (λj u hu=>by rw[Addr.add_lit,Zx];exact dH (alloc_at w5 _ rfl) j u hu) c4 (by have:=aa.size;simp;omega) ?_);intro v' w9 bo a9)
        have J:=bo;rw[<-L.out]at J;have ab:Below wy.heap.size wy w9:=(ah aa).grown a9 (by have:=aa.size;simp;omega) (λk hk=>(World.ownsRow.lt cn.out k hk).1);have B:=hid (rN J ab);clear bo a9 J ab aa cn a1 a2 a3 a4 k1 c6 ba;go_wp2;go_roundw
        case rel=>refine rR ?_;exact⟨k+1,by go_num,om,B.out⟩
        case measure=>exact rM
       .have hd:(((lt:Nat):Int)==0)=false:=Zq.2 om
        have L:=bz.out;rw[if_neg (by rw[cJ.out];exact c0),List.append_nil]at L;go_quiet (fail);have aa:Below wy.heap.size wy (wr.drewN nq):=ak hB;have J:=HO.out.kept (w':=wr.drewN nq) (T:=[]) (.of_below (ak br)) (λ_ _=>rS);rw[<-L]at J;have B:=hid (rN J aa);clear L J aa cg bb cd k0 k1 HO hB Q bz a1 a2 a3 a4 ba;go_wp2;go_roundw
        case rel=>refine rR ?_;exact⟨k+1,by go_num,om,B.out⟩
        case measure=>exact rM
      .obtain rfl:k=ne:=om
       have J:=HO.out;rw[List.take_of_length_le (by rw[cp.out];exact Zi _)]at J;have B:=hid (rN J hB);clear HO Q J hB;go_wp2;go_meet
       case rel=>exact B.out
    case rest=>
     obtain⟨cv,ab⟩:=hcut;obtain⟨wA,rfl⟩:∃z:World,z=wc:=⟨_,rfl⟩;have a8:=λq hq=>(World.ownsRow.lt cv q hq).1;obtain⟨A1,m1,rfl,ar⟩:=cv.yI;obtain⟨nE,bk⟩:=rX ((rH R.S g.n n).length);have de:nE<=256:=by rw[<-bk];exact Zg (sP R.S g.n n) Hn.out.1
     have cB:(R.S.nb g.n n).length=nE:=by rw[<-bk,pI]
     have al:=LS.pQ R.S g.n n;obtain⟨nb,bl⟩:=rX (R.S.nb g.n n);rw[bl]at cB al;have cb:=CJ HR.out.2.2.1;have ck:=JS HR.out.2.2.1 b7.out.2;have cl:=hid ar;have O:=hid (rN bk (rN bl (rN cB (rN al (rN cb ck)))));rw[bk];clear cv ar bk bl cB al cb ck bm bg hE ba k0;go_upto_block 4 with(fail)
     refine Ty wA b Z me nl Sb tp g R cM.out O.out.2.2.2.2.1 O.out.2.2.2.2.2 (HL.out.1.below ab) A n0 m0 (cQ.below ab) Hn.out.2 n A1 nE m1 cl.out O.out.1 ?_;intro u11 u12 u13 u14 u15 u16 u17 u18 u84 u85 u86 u87 u88 u89 u90 u91 u92 u93 u94 u95 u96 u97 u98 u99 u100 u101 u102 u103 u104 u105 u106 u107 u108 u109 u110 u111 u112 u113 u114 u115 u116 u117 u118 u119 u120 u121 u122 u123 u124 u125 u126 u127 u128 u129 u130 u131 u132 u133 u134 u135 u136 u137 u138 u139 u140 u141 u142 u143 u144 u145 u146 u147 u148 u149 u150 u151 u152 wB dl;obtain⟨a6,a7,cP⟩:=dl;have ap:=λq hq=>(World.ownsRow.lt a6 q hq).1;have aq:=λq hq=>(World.ownsRow.lt a7 q hq).1;obtain⟨F,dv,dd,aw⟩:=a6.ints;obtain⟨dj,dx,rfl,b9⟩:=a7.yI;subst dd;obtain⟨lm,b4⟩:=rX ((R.S.more g.n n).length);rw[Zr,b4]at aw;rw[Zr,Zr,b4];have bx:=hid b4;have b0:=ae ab cP;have cF:=hid (rN aw ap);have cG:=hid (rN b9 aq);have cI:=hid (rN (cl.out.below cP) a8)
     clear a6 a7 ap aq aw b9 b4 a8 cl;by_cases bh:nE<lm
     .have bj:(R.S.nb g.n n).length<(R.S.more g.n n).length:=by rw[O.out.2.1,O.out.2.2.1,bx.out];exact bh
      have J:=I.out (vB bj);have B:=hid (rN J.1 (J.2 _ b0));clear J bj I HS HL;go_wp2;go_roundw
      case rel=>refine rR ?_;exact⟨i+1,by go_num,om,by rw[B.out.1],B.out.2⟩
      case measure=>exact rM
     .have bj:¬(R.S.nb g.n n).length<(R.S.more g.n n).length:=by rw[O.out.2.1,O.out.2.2.1,bx.out];exact bh
      have ai:=BG (N:=g.n) (tp:=tp) HR.out.2.2.2.2.2 HR.out.2.2.2.2.1 bj;rw[<-HR.out.1]at ai;have ao:=hid ai;have am:=hid (rN (HL.out.1.below b0) (rN (HL.out.2.1.below b0) HL.out.2.2));have dn:=hid (HS.out.below b0);have d4:M<wo.heap.size:=HL.out.2.1.lt;have dT:wo.heap.size<=wA.heap.size:=ab.size;have b8:∀ad,A1=some ad->ad.block∉[M]:=λad e=>by have:=cI.out.2 ad.block (by rw[e];rfl);simp;omega
      have cH:=hid b8;clear ai bj I HS HL b8;go_upto_block 8 with(fail)
      go_cut [] (λwx=>(∃c,MapAt iK wx M (kL λt=>R.near t||decide (t∈R.S.nb g.n n)) c)/\Kept [M] wB wx)
      case first=>
       go_wp2_with fail;go_loopw [19] (λkv wx=>∃(j:Nat)(c:Nat),kv=rI j/\j<=nE/\MapAt iK wx M (kL (sV R.near (R.S.nb g.n n) j)) c/\Kept [M] wB wx) (λkv _=>nE-(intOf kv).toNat)
       case atStart=>exact⟨0,c,rfl,om,by rw[y7];exact am.out.2.1,Kept.refl _ _⟩
       case round=>
        obtain⟨j,cj,rfl,hj,a5,aS⟩:=hrel;by_cases c5:j<nE
        .obtain⟨x,hx⟩:∃x,(rH R.S g.n n)[j]? =some x:=⟨_,Zc (by rw[O.out.1];exact c5)⟩
         obtain⟨t,ds,bq,bt,dt,da,du⟩:=qU hx;obtain⟨gb,hA,a1,a2,a3,a4⟩:=(cI.out.1.kept aS cH.out).get hx;have cW:=λwx=>gZ (m:=m1) hA c5 wx;obtain⟨xt,⟨xs,xd⟩,xm⟩:=x;simp only at a1 bq;subst bq;have Ht:=hid da;clear hx bt dt da du hA a2 a3 a4;go_wp2_with (refine bV rfl _ _ _ rfl (aF underlying3) underlying225 a5 rfl ((t:Nat):Int) rfl (.bool true) rfl ?_;intro wU cy cX);rw[Ba,yZ Ht.out]at cy;have B:=hid (rN cy (aS.trans cX));clear cy cX aS a5 a1 cW;go_wp2
         go_roundw
         case rel=>refine rR ?_;exact⟨j+1,_,by go_num,om,B.out⟩
         case measure=>exact rM
        .obtain rfl:j=nE:=om
         rw[A9 (by rw[O.out.2.1,O.out.2.2.1];exact Zi _)]at a5;have B:=hid (rN a5 aS);clear a5 aS;go_wp2;go_meet
         case rel=>exact⟨⟨_,B.out.1⟩,B.out.2⟩
      case rest=>
       obtain⟨⟨cN,cR⟩,cq⟩:=hcut;obtain⟨wC,rfl⟩:∃z:World,z=wc:=⟨_,rfl⟩;have bi:Z∉[M]/\me∉[M]/\b∉[M]:=so
       have b1:=am.out.1.kept cq (λk hk=>by
        rcases Zd.1 hk with r|hk
        .rw[r];exact bi.2.2
        rcases Zd.1 hk with r|hk
        .rw[r];exact bi.1
        rcases Zd.1 hk with r|hk
        .rw[r];exact bi.2.1
        .simp;rintro rfl;exact am.out.2.2 hk)
       have k0:wC.cell? ⟨b,0,none⟩=some (.map (some Z)):=by simp[World.cell?,b1.1]
       have k2:wC.cell? ⟨b,2,none⟩=some (rI (tp:Nat)):=by simp[World.cell?,b1.1]
       have cs:=b1.below (aj br);obtain⟨wU,c9,ct,ac⟩:=cs.2.1.store (P:=prog) (mt:=129) (aF underlying3) underlying129 ((n:Nat):Int) (rI (tp:Nat));rw[Mc (T:=TK (R.S.more g.n n) 0) HR.out.2.1 om]at ct;have cr:=cs.lev ct ac;have aE:Kept [Z] wC wU:=⟨ac.os,ac.tape,ac.output,ac.size,ac.block⟩;rw[show eZ g R.S=eZ g (R.S.part n tp (TK (R.S.more g.n n) 0))by rw[Rx,Lp]]at cr;have cS:=cR.kept aE so;have ca:Kept [M,Z] wB wU:=(cq.wid rS).trans (aE.wid rS);have HU:=hid (rN cr (rN cS ca));clear b1 cs ct cr ac aE cS ca cR cq;go_upto_region 34 with(fail);go_region;have bw:=hid (rN HU.out.2.1 HU.out.2.2);have cL:=hid am.out.2.2;clear c9 k0 k2 am;go_upto_block 10 with(fail)
       refine Tz wU wB b Z me _ M Sb tp g R cM.out O.out.2.2.2.2.1 n F lm dv dj dx bx.out om cF.out.1 cG.out.1 (λad e=>by have:=cF.out.2 ad.block (by rw[e];rfl);simp;omega) (λad e=>by have:=cG.out.2 ad.block (by rw[e];rfl);simp;omega) bw.out.2 bw.out.1.lt om HU.out.1 cL.out ?_;intro u20 u21 u179 u180 u181 u182 u183 u184 u185 u186 u187 u188 u189 u190 u191 u192 u193 u194 u195 u196 u197 u198 u199 u200 u201 u202 u203 u204 u205 u206 u207 u208 u209 u210 u211 u212 u213 u214 u215 u216 u217 u218 u219 u220 u221 u222 u223 u224 u225 u226 u227 u228 u229 wE cT;obtain⟨Sc,dy,hL,ch,hK⟩:=cT;have HL:=hid (rN hL (rN ch hK));clear hL ch hK
       have J:Rs wz wE b Z me M tp g (oP g S tp (i+1)):=by
        have e:=LS.Fs (S:=R.S) (N:=g.n) (n:=n) (top:=tp) (T:=TK (R.S.more g.n n) lm) (λa b=>U6 (by rw[bx.out];exact Zi _) a b);have q:=HL.out.1;rw[e]at q;obtain⟨_,_,_,_,_,_,q4⟩:=dn.out;rw[ao.out];refine⟨Sc,_,dy,q,bw.out.1.kept HL.out.2.2 so,HL.out.2.1,(q4.trans (bw.out.2.wid ?_)).trans (HL.out.2.2.wid rS)⟩;intro z hz;simp at hz;rcases hz with rfl|rfl<;>simp
       have ci:true=(oP g S tp (i+1)).some_:=by rw[ao.out]
       have B:=hid (rN ci J);clear J ci HL;go_wp2;go_roundw
       case rel=>refine rR ?_;exact⟨i+1,by go_num,om,by rw[B.out.1],B.out.2⟩
       case measure=>exact rM
  .obtain rfl:i=n0:=om
   have J:=HS.out.fin (by rw[Hn.out.2];exact Zi _) co om;have B:=hid J;clear J HS;go_wp2;go_ret;exact B.out
