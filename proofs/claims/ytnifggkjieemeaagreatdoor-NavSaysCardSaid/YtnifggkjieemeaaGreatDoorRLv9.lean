/- Lemmas of this claim: RLv9. -/
import Derived.Test.YtnifggkjieemeaaGreatDoorRLv7
set_option linter.unusedVariables false
set_option linter.unusedSimpArgs false
set_option maxHeartbeats 6400000
set_option maxRecDepth 100000
open Go.Proofs.Tryz
namespace Go.Proofs.YtnifggkjieemeaaGreatDoor
open Go.Lib (hid)
open Go.RowKit Go.Sort FR Go.Lib
theorem Tw(w:World)(gb ax:Nat)(GS:List Nat)(A:Option Addr)(n0 m0:Nat)(g:G)(a8:g.ok)(h:lK w gb ax GS A n0 m0 g)(hd:gb≠ax)(most:Nat)(h1:1<=most)(h2:most<=6):Calls prog 58 #[vP gb,rI (most:Nat)] w (WE w g most):=by
 have hn:=G.bA a8;have b7:=@run_makeMap prog;obtain⟨g1,hI,a7,ch,hE⟩:=h;have b8:n0<=256:=by rw[<-a7];exact bM a8
 rw[<-a7,I5]at hE;have B:w.cell? ⟨gb,0,none⟩=some (.slice A n0 m0):=by simp[World.cell?,g1]
 have ar:w.cell? ⟨gb,1,none⟩=some (.map (some ax)):=by simp[World.cell?,g1]
 obtain⟨V,NG,e1,e2,e3,e4,e5,e6,e7⟩:=hE;have cj:gb<w.heap.size:=(Za.1 g1).1;have cd:ax<w.heap.size:=e1.lt;have HI:=hid hI;have bl:=hid a8;have Hn:=hid (rN hn a7);have HG:=hid (rN e1 (rN e2 (rN e3 (rN e4 (rN e5 (rN e6 e7))))))
 have am:Hid (0<n0->∀ad,A=some ad->ad.block<w.heap.size):=hid λhp ad e=>by
  obtain⟨cg,e',aE,_⟩:=hI hp;rw[e']at e;injection e with e;subst e
  exact aE
 clear g1 hI a8 hn a7 e1 e2 e3 e4 e5 e6 e7;go_enter func58,ntmps58;go_upto_region 2 with(fail);refine aB ?_;intro W4 ai;have M:Below w.heap.size w W4:=by rw[ai];exact be
 obtain⟨O,bz⟩:=rX w.heap.size;obtain⟨me,b6⟩:=rX (O+1);obtain⟨b,hb⟩:=rX (me+1);rw[bz]at ai⊢;rw[b6]at ai⊢;rw[hb];have q1:MapAt iK (w.alloc (.map #[] 0)) w.heap.size (λ_=>none) 0:=MapAt.made w;have q2:MapAt iK ((w.alloc (.map #[] 0)).alloc (.map #[] 0)) (w.alloc (.map #[] 0)).heap.size (λ_=>none) 0:=MapAt.made _
 have bh:W4.heap[b]? =some (.cells #[.map (some O),.map (some me),rI ((1:Nat):Int)] 131 (0,0)):=by
  have:=heap_alloc_new ((w.alloc (.map #[] 0)).alloc (.map #[] 0)) (.cells #[.map (some O),.map (some me),rI 1] 131 (0,0));have e:((w.alloc (.map #[] 0)).alloc (.map #[] 0)).heap.size=b:=so;rw[e]at this;rw[ai];exact this
 have bt:MapAt iK W4 O (ic g (LS.first g)) 0:=by
  rw[Ie,ai];rw[bz]at q1;exact(q1.below (ah br)).below (ah br)
 have bv:MapAt iK W4 me (Ab g V 0) 0:=by
  rw[Nb,ai];have e:(w.alloc (.map #[] 0)).heap.size=me:=so;rw[e]at q2;exact q2.below (ah br)
 have B:=af M B;have ar:=af M ar;have a9:W4.cell? ⟨b,1,none⟩=some (.map (some me)):=by simp[World.cell?,bh]
 have bb:=hid (rN B (rN ar a9));have HM:=hid (rN bh bt);clear ai q1 q2 bh bt b7 B ar a9;go_wp2_with fail;obtain⟨wz,rfl⟩:∃wz:World,wz=W4:=⟨_,rfl⟩;have b9:b<wz.heap.size:=(Za.1 HM.out.1).1
 go_loopw [6] (λkv wr=>∃(i N:Nat),kv=rI i/\i<=n0/\MapAt iK wr me (Ab g V i) N/\Kept [me] wz wr) (λkv _=>n0-(intOf kv).toNat)
 case atStart=>exact⟨0,0,rfl,om,bv,Kept.refl _ _⟩
 case round=>
  obtain⟨i,N,rfl,hi,hM,hK⟩:=hrel;clear bv;have B:=aH hK so bb.out.1;have ar:=aH hK so bb.out.2.1;have a9:=aH hK so bb.out.2.2;have ao:=hid (rN hM hK);by_cases aE:i<n0
  .have R:=(HI.out.below M).iC hK (λhp ad e=>by have:=am.out hp ad e;simp;omega)
   obtain⟨ad,ab⟩:=R.addr om;rw[ab]at R;have bw:=λwx=>aP (m:=m0) ab aE wx;have hE:=R.cell br aE;obtain⟨c1,c2⟩:=bW (g:=g) (i:=i) (by rw[Hn.out.2];exact aE);rw[c1]at hE
   obtain⟨u,hu⟩:∃u,V (cf g i:Nat)=some u:=by
    cases hV:V (cf g i:Nat)with
    |none=>have:=(HG.out.2.1 _).2 hV;rw[fM c2]at this;cases this
    |some u=>exact⟨u,rfl⟩
   have b5:(Instr.lookup 124 (.map (some ax)) (rI (cf g i:Nat)) false).run prog wr.drew=.ok u wr.drew:=by
    have:=((((HG.out.1.below M).kept hK so).below (aj br)).look (aF underlying3) underlying124 (z:=.slice none 0 0) (by simp[zeroValue119]) ((cf g i:Nat):Int)).2;rw[hu]at this;exact this
   obtain⟨wU,ba,ag,I⟩:=(hM.below (aj br)).store (P:=prog) (mt:=124) (aF underlying3) underlying124 ((cf g i:Nat):Int) u;rw[Na g V i hu]at ag;have aa:Kept [me] wr wU:=⟨I.os,I.tape,I.output,I.size,I.block⟩;have HF:=hid (rN ag (hK.trans aa));obtain⟨c,hc⟩:=rX (cf g i);rw[hc]at hE b5 ba;clear R ab c1 c2 hu ag I aa hM hK ao hc;go_upto_region 5 with(fail);go_region;go_wp2;go_roundw
   case rel=>refine rR ?_;exact⟨i+1,_,by go_num,om,HF.out⟩
   case measure=>exact rM
  .obtain rfl:i=n0:=om
   have ap:oo wr b O me GS ((1:Nat):Int) (ic g (LS.first g)) 0 (eZ g (LS.first g)):=by
    have hm:=ao.out.1;rw[<-Hn.out.2]at hm;refine⟨(ao.out.2.block b b9 so).trans HM.out.1,HM.out.2.kept ao.out.2 so,cz.copy (w:=w) HG.out.2.1 HG.out.2.2.1 HG.out.2.2.2.1 HG.out.2.2.2.2.2.1 HG.out.2.2.2.2.2.2 hm ((Kept.of_below M).trans ao.out.2) (λaS=>by have:=HG.out.2.2.2.2.2.2 _ aS;omega),λaS=>by have:=HG.out.2.2.2.2.2.2 _ aS;omega,λaS=>by have:=HG.out.2.2.2.2.2.2 _ aS;omega,om,om,om⟩
   obtain⟨N0,b3⟩:∃N0,N0=most-1:=⟨_,rfl⟩;have hstart:U4 wr b O me g most N0 wr:=⟨most-1,1,15,LS.first g,GS,0,ap,LS.uH bl.out g.n (Zi _),λ_=>by show(0:Nat)<1;omega,rS,om,om,rfl,Kept.refl _ _,om⟩;have bk:=hid ((HI.out.below M).iC hK (λhp ad e=>by have:=am.out hp ad e;simp;omega));have aw:=hid (rN B hK);clear ap b3 hM hK ao ar a9;go_upto_block 2 with(fail)
   obtain⟨wy,rfl⟩:∃z:World,z=wr:=⟨_,rfl⟩;go_cut [] (λwx=>U3 wy b O me g most wx)
   case first=>
    go_wp2_with fail;go_loopg [] N0 (λgk wr=>U4 wy b O me g most gk wr)
    case atStart=>exact hstart
    case round=>
     obtain⟨k,F,K,S,Sb,nl,hL,ay,al,hK,ce,ck,a0,U,ci⟩:=hrel;clear hstart;have k2:wr.cell? ⟨b,2,none⟩=some (rI (F:Nat)):=by simp[World.cell?,hL.1]
     have B:=aH U so aw.out.1;have HL:=hid (rN hL U);have J:=hid (rN ay (rN al (rN hK a0)));have cR:=hid (λb2=>VZ wr b O me nl Sb F K g S bl.out ay b2 hL A i m0 (bk.out.iC U (λhp ad e=>by have:=am.out hp ad e;simp;omega)) Hn.out.2 (λhp ad e=>by have:=am.out hp ad e;omega));clear hL ay al hK a0 U;by_cases b4:k=0
     .subst b4
      obtain rfl:F=most:=om;have hF:=hid (show U3 wy b O me g F wr from⟨S,F,Sb,nl,HL.out.1,J.out.2.2.2,HL.out.2⟩);clear HL J cR;go_wp2;go_meet
      case rel=>exact hF.out
     .obtain⟨k,rfl⟩:∃j,k=j+1:=⟨k-1,om⟩
      have cb:((F:Nat):Int)<(most:Nat):=om;have cR:=hid (cR.out (I6 J.out.2.2.1 om));go_wp2_with fail;(with_reducible refine cR.out.mono ?_);rintro e w8 ⟨rfl,bo,b0,aq,bi⟩;have a2:=LS.lU (az g) ⟨S,λ_=>false,false⟩ J.out.1 (λn hn=>dm.1 hn);have hr:(if(RS.run g.n F (az g) S).some_=true then LS.rounds g.n (az g) k (F+1) (RS.run g.n F (az g) S).S else((RS.run g.n F (az g) S).S,F))=LS.rounds g.n (az g) (most-1) 1 (LS.first g):=J.out.2.2.2;have a5:=HL.out.2.trans (bi.wid (T:=[b,O,me]) rS);obtain⟨t,ht⟩:=rX ((RS.run g.n F (az g) S).some_);rw[ht]at hr⊢;cases t with
      |false=>
       rw[if_neg rS]at hr;have hF:=hid (show U3 wy b O me g most w8 from⟨_,F,bo,b0,aq,hr,a5⟩);clear HL J cR aq bi a2 hr a5 ht k2 B;go_wp2;go_meet
       case rel=>exact hF.out
      |true=>
       rw[if_pos rfl]at hr;have k2:w8.cell? ⟨b,2,none⟩=some (rI ((F:Nat):Int)):=by simp[World.cell?,aq.1]
       have kf:w8.frozen? ⟨b,2,none⟩=false:=by simp[World.frozen?,aq.1]
       have hw:IntKind.i64.wrap (((F:Nat):Int)+1)=((F+1:Nat):Int):=by rw[IntWalk.i64_in _ om];omega
       have bp:2*K<=15*2^(F+1-1):=by
        have hK:=J.out.2.2.1;obtain⟨j,rfl⟩:∃j,F=j+1:=⟨F-1,om⟩;simp only[Nat.add_sub_cancel]at hK⊢;rw[Nat.pow_succ];omega
       have hF:U4 wy b O me g most k (w8.setCell ⟨b,2,none⟩ (rI ((F+1:Nat):Int))):=⟨k,F+1,2*K,_,bo,b0,aq.top,a2.next,λa=>Nat.lt_succ_of_le (a2.levs a),bp,om,om,hr,a5.setCell (.inl rS),Zi _⟩;have hF:=hid hF;clear HL J cR aq bi a2 hr a5 ht B bp;go_wp2;go_roundg k
       case measure=>omega
       case rel=>exact hF.out
   case rest=>
    obtain⟨S,F,Sb,nl,hL,a0,U⟩:=hcut;obtain⟨wq,rfl⟩:∃z:World,z=wc:=⟨_,rfl⟩;have B:=aH U so aw.out.1;have k0:wq.cell? ⟨b,0,none⟩=some (.map (some O)):=by simp[World.cell?,hL.1]
    have k2:wq.cell? ⟨b,2,none⟩=some (rI (F:Nat)):=by simp[World.cell?,hL.1]
    have bc:=hid (rN B (rN k0 k2));have b1:=hid (bk.out.iC U (λhp ad e=>by have:=am.out hp ad e;simp;omega));have ap:=hL;rw[<-Ma g S F]at ap;have a1:=hid (rN a0 U);clear hL a0 U hstart B k0 k2;go_wp2_with fail;go_loopw [8] (λkv wr=>∃(j nl:Nat),kv=rI j/\j<=i/\oo wr b O me Sb (F:Nat) (qY g S F j) nl (eZ g S)/\Kept [O] wq wr) (λkv _=>i-(intOf kv).toNat)
    case atStart=>exact⟨0,nl,rfl,om,ap,Kept.refl _ _⟩
    case round=>
     obtain⟨j,ca,rfl,hj,a3,ac⟩:=hrel;clear ap;have B:=aH ac so bc.out.1;have k0:=aH ac so bc.out.2.1;have k2:=aH ac so bc.out.2.2;have Q:=hid (rN a3 ac);by_cases bj:j<i
     .have R:=b1.out.iC ac (λhp ad e=>by have:=am.out hp ad e;simp;omega)
      obtain⟨ad,ab⟩:=R.addr om;rw[ab]at R;have bw:=λwx=>aP (m:=m0) ab bj wx;have hE:=R.cell br bj;have a4:j<(aA g).length:=by rw[Hn.out.2];exact bj
      obtain⟨c1,c2⟩:=bW (g:=g) (i:=j) a4;rw[c1]at hE
      have a6:∀q,(Instr.lookup 129 (.map (some O)) (rI (cf g j:Nat)) false).run prog (wr.drewN q)=.ok (rI (S.lev (cf g j):Nat)) (wr.drewN q):=λq=>by
       have:=((a3.2.1.below (ak (n:=q) (Below.refl _ wr))).look (aF underlying3) underlying129 (z:=rI 0) (by simp[zeroValue3]) ((cf g j:Nat):Int)).2;rw[EN a4,Pz c2]at this;exact this
      have hset:=Py (g:=g) (S:=S) (top:=F) a4;have Z:=L9 (g:=g) (S:=S) (top:=F) a4;obtain⟨c,hc⟩:=rX (cf g j);rw[hc]at hE a6 hset Z;obtain⟨lt,al⟩:=rX (S.lev c);rw[al]at a6 hset Z;have bm:=hid (rN hset Z);clear R ab c1 c2 hc a3 ac hset Z;go_upto_region 13 with(fail);by_cases bx:lt=0
      .subst bx
       have hd:((0:Int)==0)=true:=rfl;go_quiet (fail);have L:Below wr.heap.size wr (wr.drewN nq):=ak br;have B:=af L B;have k0:=af L k0;have k2:=af L k2;have hE:=af L hE;have bd:=hid (rN (Q.out.1.below L) (Q.out.2.trans (.of_below L)));clear a6 Q L;generalize wr.drewN nq=w5 at*;have bg:=bd.out.1.below (aj br);obtain⟨wU,ba,ag,I⟩:=bg.2.1.store (P:=prog) (mt:=129) (aF underlying3) underlying129 ((c:Nat):Int) (rI (F:Nat));rw[bm.out.1 rfl]at ag;have bq:=bg.lev ag I;have aa:Kept [O] w5 wU:=⟨I.os,I.tape,I.output,I.size,I.block⟩;have HF:=hid (rN bq (bd.out.2.trans aa));clear bg ag I bq aa bd;go_upto_region 14 with(fail);go_region;go_wp2;go_roundw
       case rel=>refine rR ?_;exact⟨j+1,_,by go_num,om,HF.out⟩
       case measure=>exact rM
      .have hd:(((lt:Nat):Int)==0)=false:=Zq.2 om
       go_quiet (fail);have L:Below wr.heap.size wr (wr.drewN nq):=ak br;have hF:=Q.out.1.below L;rw[bm.out.2 bx]at hF;have HF:=hid (rN hF (Q.out.2.trans (.of_below L)));clear a6 Q L hF B k0 k2 hE bw;go_wp2;go_roundw
       case rel=>refine rR ?_;exact⟨j+1,_,by go_num,om,HF.out⟩
       case measure=>exact rM
     .obtain rfl:j=i:=om
      have hF:WE w g most (.returned (vP b)) wr:=by
       have q:=Q.out.1;rw[<-Hn.out.2,Px]at q;have e1:(LS.all g (az g) most).1=S.close (az g) F:=by unfold LS.all;rw[<-a1.out.1]
       have e2:(LS.all g (az g) most).2=F:=by unfold LS.all;rw[<-a1.out.1]
       refine⟨b,O,me,Sb,ca,rfl,by rw[e1,e2];exact q,?_⟩;exact Kept.below (Kept.below (Kept.below M aw.out.2 M.size so) a1.out.2 (Zg M.size aw.out.2.size) so) Q.out.2 (Zg M.size (Zg aw.out.2.size a1.out.2.size)) so
      have hF:=hid hF;clear Q a3 ac k0 k2;go_wp2;go_ret;exact hF.out
