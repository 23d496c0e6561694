/- Lemmas of this claim: Lv6, Lv7, MathDet, Sr0. -/
import Derived.Test.YtnifggkjieemeaaGreatDoorKNNs23
set_option linter.unusedVariables false
set_option linter.unusedSimpArgs false
set_option maxHeartbeats 3200000
set_option maxRecDepth 100000
open Go.Proofs.Tryz
namespace Go.Proofs.YtnifggkjieemeaaGreatDoor
open Go.Lib (hid)
open Go.RowKit Go.Sort FR Go.Lib
variable {g:G}{S:LS}{P R:List (Nat×Nat)}{l:List Nat}{K a b i j mo n tp:Nat}{T:Nat->Nat->Prop}{w:World}
theorem sZ:∀{l:List Nat},l.Pairwise (· < ·)->(LS.bF l).Nodup
 |[],_=>by simp[LS.bF]
 |a::l,h=>by
  rw[List.pairwise_cons]at h;unfold LS.bF;rw[List.nodup_append];refine⟨?_,sZ h.2,?_⟩
  .unfold List.Nodup
   rw[List.pairwise_map];exact h.2.imp (λh e=>by injection e with _ e;omega)
  .intro p hp q k e
   subst e;obtain⟨b,_,rfl⟩:=List.mem_map.1 hp;have:=((LS.qZ h.2).1 k).1;have:=h.1 a this;omega
open Classical in
noncomputable def aX(S:LS)(n:Nat)(P:List (Nat×Nat)):List (Nat×Nat):=P.filter λp=>decide (S.iI n p.1 p.2)
theorem wW(S:LS)(N n:Nat):aX S n (LS.bF (S.nb N n))=S.more N n:=rfl
def gB(w:World)(mo:Nat)(S:LS)(n:Nat)(P:List (Nat×Nat)):Prop:=MapAt kP w mo (lu S n λa b=>(a,b)∈aX S n P) (aX S n P).length
theorem gB.below{w w':World}(h:gB w mo S n P)(k:Below w.heap.size w w'):gB w' mo S n P:=MapAt.below h k
theorem gB.no(h:gB w mo S n P)(k:¬S.iI n a b):gB w mo S n (P++[(a,b)]):=by
 unfold gB
 have:aX S n (P++[(a,b)])=aX S n P:=by
  unfold aX;rw[List.filter_append];simp[k]
 rw[this];exact h
theorem Iq{T T':Nat->Nat->Prop}(h:∀a b,T a b↔T' a b):lu S n T=lu S n T':=by
 have:T=T':=by funext a b;exact propext (h a b)
 rw[this]
theorem gB.yes{w':World}(F:S.iI n a b)(B:(a,b)∉P)(h:MapAt kP w' mo (aN (lu S n λa b=>(a,b)∈aX S n P) (((a:Nat):Int),((b:Nat):Int)) (some (Wo ⟨(b:Nat),C.add (S.cost n a) (S.cost n b),(n:Nat)⟩))) (if((lu S n λa b=>(a,b)∈aX S n P) (((a:Nat):Int),((b:Nat):Int))).isSome then(aX S n P).length else(aX S n P).length+1)):gB w' mo S n (P++[(a,b)]):=by
 have k:(a,b)∉aX S n P:=λm=>B (List.mem_filter.1 m).1
 have u:lu S n (λa b=>(a,b)∈aX S n P) (((a:Nat):Int),((b:Nat):Int))=none:=by
  unfold lu;rw[if_neg];rintro⟨_,_,m⟩;simp at m;exact k m
 rw[Ql,u]at h
 have z:aX S n (P++[(a,b)])=aX S n P++[(a,b)]:=by
  unfold aX;rw[List.filter_append];simp[F]
 unfold gB;rw[z];simp only[Option.isSome_none,Bool.false_eq_true,if_false]at h;rw[Zp];rw[Iq (T':=λx y=>(x,y)∈aX S n P\/(x=a/\y=b)) (λx y=>rS)];exact h
theorem gB.none(h:MapAt kP w mo (λ_=>Option.none) 0):gB w mo S n []:=by
 unfold gB
 have:(lu S n λa b=>(a,b)∈aX S n [])=λ_=>Option.none:=by
  funext k;unfold lu aX;simp
 rw[this];exact h
def Dz(w:World)(S:LS)(n N:Nat)(e:Ending)(w':World):Prop:=∃mo,e=.returned (.map (some mo))/\MapAt kP w' mo (lu S n λa b=>(a,b)∈S.more N n) (S.more N n).length/\w.heap.size<=mo/\Below w.heap.size w w'
theorem Ad{I:Array Oper}{u:List Oper}{o:Oper}{a:Act}{Q:Exit->Act->World->Prop}(U:o.guard=none)(x O:Operand)(F:o.op=Op.slice 119 x (some O) none none)(g n m l:Nat)(M:a.eval x=.slice (some ⟨g,0,none⟩) n m)(B:a.eval O=rI (l:Nat))(S:l<=n)(T:n<=m)(L:∀J P,(l<n->J=some ⟨g,l*4,none⟩)->wpList prog I Q u (a.put o.dst (.slice J (n-l) P)) w):wpList prog I Q (o::u) a w:=by
 refine wpList_plain U λR z=>?_;unfold Oper.wp;by_cases Z:m=l
 .have k:(Instr.sliceAt 119 (.slice (some ⟨g,0,none⟩) n m) (some (rI (l:Nat))) none none).run prog w=.ok (.slice (some ⟨g,0,none⟩) (n-l) (m-l)) w:=by
   unfold Instr.sliceAt;go_simp
  simp[execOp,F,M,B,k,Result.andThen];exact z _ _ (L _ _ om)
 .have k:(Instr.sliceAt 119 (.slice (some ⟨g,0,none⟩) n m) (some (rI (l:Nat))) none none).run prog w=.ok (.slice (some ⟨g,l*4,none⟩) (n-l) (m-l)) w:=by
   unfold Instr.sliceAt;go_simp
  simp[execOp,F,M,B,k,Result.andThen];exact z _ _ (L _ _ (λ_=>rfl))
theorem WY{A:Option Addr}{g l n m k:Nat}(h:A=some ⟨g,l*4,none⟩)(z:k<n)(u:World):(Instr.indexAt 119 (.slice A n m) (rI (k:Nat))).run prog u=.ok (.pointer (some ⟨g,l*4+k*4,none⟩)) u:=by
 subst h;have q:(k:Int)<(n:Int):=om;go_simp
theorem Bo(h:LS.bF l=P++LS.bF (l.drop i))(k:l[i]? =some a):LS.bF l=P++((((l.drop (i+1)).drop 0).map λb=>(a,b))++LS.bF (l.drop (i+1))):=by
 obtain⟨m,e⟩:=Zb.1 k;rw[h,List.drop_eq_getElem_cons m,e];rfl
theorem zt(h:LS.bF l=P++((((l.drop (i+1)).drop j).map λb=>(a,b))++R))(m:l[i+1+j]? =some b):LS.bF l=(P++[(a,b)])++((((l.drop (i+1)).drop (j+1)).map λb=>(a,b))++R):=by
 have k:(l.drop (i+1))[j]? =some b:=by rw[List.getElem?_drop];exact m
 obtain⟨u,e⟩:=Zb.1 k;rw[h,List.drop_eq_getElem_cons u,e];simp
theorem Tt(z:l.Pairwise (· < ·))(h:LS.bF l=P++((((l.drop (i+1)).drop j).map λb=>(a,b))++R))(u:l[i+1+j]? =some b):(a,b)∉P:=by
 have m:=zt h u;have k:=sZ z;rw[m,List.append_assoc,List.nodup_append]at k;intro B;exact k.2.2 _ B _ rS rfl
theorem Km(h:LS.bF l=P++((((l.drop (i+1)).drop j).map λb=>(a,b))++R))(k:l.length<=i+1+j):LS.bF l=P++R:=by
 rw[h,List.drop_drop,List.drop_eq_nil_of_le om];rfl
theorem Kl(h:LS.bF l=P++LS.bF (l.drop i))(k:l.length<=i):P=LS.bF l:=by
 rw[h,List.drop_eq_nil_of_le k];simp[LS.bF]
theorem PK(w:World)(b ml me nl:Nat)(Sb:List Nat)(top:Int)(g:G)(S:LS)(bo:g.ok)(hc:I4 g S)(hs:NU S)(n:Nat)(ck:S.lev n=0)(h:dF w b ml me Sb top (bN g S) nl (eZ g S))(gb nE m:Nat)(hE:bP w (some ⟨gb,0,none⟩) (rH S g.n n))(bl:(rH S g.n n).length=nE)(hm:nE<=m):Calls prog 137 #[vP b,rI (n:Nat),.slice (some ⟨gb,0,none⟩) nE m] w (Dz w S n g.n):=by
 have hn:=G.bA bo;have cI:=@run_makeMap prog;have cs:nE<=256:=by have:=sP S g.n n;omega
 have bm:(S.nb g.n n).length=nE:=by rw[<-bl,pI]
 have T:=LS.pQ S g.n n;obtain⟨nb,ay⟩:=rX (S.nb g.n n);rw[ay]at bm T;have H:=hid h;have cB:=hid bo;have Hc:=hid hc;have Hs:=hid hs;have Hn:=hid (rN hn ck);have HE:=hid hE;have b3:=hid bl;have ab:=hid (rN ay (rN bm T));clear h hc hs ck bo hn hE bl bm T ay;go_enter func137,ntmps137;go_upto_region 2 with(fail);refine aB ?_;intro W1 a6;have cy:Below w.heap.size w W1:=by rw[a6];exact be
 have bj:MapAt kP W1 w.heap.size (λ_=>none) 0:=by rw[a6];exact MapAt.made w
 have cP:W1.heap.size=w.heap.size+1:=by rw[a6];simp
 obtain⟨mo,cJ⟩:=rX w.heap.size;rw[cJ]at bj⊢;have b7:=gB.none (S:=S) (n:=n) bj;clear a6 cI bj;go_wp2_with fail;obtain⟨wz,rfl⟩:∃wz:World,wz=W1:=⟨_,rfl⟩
 go_loopw [19] (λkv wr=>∃(i:Nat)(P:List (Nat×Nat)),kv=rI i/\i<=nE/\LS.bF nb=P++LS.bF (nb.drop i)/\gB wr mo S n P/\Below w.heap.size w wr) (λkv _=>nE-(intOf kv).toNat)
 case atStart=>exact⟨0,[],rfl,om,rfl,b7,cy⟩
 case round=>
  obtain⟨i,P,rfl,hi,hP,hO,hB⟩:=hrel;clear b7;have HP:=hid hP;have HO:=hid hO;clear hP hO;by_cases ci:i<nE
  .obtain⟨x,hx⟩:∃x,(rH S g.n n)[i]? =some x:=⟨_,Zc (by rw[b3.out];exact ci)⟩
   obtain⟨t,cQ,cp,ba,cq,bp,bq⟩:=qU hx;obtain⟨cE,hA,a1,a2,a3,a4⟩:=(HE.out.below hB).get hx;injection hA with hA;injection hA with hA
   subst hA;have bk:=λwx=>gZ (A:=some ⟨gb,0,none⟩) (m:=m) rfl ci wx;have a9:=Hs.out _ _ _ _ ba;obtain⟨xt,⟨xs,xd⟩,xm⟩:=x;simp only at a1 a2 a3 a4 cp a9 ba bq;subst cp;rw[ab.out.1]at bp;have cr:=Hc.out n t (by rw[ba];simp);have Ht:=hid (rN bp (rN bq (rN a9 (rN cr cq))));clear hx ba cq bp bq a9 cr;go_upto_region 5 with(fail);refine aB ?_;intro W hW;have HW:Below wr.heap.size wr W:=by rw[hW];exact be
   have I:W.cell? ⟨wr.heap.size,0,none⟩=some (rI (t:Nat)):=by rw[hW];go_simp
   have o1:W.cell? ⟨wr.heap.size,1,none⟩=some (rI xs):=by rw[hW];go_simp
   have o2:W.cell? ⟨wr.heap.size,2,none⟩=some (rI xd):=by rw[hW];go_simp
   have aa:wr.heap.size≠mo:=by have:=HO.out.lt;omega
   obtain⟨b9,ax⟩:=rX wr.heap.size;have bg:=hid (HO.out.below HW);have bd:=ae hB HW;have cF:=hid (SK W b ml me nl Sb top g S cB.out Hc.out Hs.out t n Ht.out.2.2.2.1.2.1 Ht.out.2.2.2.2 (Ne.symm Ht.out.2.2.2.1.2.2) (H.out.below bd));rw[ax]at I o1 o2 aa⊢;clear hW ax HO HW a1 a2 a3 a4 bk hB;go_wp2_with fail;(with_reducible refine cF.out.mono ?_);rintro e w5 ⟨mf,done,rfl,b6,cd,ce,cg,cO,ag⟩;have cj:mo≠mf:=by have:=bg.out.lt;omega
   have I:=af ag I;have o1:=af ag o1;have o2:=af ag o2;have cx:=hid (bg.out.below ag);have cv:=ae bd ag;have cw:=hid b6;have HD:=hid (rN cd (rN ce cg));have cN:IntKind.i64.wrap ((i:Int)+1)=((i+1:Nat):Int):=by rw[IntWalk.i64_in _ om];omega
   clear b6 cd ce cg bg bd ag cF;go_wp2_with (refine Ad rfl (.tmp 29) (.tmp 31) rfl gb nE m (i+1) rfl rfl om hm ?_;intro A2 m2 hA2)
   have ca:=Bo HP.out Ht.out.1;obtain⟨nr,cM⟩:=rX (nE-(i+1));rw[cM];have ct:=hid hA2;clear hA2 HP cN;obtain⟨wy,rfl⟩:∃wy:World,wy=w5:=⟨_,rfl⟩;go_loopw [34] (λkv wr=>∃(j:Nat)(P:List (Nat×Nat)),kv=rI j/\j<=nr/\LS.bF nb=P++((((nb.drop (i+1)).drop j).map λb=>(t,b))++LS.bF (nb.drop (i+1)))/\gB wr mo S n P/\Kept [mo] wy wr/\Below w.heap.size w wr) (λkv _=>nr-(intOf kv).toNat)
   case atStart=>exact⟨0,P,rfl,om,ca,cx.out,Kept.refl _ _,cv⟩
   case round=>
    obtain⟨j,P2,rfl,hj,cb,b8,u,ap⟩:=hrel;have a0:=hid cb;have aS:=hid b8;clear ca cb b8;by_cases cH:j<nr
    .obtain⟨y,hy⟩:∃y,(rH S g.n n)[i+1+j]? =some y:=⟨_,Zc (by rw[b3.out];omega)⟩
     obtain⟨F,q1,q2,q3,q4,q5,q6⟩:=qU hy;obtain⟨cE,hA,a1,a2,a3,a4⟩:=(HE.out.below ap).get hy;injection hA with hA;injection hA with hA
     subst hA;have bk:=λwx=>WY (m:=m2) (ct.out om) cH wx;have co:=Hs.out _ _ _ _ q3;obtain⟨yt,⟨ys,yd⟩,ym⟩:=y;simp only at a1 a2 a3 a4 q2 co q3 q6;subst q2;rw[ab.out.1]at q5;rw[show(i+1+j)*4=(i+1)*4+j*4 by omega]at a1 a2 a3 a4;have Hq:=hid (rN q5 q6);have b4:=hid (rN Ht.out.2.2.1 co);have I:=aH u (by simpa using aa) I;have o1:=aH u (by simpa using aa) o1;have o2:=aH u (by simpa using aa) o2;have b0:=hid (cw.out.kept u (by simpa using Ne.symm cj));have a9:=Ht.out.2.2.1;have cA:=hid (λw=>pE xs xd ys yd w (by unfold aT;omega) (by unfold aT;omega) (by unfold aT;omega) (by unfold aT;omega));clear hy q3 q4 q5 q6;go_upto_region 9 with(fail);refine aB ?_;intro W8 ar;have J:Below wr.heap.size wr W8:=by rw[ar];exact be
     have u0:W8.cell? ⟨wr.heap.size,0,none⟩=some (rI (F:Nat)):=by rw[ar];go_simp
     have u1:W8.cell? ⟨wr.heap.size,1,none⟩=some (rI ys):=by rw[ar];go_simp
     have u2:W8.cell? ⟨wr.heap.size,2,none⟩=some (rI yd):=by rw[ar];go_simp
     obtain⟨cC,bb⟩:=rX wr.heap.size;have I:=af J I;have o1:=af J o1;have o2:=af J o2;have bz:=hid (b0.out.below J);have b1:=hid (aS.out.below J);have b5:=ae ap J;have bx:=hid J;rw[bb]at u0 u1 u2⊢;clear ar bb J b0 aS ap a1 a2 a3 a4 bk;go_wp2_with fail;(with_reducible refine(cA.out _).mono ?_);rintro e w9 ⟨rfl,ax⟩;go_upto_region 10 with(fail);refine aB ?_;intro Wa a7;have b2:Below w9.heap.size w9 Wa:=by rw[a7];exact be
     have v0:Wa.cell? ⟨w9.heap.size,0,none⟩=some (rI (xs+ys)):=by rw[a7];go_simp
     have v1:Wa.cell? ⟨w9.heap.size,1,none⟩=some (rI (xd+yd)):=by rw[a7];go_simp
     obtain⟨cD,bc⟩:=rX w9.heap.size;have Q:=ae ax b2;have I:=af Q I;have u0:=af Q u0;have ai:=hid (bz.out.below Q);have bh:=hid (b1.out.below Q);have ac:=ae b5 Q;have ad:Kept [mo] wy Wa:=(u.trans (.of_below bx.out)).trans (.of_below Q);rw[bc]at v0 v1⊢;have l9:b9<Wa.heap.size:=ZF _ _ I;have bv:cC<Wa.heap.size:=ZF _ _ u0;have bw:cD<Wa.heap.size:=ZF _ _ v0;clear a7 bc b2 ax Q u bx bz b1 b5 o1 o2 u1 u2 cA;have R:=LS.Fa (S:=S) (n:=n) (a:=t) (b:=F) (done:=done) (λc hc=>HD.out.1 F c hc) (λhn c=>HD.out.2.1 F hn c);rw[Ht.out.2.1,Hq.out.2]at R;have ao:=hid R;have cn:=zt a0.out Hq.out.1;have cm:=Tt ab.out.2.2 a0.out Hq.out.1;have am:=hid (rN cn cm);clear R cn cm a0;cases M:done F with
     |none=>
      have hl:=jl ai.out (z:=(F:Nat)) (by rw[fF];unfold eP;rw[M];rfl);have aE:S.iI n t F:=ao.out.2 (λd hd=>by rw[M]at hd;cases hd);have bi:=hid aE;clear M aE;go_upto_region 12 with(fail);refine aB ?_;intro Wb aw;have k:Below Wa.heap.size Wa Wb:=by rw[aw];exact be
      have I:=af k I;have u0:=af k u0;have v0:=af k v0;have v1:=af k v1;have al:=bh.out.below k;have O:=ae ac k;have aq:=ad.trans (.of_below k);clear ad aw k l9 bv bw ai ac hl;go_wp2_with (refine bV rfl _ _ _ rfl jP underlying227 al rfl (((t:Nat):Int),((F:Nat):Int)) rfl (Wo ⟨(F:Nat),⟨xs+ys,xd+yd⟩,(n:Nat)⟩) rfl ?_;intro wU Z U)
      have B:(⟨xs+ys,xd+yd⟩:C)=C.add (S.cost n t) (S.cost n F):=by rw[Ht.out.2.1,Hq.out.2];rfl
      rw[B]at Z;have hF:gB wU mo S n (P2++[(t,F)]):=gB.yes bi.out am.out.2 Z;have u:Kept [mo] wy wU:=aq.trans U;have hB:Below w.heap.size w wU:=Kept.below O U (by have:=O.size;omega) so;have HF:=hid (rN hF (rN u hB));clear Z U B hF u hB O aq al I u0 v0 v1;go_roundw
      case rel=>exact⟨j+1,_,by go_num,om,am.out.1,HF.out⟩
      case measure=>exact rM
     |some d=>
      obtain⟨ds,dd⟩:=d;have hl:=j5 ai.out (z:=(F:Nat)) (v:=.agg #[rI ds,rI dd]) (by rw[fF];unfold eP;rw[M];rfl);have ch:=HD.out.2.2 F _ M;simp only at ch;obtain⟨tb,bt⟩:∃tb,decide (C.cmp ⟨xs+ys,xd+yd⟩ ⟨ds,dd⟩<0)=tb:=⟨_,rfl⟩;have cL:=λw=>rZ (xs+ys) (xd+yd) ds dd w (by have:=b4.out;unfold aT;omega) (by have:=b4.out;unfold aT;omega) (by unfold aT;omega) (by unfold aT;omega);rw[bt]at cL;have cL:=hid cL
      have aE:tb=true↔S.iI n t F:=by
       rw[ao.out,<-bt];simp only[decide_eq_true_eq];constructor
       .intro h d' a8
        rw[M]at a8;injection a8 with a8;subst a8
        exact C.dP.1 h
       .intro h
        exact C.dP.2 (h _ M)
      have a5:=hid aE;clear M aE ch bt;go_wp2_with fail;(with_reducible refine(cL.out _).mono ?_);rintro e wl ⟨rfl,L⟩;have L:=ae (ah br) L;cases tb with
      |true=>
       have bi:=hid (a5.out.1 rfl);clear a5;go_upto_region 12 with(fail);refine aB ?_;intro Wb aw;have k:Below Wa.heap.size Wa Wb:=by rw[aw];exact L
       have I:=af k I;have u0:=af k u0;have v0:=af k v0;have v1:=af k v1;have al:=bh.out.below k;have O:=ae ac k;have aq:=ad.trans (.of_below k);clear ad aw k l9 bv bw ai ac hl L;go_wp2_with (refine bV rfl _ _ _ rfl jP underlying227 al rfl (((t:Nat):Int),((F:Nat):Int)) rfl (Wo ⟨(F:Nat),⟨xs+ys,xd+yd⟩,(n:Nat)⟩) rfl ?_;intro wU Z U)
       have B:(⟨xs+ys,xd+yd⟩:C)=C.add (S.cost n t) (S.cost n F):=by rw[Ht.out.2.1,Hq.out.2];rfl
       rw[B]at Z;have hF:gB wU mo S n (P2++[(t,F)]):=gB.yes bi.out am.out.2 Z;have u:Kept [mo] wy wU:=aq.trans U;have hB:Below w.heap.size w wU:=Kept.below O U (by have:=O.size;omega) so;have HF:=hid (rN hF (rN u hB));clear Z U B hF u hB O aq al I u0 v0 v1;go_roundw
       case rel=>exact⟨j+1,_,by go_num,om,am.out.1,HF.out⟩
       case measure=>exact rM
      |false=>
       have cl:¬S.iI n t F:=λh=>by have:=a5.out.2 h;cases this
       have HF:=hid (rN ((bh.out.below L).no cl) (rN (ad.trans (.of_below L)) (ae ac L)));clear a5 ad ai ac hl L cl l9 bv bw I u0 v0 v1;go_wp2;go_roundw
       case rel=>exact⟨j+1,_,by go_num,om,am.out.1,HF.out⟩
       case measure=>exact rM
    .obtain rfl:j=nr:=om
     have hF:=Km a0.out (by have:=ab.out.2.1;omega);have HF:=hid (rN hF (rN aS.out ap));clear hF aS ap u I o1 o2;go_wp2;go_roundw
     case rel=>refine rR ?_;exact⟨i+1,_,by go_num,om,HF.out⟩
     case measure=>exact rM
  .obtain rfl:i=nE:=om
   have cG:=Kl HP.out (by have:=ab.out.2.1;omega)
   have hF:Dz w S n g.n (.returned (.map (some mo))) wr:=by
    have h1:=HO.out;unfold gB at h1;rw[cG,<-ab.out.1,wW]at h1;exact⟨mo,rfl,h1,om,hB⟩
   have hF:=hid hF;clear HO hB;go_wp2;go_ret;exact hF.out
theorem Mj(w:World)(b n m:Nat)(S:LS)(N:Nat)(A:Option Addr)(Z:rH S N n=[]):Calls prog 137 #[vP b,rI (n:Nat),.slice A 0 m] w (Dz w S n N):=by
 have O:=@run_makeMap prog
 have k:S.more N n=[]:=by
  have:S.nb N n=[]:=by rw[<-G8,Z];rfl
  unfold LS.more;rw[this];rfl
 have u:=hid k;clear Z k;go_enter func137,ntmps137;go_upto_region 2 with(fail);refine aB ?_;intro I B;have L:Below w.heap.size w I:=by rw[B];exact be
 have z:MapAt kP I w.heap.size (λ_=>none) 0:=by rw[B];exact MapAt.made w
 obtain⟨J,Q⟩:=rX w.heap.size;rw[Q]at z⊢;have F:=gB.none (S:=S) (n:=n) z;clear B O z
 have M:Dz w S n N (.returned (.map (some J))) I:=by
  refine⟨J,rfl,?_,om,L⟩;rw[u.out];exact F
 have M:=hid M;clear F;go_wp2_with fail;go_loopw [19] (λU wr=>U=rI (0:Nat)/\wr=I) (λU _=>1-(intOf U).toNat)
 case atStart=>exact⟨rfl,rfl⟩
 case round=>
  obtain⟨rfl,rfl⟩:=hrel;go_wp2;go_ret;exact M.out
theorem CR(w:World)(b J me L:Nat)(F:List Nat)(top:Int)(g:G)(S:LS)(B:g.ok)(Q:I4 g S)(Z:NU S)(n:Nat)(z:S.lev n=0)(h:dF w b J me F top (bN g S) L (eZ g S))(A:Option Addr)(u m:Nat)(I:bP w A (rH S g.n n))(k:(rH S g.n n).length=u)(U:u<=m):Calls prog 137 #[vP b,rI (n:Nat),.slice A u m] w (Dz w S n g.n):=by
 by_cases O:u=0
 .subst O
  exact Mj w b n m S g.n A (List.eq_nil_of_length_eq_zero k)
 .obtain⟨M,rfl,_⟩:=I om
  exact PK w b J me L F top g S B Q Z n z h M u m I k U
def kL(near:Nat->Bool)(z:Int):Option Value:=if 0<=z/\near z.toNat=true then some (.bool true)else none
theorem E9(near:Nat->Bool)(n:Nat):(kL near (n:Nat)).getD (.bool false)=.bool (near n):=by
 cases h:near n<;>simp[kL,h]
theorem Ba(near:Nat->Bool)(t:Nat):aN (kL near) ((t:Nat):Int) (some (.bool true))=kL (λx=>near x||decide (x=t)):=by
 funext z;unfold aN kL;by_cases e:z=(t:Nat)
 .rw[if_pos e,if_pos ⟨om,by simp;right;omega⟩]
 .rw[if_neg e]
  by_cases h:0<=z
  .have:z.toNat≠t:=om
   simp[this]
  .rw[if_neg (λq=>h q.1),if_neg (λq=>h q.1)]
theorem y8:kL (λ_=>false)=λ_=>none:=by funext z;unfold kL;simp
def sV(near:Nat->Bool)(nb:List Nat)(j:Nat)(x:Nat):Bool:=near x||decide (x∈nb.take j)
theorem yZ{near:Nat->Bool}{nb:List Nat}{j t:Nat}(h:nb[j]? =some t):(λx=>sV near nb j x||decide (x=t))=sV near nb (j+1):=by
 funext x;unfold sV;obtain⟨u,e⟩:=Zb.1 h;rw[Zt u,e,Bool.or_assoc];congr 1;by_cases k:x∈nb.take j<;>by_cases m:x=t<;>simp[k,m]
theorem y7(near:Nat->Bool)(nb:List Nat):sV near nb 0=near:=by funext x;unfold sV;simp
theorem A9{near:Nat->Bool}{nb:List Nat}(h:nb.length<=j):sV near nb j=λx=>near x||decide (x∈nb):=by
 funext x;unfold sV;rw[List.take_of_length_le h]
theorem Mf(k:g.av n):aN (bN g S) ((n:Nat):Int) (some (rI (tp:Nat)))=bN g (S.part n tp T):=by
 funext z;unfold aN;by_cases e:z=(n:Nat)
 .rw[if_pos e,e,gq k]
  show _=some (Value.int .i64 ((FR.upd S.lev n tp n:Nat):Int));rw[upd_same]
 .rw[if_neg e]
  unfold bN;by_cases h:0<=z/\g.av z.toNat
  .rw[if_pos h,if_pos h]
   show _=some (Value.int .i64 ((FR.upd S.lev n tp z.toNat:Nat):Int));rw[upd_ne _ _ om]
  .rw[if_neg h,if_neg h]
theorem AA(h:∀a b,¬T a b):eZ g (S.part n tp T)=eZ g S:=by
 unfold eZ dZ;rw[LS.MH h]
open Classical in
noncomputable def az(g:G):List Nat:=(List.range g.n).filter λa=>decide (g.av a)
theorem dm:a∈az g↔g.av a:=by
 unfold az;simp;exactλh=>h.1
theorem gN(g:G):(az g).Pairwise (· < ·):=List.Pairwise.filter _ List.pairwise_lt_range
theorem oC(g:G):(az g).Nodup:=(gN g).imp (λh e=>om)
noncomputable def jM(g:G)(S:LS):List Nat:=(az g).filter λa=>decide (S.lev a=0)
theorem pM:a∈jM g S↔g.av a/\S.lev a=0:=by
 unfold jM;rw[List.mem_filter,dm];simp
theorem EL(g:G)(S:LS):(jM g S).Nodup:=(oC g).filter _
theorem L8(S:LS):(jM g S).length<=g.n:=Zg (List.length_filter_le _ _) (Zg (List.length_filter_le _ _) rS)
theorem CL(g:G)(S:LS):((jM g S).map λn:Nat=>(n:Int)).Pairwise (· < ·):=by
 rw[List.pairwise_map];exact((gN g).filter _).imp (λh=>om)
theorem Ml(z:Int):z∈((jM g S).map λn:Nat=>(n:Int))↔bN g S z≠none/\uQ g S z=0:=by
 rw[List.mem_map];constructor
 .rintro⟨n,B,rfl⟩
  obtain⟨k,m⟩:=pM.1 B;exact⟨sQ.2 ⟨n,rfl,k⟩,by rw[nu k,m];rfl⟩
 .rintro⟨k,m⟩
  obtain⟨n,rfl,u⟩:=sQ.1 k;rw[nu u]at m;exact⟨n,pM.2 ⟨u,om⟩,rfl⟩
noncomputable def lC(g:G)(S:LS)(tp i:Nat):RS:=((jM g S).take i).foldl (RS.step g.n tp) ⟨S,λ_=>false,false⟩
theorem TC(h:(jM g S)[i]? =some n):lC g S tp (i+1)=RS.step g.n tp (lC g S tp i) n:=by
 unfold lC;obtain⟨k,e⟩:=Zb.1 h;rw[Zt k,List.foldl_append,e];rfl
theorem V4(h:(jM g S).length<=i):lC g S tp i=RS.run g.n tp (az g) S:=by
 unfold lC RS.run;rw[List.take_of_length_le h,LS.uJ (az g) _ (oC g)];rfl
theorem V5(H:LS.Inv g g.n tp K S (λ_=>false))(i:Nat):LS.Inv g g.n tp K (lC g S tp i).S (lC g S tp i).near:=
 LS.lU _ _ H (λn k=>(pM.1 (List.mem_of_mem_take k)).1)
theorem V6(h:(jM g S)[i]? =some n):(lC g S tp i).S.lev n=0/\g.av n:=by
 obtain⟨m,u⟩:=pM.1 (Ze h);refine⟨?_,m⟩;unfold lC;rw[LS.sJ]
 .exact u
 .intro z
  obtain⟨j,k⟩:=Zo z;rw[ZA]at k;split at k
  .have:=(List.getElem?_inj (Zb.1 h).1 (EL g S)).1 (h.trans k.symm)
   omega
  .cases k
theorem CJ{N tp K:Nat}{k:Nat->Bool}(H:LS.Inv g N tp K S k):I4 g S:=H.dw
theorem JS{N tp K:Nat}{z:Nat->Bool}(H:LS.Inv g N tp K S z)(I:K<=1000):NU S:=λa b c m h=>by
 obtain⟨k,B,u,F,_⟩:=H.small a b c m h;exact⟨k,om,u,om⟩
structure Cb where
 lab:Nat->Option C
 hp:Nat->Option C
 bk:Nat->Int
def BP(hp:Nat->Option C)(t:Nat)(f:C):Prop:=hp t=some f/\∀j d,hp j=some d->It.le ⟨f,(t:Nat)⟩ ⟨d,(j:Nat)⟩
def xY(src:Nat->C->Prop)(h:Nat->C)(ps:Nat->C->Prop)(V:Cb):Prop:=∀b,
 (V.lab b=none/\V.hp b=none/\V.bk b=0/\∀c,src b c->ps b c)\/∃x,V.lab b=some x/\V.hp b=some (C.add x (h b))/\V.bk b= -1/\src b x/\∀c,src b c->ps b c\/C.le x c
def xW(E:Nat->Nat->C->Prop)(h:Nat->C)(V0:Cb)(k:Nat)(pend:Nat->C->Prop)(V:Cb):Prop:=∃d,V0.lab k=some d/\V.lab k=some d/\∀b,
 (V.lab b=V0.lab b/\V.hp b=FR.upd V0.hp k none b/\V.bk b=V0.bk b/\∀e,E k b e->pend b e)\/
 ∃e,E k b e/\((lower? V0.lab b (C.add d e)=true/\V.lab b=some (C.add d e)/\V.hp b=some (C.add (C.add d e) (h b))/\V.bk b=(k:Nat))\/
  (lower? V0.lab b (C.add d e)=false/\V.lab b=V0.lab b/\V.hp b=FR.upd V0.hp k none b/\V.bk b=V0.bk b))
inductive KO (E:Nat->Nat->C->Prop) (src:Nat->C->Prop) (h:Nat->C):Nat->Cb->Prop
 |src {V:Cb}:xY src h (λ_ _=>False) V->KO E src h 0 V
 |next {i k:Nat} {f:C} {V0 V:Cb}:KO E src h i V0->BP V0.hp k f->k≠256->xW E h V0 k (λ_ _=>False) V->KO E src h (i+1) V
section
variable {b k:Nat}{pend pend' ps ps':Nat->C->Prop}{hp lab:Nat->Option C}
variable {E:Nat->Nat->C->Prop} {src:Nat->C->Prop} {h:Nat->C}
theorem xY.start(src:Nat->C->Prop)(h:Nat->C):xY src h src ⟨λ_=>none,λ_=>none,λ_=>0⟩:=λ_=>.inl ⟨rfl,rfl,rfl,λ_ h=>h⟩
theorem xY.weak{V:Cb}(H:xY src h ps V)(F:∀s c,ps s c->ps' s c):xY src h ps' V:=λb=>by
 rcases H b with⟨g,m,u,z⟩|⟨x,g,m,u,z,I⟩
 .exact .inl ⟨g,m,u,λc B=>F _ _ (z c B)⟩
 .exact .inr ⟨x,g,m,u,z,λc B=>(I c B).imp_left (F _ _)⟩
theorem xY.step{bk:Nat->Int}(H:xY src h ps ⟨lab,hp,bk⟩){x:C}{u:Bool}(Q:lower? lab b x=u)(R:src b x)(I:∀s c,ps s c->ps' s c\/(s=b/\C.le x c)):xY src h ps' ⟨pushed lab b x u,pushed hp b (C.add x (h b)) u,if u=true then FR.upd bk b (-1)else bk⟩:=λa=>by
 by_cases e:a=b
 .subst e
  cases u with
  |true=>
   refine .inr ⟨x,FR.upd_same _ _ _,FR.upd_same _ _ _,FR.upd_same _ _ _,R,λc m=>?_⟩;rcases H a with⟨_,_,_,F⟩|⟨y,g,_,_,_,L⟩
   .exact(I _ _ (F c m)).imp_right (·.2)
   .rcases L c m with q|q
    .exact(I _ _ q).imp_right (·.2)
    .exact .inr (C.le_trans (C.le_of_lt (pK Q y g)) q)
  |false=>
   obtain⟨d,g,B⟩:=yS Q;rcases H a with⟨z,_⟩|⟨y,z,S,T,U,Z⟩
   .simp only at z;rw[z]at g;cases g
   .obtain rfl:y=d:=by simp only at z;rw[z]at g;injection g
    refine .inr ⟨y,z,S,T,U,λc m=>?_⟩;rcases Z c m with q|q
    .exact(I _ _ q).imp_right λr=>C.le_trans B r.2
    .exact .inr q
 .have M:pushed lab b x u a=lab a:=by unfold pushed;split;exact FR.upd_ne _ _ e;rfl
  have O:pushed hp b (C.add x (h b)) u a=hp a:=by unfold pushed;split;exact FR.upd_ne _ _ e;rfl
  have P:(if u=true then FR.upd bk b (-1)else bk) a=bk a:=by split;exact FR.upd_ne _ _ e;rfl
  rcases H a with⟨g,B,J,F⟩|⟨y,g,B,J,F,L⟩
  .exact .inl ⟨M.trans g,O.trans B,P.trans J,λc m=>(I _ _ (F c m)).resolve_right λq=>e q.1⟩
  .exact .inr ⟨y,M.trans g,O.trans B,P.trans J,F,λc m=>(L c m).imp_left λq=>(I _ _ q).resolve_right λr=>e r.1⟩
theorem xW.start{V0:Cb}{d:C}(g:V0.lab k=some d):xW E h V0 k (E k) ⟨V0.lab,FR.upd V0.hp k none,V0.bk⟩:=⟨d,g,g,λ_=>.inl ⟨rfl,rfl,rfl,λ_ h=>h⟩⟩
theorem xW.weak{V0 V:Cb}(H:xW E h V0 k pend V)(g:∀b e,pend b e->pend' b e):xW E h V0 k pend' V:=by
 obtain⟨d,m,u,H⟩:=H;exact⟨d,m,u,λb=>(H b).imp_left λ⟨B,F,I,J⟩=>⟨B,F,I,λe z=>g _ _ (J e z)⟩⟩
theorem Ij(lab:Nat->Option C)(b:Nat)(x:C)(h:lab b=some x):lower? lab b x=false:=by
 unfold lower?;rw[h];simp only[decide_eq_false_iff_not]
 exactλq=>C.lt_irrefl x (C.dP.1 q)
theorem ET{lab g:Nat->Option C}(h:lab b=g b)(x:C):lower? lab b x=lower? g b x:=by unfold lower?;rw[h]
theorem xW.step(hE:∀a b e B,E a b e->E a b B->e=B){V0:Cb}{bk:Nat->Int}(H:xW E h V0 k pend ⟨lab,hp,bk⟩){d e:C}{F:Bool}(hd:lab k=some d)(U:k≠b)(T:E k b e)(J:lower? lab b (C.add d e)=F)(Z:∀P B,P≠b->pend P B->pend' P B):xW E h V0 k pend' ⟨pushed lab b (C.add d e) F,pushed hp b (C.add (C.add d e) (h b)) F,if F=true then FR.upd bk b (k:Nat)else bk⟩:=by
 obtain⟨M,h1,O,H⟩:=H;obtain rfl:M=d:=by simp only at O;rw[O]at hd;injection hd
 refine⟨M,h1,?_,λa=>?_⟩
 .show pushed lab b _ F k=_
  unfold pushed;split
  .rw[FR.upd_ne _ _ U];exact O
  .exact O
 .by_cases L:a=b
  .subst L
   right;refine⟨e,T,?_⟩;rcases H a with⟨g,m,u,_⟩|⟨B,z,⟨I,g,m,u⟩|⟨I,g,m,u⟩⟩
   .simp only at g m u
    rw[ET g]at J;cases F with
    |true=>exact .inl ⟨J,FR.upd_same _ _ _,FR.upd_same _ _ _,FR.upd_same _ _ _⟩
    |false=>exact .inr ⟨J,g,m,u⟩
   .obtain rfl:=hE _ _ _ _ T z
    simp only at g m u;rw[Ij _ _ _ g]at J;subst J;exact .inl ⟨I,g,m,u⟩
   .obtain rfl:=hE _ _ _ _ T z
    simp only at g m u;rw[ET g,I]at J;subst J;exact .inr ⟨I,g,m,u⟩
  .have Q:pushed lab b (C.add M e) F a=lab a:=by unfold pushed;split;exact FR.upd_ne _ _ L;rfl
   have R:pushed hp b (C.add (C.add M e) (h b)) F a=hp a:=by unfold pushed;split;exact FR.upd_ne _ _ L;rfl
   have S:(if F=true then FR.upd bk b (k:Nat)else bk) a=bk a:=by split;exact FR.upd_ne _ _ L;rfl
   rcases H a with⟨g,m,u,q4⟩|⟨B,z,⟨I,g,m,u⟩|⟨I,g,m,u⟩⟩
   .exact .inl ⟨Q.trans g,R.trans m,S.trans u,λe hh=>Z _ _ L (q4 e hh)⟩
   .exact .inr ⟨B,z,.inl ⟨I,Q.trans g,R.trans m,S.trans u⟩⟩
   .exact .inr ⟨B,z,.inr ⟨I,Q.trans g,R.trans m,S.trans u⟩⟩
end
inductive KI (bk:Nat->Int):Int->List Nat->Prop
 |nil {z:Int}:z<0->KI bk z []
 |cons {a:Nat} {l:List Nat}:KI bk (bk a) l->KI bk (a:Nat) (a::l)
inductive Nk (S:LS):List Nat->List Nat->Prop
 |one (a:Nat):Nk S [a] [a]
 |snoc {P W L:List Nat} {x y:Nat}:Nk S P W->P.getLast?=some x->LS.Jf S x y L->Nk S (P++[y]) (W++L.tail)
def Uc(g:G)(S:LS)(inn:List Ed)(b:Nat):Prop:=∃(t:Nat)(c:C),(∃e∈inn,e.to_=(t:Nat))/\g.av t/\Walk (λx y c=>S.lev x<S.lev y/\∃m,S.eg x y=some (c,m)) t b c
theorem Uc.up{g:G}{S:LS}{inn:List Ed}{a b:Nat}{c:C}{m:Int}(h:Uc g S inn a)(F:S.lev a<S.lev b)(B:S.eg a b=some (c,m)):Uc g S inn b:=by
 obtain⟨t,d,k,u,z⟩:=h;exact⟨t,_,k,u,z.snoc ⟨F,m,B⟩⟩
theorem QG(S:LS)(tp:Nat)(mark:Nat->Prop)(fin:Nat->Option C)(a b:Nat)(e F:C)(h:S.SE tp 256 mark fin a b e)(k:S.SE tp 256 mark fin a b F):e=F:=by
 rcases h with⟨_,u,_,m,z⟩|⟨_,u,z⟩<;>rcases k with⟨_,B,_,I,g⟩|⟨_,B,g⟩
 .rw[z]at g;injection g with g;injection g
 .exact absurd B u
 .exact absurd u B
 .rw[z]at g;injection g
abbrev Dr(S:LS)(tp:Nat)(mark:Nat->Bool)(fin:Nat->Option C):Nat->Nat->C->Prop:=S.SE tp 256 (λb=>mark b=true) fin
structure NW (g:G) (tp:Nat) (S:LS) (out:List Ed) (fin:Nat->Option C) (h:Nat->C):Prop where
 ok:g.ok
 fn:LS.Fin g tp S
 yI:xU out
 fok:∀t e,fin t=some e->0<=e.s/\e.s<=1048576/\0<=e.d/\e.d<=1048576
 hok:∀j,g.av j->0<=(h j).s/\(h j).s<=1000/\0<=(h j).d/\(h j).d<=1000
 hT:h 256=C.zero
structure xB (g:G) (tp:Nat) (S:LS) (mark:Nat->Bool) (fin:Nat->Option C) (out:List Ed) (h:Nat->C) (lab hp:Nat->Option C) (bk:Nat->Int) (k:Nat) (pend ps:Nat->C->Prop) (gk:Nat):Prop where
 hu:Hu (Dr S tp mark fin) (lM g out) h lab hp bk k pend ps
 sb:SB g.n 256 2100000 4000 2100000 lab
 cor:∀j,lab j≠none->g.av j\/j=256
 me:2*SB.me g.n 256 2100000 4000 2100000 lab+bJ hp 257<=gk
 tin:lab 256≠none->hp 256≠none
theorem Hu.weak{E:Nat->Nat->C->Prop}{src:Nat->C->Prop}{h:Nat->C}{lab hp:Nat->Option C}{back:Nat->Int}{k:Nat}{pend ps pend' g:Nat->C->Prop}(H:Hu E src h lab hp back k pend ps)(m:∀b e,pend b e->pend' b e)(u:∀s c,ps s c->g s c):Hu E src h lab hp back k pend' g:=
 ⟨H.reach,H.key,λa c b e z B=>(H.closed a c b e z B).imp_left λq=>⟨q.1,m b e q.2⟩,λs c F=>(H.srcs s c F).imp_left (u s c),H.back⟩
section
variable {tb:Bool}{f x:C}{L:List Ed}{b j n t:Nat}{pend' ps':Nat->C->Prop}
variable {g:G} {tp:Nat} {S:LS} {mark:Nat->Bool} {fin:Nat->Option C} {out:List Ed} {h:Nat->C} {lab hp:Nat->Option C} {bk:Nat->Int} {k:Nat} {pend ps:Nat->C->Prop} {gk:Nat}
theorem xB.weak(I:xB g tp S mark fin out h lab hp bk k pend ps gk)(m:∀b e,pend b e->pend' b e)(u:∀s c,ps s c->ps' s c):xB g tp S mark fin out h lab hp bk k pend' ps' gk:=
 ⟨Hu.weak I.hu m u,I.sb,I.cor,I.me,I.tin⟩
theorem xB.small(m:g.ok)(I:xB g tp S mark fin out h lab hp bk k pend ps gk){c:C}(u:lab j=some c):0<=c.s/\c.s<=10448000/\0<=c.d/\c.d<=10448000:=by
 have:=I.sb.small u;have z:=G.bA m;omega
theorem xB.start(u:g.ok)(z:NW g tp S out fin h)(k:Nat)(bk:Nat->Int):xB g tp S mark fin out h (λ_=>none) (λ_=>none) bk k (λ_ _=>False) (lM g out) (2*SB.me g.n 256 2100000 4000 2100000 (λ_=>none)):=
 ⟨Hu.start k bk,SB.start,λ_ m=>absurd rfl m,by rw[pz];omega,λm=>absurd rfl m⟩
theorem xB.low(I:xB g tp S mark fin out h lab hp bk k pend ps gk)(F:lower? lab b x=tb)(u:tb=true):lower? hp b (C.add x (h b))=true:=by
 subst u;have B:=pK F;unfold lower?;cases z:hp b with
 |none=>rfl
 |some f=>
  obtain⟨c,m,rfl⟩:=I.hu.key b f z;have:=B c m;simp only[decide_eq_true_eq];exact C.dP.2 ((C.add_lt_right (h b)).2 this)
theorem xB.hpr(I:xB g tp S mark fin out h lab hp bk k pend ps gk)(m:g.ok):∀j,hp j≠none->j<257:=λj B=>by
 cases u:hp j with
 |none=>exact absurd u B
 |some f=>
  obtain⟨c,z,_⟩:=I.hu.key j f u;have F:=G.bA m;rcases I.sb.rng j (by rw[z];simp)with q|q<;>omega
theorem xB.step(M:NW g tp S out fin h)(I:xB g tp S mark fin out h lab hp bk k pend ps gk){z:Int}(R:g.av b\/b=256)(ab:b≠k\/∀P Q,¬pend P Q)(hz:(z= -1/\lM g out b x)\/∃(a:Nat)(d e:C),z=a/\lab a=some d/\a≠b/\Dr S tp mark fin a b e/\x=C.add d e)(Z:∀P Q,pend P Q->pend' P Q\/(P=b/\∀c,lab k=some c->C.le x (C.add c Q)))(L:∀s c,ps s c->ps' s c\/(s=b/\C.le x c))(ht:lower? lab b x=tb):xB g tp S mark fin out h (pushed lab b x tb) (pushed hp b (C.add x (h b)) tb) (if tb=true then FR.upd bk b z else bk) k pend' ps' gk:=by
 cases tb with
 |false=>
  obtain⟨d,h1,h2⟩:=yS ht;refine⟨?_,I.sb,I.cor,I.me,I.tin⟩;exact I.hu.keep h1 h2 Z L
 |true=>
  have U:=pK ht;have hn:=G.bA M.ok
  have hr:FR.Reach (Dr S tp mark fin) (lM g out) b x:=by
   rcases hz with⟨_,q⟩|⟨a,d,e,_,u,_,F,rfl⟩
   .exact FR.Reach.src q
   .exact(I.hu.reach a d u).snoc F
  have ac:C.Nn x:=by
   rcases hz with⟨_,q⟩|⟨a,d,e,_,u,_,F,rfl⟩
   .exact TP M.yI q
   .refine C.CZ (I.sb.nn a d u) ?_
    rcases F with⟨_,_,_,m,B⟩|⟨_,_,B⟩
    .have:=M.fn.small _ _ _ _ B;exact⟨this.1,this.2.2.1⟩
    .have:=M.fok _ _ B;exact⟨this.1,this.2.2.1⟩
  have hb:b<g.n\/b=256:=R.imp_left λq=>q.1
  obtain⟨s1,s2⟩:=I.sb.put hn hb ac U (λT _=>by
   rcases hz with⟨_,q⟩|⟨a,d,e,_,u,_,F,rfl⟩
   .obtain⟨_,i,y,_,h1,_,rfl⟩:=q
    refine C.le_trans (Ps (M.yI y (Ze h1))) (C.aM (Int.le_refl _) ?_);simp only;omega
   .rcases F with⟨J,_,_,m,B⟩|⟨_,J,B⟩
    .have O:a<g.n:=(I.sb.rng a (by rw[u];simp)).resolve_right J
     refine C.le_trans (C.add_le_add (I.sb.bd a d u O) (le_step (M.fn.small _ _ _ _ B))) (C.aM ?_ ?_)
     .simp[C.add]
     .simp only[C.add,Nat.mul_add];omega
    .omega) (λT=>by
   have aa:b=256:=hb.resolve_left T;rcases hz with⟨_,q⟩|⟨a,d,e,_,u,_,F,rfl⟩
   .have:=q.1.1;omega
   .rcases F with⟨_,J,_⟩|⟨J,_,B⟩
    .exact absurd aa J
    .have O:a<g.n:=(I.sb.rng a (by rw[u];simp)).resolve_right J
     have hm:=Nat.mul_le_mul_left 4000 (jY lab g.n);refine C.le_trans (C.add_le_add (I.sb.bd a d u O) (Ps (M.fok _ _ B))) (C.aM ?_ ?_)
     .simp[C.add]
     .simp only[C.add];omega)
  refine⟨?_,s1,λj hj=>?_,?_,λhj=>?_⟩
  .refine I.hu.put hr U ab ?_ Z L
   rcases hz with q|⟨a,d,e,u,F,B,J,rfl⟩
   .exact .inl q
   .exact .inr ⟨a,d,e,u,F,B,J,C.le_refl _⟩
  .by_cases e:j=b
   .rw[e];exact R
   .refine I.cor j ?_
    have:pushed lab b x true j=lab j:=FR.upd_ne _ _ e;rwa[this]at hj
  .have h1:=Ec hp 257 b (C.add x (h b))
   have h2:=I.me;show 2*SB.me g.n 256 2100000 4000 2100000 (FR.upd lab b (some x))+bJ (FR.upd hp b (some (C.add x (h b)))) 257<=gk;omega
  .show FR.upd hp b (some (C.add x (h b))) 256≠none
   by_cases e:256=b
   .rw[e,FR.upd_same];simp
   .rw[FR.upd_ne _ _ e]
    refine I.tin ?_;have:pushed lab b x true 256=lab 256:=FR.upd_ne _ _ e;rwa[this]at hj
theorem xB.pop(u:g.ok)(I:xB g tp S mark fin out h lab hp bk k (λ_ _=>False) (λ_ _=>False) gk)(z:hp t=some f)(m:t≠256):xB g tp S mark fin out h lab (FR.upd hp t none) bk t (Dr S tp mark fin t) (λ_ _=>False) (gk-1)/\0<gk:=by
 have F:bJ hp 257=bJ (FR.upd hp t none) 257+1:=Ee (I.hpr u t (by rw[z];simp)) (by rw[z];simp);have J:=I.me;exact⟨⟨I.hu.pop,I.sb,I.cor,om,λB=>by rw[FR.upd_ne _ _ (Ne.symm m)];exact I.tin B⟩,om⟩
structure Gu (V0:Cb) (g:G) (tp:Nat) (S:LS) (mark:Nat->Bool) (fin:Nat->Option C) (out:List Ed) (h:Nat->C) (lab hp:Nat->Option C) (bk:Nat->Int) (k:Nat) (pend ps:Nat->C->Prop) (gk:Nat):Prop extends xB g tp S mark fin out h lab hp bk k pend ps gk where
 spr:xW (Dr S tp mark fin) h V0 k pend ⟨lab,hp,bk⟩
theorem Gu.weak{V0:Cb}(I:Gu V0 g tp S mark fin out h lab hp bk k pend ps gk)(m:∀b e,pend b e->pend' b e)(u:∀s c,ps s c->ps' s c):Gu V0 g tp S mark fin out h lab hp bk k pend' ps' gk:=
 ⟨I.toxB.weak m u,I.spr.weak m⟩
theorem Gu.step{V0:Cb}(T:NW g tp S out fin h)(I:Gu V0 g tp S mark fin out h lab hp bk k pend ps gk)(B:g.av b\/b=256)(F:b≠k\/∀m u,¬pend m u)(Z:∃(d e:C),lab k=some d/\k≠b/\Dr S tp mark fin k b e/\x=C.add d e)(z:∀m u,pend m u->pend' m u\/(m=b/\∀c,lab k=some c->C.le x (C.add c u)))(M:∀s c,ps s c->ps' s c\/(s=b/\C.le x c))(R:lower? lab b x=tb):Gu V0 g tp S mark fin out h (pushed lab b x tb) (pushed hp b (C.add x (h b)) tb) (if tb=true then FR.upd bk b (k:Nat)else bk) k pend' ps' gk:=by
 obtain⟨d,e,O,P,Q,rfl⟩:=Z;exact⟨I.toxB.step T B F (.inr ⟨k,d,e,rfl,O,P,Q,rfl⟩) z M R,I.spr.step (QG S tp _ fin) O P Q R λm u J U=>(z m u U).resolve_right λq=>J q.1⟩
structure Gt (g:G) (tp:Nat) (S:LS) (mark:Nat->Bool) (fin:Nat->Option C) (out:List Ed) (h:Nat->C) (lab hp:Nat->Option C) (bk:Nat->Int) (k:Nat) (pend ps:Nat->C->Prop) (gk:Nat):Prop extends xB g tp S mark fin out h lab hp bk k pend ps gk where
 srs:xY (lM g out) h ps ⟨lab,hp,bk⟩
theorem Gt.weak(I:Gt g tp S mark fin out h lab hp bk k pend ps gk)(u:∀b e,pend b e->pend' b e)(m:∀s c,ps s c->ps' s c):Gt g tp S mark fin out h lab hp bk k pend' ps' gk:=
 ⟨I.toxB.weak u m,I.srs.weak m⟩
theorem Gt.start(m:g.ok)(u:NW g tp S out fin h)(k:Nat):Gt g tp S mark fin out h (λ_=>none) (λ_=>none) (λ_=>0) k (λ_ _=>False) (lM g out) (2*SB.me g.n 256 2100000 4000 2100000 (λ_=>none)):=
 ⟨xB.start m u k _,xY.start _ h⟩
theorem Gt.step(P:NW g tp S out fin h)(I:Gt g tp S mark fin out h lab hp bk k pend ps gk)(B:g.av b\/b=256)(F:b≠k\/∀m u,¬pend m u)(O:lM g out b x)(J:∀m u,pend m u->pend' m u\/(m=b/\∀c,lab k=some c->C.le x (C.add c u)))(z:∀s c,ps s c->ps' s c\/(s=b/\C.le x c))(M:lower? lab b x=tb):Gt g tp S mark fin out h (pushed lab b x tb) (pushed hp b (C.add x (h b)) tb) (if tb=true then FR.upd bk b (-1)else bk) k pend' ps' gk:=
 ⟨I.toxB.step P B F (.inl ⟨rfl,O⟩) J z M,I.srs.step M O z⟩
structure WJ (g:G) (tp:Nat) (S:LS) (mark:Nat->Bool) (fin:Nat->Option C) (out:List Ed) (h:Nat->C) (lab hp:Nat->Option C) (bk:Nat->Int) (k:Nat) (pend ps:Nat->C->Prop) (gk:Nat):Prop extends xB g tp S mark fin out h lab hp bk k pend ps gk where
 run:∃i,KO (Dr S tp mark fin) (lM g out) h i ⟨lab,hp,bk⟩
theorem Gt.run(I:Gt g tp S mark fin out h lab hp bk k (λ_ _=>False) (λ_ _=>False) gk):WJ g tp S mark fin out h lab hp bk k (λ_ _=>False) (λ_ _=>False) gk:=
 ⟨I.toxB,0,.src I.srs⟩
theorem WJ.pop(u:g.ok)(I:WJ g tp S mark fin out h lab hp bk k (λ_ _=>False) (λ_ _=>False) gk){f c:C}(J:hp t=some f)(F:lab t=some c)(m:t≠256):Gu ⟨lab,hp,bk⟩ g tp S mark fin out h lab (FR.upd hp t none) bk t (Dr S tp mark fin t) (λ_ _=>False) (gk-1)/\0<gk:=by
 obtain⟨z,B⟩:=I.toxB.pop u J m;exact⟨⟨z,xW.start (V0:=⟨lab,hp,bk⟩) F⟩,B⟩
theorem Gu.run{V0:Cb}(I:Gu V0 g tp S mark fin out h lab hp bk k (λ_ _=>False) (λ_ _=>False) gk)(m:∃i,KO (Dr S tp mark fin) (lM g out) h i V0)(u:BP V0.hp k f)(z:k≠256):WJ g tp S mark fin out h lab hp bk k (λ_ _=>False) (λ_ _=>False) gk:=by
 obtain⟨i,m⟩:=m;exact⟨I.toxB,i+1,.next m u z I.spr⟩
def iq(S:LS)(tp:Nat)(mark:Nat->Bool)(n:Nat)(L:List Ed)(j:Nat)(b:Nat)(e:C):Prop:=∃(i:Nat)(x:Ed),j<=i/\L[i]? =some x/\x.to_=(b:Nat)/\x.c=e/\(S.lev n<S.lev b\/S.lev b=tp\/mark b=true)
theorem iq.first(B:∀y c m,S.eg n y=some (c,m)->y<g.n){e:C}(z:Dr S tp mark fin n b e):iq S tp mark n (dZ S g.n n) 0 b e\/(b=256/\fin n=some e):=by
 rcases z with⟨_,_,u,m,k⟩|⟨_,u,k⟩
 .have:(⟨(b:Nat),e,m⟩:Ed)∈dZ S g.n n:=eH.2 ⟨b,B _ _ _ k,rfl,k⟩
  obtain⟨i,F⟩:=Zo this;exact .inl ⟨i,_,Zw _,F,rfl,rfl,u⟩
 .exact .inr ⟨u,k⟩
theorem iq.next{x:Ed}(B:L[j]? =some x)(I:x.to_=(t:Nat))(b:Nat)(e:C)(h:iq S tp mark n L j b e):iq S tp mark n L (j+1) b e\/(b=t/\e=x.c):=by
 obtain⟨i,y,F,g,u,k,z⟩:=h;by_cases m:i=j
 .subst m
  rw[B]at g;injection g with g;subst g
  right;exact⟨om,k.symm⟩
 .exact .inl ⟨i,y,om,g,u,k,z⟩
theorem iq.skip{x:Ed}(F:L[j]? =some x)(J:x.to_=(t:Nat))(k:¬(S.lev n<S.lev t\/S.lev t=tp\/mark t=true))(b:Nat)(e:C)(h:iq S tp mark n L j b e):iq S tp mark n L (j+1) b e:=by
 obtain⟨i,y,I,g,z,B,m⟩:=h;by_cases u:i=j
 .subst u
  rw[F]at g;injection g with g;subst g
  obtain rfl:t=b:=om;exact absurd m k
 .exact⟨i,y,om,g,z,B,m⟩
theorem iq.over(b:Nat)(e:C):¬iq S tp mark n L L.length b e:=by
 rintro⟨i,y,k,g,_⟩;have:=(Zb.1 g).1;omega
end
def uz(lab:Nat->Option C)(c:C):Nat:=eO (λj=>match lab j with|some d=>decide (C.lt d c)|none=>false) 257
theorem KW(lab:Nat->Option C)(c:C):uz lab c<=257:=jX _ _
theorem KX{lab:Nat->Option C}{c d:C}{a:Nat}(u:lab a=some d)(B:a<257)(h:C.lt d c):uz lab d+1<=uz lab c:=by
 refine Ju (m:=a) (λk g=>?_) B ?_ ?_
 .cases z:lab k with
  |none=>rw[z]at g;cases g
  |some e=>
   rw[z]at g;simp only[decide_eq_true_eq]at g⊢;exact C.lt_of_lt_of_le g (C.le_of_lt h)
 .rw[u];simp only[decide_eq_false_iff_not];exact C.lt_irrefl d
 .rw[u];simp only[decide_eq_true_eq];exact h
def Rk(S:LS)(g:G)(fin:Nat->Option C)(out:List Ed)(lab:Nat->Option C)(cT:C)(L:List Nat)(n:Int)(gk:Nat):Prop:=
 ∃(p e d:C)(t:Nat),fin t=some e/\C.le (C.add d (C.add p e)) cT/\
  ((∃a:Nat,n=a/\g.av a/\lab a=some d/\LS.LW (λx y c=>∃m,S.eg x y=some (c,m)) (a::L.reverse) p/\(a::L.reverse).getLast?=some t/\gk=uz lab d+1/\L.length+gk<=258)\/
   (n= -1/\∃s P,L.reverse=s::P/\lM g out s d/\LS.LW (λx y c=>∃m,S.eg x y=some (c,m)) (s::P) p/\(s::P).getLast?=some t/\gk=0/\L.length<=258))
theorem Vp{g:G}{tp:Nat}{S:LS}(H:LS.Fin g tp S){a b:Nat}{c:C}{m:Int}(h:S.eg a b=some (c,m)):C.Nn c/\c≠C.zero:=by
 have k:=H.small _ _ _ _ h;refine⟨⟨k.1,k.2.2.1⟩,λu=>?_⟩;have z:=G.BO (H.walk _ _ _ _ h);exact(H.dw a b (by rw[h];simp)).2.2 (pX z u).symm
section
variable {g:G} {tp:Nat} {S:LS} {mark:Nat->Bool} {fin:Nat->Option C} {out:List Ed} {h:Nat->C} {lab hp:Nat->Option C} {bk:Nat->Int} {k:Nat} {gk:Nat}
theorem Rk.start(F:NW g tp S out fin h)(I:xB g tp S mark fin out h lab hp bk k (λ_ _=>False) (λ_ _=>False) gk){m:C}(J:lab 256=some m):∃u,Rk S g fin out lab m [] (bk 256) u:=by
 have R:=G.bA F.ok;rcases I.hu.back 256 m J with⟨_,q⟩|⟨a,d,e,M,B,O,P⟩
 .have:=q.1.1;omega
 .rcases O with⟨_,z,_⟩|⟨z,_,Q⟩
  .exact absurd rfl z
  .have L:g.av a:=(I.cor a (by rw[B];simp)).resolve_right z
   refine⟨uz lab d+1,C.zero,e,d,a,Q,by rw[C.zero_add];exact P,.inl ⟨a,M,L,B,.one a,rfl,rfl,?_⟩⟩;have:=KW lab d;simp;omega
theorem Rk.step(T:NW g tp S out fin h)(I:xB g tp S mark fin out h lab hp bk k (λ_ _=>False) (λ_ _=>False) gk){U:C}{L:List Nat}{a u:Nat}(H:Rk S g fin out lab U L (a:Nat) u):∃z,z<u/\Rk S g fin out lab U (L++[a]) (bk a) z:=by
 have hn:=G.bA T.ok;obtain⟨p,e,d,t,Z,h2,h3⟩:=H;rcases h3 with⟨a',e1,hc,h4,h5,h6,h7,h8⟩|⟨e1,_⟩
 .obtain rfl:a=a':=om
  have P:(L++[a]).reverse=a::L.reverse:=rS;rcases I.hu.back a d h4 with⟨Q,F⟩|⟨b,J,e',Q,F,q3,q4⟩
  .refine⟨0,om,p,e,d,t,Z,h2,.inr ⟨Q,a,L.reverse,P,F,h5,h6,rfl,?_⟩⟩
   simp;omega
  .have M:a≠256:=by have:=hc.1;omega
   rcases q3 with⟨R,_,_,m,q6⟩|⟨_,R,_⟩
   .have B:g.av b:=(I.cor b (by rw[F];simp)).resolve_right R
    obtain⟨r1,r2⟩:=Vp T.fn q6;have O:C.lt J d:=C.lt_of_lt_of_le (C.kI r1 r2) q4;have aa:=KX (lab:=lab) F (by have:=B.1;omega) O;refine⟨uz lab J+1,om,C.add e' p,e,J,t,Z,?_,.inl ⟨b,Q,B,F,?_,?_,rfl,?_⟩⟩
    .refine C.le_trans ?_ h2
     rw[C.add_assoc,<-C.add_assoc J];exact C.add_le_add q4 (C.le_refl _)
    .rw[P];exact .cons ⟨m,q6⟩ h5
    .rw[P,List.getLast?_cons_cons];exact h6
    .simp;omega
   .exact absurd R M
 .omega
end
variable {cT:C}{g:G}{S:LS}{out:List Ed}{W:List Nat}
def Jg(g:G)(fin:Nat->Option C)(out:List Ed)(cT:C)(W:List Nat):Prop:=
 ∃(s t:Nat)(d cw e:C),lM g out s d/\W.head?=some s/\W.getLast?=some t/\LS.LW g.GE W cw/\fin t=some e/\C.le (C.add d (C.add cw e)) cT
def NZ(S:LS)(g:G)(fin:Nat->Option C)(out:List Ed)(cT:C)(P:List Nat)(i:Nat)(W:List Nat):Prop:=
 ∃(s t x:Nat)(d cw q e:C),lM g out s d/\W.head?=some s/\W.getLast?=some x/\LS.LW g.GE W cw/\LS.LW (λx y c=>∃m,S.eg x y=some (c,m)) (x::P.drop i) q/\(x::P.drop i).getLast?=some t/\fin t=some e/\C.le (C.add d (C.add (C.add cw q) e)) cT/\P[i-1]? =some x
theorem NZ.fin{fin:Nat->Option C}{P:List Nat}(h:NZ S g fin out cT P P.length W):Jg g fin out cT W:=by
 obtain⟨s,t,x,d,z,q,e,B,F,I,J,m,k,L,u,_⟩:=h;rw[List.drop_length]at m k;simp at k;subst k;cases m;rw[C.add_zero]at u;exact⟨s,_,d,z,e,B,F,I,J,L,u⟩
theorem CS{E:Nat->Nat->C->Prop}{W M:List Nat}{x:Nat}{c d:C}(u:LS.LW E W c)(k:W.getLast?=some x)(z:LS.LW E (x::M) d):LS.LW E (W++M) (C.add c d):=by
 have B:W=W.dropLast++[x]:=by
  have m:W≠[]:=by rintro rfl;cases k
  rw[List.getLast?_eq_some_getLast m]at k;injection k with k
  rw[<-k];exact(List.dropLast_concat_getLast m).symm
 rw[B]at u⊢;have:=LS.LW.append u z;simpa using this
theorem NZ.step{fin:Nat->Option C}{P:List Nat}{i:Nat}(hi:0<i)(h:NZ S g fin out cT P i W){x y:Nat}(hx:P[i-1]? =some x)(I:P[i]? =some y):∃c m,S.eg x y=some (c,m)/\∀L,LS.Jf S x y L->LS.LW g.GE L c->NZ S g fin out cT P (i+1) (W++L.tail):=by
 obtain⟨s,t,x',d,z,q,e,J,B,O,Q,F,u,R,T,k⟩:=h;rw[hx]at k;injection k with k;subst k
 have hd:P.drop i=y::P.drop (i+1):=by
  obtain⟨q1,q2⟩:=Zb.1 I;rw[List.drop_eq_getElem_cons q1,q2]
 rw[hd]at F u;cases F with
 | @cons _ _ _ c q' he hl=>
  obtain⟨m,hm⟩:=he;refine⟨c,m,hm,λL Z U=>?_⟩;obtain⟨M,rfl⟩:=Z.ends;refine⟨s,t,y,d,C.add z c,q',e,J,?_,?_,CS Q O U,hl,?_,R,?_,by simpa using I⟩
  .cases W with
   |nil=>cases B
   |cons a W=>simpa using B
  .simp
  .rw[List.getLast?_cons_cons]at u;exact u
  .rw[C.add_assoc z];exact T
theorem NZ.start{fin:Nat->Option C}{lab:Nat->Option C}{L:List Nat}{n:Int}{gk:Nat}(O:n<0)(h:Rk S g fin out lab cT L n gk):∃s P,L.reverse=s::P/\NZ S g fin out cT (s::P) 1 [s]:=by
 obtain⟨p,e,d,t,k,m,u⟩:=h;rcases u with⟨J,M,_⟩|⟨_,s,P,z,B,F,I,_⟩
 .omega
 .exact⟨s,P,z,s,t,s,d,C.zero,p,e,B,rfl,rfl,.one s,by simpa using F,by simpa using I,k,by rw[C.zero_add];exact m,rfl⟩
end Go.Proofs.YtnifggkjieemeaaGreatDoor
