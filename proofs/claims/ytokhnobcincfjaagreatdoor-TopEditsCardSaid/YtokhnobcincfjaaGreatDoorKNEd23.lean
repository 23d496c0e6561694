/- Lemmas of this claim: Lv6, Lv7, MathDet, Sr0. -/
import Derived.Test.YtokhnobcincfjaaGreatDoorKNEd22
set_option linter.unusedVariables false
set_option linter.unusedSimpArgs false
set_option maxHeartbeats 3200000
set_option maxRecDepth 100000
namespace Go.Proofs.YtokhnobcincfjaaGreatDoor
open Go.Lib (hid)
open Go.RowKit Go.Sort FR Go.Lib
variable {g:G}{S:LS}{P R:List (Nat×Nat)}{l:List Nat}{K a b i j mo n tp:Nat}{T:Nat->Nat->Prop}{w:World}
theorem qJ:∀{l:List Nat},l.Pairwise (· < ·)->(LS.bW l).Nodup
 |[],_=>by simp[LS.bW]
 |a::l,h=>by
  rw[List.pairwise_cons]at h;unfold LS.bW;rw[List.nodup_append];refine⟨?_,qJ h.2,?_⟩
  .unfold List.Nodup
   rw[List.pairwise_map];exact h.2.imp (λh e=>by injection e with _ e;omega)
  .intro p hp q k e
   subst e;obtain⟨b,_,rfl⟩:=List.mem_map.1 hp;have:=((LS.o9 h.2).1 k).1;have:=h.1 a this;omega
open Classical in
noncomputable def eF(S:LS)(n:Nat)(P:List (Nat×Nat)):List (Nat×Nat):=P.filter λp=>decide (S.iJ n p.1 p.2)
theorem BV(S:LS)(N n:Nat):eF S n (LS.bW (S.nb N n))=S.more N n:=rfl
def fC(w:World)(mo:Nat)(S:LS)(n:Nat)(P:List (Nat×Nat)):Prop:=MapAt kP w mo (jT S n λa b=>(a,b)∈eF S n P) (eF S n P).length
theorem fC.below{w w':World}(h:fC w mo S n P)(k:Below w.heap.size w w'):fC w' mo S n P:=MapAt.below h k
theorem fC.no(h:fC w mo S n P)(k:¬S.iJ n a b):fC w mo S n (P++[(a,b)]):=by
 unfold fC
 have:eF S n (P++[(a,b)])=eF S n P:=by
  unfold eF;rw[List.filter_append];simp[k]
 rw[this];exact h
theorem Et{T T':Nat->Nat->Prop}(h:∀a b,T a b↔T' a b):jT S n T=jT S n T':=by
 have:T=T':=by funext a b;exact propext (h a b)
 rw[this]
theorem fC.yes{w':World}(I:S.iJ n a b)(F:(a,b)∉P)(h:MapAt kP w' mo (aL (jT S n λa b=>(a,b)∈eF S n P) (((a:Nat):Int),((b:Nat):Int)) (some (R5 ⟨(b:Nat),C.add (S.cost n a) (S.cost n b),(n:Nat)⟩))) (if((jT S n λa b=>(a,b)∈eF S n P) (((a:Nat):Int),((b:Nat):Int))).isSome then(eF S n P).length else(eF S n P).length+1)):fC w' mo S n (P++[(a,b)]):=by
 have k:(a,b)∉eF S n P:=λu=>F (List.mem_filter.1 u).1
 have z:jT S n (λa b=>(a,b)∈eF S n P) (((a:Nat):Int),((b:Nat):Int))=none:=by
  unfold jT;rw[if_neg];rintro⟨_,_,u⟩;simp at u;exact k u
 rw[Ml,z]at h
 have B:eF S n (P++[(a,b)])=eF S n P++[(a,b)]:=by
  unfold eF;rw[List.filter_append];simp[I]
 unfold fC;rw[B];simp only[Option.isSome_none,Bool.false_eq_true,if_false]at h;rw[List.length_append];rw[Et (T':=λx y=>(x,y)∈eF S n P\/(x=a/\y=b)) (λx y=>by simp)];exact h
theorem fC.none(h:MapAt kP w mo (λ_=>Option.none) 0):fC w mo S n []:=by
 unfold fC
 have:(jT S n λa b=>(a,b)∈eF S n [])=λ_=>Option.none:=by
  funext k;unfold jT eF;simp
 rw[this];exact h
def Ar(w:World)(S:LS)(n N:Nat)(e:Ending)(w':World):Prop:=∃mo,e=.returned (.map (some mo))/\MapAt kP w' mo (jT S n λa b=>(a,b)∈S.more N n) (S.more N n).length/\w.heap.size<=mo/\Below w.heap.size w w'
theorem xA{I:Array Oper}{u:List Oper}{o:Oper}{a:Act}{Q:Exit->Act->World->Prop}(U:o.guard=none)(x O:Operand)(F:o.op=Op.slice 119 x (some O) none none)(g n m l:Nat)(M:a.eval x=.slice (some ⟨g,0,none⟩) n m)(B:a.eval O=.int .i64 (l:Nat))(S:l<=n)(T:n<=m)(L:∀J P,(l<n->J=some ⟨g,l*4,none⟩)->wpList Tryz.prog I Q u (a.put o.dst (.slice J (n-l) P)) w):wpList Tryz.prog I Q (o::u) a w:=by
 refine wpList_plain U λR z=>?_;unfold Oper.wp;by_cases Z:m=l
 .have k:(Instr.sliceAt 119 (.slice (some ⟨g,0,none⟩) n m) (some (.int .i64 (l:Nat))) none none).run Tryz.prog w=.ok (.slice (some ⟨g,0,none⟩) (n-l) (m-l)) w:=by
   unfold Instr.sliceAt;go_simp
  simp[execOp,F,M,B,k,Result.andThen];exact z _ _ (L _ _ (by omega))
 .have k:(Instr.sliceAt 119 (.slice (some ⟨g,0,none⟩) n m) (some (.int .i64 (l:Nat))) none none).run Tryz.prog w=.ok (.slice (some ⟨g,l*4,none⟩) (n-l) (m-l)) w:=by
   unfold Instr.sliceAt;go_simp
  simp[execOp,F,M,B,k,Result.andThen];exact z _ _ (L _ _ (λ_=>rfl))
theorem S9{A:Option Addr}{g l n m k:Nat}(h:A=some ⟨g,l*4,none⟩)(z:k<n)(u:World):(Instr.indexAt 119 (.slice A n m) (.int .i64 (k:Nat))).run Tryz.prog u=.ok (.pointer (some ⟨g,l*4+k*4,none⟩)) u:=by
 subst h;have q:(k:Int)<(n:Int):=by omega
 go_simp
theorem Jm(h:LS.bW l=P++LS.bW (l.drop i))(k:l[i]? =some a):LS.bW l=P++((((l.drop (i+1)).drop 0).map λb=>(a,b))++LS.bW (l.drop (i+1))):=by
 obtain⟨u,e⟩:=List.getElem?_eq_some_iff.1 k;rw[h,List.drop_eq_getElem_cons u,e];rfl
theorem Cj(h:LS.bW l=P++((((l.drop (i+1)).drop j).map λb=>(a,b))++R))(u:l[i+1+j]? =some b):LS.bW l=(P++[(a,b)])++((((l.drop (i+1)).drop (j+1)).map λb=>(a,b))++R):=by
 have k:(l.drop (i+1))[j]? =some b:=by rw[List.getElem?_drop];exact u
 obtain⟨z,e⟩:=List.getElem?_eq_some_iff.1 k;rw[h,List.drop_eq_getElem_cons z,e];simp
theorem Po(B:l.Pairwise (· < ·))(h:LS.bW l=P++((((l.drop (i+1)).drop j).map λb=>(a,b))++R))(z:l[i+1+j]? =some b):(a,b)∉P:=by
 have u:=Cj h z;have k:=qJ B;rw[u,List.append_assoc,List.nodup_append]at k;intro F;exact k.2.2 _ F _ (by simp) rfl
theorem Pn(h:LS.bW l=P++((((l.drop (i+1)).drop j).map λb=>(a,b))++R))(k:l.length<=i+1+j):LS.bW l=P++R:=by
 rw[h,List.drop_drop,List.drop_eq_nil_of_le (by omega)];rfl
theorem Pm(h:LS.bW l=P++LS.bW (l.drop i))(k:l.length<=i):P=LS.bW l:=by
 rw[h,List.drop_eq_nil_of_le k];simp[LS.bW]
theorem LG(w:World)(b ml me nl:Nat)(Sb:List Nat)(top:Int)(g:G)(S:LS)(bo:g.ok)(hc:Nw g S)(hs:Sr S)(n:Nat)(ck:S.lev n=0)(h:cz w b ml me Sb top (bH g S) nl (gK g S))(gb nE m:Nat)(hE:bQ w (some ⟨gb,0,none⟩) (uX S g.n n))(bk:(uX S g.n n).length=nE)(hm:nE<=m):Calls Tryz.prog 167 #[.pointer (some ⟨b,0,none⟩),.int .i64 (n:Nat),.slice (some ⟨gb,0,none⟩) nE m] w (Ar w S n g.n):=by
 have hn:=G.bR bo;have cI:=@run_makeMap Tryz.prog;have cs:nE<=256:=by have:=zG S g.n n;omega
 have bm:(S.nb g.n n).length=nE:=by rw[<-bk,ug]
 have T:=LS.xZ S g.n n;obtain⟨nb,ay⟩:∃l,S.nb g.n n=l:=⟨_,rfl⟩;rw[ay]at bm T;have H:=hid h;have cB:=hid bo;have Hc:=hid hc;have Hs:=hid hs;have Hn:=hid (And.intro hn ck);have HE:=hid hE;have b3:=hid bk;have ac:=hid (And.intro ay (And.intro bm T));clear h hc hs ck bo hn hE bk bm T ay;go_enter Tryz.func167,Tryz.ntmps167;go_upto_region 2 with(fail);refine au ?_;intro W1 a6;have cy:Below w.heap.size w W1:=by rw[a6];(repeat' (first|exact Below.refl _ _|assumption|apply aj|apply ah|apply af|(refine aa ?_ (by assumption))))
 have bi:MapAt kP W1 w.heap.size (λ_=>none) 0:=by rw[a6];exact MapAt.made w
 have cP:W1.heap.size=w.heap.size+1:=by rw[a6];simp
 obtain⟨mo,cJ⟩:∃mo,w.heap.size=mo:=⟨_,rfl⟩;rw[cJ]at bi⊢;have b7:=fC.none (S:=S) (n:=n) bi;clear a6 cI bi;go_wp2_with fail;obtain⟨wz,rfl⟩:∃wz:World,wz=W1:=⟨_,rfl⟩
 go_loopw [19] (λkv wr=>∃(i:Nat)(P:List (Nat×Nat)),kv=.int .i64 i/\i<=nE/\LS.bW nb=P++LS.bW (nb.drop i)/\fC wr mo S n P/\Below w.heap.size w wr) (λkv _=>nE-(intOf kv).toNat)
 case atStart=>exact⟨0,[],rfl,by omega,rfl,b7,cy⟩
 case round=>
  obtain⟨i,P,rfl,hi,hP,hO,hB⟩:=hrel;clear b7;have HP:=hid hP;have HO:=hid hO;clear hP hO;by_cases ci:i<nE
  .obtain⟨x,hx⟩:∃x,(uX S g.n n)[i]? =some x:=⟨_,List.getElem?_eq_getElem (by rw[b3.out];exact ci)⟩
   obtain⟨t,cQ,cp,ba,cq,bp,bq⟩:=zh hx;obtain⟨cE,hA,a1,a2,a3,a4⟩:=(HE.out.below hB).get hx;injection hA with hA;injection hA with hA
   subst hA;have bj:=λwx=>jy (A:=some ⟨gb,0,none⟩) (m:=m) rfl ci wx;have a9:=Hs.out _ _ _ _ ba;obtain⟨xt,⟨xs,xd⟩,xm⟩:=x;simp only at a1 a2 a3 a4 cp a9 ba bq;subst cp;rw[ac.out.1]at bp;have cr:=Hc.out n t (by rw[ba];simp);have Ht:=hid (And.intro bp (And.intro bq (And.intro a9 (And.intro cr cq))));clear hx ba cq bp bq a9 cr;go_upto_region 5 with(fail);refine au ?_;intro W hW;have HW:Below wr.heap.size wr W:=by rw[hW];(repeat' (first|exact Below.refl _ _|assumption|apply aj|apply ah|apply af|(refine aa ?_ (by assumption))))
   have I:W.cell? ⟨wr.heap.size,0,none⟩=some (.int .i64 (t:Nat)):=by rw[hW];go_simp
   have o1:W.cell? ⟨wr.heap.size,1,none⟩=some (.int .i64 xs):=by rw[hW];go_simp
   have o2:W.cell? ⟨wr.heap.size,2,none⟩=some (.int .i64 xd):=by rw[hW];go_simp
   have ab:wr.heap.size≠mo:=by have:=HO.out.lt;omega
   obtain⟨b9,ax⟩:∃z,wr.heap.size=z:=⟨_,rfl⟩;have be:=hid (HO.out.below HW);have bd:=aa hB HW;have cF:=hid (OP W b ml me nl Sb top g S cB.out Hc.out Hs.out t n Ht.out.2.2.2.1.2.1 Ht.out.2.2.2.2 (Ne.symm Ht.out.2.2.2.1.2.2) (H.out.below bd));rw[ax]at I o1 o2 ab⊢;clear hW ax HO HW a1 a2 a3 a4 bj hB;go_wp2_with fail;(with_reducible refine cF.out.mono ?_);rintro e w5 ⟨mf,done,rfl,b6,cd,ce,cg,cO,ai⟩;have cj:mo≠mf:=by have:=be.out.lt;omega
   have I:=ae ai I;have o1:=ae ai o1;have o2:=ae ai o2;have cx:=hid (be.out.below ai);have cv:=aa bd ai;have cw:=hid b6;have HD:=hid (And.intro cd (And.intro ce cg));have cN:IntKind.i64.wrap ((i:Int)+1)=((i+1:Nat):Int):=by rw[IntWalk.i64_in _ (by omega)];omega
   clear b6 cd ce cg be bd ai cF;go_wp2_with (refine xA rfl (.tmp 29) (.tmp 31) rfl gb nE m (i+1) rfl rfl (by omega) hm ?_;intro A2 m2 hA2)
   have ca:=Jm HP.out Ht.out.1;obtain⟨nr,cM⟩:∃z,nE-(i+1)=z:=⟨_,rfl⟩;rw[cM];have ct:=hid hA2;clear hA2 HP cN;obtain⟨wy,rfl⟩:∃wy:World,wy=w5:=⟨_,rfl⟩;go_loopw [34] (λkv wr=>∃(j:Nat)(P:List (Nat×Nat)),kv=.int .i64 j/\j<=nr/\LS.bW nb=P++((((nb.drop (i+1)).drop j).map λb=>(t,b))++LS.bW (nb.drop (i+1)))/\fC wr mo S n P/\Kept [mo] wy wr/\Below w.heap.size w wr) (λkv _=>nr-(intOf kv).toNat)
   case atStart=>exact⟨0,P,rfl,by omega,ca,cx.out,Kept.refl _ _,cv⟩
   case round=>
    obtain⟨j,P2,rfl,hj,cb,b8,u,ap⟩:=hrel;have a0:=hid cb;have aS:=hid b8;clear ca cb b8;by_cases cH:j<nr
    .obtain⟨y,hy⟩:∃y,(uX S g.n n)[i+1+j]? =some y:=⟨_,List.getElem?_eq_getElem (by rw[b3.out];omega)⟩
     obtain⟨F,q1,q2,q3,q4,q5,q6⟩:=zh hy;obtain⟨cE,hA,a1,a2,a3,a4⟩:=(HE.out.below ap).get hy;injection hA with hA;injection hA with hA
     subst hA;have bj:=λwx=>S9 (m:=m2) (ct.out (by omega)) cH wx;have co:=Hs.out _ _ _ _ q3;obtain⟨yt,⟨ys,yd⟩,ym⟩:=y;simp only at a1 a2 a3 a4 q2 co q3 q6;subst q2;rw[ac.out.1]at q5;rw[show(i+1+j)*4=(i+1)*4+j*4 by omega]at a1 a2 a3 a4;have Hq:=hid (And.intro q5 q6);have b4:=hid (And.intro Ht.out.2.2.1 co);have I:=aJ u (by simpa using ab) I;have o1:=aJ u (by simpa using ab) o1;have o2:=aJ u (by simpa using ab) o2;have b0:=hid (cw.out.kept u (by simpa using Ne.symm cj));have a9:=Ht.out.2.2.1;have cA:=hid (λw=>ng xs xd ys yd w (by unfold aV;omega) (by unfold aV;omega) (by unfold aV;omega) (by unfold aV;omega));clear hy q3 q4 q5 q6;go_upto_region 9 with(fail);refine au ?_;intro W8 ar;have J:Below wr.heap.size wr W8:=by rw[ar];(repeat' (first|exact Below.refl _ _|assumption|apply aj|apply ah|apply af|(refine aa ?_ (by assumption))))
     have u0:W8.cell? ⟨wr.heap.size,0,none⟩=some (.int .i64 (F:Nat)):=by rw[ar];go_simp
     have u1:W8.cell? ⟨wr.heap.size,1,none⟩=some (.int .i64 ys):=by rw[ar];go_simp
     have u2:W8.cell? ⟨wr.heap.size,2,none⟩=some (.int .i64 yd):=by rw[ar];go_simp
     obtain⟨cC,bb⟩:∃z,wr.heap.size=z:=⟨_,rfl⟩;have I:=ae J I;have o1:=ae J o1;have o2:=ae J o2;have bx:=hid (b0.out.below J);have b1:=hid (aS.out.below J);have b5:=aa ap J;have bw:=hid J;rw[bb]at u0 u1 u2⊢;clear ar bb J b0 aS ap a1 a2 a3 a4 bj;go_wp2_with fail;(with_reducible refine(cA.out _).mono ?_);rintro e w9 ⟨rfl,ax⟩;go_upto_region 10 with(fail);refine au ?_;intro Wa a7;have b2:Below w9.heap.size w9 Wa:=by rw[a7];(repeat' (first|exact Below.refl _ _|assumption|apply aj|apply ah|apply af|(refine aa ?_ (by assumption))))
     have v0:Wa.cell? ⟨w9.heap.size,0,none⟩=some (.int .i64 (xs+ys)):=by rw[a7];go_simp
     have v1:Wa.cell? ⟨w9.heap.size,1,none⟩=some (.int .i64 (xd+yd)):=by rw[a7];go_simp
     obtain⟨cD,bc⟩:∃z,w9.heap.size=z:=⟨_,rfl⟩;have Q:=aa ax b2;have I:=ae Q I;have u0:=ae Q u0;have al:=hid (bx.out.below Q);have bg:=hid (b1.out.below Q);have ad:=aa b5 Q;have ag:Kept [mo] wy Wa:=(u.trans (.of_below bw.out)).trans (.of_below Q);rw[bc]at v0 v1⊢;have l9:b9<Wa.heap.size:=World.block_lt_of_cell? _ _ I;have bt:cC<Wa.heap.size:=World.block_lt_of_cell? _ _ u0;have bv:cD<Wa.heap.size:=World.block_lt_of_cell? _ _ v0;clear a7 bc b2 ax Q u bw bx b1 b5 o1 o2 u1 u2 cA;have R:=LS.L6 (S:=S) (n:=n) (a:=t) (b:=F) (done:=done) (λc hc=>HD.out.1 F c hc) (λhn c=>HD.out.2.1 F hn c);rw[Ht.out.2.1,Hq.out.2]at R;have ao:=hid R;have cn:=Cj a0.out Hq.out.1;have cm:=Po ac.out.2.2 a0.out Hq.out.1;have an:=hid (And.intro cn cm);clear R cn cm a0;cases M:done F with
     |none=>
      have hl:=iO al.out (z:=(F:Nat)) (by rw[fM];unfold fH;rw[M];rfl);have aE:S.iJ n t F:=ao.out.2 (λd hd=>by rw[M]at hd;cases hd);have bh:=hid aE;clear M aE;go_upto_region 12 with(fail);refine au ?_;intro Wb aw;have k:Below Wa.heap.size Wa Wb:=by rw[aw];(repeat' (first|exact Below.refl _ _|assumption|apply aj|apply ah|apply af|(refine aa ?_ (by assumption))))
      have I:=ae k I;have u0:=ae k u0;have v0:=ae k v0;have v1:=ae k v1;have am:=bg.out.below k;have O:=aa ad k;have aq:=ag.trans (.of_below k);clear ag aw k l9 bt bv al ad hl;go_wp2_with (refine dJ rfl _ _ _ rfl jh Tryz.underlying268 am rfl (((t:Nat):Int),((F:Nat):Int)) rfl (R5 ⟨(F:Nat),⟨xs+ys,xd+yd⟩,(n:Nat)⟩) rfl ?_;intro wU Z U)
      have B:(⟨xs+ys,xd+yd⟩:C)=C.add (S.cost n t) (S.cost n F):=by rw[Ht.out.2.1,Hq.out.2];rfl
      rw[B]at Z;have hF:fC wU mo S n (P2++[(t,F)]):=fC.yes bh.out an.out.2 Z;have u:Kept [mo] wy wU:=aq.trans U;have hB:Below w.heap.size w wU:=Kept.below O U (by have:=O.size;omega) (by simp;omega);have HF:=hid (And.intro hF (And.intro u hB));clear Z U B hF u hB O aq am I u0 v0 v1;go_roundw
      case rel=>exact⟨j+1,_,by go_num,by omega,an.out.1,HF.out⟩
      case measure=>simp[intOf];omega
     |some d=>
      obtain⟨ds,dd⟩:=d;have hl:=jD al.out (z:=(F:Nat)) (v:=.agg #[.int .i64 ds,.int .i64 dd]) (by rw[fM];unfold fH;rw[M];rfl);have ch:=HD.out.2.2 F _ M;simp only at ch;obtain⟨tb,br⟩:∃tb,decide (C.cmp ⟨xs+ys,xd+yd⟩ ⟨ds,dd⟩<0)=tb:=⟨_,rfl⟩;have cL:=λw=>qa (xs+ys) (xd+yd) ds dd w (by have:=b4.out;unfold aV;omega) (by have:=b4.out;unfold aV;omega) (by unfold aV;omega) (by unfold aV;omega);rw[br]at cL;have cL:=hid cL
      have aE:tb=true↔S.iJ n t F:=by
       rw[ao.out,<-br];simp only[decide_eq_true_eq];constructor
       .intro h d' a8
        rw[M]at a8;injection a8 with a8;subst a8
        exact C.fo.1 h
       .intro h
        exact C.fo.2 (h _ M)
      have a5:=hid aE;clear M aE ch br;go_wp2_with fail;(with_reducible refine(cL.out _).mono ?_);rintro e wl ⟨rfl,L⟩;have L:=aa (af (Below.refl _ _)) L;cases tb with
      |true=>
       have bh:=hid (a5.out.1 rfl);clear a5;go_upto_region 12 with(fail);refine au ?_;intro Wb aw;have k:Below Wa.heap.size Wa Wb:=by rw[aw];exact L
       have I:=ae k I;have u0:=ae k u0;have v0:=ae k v0;have v1:=ae k v1;have am:=bg.out.below k;have O:=aa ad k;have aq:=ag.trans (.of_below k);clear ag aw k l9 bt bv al ad hl L;go_wp2_with (refine dJ rfl _ _ _ rfl jh Tryz.underlying268 am rfl (((t:Nat):Int),((F:Nat):Int)) rfl (R5 ⟨(F:Nat),⟨xs+ys,xd+yd⟩,(n:Nat)⟩) rfl ?_;intro wU Z U)
       have B:(⟨xs+ys,xd+yd⟩:C)=C.add (S.cost n t) (S.cost n F):=by rw[Ht.out.2.1,Hq.out.2];rfl
       rw[B]at Z;have hF:fC wU mo S n (P2++[(t,F)]):=fC.yes bh.out an.out.2 Z;have u:Kept [mo] wy wU:=aq.trans U;have hB:Below w.heap.size w wU:=Kept.below O U (by have:=O.size;omega) (by simp;omega);have HF:=hid (And.intro hF (And.intro u hB));clear Z U B hF u hB O aq am I u0 v0 v1;go_roundw
       case rel=>exact⟨j+1,_,by go_num,by omega,an.out.1,HF.out⟩
       case measure=>simp[intOf];omega
      |false=>
       have cl:¬S.iJ n t F:=λh=>by have:=a5.out.2 h;cases this
       have HF:=hid (And.intro ((bg.out.below L).no cl) (And.intro (ag.trans (.of_below L)) (aa ad L)));clear a5 ag al ad hl L cl l9 bt bv I u0 v0 v1;go_wp2;go_roundw
       case rel=>exact⟨j+1,_,by go_num,by omega,an.out.1,HF.out⟩
       case measure=>simp[intOf];omega
    .obtain rfl:j=nr:=by omega
     have hF:=Pn a0.out (by have:=ac.out.2.1;omega);have HF:=hid (And.intro hF (And.intro aS.out ap));clear hF aS ap u I o1 o2;go_wp2;go_roundw
     case rel=>first|exact⟨i+1,_,by go_num,by omega,HF.out⟩|((repeat apply Exists.intro);exact⟨⟨i+1,_,by go_num,by omega,HF.out⟩,rfl⟩)
     case measure=>simp[intOf];omega
  .obtain rfl:i=nE:=by omega
   have cG:=Pm HP.out (by have:=ac.out.2.1;omega)
   have hF:Ar w S n g.n (.returned (.map (some mo))) wr:=by
    have h1:=HO.out;unfold fC at h1;rw[cG,<-ac.out.1,BV]at h1;exact⟨mo,rfl,h1,by omega,hB⟩
   have hF:=hid hF;clear HO hB;go_wp2;go_ret;exact hF.out
theorem IX(w:World)(b n m:Nat)(S:LS)(N:Nat)(A:Option Addr)(Z:uX S N n=[]):Calls Tryz.prog 167 #[.pointer (some ⟨b,0,none⟩),.int .i64 (n:Nat),.slice A 0 m] w (Ar w S n N):=by
 have O:=@run_makeMap Tryz.prog
 have k:S.more N n=[]:=by
  have:S.nb N n=[]:=by rw[<-DW,Z];rfl
  unfold LS.more;rw[this];rfl
 have u:=hid k;clear Z k;go_enter Tryz.func167,Tryz.ntmps167;go_upto_region 2 with(fail);refine au ?_;intro I B;have L:Below w.heap.size w I:=by rw[B];(repeat' (first|exact Below.refl _ _|assumption|apply aj|apply ah|apply af|(refine aa ?_ (by assumption))))
 have z:MapAt kP I w.heap.size (λ_=>none) 0:=by rw[B];exact MapAt.made w
 obtain⟨J,Q⟩:∃J,w.heap.size=J:=⟨_,rfl⟩;rw[Q]at z⊢;have F:=fC.none (S:=S) (n:=n) z;clear B O z
 have M:Ar w S n N (.returned (.map (some J))) I:=by
  refine⟨J,rfl,?_,by omega,L⟩;rw[u.out];exact F
 have M:=hid M;clear F;go_wp2_with fail;go_loopw [19] (λU wr=>U=.int .i64 (0:Nat)/\wr=I) (λU _=>1-(intOf U).toNat)
 case atStart=>exact⟨rfl,rfl⟩
 case round=>
  obtain⟨rfl,rfl⟩:=hrel;go_wp2;go_ret;exact M.out
theorem zK(w:World)(b J me L:Nat)(F:List Nat)(top:Int)(g:G)(S:LS)(B:g.ok)(Q:Nw g S)(Z:Sr S)(n:Nat)(z:S.lev n=0)(h:cz w b J me F top (bH g S) L (gK g S))(A:Option Addr)(u m:Nat)(I:bQ w A (uX S g.n n))(k:(uX S g.n n).length=u)(U:u<=m):Calls Tryz.prog 167 #[.pointer (some ⟨b,0,none⟩),.int .i64 (n:Nat),.slice A u m] w (Ar w S n g.n):=by
 by_cases O:u=0
 .subst O
  exact IX w b n m S g.n A (List.eq_nil_of_length_eq_zero k)
 .obtain⟨M,rfl,_⟩:=I (by omega)
  exact LG w b J me L F top g S B Q Z n z h M u m I k U
def oz(near:Nat->Bool)(z:Int):Option Value:=if 0<=z/\near z.toNat=true then some (.bool true)else none
theorem LY(near:Nat->Bool)(n:Nat):(oz near (n:Nat)).getD (.bool false)=.bool (near n):=by
 cases h:near n<;>simp[oz,h]
theorem I5(near:Nat->Bool)(t:Nat):aL (oz near) ((t:Nat):Int) (some (.bool true))=oz (λx=>near x||decide (x=t)):=by
 funext z;unfold aL oz;by_cases e:z=(t:Nat)
 .rw[if_pos e,if_pos ⟨by omega,by simp;right;omega⟩]
 .rw[if_neg e]
  by_cases h:0<=z
  .have:z.toNat≠t:=by omega
   simp[this]
  .rw[if_neg (λq=>h q.1),if_neg (λq=>h q.1)]
theorem Em:oz (λ_=>false)=λ_=>none:=by funext z;unfold oz;simp
def tu(near:Nat->Bool)(nb:List Nat)(j:Nat)(x:Nat):Bool:=near x||decide (x∈nb.take j)
theorem Ej{near:Nat->Bool}{nb:List Nat}{j t:Nat}(h:nb[j]? =some t):(λx=>tu near nb j x||decide (x=t))=tu near nb (j+1):=by
 funext x;unfold tu;obtain⟨z,e⟩:=List.getElem?_eq_some_iff.1 h;rw[List.take_succ_eq_append_getElem z,e,Bool.or_assoc];congr 1;by_cases k:x∈nb.take j<;>by_cases u:x=t<;>simp[k,u]
theorem El(near:Nat->Bool)(nb:List Nat):tu near nb 0=near:=by funext x;unfold tu;simp
theorem I4{near:Nat->Bool}{nb:List Nat}(h:nb.length<=j):tu near nb j=λx=>near x||decide (x∈nb):=by
 funext x;unfold tu;rw[List.take_of_length_le h]
theorem IQ(k:g.ak n):aL (bH g S) ((n:Nat):Int) (some (.int .i64 (tp:Nat)))=bH g (S.part n tp T):=by
 funext z;unfold aL;by_cases e:z=(n:Nat)
 .rw[if_pos e,e,fQ k]
  show _=some (Value.int .i64 ((FR.upd S.lev n tp n:Nat):Int));rw[upd_same]
 .rw[if_neg e]
  unfold bH;by_cases h:0<=z/\g.ak z.toNat
  .rw[if_pos h,if_pos h]
   show _=some (Value.int .i64 ((FR.upd S.lev n tp z.toNat:Nat):Int));rw[upd_ne _ _ (by omega)]
  .rw[if_neg h,if_neg h]
theorem Ik(h:∀a b,¬T a b):gK g (S.part n tp T)=gK g S:=by
 unfold gK gz;rw[LS.Ji h]
open Classical in
noncomputable def av(g:G):List Nat:=(List.range g.n).filter λa=>decide (g.ak a)
theorem bn:a∈av g↔g.ak a:=by
 unfold av;simp;exactλh=>h.1
theorem dU(g:G):(av g).Pairwise (· < ·):=List.Pairwise.filter _ List.pairwise_lt_range
theorem l8(g:G):(av g).Nodup:=(dU g).imp (λh e=>by omega)
noncomputable def jd(g:G)(S:LS):List Nat:=(av g).filter λa=>decide (S.lev a=0)
theorem nD:a∈jd g S↔g.ak a/\S.lev a=0:=by
 unfold jd;rw[List.mem_filter,bn];simp
theorem BK(g:G)(S:LS):(jd g S).Nodup:=(l8 g).filter _
theorem IL(S:LS):(jd g S).length<=g.n:=Nat.le_trans (List.length_filter_le _ _) (Nat.le_trans (List.length_filter_le _ _) (by simp))
theorem zF(g:G)(S:LS):((jd g S).map λn:Nat=>(n:Int)).Pairwise (· < ·):=by
 rw[List.pairwise_map];exact((dU g).filter _).imp (λh=>by omega)
theorem IZ(z:Int):z∈((jd g S).map λn:Nat=>(n:Int))↔bH g S z≠none/\vv g S z=0:=by
 rw[List.mem_map];constructor
 .rintro⟨n,F,rfl⟩
  obtain⟨k,u⟩:=nD.1 F;exact⟨qB.2 ⟨n,rfl,k⟩,by rw[zH k,u];rfl⟩
 .rintro⟨k,u⟩
  obtain⟨n,rfl,B⟩:=qB.1 k;rw[zH B]at u;exact⟨n,nD.2 ⟨B,by omega⟩,rfl⟩
noncomputable def jU(g:G)(S:LS)(tp i:Nat):RS:=((jd g S).take i).foldl (RS.step g.n tp) ⟨S,λ_=>false,false⟩
theorem Pv(h:(jd g S)[i]? =some n):jU g S tp (i+1)=RS.step g.n tp (jU g S tp i) n:=by
 unfold jU;obtain⟨k,e⟩:=List.getElem?_eq_some_iff.1 h;rw[List.take_succ_eq_append_getElem k,List.foldl_append,e];rfl
theorem RH(h:(jd g S).length<=i):jU g S tp i=RS.run g.n tp (av g) S:=by
 unfold jU RS.run;rw[List.take_of_length_le h,LS.rH (av g) _ (l8 g)];rfl
theorem RI(H:LS.Inv g g.n tp K S (λ_=>false))(i:Nat):LS.Inv g g.n tp K (jU g S tp i).S (jU g S tp i).near:=
 LS.ql _ _ H (λn k=>(nD.1 (List.mem_of_mem_take k)).1)
theorem RJ(h:(jd g S)[i]? =some n):(jU g S tp i).S.lev n=0/\g.ak n:=by
 obtain⟨u,z⟩:=nD.1 (List.mem_of_getElem? h);refine⟨?_,u⟩;unfold jU;rw[LS.qm]
 .exact z
 .intro B
  obtain⟨j,k⟩:=List.getElem?_of_mem B;rw[List.getElem?_take]at k;split at k
  .have:=(List.getElem?_inj (List.getElem?_eq_some_iff.1 h).1 (BK g S)).1 (h.trans k.symm)
   omega
  .cases k
theorem OA{N tp K:Nat}{k:Nat->Bool}(H:LS.Inv g N tp K S k):Nw g S:=H.bG
theorem OB{N tp K:Nat}{z:Nat->Bool}(H:LS.Inv g N tp K S z)(I:K<=1000):Sr S:=λa b c m h=>by
 obtain⟨k,B,u,F,_⟩:=H.small a b c m h;exact⟨k,by omega,u,by omega⟩
structure tL where
 lab:Nat->Option C
 hp:Nat->Option C
 bk:Nat->Int
def lW(hp:Nat->Option C)(t:Nat)(f:C):Prop:=hp t=some f/\∀j d,hp j=some d->It.le ⟨f,(t:Nat)⟩ ⟨d,(j:Nat)⟩
theorem lW.one{hp:Nat->Option C}{t z:Nat}{f u:C}(h:lW hp t f)(k:lW hp z u):t=z/\f=u:=by
 have B:=h.2 _ _ k.1;have F:=k.2 _ _ h.1;rcases It.le_iff.1 B with q|q
 .exact absurd q F
 .injection q with I J
  exact⟨by omega,I⟩
def pW(src:Nat->C->Prop)(h:Nat->C)(ps:Nat->C->Prop)(V:tL):Prop:=∀b,
 (V.lab b=none/\V.hp b=none/\V.bk b=0/\∀c,src b c->ps b c)\/∃x,V.lab b=some x/\V.hp b=some (C.add x (h b))/\V.bk b= -1/\src b x/\∀c,src b c->ps b c\/C.le x c
def pV(E:Nat->Nat->C->Prop)(h:Nat->C)(V0:tL)(k:Nat)(pend:Nat->C->Prop)(V:tL):Prop:=∃d,V0.lab k=some d/\V.lab k=some d/\∀b,
 (V.lab b=V0.lab b/\V.hp b=FR.upd V0.hp k none b/\V.bk b=V0.bk b/\∀e,E k b e->pend b e)\/
 ∃e,E k b e/\((lower? V0.lab b (C.add d e)=true/\V.lab b=some (C.add d e)/\V.hp b=some (C.add (C.add d e) (h b))/\V.bk b=(k:Nat))\/
  (lower? V0.lab b (C.add d e)=false/\V.lab b=V0.lab b/\V.hp b=FR.upd V0.hp k none b/\V.bk b=V0.bk b))
inductive oL (E:Nat->Nat->C->Prop) (src:Nat->C->Prop) (h:Nat->C):Nat->tL->Prop
 |src {V:tL}:pW src h (λ_ _=>False) V->oL E src h 0 V
 |next {i k:Nat} {f:C} {V0 V:tL}:oL E src h i V0->lW V0.hp k f->k≠256->pV E h V0 k (λ_ _=>False) V->oL E src h (i+1) V
theorem pW.one{src:Nat->C->Prop}{h:Nat->C}{V u:tL}(H:pW src h (λ_ _=>False) V)(K:pW src h (λ_ _=>False) u):V=u:=by
 have k:∀b,V.lab b=u.lab b/\V.hp b=u.hp b/\V.bk b=u.bk b:=by
  intro b;rcases H b with⟨F,I,J,z⟩|⟨x,F,I,J,z,Q⟩<;>rcases K b with⟨L,M,O,B⟩|⟨y,L,M,O,B,U⟩
  .rw[F,I,J,L,M,O];exact⟨rfl,rfl,rfl⟩
  .exact(z _ B).elim
  .exact(B _ z).elim
  .have e:x=y:=C.le_antisymm ((Q _ B).resolve_left id) ((U _ z).resolve_left id)
   subst e;rw[F,I,J,L,M,O];exact⟨rfl,rfl,rfl⟩
 obtain⟨a,b,c⟩:=V;obtain⟨Z,g,P⟩:=u;congr 1
 .funext x;exact(k x).1
 .funext x;exact(k x).2.1
 .funext x;exact(k x).2.2
section
variable {b i k:Nat}{pend pend' ps ps':Nat->C->Prop}{hp lab:Nat->Option C}
variable {E:Nat->Nat->C->Prop} {src:Nat->C->Prop} {h:Nat->C}
theorem pV.one(Z:∀a b e P,E a b e->E a b P->e=P){V0 V B:tL}(H:pV E h V0 k (λ_ _=>False) V)(K:pV E h V0 k (λ_ _=>False) B):V=B:=by
 obtain⟨d,u,_,H⟩:=H;obtain⟨S,g,_,K⟩:=K;obtain rfl:d=S:=by rw[u]at g;injection g
 have z:∀b,V.lab b=B.lab b/\V.hp b=B.hp b/\V.bk b=B.bk b:=by
  intro b;rcases H b with⟨u,F,I,T⟩|⟨e,R,U⟩<;>rcases K b with⟨g,M,O,k4⟩|⟨P,J,k5⟩
  .rw[u,F,I,g,M,O];exact⟨rfl,rfl,rfl⟩
  .exact(T _ J).elim
  .exact(k4 _ R).elim
  .obtain rfl:=Z _ _ _ _ R J
   rcases U with⟨Q,u,F,I⟩|⟨Q,u,F,I⟩<;>rcases k5 with⟨L,g,M,O⟩|⟨L,g,M,O⟩
   .rw[u,F,I,g,M,O];exact⟨rfl,rfl,rfl⟩
   .rw[Q]at L;cases L
   .rw[Q]at L;cases L
   .rw[u,F,I,g,M,O];exact⟨rfl,rfl,rfl⟩
 obtain⟨a,b,c⟩:=V;obtain⟨a',b',c'⟩:=B;congr 1
 .funext x;exact(z x).1
 .funext x;exact(z x).2.1
 .funext x;exact(z x).2.2
theorem oL.one(L:∀a b e u,E a b e->E a b u->e=u){V g:tL}(H:oL E src h i V)(K:oL E src h i g):V=g:=by
 induction H generalizing g with
 |src H=>
  cases K with
  |src K=>exact H.one K
 |next O z _ B M=>
  cases K with
  |next F I _ J=>
   obtain rfl:=M F;obtain⟨rfl,_⟩:=z.one I;exact B.one L J
def QB(V:tL):Prop:=(∀j,V.hp j=none)\/∃f,lW V.hp 256 f
theorem oL.lt(I:∀a b e z,E a b e->E a b z->e=z){i j:Nat}{V F:tL}(H:oL E src h i V)(K:oL E src h j F)(J:QB V):¬i<j:=by
 intro L
 induction K with
 |src _=>omega
 | @next j k f Q R B u M P O=>
  by_cases e:i=j
  .subst e
   obtain rfl:=H.one I B;rcases J with q|⟨S,q⟩
   .have g:=u.1
    rw[q k]at g;cases g
   .exact M (u.one q).1
  .exact O (by omega)
theorem oL.fin(u:∀a b e B,E a b e->E a b B->e=B){i j:Nat}{V g:tL}(H:oL E src h i V)(K:oL E src h j g)(F:QB V)(z:QB g):V=g:=by
 have I:=H.lt u K F;have J:=K.lt u H z;obtain rfl:i=j:=by omega
 exact H.one u K
theorem pW.start(src:Nat->C->Prop)(h:Nat->C):pW src h src ⟨λ_=>none,λ_=>none,λ_=>0⟩:=λ_=>.inl ⟨rfl,rfl,rfl,λ_ h=>h⟩
theorem pW.weak{V:tL}(H:pW src h ps V)(I:∀s c,ps s c->ps' s c):pW src h ps' V:=λb=>by
 rcases H b with⟨g,u,z,B⟩|⟨x,g,u,z,B,J⟩
 .exact .inl ⟨g,u,z,λc F=>I _ _ (B c F)⟩
 .exact .inr ⟨x,g,u,z,B,λc F=>(J c F).imp_left (I _ _)⟩
theorem pW.step{bk:Nat->Int}(H:pW src h ps ⟨lab,hp,bk⟩){x:C}{z:Bool}(R:lower? lab b x=z)(S:src b x)(J:∀s c,ps s c->ps' s c\/(s=b/\C.le x c)):pW src h ps' ⟨pushed lab b x z,pushed hp b (C.add x (h b)) z,if z=true then FR.upd bk b (-1)else bk⟩:=λa=>by
 by_cases e:a=b
 .subst e
  cases z with
  |true=>
   refine .inr ⟨x,FR.upd_same _ _ _,FR.upd_same _ _ _,FR.upd_same _ _ _,S,λc u=>?_⟩;rcases H a with⟨_,_,_,I⟩|⟨y,g,_,_,_,M⟩
   .exact(J _ _ (I c u)).imp_right (·.2)
   .rcases M c u with q|q
    .exact(J _ _ q).imp_right (·.2)
    .exact .inr (C.le_trans (C.le_of_lt (nz R y g)) q)
  |false=>
   obtain⟨d,g,F⟩:=vB R;rcases H a with⟨B,_⟩|⟨y,B,T,U,Z,k⟩
   .simp only at B;rw[B]at g;cases g
   .obtain rfl:y=d:=by simp only at B;rw[B]at g;injection g
    refine .inr ⟨y,B,T,U,Z,λc u=>?_⟩;rcases k c u with q|q
    .exact(J _ _ q).imp_right λr=>C.le_trans F r.2
    .exact .inr q
 .have O:pushed lab b x z a=lab a:=by unfold pushed;split;exact FR.upd_ne _ _ e;rfl
  have P:pushed hp b (C.add x (h b)) z a=hp a:=by unfold pushed;split;exact FR.upd_ne _ _ e;rfl
  have Q:(if z=true then FR.upd bk b (-1)else bk) a=bk a:=by split;exact FR.upd_ne _ _ e;rfl
  rcases H a with⟨g,F,L,I⟩|⟨y,g,F,L,I,M⟩
  .exact .inl ⟨O.trans g,P.trans F,Q.trans L,λc u=>(J _ _ (I c u)).resolve_right λq=>e q.1⟩
  .exact .inr ⟨y,O.trans g,P.trans F,Q.trans L,I,λc u=>(M c u).imp_left λq=>(J _ _ q).resolve_right λr=>e r.1⟩
theorem pV.start{V0:tL}{d:C}(g:V0.lab k=some d):pV E h V0 k (E k) ⟨V0.lab,FR.upd V0.hp k none,V0.bk⟩:=⟨d,g,g,λ_=>.inl ⟨rfl,rfl,rfl,λ_ h=>h⟩⟩
theorem pV.weak{V0 V:tL}(H:pV E h V0 k pend V)(g:∀b e,pend b e->pend' b e):pV E h V0 k pend' V:=by
 obtain⟨d,u,z,H⟩:=H;exact⟨d,u,z,λb=>(H b).imp_left λ⟨F,I,J,L⟩=>⟨F,I,J,λe B=>g _ _ (L e B)⟩⟩
theorem Ee(lab:Nat->Option C)(b:Nat)(x:C)(h:lab b=some x):lower? lab b x=false:=by
 unfold lower?;rw[h];simp only[decide_eq_false_iff_not]
 exactλq=>C.lt_irrefl x (C.fo.1 q)
theorem BP{lab g:Nat->Option C}(h:lab b=g b)(x:C):lower? lab b x=lower? g b x:=by unfold lower?;rw[h]
theorem pV.step(hE:∀a b e F,E a b e->E a b F->e=F){V0:tL}{bk:Nat->Int}(H:pV E h V0 k pend ⟨lab,hp,bk⟩){d e:C}{I:Bool}(hd:lab k=some d)(Z:k≠b)(U:E k b e)(L:lower? lab b (C.add d e)=I)(ab:∀Q F,Q≠b->pend Q F->pend' Q F):pV E h V0 k pend' ⟨pushed lab b (C.add d e) I,pushed hp b (C.add (C.add d e) (h b)) I,if I=true then FR.upd bk b (k:Nat)else bk⟩:=by
 obtain⟨O,h1,P,H⟩:=H;obtain rfl:O=d:=by simp only at P;rw[P]at hd;injection hd
 refine⟨O,h1,?_,λa=>?_⟩
 .show pushed lab b _ I k=_
  unfold pushed;split
  .rw[FR.upd_ne _ _ Z];exact P
  .exact P
 .by_cases M:a=b
  .subst M
   right;refine⟨e,U,?_⟩;rcases H a with⟨g,u,z,_⟩|⟨F,B,⟨J,g,u,z⟩|⟨J,g,u,z⟩⟩
   .simp only at g u z
    rw[BP g]at L;cases I with
    |true=>exact .inl ⟨L,FR.upd_same _ _ _,FR.upd_same _ _ _,FR.upd_same _ _ _⟩
    |false=>exact .inr ⟨L,g,u,z⟩
   .obtain rfl:=hE _ _ _ _ U B
    simp only at g u z;rw[Ee _ _ _ g]at L;subst L;exact .inl ⟨J,g,u,z⟩
   .obtain rfl:=hE _ _ _ _ U B
    simp only at g u z;rw[BP g,J]at L;subst L;exact .inr ⟨J,g,u,z⟩
  .have R:pushed lab b (C.add O e) I a=lab a:=by unfold pushed;split;exact FR.upd_ne _ _ M;rfl
   have S:pushed hp b (C.add (C.add O e) (h b)) I a=hp a:=by unfold pushed;split;exact FR.upd_ne _ _ M;rfl
   have T:(if I=true then FR.upd bk b (k:Nat)else bk) a=bk a:=by split;exact FR.upd_ne _ _ M;rfl
   rcases H a with⟨g,u,z,q4⟩|⟨F,B,⟨J,g,u,z⟩|⟨J,g,u,z⟩⟩
   .exact .inl ⟨R.trans g,S.trans u,T.trans z,λe hh=>ab _ _ M (q4 e hh)⟩
   .exact .inr ⟨F,B,.inl ⟨J,R.trans g,S.trans u,T.trans z⟩⟩
   .exact .inr ⟨F,B,.inr ⟨J,R.trans g,S.trans u,T.trans z⟩⟩
end
variable {S:LS}
inductive CW (bk:Nat->Int):Int->List Nat->Prop
 |nil {z:Int}:z<0->CW bk z []
 |cons {a:Nat} {l:List Nat}:CW bk (bk a) l->CW bk (a:Nat) (a::l)
theorem CW.one{bk:Nat->Int}{z:Int}{l m:List Nat}(h:CW bk z l)(k:CW bk z m):l=m:=by
 induction h generalizing m with
 |nil g=>
  cases k with
  |nil=>rfl
  |cons _=>omega
 | @cons a l _ ih=>
  generalize g:((a:Nat):Int)=z at k;cases k with
  |nil _=>omega
  | @cons b m k=>
   obtain rfl:a=b:=by omega
   rw[ih k]
inductive Ap (S:LS):List Nat->List Nat->Prop
 |one (a:Nat):Ap S [a] [a]
 |snoc {P W L:List Nat} {x y:Nat}:Ap S P W->P.getLast?=some x->LS.Fa S x y L->Ap S (P++[y]) (W++L.tail)
theorem Ap.len{P W:List Nat}(h:Ap S P W):P≠[]:=by cases h<;>simp
theorem Ap.JH{P W u:List Nat}(h:Ap S P W)(k:Ap S P u):W=u:=by
 induction h generalizing u with
 |one a=>
  generalize hp:[a]=P at k;cases k with
  |one b=>rfl
  | @snoc P _ _ _ y F _ _=>
   exfalso;have z:=congrArg List.length hp;have B:=F.len;cases P with
   |nil=>exact B rfl
   |cons=>simp at z
 | @snoc P W L x y I z B J=>
  generalize hp:P++[y]=Q at k;cases k with
  |one b=>
   exfalso;have O:=congrArg List.length hp;have R:=I.len;cases P with
   |nil=>exact R rfl
   |cons=>simp at O
  | @snoc U Z T x' y' F g M=>
   obtain⟨rfl,e⟩:=List.append_inj' hp rfl;simp only[List.cons.injEq,and_true]at e;subst e;rw[z]at g;injection g with g;subst g
   rw[J F,B.JH M]
def PY(g:G)(S:LS)(inn:List Ed)(b:Nat):Prop:=∃(t:Nat)(c:C),(∃e∈inn,e.to_=(t:Nat))/\g.ak t/\Walk (λx y c=>S.lev x<S.lev y/\∃m,S.eg x y=some (c,m)) t b c
theorem PY.up{g:G}{inn:List Ed}{a b:Nat}{c:C}{m:Int}(h:PY g S inn a)(F:S.lev a<S.lev b)(B:S.eg a b=some (c,m)):PY g S inn b:=by
 obtain⟨t,d,k,u,z⟩:=h;exact⟨t,_,k,u,z.snoc ⟨F,m,B⟩⟩
theorem Cx(S:LS)(tp:Nat)(mark:Nat->Prop)(fin:Nat->Option C)(a b:Nat)(e F:C)(h:S.SE tp 256 mark fin a b e)(k:S.SE tp 256 mark fin a b F):e=F:=by
 rcases h with⟨_,u,_,m,z⟩|⟨_,u,z⟩<;>rcases k with⟨_,B,_,I,g⟩|⟨_,B,g⟩
 .rw[z]at g;injection g with g;injection g
 .exact absurd B u
 .exact absurd u B
 .rw[z]at g;injection g
abbrev Ah(S:LS)(tp:Nat)(mark:Nat->Bool)(fin:Nat->Option C):Nat->Nat->C->Prop:=S.SE tp 256 (λb=>mark b=true) fin
structure J8 (g:G) (tp:Nat) (S:LS) (out:List Ed) (fin:Nat->Option C) (h:Nat->C):Prop where
 ok:g.ok
 fn:LS.Fin g tp S
 Ag:uD out
 fok:∀t e,fin t=some e->0<=e.s/\e.s<=1048576/\0<=e.d/\e.d<=1048576
 hok:∀j,g.ak j->0<=(h j).s/\(h j).s<=1000/\0<=(h j).d/\(h j).d<=1000
 hT:h 256=C.zero
structure tX (g:G) (tp:Nat) (S:LS) (mark:Nat->Bool) (fin:Nat->Option C) (out:List Ed) (h:Nat->C) (lab hp:Nat->Option C) (bk:Nat->Int) (k:Nat) (pend ps:Nat->C->Prop) (gk:Nat):Prop where
 hu:Hu (Ah S tp mark fin) (jZ g out) h lab hp bk k pend ps
 sb:SB g.n 256 2100000 4000 2100000 lab
 cor:∀j,lab j≠none->g.ak j\/j=256
 me:2*SB.me g.n 256 2100000 4000 2100000 lab+bC hp 257<=gk
 tin:lab 256≠none->hp 256≠none
theorem Hu.weak{E:Nat->Nat->C->Prop}{src:Nat->C->Prop}{h:Nat->C}{lab hp:Nat->Option C}{back:Nat->Int}{k:Nat}{pend ps pend' g:Nat->C->Prop}(H:Hu E src h lab hp back k pend ps)(u:∀b e,pend b e->pend' b e)(z:∀s c,ps s c->g s c):Hu E src h lab hp back k pend' g:=
 ⟨H.reach,H.key,λa c b e B F=>(H.closed a c b e B F).imp_left λq=>⟨q.1,u b e q.2⟩,λs c I=>(H.srcs s c I).imp_left (z s c),H.back⟩
section
variable {tb:Bool}{f x:C}{b n t:Nat}{pend' ps':Nat->C->Prop}
variable {g:G} {tp:Nat} {S:LS} {mark:Nat->Bool} {fin:Nat->Option C} {out:List Ed} {h:Nat->C} {lab hp:Nat->Option C} {bk:Nat->Int} {k:Nat} {pend ps:Nat->C->Prop} {gk:Nat}
theorem tX.weak(I:tX g tp S mark fin out h lab hp bk k pend ps gk)(u:∀b e,pend b e->pend' b e)(z:∀s c,ps s c->ps' s c):tX g tp S mark fin out h lab hp bk k pend' ps' gk:=
 ⟨Hu.weak I.hu u z,I.sb,I.cor,I.me,I.tin⟩
theorem tX.small(u:g.ok)(I:tX g tp S mark fin out h lab hp bk k pend ps gk){j:Nat}{c:C}(z:lab j=some c):0<=c.s/\c.s<=10448000/\0<=c.d/\c.d<=10448000:=by
 have:=I.sb.small z;have B:=G.bR u;omega
theorem tX.start(z:g.ok)(B:J8 g tp S out fin h)(k:Nat)(bk:Nat->Int):tX g tp S mark fin out h (λ_=>none) (λ_=>none) bk k (λ_ _=>False) (jZ g out) (2*SB.me g.n 256 2100000 4000 2100000 (λ_=>none)):=
 ⟨Hu.start k bk,SB.start,λ_ u=>absurd rfl u,by rw[mZ];omega,λu=>absurd rfl u⟩
theorem tX.low(I:tX g tp S mark fin out h lab hp bk k pend ps gk)(J:lower? lab b x=tb)(z:tb=true):lower? hp b (C.add x (h b))=true:=by
 subst z;have F:=nz J;unfold lower?;cases B:hp b with
 |none=>rfl
 |some f=>
  obtain⟨c,u,rfl⟩:=I.hu.key b f B;have:=F c u;simp only[decide_eq_true_eq];exact C.fo.2 ((C.add_lt_right (h b)).2 this)
theorem tX.hpr(I:tX g tp S mark fin out h lab hp bk k pend ps gk)(u:g.ok):∀j,hp j≠none->j<257:=λj F=>by
 cases z:hp j with
 |none=>exact absurd z F
 |some f=>
  obtain⟨c,B,_⟩:=I.hu.key j f z;have J:=G.bR u;rcases I.sb.rng j (by rw[B];simp)with q|q<;>omega
theorem tX.step(L:J8 g tp S out fin h)(I:tX g tp S mark fin out h lab hp bk k pend ps gk){z:Int}(Q:g.ak b\/b=256)(ac:b≠k\/∀O P,¬pend O P)(hz:(z= -1/\jZ g out b x)\/∃(a:Nat)(d e:C),z=a/\lab a=some d/\a≠b/\Ah S tp mark fin a b e/\x=C.add d e)(U:∀O P,pend O P->pend' O P\/(O=b/\∀c,lab k=some c->C.le x (C.add c P)))(Z:∀s c,ps s c->ps' s c\/(s=b/\C.le x c))(ht:lower? lab b x=tb):tX g tp S mark fin out h (pushed lab b x tb) (pushed hp b (C.add x (h b)) tb) (if tb=true then FR.upd bk b z else bk) k pend' ps' gk:=by
 cases tb with
 |false=>
  obtain⟨d,h1,h2⟩:=vB ht;refine⟨?_,I.sb,I.cor,I.me,I.tin⟩;exact I.hu.keep h1 h2 U Z
 |true=>
  have T:=nz ht;have hn:=G.bR L.ok
  have hr:FR.Reach (Ah S tp mark fin) (jZ g out) b x:=by
   rcases hz with⟨_,q⟩|⟨a,d,e,_,u,_,F,rfl⟩
   .exact FR.Reach.src q
   .exact(I.hu.reach a d u).snoc F
  have ad:C.Nn x:=by
   rcases hz with⟨_,q⟩|⟨a,d,e,_,u,_,F,rfl⟩
   .exact PH L.Ag q
   .refine C.zR (I.sb.nn a d u) ?_
    rcases F with⟨_,_,_,m,B⟩|⟨_,_,B⟩
    .have:=L.fn.small _ _ _ _ B;exact⟨this.1,this.2.2.1⟩
    .have:=L.fok _ _ B;exact⟨this.1,this.2.2.1⟩
  have hb:b<g.n\/b=256:=Q.imp_left λq=>q.1
  obtain⟨s1,s2⟩:=I.sb.put hn hb ad T (λR _=>by
   rcases hz with⟨_,q⟩|⟨a,d,e,_,u,_,F,rfl⟩
   .obtain⟨_,i,y,_,h1,_,rfl⟩:=q
    refine C.le_trans (Lt (L.Ag y (List.mem_of_getElem? h1))) (C.aK (Int.le_refl _) ?_);simp only;omega
   .rcases F with⟨J,_,_,m,B⟩|⟨_,J,B⟩
    .have M:a<g.n:=(I.sb.rng a (by rw[u];simp)).resolve_right J
     refine C.le_trans (C.add_le_add (I.sb.bd a d u M) (le_step (L.fn.small _ _ _ _ B))) (C.aK ?_ ?_)
     .simp[C.add]
     .simp only[C.add,Nat.mul_add];omega
    .omega) (λR=>by
   have ab:b=256:=hb.resolve_left R;rcases hz with⟨_,q⟩|⟨a,d,e,_,u,_,F,rfl⟩
   .have:=q.1.1;omega
   .rcases F with⟨_,J,_⟩|⟨J,_,B⟩
    .exact absurd ab J
    .have M:a<g.n:=(I.sb.rng a (by rw[u];simp)).resolve_right J
     have hm:=Nat.mul_le_mul_left 4000 (jB lab g.n);refine C.le_trans (C.add_le_add (I.sb.bd a d u M) (Lt (L.fok _ _ B))) (C.aK ?_ ?_)
     .simp[C.add]
     .simp only[C.add];omega)
  refine⟨?_,s1,λj hj=>?_,?_,λhj=>?_⟩
  .refine I.hu.put hr T ac ?_ U Z
   rcases hz with q|⟨a,d,e,u,F,B,J,rfl⟩
   .exact .inl q
   .exact .inr ⟨a,d,e,u,F,B,J,C.le_refl _⟩
  .by_cases e:j=b
   .rw[e];exact Q
   .refine I.cor j ?_
    have:pushed lab b x true j=lab j:=FR.upd_ne _ _ e;rwa[this]at hj
  .have h1:=A9 hp 257 b (C.add x (h b))
   have h2:=I.me;show 2*SB.me g.n 256 2100000 4000 2100000 (FR.upd lab b (some x))+bC (FR.upd hp b (some (C.add x (h b)))) 257<=gk;omega
  .show FR.upd hp b (some (C.add x (h b))) 256≠none
   by_cases e:256=b
   .rw[e,FR.upd_same];simp
   .rw[FR.upd_ne _ _ e]
    refine I.tin ?_;have:pushed lab b x true 256=lab 256:=FR.upd_ne _ _ e;rwa[this]at hj
theorem tX.pop(z:g.ok)(I:tX g tp S mark fin out h lab hp bk k (λ_ _=>False) (λ_ _=>False) gk)(B:hp t=some f)(u:t≠256):tX g tp S mark fin out h lab (FR.upd hp t none) bk t (Ah S tp mark fin t) (λ_ _=>False) (gk-1)/\0<gk:=by
 have J:bC hp 257=bC (FR.upd hp t none) 257+1:=Ba (I.hpr z t (by rw[B];simp)) (by rw[B];simp);have L:=I.me;exact⟨⟨I.hu.pop,I.sb,I.cor,by omega,λF=>by rw[FR.upd_ne _ _ (Ne.symm u)];exact I.tin F⟩,by omega⟩
structure Df (V0:tL) (g:G) (tp:Nat) (S:LS) (mark:Nat->Bool) (fin:Nat->Option C) (out:List Ed) (h:Nat->C) (lab hp:Nat->Option C) (bk:Nat->Int) (k:Nat) (pend ps:Nat->C->Prop) (gk:Nat):Prop extends tX g tp S mark fin out h lab hp bk k pend ps gk where
 spr:pV (Ah S tp mark fin) h V0 k pend ⟨lab,hp,bk⟩
theorem Df.weak{V0:tL}(I:Df V0 g tp S mark fin out h lab hp bk k pend ps gk)(u:∀b e,pend b e->pend' b e)(z:∀s c,ps s c->ps' s c):Df V0 g tp S mark fin out h lab hp bk k pend' ps' gk:=
 ⟨I.totX.weak u z,I.spr.weak u⟩
theorem Df.step{V0:tL}(T:J8 g tp S out fin h)(I:Df V0 g tp S mark fin out h lab hp bk k pend ps gk)(F:g.ak b\/b=256)(J:b≠k\/∀u z,¬pend u z)(Z:∃(d e:C),lab k=some d/\k≠b/\Ah S tp mark fin k b e/\x=C.add d e)(B:∀u z,pend u z->pend' u z\/(u=b/\∀c,lab k=some c->C.le x (C.add c z)))(M:∀s c,ps s c->ps' s c\/(s=b/\C.le x c))(R:lower? lab b x=tb):Df V0 g tp S mark fin out h (pushed lab b x tb) (pushed hp b (C.add x (h b)) tb) (if tb=true then FR.upd bk b (k:Nat)else bk) k pend' ps' gk:=by
 obtain⟨d,e,O,P,Q,rfl⟩:=Z;exact⟨I.totX.step T F J (.inr ⟨k,d,e,rfl,O,P,Q,rfl⟩) B M R,I.spr.step (Cx S tp _ fin) O P Q R λu z L U=>(B u z U).resolve_right λq=>L q.1⟩
structure De (g:G) (tp:Nat) (S:LS) (mark:Nat->Bool) (fin:Nat->Option C) (out:List Ed) (h:Nat->C) (lab hp:Nat->Option C) (bk:Nat->Int) (k:Nat) (pend ps:Nat->C->Prop) (gk:Nat):Prop extends tX g tp S mark fin out h lab hp bk k pend ps gk where
 srs:pW (jZ g out) h ps ⟨lab,hp,bk⟩
theorem De.weak(I:De g tp S mark fin out h lab hp bk k pend ps gk)(z:∀b e,pend b e->pend' b e)(u:∀s c,ps s c->ps' s c):De g tp S mark fin out h lab hp bk k pend' ps' gk:=
 ⟨I.totX.weak z u,I.srs.weak u⟩
theorem De.start(u:g.ok)(z:J8 g tp S out fin h)(k:Nat):De g tp S mark fin out h (λ_=>none) (λ_=>none) (λ_=>0) k (λ_ _=>False) (jZ g out) (2*SB.me g.n 256 2100000 4000 2100000 (λ_=>none)):=
 ⟨tX.start u z k _,pW.start _ h⟩
theorem De.step(P:J8 g tp S out fin h)(I:De g tp S mark fin out h lab hp bk k pend ps gk)(F:g.ak b\/b=256)(J:b≠k\/∀u z,¬pend u z)(O:jZ g out b x)(L:∀u z,pend u z->pend' u z\/(u=b/\∀c,lab k=some c->C.le x (C.add c z)))(B:∀s c,ps s c->ps' s c\/(s=b/\C.le x c))(M:lower? lab b x=tb):De g tp S mark fin out h (pushed lab b x tb) (pushed hp b (C.add x (h b)) tb) (if tb=true then FR.upd bk b (-1)else bk) k pend' ps' gk:=
 ⟨I.totX.step P F J (.inl ⟨rfl,O⟩) L B M,I.srs.step M O B⟩
structure Su (g:G) (tp:Nat) (S:LS) (mark:Nat->Bool) (fin:Nat->Option C) (out:List Ed) (h:Nat->C) (lab hp:Nat->Option C) (bk:Nat->Int) (k:Nat) (pend ps:Nat->C->Prop) (gk:Nat):Prop extends tX g tp S mark fin out h lab hp bk k pend ps gk where
 run:∃i,oL (Ah S tp mark fin) (jZ g out) h i ⟨lab,hp,bk⟩
theorem De.run(I:De g tp S mark fin out h lab hp bk k (λ_ _=>False) (λ_ _=>False) gk):Su g tp S mark fin out h lab hp bk k (λ_ _=>False) (λ_ _=>False) gk:=
 ⟨I.totX,0,.src I.srs⟩
theorem Su.pop(z:g.ok)(I:Su g tp S mark fin out h lab hp bk k (λ_ _=>False) (λ_ _=>False) gk){f c:C}(L:hp t=some f)(J:lab t=some c)(u:t≠256):Df ⟨lab,hp,bk⟩ g tp S mark fin out h lab (FR.upd hp t none) bk t (Ah S tp mark fin t) (λ_ _=>False) (gk-1)/\0<gk:=by
 obtain⟨B,F⟩:=I.totX.pop z L u;exact⟨⟨B,pV.start (V0:=⟨lab,hp,bk⟩) J⟩,F⟩
theorem Df.run{V0:tL}(I:Df V0 g tp S mark fin out h lab hp bk k (λ_ _=>False) (λ_ _=>False) gk)(u:∃i,oL (Ah S tp mark fin) (jZ g out) h i V0)(z:lW V0.hp k f)(B:k≠256):Su g tp S mark fin out h lab hp bk k (λ_ _=>False) (λ_ _=>False) gk:=by
 obtain⟨i,u⟩:=u;exact⟨I.totX,i+1,.next u z B I.spr⟩
def fG(S:LS)(tp:Nat)(mark:Nat->Bool)(n:Nat)(L:List Ed)(j:Nat)(b:Nat)(e:C):Prop:=∃(i:Nat)(x:Ed),j<=i/\L[i]? =some x/\x.to_=(b:Nat)/\x.c=e/\(S.lev n<S.lev b\/S.lev b=tp\/mark b=true)
theorem fG.first(B:∀y c m,S.eg n y=some (c,m)->y<g.n){e:C}(z:Ah S tp mark fin n b e):fG S tp mark n (gz S g.n n) 0 b e\/(b=256/\fin n=some e):=by
 rcases z with⟨_,_,u,m,k⟩|⟨_,u,k⟩
 .have:(⟨(b:Nat),e,m⟩:Ed)∈gz S g.n n:=fw.2 ⟨b,B _ _ _ k,rfl,k⟩
  obtain⟨i,F⟩:=List.getElem?_of_mem this;exact .inl ⟨i,_,Nat.zero_le _,F,rfl,rfl,u⟩
 .exact .inr ⟨u,k⟩
theorem fG.next{n:Nat}{L:List Ed}{j t:Nat}{x:Ed}(F:L[j]? =some x)(J:x.to_=(t:Nat))(b:Nat)(e:C)(h:fG S tp mark n L j b e):fG S tp mark n L (j+1) b e\/(b=t/\e=x.c):=by
 obtain⟨i,y,I,g,z,k,B⟩:=h;by_cases u:i=j
 .subst u
  rw[F]at g;injection g with g;subst g
  right;exact⟨by omega,k.symm⟩
 .exact .inl ⟨i,y,by omega,g,z,k,B⟩
theorem fG.skip{L:List Ed}{j t:Nat}{x:Ed}(I:L[j]? =some x)(M:x.to_=(t:Nat))(k:¬(S.lev n<S.lev t\/S.lev t=tp\/mark t=true))(b:Nat)(e:C)(h:fG S tp mark n L j b e):fG S tp mark n L (j+1) b e:=by
 obtain⟨i,y,J,g,B,F,u⟩:=h;by_cases z:i=j
 .subst z
  rw[I]at g;injection g with g;subst g
  obtain rfl:t=b:=by omega
  exact absurd u k
 .exact⟨i,y,by omega,g,B,F,u⟩
theorem fG.over{L:List Ed}(b:Nat)(e:C):¬fG S tp mark n L L.length b e:=by
 rintro⟨i,y,k,g,_⟩;have:=(List.getElem?_eq_some_iff.1 g).1;omega
end
def ry(lab:Nat->Option C)(c:C):Nat:=dG (λj=>match lab j with|some d=>decide (C.lt d c)|none=>false) 257
theorem GX(lab:Nat->Option C)(c:C):ry lab c<=257:=iN _ _
theorem GY{lab:Nat->Option C}{c d:C}{a:Nat}(u:lab a=some d)(B:a<257)(h:C.lt d c):ry lab d+1<=ry lab c:=by
 refine Fx (m:=a) (λk g=>?_) B ?_ ?_
 .cases z:lab k with
  |none=>rw[z]at g;cases g
  |some e=>
   rw[z]at g;simp only[decide_eq_true_eq]at g⊢;exact C.lt_of_lt_of_le g (C.le_of_lt h)
 .rw[u];simp only[decide_eq_false_iff_not];exact C.lt_irrefl d
 .rw[u];simp only[decide_eq_true_eq];exact h
def Nv(S:LS)(g:G)(fin:Nat->Option C)(out:List Ed)(lab:Nat->Option C)(cT:C)(L:List Nat)(n:Int)(gk:Nat):Prop:=
 ∃(p e d:C)(t:Nat),fin t=some e/\C.le (C.add d (C.add p e)) cT/\
  ((∃a:Nat,n=a/\g.ak a/\lab a=some d/\LS.LW (λx y c=>∃m,S.eg x y=some (c,m)) (a::L.reverse) p/\(a::L.reverse).getLast?=some t/\gk=ry lab d+1/\L.length+gk<=258)\/
   (n= -1/\∃s P,L.reverse=s::P/\jZ g out s d/\LS.LW (λx y c=>∃m,S.eg x y=some (c,m)) (s::P) p/\(s::P).getLast?=some t/\gk=0/\L.length<=258))
theorem Q9{g:G}{tp:Nat}{S:LS}(H:LS.Fin g tp S){a b:Nat}{c:C}{m:Int}(h:S.eg a b=some (c,m)):C.Nn c/\c≠C.zero:=by
 have k:=H.small _ _ _ _ h;refine⟨⟨k.1,k.2.2.1⟩,λu=>?_⟩;have z:=G.yS (H.walk _ _ _ _ h);exact(H.bG a b (by rw[h];simp)).2.2 (nV z u).symm
section
variable {g:G} {tp:Nat} {S:LS} {mark:Nat->Bool} {fin:Nat->Option C} {out:List Ed} {h:Nat->C} {lab hp:Nat->Option C} {bk:Nat->Int} {k:Nat} {gk:Nat}
theorem Nv.start(J:J8 g tp S out fin h)(I:tX g tp S mark fin out h lab hp bk k (λ_ _=>False) (λ_ _=>False) gk){u:C}(L:lab 256=some u):∃z,Nv S g fin out lab u [] (bk 256) z:=by
 have T:=G.bR J.ok;rcases I.hu.back 256 u L with⟨_,q⟩|⟨a,d,e,O,F,P,Q⟩
 .have:=q.1.1;omega
 .rcases P with⟨_,B,_⟩|⟨B,_,R⟩
  .exact absurd rfl B
  .have M:g.ak a:=(I.cor a (by rw[F];simp)).resolve_right B
   refine⟨ry lab d+1,C.zero,e,d,a,R,by rw[C.zero_add];exact Q,.inl ⟨a,O,M,F,.one a,rfl,rfl,?_⟩⟩;have:=GX lab d;simp;omega
theorem Nv.step(T:J8 g tp S out fin h)(I:tX g tp S mark fin out h lab hp bk k (λ_ _=>False) (λ_ _=>False) gk){U:C}{L:List Nat}{a u:Nat}(H:Nv S g fin out lab U L (a:Nat) u):∃z,z<u/\Nv S g fin out lab U (L++[a]) (bk a) z:=by
 have hn:=G.bR T.ok;obtain⟨p,e,d,t,Z,h2,h3⟩:=H;rcases h3 with⟨a',e1,hc,h4,h5,h6,h7,h8⟩|⟨e1,_⟩
 .obtain rfl:a=a':=by omega
  have P:(L++[a]).reverse=a::L.reverse:=by simp
  rcases I.hu.back a d h4 with⟨Q,F⟩|⟨b,J,e',Q,F,q3,q4⟩
  .refine⟨0,by omega,p,e,d,t,Z,h2,.inr ⟨Q,a,L.reverse,P,F,h5,h6,rfl,?_⟩⟩
   simp;omega
  .have M:a≠256:=by have:=hc.1;omega
   rcases q3 with⟨R,_,_,m,q6⟩|⟨_,R,_⟩
   .have B:g.ak b:=(I.cor b (by rw[F];simp)).resolve_right R
    obtain⟨r1,r2⟩:=Q9 T.fn q6;have O:C.lt J d:=C.lt_of_lt_of_le (C.jK r1 r2) q4;have ab:=GY (lab:=lab) F (by have:=B.1;omega) O;refine⟨ry lab J+1,by omega,C.add e' p,e,J,t,Z,?_,.inl ⟨b,Q,B,F,?_,?_,rfl,?_⟩⟩
    .refine C.le_trans ?_ h2
     rw[C.add_assoc,<-C.add_assoc J];exact C.add_le_add q4 (C.le_refl _)
    .rw[P];exact .cons ⟨m,q6⟩ h5
    .rw[P,List.getLast?_cons_cons];exact h6
    .simp;omega
   .exact absurd R M
 .omega
end
variable {cT:C}{g:G}{S:LS}{out:List Ed}{W:List Nat}
def Az(g:G)(fin:Nat->Option C)(out:List Ed)(cT:C)(W:List Nat):Prop:=
 ∃(s t:Nat)(d cw e:C),jZ g out s d/\W.head?=some s/\W.getLast?=some t/\LS.LW g.GE W cw/\fin t=some e/\C.le (C.add d (C.add cw e)) cT
def Ka(S:LS)(g:G)(fin:Nat->Option C)(out:List Ed)(cT:C)(P:List Nat)(i:Nat)(W:List Nat):Prop:=
 ∃(s t x:Nat)(d cw q e:C),jZ g out s d/\W.head?=some s/\W.getLast?=some x/\LS.LW g.GE W cw/\LS.LW (λx y c=>∃m,S.eg x y=some (c,m)) (x::P.drop i) q/\(x::P.drop i).getLast?=some t/\fin t=some e/\C.le (C.add d (C.add (C.add cw q) e)) cT/\P[i-1]? =some x
theorem Ka.fin{fin:Nat->Option C}{P:List Nat}(h:Ka S g fin out cT P P.length W):Az g fin out cT W:=by
 obtain⟨s,t,x,d,B,q,e,F,I,J,L,u,k,M,z,_⟩:=h;rw[List.drop_length]at u k;simp at k;subst k;cases u;rw[C.add_zero]at z;exact⟨s,_,d,B,e,F,I,J,L,M,z⟩
theorem zL{E:Nat->Nat->C->Prop}{W M:List Nat}{x:Nat}{c d:C}(z:LS.LW E W c)(k:W.getLast?=some x)(B:LS.LW E (x::M) d):LS.LW E (W++M) (C.add c d):=by
 have F:W=W.dropLast++[x]:=by
  have u:W≠[]:=by rintro rfl;cases k
  rw[List.getLast?_eq_some_getLast u]at k;injection k with k
  rw[<-k];exact(List.dropLast_concat_getLast u).symm
 rw[F]at z⊢;have:=LS.LW.append z B;simpa using this
theorem Ka.step{fin:Nat->Option C}{P:List Nat}{i:Nat}(hi:0<i)(h:Ka S g fin out cT P i W){x y:Nat}(hx:P[i-1]? =some x)(I:P[i]? =some y):∃c m,S.eg x y=some (c,m)/\∀L,LS.Fa S x y L->LS.LW g.GE L c->Ka S g fin out cT P (i+1) (W++L.tail):=by
 obtain⟨s,t,x',d,z,q,e,J,B,O,Q,F,u,R,T,k⟩:=h;rw[hx]at k;injection k with k;subst k
 have hd:P.drop i=y::P.drop (i+1):=by
  obtain⟨q1,q2⟩:=List.getElem?_eq_some_iff.1 I;rw[List.drop_eq_getElem_cons q1,q2]
 rw[hd]at F u;cases F with
 | @cons _ _ _ c q' he hl=>
  obtain⟨m,hm⟩:=he;refine⟨c,m,hm,λL Z U=>?_⟩;obtain⟨M,rfl⟩:=Z.ends;refine⟨s,t,y,d,C.add z c,q',e,J,?_,?_,zL Q O U,hl,?_,R,?_,by simpa using I⟩
  .cases W with
   |nil=>cases B
   |cons a W=>simpa using B
  .simp
  .rw[List.getLast?_cons_cons]at u;exact u
  .rw[C.add_assoc z];exact T
theorem Ka.start{fin:Nat->Option C}{lab:Nat->Option C}{L:List Nat}{n:Int}{gk:Nat}(Q:n<0)(h:Nv S g fin out lab cT L n gk):∃s P,L.reverse=s::P/\Ka S g fin out cT (s::P) 1 [s]:=by
 obtain⟨p,e,d,t,k,u,z⟩:=h;rcases z with⟨M,O,_⟩|⟨_,s,P,B,F,I,J,_⟩
 .omega
 .exact⟨s,P,B,s,t,s,d,C.zero,p,e,F,rfl,rfl,.one s,by simpa using I,by simpa using J,k,by rw[C.zero_add];exact u,rfl⟩
end Go.Proofs.YtokhnobcincfjaaGreatDoor
