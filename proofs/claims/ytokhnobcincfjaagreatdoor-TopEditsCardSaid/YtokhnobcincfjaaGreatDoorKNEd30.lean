/- Lemmas of this claim: TxParse, TxMaps. -/
import Derived.Test.YtokhnobcincfjaaGreatDoorTxLine
set_option linter.unusedVariables false
set_option linter.unusedSimpArgs false
set_option maxHeartbeats 6400000
set_option maxRecDepth 100000
namespace Go.Proofs.YtokhnobcincfjaaGreatDoor
open Go.Lib (hid)
open Go.RowKit Go.Sort FR
variable {M R:List (List UInt8)}{n:Nat}{c:UInt8}{w w':World}
theorem OM{r:List UInt8}(h:(gJ r).1=[]):(gJ r).2=r:=by
 rcases KC r with⟨_,g⟩|⟨a,b,_,g,k⟩
 .rw[BL g]
 .rw[g,je k]at h
  cases h
def cZ(w:World)(l:List UInt8)(e:Ending)(w':World):Prop:=
 (∃k:Nat,bZ l=.bad k/\0<k/\e=.returned (.tuple #[.pointer none,.iface 45 (.int .i64 (k:Nat))])/\Below w.heap.size w w')\/
 ∃a b R p,bZ l=.ok a b R/\e=.returned (.tuple #[.pointer (some ⟨p,0,none⟩),.nilIface])/\w.heap.size<=p/\az w' p (eU a b R (b*a)) (gB (gI a R) (b*a))/\Below w.heap.size w w'
theorem cZ.no{l:List UInt8}(k:Nat)(h:bZ l=.bad k)(u:0<k)(g:Below w.heap.size w w'):cZ w l (.returned (.tuple #[.pointer none,.iface 45 (.int .i64 (k:Nat))])) w':=.inl ⟨k,h,u,rfl,g⟩
theorem Mm{w h:Nat}{k:Nat}(g:gI w R k=false):eU w h R (k+1)=eU w h R k:=by
 unfold eU;congr 1;funext c;by_cases u:c=k
 .subst u;simp[g]
 .have:(c<k+1)↔c<k:=by omega
  simp[this]
theorem Jh{w h:Nat}{k:Nat}(u:gI w R k=true):bS (eU w h R k) k true=eU w h R (k+1):=by
 unfold eU bS;simp only;congr 1;funext c;unfold upd;by_cases g:c=k
 .subst g;simp[u]
 .have:(c<k+1)↔c<k:=by omega
  simp[this,g]
theorem MK{w:Nat}{y x:Nat}{a:List UInt8}(g:x<w)(h:R[y]? =some a):gI w R (y*w+x)=Ll (a.getD x 0):=by
 unfold gI;have k:(y*w+x)/w=y:=by rw[Nat.mul_comm,Nat.mul_add_div (by omega),Nat.div_eq_of_lt g];rfl
 have u:(y*w+x)%w=x:=by rw[Nat.mul_comm,Nat.mul_add_mod,Nat.mod_eq_of_lt g]
 have z:R.getD y []=a:=by rw[List.getD_eq_getElem?_getD,h];rfl
 rw[k,u,z]
def jJ(L:List (List UInt8)):Array Value:=rowOf (λj=>.string (bs (L.getD j []))) 4
theorem BA(L:List (List UInt8))(a:List UInt8)(k:Nat)(h:L.length=k):(jJ L).setIfInBounds k (.string (bs a))=jJ (L++[a]):=by
 apply nO
 .rw[List.getD_eq_getElem?_getD,List.getElem?_append_right (by omega),h];simp
 .intro i g
  simp only[List.getD_eq_getElem?_getD];by_cases u:i<k
  .rw[List.getElem?_append_left (by omega)]
  .rw[List.getElem?_eq_none (by simp;omega),List.getElem?_eq_none (by omega)]
theorem F4(m:Nat):∀(l:List UInt8)(g:List (List UInt8)×List UInt8),(∀x∈g.1,x.length<=m)->g.2.length+l.length<=m->∀x∈(kF g l).1,x.length<=m
 |[],_,h,_=>h
 |b::l,g,h,u=>by
  show∀x∈(kF (xw g b) l).1,x.length<=m;simp only[List.length_cons]at u;apply F4 m l
  .unfold xw
   split
   .intro x k
    simp only[List.mem_append,List.mem_singleton]at k;rcases k with k|rfl
    .exact h x k
    .omega
   .exact h
  .unfold xw
   split
   .simp only[List.length_nil];omega
   .simp only[List.length_append,List.length_cons,List.length_nil];omega
theorem Rp(l:List UInt8):∀x∈(gJ l).1,x.length<=l.length:=F4 l.length l ([],[]) (by simp) (by simp)
theorem K4{u g k z:List UInt8}(h:u≠qI\/(numOf mq g).isSome=false\/(numOf nY k).isSome=false\/z≠qE):mh ([u,g,k,z]++M)=none:=by
 show(if u=qI/\z=qE then(match numOf mq g,numOf nY k with|some h,some w=>some (h,w)|_,_=>none)else none)=none;split
 .rename_i e
  rcases h with h|h|h|h
  .exact absurd e.1 h
  .cases B:numOf mq g with
   |none=>rfl
   |some x=>rw[B]at h;cases h
  .cases B:numOf nY k with
   |none=>cases numOf mq g<;>rfl
   |some x=>rw[B]at h;cases h
  .exact absurd e.2 h
 .rfl
theorem Iy{g k:List UInt8}{h w:Int}(u:numOf mq g=some h)(z:numOf nY k=some w):mh ([qI,g,k,qE]++M)=some (h,w):=by
 show(if qI=qI/\qE=qE then(match numOf mq g,numOf nY k with|some h,some w=>some (h,w)|_,_=>none)else none)=_;rw[if_pos ⟨rfl,rfl⟩,u,z]
theorem Qa(h:c.toNat=n)(g:n<256):c=UInt8.ofNat n:=UInt8.toNat_inj.1 (by rw[UInt8.toNat_ofNat'];omega)
theorem NU(h:c.toNat=n)(g:n=46\/n=71\/n=83):tQ c=true/\Ll c=false:=by
 rcases g with rfl|rfl|rfl<;>(rw[Qa h (by decide)];decide)
theorem QZ(h:c.toNat=n)(g:n=64\/n=79\/n=84\/n=87):tQ c=true/\Ll c=true:=by
 rcases g with rfl|rfl|rfl|rfl<;>(rw[Qa h (by decide)];decide)
theorem SL(h:c.toNat=n)(O:¬(n=46\/n=71\/n=83))(P:¬(n=64\/n=79\/n=84\/n=87)):tQ c=false:=by
 have e:∀m:Nat,m<256->n≠m->c≠UInt8.ofNat m:=λm Q g k=>g (by rw[<-h,k,UInt8.toNat_ofNat'];omega);unfold tQ;have u:=e 46 (by omega) (by omega);have z:=e 71 (by omega) (by omega);have B:=e 83 (by omega) (by omega);have F:=e 64 (by omega) (by omega);have I:=e 79 (by omega) (by omega);have J:=e 84 (by omega) (by omega);have L:=e 87 (by omega) (by omega);simp only[Bool.or_eq_false_iff,beq_eq_false_iff_ne];exact⟨⟨⟨⟨⟨⟨u,z⟩,B⟩,F⟩,I⟩,J⟩,L⟩
theorem PI{a:List UInt8}{x n:Nat}(u:x<a.length)(k:(a.getD x 0).toNat=n)(g:World):(Instr.index 9 (.string (bs a)) (.int .i64 (x:Nat))).run Tryz.prog g=.ok (.int .u8 (n:Nat)) g:=by
 rw[run_index_string _ _ _ _ _ Tryz.underlying9,dif_pos ⟨by omega,by rw[gG];omega⟩];congr 2;rw[<-k,List.getD_eq_getElem?_getD,List.getElem?_eq_getElem u];rfl
def P5(l:List UInt8)(wd y:Nat)(r:List UInt8):Prop:=
 ∃L:List (List UInt8),L.length=4+y/\gJ l=(L++(gJ r).1,(gJ r).2)/\r.length<=1000/\∀j,j<y->∃a,((gJ l).1.drop 4)[j]? =some a/\a.length=wd/\∀x,x<wd->tQ (a.getD x 0)=true
def QF(w:World)(l:List UInt8)(k:Nat)(r:List UInt8)(wr:World):Prop:=
 ∃L:List (List UInt8),L.length=k/\gJ l=(L++(gJ r).1,(gJ r).2)/\r.length<=1000/\wr.heap[w.heap.size]? =some (.cells (jJ L) 156 (0,0))/\Below w.heap.size w wr
theorem kC{wr:World}{A:Nat}{L:List (List UInt8)}(h:wr.heap[A]? =some (.cells (jJ L) 156 (0,0)))(k:Nat)(g:k<4):wr.cell? ⟨A,k,none⟩=some (.string (bs (L.getD k []))):=by
 rw[Lib.cell_of_heap h];exact bM _ _ _ g
theorem JA(w:World)(l:List UInt8)(hV:pQ w):Calls Tryz.prog 43 #[.string (bs l)] w λe w'=>cZ w l e w':=by
 by_cases ap:1000<l.length
 .have Z:=Ey ap
  go_enter Tryz.func43,Tryz.ntmps43;go_wp2_with fail;go_ret2
  exact cZ.no 2 Z (by decide) (Below.refl _ _)
 have z:l.length<=1000:=by omega
 clear ap;go_enter Tryz.func43,Tryz.ntmps43;go_wp2_with fail;refine au ?_;intro W hW
 have HW:Below w.heap.size w W:=by rw[hW];(repeat' (first|exact Below.refl _ _|assumption|apply aj|apply ah|apply af|(refine aa ?_ (by assumption))))
 have hA:W.heap[w.heap.size]? =some (.cells (jJ []) 156 (0,0)):=by
  rw[hW];exact heap_alloc_new _ _
 clear hW;replace hV:=hid hV;go_loopw [0,24] (λs i wr=>∃(k:Nat)(r:List UInt8),k<=4/\i=.int .i64 (k:Nat)/\s=.string (bs r)/\QF w l k r wr) (λ_ i _=>4-(intOf i).toNat)
 case atStart=>exact⟨0,l,by omega,rfl,rfl,[],rfl,by simp,z,hA,HW⟩
 case round=>
  clear hA HW W;obtain⟨k,r,hk,rfl,rfl,hR⟩:=hrel;by_cases bg:k<4
  .have q:(k:Int)<4:=by omega
   obtain⟨L,T,B,hr,hA,Q⟩:=hR;have aE:r.length<=1000000:=by omega
   replace T:=hid T;replace B:=hid B;have S:=hid (hV.out.below Q);rcases KC r with⟨hc,ac⟩|⟨a,b,hc,ab,ac⟩
   .have Z:=hid (Jg z (by rw[BO B.out ac];simp only;have:=T.out;omega))
    have C:=hid (oD wr aE S.out hc);clear hc;go_wp2_with fail;refine C.out.mono ?_;rintro e w2 ⟨rfl,U⟩;go_wp2_with fail;go_ret2
    exact cZ.no 3 Z.out (by decide) (aa Q U)
   .have aS:=hid (BN (l:=L) B.out ab ac)
    have bd:b.length<=1000:=by rw[ab]at hr;simp at hr;omega
    have C:=hid (qV wr aE S.out hc);clear hc ab B;go_wp2_with fail;refine C.out.mono ?_;rintro e w2 ⟨rfl,U⟩;have an:=aa Q U;have ag:w.heap.size<wr.heap.size:=(Array.getElem?_eq_some_iff.1 hA).1;have hA2:w2.heap[w.heap.size]? =some (.cells (jJ L) 156 (0,0)):=(U.block _ ag).trans hA;have b7:=kC hA2 k bg;have cn:w2.frozen? ⟨w.heap.size,k,none⟩=false:=Lib.frozen_of_heap hA2 k
    have hA3:=aH w2 w.heap.size k _ _ (.string (bs a)) hA2;rw[BA L a k T.out]at hA3;replace hA3:=hid hA3;replace hA2:=hid hA2;have O:=an.setCell (p:=⟨w.heap.size,k,none⟩) (Nat.le_refl _) (.string (bs a));clear hA;go_wp2_with fail;go_roundw
    case rel=>exact⟨k+1,b,by omega,by go_num,rfl,L++[a],by simp[T.out],aS.out,bd,hA3.out,O⟩
    case measure=>simp[intOf];omega
  .obtain rfl:k=4:=by omega
   obtain⟨L,T,B,hr,hA,Q⟩:=hR
   obtain⟨a0,a1,a2,a3,rfl⟩:∃a0 a1 a2 a3,L=[a0,a1,a2,a3]:=by
    match L,T with
    |[a0,a1,a2,a3],_=>exact⟨a0,a1,a2,a3,rfl⟩
   clear T bg hk;have be:∀x∈(gJ l).1,x.length<=l.length:=λx hx=>Rp l x hx;have m1:a1.length<=1000:=Nat.le_trans (be a1 (by rw[B];simp)) z;have m2:a2.length<=1000:=Nat.le_trans (be a2 (by rw[B];simp)) z;clear be;replace B:=hid B;have c1:=kC hA 1 (by decide);have ag:w.heap.size<wr.heap.size:=(Array.getElem?_eq_some_iff.1 hA).1;have S:=hid (hV.out.below Q);simp only[List.getD_cons_succ,List.getD_cons_zero]at c1;go_wp2_with fail;refine(wK a1 [104,101,105,103,104,116] wr (by omega) (by decide) S.out).mono ?_;rintro e w2 ⟨⟨h,ca,rfl,ax,a5,b2,b3⟩,U⟩;replace ax:=hid ax;replace a5:=hid a5;have an:=aa Q U;have hA2:w2.heap[w.heap.size]? =some (.cells (jJ [a0,a1,a2,a3]) 156 (0,0)):=(U.block _ ag).trans hA;have a9:=hid (hV.out.below an);clear c1 hA Q U S;have c2:=kC hA2 2 (by decide);simp only[List.getD_cons_succ,List.getD_cons_zero]at c2;have ar:w.heap.size<w2.heap.size:=(Array.getElem?_eq_some_iff.1 hA2).1;go_wp2_with fail
   refine(wK a2 [119,105,100,116,104] w2 (by omega) (by decide) a9.out).mono ?_;rintro e w3 ⟨⟨d,cb,rfl,ay,a6,bx,b0⟩,bc⟩;replace ay:=hid ay;replace a6:=hid a6;have O:=aa an bc;have hA3:w3.heap[w.heap.size]? =some (.cells (jJ [a0,a1,a2,a3]) 156 (0,0)):=(bc.block _ ar).trans hA2;have c0:=kC hA3 0 (by decide);have c3:=kC hA3 3 (by decide);simp only[List.getD_cons_succ,List.getD_cons_zero]at c0 c3;clear c2 hA2 an bc a9 hA3;have u:(a0≠qI\/(numOf mq a1).isSome=false\/(numOf nY a2).isSome=false\/a3≠qE)->bZ l=.bad 3:=λk=>vG z (by rw[B.out];exact K4 k);replace u:=hid u;by_cases e0:a0=[116,121,112,101,32,111,99,116,105,108,101]
   case neg=>
    go_wp2_with fail;go_ret2
    exact cZ.no 3 (u.out (.inl e0)) (by decide) O
   have b1:(a0==[116,121,112,101,32,111,99,116,105,108,101])=true:=by simp[e0]
   replace e0:=hid e0;cases ca with
   |false=>
    go_wp2_with fail;go_ret2
    exact cZ.no 3 (u.out (.inr (.inl ax.out.symm))) (by decide) O
   |true=>
   cases cb with
   |false=>
    go_wp2_with fail;go_ret2
    exact cZ.no 3 (u.out (.inr (.inr (.inl ay.out.symm)))) (by decide) O
   |true=>
   by_cases e3:a3=[109,97,112]
   case neg=>
    have bj:(a3==[109,97,112])=false:=beq_eq_false_iff_ne.2 e3;go_wp2_with fail;go_ret2
    exact cZ.no 3 (u.out (.inr (.inr (.inr e3)))) (by decide) O
   have bj:(a3==[109,97,112])=true:=by simp[e3]
   replace e3:=hid e3;clear u
   have bt:numOf mq a1=some h:=by
    obtain⟨x,hx⟩:=Option.isSome_iff_exists.1 ax.out.symm;have:=a5.out x hx;rw[this];exact hx
   have bv:numOf nY a2=some d:=by
    obtain⟨x,hx⟩:=Option.isSome_iff_exists.1 ay.out.symm;have:=a6.out x hx;rw[this];exact hx
   have al:mh (gJ l).1=some (h,d):=by rw[B.out,e0.out,e3.out];exact Iy bt bv
   replace al:=hid al;clear bt bv ax a5 ay a6;by_cases a4:1<=d/\d<=16/\1<=h/\h<=16
   case neg=>
    go_wp2_with fail;refine(sV d h _ a4).mono ?_;rintro e w4 ⟨rfl,rfl⟩;go_wp2_with fail;go_ret2
    exact cZ.no 1 (Ez z al.out a4) (by decide) O
   go_wp2_with fail;refine(uZ d h _ a4).mono ?_;rintro e w4 ⟨rfl,M,bo,b9⟩;have bi:=aa O bo;clear bj b1 c0 c3;obtain⟨P,hP,bm⟩:∃P,w3.heap.size=P/\w.heap.size<=P:=⟨_,rfl,O.size⟩
   rw[hP]at M⊢;clear b9 bo hP O ag ar w3;obtain⟨s1,s2,s3,s4⟩:=a4;obtain⟨g,rfl⟩:=Int.eq_ofNat_of_zero_le (show 0<=d by omega);obtain⟨J,rfl⟩:=Int.eq_ofNat_of_zero_le (show 0<=h by omega);have n1:1<=g:=by omega
   have n2:g<=16:=by omega
   have n3:1<=J:=by omega
   have n4:J<=16:=by omega
   clear s1 s2 s3 s4 bx b0 b2 b3;simp only[Int.toNat_natCast]at M
   have M:az w4 P (eU g J ((gJ l).1.drop 4) 0) 0:=by
    have:(⟨g,J,λ_=>false⟩:G)=eU g J ((gJ l).1.drop 4) 0:=by unfold eU;congr 1
    rw[<-this];exact M
   have br:P5 l g 0 r:=⟨_,rfl,B.out,hr,λy hy=>by omega⟩;clear B hr e0 e3 m1 m2;obtain⟨R,hR⟩:∃R,(gJ l).1.drop 4=R:=⟨_,rfl⟩;rw[hR]at M;replace hR:=hid hR;have u:¬((gJ l).1.length=4+J/\(gJ l).2=[]/\lI g R=true)->bZ l=.bad 3:=λk=>Ex z al.out ⟨n1,n2,n3,n4⟩ (by rw[hR.out];exact k)
   have ao:((gJ l).1.length=4+J/\(gJ l).2=[]/\lI g R=true)->bZ l=.ok g J R:=λk=>by
    have:=Ci z al.out ⟨n1,n2,n3,n4⟩ (by rw[hR.out];exact k);rwa[hR.out]at this
   replace u:=hid u;replace ao:=hid ao;clear al z;go_wp2_with fail;go_loopw [0,80] (λs i wr=>∃(y:Nat)(r:List UInt8),y<=J/\i=.int .i64 (y:Nat)/\s=.string (bs r)/\P5 l g y r/\az wr P (eU g J R (y*g)) (gB (gI g R) (y*g))/\Below w.heap.size w wr) (λ_ i _=>J-(intOf i).toNat)
   case atStart=>exact⟨0,r,by omega,rfl,rfl,br,by simpa[gB]using M,bi⟩
   case round=>
    clear M bi br;obtain⟨y,r,hy,rfl,rfl,a8,hG,Q⟩:=hrel;by_cases bg:y<J
    .have q:(y:Int)<J:=by omega
     obtain⟨L,T,B,hr,ad⟩:=a8;replace ad:=hid ad;have aE:r.length<=1000000:=by omega
     have S:=hid (hV.out.below Q);replace T:=hid T;replace B:=hid B;rcases KC r with⟨hc,ac⟩|⟨a,b,hc,ab,ac⟩
     .have Z:=hid (u.out (λk=>by
       have e:=BO B.out ac;have:=k.1;rw[e]at this;have:=T.out;simp only at*;omega))
      have C:=hid (oD wr aE S.out hc);clear hc;go_wp2_with fail;refine C.out.mono ?_;rintro e w5 ⟨rfl,aw⟩;go_wp2_with fail;go_ret2
      exact cZ.no 3 Z.out (by decide) (aa Q aw)
     .have aS:=hid (BN (l:=L) B.out ab ac)
      have bd:b.length<=1000:=by rw[ab]at hr;simp at hr;omega
      have C:=hid (qV wr aE S.out hc)
      have ai:R[y]? =some a:=by
       rw[<-hR.out,aS.out];simp only[List.getElem?_drop];rw[List.getElem?_append_left (by have:=T.out;simp;omega),List.getElem?_append_right (by have:=T.out;omega)];have:4+y-L.length=0:=by have:=T.out;omega
       rw[this];rfl
      replace ai:=hid ai;clear hc ab B;go_wp2_with fail;refine C.out.mono ?_;rintro e w5 ⟨rfl,aw⟩;have ba:=aa Q aw;have bk:=hG.below aw hG.lt;clear hG Q aw S C
      by_cases ha:a.length=g
      case neg=>
       have Z:=hid (u.out (λk=>GA ai.out (.inl ha) k.2.2));have cm:(a.length:Int)≠g:=by omega
       clear ha;go_wp2_with fail;go_ret2
       exact cZ.no 3 Z.out (by decide) ba
      have m0:0<=(y:Int)*g/\(y:Int)*g<=256:=⟨Int.mul_nonneg (by omega) (by omega),Int.le_trans (Int.mul_le_mul (show(y:Int)<=16 by omega) (show(g:Int)<=16 by omega) (by omega) (by omega)) (by omega)⟩;obtain⟨co,cp⟩:=m0
      have a7:y*g+g<=g*J:=by
       have:=Nat.mul_le_mul_right g (show y+1<=J by omega);rw[Nat.succ_mul,Nat.mul_comm J]at this;exact this
      have aq:g*J<=256:=Nat.mul_le_mul n2 n4;replace a7:=hid a7;replace aq:=hid aq;have bb:=hid ha;have b6:(a.length:Int)=g:=by omega
      clear ha;go_wp2_with fail;clear b6
      go_loopw [100] (λi wr=>∃x:Nat,x<=g/\i=.int .i64 (x:Nat)/\(∀j,j<x->tQ (a.getD j 0)=true)/\az wr P (eU g J R (y*g+x)) (gB (gI g R) (y*g+x))/\Below w.heap.size w wr) (λi _=>g-(intOf i).toNat)
      case atStart=>exact⟨0,by omega,rfl,λj hj=>by omega,bk,ba⟩
      case round=>
       clear bk ba w5;obtain⟨x,hx,rfl,F,hG,Q⟩:=hrel;replace F:=hid F;by_cases bh:x<g
       .have qx:(x:Int)<g:=by omega
        obtain⟨n,hn⟩:∃n:Nat,(a.getD x 0).toNat=n:=⟨_,rfl⟩;have cd:=PI (by rw[bb.out];exact bh) hn;replace hn:=hid hn;have am:=hid (MK bh ai.out);by_cases f1:n=46\/n=71\/n=83
        .obtain⟨k1,k2⟩:=NU hn.out f1
         have b4:az wr P (eU g J R (y*g+(x+1))) (gB (gI g R) (y*g+(x+1))):=by
          have e:=am.out.trans k2;rw[<-Nat.add_assoc,Mm e,j6,e];exact hG
         have I:∀j,j<x+1->tQ (a.getD j 0)=true:=λj hj=>by
          rcases Nat.lt_succ_iff_lt_or_eq.1 hj with h'|rfl
          .exact F.out j h'
          .exact k1
         replace I:=hid I;clear hG k1 k2 am F hn;rcases f1 with rfl|rfl|rfl<;>
         .go_wp2_with fail
          go_roundw
          case rel=>exact⟨x+1,by omega,by go_num,I.out,b4,Q⟩
          case measure=>simp[intOf];omega
        by_cases f2:n=64\/n=79\/n=84\/n=87
        .obtain⟨k1,k2⟩:=QZ hn.out f2
         have I:∀j,j<x+1->tQ (a.getD j 0)=true:=λj hj=>by
          rcases Nat.lt_succ_iff_lt_or_eq.1 hj with h'|rfl
          .exact F.out j h'
          .exact k1
         replace I:=hid I
         have bp:y*g+x<(eU g J R (y*g+x)).n:=by
          show y*g+x<g*J;have:=a7.out;omega
         have hv:0<=((gB (gI g R) (y*g+x):Nat):Int)/\((gB (gI g R) (y*g+x):Nat):Int)<=1099511627776:=by
          have:=NZ (gI g R) (y*g+x);have:=a7.out;have:=aq.out;omega
         have C:=iw wr P _ _ (y*g+x) true hG bp (by simp[eU]) hv;rw[Jh (am.out.trans k2)]at C;rw[show((y*g+x:Nat):Int)=(y:Int)*g+x by simp]at C
         have bq:((gB (gI g R) (y*g+x):Nat):Int)+1=((gB (gI g R) (y*g+(x+1)):Nat):Int):=by
          rw[<-Nat.add_assoc,j6,am.out.trans k2];simp
         rw[bq]at C;replace C:=hid C;clear hG k1 k2 am F hn bp hv bq f1;rcases f2 with rfl|rfl|rfl|rfl<;>
         .go_wp2_with fail
          refine C.out.mono ?_;rintro e w6 ⟨rfl,b5,b8⟩;have bw:=Kept.below Q b8 Q.size (by simpa using bm);go_wp2_with fail;go_roundw
          case rel=>exact⟨x+1,by omega,by go_num,I.out,b5,bw⟩
          case measure=>simp[intOf];omega
        .have Z:=hid (u.out (λk=>GA ai.out (.inr ⟨x,a.getD x 0,by rw[List.getD_eq_getElem?_getD,List.getElem?_eq_getElem (by rw[bb.out];exact bh)];rfl,SL hn.out f1 f2⟩) k.2.2))
         have ce:(n:Int)≠46:=by omega
         have cg:(n:Int)≠71:=by omega
         have ch:(n:Int)≠83:=by omega
         have ci:(n:Int)≠64:=by omega
         have cj:(n:Int)≠79:=by omega
         have ck:(n:Int)≠84:=by omega
         have cl:(n:Int)≠87:=by omega
         clear f1 f2 hG am F hn;go_wp2_with fail;go_ret2
         exact cZ.no 3 Z.out (by decide) Q
       .obtain rfl:x=g:=by omega
        go_wp2_with fail;go_roundw
        case rel=>
         refine⟨y+1,b,by omega,by go_num,rfl,⟨L++[a],by have:=T.out;simp;omega,aS.out,bd,λj hj=>?_⟩,by rw[Nat.succ_mul];exact hG,Q⟩;rcases Nat.lt_succ_iff_lt_or_eq.1 hj with h'|rfl
         .exact ad.out j h'
         .exact⟨a,by rw[hR.out];exact ai.out,bb.out,F.out⟩
        case measure=>simp[intOf];omega
    .obtain rfl:y=J:=by omega
     obtain⟨L,T,B,hr,ad⟩:=a8;cases r with
     |cons c0 r0=>
      have Z:bZ l=.bad 3:=u.out (λk=>by
       obtain⟨k1,k2,_⟩:=k;rw[B]at k1 k2;simp only[List.length_append]at k1;have:(gJ (c0::r0)).1=[]:=List.length_eq_zero_iff.1 (by omega);rw[OM this]at k2;cases k2)
      replace Z:=hid Z;clear ad B;go_wp2_with fail;go_ret2
      exact cZ.no 3 Z.out (by decide) Q
     |nil=>
      have Z:bZ l=.ok g y R:=ao.out ⟨by rw[B];simp[gJ,kF];exact T,by rw[B];rfl,by
       rw[<-hR.out];refine yB (n:=y) ?_ ad;rw[B];simp[gJ,kF];omega⟩
      replace Z:=hid Z;clear ad B;go_wp2_with fail;go_ret2;exact .inr ⟨g,y,R,P,Z.out,rfl,bm,hG,Q⟩
theorem cZ.print{g:G}{e:Ending}(h:cZ w (di g) e w')(P:g.ok):∃R p,e=.returned (.tuple #[.pointer (some ⟨p,0,none⟩),.nilIface])/\w.heap.size<=p/\az w' p (eU g.w g.h R (g.h*g.w)) (gB (gI g.w R) (g.h*g.w))/\Below w.heap.size w w'/\∀c,c<g.w*g.h->(eU g.w g.h R (g.h*g.w)).b c=g.b c:=by
 obtain⟨R,B,_,O⟩:=mG g P;rcases h with⟨k,u,_⟩|⟨a,b,Q,p,u,F,I,J,L⟩
 .rw[B]at u;cases u
 .rw[B]at u
  cases u;refine⟨R,p,F,I,J,L,λc z=>?_⟩;rw[<-O c z];unfold eU;simp only;rw[decide_eq_true (by rw[Nat.mul_comm];exact z),Bool.true_and]
theorem cZ.two{l:List UInt8}{e:Ending}(h:cZ w l e w'):(∃x y,e=.returned (.tuple #[x,y]))/\Below w.heap.size w w':=by
 rcases h with⟨k,_,_,h,g⟩|⟨a,b,R,p,_,h,_,_,g⟩
 .exact⟨⟨_,_,h⟩,g⟩
 .exact⟨⟨_,_,h⟩,g⟩
