/- Lemmas of this claim: TxParse, TxMaps, RTx3. -/
import Derived.Test.YtnifggkjieemeaaGreatDoorTxLine
set_option linter.unusedVariables false
set_option linter.unusedSimpArgs false
set_option maxHeartbeats 6400000
set_option maxRecDepth 100000
open Go.Proofs.Tryz
namespace Go.Proofs.YtnifggkjieemeaaGreatDoor
open Go.Lib (hid)
open Go.RowKit Go.Sort FR
variable {L M R zs:List (List UInt8)}{l r:List UInt8}{B fr k n:Nat}{c:UInt8}{v:Value}{w w':World}
theorem SH(h:(ig r).1=[]):(ig r).2=r:=by
 rcases OB r with⟨_,g⟩|⟨a,b,_,g,m⟩
 .rw[EP g]
 .rw[g,EO m]at h
  cases h
def fO(w:World)(l:List UInt8)(e:Ending)(w':World):Prop:=
 (∃k:Nat,bK l=.bad k/\0<k/\e=.returned (.tuple #[.pointer none,.iface 54 (rI (k:Nat))])/\Below w.heap.size w w')\/
 ∃a b R p,bK l=.ok a b R/\e=.returned (.tuple #[vP p,.nilIface])/\w.heap.size<=p/\aC w' p (eT a b R (b*a)) (iN (fq a R) (b*a))/\Below w.heap.size w w'
theorem fO.no(k:Nat)(h:bK l=.bad k)(m:0<k)(g:Below w.heap.size w w'):fO w l (.returned (.tuple #[.pointer none,.iface 54 (rI (k:Nat))])) w':=.inl ⟨k,h,m,rfl,g⟩
theorem Fq{w h:Nat}(g:fq w R k=false):eT w h R (k+1)=eT w h R k:=by
 unfold eT;congr 1;funext c;by_cases m:c=k
 .subst m;simp[g]
 .have:(c<k+1)↔c<k:=om
  simp[this]
theorem Bi{w h:Nat}(m:fq w R k=true):dN (eT w h R k) k true=eT w h R (k+1):=by
 unfold eT dN;simp only;congr 1;funext c;unfold upd;by_cases g:c=k
 .subst g;simp[m]
 .have:(c<k+1)↔c<k:=om
  simp[this,g]
theorem FB{w:Nat}{y x:Nat}{a:List UInt8}(g:x<w)(h:R[y]? =some a):fq w R (y*w+x)=Sn (a.getD x 0):=by
 unfold fq;have m:(y*w+x)/w=y:=by rw[Nat.mul_comm,Nat.mul_add_div om,Nat.div_eq_of_lt g];rfl
 have u:(y*w+x)%w=x:=by rw[Nat.mul_comm,Nat.mul_add_mod,Nat.mod_eq_of_lt g]
 have z:R.getD y []=a:=by rw[Zk,h];rfl
 rw[m,u,z]
def kG(L:List (List UInt8)):Array Value:=rowOf (λj=>.string (bs (L.getD j []))) 4
theorem EC(L:List (List UInt8))(a:List UInt8)(k:Nat)(h:L.length=k):(kG L).setIfInBounds k (.string (bs a))=kG (L++[a]):=by
 apply nH
 .rw[Zk,Zz om,h];simp
 .intro i g
  simp only[Zk];by_cases m:i<k
  .rw[List.getElem?_append_left om]
  .rw[List.getElem?_eq_none so,List.getElem?_eq_none om]
theorem JX(m:Nat):∀(l:List UInt8)(g:List (List UInt8)×List UInt8),(∀x∈g.1,x.length<=m)->g.2.length+l.length<=m->∀x∈(ja g l).1,x.length<=m
 |[],_,h,_=>h
 |b::l,g,h,z=>by
  show∀x∈(ja (p8 g b) l).1,x.length<=m;simp only[List.length_cons]at z;apply JX m l
  .unfold p8
   split
   .intro x u
    simp only[Zl,List.mem_singleton]at u;rcases u with u|rfl
    .exact h x u
    .omega
   .exact h
  .unfold p8
   split
   .simp only[List.length_nil];omega
   .simp only[Zp,List.length_cons,List.length_nil];omega
theorem PH(l:List UInt8):∀x∈(ig l).1,x.length<=l.length:=JX l.length l ([],[]) rS rS
theorem ED{u g m z:List UInt8}(h:u≠xy\/(numOf jL g).isSome=false\/(numOf nQ m).isSome=false\/z≠xx):qm ([u,g,m,z]++M)=none:=by
 show(if u=xy/\z=xx then(match numOf jL g,numOf nQ m with|some h,some w=>some (h,w)|_,_=>none)else none)=none;split
 .rename_i e
  rcases h with h|h|h|h
  .exact absurd e.1 h
  .cases F:numOf jL g with
   |none=>rfl
   |some x=>rw[F]at h;cases h
  .cases F:numOf nQ m with
   |none=>cases numOf jL g<;>rfl
   |some x=>rw[F]at h;cases h
  .exact absurd e.2 h
 .rfl
theorem AU{g m:List UInt8}{h w:Int}(u:numOf jL g=some h)(z:numOf nQ m=some w):qm ([xy,g,m,xx]++M)=some (h,w):=by
 show(if xy=xy/\xx=xx then(match numOf jL g,numOf nQ m with|some h,some w=>some (h,w)|_,_=>none)else none)=_;rw[if_pos ⟨rfl,rfl⟩,u,z]
theorem Um(h:c.toNat=n)(g:n<256):c=UInt8.ofNat n:=UInt8.toNat_inj.1 (by rw[UInt8.toNat_ofNat'];omega)
theorem Jp(h:c.toNat=n)(g:n=46\/n=71\/n=83):rf c=true/\Sn c=false:=by
 rcases g with rfl|rfl|rfl<;>(rw[Um h rD];decide)
theorem Ov(h:c.toNat=n)(g:n=64\/n=79\/n=84\/n=87):rf c=true/\Sn c=true:=by
 rcases g with rfl|rfl|rfl|rfl<;>(rw[Um h rD];decide)
theorem Un(h:c.toNat=n)(Q:¬(n=46\/n=71\/n=83))(S:¬(n=64\/n=79\/n=84\/n=87)):rf c=false:=by
 have e:∀m:Nat,m<256->n≠m->c≠UInt8.ofNat m:=λm T g k=>g (by rw[<-h,k,UInt8.toNat_ofNat'];omega);unfold rf;have u:=e 46 om om;have z:=e 71 om om;have F:=e 83 om om;have I:=e 64 om om;have J:=e 79 om om;have O:=e 84 om om;have P:=e 87 om om;simp only[Bool.or_eq_false_iff,Zq];exact⟨⟨⟨⟨⟨⟨u,z⟩,F⟩,I⟩,J⟩,O⟩,P⟩
theorem kN{a:List UInt8}{x n:Nat}(u:x<a.length)(m:(a.getD x 0).toNat=n)(g:World):(Instr.index 9 (.string (bs a)) (rI (x:Nat))).run prog g=.ok (.int .u8 (n:Nat)) g:=by
 rw[run_index_string _ _ _ _ _ underlying9,dif_pos ⟨om,by rw[fw];omega⟩];congr 2;rw[<-m,Zk,Zc u];rfl
def Uf(l:List UInt8)(wd y:Nat)(r:List UInt8):Prop:=
 ∃L:List (List UInt8),L.length=4+y/\ig l=(L++(ig r).1,(ig r).2)/\r.length<=1000/\∀j,j<y->∃a,((ig l).1.drop 4)[j]? =some a/\a.length=wd/\∀x,x<wd->rf (a.getD x 0)=true
def UT(w:World)(l:List UInt8)(k:Nat)(r:List UInt8)(wr:World):Prop:=
 ∃L:List (List UInt8),L.length=k/\ig l=(L++(ig r).1,(ig r).2)/\r.length<=1000/\wr.heap[w.heap.size]? =some (.cells (kG L) 149 (0,0))/\Below w.heap.size w wr
theorem lW{wr:World}{A:Nat}(h:wr.heap[A]? =some (.cells (kG L) 149 (0,0)))(k:Nat)(g:k<4):wr.cell? ⟨A,k,none⟩=some (.string (bs (L.getD k []))):=by
 rw[Lib.cell_of_heap h];exact bI _ _ _ g
theorem Nc(w:World)(l:List UInt8)(hV:xu w):Calls prog 32 #[.string (bs l)] w λe w'=>fO w l e w':=by
 by_cases ao:1000<l.length
 .have Z:=zh ao
  go_enter func32,ntmps32;go_wp2_with fail;go_ret2
  exact fO.no 2 Z rD br
 have u:l.length<=1000:=om;clear ao;go_enter func32,ntmps32;go_wp2_with fail;refine aB ?_;intro W hW
 have HW:Below w.heap.size w W:=by rw[hW];exact be
 have hA:W.heap[w.heap.size]? =some (.cells (kG []) 149 (0,0)):=by
  rw[hW];exact heap_alloc_new _ _
 clear hW;replace hV:=hid hV;go_loopw [0,24] (λs i wr=>∃(k:Nat)(r:List UInt8),k<=4/\i=rI (k:Nat)/\s=.string (bs r)/\UT w l k r wr) (λ_ i _=>4-(intOf i).toNat)
 case atStart=>exact⟨0,l,om,rfl,rfl,[],rfl,rS,u,hA,HW⟩
 case round=>
  clear hA HW W;obtain⟨k,r,hk,rfl,rfl,hR⟩:=hrel;by_cases bg:k<4
  .have q:(k:Int)<4:=om
   obtain⟨L,T,z,hr,hA,Q⟩:=hR;have ay:r.length<=1000000:=om;replace T:=hid T;replace z:=hid z;have S:=hid (hV.out.below Q);rcases OB r with⟨hc,aa⟩|⟨a,b,hc,M,aa⟩
   .have Z:=hid (Bh u (by rw[ES z.out aa];simp only;have:=T.out;omega))
    have C:=hid (qy wr ay S.out hc);clear hc;go_wp2_with fail;refine C.out.mono ?_;rintro e w2 ⟨rfl,U⟩;go_wp2_with fail;go_ret2
    exact fO.no 3 Z.out rD (ae Q U)
   .have aE:=hid (ER (l:=L) z.out M aa)
    have bc:b.length<=1000:=by rw[M]at hr;simp at hr;omega
    have C:=hid (tV wr ay S.out hc);clear hc M z;go_wp2_with fail;refine C.out.mono ?_;rintro e w2 ⟨rfl,U⟩;have al:=ae Q U;have ac:w.heap.size<wr.heap.size:=(Za.1 hA).1;have hA2:w2.heap[w.heap.size]? =some (.cells (kG L) 149 (0,0)):=(U.block _ ac).trans hA;have b6:=lW hA2 k bg;have cm:w2.frozen? ⟨w.heap.size,k,none⟩=false:=Lib.frozen_of_heap hA2 k
    have hA3:=aI w2 w.heap.size k _ _ (.string (bs a)) hA2;rw[EC L a k T.out]at hA3;replace hA3:=hid hA3;replace hA2:=hid hA2;have O:=al.setCell (p:=⟨w.heap.size,k,none⟩) (Zi _) (.string (bs a));clear hA;go_wp2_with fail;go_roundw
    case rel=>exact⟨k+1,b,om,by go_num,rfl,L++[a],by simp[T.out],aE.out,bc,hA3.out,O⟩
    case measure=>exact rM
  .obtain rfl:k=4:=om
   obtain⟨L,T,z,hr,hA,Q⟩:=hR
   obtain⟨a0,a1,a2,a3,rfl⟩:∃a0 a1 a2 a3,L=[a0,a1,a2,a3]:=by
    match L,T with
    |[a0,a1,a2,a3],_=>exact⟨a0,a1,a2,a3,rfl⟩
   clear T bg hk;have bd:∀x∈(ig l).1,x.length<=l.length:=λx hx=>PH l x hx;have m1:a1.length<=1000:=Zg (bd a1 (by rw[z];simp)) u;have m2:a2.length<=1000:=Zg (bd a2 (by rw[z];simp)) u;clear bd;replace z:=hid z;have c1:=lW hA 1 rD;have ac:w.heap.size<wr.heap.size:=(Za.1 hA).1;have S:=hid (hV.out.below Q);simp only[List.getD_cons_succ,List.getD_cons_zero]at c1;go_wp2_with fail;refine(zO a1 [104,101,105,103,104,116] wr om rD S.out).mono ?_;rintro e w2 ⟨⟨h,b9,rfl,aw,a4,b1,b2⟩,U⟩;replace aw:=hid aw;replace a4:=hid a4;have al:=ae Q U;have hA2:w2.heap[w.heap.size]? =some (.cells (kG [a0,a1,a2,a3]) 149 (0,0)):=(U.block _ ac).trans hA;have a8:=hid (hV.out.below al);clear c1 hA Q U S;have c2:=lW hA2 2 rD;simp only[List.getD_cons_succ,List.getD_cons_zero]at c2;have aq:w.heap.size<w2.heap.size:=(Za.1 hA2).1;go_wp2_with fail
   refine(zO a2 [119,105,100,116,104] w2 om rD a8.out).mono ?_;rintro e w3 ⟨⟨d,ca,rfl,ax,a5,bx,bz⟩,bb⟩;replace ax:=hid ax;replace a5:=hid a5;have O:=ae al bb;have hA3:w3.heap[w.heap.size]? =some (.cells (kG [a0,a1,a2,a3]) 149 (0,0)):=(bb.block _ aq).trans hA2;have c0:=lW hA3 0 rD;have c3:=lW hA3 3 rD;simp only[List.getD_cons_succ,List.getD_cons_zero]at c0 c3;clear c2 hA2 al bb a8 hA3;have m:(a0≠xy\/(numOf jL a1).isSome=false\/(numOf nQ a2).isSome=false\/a3≠xx)->bK l=.bad 3:=λk=>rq u (by rw[z.out];exact ED k);replace m:=hid m;by_cases e0:a0=[116,121,112,101,32,111,99,116,105,108,101]
   case neg=>
    go_wp2_with fail;go_ret2
    exact fO.no 3 (m.out (.inl e0)) rD O
   have b0:(a0==[116,121,112,101,32,111,99,116,105,108,101])=true:=by simp[e0]
   replace e0:=hid e0;cases b9 with
   |false=>
    go_wp2_with fail;go_ret2
    exact fO.no 3 (m.out (.inr (.inl aw.out.symm))) rD O
   |true=>
   cases ca with
   |false=>
    go_wp2_with fail;go_ret2
    exact fO.no 3 (m.out (.inr (.inr (.inl ax.out.symm)))) rD O
   |true=>
   by_cases e3:a3=[109,97,112]
   case neg=>
    have bj:(a3==[109,97,112])=false:=Zq.2 e3;go_wp2_with fail;go_ret2
    exact fO.no 3 (m.out (.inr (.inr (.inr e3)))) rD O
   have bj:(a3==[109,97,112])=true:=by simp[e3]
   replace e3:=hid e3;clear m
   have bt:numOf jL a1=some h:=by
    obtain⟨x,hx⟩:=Option.isSome_iff_exists.1 aw.out.symm;have:=a4.out x hx;rw[this];exact hx
   have bv:numOf nQ a2=some d:=by
    obtain⟨x,hx⟩:=Option.isSome_iff_exists.1 ax.out.symm;have:=a5.out x hx;rw[this];exact hx
   have ag:qm (ig l).1=some (h,d):=by rw[z.out,e0.out,e3.out];exact AU bt bv
   replace ag:=hid ag;clear bt bv aw a4 ax a5;by_cases aS:1<=d/\d<=16/\1<=h/\h<=16
   case neg=>
    go_wp2_with fail;refine(wL d h _ aS).mono ?_;rintro e w4 ⟨rfl,rfl⟩;go_wp2_with fail;go_ret2
    exact fO.no 1 (zi u ag.out aS) rD O
   go_wp2_with fail;refine(yN d h _ aS).mono ?_;rintro e w4 ⟨rfl,B,bm,b8⟩;have bi:=ae O bm;clear bj b0 c0 c3;obtain⟨P,hP,bl⟩:∃P,w3.heap.size=P/\w.heap.size<=P:=⟨_,rfl,O.size⟩
   rw[hP]at B⊢;clear b8 bm hP O ac aq w3;obtain⟨s1,s2,s3,s4⟩:=aS;obtain⟨g,rfl⟩:=Zj (show 0<=d by omega);obtain⟨J,rfl⟩:=Zj (show 0<=h by omega);have n1:1<=g:=om;have n2:g<=16:=om;have n3:1<=J:=om;have n4:J<=16:=om;clear s1 s2 s3 s4 bx bz b1 b2;simp only[Int.toNat_natCast]at B
   have B:aC w4 P (eT g J ((ig l).1.drop 4) 0) 0:=by
    have:(⟨g,J,λ_=>false⟩:G)=eT g J ((ig l).1.drop 4) 0:=by unfold eT;congr 1
    rw[<-this];exact B
   have bq:Uf l g 0 r:=⟨_,rfl,z.out,hr,λy hy=>om⟩;clear z hr e0 e3 m1 m2;obtain⟨R,hR⟩:=rX ((ig l).1.drop 4);rw[hR]at B;replace hR:=hid hR;have m:¬((ig l).1.length=4+J/\(ig l).2=[]/\jU g R=true)->bK l=.bad 3:=λk=>zg u ag.out ⟨n1,n2,n3,n4⟩ (by rw[hR.out];exact k)
   have am:((ig l).1.length=4+J/\(ig l).2=[]/\jU g R=true)->bK l=.ok g J R:=λk=>by
    have:=Fp u ag.out ⟨n1,n2,n3,n4⟩ (by rw[hR.out];exact k);rwa[hR.out]at this
   replace m:=hid m;replace am:=hid am;clear ag u;go_wp2_with fail;go_loopw [0,80] (λs i wr=>∃(y:Nat)(r:List UInt8),y<=J/\i=rI (y:Nat)/\s=.string (bs r)/\Uf l g y r/\aC wr P (eT g J R (y*g)) (iN (fq g R) (y*g))/\Below w.heap.size w wr) (λ_ i _=>J-(intOf i).toNat)
   case atStart=>exact⟨0,r,om,rfl,rfl,bq,by simpa[iN]using B,bi⟩
   case round=>
    clear B bi bq;obtain⟨y,r,hy,rfl,rfl,a7,hG,Q⟩:=hrel;by_cases bg:y<J
    .have q:(y:Int)<J:=om
     obtain⟨L,T,z,hr,ab⟩:=a7;replace ab:=hid ab;have ay:r.length<=1000000:=om;have S:=hid (hV.out.below Q);replace T:=hid T;replace z:=hid z;rcases OB r with⟨hc,aa⟩|⟨a,b,hc,M,aa⟩
     .have Z:=hid (m.out (λk=>by
       have e:=ES z.out aa;have:=k.1;rw[e]at this;have:=T.out;simp only at*;omega))
      have C:=hid (qy wr ay S.out hc);clear hc;go_wp2_with fail;refine C.out.mono ?_;rintro e w5 ⟨rfl,ar⟩;go_wp2_with fail;go_ret2
      exact fO.no 3 Z.out rD (ae Q ar)
     .have aE:=hid (ER (l:=L) z.out M aa)
      have bc:b.length<=1000:=by rw[M]at hr;simp at hr;omega
      have C:=hid (tV wr ay S.out hc)
      have ad:R[y]? =some a:=by
       rw[<-hR.out,aE.out];simp only[List.getElem?_drop];rw[List.getElem?_append_left (by have:=T.out;simp;omega),Zz (by have:=T.out;omega)];have:4+y-L.length=0:=by have:=T.out;omega
       rw[this];rfl
      replace ad:=hid ad;clear hc M z;go_wp2_with fail;refine C.out.mono ?_;rintro e w5 ⟨rfl,ar⟩;have a9:=ae Q ar;have bk:=hG.below ar hG.lt;clear hG Q ar S C
      by_cases ha:a.length=g
      case neg=>
       have Z:=hid (m.out (λk=>xO ad.out (.inl ha) k.2.2));have cl:(a.length:Int)≠g:=om;clear ha;go_wp2_with fail;go_ret2
       exact fO.no 3 Z.out rD a9
      have m0:0<=(y:Int)*g/\(y:Int)*g<=256:=⟨Int.mul_nonneg om om,Int.le_trans (Int.mul_le_mul (show(y:Int)<=16 by omega) (show(g:Int)<=16 by omega) om om) om⟩;obtain⟨cn,co⟩:=m0
      have a6:y*g+g<=g*J:=by
       have:=Nat.mul_le_mul_right g (show y+1<=J by omega);rw[Nat.succ_mul,Nat.mul_comm J]at this;exact this
      have ap:g*J<=256:=Nat.mul_le_mul n2 n4;replace a6:=hid a6;replace ap:=hid ap;have ba:=hid ha;have b5:(a.length:Int)=g:=om;clear ha;go_wp2_with fail;clear b5
      go_loopw [100] (λi wr=>∃x:Nat,x<=g/\i=rI (x:Nat)/\(∀j,j<x->rf (a.getD j 0)=true)/\aC wr P (eT g J R (y*g+x)) (iN (fq g R) (y*g+x))/\Below w.heap.size w wr) (λi _=>g-(intOf i).toNat)
      case atStart=>exact⟨0,om,rfl,λj hj=>om,bk,a9⟩
      case round=>
       clear bk a9 w5;obtain⟨x,hx,rfl,F,hG,Q⟩:=hrel;replace F:=hid F;by_cases bh:x<g
       .have qx:(x:Int)<g:=om
        obtain⟨n,hn⟩:∃n:Nat,(a.getD x 0).toNat=n:=⟨_,rfl⟩;have cb:=kN (by rw[ba.out];exact bh) hn;replace hn:=hid hn;have ai:=hid (FB bh ad.out);by_cases f1:n=46\/n=71\/n=83
        .obtain⟨k1,k2⟩:=Jp hn.out f1
         have b3:aC wr P (eT g J R (y*g+(x+1))) (iN (fq g R) (y*g+(x+1))):=by
          have e:=ai.out.trans k2;rw[<-Nat.add_assoc,Fq e,lN,e];exact hG
         have I:∀j,j<x+1->rf (a.getD j 0)=true:=λj hj=>by
          rcases Nat.lt_succ_iff_lt_or_eq.1 hj with h'|rfl
          .exact F.out j h'
          .exact k1
         replace I:=hid I;clear hG k1 k2 ai F hn;rcases f1 with rfl|rfl|rfl<;>
         .go_wp2_with fail
          go_roundw
          case rel=>exact⟨x+1,om,by go_num,I.out,b3,Q⟩
          case measure=>exact rM
        by_cases f2:n=64\/n=79\/n=84\/n=87
        .obtain⟨k1,k2⟩:=Ov hn.out f2
         have I:∀j,j<x+1->rf (a.getD j 0)=true:=λj hj=>by
          rcases Nat.lt_succ_iff_lt_or_eq.1 hj with h'|rfl
          .exact F.out j h'
          .exact k1
         replace I:=hid I
         have bo:y*g+x<(eT g J R (y*g+x)).n:=by
          show y*g+x<g*J;have:=a6.out;omega
         have hv:0<=((iN (fq g R) (y*g+x):Nat):Int)/\((iN (fq g R) (y*g+x):Nat):Int)<=1099511627776:=by
          have:=Cj (fq g R) (y*g+x);have:=a6.out;have:=ap.out;omega
         have C:=kE wr P _ _ (y*g+x) true hG bo (by simp[eT]) hv;rw[Bi (ai.out.trans k2)]at C;rw[show((y*g+x:Nat):Int)=(y:Int)*g+x by simp]at C
         have bp:((iN (fq g R) (y*g+x):Nat):Int)+1=((iN (fq g R) (y*g+(x+1)):Nat):Int):=by
          rw[<-Nat.add_assoc,lN,ai.out.trans k2];simp
         rw[bp]at C;replace C:=hid C;clear hG k1 k2 ai F hn bo hv bp f1;rcases f2 with rfl|rfl|rfl|rfl<;>
         .go_wp2_with fail
          refine C.out.mono ?_;rintro e w6 ⟨rfl,b4,b7⟩;have bw:=Kept.below Q b7 Q.size (by simpa using bl);go_wp2_with fail;go_roundw
          case rel=>exact⟨x+1,om,by go_num,I.out,b4,bw⟩
          case measure=>exact rM
        .have Z:=hid (m.out (λk=>xO ad.out (.inr ⟨x,a.getD x 0,by rw[Zk,Zc (by rw[ba.out];exact bh)];rfl,Un hn.out f1 f2⟩) k.2.2))
         have cd:(n:Int)≠46:=om;have ce:(n:Int)≠71:=om;have cg:(n:Int)≠83:=om;have ch:(n:Int)≠64:=om;have ci:(n:Int)≠79:=om;have cj:(n:Int)≠84:=om;have ck:(n:Int)≠87:=om;clear f1 f2 hG ai F hn;go_wp2_with fail;go_ret2
         exact fO.no 3 Z.out rD Q
       .obtain rfl:x=g:=om
        go_wp2_with fail;go_roundw
        case rel=>
         refine⟨y+1,b,om,by go_num,rfl,⟨L++[a],by have:=T.out;simp;omega,aE.out,bc,λj hj=>?_⟩,by rw[Nat.succ_mul];exact hG,Q⟩;rcases Nat.lt_succ_iff_lt_or_eq.1 hj with h'|rfl
         .exact ab.out j h'
         .exact⟨a,by rw[hR.out];exact ad.out,ba.out,F.out⟩
        case measure=>exact rM
    .obtain rfl:y=J:=om
     obtain⟨L,T,z,hr,ab⟩:=a7;cases r with
     |cons c0 r0=>
      have Z:bK l=.bad 3:=m.out (λk=>by
       obtain⟨k1,k2,_⟩:=k;rw[z]at k1 k2;simp only[Zp]at k1;have:(ig (c0::r0)).1=[]:=List.length_eq_zero_iff.1 om;rw[SH this]at k2;cases k2)
      replace Z:=hid Z;clear ab z;go_wp2_with fail;go_ret2
      exact fO.no 3 Z.out rD Q
     |nil=>
      have Z:bK l=.ok g y R:=am.out ⟨by rw[z];simp[ig,ja];exact T,by rw[z];rfl,by
       rw[<-hR.out];refine Bz (n:=y) ?_ ab;rw[z];simp[ig,ja];omega⟩
      replace Z:=hid Z;clear ab z;go_wp2_with fail;go_ret2;exact .inr ⟨g,y,R,P,Z.out,rfl,bl,hG,Q⟩
def uq(w:World)(B:Nat)(v:Value)(zs:List (List UInt8)):Prop:=w.ownsRow B 9 1 v zs.length (zs.map λl=>Value.string (bs l))
theorem uq.nil(w:World)(B:Nat):uq w B (.slice none 0 0) []:=⟨rfl,.inl ⟨rfl,rfl⟩⟩
theorem uq.alloc(h:uq w B v zs)(o:Obj):uq (w.alloc o) B v zs:=World.ownsRow.alloc h o
def Strs(w:World)(A:Option Addr)(zs:List (List UInt8)):Prop:=0<zs.length->∃ad,A=some ad/\ad.block<w.heap.size/\∀k z,zs[k]? =some z->w.cell? (ad.add k)=some (.string (bs z))
theorem Strs.below{A:Option Addr}(h:Strs w A zs)(u:Below w.heap.size w w'):Strs w' A zs:=λJ=>by
 obtain⟨g,F,m,I⟩:=h J;exact⟨g,F,Zf m u.size,λk z O=>(u.cell (p:=g.add k) (by rw[add_block];exact m)).trans (I k z O)⟩
theorem uq.strs(h:uq w B v zs):∃A m,v=.slice A zs.length m/\Strs w A zs:=by
 rcases h.2 with⟨rfl,J⟩|⟨g,u,F,rfl,Q,I,P,S,T,U⟩
 .rw[J];exact⟨none,0,rfl,λh=>absurd h om⟩
 .refine⟨_,u,rfl,λ_=>⟨⟨g,0,none⟩,rfl,(Za.1 I).1,λk z O=>?_⟩⟩
  refine World.ownsRow.cells h (g:=g) rfl k _ ?_;rw[Zy,O];rfl
theorem QT:(prog.info? 9).map (λi=>(i.zero,i.size,i.bytes))=some (some (.string ⟨#[]⟩),1,16):=kr
theorem uf{I:Array Oper}{g:List Oper}{o:Oper}{a:Act}{Q:Exit->Act->World->Prop}(w:World)(S:o.guard=none)(s x:Operand)(ho:o.op=.call {callee:=.builtin .append,args:=#[s,x],argTypes:=#[67,67]})(B:Nat)(v:Value)(O:List (List UInt8))(z:List UInt8)(hs:a.eval s=v)(F:uq w B v O)(ad:Addr)(hx:a.eval x=.slice (some ad) 1 1)(R:w.cell? ad=some (.string (bs z)))(hl:O.length<1099511627776)(M:B<=w.heap.size)(h:∀P J,uq J B P (O++[z])->w.grownBy J v.ownBlock->wpList prog I Q g (a.put o.dst P) J):wpList prog I Q (o::g) a w:=by
 obtain⟨i0,hi,T,U,Z⟩:=info_parts QT;refine wpList_append_own w S s x 67 ho B 9 i0 (.string ⟨#[]⟩) 1 16 underlying67 hi T U Z rfl rD v O.length (O.map λl=>Value.string (bs l)) hs F ad 1 1 [.string (bs z)] hx rfl ?_ ?_ ?_ ?_ M ?_
 .intro j u m
  cases j with
  |zero=>simp at m;subst m;simpa[Addr.add]using R
  |succ j=>simp at m
 .intro u m;simp at m;subst m;rfl
 .unfold maxLen;omega
 .omega
 .intro P J k L _
  refine h P J ?_ L;unfold uq;simpa using k
theorem Cg{W w w':World}(g:Below B W w)(z:B<=w.heap.size)(h:uq w B v zs)(m:w.grownBy w' v.ownBlock):Below B W w':=
 g.grown m z (λk u=>(World.ownsRow.lt h k u).1)
def WH(w:World)(zs:List (List UInt8))(r:List UInt8)(e:Ending)(w':World):Prop:=∃A m,e=.returned (.tuple #[.slice A zs.length m,.string (bs r)])/\Strs w' A zs/\Below w.heap.size w w'
theorem TH{a b:Nat}(m:a<=b)(u:b<=l.length)(h:(l.drop a).take (b-a)=r)(g:World):(Instr.slice 9 (.string (bs l)) (some (rI (a:Nat))) (some (rI (b:Nat))) none).run prog g=.ok (.string (bs r)) g:=by
 rw[run_slice_string g 9 (bs l) .i64 .i64 (a:Nat) (b:Nat) underlying9 om om (by rw[fw];omega),Int.toNat_natCast,Int.toNat_natCast,ByteArray.extract_mk,h]
theorem tN{a:Nat}(m:a<=l.length)(h:l.drop a=r)(g:World):(Instr.slice 9 (.string (bs l)) (some (rI (a:Nat))) none none).run prog g=.ok (.string (bs r)) g:=by
 rw[run_slice_string_from_if g 9 (bs l) .i64 (a:Nat) underlying9,if_pos ⟨om,by rw[fw];omega⟩,Int.toNat_natCast,ByteArray.extract_mk,fw,List.take_of_length_le rS,h]
theorem QE{b:Nat}(m:b<=l.length)(h:l.take b=r)(g:World):(Instr.slice 9 (.string (bs l)) none (some (rI (b:Nat))) none).run prog g=.ok (.string (bs r)) g:=by
 rw[run_slice_string_to_if g 9 (bs l) .i64 (b:Nat) underlying9,if_pos ⟨om,by rw[fw];omega⟩,Int.toNat_natCast,ByteArray.extract_mk];simp[h]
def jE(l:List UInt8)(k fr:Nat)(L:List (List UInt8))(r:List UInt8):Prop:=fr<=k/\ja ([],[]) (l.take k)=(L,r)/\(l.drop fr).take (k-fr)=r
theorem jE.next(h:jE l k fr L r)(g:k<l.length):ja ([],[]) (l.take (k+1))=p8 (L,r) (l.getD k 0):=by
 have e:l.take (k+1)=l.take k++[l.getD k 0]:=by
  rw[List.take_add_one,Zc g,Zk,Zc g];rfl
 rw[e,AZ,h.2.1];rfl
theorem jE.end(h:jE l k fr L r)(m:k<l.length)(g:l.getD k 0=10):jE l (k+1) (k+1) (L++[r]) []:=by
 refine⟨Zi _,?_,rS⟩;rw[h.next m,g];rfl
theorem jE.on(h:jE l k fr L r)(g:k<l.length)(m:l.getD k 0≠10):jE l (k+1) fr L (r++[l.getD k 0]):=by
 refine⟨by have:=h.1;omega,?_,?_⟩
 .rw[h.next g];unfold p8;rw[if_neg m]
 .have u:=h.1
  have e:k+1-fr=(k-fr)+1:=om;rw[e,List.take_add_one,h.2.2,List.getElem?_drop,show fr+(k-fr)=k by omega,Zc g,Zk,Zc g];rfl
theorem jE.few(h:jE l k fr L r):L.length<=k:=by
 have:=JY (l.take k) ([],[]);rw[h.2.1]at this;have:(l.take k).length<=k:=so;simp only[List.length_nil]at*;omega
theorem VW(l:List UInt8)(hl:l.length<=1000)(w:World):Calls prog 71 #[.string (bs l)] w (WH w (ig l).1 (ig l).2):=by
 have Q:=Below.refl w.heap.size w;go_enter func71,ntmps71;go_wp2_with fail;go_loopw [4,5,6] (λv f i wr=>∃(k fr:Nat)(L:List (List UInt8))(r:List UInt8),k<=l.length/\i=rI (k:Nat)/\f=rI (fr:Nat)/\jE l k fr L r/\uq wr w.heap.size v L/\Below w.heap.size w wr) (λ_ _ i _=>l.length-(intOf i).toNat)
 case atStart=>exact⟨0,0,[],[],om,rfl,rfl,⟨om,by simp[ja],rS⟩,uq.nil _ _,Q⟩
 case round=>
  clear Q;obtain⟨k,fr,L,r,hk,rfl,rfl,u,g,S⟩:=hrel;have M:=u.1;have aa:=u.few;have ag:=S.size;by_cases I:k<l.length
  .have q:(k:Int)<l.length:=om
   obtain⟨n,J⟩:∃n:Nat,(l.getD k 0).toNat=n:=⟨_,rfl⟩;have ab:=kN I J;have ad:=TH M hk u.2.2;replace J:=hid J;by_cases P:n=10
   .subst P
    have z:=hid (u.end I (UInt8.toNat_inj.1 J.out));clear u J;go_wp2_with (at_builtin;(refine uf _ rfl _ _ rfl w.heap.size _ _ r rfl (g.alloc _) ⟨wr.heap.size,0,none⟩ rfl (dh _ _ _) om so ?_);intro v' w3 O F)
    have U:=Cg (S.alloc om _) so (g.alloc _) F;go_wp2_with fail;go_roundw
    case rel=>exact⟨k+1,k+1,L++[r],[],om,by go_num,by go_num,z.out,O,U⟩
    case measure=>exact rM
   .have z:=hid (u.on I (λe=>P (by rw[<-J.out,e];rfl)))
    have ai:(n:Int)≠10:=om;clear u J;go_wp2_with fail;go_roundw
    case rel=>exact⟨k+1,fr,L,_,om,by go_num,rfl,z.out,g,S⟩
    case measure=>exact rM
  .obtain rfl:k=l.length:=om
   have Z:ig l=(L,r):=by
    have:=u.2.1;rwa[List.take_length]at this
   have R:l.drop fr=r:=by
    have:=u.2.2;rwa[List.take_of_length_le rS]at this
   have ac:=tN om R;replace Z:=hid Z;clear u R;obtain⟨A,m,rfl,hS⟩:=g.strs;go_wp2_with fail;refine qb S trivial λW1 T B=>?_;go_wp2_with fail;go_ret2;rw[Z.out];exact⟨A,m,rfl,hS.below B,T⟩
