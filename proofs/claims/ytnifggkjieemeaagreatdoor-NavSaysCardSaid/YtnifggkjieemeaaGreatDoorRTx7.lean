/- Lemmas of this claim: RTx7. -/
import Derived.Test.YtnifggkjieemeaaGreatDoorRTx6
import Derived.Deep.DeepCutAuto
set_option linter.unusedVariables false
set_option linter.unusedSimpArgs false
set_option maxHeartbeats 6400000
set_option maxRecDepth 100000
open Go.Proofs.Tryz
namespace Go.Proofs.YtnifggkjieemeaaGreatDoor
open Go.Lib (hid)
open Go.RowKit Go.Sort FR
variable {A:Option Addr}{w w':World}
def fP(w:World)(l:List UInt8)(e:Ending)(w':World):Prop:=
 (∃k:Nat,bK l=.bad k/\0<k/\e=.returned (.tuple #[.pointer none,rI (k:Nat)])/\Below w.heap.size w w')\/
 ∃a b R p,bK l=.ok a b R/\e=.returned (.tuple #[vP p,rI 0])/\w.heap.size<=p/\aG w' p (eT a b R (b*a)) (iN (fq a R) (b*a))/\Below w.heap.size w w'
theorem fP.no{l:List UInt8}(k:Nat)(h:bK l=.bad k)(m:0<k)(g:Below w.heap.size w w'):fP w l (.returned (.tuple #[.pointer none,rI (k:Nat)])) w':=.inl ⟨k,h,m,rfl,g⟩
theorem iw{a:Addr}{v:Value}(h:Below w.heap.size w w')(g:w.cell? a=some v):w'.cell? a=some v:=(h.cell (ZF w _ g)).trans g
theorem QD{ad:Addr}{n m k:Nat}(h:A=some ad)(u:k<n)(g:World):(Instr.indexAt 67 (.slice A n m) (rI (k:Nat))).run prog g=.ok (.pointer (some (ad.add k))) g:=by
 subst h;have q:(k:Int)<(n:Int):=om;go_simp
theorem oU{ad b:Addr}{n m:Nat}(k:Nat)(z:Int)(F:z=(k:Nat))(h:A=some ad)(B:k<n)(u:ad.add k=b)(g:World):(Instr.indexAt 67 (.slice A n m) (rI z)).run prog g=.ok (.pointer (some b)) g:=by
 subst F;rw[<-u];exact QD h B g
theorem Strs.kept{S:List Nat}{F:List (List UInt8)}(h:Strs w A F)(B:Kept S w w')(J:∀g,A=some g->g.block∉S):Strs w' A F:=λL=>by
 obtain⟨g,m,u,I⟩:=h L;refine⟨g,m,Zf u B.size,λk z M=>?_⟩;rw[<-I k z M];unfold World.cell?;rw[add_block,B.block _ u (J g m)]
theorem FJ{t s:List UInt8}{d h:Int}(u:oN t=some d)(z:oN s=some h):(1<=d/\d<=16/\1<=h/\h<=16->fB t=d/\fB s=h)/\(¬(1<=d/\d<=16/\1<=h/\h<=16)->¬(1<=fB t/\fB t<=16/\1<=fB s/\fB s<=16)):=by
 have g:=BB u;have m:=BB z;constructor
 .intro k
  rcases g with g|g<;>rcases m with m|m<;>omega
 .intro k B
  rcases g with g|g<;>rcases m with m|m<;>omega
theorem VX(w:World)(l:List UInt8):Calls prog 33 #[.string (bs l)] w λe w'=>fP w l e w':=by
 by_cases ay:1000<l.length
 .have hp:=zh ay
  go_enter func33,ntmps33;go_wp2_with fail;go_ret2
  exact fP.no 2 hp rD br
 have L:l.length<=1000:=om;clear ay;obtain⟨U,Q⟩:=rX ((ig l).1);obtain⟨r,hr⟩:=rX ((ig l).2);have cL:=VW l L w;rw[Q,hr]at cL;replace cL:=hid cL;have a7:∀x∈U,x.length<=1000:=λx hx=>Zg (PH l x (by rw[Q];exact hx)) L;replace a7:=hid a7;replace Q:=hid Q;replace hr:=hid hr;go_enter func33,ntmps33;go_wp2_with fail;refine cL.out.mono ?_;rintro e w1 ⟨A,m,rfl,hS,HB⟩;clear cL
 by_cases h4:U.length<4
 .have hp:=hid (Bh L (by rw[Q.out];exact h4))
  have q:(U.length:Int)<4:=om;clear h4;go_wp2_with fail;go_ret2
  exact fP.no 3 hp.out rD HB
 have q4:¬((U.length:Int)<4):=om
 obtain⟨a0,Z,a2,a3,M,hM⟩:∃a0 Z a2 a3 M,U=a0::Z::a2::a3::M:=by
  match U,h4 with
  |a0::Z::a2::a3::M,_=>exact⟨a0,Z,a2,a3,M,rfl⟩
  |[],h=>simp at h
  |[_],h=>simp at h
  |[_,_],h=>simp at h
  |[_,_,_],h=>simp at h
 have m1:Z.length<=1000:=a7.out Z (by rw[hM];simp);have m2:a2.length<=1000:=a7.out a2 (by rw[hM];simp);obtain⟨ad,ac,ch,u⟩:=hS om;have c0:=u 0 a0 (by rw[hM];rfl);have c1:=u 1 Z (by rw[hM];rfl);have c2:=u 2 a2 (by rw[hM];rfl);have c3:=u 3 a3 (by rw[hM];rfl);obtain⟨b0,bh⟩:=rX (ad.add 0);obtain⟨b1,bi⟩:=rX (ad.add 1);obtain⟨b2,I⟩:=rX (ad.add 2);obtain⟨b3,J⟩:=rX (ad.add 3);rw[bh]at c0;rw[bi]at c1;rw[I]at c2;rw[J]at c3;have i0:=oU (m:=m) (n:=U.length) 0 0 rfl ac om bh;have i1:=oU (m:=m) (n:=U.length) 1 1 rfl ac om bi;have i2:=oU (m:=m) (n:=U.length) 2 2 rfl ac om I;have i3:=oU (m:=m) (n:=U.length) 3 3 rfl ac om J;clear bh bi I J h4;replace hM:=hid hM;replace u:=hid u;replace ac:=hid ac;have cj:(numOf jL Z).isSome=true\/(numOf jL Z).isSome=false:=by cases (numOf jL Z).isSome<;>simp
 have C1:=Ko Z jL m1 rD w1;obtain⟨cl,aq⟩:=rX ((numOf jL Z).isSome);obtain⟨cm,ar⟩:=rX ((numOf nQ a2).isSome);have C2:=hid (λ(T:World)=>Ko a2 nQ m2 rD T);rw[aq]at C1;rw[ar]at C2;replace C1:=hid C1;replace aq:=hid aq;replace ar:=hid ar;clear cj;go_wp2_with fail;refine C1.out.mono ?_;rintro e w2 ⟨rfl,I⟩;have bo:=ae HB I;replace c0:=iw I c0;replace c1:=iw I c1;replace c2:=iw I c2;replace c3:=iw I c3;go_wp2_with fail;refine(C2.out _).mono ?_;rintro e w3 ⟨rfl,J⟩;replace c0:=iw J c0;replace c1:=iw J c1
 replace c2:=iw J c2;replace c3:=iw J c3;have am:=ae bo J;have bp:=ae I J;have ca:=HB.size;clear bo I J C1 C2 HB;have z:(a0≠xy\/(numOf jL Z).isSome=false\/(numOf nQ a2).isSome=false\/a3≠xx)->bK l=.bad 3:=λk=>rq L (by rw[Q.out,hM.out];exact ED k);replace z:=hid z;by_cases e0:a0=[116,121,112,101,32,111,99,116,105,108,101]
 case neg=>
  have bq:(a0==[116,121,112,101,32,111,99,116,105,108,101])=false:=Zq.2 e0;go_wp2_with fail;go_ret2
  exact fP.no 3 (z.out (.inl e0)) rD am
 have bq:(a0==[116,121,112,101,32,111,99,116,105,108,101])=true:=by simp[e0]
 replace e0:=hid e0;cases cl with
 |false=>
  go_wp2_with fail;go_ret2
  exact fP.no 3 (z.out (.inr (.inl aq.out))) rD am
 |true=>
 cases cm with
 |false=>
  go_wp2_with fail;go_ret2
  exact fP.no 3 (z.out (.inr (.inr (.inl ar.out)))) rD am
 |true=>
 by_cases e3:a3=[109,97,112]
 case neg=>
  have bt:(a3==[109,97,112])=false:=Zq.2 e3;go_wp2_with fail;go_ret2
  exact fP.no 3 (z.out (.inr (.inr (.inr e3)))) rD am
 have bt:(a3==[109,97,112])=true:=by simp[e3]
 replace e3:=hid e3;clear z;obtain⟨h,aS⟩:=Option.isSome_iff_exists.1 aq.out;obtain⟨d,a4⟩:=Option.isSome_iff_exists.1 ar.out;have ai:qm (ig l).1=some (h,d):=by rw[Q.out,hM.out,e0.out,e3.out];exact AU aS a4
 have cW:∀T,Calls prog 73 #[.string (bs a2),.string (bs [119,105,100,116,104,32])] T (Rt T (rI (fB (a2.drop nQ.length)))):=λT=>Qx a2 nQ d m2 rD a4 T;have cH:∀T,Calls prog 73 #[.string (bs Z),.string (bs [104,101,105,103,104,116,32])] T (Rt T (rI (fB (Z.drop jL.length)))):=λT=>Qx Z jL h m1 rD aS T
 have b7:oN (Z.drop jL.length)=some h:=by
  obtain⟨k1,k2⟩:=oM aS;rw[<-uT om k2];exact aS
 have b8:oN (a2.drop nQ.length)=some d:=by
  obtain⟨k1,k2⟩:=oM a4;rw[<-uT om k2];exact a4
 obtain⟨ba,bb⟩:=FJ b8 b7;obtain⟨sw,bl⟩:=rX (fB (a2.drop nQ.length));obtain⟨sh,bk⟩:=rX (fB (Z.drop jL.length));rw[bl,bk]at ba bb;simp only[bl]at cW;simp only[bk]at cH;replace cW:=hid cW;replace cH:=hid cH;replace ai:=hid ai;clear aS a4 b7 b8 bl bk aq ar;have hdr:=aj (Below.refl w3.heap.size w3);have j1:=iw hdr c1;have j2:=iw hdr c2;have ab:=ae am hdr;have ap:=ae bp hdr;by_cases a5:1<=d/\d<=16/\1<=h/\h<=16
 case neg=>
  have hp:=hid (zi L ai.out a5);have b9:=hid (bb a5);clear ba bb a5 hdr ap;go_upto_region 10 with(fail);go_cut [8,9] (λx y T=>x=.pointer none/\y=rI 1/\Below w.heap.size w T)
  case first=>
   go_region_with
    (first
     |(go_at_call 73
       first
        |(with_reducible refine(cW.out _).mono ?_)
        |(with_reducible refine(cH.out _).mono ?_)
       rintro e wA ⟨rfl,aa⟩;have j1:=iw aa j1;have j2:=iw aa j2;have ab:=ae ab aa)
     |(go_at_call 31
       (with_reducible refine(Fw sw sh _ b9.out).mono ?_);rintro e wB ⟨rfl,rfl⟩))
   all_goals
    go_wp2;go_meet
    case rel=>exact⟨rfl,rfl,ab⟩
  case rest=>
   obtain⟨rfl,rfl,ao⟩:=hcut;go_wp2_with fail;go_ret2
   exact fP.no 1 hp.out rD ao
 obtain⟨rfl,rfl⟩:=ba a5;clear ba bb hdr;obtain⟨s1,s2,s3,s4⟩:=a5;obtain⟨g,rfl⟩:=Zj (show 0<=sw by omega);obtain⟨B,rfl⟩:=Zj (show 0<=sh by omega);have n1:1<=g:=om;have n2:g<=16:=om;have n3:1<=B:=om;have n4:B<=16:=om;clear s1 s2 s3 s4;obtain⟨R,hR⟩:=rX (U.drop 4);replace hR:=hid hR;have z:¬(U.length=4+B/\r=[]/\jU g R=true)->bK l=.bad 3:=λk=>zg L ai.out ⟨n1,n2,n3,n4⟩ (by rw[Q.out,hr.out,hR.out];exact k)
 have al:(U.length=4+B/\r=[]/\jU g R=true)->bK l=.ok g B R:=λk=>by
  have:=Fp L ai.out ⟨n1,n2,n3,n4⟩ (by rw[Q.out,hr.out,hR.out];exact k);rwa[Q.out,hR.out]at this
 replace z:=hid z;replace al:=hid al;have a6:(⟨((g:Nat):Int).toNat,((B:Nat):Int).toNat,λ_=>false⟩:G)=eT g B R 0:=by unfold eT;simp
 replace a6:=hid a6;go_upto_region 10 with(fail);go_cut [8,9] (λx y T=>∃P,x=vP P/\y=rI 0/\w1.heap.size<=P/\aG T P (eT g B R 0) 0/\Below w.heap.size w T/\Below w1.heap.size w1 T)
 case first=>
  clear ai z al
  go_region_with
   (first
    |(go_at_call 73
      first
       |(with_reducible refine(cW.out _).mono ?_)
       |(with_reducible refine(cH.out _).mono ?_)
      rintro e wA ⟨rfl,aa⟩;have j1:=iw aa j1;have j2:=iw aa j2;have ab:=ae ab aa;have ap:=ae ap aa)
    |(go_at_call 31
      (with_reducible refine(Ku (g:Nat) (B:Nat) _ ⟨om,om,om,om⟩).mono ?_);rintro e wB ⟨P,rfl,hP,ce,bx⟩))
  all_goals
   go_wp2;go_meet
   case rel=>exact⟨P,rfl,rfl,Zg ap.size hP,by rw[<-a6.out];exact ce,ae ab bx,ae ap bx⟩
 case rest=>
  obtain⟨P,rfl,rfl,cg,S,ao,HQ⟩:=hcut;clear ab ap j1 j2 c0 c1 c2 c3 i0 i1 i2 i3 cW cH a6 e0 e3 bq bt am bp ai;have bd:=hS.below HQ;have bw:w.heap.size<=P:=Zg ca cg
  have bj:∀ax,A=some ax->ax.block∉[P]:=λax e=>by
   have:=ac.out.symm.trans e;cases this;simp;omega
  replace bj:=hid bj;replace bd:=hid bd;clear hS u HQ;have kH:wc.cell? ⟨P,1,none⟩=some (rI (B:Nat)):=(S.size).2;have cn:=S.lt;by_cases hN:U.length=4+B
  case neg=>
   have hp:=hid (z.out (λk=>hN k.1));have qN:(U.length:Int)≠4+B:=om;clear hN;go_wp2_with fail;go_ret2
   exact fP.no 3 hp.out rD ao
  have qN:(U.length:Int)=4+B:=om;replace hN:=hid hN;cases r with
  |cons r0 r1=>
   have hp:=hid (z.out (λk=>by have:=k.2.1;cases this));go_wp2_with fail;go_ret2
   exact fP.no 3 hp.out rD ao
  |nil=>
  go_wp2_with fail;clear kH
  go_loopw [10] (λi wr=>∃y:Nat,y<=B/\i=rI (y:Nat)/\(∀j,j<y->∃a,R[j]? =some a/\a.length=g/\∀x,x<g->rf (a.getD x 0)=true)/\aG wr P (eT g B R (y*g)) (iN (fq g R) (y*g))/\Below w.heap.size w wr/\Kept [P] wc wr) (λi _=>B-(intOf i).toNat)
  case atStart=>exact⟨0,om,rfl,λj hj=>om,by simpa[iN]using S,ao,Kept.refl _ _⟩
  case round=>
   clear S ao;obtain⟨y,hy,rfl,a8,S,HB,hK⟩:=hrel;have kW:wr.cell? ⟨P,0,none⟩=some (rI (g:Nat)):=(S.size).1;have kH:wr.cell? ⟨P,1,none⟩=some (rI (B:Nat)):=(S.size).2;replace a8:=hid a8;by_cases cy:y<B
   .have q:(y:Int)<B:=om
    obtain⟨a,ag⟩:∃a,R[y]? =some a:=by
     have:y<R.length:=by rw[<-hR.out,List.length_drop];have:=hN.out;omega
     exact⟨_,Zc this⟩
    have bv:U[4+y]? =some a:=by rw[<-List.getElem?_drop,hR.out];exact ag
    obtain⟨ax,e',_,b5⟩:=(bd.out.kept hK bj.out) (by have:=hN.out;omega);have hc:=b5 (4+y) a bv;obtain⟨b,hb⟩:=rX (ax.add (4+y));have ck:=oU (m:=m) (n:=U.length) (4+y) (4+(y:Int)) rS e' (by have:=hN.out;omega) hb;rw[hb]at hc;clear hb b5 e' bv;replace ag:=hid ag;by_cases ha:a.length=g
    case neg=>
     have hp:=hid (z.out (λk=>xO ag.out (.inl ha) k.2.2));have cx:(a.length:Int)≠g:=om;clear ha;go_wp2_with fail;go_ret2
     exact fP.no 3 hp.out rD HB
    have m0:0<=(y:Int)*g/\(y:Int)*g<=256:=⟨Int.mul_nonneg om om,Int.le_trans (Int.mul_le_mul (show(y:Int)<=16 by omega) (show(g:Int)<=16 by omega) om om) om⟩;obtain⟨cA,cB⟩:=m0
    have a9:y*g+g<=g*B:=by
     have:=Nat.mul_le_mul_right g (show y+1<=B by omega);rw[Nat.succ_mul,Nat.mul_comm B]at this;exact this
    have aE:g*B<=256:=Nat.mul_le_mul n2 n4;replace a9:=hid a9;replace aE:=hid aE;have bg:=hid ha;have ci:(a.length:Int)=g:=om;clear ha;go_wp2_with fail;clear ci hc ck kH;obtain⟨wo,rfl⟩:∃wo:World,wo=wr:=⟨_,rfl⟩;clear kW
    go_loopw [12] (λi wr=>∃x:Nat,x<=g/\i=rI (x:Nat)/\(∀j,j<x->rf (a.getD j 0)=true)/\aG wr P (eT g B R (y*g+x)) (iN (fq g R) (y*g+x))/\Below w.heap.size w wr/\Kept [P] wc wr) (λi _=>g-(intOf i).toNat)
    case atStart=>exact⟨0,om,rfl,λj hj=>om,S,HB,hK⟩
    case round=>
     clear S HB hK;obtain⟨x,hx,rfl,F,S,HB,hK⟩:=hrel;have kW:wr.cell? ⟨P,0,none⟩=some (rI (g:Nat)):=(S.size).1;have kH:wr.cell? ⟨P,1,none⟩=some (rI (B:Nat)):=(S.size).2;replace F:=hid F;by_cases bm:x<g
     .have qx:(x:Int)<g:=om
      obtain⟨n,hn⟩:∃n:Nat,(a.getD x 0).toNat=n:=⟨_,rfl⟩;have co:=kN (by rw[bg.out];exact bm) hn;replace hn:=hid hn;have aw:=hid (FB bm ag.out);by_cases f1:n=46\/n=71\/n=83
      .obtain⟨k1,k2⟩:=Jp hn.out f1
       have bc:aG wr P (eT g B R (y*g+(x+1))) (iN (fq g R) (y*g+(x+1))):=by
        have e:=aw.out.trans k2;rw[<-Nat.add_assoc,Fq e,lN,e];exact S
       have O:∀j,j<x+1->rf (a.getD j 0)=true:=λj hj=>by
        rcases Nat.lt_succ_iff_lt_or_eq.1 hj with h'|rfl
        .exact F.out j h'
        .exact k1
       replace O:=hid O;replace bc:=hid bc;clear S k1 k2 aw F hn;rcases f1 with rfl|rfl|rfl<;>
       .go_wp2_with fail
        go_roundw
        case rel=>exact⟨x+1,om,by go_num,O.out,bc.out,HB,hK⟩
        case measure=>exact rM
      by_cases f2:n=64\/n=79\/n=84\/n=87
      .obtain⟨k1,k2⟩:=Ov hn.out f2
       have O:∀j,j<x+1->rf (a.getD j 0)=true:=λj hj=>by
        rcases Nat.lt_succ_iff_lt_or_eq.1 hj with h'|rfl
        .exact F.out j h'
        .exact k1
       replace O:=hid O
       have bz:y*g+x<(eT g B R (y*g+x)).n:=by
        show y*g+x<g*B;have:=a9.out;omega
       have hv:0<=((iN (fq g R) (y*g+x):Nat):Int)/\((iN (fq g R) (y*g+x):Nat):Int)<=1099511627776:=by
        have:=Cj (fq g R) (y*g+x);have:=a9.out;have:=aE.out;omega
       have C:=Fx wr P _ _ (y*g+x) true S bz (by simp[eT]) hv;rw[Bi (aw.out.trans k2)]at C;rw[show((y*g+x:Nat):Int)=(y:Int)*g+x by simp]at C
       have b4:((iN (fq g R) (y*g+x):Nat):Int)+1=((iN (fq g R) (y*g+(x+1)):Nat):Int):=by
        rw[<-Nat.add_assoc,lN,aw.out.trans k2];simp
       rw[b4]at C;replace C:=hid C;clear S k1 k2 aw F hn bz hv b4 f1;rcases f2 with rfl|rfl|rfl|rfl<;>
       .go_wp2_with fail
        refine C.out.mono ?_;rintro e w6 ⟨rfl,cd,b6⟩;have cb:=Kept.below HB b6 HB.size (by simpa using bw);go_wp2_with fail;go_roundw
        case rel=>exact⟨x+1,om,by go_num,O.out,cd,cb,hK.trans b6⟩
        case measure=>exact rM
      .have hp:=hid (z.out (λk=>xO ag.out (.inr ⟨x,a.getD x 0,by rw[Zk,Zc (by rw[bg.out];exact bm)];rfl,Un hn.out f1 f2⟩) k.2.2))
       have cp:(n:Int)≠46:=om;have cq:(n:Int)≠71:=om;have cr:(n:Int)≠83:=om;have cs:(n:Int)≠64:=om;have ct:(n:Int)≠79:=om;have cv:(n:Int)≠84:=om;have cw:(n:Int)≠87:=om;clear f1 f2 S aw F hn;go_wp2_with fail;go_ret2
       exact fP.no 3 hp.out rD HB
     .obtain rfl:x=g:=om
      go_wp2_with fail;go_roundw
      case rel=>
       refine⟨y+1,om,by go_num,λj hj=>?_,by rw[Nat.succ_mul];exact S,HB,hK⟩;rcases Nat.lt_succ_iff_lt_or_eq.1 hj with h'|rfl
       .exact a8.out j h'
       .exact⟨a,ag.out,bg.out,F.out⟩
      case measure=>exact rM
   .obtain rfl:y=B:=om
    have hp:bK l=.ok g y R:=al.out ⟨hN.out,rS,Bz (n:=y) (by rw[<-hR.out,List.length_drop,hN.out];omega) a8.out⟩;replace hp:=hid hp;go_wp2_with fail;go_ret2;exact .inr ⟨g,y,R,P,hp.out,rfl,bw,S,HB⟩
