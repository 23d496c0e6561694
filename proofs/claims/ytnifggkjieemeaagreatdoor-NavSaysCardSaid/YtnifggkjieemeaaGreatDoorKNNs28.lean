/- Lemmas of this claim: MathTxt, MathTxt2, MathMap. -/
import Derived.Lib.AtoiAllCases
import Derived.Lib.ItoaNum
import Derived.Lib.IndexMore
import Derived.Test.YtnifggkjieemeaaGreatDoorKNNs3
set_option linter.unusedVariables false
set_option linter.unusedSimpArgs false
namespace Go.Proofs.YtnifggkjieemeaaGreatDoor
open Go.Lib
theorem Ut:∀l:List UInt8,(index l [10]= -1/\(10:UInt8)∉l)\/∃a b,l=a++10::b/\(10:UInt8)∉a/\index l [10]=(a.length:Nat)
 |[]=>.inl ⟨rfl,rS⟩
 |c::l=>by
  by_cases g:c=10
  .subst g
   exact .inr ⟨[],l,rfl,rS,by simp[index,List.isPrefixOf]⟩
  .have m:([10]:List UInt8).isPrefixOf (c::l)=false:=by
    have:¬10=c:=λh=>g h.symm;simp[List.isPrefixOf,this]
   rcases Ut l with⟨u,k⟩|⟨a,b,e,k,z⟩
   .left
    refine⟨by unfold index;rw[m,u];rfl,?_⟩;rw[Zd];rintro(h|h)
    .exact g h.symm
    .exact k h
   .right
    subst e;refine⟨c::a,b,rfl,?_,?_⟩
    .rw[Zd]
     rintro(h|h)
     .exact g h.symm
     .exact k h
    .unfold index
     rw[m,z];have:((a.length:Int)== -1)=false:=by rw[Zq];omega
     simp[this]
theorem OB(l:List UInt8):(cut l [10]=(l,[],false)/\(10:UInt8)∉l)\/∃a b,cut l [10]=(a,b,true)/\l=a++10::b/\(10:UInt8)∉a:=by
 rcases Ut l with⟨k,g⟩|⟨a,b,e,g,m⟩
 .left
  refine⟨?_,g⟩;unfold cut;rw[k,if_neg om]
 .right
  refine⟨a,b,?_,e,g⟩;unfold cut;rw[m,if_pos om,e];simp
def p8(st:List (List UInt8)×List UInt8)(b:UInt8):List (List UInt8)×List UInt8:=if b=10 then(st.1++[st.2],[])else(st.1,st.2++[b])
def ja(st:List (List UInt8)×List UInt8)(l:List UInt8):List (List UInt8)×List UInt8:=l.foldl p8 st
def ig(l:List UInt8):List (List UInt8)×List UInt8:=ja ([],[]) l
theorem yR(X:List (List UInt8)):∀(l:List UInt8)(Y:List (List UInt8))(r:List UInt8),ja (X++Y,r) l=(X++(ja (Y,r) l).1,(ja (Y,r) l).2)
 |[],_,_=>rfl
 |b::l,Y,r=>by
  show ja (p8 (X++Y,r) b) l=(X++(ja (p8 (Y,r) b) l).1,(ja (p8 (Y,r) b) l).2);unfold p8;by_cases g:b=10
  .rw[if_pos g,if_pos g]
   show ja ((X++Y)++[r],[]) l=_;rw[List.append_assoc];exact yR X l _ _
  .rw[if_neg g,if_neg g]
   exact yR X l _ _
theorem uR:∀(l:List UInt8)(Y:List (List UInt8))(r:List UInt8),(10:UInt8)∉l->ja (Y,r) l=(Y,r++l)
 |[],_,_,_=>by simp[ja]
 |b::l,Y,r,h=>by
  have g:b≠10:=λe=>h (by simp[e]);show ja (p8 (Y,r) b) l=_;unfold p8;rw[if_neg g,uR l Y (r++[b]) (λe=>h (List.mem_cons_of_mem _ e))];simp
theorem AZ(g:List (List UInt8)×List UInt8)(a b:List UInt8):ja g (a++b)=ja (ja g a) b:=List.foldl_append ..
theorem EP{l:List UInt8}(h:(10:UInt8)∉l):ig l=([],l):=uR l [] [] h
theorem EO{a b:List UInt8}(h:(10:UInt8)∉a):ig (a++10::b)=(a::(ig b).1,(ig b).2):=by
 show ja ([],[]) (a++10::b)=_;rw[AZ,uR a [] [] h];show ja (([]++[[]++a]:List (List UInt8)),[]) b=_;have:=yR [a] b [] [];simpa[ig]using this
theorem JY:∀(l:List UInt8)(g:List (List UInt8)×List UInt8),(ja g l).1.length<=g.1.length+l.length
 |[],g=>by simp[ja]
 |b::l,g=>by
  have h:=JY l (p8 g b);show(ja (p8 g b) l).1.length<=_;have:(p8 g b).1.length<=g.1.length+1:=by unfold p8;split<;>simp
  simp only[List.length_cons];omega
def Gf(c:UInt8):Bool:=decide (48<=c.toNat/\c.toNat<=57)
def eD(l:List UInt8):Bool:=l.all Gf
def bX(a:Nat)(l:List UInt8):Nat:=l.foldl (λa c=>a*10+(c.toNat-48)) a
theorem vG(a:Nat)(l:List UInt8)(c:UInt8):bX a (l++[c])=bX a l*10+(c.toNat-48):=by simp[bX,List.foldl_append]
theorem mq:∀(l:List UInt8)(a:Nat),bX a l=a*10^l.length+bX 0 l
 |[],a=>by simp[bX]
 |c::l,a=>by
  have g:bX a (c::l)=bX (a*10+(c.toNat-48)) l:=rfl;have k:bX 0 (c::l)=bX (0*10+(c.toNat-48)) l:=rfl;rw[g,k,mq l (a*10+_),mq l (0*10+_),List.length_cons,Nat.pow_succ];rw[Nat.add_mul,Nat.zero_mul,Zx,Nat.mul_assoc,Nat.mul_comm 10];omega
theorem nO:∀(l:List UInt8),eD l=true->bX 0 l<10^l.length
 |[],_=>by simp[bX]
 |c::l,h=>by
  have k:Gf c=true:=by simp[eD]at h;exact h.1
  have m:eD l=true:=by simp[eD]at h;simp[eD];exact h.2
  have B:=nO l m;have g:bX 0 (c::l)=bX (0*10+(c.toNat-48)) l:=rfl;rw[g,mq];have u:c.toNat-48<=9:=by simp[Gf]at k;omega
  have z:(0*10+(c.toNat-48))*10^l.length<=9*10^l.length:=Nat.mul_le_mul_right _ om;rw[List.length_cons,Nat.pow_succ];omega
theorem Ay(l:List UInt8)(c:UInt8):eD (l++[c])=(eD l&&Gf c):=by simp[eD]
theorem ofNat_toNat(n:Nat)(h:n<10):(UInt8.ofNat (48+n)).toNat=48+n:=by
 rw[UInt8.toNat_ofNat'];omega
theorem Ck(u:Nat)(h:10<=u):decDigits u=decDigits (u/10)++[UInt8.ofNat (48+u%10)]:=by rw[decDigits,dif_neg om]
theorem j6:∀u:Nat,eD (decDigits u)=true/\bX 0 (decDigits u)=u/\∃c r,decDigits u=c::r/\(0<u->c≠48):=by
 intro u
 induction u using Nat.strongRecOn with
 |ind u F=>
  by_cases g:u<10
  .rw[decDigits_one g]
   have e:=ofNat_toNat u g;refine⟨by simp only[eD,Gf,List.all_cons,List.all_nil,Bool.and_true,e,decide_eq_true_eq];omega,by simp only[bX,List.foldl_cons,List.foldl_nil,e];omega,_,[],rfl,λI h=>?_⟩;rw[h]at e;have:(48:UInt8).toNat=48:=rfl;omega
  .obtain⟨k,m,c,r,z,B⟩:=F (u/10) om
   rw[Ck u om];have e:=ofNat_toNat (u%10) om;refine⟨by rw[Ay,k];simp[Gf,e];omega,by rw[vG,m,e];omega,c,r++[_],by rw[z];rfl,λ_=>B om⟩
theorem xQ(c:UInt8)(r:List UInt8)(h:eD (c::r)=true)(k:c≠48):10^r.length<=bX 0 (c::r):=by
 have g:bX 0 (c::r)=bX (0*10+(c.toNat-48)) r:=rfl;rw[g,mq];have m:Gf c=true:=by simp[eD]at h;exact h.1
 have z:c.toNat≠48:=λe=>k (UInt8.toNat_inj.1 (by rw[e];rfl));have:1<=0*10+(c.toNat-48):=by simp[Gf]at m;omega
 have u:=Nat.mul_le_mul_right (10^r.length) this;omega
theorem OE:∀(n:Nat)(l:List UInt8),l.length=n->eD l=true->l≠[]->(l.head?≠some 48\/l=[48])->decDigits (bX 0 l)=l:=by
 intro n
 induction n with
 |zero=>intro l F _ h;cases l<;>simp_all
 |succ n O=>
  intro l F z _ M
  obtain⟨u,c,rfl⟩:∃u c,l=u++[c]:=by
   rcases List.eq_nil_or_concat l with rfl|⟨u,c,rfl⟩
   .simp at F
   .exact⟨u,c,rS⟩
  rw[Ay]at z;simp only[Bool.and_eq_true]at z;obtain⟨k,B⟩:=z;have P:48<=c.toNat/\c.toNat<=57:=by simpa[Gf]using B
  have m:UInt8.ofNat (48+(c.toNat-48))=c:=by
   apply UInt8.toNat_inj.1;rw[ofNat_toNat _ om];omega
  rw[vG];cases u with
  |nil=>
   have:bX 0 []=0:=rfl;rw[this,decDigits_one om];simp only[Nat.zero_mul,Zx,m,List.nil_append]
  |cons a r=>
   have g:a≠48:=by
    rcases M with h|h
    .simpa using h
    .simp at h
   have ge:=xQ a r k g;have Q:1<=10^r.length:=Nat.one_le_pow _ _ om;have I:=O (a::r) (by simp at F⊢;omega) k rS (.inl (by simpa using g));rw[Ck _ om];have J:(bX 0 (a::r)*10+(c.toNat-48))/10=bX 0 (a::r):=om;have L:(bX 0 (a::r)*10+(c.toNat-48))%10=c.toNat-48:=om;rw[J,L,I,m]
theorem yC(u:Nat):decDigits u≠[]:=by
 obtain⟨_,_,c,r,h,_⟩:=j6 u;rw[h];simp
theorem Eh(u:Nat):(decDigits u).head?≠some 48\/decDigits u=[48]:=by
 by_cases g:u=0
 .right;subst g;rw[decDigits_one om];rfl
 .left
  obtain⟨_,_,c,r,h,k⟩:=j6 u;rw[h];simpa using k om
theorem Kn:∀(l:List UInt8)(a:Nat),eD l=true->bX a l<18446744073709551616->parseUint10 a l=.ok (bX a l)
 |[],a,_,_=>rfl
 |c::l,a,h,g=>by
  have k:48<=c.toNat/\c.toNat<=57:=by simp[eD,Gf]at h;exact h.1
  have m:eD l=true:=by simp[eD]at h;simp[eD];exact h.2
  have e:bX a (c::l)=bX (a*10+(c.toNat-48)) l:=rfl;rw[e]at g⊢
  have u:a*10+(c.toNat-48)<=bX (a*10+(c.toNat-48)) l:=by
   rw[mq];have:=Nat.mul_le_mul_left (a*10+(c.toNat-48)) (Nat.one_le_pow l.length 10 om);omega
  unfold parseUint10;rw[if_pos k,if_neg om,if_neg om];exact Kn l _ m g
def oN(t:List UInt8):Option Int:=match atoiAll t with|.ok v=>if itoa v=t then some v else none|_=>none
def Canon(t:List UInt8)(v:Int):Prop:=(∃u:Nat,v=u/\t=decDigits u/\u<9223372036854775808)\/∃u:Nat,1<=u/\u<=9223372036854775808/\v= -(u:Int)/\t=45::decDigits u
theorem Sr(u:Nat):itoa (u:Int)=decDigits u:=by unfold itoa;rw[if_neg om];simp
theorem Sq(u:Nat)(h:1<=u):itoa (-(u:Int))=45::decDigits u:=by unfold itoa;rw[if_pos om];simp
theorem Vn{c:UInt8}(h:Gf c=true):c.toNat≠43/\c.toNat≠45:=by simp[Gf]at h;omega
theorem Kj(u:Nat)(h:u<18446744073709551616):parseMag (decDigits u)=.ok u:=by
 unfold parseMag;obtain⟨k,g,_⟩:=j6 u;rw[if_neg (yC u),Kn _ _ k (by rw[g];exact h),g]
theorem ze(t:List UInt8)(v:Int):oN t=some v↔Canon t v:=by
 constructor
 .intro h
  unfold oN at h;cases g:atoiAll t with
  |range=>rw[g]at h;cases h
  |ok x=>
   rw[g]at h;obtain⟨O,P⟩:=atoiAll_bounds g;simp only at h;split at h
   .rename_i F
    simp only[Option.some.injEq]at h;subst h;by_cases J:x<0
    .right
     refine⟨x.natAbs,om,om,om,?_⟩;rw[<-F];unfold itoa;rw[if_pos J]
    .left
     refine⟨x.toNat,om,?_,om⟩;rw[<-F];unfold itoa;rw[if_neg J]
   .cases h
  |_=>rw[g]at h;cases h
 .rintro(⟨u,rfl,rfl,S⟩|⟨u,L,R,rfl,rfl⟩)
  .obtain⟨z,Q,c,r,k,_⟩:=j6 u
   have M:Gf c=true:=by rw[k]at z;simp[eD]at z;exact z.1
   have I:=Vn M
   have g:atoiAll (decDigits u)=.ok (u:Int):=by
    have m:=Kj u om;rw[k]at m⊢;unfold atoiAll;simp only[I.1,I.2,or_self,if_false,m];rw[if_neg so,if_neg rS]
   unfold oN;rw[g];simp only[Sr,if_true]
  .have g:atoiAll (45::decDigits u)=.ok (-(u:Int)):=by
    have m:=Kj u om;unfold atoiAll;have B:(45:UInt8).toNat=45:=rfl;simp only[B,or_true,if_true,m];rw[if_neg rS,if_neg so]
   unfold oN;rw[g];simp only[Sq u L,if_true]
theorem pW(c:UInt8)(r:List UInt8):bX 0 (c::r)=(c.toNat-48)*10^r.length+bX 0 r:=by
 have g:bX 0 (c::r)=bX (0*10+(c.toNat-48)) r:=rfl;rw[g,mq];simp
theorem jw{c:UInt8}{r:List UInt8}(h:eD (c::r)=true):(48<=c.toNat/\c.toNat<=57)/\eD r=true:=by
 simp only[eD,List.all_cons,Bool.and_eq_true]at h⊢;exact⟨by simpa[Gf]using h.1,h.2⟩
theorem val_inj:∀(a b:List UInt8),eD a=true->eD b=true->a.length=b.length->bX 0 a=bX 0 b->a=b
 |[],[],_,_,_,_=>rfl
 |[],_::_,_,_,h,_=>by simp at h
 |_::_,[],_,_,h,_=>by simp at h
 |c::a,d::b,k,m,g,u=>by
  obtain⟨F,k⟩:=jw k;obtain⟨I,m⟩:=jw m;have g:a.length=b.length:=by simpa using g
  rw[pW,pW,g]at u;have B:=nO a k;have J:=nO b m;rw[g]at B
  have e:c.toNat-48=d.toNat-48:=by
   rcases Nat.lt_trichotomy (c.toNat-48) (d.toNat-48)with h|h|h
   .have:=Nat.mul_le_mul_right (10^b.length) h;rw[Nat.succ_mul]at this;omega
   .exact h
   .have:=Nat.mul_le_mul_right (10^b.length) h;rw[Nat.succ_mul]at this;omega
  rw[e]at u;have z:c=d:=UInt8.toNat_inj.1 om;rw[z,val_inj a b k m g om]
theorem EM:∀(a b:List UInt8),eD a=true->eD b=true->a.length=b.length->(Go.Op.bytesLess a b=true↔bX 0 a<bX 0 b)
 |[],[],_,_,_=>by simp[Go.Op.bytesLess,bX]
 |[],_::_,_,_,h=>by simp at h
 |_::_,[],_,_,h=>by simp at h
 |c::a,d::b,m,u,k=>by
  obtain⟨I,m⟩:=jw m;obtain⟨J,u⟩:=jw u;have k:a.length=b.length:=by simpa using k
  have z:=EM a b m u k;rw[pW,pW,k];have B:=nO a m;have L:=nO b u;rw[k]at B;unfold Go.Op.bytesLess;simp only[Bool.or_eq_true,decide_eq_true_eq,Bool.and_eq_true,beq_iff_eq,z,UInt8.lt_iff_toNat_lt];constructor
  .rintro(h|⟨h,F⟩)
   .have:=Nat.mul_le_mul_right (10^b.length) (show(c.toNat-48)+1<=d.toNat-48 by omega);rw[Nat.succ_mul]at this;omega
   .rw[h];omega
  .intro h
   rcases Nat.lt_trichotomy c.toNat d.toNat with g|g|g
   .exact .inl g
   .right
    rw[g]at h;exact⟨UInt8.toNat_inj.1 g,om⟩
   .exfalso
    have:=Nat.mul_le_mul_right (10^b.length) (show(d.toNat-48)+1<=c.toNat-48 by omega);rw[Nat.succ_mul]at this;omega
def Xz(a b:List UInt8):Bool:=Go.Op.bytesLess a b||a==b
theorem VD{a b:List UInt8}(g:eD a=true)(k:eD b=true)(m:a.length=b.length):Xz a b=decide (bX 0 a<=bX 0 b):=by
 rw[Bool.eq_iff_iff];unfold Xz;simp only[Bool.or_eq_true,beq_iff_eq,decide_eq_true_eq,EM a b g k m];constructor
 .rintro(h|h)
  .omega
  .rw[h];omega
 .intro h
  by_cases e:bX 0 a=bX 0 b
  .exact .inr (val_inj a b g k m e)
  .exact .inl om
def EX(neg:Bool):List UInt8:=[57,50,50,51,51,55,50,48,51,54,56,53,52,55,55,53,56,48]++[if neg then 56 else 55]
theorem PY(neg:Bool):bX 0 (EX neg)=9223372036854775807+(if neg then 1 else 0)/\eD (EX neg)=true/\(EX neg).length=19:=by cases neg<;>decide+kernel
def dK(d:List UInt8)(neg:Bool):Bool:=decide (d.length<19)||(decide (d.length=19)&&Xz d (EX neg))
theorem nR{d:List UInt8}(neg:Bool)(u:eD d=true)(z:d.head?≠some 48\/d=[48])(F:d≠[]):dK d neg=decide (bX 0 d<9223372036854775808+(if neg then 1 else 0)):=by
 obtain⟨I,J,L⟩:=PY neg;have B:=nO d u;rw[Bool.eq_iff_iff];unfold dK;simp only[Bool.or_eq_true,decide_eq_true_eq,Bool.and_eq_true];rcases Nat.lt_trichotomy d.length 19 with h|h|h
 .have:10^d.length<=10^18:=Nat.pow_le_pow_right om om
  exact⟨λ_=>om,λ_=>.inl h⟩
 .rw[VD u J om,I]
  simp only[decide_eq_true_eq];constructor
  .rintro(g|g)<;>omega
  .intro g;right;omega
 .have:∃c r,d=c::r:=by cases d with|nil=>simp at F|cons c r=>exact⟨c,r,rfl⟩
  obtain⟨c,r,rfl⟩:=this
  have m:c≠48:=by
   rcases z with k|k
   .simpa using k
   .rw[k]at h;simp at h
  have ge:=xQ c r u m;have:10^19<=10^r.length:=Nat.pow_le_pow_right om (by simp at h;omega);constructor
  .rintro(g|g)<;>omega
  .intro g;split at g<;>omega
def qo(t:List UInt8):Bool:=
 match t with
 |[]=>false
 |c::r=>
  if 20<r.length+1 then false
  else if c=45 then
   (if r=[]\/r=[48]then false else if r.head?=some 48/\1<r.length then false else if eD r then dK r true else false)
  else if c=48/\1<r.length+1 then false else if eD (c::r)then dK (c::r) false else false
theorem jm(u:Nat)(h:u<=9223372036854775808):(decDigits u).length<=19:=by
 obtain⟨m,z,c,r,k,g⟩:=j6 u;by_cases B:u=0
 .subst B;rw[decDigits_one om];simp
 .rw[k]at m z⊢
  have ge:=xQ c r m (g om);rw[z]at ge;apply Zu;intro F;have:10^19<=10^r.length:=Nat.pow_le_pow_right om (by simp at F;omega);omega
theorem AP(t:List UInt8):qo t=(oN t).isSome:=by
 rw[Bool.eq_iff_iff];constructor
 .intro h
  have U:∃v,Canon t v:=by
   unfold qo at h;cases t with
   |nil=>cases h
   |cons c r=>
    simp only at h;split at h
    .cases h
    .split at h
     .rename_i Z
      subst Z;split at h
      .cases h
      .rename_i I
       split at h
       .cases h
       .rename_i Q
        split at h
        .rename_i M
         have J:r≠[]:=λe=>I (.inl e)
         have O:r.head?≠some 48\/r=[48]:=by
          by_cases e:r.head?=some 48
          .exfalso
           have:¬1<r.length:=λk=>Q ⟨e,k⟩;apply I;right;cases r with
           |nil=>simp at J
           |cons a s=>
            have:s=[]:=by cases s with|nil=>rfl|cons _ _=>simp at this
            subst this;simpa using e
          .exact .inl e
         rw[nR true M O J]at h;simp only[if_true,decide_eq_true_eq]at h;have g:=OE r.length r rfl M J O;refine⟨-(bX 0 r:Int),.inr ⟨bX 0 r,?_,om,rfl,by rw[g]⟩⟩;apply Nat.pos_of_ne_zero;intro e;rw[e,decDigits_one om]at g;exact I (.inr g.symm)
        .cases h
     .rename_i Z
      split at h
      .cases h
      .rename_i Q
       split at h
       .rename_i M
        have O:(c::r).head?≠some 48\/c::r=[48]:=by
         by_cases e:c=48
         .right
          have:¬1<r.length+1:=λk=>Q ⟨e,k⟩;have:r=[]:=by cases r with|nil=>rfl|cons _ _=>simp at this
          rw[e,this]
         .left;simpa using e
        rw[nR false M O rS]at h;simp only[Bool.false_eq_true,if_false,decide_eq_true_eq]at h;have g:=OE (c::r).length (c::r) rfl M rS O;exact⟨(bX 0 (c::r):Nat),.inl ⟨bX 0 (c::r),rfl,g.symm,om⟩⟩
       .cases h
  obtain⟨v,T⟩:=U;rw[(ze t v).2 T];rfl
 .intro h
  obtain⟨v,T⟩:=Option.isSome_iff_exists.1 h;rcases(ze t v).1 T with⟨u,rfl,rfl,hu⟩|⟨u,h1,h2,rfl,rfl⟩
  .obtain⟨F,P,c,r,L,R⟩:=j6 u
   have S:=jm u om;have m:=Eh u;have z:=nR false F m (yC u);rw[P]at z;have z:dK (decDigits u) false=true:=by rw[z];simp;omega
   rw[L]at F S m z⊢
   have hn:c≠45:=by
    intro e;have:=(jw F).1;rw[e]at this;have:(45:UInt8).toNat=45:=rfl;omega
   unfold qo;simp only;rw[if_neg (by simp at S;omega),if_neg hn]
   rw[if_neg (by
    rintro⟨e,k⟩;rcases m with h|h
    .exact h (by rw[e];rfl)
    .rw[List.cons.injEq]at h;rw[h.2]at k;simp at k),if_pos F]
   exact z
  .obtain⟨F,P,c,r,L,R⟩:=j6 u
   have S:=jm u h2;have m:=Eh u;have z:=nR true F m (yC u);rw[P]at z;have z:dK (decDigits u) true=true:=by rw[z];simp;omega
   have B:decDigits u≠[48]:=by
    intro e;rw[e]at P;have:bX 0 [48]=0:=rD;omega
   unfold qo;simp only
   rw[if_neg om,if_pos trivial,if_neg (by rintro(e|e);exact yC u e;exact B e),if_neg (by
    rintro⟨e,_⟩;rcases m with h|h
    .exact h e
    .exact B h),if_pos F]
   exact z
def fB(t:List UInt8):Int:=if t≠[]/\t.length<=9/\eD t=true/\decDigits (bX 0 t)=t then(bX 0 t:Nat)else -1
theorem BB{t:List UInt8}{v:Int}(h:oN t=some v):fB t=v\/(fB t= -1/\(v<0\/16<v)):=by
 rcases(ze t v).1 h with⟨u,rfl,rfl,M⟩|⟨u,J,L,rfl,rfl⟩
 .obtain⟨z,m,c,r,F,B⟩:=j6 u
  unfold fB;by_cases g:(decDigits u).length<=9
  .left;rw[if_pos ⟨yC u,g,z,by rw[m]⟩,m]
  .right
   rw[if_neg (λk=>g k.2.1)];refine⟨rfl,.inr ?_⟩;by_cases I:u=0
   .subst I;rw[decDigits_one om]at g;simp at g
   .rw[F]at z m g
    have ge:=xQ c r z (B om);rw[m]at ge;have:10^9<=10^r.length:=Nat.pow_le_pow_right om (by simp at g;omega);omega
 .right
  unfold fB;rw[if_neg]
  .exact⟨rfl,.inl om⟩
  .rintro⟨_,_,k,_⟩
   have:=(jw k).1;have:(45:UInt8).toNat=45:=rfl;omega
open FR
variable {A R:List (List UInt8)}{l:List UInt8}
def jL:List UInt8:=[104,101,105,103,104,116,32]
def nQ:List UInt8:=[119,105,100,116,104,32]
def xy:List UInt8:=[116,121,112,101,32,111,99,116,105,108,101]
def xx:List UInt8:=[109,97,112]
def numOf(word l:List UInt8):Option Int:=if hasPrefix l word then oN (l.drop word.length)else none
def rf(b:UInt8):Bool:=b==46||b==71||b==83||b==64||b==79||b==84||b==87
def Sn(b:UInt8):Bool:=b==64||b==79||b==84||b==87
inductive PR where
 |bad (k:Nat)
 |ok (w h:Nat) (rows:List (List UInt8))
def qm(L:List (List UInt8)):Option (Int×Int):=
 match L with
 |a::b::c::d::_=>if a=xy/\d=xx then(match numOf jL b,numOf nQ c with|some h,some w=>some (h,w)|_,_=>none)else none
 |_=>none
def jU(w:Nat)(R:List (List UInt8)):Bool:=R.all λr=>r.length==w&&r.all rf
def bK(l:List UInt8):PR:=
 if 1000<l.length then .bad 2
 else match qm (ig l).1 with
  |none=>.bad 3
  |some (h,w)=>
   if 1<=w/\w<=16/\1<=h/\h<=16 then
    (if(ig l).1.length=4+h.toNat/\(ig l).2=[]/\jU w.toNat ((ig l).1.drop 4)=true then .ok w.toNat h.toNat ((ig l).1.drop 4)else .bad 3)
   else .bad 1
def fq(w:Nat)(R:List (List UInt8))(c:Nat):Bool:=Sn ((R.getD (c/w) []).getD (c%w) 0)
def eT(w h:Nat)(R:List (List UInt8))(k:Nat):G:=⟨w,h,λc=>decide (c<k)&&fq w R c⟩
def iN(b:Nat->Bool)(k:Nat):Nat:=((List.range k).filter b).length
theorem lN(b:Nat->Bool)(k:Nat):iN b (k+1)=iN b k+(if b k=true then 1 else 0):=by
 unfold iN;rw[List.range_succ,List.filter_append,Zp];cases h:b k<;>simp[h]
theorem Cj(b:Nat->Bool)(k:Nat):iN b k<=k:=by
 unfold iN;have:=List.length_filter_le b (List.range k);simpa using this
theorem O6{L:List (List UInt8)}(h:L.length<4):qm L=none:=by
 match L,h with
 |[],_=>rfl
 |[_],_=>rfl
 |[_,_],_=>rfl
 |[_,_,_],_=>rfl
 |_::_::_::_::_,h=>simp at h;omega
theorem zh(h:1000<l.length):bK l=.bad 2:=by unfold bK;rw[if_pos h]
theorem rq(h:l.length<=1000)(g:qm (ig l).1=none):bK l=.bad 3:=by
 unfold bK;rw[if_neg om,g]
theorem Bh(h:l.length<=1000)(g:(ig l).1.length<4):bK l=.bad 3:=rq h (O6 g)
theorem zi{a b:Int}(h:l.length<=1000)(g:qm (ig l).1=some (b,a))(k:¬(1<=a/\a<=16/\1<=b/\b<=16)):bK l=.bad 1:=by
 unfold bK;rw[if_neg om,g];simp only;rw[if_neg k]
theorem zg{a b:Nat}(h:l.length<=1000)(k:qm (ig l).1=some ((b:Int),(a:Int)))(m:1<=a/\a<=16/\1<=b/\b<=16)(g:¬((ig l).1.length=4+b/\(ig l).2=[]/\jU a ((ig l).1.drop 4)=true)):bK l=.bad 3:=by
 unfold bK;rw[if_neg om,k];simp only;rw[if_pos om,if_neg (by simpa using g)]
theorem Fp{a b:Nat}(h:l.length<=1000)(k:qm (ig l).1=some ((b:Int),(a:Int)))(m:1<=a/\a<=16/\1<=b/\b<=16)(g:(ig l).1.length=4+b/\(ig l).2=[]/\jU a ((ig l).1.drop 4)=true):bK l=.ok a b ((ig l).1.drop 4):=by
 unfold bK;rw[if_neg om,k];simp only;rw[if_pos om,if_pos (by simpa using g)];simp
theorem xO{w:Nat}{y:Nat}{r:List UInt8}(h:R[y]? =some r)(g:r.length≠w\/∃(x:Nat)(b:UInt8),r[x]? =some b/\rf b=false):¬jU w R=true:=by
 intro k;unfold jU at k;rw[List.all_eq_true]at k;have:=k r (Ze h);simp only[Bool.and_eq_true,beq_iff_eq,List.all_eq_true]at this;rcases g with g|⟨x,b,m,g⟩
 .exact g this.1
 .have:=this.2 b (Ze m)
  rw[g]at this;cases this
theorem Bz{w n:Nat}(J:R.length=n)(h:∀y,y<n->∃r,R[y]? =some r/\r.length=w/\∀x,x<w->rf (r.getD x 0)=true):jU w R=true:=by
 unfold jU;rw[List.all_eq_true];intro r F;obtain⟨y,k⟩:=Zo F;have B:y<R.length:=(Zb.1 k).1;obtain⟨L,e,m,u⟩:=h y om;rw[k]at e;cases e;simp only[Bool.and_eq_true,beq_iff_eq,List.all_eq_true];refine⟨m,λb z=>?_⟩;obtain⟨x,g⟩:=Zo z;have I:x<r.length:=(Zb.1 g).1;have:=u x om;rw[Zk,g]at this;exact this
theorem ER{l A:List (List UInt8)}{g s a b:List UInt8}(m:ig g=(A++(ig s).1,(ig s).2))(u:s=a++10::b)(k:(10:UInt8)∉a):ig g=((A++[a])++(ig b).1,(ig b).2):=by
 rw[m,u,EO k];simp
theorem ES{g s:List UInt8}(m:ig g=(A++(ig s).1,(ig s).2))(k:(10:UInt8)∉s):ig g=(A,s):=by
 rw[m,EP k];simp
def Ou(b:Bool):UInt8:=if b then 64 else 46
def cellsS(g:G):Nat->List UInt8
 |0=>[]
 |k+1=>cellsS g k++[Ou (g.b k)]++(if k%g.w=g.w-1 then[10]else[])
theorem ow(g:G)(k:Nat):cellsS g (k+1)=cellsS g k++[Ou (g.b k)]++(if k%g.w=g.w-1 then[10]else[]):=rfl
def l8(g:G)(y n:Nat):List UInt8:=(List.range n).map λx=>Ou (g.b (y*g.w+x))
theorem pU(g:G)(y n:Nat):l8 g y (n+1)=l8 g y n++[Ou (g.b (y*g.w+n))]:=by simp[l8,List.range_succ]
theorem yl(g:G)(y:Nat)(k:1<=g.w):∀x,x<g.w->cellsS g (y*g.w+x)=cellsS g (y*g.w)++l8 g y x
 |0,_=>by simp[l8]
 |x+1,h=>by
  show cellsS g ((y*g.w+x)+1)=_;rw[ow,yl g y k x om,pU];have:(y*g.w+x)%g.w=x:=by rw[Nat.mul_comm,Nat.mul_add_mod,Nat.mod_eq_of_lt om]
  rw[this,if_neg om];simp
theorem D6(g:G)(y:Nat)(u:1<=g.w):cellsS g ((y+1)*g.w)=cellsS g (y*g.w)++l8 g y g.w++[10]:=by
 have e:(y+1)*g.w=(y*g.w+(g.w-1))+1:=by rw[Nat.succ_mul];omega
 rw[e,ow,yl g y u (g.w-1) om];have:(y*g.w+(g.w-1))%g.w=g.w-1:=by rw[Nat.mul_comm,Nat.mul_add_mod,Nat.mod_eq_of_lt om]
 rw[this,if_pos rfl];have k:g.w=(g.w-1)+1:=om
 have m:l8 g y g.w=l8 g y (g.w-1)++[Ou (g.b (y*g.w+(g.w-1)))]:=by
  conv=>lhs;rw[k]
  exact pU g y _
 rw[m];simp
def zq(g:G):List UInt8:=xy++[10]++jL++decDigits g.h++[10]++nQ++decDigits g.w++[10]++xx++[10]++cellsS g (g.h*g.w)
theorem mJ(g:G):∀k,(cellsS g k).length<=2*k
 |0=>by simp[cellsS]
 |k+1=>by
  have:=mJ g k;unfold cellsS;split<;>simp<;>omega
