/- Lemmas of this claim: MathTxt, MathTxt2, MathMap. -/
import Derived.Lib.AtoiAllCases
import Derived.Lib.ItoaNum
import Derived.Lib.IndexMore
import Derived.Test.YtokhnobcincfjaaGreatDoorKNEd2
set_option linter.unusedVariables false
set_option linter.unusedSimpArgs false
namespace Go.Proofs.YtokhnobcincfjaaGreatDoor
open Go.Lib
theorem Qe:∀l:List UInt8,(index l [10]= -1/\(10:UInt8)∉l)\/∃a b,l=a++10::b/\(10:UInt8)∉a/\index l [10]=(a.length:Nat)
 |[]=>.inl ⟨rfl,by simp⟩
 |c::l=>by
  by_cases g:c=10
  .subst g
   exact .inr ⟨[],l,rfl,by simp,by simp[index,List.isPrefixOf]⟩
  .have u:([10]:List UInt8).isPrefixOf (c::l)=false:=by
    have:¬10=c:=λh=>g h.symm;simp[List.isPrefixOf,this]
   rcases Qe l with⟨z,k⟩|⟨a,b,e,k,B⟩
   .left
    refine⟨by unfold index;rw[u,z];rfl,?_⟩;rw[List.mem_cons];rintro(h|h)
    .exact g h.symm
    .exact k h
   .right
    subst e;refine⟨c::a,b,rfl,?_,?_⟩
    .rw[List.mem_cons]
     rintro(h|h)
     .exact g h.symm
     .exact k h
    .unfold index
     rw[u,B];have:((a.length:Int)== -1)=false:=by rw[beq_eq_false_iff_ne];omega
     simp[this]
theorem KC(l:List UInt8):(cut l [10]=(l,[],false)/\(10:UInt8)∉l)\/∃a b,cut l [10]=(a,b,true)/\l=a++10::b/\(10:UInt8)∉a:=by
 rcases Qe l with⟨k,g⟩|⟨a,b,e,g,u⟩
 .left
  refine⟨?_,g⟩;unfold cut;rw[k,if_neg (by omega)]
 .right
  refine⟨a,b,?_,e,g⟩;unfold cut;rw[u,if_pos (by omega),e];simp
def xw(st:List (List UInt8)×List UInt8)(b:UInt8):List (List UInt8)×List UInt8:=if b=10 then(st.1++[st.2],[])else(st.1,st.2++[b])
def kF(st:List (List UInt8)×List UInt8)(l:List UInt8):List (List UInt8)×List UInt8:=l.foldl xw st
def gJ(l:List UInt8):List (List UInt8)×List UInt8:=kF ([],[]) l
theorem vz(X:List (List UInt8)):∀(l:List UInt8)(Y:List (List UInt8))(r:List UInt8),kF (X++Y,r) l=(X++(kF (Y,r) l).1,(kF (Y,r) l).2)
 |[],_,_=>rfl
 |b::l,Y,r=>by
  show kF (xw (X++Y,r) b) l=(X++(kF (xw (Y,r) b) l).1,(kF (xw (Y,r) b) l).2);unfold xw;by_cases g:b=10
  .rw[if_pos g,if_pos g]
   show kF ((X++Y)++[r],[]) l=_;rw[List.append_assoc];exact vz X l _ _
  .rw[if_neg g,if_neg g]
   exact vz X l _ _
theorem rU:∀(l:List UInt8)(Y:List (List UInt8))(r:List UInt8),(10:UInt8)∉l->kF (Y,r) l=(Y,r++l)
 |[],_,_,_=>by simp[kF]
 |b::l,Y,r,h=>by
  have g:b≠10:=λe=>h (by simp[e]);show kF (xw (Y,r) b) l=_;unfold xw;rw[if_neg g,rU l Y (r++[b]) (λe=>h (List.mem_cons_of_mem _ e))];simp
theorem IV(g:List (List UInt8)×List UInt8)(a b:List UInt8):kF g (a++b)=kF (kF g a) b:=List.foldl_append ..
theorem BL{l:List UInt8}(h:(10:UInt8)∉l):gJ l=([],l):=rU l [] [] h
theorem je{a b:List UInt8}(h:(10:UInt8)∉a):gJ (a++10::b)=(a::(gJ b).1,(gJ b).2):=by
 show kF ([],[]) (a++10::b)=_;rw[IV,rU a [] [] h];show kF (([]++[[]++a]:List (List UInt8)),[]) b=_;have:=vz [a] b [] [];simpa[gJ]using this
def Nq(c:UInt8):Bool:=decide (48<=c.toNat/\c.toNat<=57)
def qd(l:List UInt8):Bool:=l.all Nq
def kJ(a:Nat)(l:List UInt8):Nat:=l.foldl (λa c=>a*10+(c.toNat-48)) a
theorem JE(a:Nat)(l:List UInt8)(c:UInt8):kJ a (l++[c])=kJ a l*10+(c.toNat-48):=by simp[kJ,List.foldl_append]
theorem qW:∀(l:List UInt8)(a:Nat),kJ a l=a*10^l.length+kJ 0 l
 |[],a=>by simp[kJ]
 |c::l,a=>by
  have g:kJ a (c::l)=kJ (a*10+(c.toNat-48)) l:=rfl;have k:kJ 0 (c::l)=kJ (0*10+(c.toNat-48)) l:=rfl;rw[g,k,qW l (a*10+_),qW l (0*10+_),List.length_cons,Nat.pow_succ];rw[Nat.add_mul,Nat.zero_mul,Nat.zero_add,Nat.mul_assoc,Nat.mul_comm 10];omega
theorem Ic(l:List UInt8)(c:UInt8):qd (l++[c])=(qd l&&Nq c):=by simp[qd]
theorem ofNat_toNat(n:Nat)(h:n<10):(UInt8.ofNat (48+n)).toNat=48+n:=by
 rw[UInt8.toNat_ofNat'];omega
theorem Fy(u:Nat)(h:10<=u):decDigits u=decDigits (u/10)++[UInt8.ofNat (48+u%10)]:=by rw[decDigits,dif_neg (by omega)]
theorem qc:∀u:Nat,qd (decDigits u)=true/\kJ 0 (decDigits u)=u/\∃c r,decDigits u=c::r/\(0<u->c≠48):=by
 intro u
 induction u using Nat.strongRecOn with
 |ind u I=>
  by_cases g:u<10
  .rw[decDigits_one g]
   have e:=ofNat_toNat u g;refine⟨by simp only[qd,Nq,List.all_cons,List.all_nil,Bool.and_true,e,decide_eq_true_eq];omega,by simp only[kJ,List.foldl_cons,List.foldl_nil,e];omega,_,[],rfl,λJ h=>?_⟩;rw[h]at e;have:(48:UInt8).toNat=48:=rfl;omega
  .obtain⟨k,z,c,r,B,F⟩:=I (u/10) (by omega)
   rw[Fy u (by omega)];have e:=ofNat_toNat (u%10) (by omega);refine⟨by rw[Ic,k];simp[Nq,e];omega,by rw[JE,z,e];omega,c,r++[_],by rw[B];rfl,λ_=>F (by omega)⟩
theorem PO(c:UInt8)(r:List UInt8)(h:qd (c::r)=true)(k:c≠48):10^r.length<=kJ 0 (c::r):=by
 have g:kJ 0 (c::r)=kJ (0*10+(c.toNat-48)) r:=rfl;rw[g,qW];have u:Nq c=true:=by simp[qd]at h;exact h.1
 have B:c.toNat≠48:=λe=>k (UInt8.toNat_inj.1 (by rw[e];rfl));have:1<=0*10+(c.toNat-48):=by simp[Nq]at u;omega
 have z:=Nat.mul_le_mul_right (10^r.length) this;omega
theorem Q3(u:Nat):decDigits u≠[]:=by
 obtain⟨_,_,c,r,h,_⟩:=qc u;rw[h];simp
theorem Gr:∀(l:List UInt8)(a:Nat),qd l=true->kJ a l<18446744073709551616->parseUint10 a l=.ok (kJ a l)
 |[],a,_,_=>rfl
 |c::l,a,h,g=>by
  have k:48<=c.toNat/\c.toNat<=57:=by simp[qd,Nq]at h;exact h.1
  have u:qd l=true:=by simp[qd]at h;simp[qd];exact h.2
  have e:kJ a (c::l)=kJ (a*10+(c.toNat-48)) l:=rfl;rw[e]at g⊢
  have z:a*10+(c.toNat-48)<=kJ (a*10+(c.toNat-48)) l:=by
   rw[qW];have:=Nat.mul_le_mul_left (a*10+(c.toNat-48)) (Nat.one_le_pow l.length 10 (by omega));omega
  unfold parseUint10;rw[if_pos k,if_neg (by omega),if_neg (by omega)];exact Gr l _ u g
def vF(t:List UInt8):Option Int:=match atoiAll t with|.ok v=>if itoa v=t then some v else none|_=>none
def Canon(t:List UInt8)(v:Int):Prop:=(∃u:Nat,v=u/\t=decDigits u/\u<9223372036854775808)\/∃u:Nat,1<=u/\u<=9223372036854775808/\v= -(u:Int)/\t=45::decDigits u
theorem OE(u:Nat):itoa (u:Int)=decDigits u:=by unfold itoa;rw[if_neg (by omega)];simp
theorem OD(u:Nat)(h:1<=u):itoa (-(u:Int))=45::decDigits u:=by unfold itoa;rw[if_pos (by omega)];simp
theorem Q4{c:UInt8}(h:Nq c=true):c.toNat≠43/\c.toNat≠45:=by simp[Nq]at h;omega
theorem Gp(u:Nat)(h:u<18446744073709551616):parseMag (decDigits u)=.ok u:=by
 unfold parseMag;obtain⟨k,g,_⟩:=qc u;rw[if_neg (Q3 u),Gr _ _ k (by rw[g];exact h),g]
theorem Me(t:List UInt8)(v:Int):vF t=some v↔Canon t v:=by
 constructor
 .intro h
  unfold vF at h;cases g:atoiAll t with
  |range=>rw[g]at h;cases h
  |ok x=>
   rw[g]at h;obtain⟨P,Q⟩:=atoiAll_bounds g;simp only at h;split at h
   .rename_i I
    simp only[Option.some.injEq]at h;subst h;by_cases L:x<0
    .right
     refine⟨x.natAbs,by omega,by omega,by omega,?_⟩;rw[<-I];unfold itoa;rw[if_pos L]
    .left
     refine⟨x.toNat,by omega,?_,by omega⟩;rw[<-I];unfold itoa;rw[if_neg L]
   .cases h
  |_=>rw[g]at h;cases h
 .rintro(⟨u,rfl,rfl,T⟩|⟨u,M,S,rfl,rfl⟩)
  .obtain⟨B,R,c,r,k,_⟩:=qc u
   have O:Nq c=true:=by rw[k]at B;simp[qd]at B;exact B.1
   have J:=Q4 O
   have g:atoiAll (decDigits u)=.ok (u:Int):=by
    have z:=Gp u (by omega);rw[k]at z⊢;unfold atoiAll;simp only[J.1,J.2,or_self,if_false,z];rw[if_neg (by simp;omega),if_neg (by simp)]
   unfold vF;rw[g];simp only[OE,if_true]
  .have g:atoiAll (45::decDigits u)=.ok (-(u:Int)):=by
    have z:=Gp u (by omega);unfold atoiAll;have F:(45:UInt8).toNat=45:=rfl;simp only[F,or_true,if_true,z];rw[if_neg (by simp),if_neg (by simp;omega)]
   unfold vF;rw[g];simp only[OD u M,if_true]
theorem iP(u:Nat)(h:u<=9223372036854775808):(decDigits u).length<=19:=by
 obtain⟨z,B,c,r,k,g⟩:=qc u;by_cases F:u=0
 .subst F;rw[decDigits_one (by omega)];simp
 .rw[k]at z B⊢
  have ge:=PO c r z (g (by omega));rw[B]at ge;apply Classical.byContradiction;intro I;have:10^19<=10^r.length:=Nat.pow_le_pow_right (by omega) (by simp at I;omega);omega
open FR
variable {A R:List (List UInt8)}{l:List UInt8}
def mq:List UInt8:=[104,101,105,103,104,116,32]
def nY:List UInt8:=[119,105,100,116,104,32]
def qI:List UInt8:=[116,121,112,101,32,111,99,116,105,108,101]
def qE:List UInt8:=[109,97,112]
def numOf(word l:List UInt8):Option Int:=if hasPrefix l word then vF (l.drop word.length)else none
def tQ(b:UInt8):Bool:=b==46||b==71||b==83||b==64||b==79||b==84||b==87
def Ll(b:UInt8):Bool:=b==64||b==79||b==84||b==87
inductive PR where
 |bad (k:Nat)
 |ok (w h:Nat) (rows:List (List UInt8))
def mh(L:List (List UInt8)):Option (Int×Int):=
 match L with
 |a::b::c::d::_=>if a=qI/\d=qE then(match numOf mq b,numOf nY c with|some h,some w=>some (h,w)|_,_=>none)else none
 |_=>none
def lI(w:Nat)(R:List (List UInt8)):Bool:=R.all λr=>r.length==w&&r.all tQ
def bZ(l:List UInt8):PR:=
 if 1000<l.length then .bad 2
 else match mh (gJ l).1 with
  |none=>.bad 3
  |some (h,w)=>
   if 1<=w/\w<=16/\1<=h/\h<=16 then
    (if(gJ l).1.length=4+h.toNat/\(gJ l).2=[]/\lI w.toNat ((gJ l).1.drop 4)=true then .ok w.toNat h.toNat ((gJ l).1.drop 4)else .bad 3)
   else .bad 1
def gI(w:Nat)(R:List (List UInt8))(c:Nat):Bool:=Ll ((R.getD (c/w) []).getD (c%w) 0)
def eU(w h:Nat)(R:List (List UInt8))(k:Nat):G:=⟨w,h,λc=>decide (c<k)&&gI w R c⟩
def gB(b:Nat->Bool)(k:Nat):Nat:=((List.range k).filter b).length
theorem j6(b:Nat->Bool)(k:Nat):gB b (k+1)=gB b k+(if b k=true then 1 else 0):=by
 unfold gB;rw[List.range_succ,List.filter_append,List.length_append];cases h:b k<;>simp[h]
theorem NZ(b:Nat->Bool)(k:Nat):gB b k<=k:=by
 unfold gB;have:=List.length_filter_le b (List.range k);simpa using this
theorem K5{L:List (List UInt8)}(h:L.length<4):mh L=none:=by
 match L,h with
 |[],_=>rfl
 |[_],_=>rfl
 |[_,_],_=>rfl
 |[_,_,_],_=>rfl
 |_::_::_::_::_,h=>simp at h;omega
theorem Ey(h:1000<l.length):bZ l=.bad 2:=by unfold bZ;rw[if_pos h]
theorem vG(h:l.length<=1000)(g:mh (gJ l).1=none):bZ l=.bad 3:=by
 unfold bZ;rw[if_neg (by omega),g]
theorem Jg(h:l.length<=1000)(g:(gJ l).1.length<4):bZ l=.bad 3:=vG h (K5 g)
theorem Ez{a b:Int}(h:l.length<=1000)(g:mh (gJ l).1=some (b,a))(k:¬(1<=a/\a<=16/\1<=b/\b<=16)):bZ l=.bad 1:=by
 unfold bZ;rw[if_neg (by omega),g];simp only;rw[if_neg k]
theorem Ex{a b:Nat}(h:l.length<=1000)(k:mh (gJ l).1=some ((b:Int),(a:Int)))(u:1<=a/\a<=16/\1<=b/\b<=16)(g:¬((gJ l).1.length=4+b/\(gJ l).2=[]/\lI a ((gJ l).1.drop 4)=true)):bZ l=.bad 3:=by
 unfold bZ;rw[if_neg (by omega),k];simp only;rw[if_pos (by omega),if_neg (by simpa using g)]
theorem Ci{a b:Nat}(h:l.length<=1000)(k:mh (gJ l).1=some ((b:Int),(a:Int)))(u:1<=a/\a<=16/\1<=b/\b<=16)(g:(gJ l).1.length=4+b/\(gJ l).2=[]/\lI a ((gJ l).1.drop 4)=true):bZ l=.ok a b ((gJ l).1.drop 4):=by
 unfold bZ;rw[if_neg (by omega),k];simp only;rw[if_pos (by omega),if_pos (by simpa using g)];simp
theorem GA{w:Nat}{y:Nat}{r:List UInt8}(h:R[y]? =some r)(g:r.length≠w\/∃(x:Nat)(b:UInt8),r[x]? =some b/\tQ b=false):¬lI w R=true:=by
 intro k;unfold lI at k;rw[List.all_eq_true]at k;have:=k r (List.mem_of_getElem? h);simp only[Bool.and_eq_true,beq_iff_eq,List.all_eq_true]at this;rcases g with g|⟨x,b,u,g⟩
 .exact g this.1
 .have:=this.2 b (List.mem_of_getElem? u)
  rw[g]at this;cases this
theorem yB{w n:Nat}(L:R.length=n)(h:∀y,y<n->∃r,R[y]? =some r/\r.length=w/\∀x,x<w->tQ (r.getD x 0)=true):lI w R=true:=by
 unfold lI;rw[List.all_eq_true];intro r I;obtain⟨y,k⟩:=List.getElem?_of_mem I;have F:y<R.length:=(List.getElem?_eq_some_iff.1 k).1;obtain⟨M,e,u,z⟩:=h y (by omega);rw[k]at e;cases e;simp only[Bool.and_eq_true,beq_iff_eq,List.all_eq_true];refine⟨u,λb B=>?_⟩;obtain⟨x,g⟩:=List.getElem?_of_mem B;have J:x<r.length:=(List.getElem?_eq_some_iff.1 g).1;have:=z x (by omega);rw[List.getD_eq_getElem?_getD,g]at this;exact this
theorem BN{l A:List (List UInt8)}{g s a b:List UInt8}(u:gJ g=(A++(gJ s).1,(gJ s).2))(z:s=a++10::b)(k:(10:UInt8)∉a):gJ g=((A++[a])++(gJ b).1,(gJ b).2):=by
 rw[u,z,je k];simp
theorem BO{g s:List UInt8}(u:gJ g=(A++(gJ s).1,(gJ s).2))(k:(10:UInt8)∉s):gJ g=(A,s):=by
 rw[u,BL k];simp
def Dm(b:Bool):UInt8:=if b then 64 else 46
def cellsS(g:G):Nat->List UInt8
 |0=>[]
 |k+1=>cellsS g k++[Dm (g.b k)]++(if k%g.w=g.w-1 then[10]else[])
theorem ic(g:G)(k:Nat):cellsS g (k+1)=cellsS g k++[Dm (g.b k)]++(if k%g.w=g.w-1 then[10]else[]):=rfl
def eG(g:G)(y n:Nat):List UInt8:=(List.range n).map λx=>Dm (g.b (y*g.w+x))
theorem nJ(g:G)(y n:Nat):eG g y (n+1)=eG g y n++[Dm (g.b (y*g.w+n))]:=by simp[eG,List.range_succ]
theorem uK(g:G)(y:Nat)(k:1<=g.w):∀x,x<g.w->cellsS g (y*g.w+x)=cellsS g (y*g.w)++eG g y x
 |0,_=>by simp[eG]
 |x+1,h=>by
  show cellsS g ((y*g.w+x)+1)=_;rw[ic,uK g y k x (by omega),nJ];have:(y*g.w+x)%g.w=x:=by rw[Nat.mul_comm,Nat.mul_add_mod,Nat.mod_eq_of_lt (by omega)]
  rw[this,if_neg (by omega)];simp
theorem sM(g:G)(y:Nat)(z:1<=g.w):cellsS g ((y+1)*g.w)=cellsS g (y*g.w)++eG g y g.w++[10]:=by
 have e:(y+1)*g.w=(y*g.w+(g.w-1))+1:=by rw[Nat.succ_mul];omega
 rw[e,ic,uK g y z (g.w-1) (by omega)];have:(y*g.w+(g.w-1))%g.w=g.w-1:=by rw[Nat.mul_comm,Nat.mul_add_mod,Nat.mod_eq_of_lt (by omega)]
 rw[this,if_pos rfl];have k:g.w=(g.w-1)+1:=by omega
 have u:eG g y g.w=eG g y (g.w-1)++[Dm (g.b (y*g.w+(g.w-1)))]:=by
  conv=>lhs;rw[k]
  exact nJ g y _
 rw[u];simp
theorem uJ(g:G)(k:1<=g.w):∀y,cellsS g (y*g.w)=(List.range y).flatMap λj=>eG g j g.w++[10]
 |0=>by simp[cellsS]
 |y+1=>by rw[sM g y k,uJ g k y,List.range_succ,List.flatMap_append];simp
def di(g:G):List UInt8:=qI++[10]++mq++decDigits g.h++[10]++nY++decDigits g.w++[10]++qE++[10]++cellsS g (g.h*g.w)
theorem Jq(g:G)(y n:Nat):(10:UInt8)∉eG g y n:=by
 unfold eG;rw[List.mem_map];rintro⟨x,_,k⟩;unfold Dm at k;split at k<;>simp at k
theorem BM(g:G):∀k:List Nat,gJ (k.flatMap λj=>eG g j g.w++[10])=(k.map λj=>eG g j g.w,[])
 |[]=>rfl
 |y::k=>by
  rw[List.flatMap_cons];have:(eG g y g.w++[10])++(k.flatMap λj=>eG g j g.w++[10])=eG g y g.w++10::(k.flatMap λj=>eG g j g.w++[10]):=by simp
  rw[this,je (Jq g y g.w),BM g k];rfl
theorem KF(u:Nat):(10:UInt8)∉decDigits u:=by
 intro h;have g:=(qc u).1;unfold qd at g;rw[List.all_eq_true]at g;have:=g 10 h
 revert this
 decide
theorem IW(g:G)(B:1<=g.w):gJ (di g)=(qI::(mq++decDigits g.h)::(nY++decDigits g.w)::qE::(List.range g.h).map λj=>eG g j g.w,[]):=by
 have e:di g=qI++10::((mq++decDigits g.h)++10::((nY++decDigits g.w)++10::(qE++10::cellsS g (g.h*g.w)))):=by simp[di]
 have z:∀{W:List UInt8}(u:Nat),(10:UInt8)∉W->(10:UInt8)∉W++decDigits u:=λu h=>by
  rw[List.mem_append];rintro(k|k)
  .exact h k
  .exact KF u k
 rw[e,je (by decide),je (z _ (by decide)),je (z _ (by decide)),je (by decide),uJ g B,BM]
theorem Md(u:Nat)(h:u<9223372036854775808):vF (decDigits u)=some (u:Int):=(Me _ _).2 (.inl ⟨u,rfl,rfl,h⟩)
theorem yh(W:List UInt8)(u:Nat)(h:u<9223372036854775808):numOf W (W++decDigits u)=some (u:Int):=by
 unfold numOf;have:hasPrefix (W++decDigits u) W=true:=by unfold hasPrefix;rw[List.isPrefixOf_iff_prefix];exact List.prefix_append ..
 rw[if_pos this,List.drop_left,Md u h]
theorem iW(g:G):∀k,(cellsS g k).length<=2*k
 |0=>by simp[cellsS]
 |k+1=>by
  have:=iW g k;unfold cellsS;split<;>simp<;>omega
theorem Cs(g:G)(y x:Nat)(k:x<g.w):(eG g y g.w).getD x 0=Dm (g.b (y*g.w+x)):=by
 unfold eG;rw[List.getD_eq_getElem?_getD,List.getElem?_map,List.getElem?_range k];rfl
theorem OC(b:Bool):Ll (Dm b)=b:=by cases b<;>rfl
theorem O8(b:Bool):tQ (Dm b)=true:=by cases b<;>rfl
theorem mG(g:G)(u:1<=g.w/\g.w<=16/\1<=g.h/\g.h<=16):∃R,bZ (di g)=.ok g.w g.h R/\R.length=g.h/\∀c,c<g.w*g.h->gI g.w R c=g.b c:=by
 have k:=IW g u.1;have S:g.h*g.w<=256:=Nat.mul_le_mul u.2.2.2 u.2.1
 have len:(di g).length<=1000:=by
  have O:=iW g (g.h*g.w);have P:=iP g.h (by omega);have Q:=iP g.w (by omega);simp only[di,List.length_append,qI,mq,nY,qE,List.length_cons,List.length_nil];omega
 have F:mh (gJ (di g)).1=some ((g.h:Int),(g.w:Int)):=by
  rw[k];unfold mh;simp only[true_and,if_true,yh mq g.h (by omega),yh nY g.w (by omega),and_self]
 have z:(gJ (di g)).1.drop 4=(List.range g.h).map λj=>eG g j g.w:=by rw[k];rfl
 refine⟨_,Ci len F u ⟨by rw[k];simp;omega,by rw[k],?_⟩,by rw[z];simp,?_⟩
 .rw[z]
  refine yB (n:=g.h) (by simp) λy M=>⟨eG g y g.w,by simp[List.getElem?_range M],by simp[eG],λx L=>?_⟩
  rw[Cs g y x L,O8]
 .intro c B
  rw[z];unfold gI;have J:c/g.w<g.h:=(Nat.div_lt_iff_lt_mul (by omega)).2 (by rw[Nat.mul_comm];exact B)
  have e:((List.range g.h).map λj=>eG g j g.w).getD (c/g.w) []=eG g (c/g.w) g.w:=by
   rw[List.getD_eq_getElem?_getD,List.getElem?_map,List.getElem?_range J];rfl
  have I:c%g.w<g.w:=Nat.mod_lt _ (by omega);rw[e,Cs g _ _ I,OC];congr 1;have:=Nat.div_add_mod c g.w;rw[Nat.mul_comm]at this;omega
