/- Lemmas of this claim: RTx6. -/
import Derived.Test.YtnifggkjieemeaaGreatDoorKNNs45
import Derived.Test.YtnifggkjieemeaaGreatDoorRTx2
set_option linter.unusedVariables false
set_option linter.unusedSimpArgs false
set_option maxHeartbeats 2000000
set_option maxRecDepth 100000
open Go.Proofs.Tryz
namespace Go.Proofs.YtnifggkjieemeaaGreatDoor
open Go.Lib (hid)
open Go.RowKit Go.Sort FR
theorem oM{l g:List UInt8}{v:Int}(h:numOf g l=some v):g.length<l.length/\l.take g.length=g:=by
 have m:¬l.length<=g.length:=λk=>by
  have:=AQ k;rw[h]at this;cases this
 refine⟨om,?_⟩;apply Zu;intro k;have:=Fe om k;rw[h]at this;cases this
theorem QV{t:List UInt8}{k:Nat}(u:k<=t.length)(h:∀j,j<k->48<=(t.getD j 0).toNat/\(t.getD j 0).toNat<=57):eD (t.take k)=true:=by
 refine su λj m=>?_;have g:j<k:=by simp at m;omega
 have:=h j g;rw[Zk,List.getElem?_take_of_lt g,<-Zk];exact this
theorem Qx(l J:List UInt8)(v:Int)(hl:l.length<=1000)(hw:J.length<=100)(hv:numOf J l=some v)(w:World):Calls prog 73 #[.string (bs l),.string (bs J)] w (Rt w (rI (fB (l.drop J.length)))):=by
 obtain⟨hA,aa⟩:=oM hv;clear hv;have Q:=Below.refl w.heap.size w;have q:(J.length:Int)<l.length:=om;have ac:=QE om aa;obtain⟨t,Z⟩:=rX (l.drop J.length);have I:t.length=l.length-J.length:=by rw[<-Z,List.length_drop]
 rw[Z];clear aa;obtain⟨o,O⟩:=rX (fB t);rw[O];by_cases h9:9<t.length
 .obtain rfl:-1=o:=by rw[<-O];unfold fB;rw[if_neg (λk=>by have:=k.2.1;omega)]
  have q9:(9:Int)<l.length-J.length:=om;clear O hA Z I h9;go_enter func73,ntmps73;go_wp2_with fail;go_ret;exact⟨rfl,Q⟩
 have q9:¬((9:Int)<l.length-J.length):=om;have ab:=tN om Z;have U:t.length<=9:=om;have P:t≠[]:=λe=>by rw[e]at I;simp at I;omega
 replace P:=hid P;replace O:=hid O;clear Z I h9 hA;go_enter func73,ntmps73;go_wp2_with fail;go_loopw [6,7] (λm i wr=>∃k:Nat,k<=t.length/\i=rI (k:Nat)/\m=rI (bX 0 (t.take k):Nat)/\(∀j,j<k->48<=(t.getD j 0).toNat/\(t.getD j 0).toNat<=57)/\Below w.heap.size w wr) (λ_ i _=>t.length-(intOf i).toNat)
 case atStart=>exact⟨0,om,rfl,rfl,λj hj=>om,Q⟩
 case round=>
  clear Q ab ac;obtain⟨k,hk,rfl,rfl,u,HB⟩:=hrel;have hV:=nO (t.take k) (QV hk u)
  have L:bX 0 (t.take k)<1000000000:=by
   have h1:(t.take k).length<=9:=so;have h2:10^(t.take k).length<=10^9:=Nat.pow_le_pow_right om h1;omega
  clear hV;replace u:=hid u;by_cases F:k<t.length
  .have q':(k:Int)<t.length:=om
   obtain⟨n,S⟩:∃n:Nat,(t.getD k 0).toNat=n:=⟨_,rfl⟩;have ad:=kN F S
   have z:bX 0 (t.take (k+1))=bX 0 (t.take k)*10+(n-48):=by
    have e:t.take (k+1)=t.take k++[t.getD k 0]:=by
     rw[List.take_add_one,Zc F,Zk,Zc F];rfl
    rw[e,vG,S]
   replace S:=hid S;by_cases R:48<=n/\n<=57
   .obtain⟨d1,d2⟩:=R
    have p1:¬((n:Int)<48):=om;have p2:¬((57:Int)<n):=om;have z:((bX 0 (t.take (k+1)):Nat):Int)=10*((bX 0 (t.take k):Nat):Int)+((n:Int)-48):=om;replace z:=hid z;obtain⟨V,g⟩:=rX (bX 0 (t.take k));rw[g]at z L⊢;clear g;go_wp2_with fail;go_roundw
    case rel=>
     refine⟨k+1,om,by go_num,by rw[z.out],λj hj=>?_,HB⟩;rcases Nat.lt_succ_iff_lt_or_eq.1 hj with h'|rfl
     .exact u.out j h'
     .rw[S.out];exact⟨d1,d2⟩
    case measure=>exact rM
   .obtain rfl: -1=o:=by
     rw[<-O.out];unfold fB;rw[if_neg];rintro⟨_,_,k3,_⟩;rw[yD F S.out R]at k3;cases k3
    have R:(n:Int)<48\/(¬((n:Int)<48)/\(57:Int)<n):=om;clear z;rcases R with R|⟨R,ag⟩<;>
    .go_wp2_with fail
     go_ret;exact⟨rfl,HB⟩
  .obtain rfl:k=t.length:=om
   rw[List.take_length]at L⊢;have T:eD t=true:=su λj hj=>u.out j hj;obtain⟨V,g⟩:=rX (bX 0 t);rw[g]at L⊢
   have B:(if Lib.decDigits V=t then(V:Int)else -1)=o:=by
    rw[<-O.out];unfold fB;rw[g];by_cases e:Lib.decDigits V=t
    .rw[if_pos e,if_pos ⟨P.out,U,T,e⟩]
    .rw[if_neg e,if_neg (λk=>e k.2.2.2)]
   clear g T u;have c1:=hid (zu V om wr);obtain⟨D,hD⟩:=rX (Lib.decDigits V);rw[hD]at B c1;clear hD;by_cases e:D=t
   .have e0:(D==t)=true:=beq_iff_eq.2 e
    rw[if_pos e]at B;subst B;clear e;go_wp2_with fail;refine c1.out.mono ?_;rintro e w1 ⟨rfl,M⟩;go_wp2_with fail;go_ret;exact⟨rfl,ae HB M⟩
   .have e0:(D==t)=false:=Zq.2 e
    rw[if_neg e]at B;subst B;clear e;go_wp2_with fail;refine c1.out.mono ?_;rintro e w1 ⟨rfl,M⟩;go_wp2_with fail;go_ret;exact⟨rfl,ae HB M⟩
