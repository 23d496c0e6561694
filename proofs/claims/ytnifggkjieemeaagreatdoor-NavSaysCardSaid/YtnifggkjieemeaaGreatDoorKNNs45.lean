/- Lemmas of this claim: RTx4, RTx5. -/
import Derived.Test.YtnifggkjieemeaaGreatDoorKNNs30
import Derived.Laws.Cover1
set_option linter.unusedVariables false
set_option linter.unusedSimpArgs false
set_option maxHeartbeats 2000000
set_option maxRecDepth 100000
open Go.Proofs.Tryz
namespace Go.Proofs.YtnifggkjieemeaaGreatDoor
open Go.Lib (hid)
open Go.RowKit Go.Sort FR
variable {d l r wd:List UInt8}{n:Nat}
theorem Kv(d:List UInt8)(neg:Bool)(m:d.length<=1000)(w:World):Calls prog 125 #[.string (bs d),.bool neg] w λe k=>e=.returned (.bool (dK d neg))/\w=k:=by
 rcases Nat.lt_trichotomy d.length 19 with h|h|h
 .have g:dK d neg=true:=by unfold dK;simp[h]
  have q:(d.length:Int)<19:=om;rw[g];clear h g;cases neg<;>
  .go_enter func125,ntmps125
   go_wp2_with fail;go_ret;exact⟨rfl,rfl⟩
 .have g:dK d neg=Xz d (EX neg):=by unfold dK;simp[h]
  have q:(d.length:Int)=19:=om;replace g:=hid g;clear h;cases neg<;>
  .go_enter func125,ntmps125
   go_wp2_with fail;go_ret;rw[g.out];exact⟨rfl,rfl⟩
 .have g:dK d neg=false:=by unfold dK;simp;omega
  have q:¬((d.length:Int)<19):=om;have u:(d.length:Int)≠19:=om;rw[g];clear h g;cases neg<;>
  .go_enter func125,ntmps125
   go_wp2_with fail;go_ret;exact⟨rfl,rfl⟩
theorem yD{k n:Nat}(m:k<d.length)(u:(d.getD k 0).toNat=n)(h:¬(48<=n/\n<=57)):eD d=false:=by
 rw[Bool.eq_false_iff];intro g;unfold eD at g;rw[List.all_eq_true]at g;have:=g (d.getD k 0) (by rw[Zk,Zc m];exact List.getElem_mem m);unfold Gf at this;rw[u]at this;exact h (by simpa using this)
theorem su(h:∀k,k<d.length->48<=(d.getD k 0).toNat/\(d.getD k 0).toNat<=57):eD d=true:=by
 unfold eD;rw[List.all_eq_true];intro c u;obtain⟨k,m⟩:=Zo u;have g:=(Zb.1 m).1;have:=h k g;rw[Zk,m]at this;simpa[Gf]using this
theorem AQ(h:l.length<=wd.length):(numOf wd l).isSome=false:=by
 unfold numOf;split
 .rw[List.drop_eq_nil_of_le h,<-AP];rfl
 .rfl
theorem Fe(g:wd.length<=l.length)(h:l.take wd.length≠wd):numOf wd l=none:=by
 unfold numOf;rw[if_neg];rw[<-Lib.hasPrefix_of_take];simp[h]
theorem uT(g:wd.length<=l.length)(h:l.take wd.length=wd):numOf wd l=oN (l.drop wd.length):=by
 unfold numOf;rw[if_pos];rw[<-Lib.hasPrefix_of_take];simp[h,g]
theorem H9{t:List UInt8}(h:20<t.length):qo t=false:=by
 unfold qo;cases t with
 |nil=>simp at h
 |cons c r=>simp only;rw[if_pos (by simpa using h)]
theorem LG(h:r.length+1<=20):qo (45::r)=(if r=[]\/r=[48]then false else if r.head?=some 48/\1<r.length then false else if eD r then dK r true else false):=by
 unfold qo;simp only;rw[if_neg om,if_pos trivial]
theorem LH{c:UInt8}(h:r.length+1<=20)(g:c≠45):qo (c::r)=(if(c::r).head?=some 48/\1<(c::r).length then false else if eD (c::r)then dK (c::r) false else false):=by
 unfold qo;simp only;rw[if_neg om,if_neg g];simp
theorem O5(k:(d.getD 0 0).toNat=n)(g:0<d.length):d.head?=some 48↔n=48:=by
 cases d with
 |nil=>simp at g
 |cons c r=>
  simp only[List.head?_cons,Option.some.injEq];have:c.toNat=n:=k;constructor
  .intro h;rw[<-this,h];rfl
  .intro h;exact UInt8.toNat_inj.1 (by rw[this,h];rfl)
theorem FU{a:List UInt8}(m:0<a.length)(k:(a.getD 0 0).toNat=n)(g:World):(Instr.index 9 (.string (bs a)) (rI 0)).run prog g=.ok (.int .u8 (n:Nat)) g:=kN m k g
theorem M6(k:1<=l.length)(h:l.drop 1=r)(g:World):(Instr.slice 9 (.string (bs l)) (some (rI 1)) none none).run prog g=.ok (.string (bs r)) g:=tN k h g
theorem Ko(l F:List UInt8)(hl:l.length<=1000)(hw:F.length<=100)(w:World):Calls prog 72 #[.string (bs l),.string (bs F)] w (Rt w (.bool (numOf F l).isSome)):=by
 obtain⟨o,g⟩:=rX ((numOf F l).isSome);rw[g];have z:=Below.refl w.heap.size w;by_cases hA:l.length<=F.length
 .obtain rfl:false=o:=(AQ hA).symm.trans g
  have q:(l.length:Int)<=F.length:=om;clear g hA;go_enter func72,ntmps72;go_wp2_with fail;go_ret;exact⟨rfl,z⟩
 have q:¬((l.length:Int)<=F.length):=om;obtain⟨tk,R⟩:=rX (l.take F.length);have am:=QE om R;by_cases hB:tk=F
 case neg=>
  have ao:(tk==F)=false:=Zq.2 hB;obtain rfl:false=o:=by rw[<-g,Fe om (by rw[R];exact hB)];rfl
  clear g hA hB R;go_enter func72,ntmps72;go_wp2_with fail;go_ret;exact⟨rfl,z⟩
 have ao:(tk==F)=true:=beq_iff_eq.2 hB;have ag:=uT om (R.trans hB);rw[ag,<-AP]at g;clear ag hB R;obtain⟨t,U⟩:=rX (l.drop F.length);have Z:t.length=l.length-F.length:=by rw[<-U,List.length_drop]
 rw[U]at g;by_cases J:20<t.length
 .obtain rfl:false=o:=(H9 J).symm.trans g
  have aw:(20:Int)<l.length-F.length:=om;clear g hA U Z J;go_enter func72,ntmps72;go_wp2_with fail;go_ret;exact⟨rfl,z⟩
 have aw:¬((20:Int)<l.length-F.length):=om;have al:=tN om U;obtain⟨n0,B⟩:∃n:Nat,(t.getD 0 0).toNat=n:=⟨_,rfl⟩;have ac:=FU om B;have ax:=kN (a:=l) (x:=F.length) (n:=n0) om (by rw[<-B,<-U,Zk,Zk,List.getElem?_drop];rfl);have qs:=hid hA;clear hA;by_cases Q:n0=45
 .subst Q
  obtain⟨d,rfl⟩:∃d,t=45::d:=by
   cases t with
   |nil=>simp at Z;have:=qs.out;omega
   |cons c r=>exact⟨r,by rw[UInt8.toNat_inj.1 (show c.toNat=(45:UInt8).toNat from B)]⟩
  rw[LG (by simp at J⊢;omega)]at g;have ar:=M6 (l:=45::d) rS rfl;rw[List.drop_one,List.tail_cons]at ar;have ab:d.length<=20:=by simp at J;omega
  clear J B Z;by_cases r0:d=[]
  .subst r0
   obtain rfl:false=o:=by rw[<-g,if_pos (.inl rfl)]
   clear g U;go_enter func72,ntmps72;go_wp2_with fail;go_ret;exact⟨rfl,z⟩
  by_cases r1:d=[48]
  .subst r1
   obtain rfl:false=o:=by rw[<-g,if_pos (.inr rfl)]
   clear g U;go_enter func72,ntmps72;go_wp2_with fail;go_ret;exact⟨rfl,z⟩
  rw[if_neg (by rintro(h|h);exact r0 h;exact r1 h)]at g;have b0:(d==[])=false:=Zq.2 r0;have b1:(d==[48])=false:=Zq.2 r1;have M:0<d.length:=List.length_pos_iff.2 r0;clear r0 r1 U;obtain⟨n1,aa⟩:∃n:Nat,(d.getD 0 0).toNat=n:=⟨_,rfl⟩;have ap:=FU M aa;have hh:=O5 aa M;simp only[hh]at g;clear hh aa;by_cases m:n1=48/\1<d.length
  .obtain rfl:false=o:=by rw[<-g,if_pos m]
   obtain⟨rfl,e1⟩:=m;have q1:(1:Int)<d.length:=om;clear g e1;go_enter func72,ntmps72;go_wp2_with fail;go_ret;exact⟨rfl,z⟩
  rw[if_neg m]at g;replace g:=hid g
  have m:(n1:Int)≠48\/(n1=48/\¬((1:Int)<d.length)):=by
   by_cases h:n1=48
   .exact .inr ⟨h,λk=>m ⟨h,om⟩⟩
   .exact .inl om
  rcases m with e1|⟨rfl,e1⟩<;>
  .go_enter func72,ntmps72
   go_wp2_with fail;go_loopw [6] (λi wr=>∃k:Nat,k<=d.length/\i=rI (k:Nat)/\(∀j,j<k->48<=(d.getD j 0).toNat/\(d.getD j 0).toNat<=57)/\Below w.heap.size w wr) (λi _=>d.length-(intOf i).toNat)
   case atStart=>exact⟨0,om,rfl,λj T=>om,z⟩
   case round=>
    clear z ac ap al am;obtain⟨k,hk,rfl,u,HB⟩:=hrel;replace u:=hid u;by_cases O:k<d.length
    .have q':(k:Int)<d.length:=om
     obtain⟨n,P⟩:∃n:Nat,(d.getD k 0).toNat=n:=⟨_,rfl⟩;have ad:=kN O P;replace P:=hid P;by_cases L:48<=n/\n<=57
     .obtain⟨d1,d2⟩:=L
      have p1:¬((n:Int)<48):=om;have p2:¬((57:Int)<n):=om;go_wp2_with fail;go_roundw
      case rel=>
       refine⟨k+1,om,by go_num,λj T=>?_,HB⟩;rcases Nat.lt_succ_iff_lt_or_eq.1 T with h'|rfl
       .exact u.out j h'
       .rw[P.out];exact⟨d1,d2⟩
      case measure=>exact rM
     .obtain rfl:false=o:=by
       rw[<-g.out,if_neg];rw[yD O P.out L];simp
      have L:(n:Int)<48\/(¬((n:Int)<48)/\(57:Int)<n):=om;rcases L with L|⟨L,aq⟩<;>
      .go_wp2_with fail
       go_ret;exact⟨rfl,HB⟩
    .obtain rfl:k=d.length:=om
     have I:dK d true=o:=by rw[<-g.out,if_pos (su λj T=>u.out j T)]
     replace I:=hid I;clear g u;go_wp2_with fail;refine(Kv d true om _).mono ?_;rintro e w1 ⟨rfl,rfl⟩;go_wp2_with fail;go_ret;rw[I.out];exact⟨rfl,HB⟩
 .have qn:(n0:Int)≠45:=om
  obtain⟨d,S⟩:=rX t;have M:0<d.length:=by rw[<-S];have:=qs.out;omega
  have ab:d.length<=20:=by rw[<-S];omega
  have ai:(if d.head?=some 48/\1<d.length then false else if eD d then dK d false else false)=o:=by
   rw[S]at g B;cases d with
   |nil=>simp at M
   |cons c r=>
    rw[LH (by simpa using ab) (λe=>Q (by rw[<-B,e];rfl))]at g;exact g
  subst S;replace g:=ai;clear ai Q Z J U;have hh:=O5 B M;simp only[hh]at g;clear hh B;by_cases m:n0=48/\1<t.length
  .obtain rfl:false=o:=by rw[<-g,if_pos m]
   obtain⟨rfl,e1⟩:=m;have q1:(1:Int)<t.length:=om;clear g e1;go_enter func72,ntmps72;go_wp2_with fail;go_ret;exact⟨rfl,z⟩
  rw[if_neg m]at g;replace g:=hid g
  have m:(n0:Int)≠48\/(n0=48/\¬((1:Int)<t.length)):=by
   by_cases h:n0=48
   .exact .inr ⟨h,λk=>m ⟨h,om⟩⟩
   .exact .inl om
  rcases m with e1|⟨rfl,e1⟩<;>
  .go_enter func72,ntmps72
   go_wp2_with fail;go_loopw [6] (λi wr=>∃k:Nat,k<=t.length/\i=rI (k:Nat)/\(∀j,j<k->48<=(t.getD j 0).toNat/\(t.getD j 0).toNat<=57)/\Below w.heap.size w wr) (λi _=>t.length-(intOf i).toNat)
   case atStart=>exact⟨0,om,rfl,λj T=>om,z⟩
   case round=>
    clear z ac al am;obtain⟨k,hk,rfl,u,HB⟩:=hrel;replace u:=hid u;by_cases O:k<t.length
    .have q':(k:Int)<t.length:=om
     obtain⟨n,P⟩:∃n:Nat,(t.getD k 0).toNat=n:=⟨_,rfl⟩;have ad:=kN O P;replace P:=hid P;by_cases L:48<=n/\n<=57
     .obtain⟨d1,d2⟩:=L
      have p1:¬((n:Int)<48):=om;have p2:¬((57:Int)<n):=om;go_wp2_with fail;go_roundw
      case rel=>
       refine⟨k+1,om,by go_num,λj T=>?_,HB⟩;rcases Nat.lt_succ_iff_lt_or_eq.1 T with h'|rfl
       .exact u.out j h'
       .rw[P.out];exact⟨d1,d2⟩
      case measure=>exact rM
     .obtain rfl:false=o:=by
       rw[<-g.out,if_neg];rw[yD O P.out L];simp
      have L:(n:Int)<48\/(¬((n:Int)<48)/\(57:Int)<n):=om;rcases L with L|⟨L,aq⟩<;>
      .go_wp2_with fail
       go_ret;exact⟨rfl,HB⟩
    .obtain rfl:k=t.length:=om
     have I:dK t false=o:=by rw[<-g.out,if_pos (su λj T=>u.out j T)]
     replace I:=hid I;clear g u;go_wp2_with fail;refine(Kv t false om _).mono ?_;rintro e w1 ⟨rfl,rfl⟩;go_wp2_with fail;go_ret;rw[I.out];exact⟨rfl,HB⟩
