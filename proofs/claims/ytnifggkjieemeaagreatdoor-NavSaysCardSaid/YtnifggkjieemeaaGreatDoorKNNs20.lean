/- Lemmas of this claim: Graph6, Del, Cut, GSp, GSet1, GSet2, SameE, GSet3, GSet4. -/
import Derived.Test.YtnifggkjieemeaaGreatDoorGraph5
set_option linter.unusedVariables false
set_option linter.unusedSimpArgs false
set_option maxHeartbeats 6400000
set_option maxRecDepth 100000
open Go.Proofs.Tryz
namespace Go.Proofs.YtnifggkjieemeaaGreatDoor
open Go.Lib (hid)
open Go.RowKit Go.Sort FR
variable {e:Ed}{g g':G}{nx ny t v:Int}{E:Int->Option (List Ed)}{L M:List Ed}{S S1 S2 T bl:List Nat}{b c cap i j mb n p:Nat}{D:Nat->Nat->Prop}{N:Nat->Prop}{fv:Value}{w w' w1 w2 wr:World}
def Wp(w:World)(L:List Ed)(e:Ending)(w':World):Prop:=∃A m,e=.returned (.slice A L.length m)/\bP w' A L/\(∀ad,A=some ad->w.heap.size<=ad.block)/\Below w.heap.size w w'
theorem JA(w:World)(B:Nat)(v:Value)(L:List Ed)(h:bf w B v L)(hl:L.length<=100000):Calls prog 107 #[v] w (Wp w L):=by
 obtain⟨i0,z0,hi,ab,ac,ag,ai⟩:=fV;have hq:∀(w:World)(a:Option Addr)(n c n' T:Nat),(binOp .eql 119 (.slice a n c) (.slice none n' T)).run prog w=.ok (.bool a.isNone) w:=λw a n c n' T=>Lib.run_eql_slice_nil w _ _ a n c n' T underlying119;rcases h.2 with⟨rfl,h0⟩|⟨g,aa,al,rfl,_,hg,_,_,_,O⟩
 .have:L=[]:=List.eq_nil_of_length_eq_zero h0
  subst this;go_enter func107,ntmps107;go_wp2;go_ret;exact⟨none,0,rfl,λh=>by simp at h,(λad e=>by cases e),br⟩
 .have R:∀j u,(dM L)[j]? =some u->w.cell? ((⟨g,0,none⟩:Addr).add j)=some u:=λj u S=>by
   rw[Addr.add_lit,Zx];rw[<-O,ZA]at S;split at S
   .rw[ZB]at S
    simp[World.cell?,hg,S]
   .cases S
  have am:g<w.heap.size:=(Za.1 hg).1;have J:=bE L;have P:=xH L;obtain⟨n,hn⟩:=rX L.length;obtain⟨X,hX⟩:=rX (dM L);rw[hn]at hl J⊢;rw[hX]at R J P;have Hn:=hid (rN hn hX);clear hn hX O hg h;go_enter func107,ntmps107;go_wp2_with (at_builtin;(refine wpList_append_own _ rfl _ _ 119 rfl w.heap.size 192 i0 z0 4 32 underlying119 hi ab ac ag ai rD _ _ _ rfl (World.ownsRow_made w #[] 0 (Zi _) (Zw _) rfl) ⟨g,0,none⟩ n aa X rfl J (λj u hj=>Lib.cell?_alloc_some _ (R j u hj)) P (by unfold maxLen;omega) om rS ?_);intro v' w1 Q I M)
  have z:bf w1 w.heap.size v' L:=by
   unfold bf;rw[Hn.out.1,Hn.out.2];simpa using Q
  obtain⟨A,m,rfl,Z⟩:=z.yI;have U:Below w.heap.size w w1:=((Below.refl _ w).alloc (Zi _) _).grown I rS (λk hk=>(World.ownsRow.lt (World.ownsRow_made (e:=192) (size:=4) w #[] 0 (Zi _) (Zw _) rfl) k hk).1);have F:Wp w L (.returned (.slice A L.length m)) w1:=⟨A,m,rfl,Z,λad e=>(World.ownsRow.lt z ad.block (by rw[e];rfl)).1,U⟩;have F:=hid F;clear Q I M z Z U;go_wp2;go_ret;exact F.out
def Wt(w:World)(L:List Ed)(e:Ending)(w':World):Prop:=∃A m,e=.returned (.tuple #[.slice A L.length m,.nilIface])/\bP w' A L/\(∀ad,A=some ad->w.heap.size<=ad.block)/\Below w.heap.size w w'
theorem Ha(w:World)(b p Q:Nat)(S:List Nat)(g:G)(v:Int)(E:Int->Option (List Ed))(h:aJ w b p Q S g v E)(c:Int)(L:List Ed)(I:E c=some L)(hl:L.length<=100000):Calls prog 56 #[vP b,rI c] w (Wt w L):=by
 obtain⟨U,_,⟨V,N,M,T,q3,_,_,_,_⟩,_⟩:=h;have aa:w.cell? ⟨b,1,none⟩=some (.map (some Q)):=by simp[World.cell?,U]
 obtain⟨u,P⟩:∃u,V c=some u:=by
  cases hV:V c with
  |none=>rw[(T c).2 hV]at I;cases I
  |some u=>exact⟨u,rfl⟩
 have Z:=q3 c u L P I
 have O:(Instr.lookup 124 (.map (some Q)) (rI c) true).run prog w=.ok (.tuple #[u,.bool true]) w:=by
  have:=(M.look (aF underlying3) underlying124 (z:=.slice none 0 0) (by simp[zeroValue119]) c).1;rw[P]at this;exact this
 have R:=hid (JA w 0 u L Z hl);clear U M T q3 P Z I;go_enter func56,ntmps56;go_wp2_with fail;(with_reducible refine R.out.mono ?_);rintro e w1 ⟨A,m,rfl,B,J,F⟩;have k:Wt w L (.returned (.tuple #[.slice A L.length m,.nilIface])) w1:=⟨A,m,rfl,B,J,F⟩;have k:=hid k;clear B F O R;go_wp2;go_ret2;exact k.out
theorem bP.kept{A:Option Addr}(h:bP w A L)(z:Kept T w w')(F:∀k,A=some k->k.block∉T):bP w' A L:=λI=>by
 obtain⟨g,m,u,B⟩:=h I;refine⟨g,m,Zf u z.size,λj v J=>?_⟩;exact(World.cell?_of_block (a:=⟨g,j,none⟩) (z.block g u (F _ m))).trans (B j v J)
theorem aJ.kept(h:aJ w b p mb S g v E)(u:Kept T w w')(m:∀k,k∈b::p::mb::S->k∉T):aJ w' b p mb S g v E:=by
 obtain⟨z,B,F,I⟩:=h;exact⟨(u.block b (Za.1 z).1 (m b rS)).trans z,B.kept u (m p rS),F.kept u (λs J=>m s (by simp[J])) (m mb rS),I⟩
def KM(w:World)(L:List Ed)(t:Int)(r:Ending)(w':World):Prop:=
 (r=.returned (rI (-1))/\(∀e∈L,e.to_≠t)/\Below w.heap.size w w')\/∃(k:Nat)(e:Ed),r=.returned (rI (k:Nat))/\L[k]? =some e/\e.to_=t/\(∀j e',L[j]? =some e'->j<k->e'.to_≠t)/\Below w.heap.size w w'
theorem OC(w:World)(k:Nat)(e:Ed)(t:Int)(u:w.cell? ⟨k,0,none⟩=some (rI t)):Calls prog 130 #[.agg #[rI e.to_,rI e.c.s,rI e.c.d,rI e.mid],vP k] w (Rt w (.bool (e.to_==t))):=by
 obtain⟨x,⟨s,d⟩,m⟩:=e;have B:=World.new_ne w _ u;have z:=λo=>aD (o:=o) u;simp only;go_enter func130,ntmps130;go_wp2;go_ret;exact⟨rfl,be⟩
theorem RV(w:World)(A:Option Addr)(n R:Nat)(L:List Ed)(bt:Nat)(t:Int)(h:bP w A L)(hn:L.length=n)(hl:n<=100000)(hc:w.cell? ⟨bt,0,none⟩=some (rI t)):Calls prog 179 #[.slice A n R,.func (.func 130) #[] #[vP bt]] w (KM w L t):=by
 have Hn:=hid hn;have h:=hid h;have Hc:=hid hc;clear hn hc;go_enter func179,ntmps179;go_wp2_with fail;go_loopw [8] (λkv wr=>∃k:Nat,kv=rI k/\k<=n/\(∀j e,L[j]? =some e->j<k->e.to_≠t)/\Below w.heap.size w wr) (λkv _=>n-(intOf kv).toNat)
 case atStart=>exact⟨0,rfl,om,λj e _ h=>om,br⟩
 case round=>
  obtain⟨k,rfl,hk,S,P⟩:=hrel;have J:=hid S;clear S;by_cases M:k<n
  .obtain⟨e,Z⟩:∃e,L[k]? =some e:=⟨L[k]'(by rw[Hn.out];exact M),Zc _⟩
   obtain⟨g,hA,a1,a2,a3,a4⟩:=(h.out.below P).get Z;have ac:=λwx=>gZ (m:=R) hA M wx;have O:=hid (OC wr bt e t (af P Hc.out));have He:=hid Z;obtain⟨u,hu⟩:∃u,(e.to_==t)=u:=⟨_,rfl⟩;rw[hu]at O;have Hu:=hid hu;obtain⟨x,hx⟩:=rX e.to_;obtain⟨xs,ab⟩:=rX e.c.s;obtain⟨xd,T⟩:=rX e.c.d;obtain⟨xm,aa⟩:=rX e.mid;rw[hx]at a1 O;rw[ab]at a2 O;rw[T]at a3 O;rw[aa]at a4 O;clear hA Z hu hx ab T aa;go_wp2_with fail;(with_reducible refine O.out.mono ?_);rintro r w2 ⟨rfl,U⟩;have I:=ae P U;clear a1 a2 a3 a4 O ac U P;cases u with
   |true=>
    have z:KM w L t (.returned (rI (k:Nat))) w2:=.inr ⟨k,e,rfl,He.out,by simpa using Hu.out,J.out,I⟩;have z:=hid z;clear I;go_wp2;go_ret;exact z.out
   |false=>
    have F:∀j e',L[j]? =some e'->j<k+1->e'.to_≠t:=λj e' B hj=>by
     by_cases e1:j=k
     .subst e1
      rw[He.out]at B;injection B with B
      subst B;simpa using Hu.out
     .exact J.out j e' B om
    have Q:=hid F;clear F;go_wp2;go_roundw
    case rel=>exact⟨k+1,by go_num,om,Q.out,I⟩
    case measure=>exact rM
  .obtain rfl:k=n:=om
   have z:KM w L t (.returned (rI (-1))) wr:=.inl ⟨rfl,λe Z=>by
    obtain⟨j,hj⟩:=Zo Z;exact J.out j e hj (by have:=(Zb.1 hj).1;have:=Hn.out;omega),P⟩
   have z:=hid z;clear P;go_wp2;go_ret;exact z.out
theorem OD(w:World)(k:Nat)(e:Ed)(t:Int)(u:w.cell? ⟨k,0,none⟩=some (rI t)):Calls prog 131 #[.agg #[rI e.to_,rI e.c.s,rI e.c.d,rI e.mid],vP k] w (Rt w (.bool (e.to_==t))):=by
 obtain⟨x,⟨s,d⟩,m⟩:=e;have B:=World.new_ne w _ u;have z:=λo=>aD (o:=o) u;simp only;go_enter func131,ntmps131;go_wp2;go_ret;exact⟨rfl,be⟩
theorem RY(w:World)(A:Option Addr)(n R:Nat)(L:List Ed)(bt:Nat)(t:Int)(h:bP w A L)(hn:L.length=n)(hl:n<=100000)(hc:w.cell? ⟨bt,0,none⟩=some (rI t)):Calls prog 179 #[.slice A n R,.func (.func 131) #[] #[vP bt]] w (KM w L t):=by
 have Hn:=hid hn;have h:=hid h;have Hc:=hid hc;clear hn hc;go_enter func179,ntmps179;go_wp2_with fail;go_loopw [8] (λkv wr=>∃k:Nat,kv=rI k/\k<=n/\(∀j e,L[j]? =some e->j<k->e.to_≠t)/\Below w.heap.size w wr) (λkv _=>n-(intOf kv).toNat)
 case atStart=>exact⟨0,rfl,om,λj e _ h=>om,br⟩
 case round=>
  obtain⟨k,rfl,hk,S,P⟩:=hrel;have J:=hid S;clear S;by_cases M:k<n
  .obtain⟨e,Z⟩:∃e,L[k]? =some e:=⟨L[k]'(by rw[Hn.out];exact M),Zc _⟩
   obtain⟨g,hA,a1,a2,a3,a4⟩:=(h.out.below P).get Z;have ac:=λwx=>gZ (m:=R) hA M wx;have O:=hid (OD wr bt e t (af P Hc.out));have He:=hid Z;obtain⟨u,hu⟩:∃u,(e.to_==t)=u:=⟨_,rfl⟩;rw[hu]at O;have Hu:=hid hu;obtain⟨x,hx⟩:=rX e.to_;obtain⟨xs,ab⟩:=rX e.c.s;obtain⟨xd,T⟩:=rX e.c.d;obtain⟨xm,aa⟩:=rX e.mid;rw[hx]at a1 O;rw[ab]at a2 O;rw[T]at a3 O;rw[aa]at a4 O;clear hA Z hu hx ab T aa;go_wp2_with fail;(with_reducible refine O.out.mono ?_);rintro r w2 ⟨rfl,U⟩;have I:=ae P U;clear a1 a2 a3 a4 O ac U P;cases u with
   |true=>
    have z:KM w L t (.returned (rI (k:Nat))) w2:=.inr ⟨k,e,rfl,He.out,by simpa using Hu.out,J.out,I⟩;have z:=hid z;clear I;go_wp2;go_ret;exact z.out
   |false=>
    have F:∀j e',L[j]? =some e'->j<k+1->e'.to_≠t:=λj e' B hj=>by
     by_cases e1:j=k
     .subst e1
      rw[He.out]at B;injection B with B
      subst B;simpa using Hu.out
     .exact J.out j e' B om
    have Q:=hid F;clear F;go_wp2;go_roundw
    case rel=>exact⟨k+1,by go_num,om,Q.out,I⟩
    case measure=>exact rM
  .obtain rfl:k=n:=om
   have z:KM w L t (.returned (rI (-1))) wr:=.inl ⟨rfl,λe Z=>by
    obtain⟨j,hj⟩:=Zo Z;exact J.out j e hj (by have:=(Zb.1 hj).1;have:=Hn.out;omega),P⟩
   have z:=hid z;clear P;go_wp2;go_ret;exact z.out
def jI(L:List Ed)(t:Int):List Ed:=L.filter λe=>!(e.to_==t)
def Nt(w:World)(v:Value)(L:List Ed)(e:Ending)(w':World):Prop:=∃v',e=.returned v'/\bf w' 0 v' L/\Kept v.ownBlock.toList w w'/\v'.ownBlock=v.ownBlock
def pY(w:World)(g cap n:Nat)(M:List Ed):Prop:=∃cur,w.heap[g]? =some (.cells cur 192 (0,0))/\cur.size=cap*4/\n<=cap/\cap<=maxLen/\M.length=n/\cur.toList.take (n*4)=dM M
theorem pY.lt{g cap n:Nat}(h:pY w g cap n M):g<w.heap.size:=by
 obtain⟨k,m,_⟩:=h;exact(Za.1 m).1
theorem pY.below{g cap n:Nat}(h:pY w g cap n M)(z:Below w.heap.size w w'):pY w' g cap n M:=by
 have B:=h.lt;obtain⟨k,m,u⟩:=h;exact⟨k,(z.block g B).trans m,u⟩
theorem pY.get{g cap n:Nat}(h:pY w g cap n M)(I:M[j]? =some e):w.cell? ⟨g,j*4,none⟩=some (rI e.to_)/\w.cell? ⟨g,j*4+1,none⟩=some (rI e.c.s)/\w.cell? ⟨g,j*4+2,none⟩=some (rI e.c.d)/\w.cell? ⟨g,j*4+3,none⟩=some (rI e.mid):=by
 obtain⟨z,B,J,O,P,Q,F⟩:=h
 have m:∀k v,(dM M)[k]? =some v->w.cell? ⟨g,k,none⟩=some v:=λk v u=>by
  rw[<-F,ZA]at u;split at u
  .rw[ZB]at u;simp[World.cell?,B,u]
  .cases u
 obtain⟨a,b,c,d⟩:=xE M j e I;exact⟨m _ _ a,m _ _ b,m _ _ c,m _ _ d⟩
theorem JB:∀(M:List Ed)(i:Nat)(e:Ed),i<M.length->dM (M.set i e)=((((dM M).set (i*4) (rI e.to_)).set (i*4+1) (rI e.c.s)).set (i*4+2) (rI e.c.d)).set (i*4+3) (rI e.mid)
 |[],i,e,h=>by simp at h
 |x::M,0,e,h=>by
  rw[Zm,dz,dz];simp[Ed.cells]
 |x::M,i+1,e,h=>by
  rw[Zn,dz,dz,JB M i e (by simpa using h)];have u:x.cells.length=4:=rfl
  have m:∀(a b:List Value)(k:Nat)(v:Value),a.length=4->(a++b).set (4+k) v=a++b.set k v:=λa b k v z=>by
   rw[List.set_append_right _ _ om,z,show 4+k-4=k by omega]
  rw[show(i+1)*4+1=4+(i*4+1)by omega,show(i+1)*4+2=4+(i*4+2)by omega,show(i+1)*4+3=4+(i*4+3)by omega,show(i+1)*4=4+i*4 by omega];rw[m _ _ _ _ u,m _ _ _ _ u,m _ _ _ _ u,m _ _ _ _ u]
theorem pY.set{g cap n:Nat}(h:pY w g cap n M)(J:i<n)(e:Ed):pY ((((w.setCell ⟨g,i*4,none⟩ (rI e.to_)).setCell ⟨g,i*4+1,none⟩ (rI e.c.s)).setCell ⟨g,i*4+2,none⟩ (rI e.c.d)).setCell ⟨g,i*4+3,none⟩ (rI e.mid)) g cap n (M.set i e):=by
 obtain⟨k,m,u,z,B,F,I⟩:=h;refine⟨_,aI _ _ _ _ _ _ (aI _ _ _ _ _ _ (aI _ _ _ _ _ _ (aI _ _ _ _ _ _ m))),by simp[u],z,B,by simp[F],?_⟩;rw[JB M i e om,<-I];simp only[Array.toList_setIfInBounds,List.take_set]
def gG(w w1:World)(g cap n:Nat)(L:List Ed)(t:Int)(i j:Nat)(wr:World):Prop:=
 ∃M,pY wr g cap n M/\M.take i=jI (L.take j) t/\M.drop j=L.drop j/\Kept [g] w wr/\Kept [g] w1 wr
theorem gG.start{g cap n:Nat}{k:Nat}(h:pY w g cap n L)(F:Below w.heap.size w w1)(I:L[k]? =some e)(u:e.to_=t)(z:∀j B,L[j]? =some B->j<k->B.to_≠t):gG w w1 g cap n L t k (k+1) w1:=by
 refine⟨L,h.below F,?_,rfl,Kept.of_below F,Kept.refl _ _⟩;unfold jI;have P:=(Zb.1 I).1;rw[List.take_add_one,I,List.filter_append]
 have J:(L.take k).filter (λe=>!(e.to_==t))=L.take k:=by
  rw[List.filter_eq_self];intro x O;obtain⟨j,m⟩:=Zo O;rw[ZA]at m;split at m
  .have:=z j x m au
   simpa using this
  .cases m
 rw[J];simp[u]
theorem gG.below{g cap n:Nat}(h:gG w w1 g cap n L t i j wr)(k:Below wr.heap.size wr w'):gG w w1 g cap n L t i j w':=by
 obtain⟨M,m,u,z,B,F⟩:=h;exact⟨M,m.below k,u,z,B.trans (Kept.of_below k),F.trans (Kept.of_below k)⟩
theorem gG.lt{g cap n:Nat}(h:gG w w1 g cap n L t i j wr):g<wr.heap.size:=by
 obtain⟨M,k,_⟩:=h;exact k.lt
theorem El(h:M.drop j=L.drop j)(k:L[j]? =some e):M[j]? =some e:=by
 have:=congrArg (λl:List Ed=>l[0]?) h;simp only[List.getElem?_drop,Nat.add_zero]at this;rw[this];exact k
theorem gG.get{g cap n:Nat}(h:gG w w1 g cap n L t i j wr)(u:L[j]? =some e):wr.cell? ⟨g,j*4,none⟩=some (rI e.to_)/\wr.cell? ⟨g,j*4+1,none⟩=some (rI e.c.s)/\wr.cell? ⟨g,j*4+2,none⟩=some (rI e.c.d)/\wr.cell? ⟨g,j*4+3,none⟩=some (rI e.mid):=by
 obtain⟨M,k,z,m,_⟩:=h;exact k.get (El m u)
theorem gG.there{g cap n:Nat}(h:gG w w1 g cap n L t i j wr)(u:i<n):∃u1 u2 u3 u4:Value,wr.cell? ⟨g,i*4,none⟩=some u1/\wr.cell? ⟨g,i*4+1,none⟩=some u2/\wr.cell? ⟨g,i*4+2,none⟩=some u3/\wr.cell? ⟨g,i*4+3,none⟩=some u4:=by
 obtain⟨M,k,_⟩:=h;have m:i<M.length:=by obtain⟨_,_,_,_,_,q,_⟩:=k;omega
 obtain⟨a,b,c,d⟩:=k.get (Zc m);exact⟨_,_,_,_,a,b,c,d⟩
theorem gG.free{g cap n:Nat}(h:gG w w1 g cap n L t i j wr):wr.frozen? ⟨g,i*4,none⟩=false/\wr.frozen? ⟨g,i*4+1,none⟩=false/\wr.frozen? ⟨g,i*4+2,none⟩=false/\wr.frozen? ⟨g,i*4+3,none⟩=false:=by
 obtain⟨M,⟨k,m,_⟩,_⟩:=h;simp[World.frozen?,m]
theorem gG.cell{g cap n:Nat}{i j k:Nat}{v:Value}(h:gG w w1 g cap n L t i j wr)(B:k<w1.heap.size)(m:k≠g)(z:w1.cell? ⟨k,0,none⟩=some v):wr.cell? ⟨k,0,none⟩=some v:=by
 obtain⟨M,_,_,_,_,u⟩:=h;exact aH u (by simpa using m) z
theorem gG.skip{g cap n:Nat}(h:gG w w1 g cap n L t i j wr)(I:L[j]? =some e)(k:e.to_=t):gG w w1 g cap n L t i (j+1) wr:=by
 obtain⟨M,m,u,z,B,F⟩:=h;refine⟨M,m,?_,?_,B,F⟩
 .rw[u]
  unfold jI;rw[List.take_add_one,I,List.filter_append];simp[k]
 .have:=congrArg (List.drop 1) z
  simpa[List.drop_drop]using this
theorem gG.keep{g cap n:Nat}(h:gG w w1 g cap n L t i j wr)(F:L[j]? =some e)(k:e.to_≠t)(O:i<j):gG w w1 g cap n L t (i+1) (j+1) ((((wr.setCell ⟨g,i*4,none⟩ (rI e.to_)).setCell ⟨g,i*4+1,none⟩ (rI e.c.s)).setCell ⟨g,i*4+2,none⟩ (rI e.c.d)).setCell ⟨g,i*4+3,none⟩ (rI e.mid)):=by
 obtain⟨M,m,u,z,I,J⟩:=h;have Q:M.length=n:=by obtain⟨_,_,_,_,_,q,_⟩:=m;exact q
 have P:=(Zb.1 (El z F)).1;have B:Kept [g] wr ((((wr.setCell ⟨g,i*4,none⟩ (rI e.to_)).setCell ⟨g,i*4+1,none⟩ (rI e.c.s)).setCell ⟨g,i*4+2,none⟩ (rI e.c.d)).setCell ⟨g,i*4+3,none⟩ (rI e.mid)):=((((Kept.refl _ _).setCell (.inl rS)).setCell (.inl rS)).setCell (.inl rS)).setCell (.inl rS);refine⟨M.set i e,m.set om e,?_,?_,I.trans B,J.trans B⟩
 .unfold jI at u⊢
  rw[List.take_add_one (l:=L),F,List.filter_append,<-u];rw[List.take_add_one,List.getElem?_set_self om];simp[List.take_set,k];exact List.set_eq_of_length_le so
 .rw[List.drop_set_of_lt om]
  have:=congrArg (List.drop 1) z;simpa[List.drop_drop]using this
theorem Lm:∀w,(zeroValue 192).run prog w=.ok (.agg #[rI 0,rI 0,rI 0,rI 0]) w:=by
 intro w;simp[zeroValue192]
theorem gG.clear{g cap n:Nat}(h:gG w w1 g cap n L t i n wr)(hn:L.length=n)(hi:i<n):∃S,(∀Z,(Builtin.clear_ #[119] Z #[.slice (some ⟨g,i*4,none⟩) (n-i) (cap-i)]).run prog wr=.ok (.tuple #[]) S)/\Nt w (.slice (some ⟨g,0,none⟩) n cap) (jI L t) (.returned (.slice (some ⟨g,0,none⟩) i cap)) S:=by
 obtain⟨M,⟨z,U,c2,c3,T,c5,c6⟩,P,_,I,_⟩:=h;rw[show L.take n=L by rw[<-hn,List.take_length]]at P;obtain⟨F,u⟩:∃F,(Builtin.zeroCells (Value.agg #[rI 0,rI 0,rI 0,rI 0]).cells (n-i)).toList=F:=⟨_,rfl⟩
 have zl:F.length=(n-i)*4:=by
  rw[<-u];simp[Builtin.zeroCells,Value.cells]
 have z1:∀v∈F,v.oneCell'=true:=by
  intro v R;rw[<-u]at R;simp[Builtin.zeroCells,Value.cells]at R;obtain⟨k,_,rfl⟩:=R;have:k%4=0\/k%4=1\/k%4=2\/k%4=3:=om;rcases this with e|e|e|e<;>rw[e]<;>rfl
 have O:=run_storeCells_at prog g (i*4) 192 F 0 z wr U om z1;simp only[Nat.add_zero]at O;refine⟨wr.setRow g (z.toList.take (i*4)++F++z.toList.drop (i*4+F.length)).toArray,λZ=>?_,_,rfl,?_,?_,rfl⟩
 rotate_left
 .have J:(jI L t).length=i:=by rw[<-P,List.length_take];omega
  refine⟨by rw[bE],.inr ⟨g,cap,_,by rw[J],Zw _,setRow_heap wr g z _ _ _ U,om,T,?_,?_⟩⟩
  .simp[zl];omega
  .rw[J]
   rw[List.append_assoc,List.take_append_of_le_length so,List.take_take,Nat.min_self,<-P,<-sD,<-c6,List.take_take,Nat.min_eq_left om]
 .refine⟨I.os,I.tape,I.output,by simpa[World.setRow]using I.size,λk hk Q=>?_⟩
  have B:k≠g:=by simpa[Value.ownBlock]using Q
  exact(setRow_other wr g k _ B).trans (I.block k hk (by simpa using B))
 .obtain⟨m,hm⟩:∃m,n-i=m+1:=⟨n-i-1,om⟩
  rw[hm]at u⊢;simp only[Value.cells]at u;simp[Builtin.clear_,run_underlying underlying119,Lm,Value.cells,u,O,Result.andThen]
theorem RU(w:World)(v:Value)(L:List Ed)(bt:Nat)(t:Int)(h:bf w 0 v L)(hl:L.length<=100000)(hc:w.cell? ⟨bt,0,none⟩=some (rI t))(bc:v.ownBlock≠some bt):Calls prog 129 #[v,.func (.func 130) #[] #[vP bt]] w (Nt w v (jI L t)):=by
 obtain⟨A0,Q,a9,ai⟩:=h.yI;have cI:=hid (RV w A0 L.length Q L bt t ai rfl hl hc);by_cases I:∃e∈L,e.to_=t
 case neg=>
  subst a9
  have ab:jI L t=L:=by
   unfold jI;rw[List.filter_eq_self];intro e P;have:e.to_≠t:=λe1=>I ⟨e,P,e1⟩;simpa using this
  rw[ab];obtain⟨n,hn⟩:=rX L.length;rw[hn]at cI;have H:=hid h;have Hn:=hid hn;have M:=hid I;rw[hn];clear h ai hn I ab;go_enter func129,ntmps129;go_wp2_with fail;(with_reducible refine cI.out.mono ?_);rintro r w1 (⟨rfl,ao,J⟩|⟨k,e,rfl,P,Z,_,_⟩)
  .have B:Nt w (.slice A0 n Q) L (.returned (.slice A0 n Q)) w1:=by
    have hk:=Kept.of_below (S:=(Value.slice A0 n Q).ownBlock.toList) J;exact⟨_,rfl,by have:=H.out.kept (T:=[]) (.of_below J) (λ_ _=>rS);rw[Hn.out]at this;exact this,hk,rfl⟩
   have B:=hid B;clear cI ao J;go_wp2;go_ret;exact B.out
  .exact absurd ⟨e,Ze P,Z⟩ M.out
 rcases h.2 with⟨e0,h0⟩|⟨g,F,ba,e0,_,hg,a8,am,a0,ac⟩
 .exfalso
  obtain⟨e,P,_⟩:=I;have:L=[]:=List.eq_nil_of_length_eq_zero h0;subst this;simp at P
 subst e0;injection a9 with e1 e2 e3
 subst e1;subst e3;have aa:pY w g F L.length L:=⟨ba,hg,a0,a8,am,rfl,ac⟩;have bb:bt≠g:=λe=>bc (by rw[e];rfl);have a6:L.length=L.length:=rfl;obtain⟨n,hn⟩:=rX L.length;rw[hn]at cI aa a8 hl⊢;have Hn:=hid hn;have M:=hid I;have Hc:=hid hc;have ax:=hid aa;have am:F<=9223372036854775807:=am;clear h ai I hg a0 ac aa a6 hn hc;go_enter func129,ntmps129;go_wp2_with fail;(with_reducible refine cI.out.mono ?_);rintro r w1 (⟨rfl,ao,J⟩|⟨k,e,rfl,P,Z,O,J⟩)
 .obtain⟨e,P,Z⟩:=M.out
  exact absurd Z (ao e P)
 have bz:k<n:=by have:=(Zb.1 P).1;have:=Hn.out;omega
 have bh:((k:Int)== -1)=false:=Zq.2 om;have hstart:gG w w1 g F n L t k (k+1) w1:=gG.start ax.out J P Z O;have aE:=hid (af J Hc.out);have bk:=hid J;have ay:bt<w1.heap.size:=ZF _ _ aE.out;have bi:IntKind.i64.wrap ((k:Int)+1)=((k+1:Nat):Int):=by rw[IntWalk.i64_in _ om];omega
 clear cI P Z O J;go_wp2_with fail;clear bi bh;obtain⟨wz,rfl⟩:∃wz:World,wz=w1:=⟨_,rfl⟩
 go_loopw [5,6] (λiv jv wr=>∃i j:Nat,iv=rI i/\jv=rI j/\i<j/\j<=n/\gG w wz g F n L t i j wr) (λ_ jv _=>n-(intOf jv).toNat)
 case atStart=>exact⟨k,k+1,rfl,rfl,om,om,hstart⟩
 case round=>
  obtain⟨i,j,rfl,rfl,bd,bx,hI⟩:=hrel;have HI:=hid hI;clear hstart hI;by_cases a7:j<n
  .obtain⟨e,P⟩:∃e,L[j]? =some e:=⟨L[j]'(by rw[Hn.out];exact a7),Zc _⟩
   have He:=hid P;obtain⟨a1,a2,a3,a4⟩:=HI.out.get P;have bg:=λwx=>gZ (A:=some ⟨g,0,none⟩) (m:=F) rfl a7 wx;have a5:=λwx=>gZ (A:=some ⟨g,0,none⟩) (m:=F) (n:=n) (k:=i) rfl om wx;have aS:=HI.out.cell ay bb aE.out;have cF:=hid (λw'(hb:Below wr.heap.size wr w')=>OC w' bt e t (af hb aS));obtain⟨u,hu⟩:∃u,(e.to_==t)=u:=⟨_,rfl⟩;rw[hu]at cF;have Hu:=hid hu;have bp:=HI.out.lt;obtain⟨x,hx⟩:=rX e.to_;obtain⟨xs,ar⟩:=rX e.c.s;obtain⟨xd,ap⟩:=rX e.c.d;obtain⟨xm,aq⟩:=rX e.mid;rw[hx]at a1 cF;rw[ar]at a2 cF;rw[ap]at a3 cF;rw[aq]at a4 cF;have Hx:=hid (rN hx (rN ar (rN ap aq)));clear P hu aS hx ar ap aq;go_upto_region 8 with(fail);refine aB ?_;intro Wq R;have ag:Below wr.heap.size wr Wq:=by rw[R];exact be
   have q0:Wq.cell? ⟨wr.heap.size,0,none⟩=some (rI x):=by rw[R];go_simp
   have q1:Wq.cell? ⟨wr.heap.size,1,none⟩=some (rI xs):=by rw[R];go_simp
   have q2:Wq.cell? ⟨wr.heap.size,2,none⟩=some (rI xd):=by rw[R];go_simp
   have q3:Wq.cell? ⟨wr.heap.size,3,none⟩=some (rI xm):=by rw[R];go_simp
   obtain⟨bq,al⟩:=rX wr.heap.size;have bo:g<bq:=om;have aw:=hid (HI.out.below ag);have bj:=hid al;rw[al]at q0 q1 q2 q3⊢;clear R al a1 a2 a3 a4 bg;go_wp2_with fail;(with_reducible refine(cF.out _ ag).mono ?_);rintro r w2 ⟨rfl,U⟩;have ad:=hid (aw.out.below U);have q0:=af U q0;have q1:=af U q1;have q2:=af U q2;have q3:=af U q3;clear U ag cF HI aw;cases u with
   |true=>
    have hF:gG w wz g F n L t i (j+1) w2:=ad.out.skip He.out (by simpa using Hu.out);have hF:=hid hF;clear q0 q1 q2 q3;go_wp2;go_roundw
    case rel=>refine rR ?_;exact⟨i,j+1,rfl,by go_num,om,om,hF.out⟩
    case measure=>exact rM
   |false=>
    obtain⟨f1,f2,f3,f4⟩:=ad.out.free (i:=i);obtain⟨p1,p2,p3,p4,o1,o2,o3,o4⟩:=ad.out.there (i:=i) om
    have hF:gG w wz g F n L t (i+1) (j+1) ((((w2.setCell ⟨g,i*4,none⟩ (rI x)).setCell ⟨g,i*4+1,none⟩ (rI xs)).setCell ⟨g,i*4+2,none⟩ (rI xd)).setCell ⟨g,i*4+3,none⟩ (rI xm)):=by
     have:=ad.out.keep He.out (by simpa using Hu.out) (by omega:i<j);rw[Hx.out.1,Hx.out.2.1,Hx.out.2.2.1,Hx.out.2.2.2]at this;exact this
    have hF:=hid hF;go_upto_region 10 with(fail);clear f1 f2 f3 f4 o1 o2 o3 o4 q0 q1 q2 q3 a5;generalize ((((w2.setCell ⟨g,i*4,none⟩ (rI x)).setCell ⟨g,i*4+1,none⟩ (rI xs)).setCell ⟨g,i*4+2,none⟩ (rI xd)).setCell ⟨g,i*4+3,none⟩ (rI xm))=w3 at hF⊢;have b0:IntKind.i64.wrap ((i:Int)+1)=((i+1:Nat):Int):=by rw[IntWalk.i64_in _ om];omega
    go_wp2;go_roundw
    case rel=>refine rR ?_;exact⟨i+1,j+1,rfl,by go_num,om,om,hF.out⟩
    case measure=>exact rM
  .obtain rfl:j=n:=om
   obtain⟨w3,bm,B⟩:=HI.out.clear Hn.out bd;have B:=hid B;have bl:¬F=i:=om;have bw:i<=j:=om;have bv:i<=F:=om;clear HI;go_wp2;go_ret;exact B.out
theorem RX(w:World)(v:Value)(L:List Ed)(bt:Nat)(t:Int)(h:bf w 0 v L)(hl:L.length<=100000)(hc:w.cell? ⟨bt,0,none⟩=some (rI t))(bc:v.ownBlock≠some bt):Calls prog 129 #[v,.func (.func 131) #[] #[vP bt]] w (Nt w v (jI L t)):=by
 obtain⟨A0,Q,a9,ai⟩:=h.yI;have cI:=hid (RY w A0 L.length Q L bt t ai rfl hl hc);by_cases I:∃e∈L,e.to_=t
 case neg=>
  subst a9
  have ab:jI L t=L:=by
   unfold jI;rw[List.filter_eq_self];intro e P;have:e.to_≠t:=λe1=>I ⟨e,P,e1⟩;simpa using this
  rw[ab];obtain⟨n,hn⟩:=rX L.length;rw[hn]at cI;have H:=hid h;have Hn:=hid hn;have M:=hid I;rw[hn];clear h ai hn I ab;go_enter func129,ntmps129;go_wp2_with fail;(with_reducible refine cI.out.mono ?_);rintro r w1 (⟨rfl,ao,J⟩|⟨k,e,rfl,P,Z,_,_⟩)
  .have B:Nt w (.slice A0 n Q) L (.returned (.slice A0 n Q)) w1:=by
    have hk:=Kept.of_below (S:=(Value.slice A0 n Q).ownBlock.toList) J;exact⟨_,rfl,by have:=H.out.kept (T:=[]) (.of_below J) (λ_ _=>rS);rw[Hn.out]at this;exact this,hk,rfl⟩
   have B:=hid B;clear cI ao J;go_wp2;go_ret;exact B.out
  .exact absurd ⟨e,Ze P,Z⟩ M.out
 rcases h.2 with⟨e0,h0⟩|⟨g,F,ba,e0,_,hg,a8,am,a0,ac⟩
 .exfalso
  obtain⟨e,P,_⟩:=I;have:L=[]:=List.eq_nil_of_length_eq_zero h0;subst this;simp at P
 subst e0;injection a9 with e1 e2 e3
 subst e1;subst e3;have aa:pY w g F L.length L:=⟨ba,hg,a0,a8,am,rfl,ac⟩;have bb:bt≠g:=λe=>bc (by rw[e];rfl);have a6:L.length=L.length:=rfl;obtain⟨n,hn⟩:=rX L.length;rw[hn]at cI aa a8 hl⊢;have Hn:=hid hn;have M:=hid I;have Hc:=hid hc;have ax:=hid aa;have am:F<=9223372036854775807:=am;clear h ai I hg a0 ac aa a6 hn hc;go_enter func129,ntmps129;go_wp2_with fail;(with_reducible refine cI.out.mono ?_);rintro r w1 (⟨rfl,ao,J⟩|⟨k,e,rfl,P,Z,O,J⟩)
 .obtain⟨e,P,Z⟩:=M.out
  exact absurd Z (ao e P)
 have bz:k<n:=by have:=(Zb.1 P).1;have:=Hn.out;omega
 have bh:((k:Int)== -1)=false:=Zq.2 om;have hstart:gG w w1 g F n L t k (k+1) w1:=gG.start ax.out J P Z O;have aE:=hid (af J Hc.out);have bk:=hid J;have ay:bt<w1.heap.size:=ZF _ _ aE.out;have bi:IntKind.i64.wrap ((k:Int)+1)=((k+1:Nat):Int):=by rw[IntWalk.i64_in _ om];omega
 clear cI P Z O J;go_wp2_with fail;clear bi bh;obtain⟨wz,rfl⟩:∃wz:World,wz=w1:=⟨_,rfl⟩
 go_loopw [5,6] (λiv jv wr=>∃i j:Nat,iv=rI i/\jv=rI j/\i<j/\j<=n/\gG w wz g F n L t i j wr) (λ_ jv _=>n-(intOf jv).toNat)
 case atStart=>exact⟨k,k+1,rfl,rfl,om,om,hstart⟩
 case round=>
  obtain⟨i,j,rfl,rfl,bd,bx,hI⟩:=hrel;have HI:=hid hI;clear hstart hI;by_cases a7:j<n
  .obtain⟨e,P⟩:∃e,L[j]? =some e:=⟨L[j]'(by rw[Hn.out];exact a7),Zc _⟩
   have He:=hid P;obtain⟨a1,a2,a3,a4⟩:=HI.out.get P;have bg:=λwx=>gZ (A:=some ⟨g,0,none⟩) (m:=F) rfl a7 wx;have a5:=λwx=>gZ (A:=some ⟨g,0,none⟩) (m:=F) (n:=n) (k:=i) rfl om wx;have aS:=HI.out.cell ay bb aE.out;have cF:=hid (λw'(hb:Below wr.heap.size wr w')=>OD w' bt e t (af hb aS));obtain⟨u,hu⟩:∃u,(e.to_==t)=u:=⟨_,rfl⟩;rw[hu]at cF;have Hu:=hid hu;have bp:=HI.out.lt;obtain⟨x,hx⟩:=rX e.to_;obtain⟨xs,ar⟩:=rX e.c.s;obtain⟨xd,ap⟩:=rX e.c.d;obtain⟨xm,aq⟩:=rX e.mid;rw[hx]at a1 cF;rw[ar]at a2 cF;rw[ap]at a3 cF;rw[aq]at a4 cF;have Hx:=hid (rN hx (rN ar (rN ap aq)));clear P hu aS hx ar ap aq;go_upto_region 8 with(fail);refine aB ?_;intro Wq R;have ag:Below wr.heap.size wr Wq:=by rw[R];exact be
   have q0:Wq.cell? ⟨wr.heap.size,0,none⟩=some (rI x):=by rw[R];go_simp
   have q1:Wq.cell? ⟨wr.heap.size,1,none⟩=some (rI xs):=by rw[R];go_simp
   have q2:Wq.cell? ⟨wr.heap.size,2,none⟩=some (rI xd):=by rw[R];go_simp
   have q3:Wq.cell? ⟨wr.heap.size,3,none⟩=some (rI xm):=by rw[R];go_simp
   obtain⟨bq,al⟩:=rX wr.heap.size;have bo:g<bq:=om;have aw:=hid (HI.out.below ag);have bj:=hid al;rw[al]at q0 q1 q2 q3⊢;clear R al a1 a2 a3 a4 bg;go_wp2_with fail;(with_reducible refine(cF.out _ ag).mono ?_);rintro r w2 ⟨rfl,U⟩;have ad:=hid (aw.out.below U);have q0:=af U q0;have q1:=af U q1;have q2:=af U q2;have q3:=af U q3;clear U ag cF HI aw;cases u with
   |true=>
    have hF:gG w wz g F n L t i (j+1) w2:=ad.out.skip He.out (by simpa using Hu.out);have hF:=hid hF;clear q0 q1 q2 q3;go_wp2;go_roundw
    case rel=>refine rR ?_;exact⟨i,j+1,rfl,by go_num,om,om,hF.out⟩
    case measure=>exact rM
   |false=>
    obtain⟨f1,f2,f3,f4⟩:=ad.out.free (i:=i);obtain⟨p1,p2,p3,p4,o1,o2,o3,o4⟩:=ad.out.there (i:=i) om
    have hF:gG w wz g F n L t (i+1) (j+1) ((((w2.setCell ⟨g,i*4,none⟩ (rI x)).setCell ⟨g,i*4+1,none⟩ (rI xs)).setCell ⟨g,i*4+2,none⟩ (rI xd)).setCell ⟨g,i*4+3,none⟩ (rI xm)):=by
     have:=ad.out.keep He.out (by simpa using Hu.out) (by omega:i<j);rw[Hx.out.1,Hx.out.2.1,Hx.out.2.2.1,Hx.out.2.2.2]at this;exact this
    have hF:=hid hF;go_upto_region 10 with(fail);clear f1 f2 f3 f4 o1 o2 o3 o4 q0 q1 q2 q3 a5;generalize ((((w2.setCell ⟨g,i*4,none⟩ (rI x)).setCell ⟨g,i*4+1,none⟩ (rI xs)).setCell ⟨g,i*4+2,none⟩ (rI xd)).setCell ⟨g,i*4+3,none⟩ (rI xm))=w3 at hF⊢;have b0:IntKind.i64.wrap ((i:Int)+1)=((i+1:Nat):Int):=by rw[IntWalk.i64_in _ om];omega
    go_wp2;go_roundw
    case rel=>refine rR ?_;exact⟨i+1,j+1,rfl,by go_num,om,om,hF.out⟩
    case measure=>exact rM
  .obtain rfl:j=n:=om
   obtain⟨w3,bm,B⟩:=HI.out.clear Hn.out bd;have B:=hid B;have bl:¬F=i:=om;have bw:i<=j:=om;have bv:i<=F:=om;clear HI;go_wp2;go_ret;exact B.out
def Wv(W:World)(S:List Nat)(mb:Nat)(E:Int->Option (List Ed))(wx:World):Prop:=∃S',cz wx S' mb E/\(∀k∈S',k∈S\/W.heap.size<=k)/\Kept (mb::S) W wx
theorem Ex(w:World)(R:List Nat)(b p B:Nat)(E:Int->Option (List Ed))(x y:Int)(Lx Ly:List Ed)(hb:w.heap[b]? =some (.cells #[vP p,.map (some B)] 165 (0,0)))(hE:cz w R B E)(ao:b∉R)(a4:b≠B)(bc:E x=some Lx)(bd:E y=some Ly)(b6:x≠y)(b2:Lx.length<=100000)(b3:Ly.length<=100000):Calls prog 81 #[vP b,rI x,rI y] w (Rq w R B (bT (bT E x (some (jI Lx y))) y (some (jI Ly x)))):=by
 have b7:=hE.lt;have aE:∀s∈R,s<w.heap.size:=by obtain⟨_,_,_,_,_,_,_,_,h7⟩:=hE;exact h7
 have b0:b<w.heap.size:=(Za.1 hb).1;have bo:w.cell? ⟨b,1,none⟩=some (.map (some B)):=by simp[World.cell?,hb]
 have a6:=hid bc;have bt:=hid bd;have bv:=hid b6;have HE:=hid hE;clear hb bc bd hE;go_enter func81,ntmps81;go_upto_region 1 with(fail);refine aB ?_;intro W hW;have HW:Below w.heap.size w W:=by rw[hW];exact be
 have c0:W.cell? ⟨w.heap.size,0,none⟩=some (rI x):=by rw[hW];go_simp
 have c1:W.cell? ⟨w.heap.size+1,0,none⟩=some (rI y):=by rw[hW];go_simp
 have k1:=af HW bo;have bh:W.heap.size=w.heap.size+2:=by rw[hW];simp
 obtain⟨U,bw⟩:=rX w.heap.size;rw[bw]at c0 c1 bh⊢;obtain⟨Z,bx⟩:=rX (U+1);rw[bx]at c1⊢;have al:U∉R:=λh=>by have:=aE U h;omega
 have am:Z∉R:=λh=>by have:=aE Z h;omega
 have bq:=hid (HE.out.below HW);have ax:Hid (U≠B/\Z≠B):=hid ⟨om,om⟩;have bj:Z<W.heap.size:=om;clear hW bo;go_cut [] (λwx=>Wv W R B (bT E x (some (jI Lx y))) wx)
 case first=>
  obtain⟨V,N,h1,h2,h3,h4,h5,h6,h7⟩:=bq.out
  obtain⟨u,hu⟩:∃u,V x=some u:=by
   cases hV:V x with
   |none=>have:=(h2 x).2 hV;rw[a6.out]at this;cases this
   |some u=>exact⟨u,rfl⟩
  have hO:=h3 x u Lx hu a6.out;have I:∀q,u.ownBlock=some q->q∈R:=λq hq=>h4 x u q hu hq
  have b1:(Instr.lookup 124 (.map (some B)) (rI x) false).run prog W.drew=.ok u W.drew:=by
   have:=((h1.below (aj (Below.refl _ W))).look (aF underlying3) underlying124 (z:=.slice none 0 0) (by simp[zeroValue119]) x).2;rw[hu]at this;exact this
  have ag:bf W.drew 0 u Lx:=hO.kept (T:=[]) (.of_below (aj (Below.refl _ W))) (λ_ _=>rS);have ac:MapAt iK W.drew B V N:=h1.below (aj (Below.refl _ W));have P:b∉u.ownBlock.toList:=λe=>by rw[Zv]at e;exact ao (I b e)
  have ar:U∉u.ownBlock.toList:=λe=>by rw[Zv]at e;exact al (I _ e)
  have aw:B∉u.ownBlock.toList:=λe=>by rw[Zv]at e;exact h5 (I B e)
  have aq:u.ownBlock≠some Z:=λe=>am (I _ e);have L:=hid (rN ag (rN ac (rN P (rN ar (rN aw aq)))));have H1:=hid h1;have H2:=hid h2;have H3:=hid h3;have H4:=hid h4;have H5:=hid h5;have H6:=hid h6;have H7:=hid h7;have Hu:=hid hu;clear h1 h2 h3 h4 h5 h6 h7 hO I ag ac P ar aw aq hu
  go_region_held3 (λw'=>w'.cell? ⟨b,1,none⟩=some (.map (some B))/\w'.cell? ⟨U,0,none⟩=some (rI x))
   (first
    |exact⟨k1,c0⟩
    |exact Q
    |exact a1)
   ((first
    |(go_at_call 129
      refine(RU _ u Lx Z _ L.out.1 b2 (show W.drew.cell? ⟨Z,0,none⟩=_ from c1) L.out.2.2.2.2.2).mono ?_;rintro e wI ⟨v',rfl,ai,m,aa⟩
      have Q:wI.cell? ⟨b,1,none⟩=some (.map (some B))/\wI.cell? ⟨U,0,none⟩=some (rI x):=
       ⟨aH (w:=W.drew) m L.out.2.2.1 k1,aH (w:=W.drew) m L.out.2.2.2.1 c0⟩
      have aS:MapAt iK wI B V N:=L.out.2.1.kept m L.out.2.2.2.2.1;obtain⟨wU,hU,ad,J⟩:=aS.store (aF underlying3) underlying124 x v';have hU:(Instr.mapUpdate 124 (.map (some B)) (rI x) v').run prog wI=.ok () wU:=hU
      have a1:wU.cell? ⟨b,1,none⟩=some (.map (some B))/\wU.cell? ⟨U,0,none⟩=some (rI x):=
       ⟨aH J (by simpa using a4) Q.1,aH J (by simpa using ax.out.1) Q.2⟩)))
  all_goals
   have ap:W.drew.grownBy wI u.ownBlock:=⟨m.os,m.tape,m.output,m.size,λk hk hn=>m.block k hk (by rw[Zv];exactλe=>hn e.symm)⟩;have F:=cz.put (w:=W) (w1:=W.drew) H1.out H2.out H3.out H4.out H5.out H6.out H7.out Hu.out (aj (Below.refl _ W)) ai ap (.inl aa) ad J;have F:=hid F;clear ap ai m aa ad J
  all_goals
   first
    |(go_meet;(case rel=>exact F.out))
    |(go_wp2;go_meet;(case rel=>exact F.out))
 case rest=>
  obtain⟨S1,ba,a0,ab⟩:=hcut
  have bk:U∉B::R:=by
   intro h;rcases Zd.1 h with h|h
   .exact ax.out.1 h
   .exact al h
  have bl:Z∉B::R:=by
   intro h;rcases Zd.1 h with h|h
   .exact ax.out.2 h
   .exact am h
  have P:b∉B::R:=by
   intro h;rcases Zd.1 h with h|h
   .exact a4 h
   .exact ao h
  have a8:=aH ab bk c0;have a9:=aH ab bl c1;have bm:=aH ab P k1
  have g:∀k,k<W.heap.size->k∉R->k∉S1:=λk hk hn h=>by
   rcases a0 k h with q|q
   .exact hn q
   .omega
  have bz:b<W.heap.size:=Zf b0 HW.size;have a2:U∉S1:=g U om al;have a3:Z∉S1:=g Z bj am;have bi:b∉S1:=g b bz ao;have bp:=hid ba;have ay:Hid (bT E x (some (jI Lx y)) y=some Ly):=hid (by unfold bT;rw[if_neg (Ne.symm bv.out)];exact bt.out);have a7:=hid a0;have a5:=hid ab;clear ba a0 ab bk bl P c0 c1 k1 g;have c0:=a9;have c1:=a8;have k1:=bm;clear a8 a9 bm;go_upto_region 2 with(fail);obtain⟨V,N,h1,h2,h3,h4,h5,h6,h7⟩:=bp.out
  obtain⟨u,hu⟩:∃u,V y=some u:=by
   cases hV:V y with
   |none=>have:=(h2 y).2 hV;rw[ay.out]at this;cases this
   |some u=>exact⟨u,rfl⟩
  have hO:=h3 y u Ly hu ay.out;have I:∀q,u.ownBlock=some q->q∈S1:=λq hq=>h4 y u q hu hq
  have b1:(Instr.lookup 124 (.map (some B)) (rI y) false).run prog wc.drew=.ok u wc.drew:=by
   have:=((h1.below (aj (Below.refl _ wc))).look (aF underlying3) underlying124 (z:=.slice none 0 0) (by simp[zeroValue119]) y).2;rw[hu]at this;exact this
  have ag:bf wc.drew 0 u Ly:=hO.kept (T:=[]) (.of_below (aj (Below.refl _ wc))) (λ_ _=>rS);have ac:MapAt iK wc.drew B V N:=h1.below (aj (Below.refl _ wc));have P:b∉u.ownBlock.toList:=λe=>by rw[Zv]at e;exact bi (I b e)
  have ar:Z∉u.ownBlock.toList:=λe=>by rw[Zv]at e;exact a3 (I _ e)
  have aw:B∉u.ownBlock.toList:=λe=>by rw[Zv]at e;exact h5 (I B e)
  have aq:u.ownBlock≠some U:=λe=>a2 (I _ e);have L:=hid (rN ag (rN ac (rN P (rN ar (rN aw aq)))));have H1:=hid h1;have H2:=hid h2;have H3:=hid h3;have H4:=hid h4;have H5:=hid h5;have H6:=hid h6;have H7:=hid h7;have Hu:=hid hu;clear h1 h2 h3 h4 h5 h6 h7 hO I ag ac P ar aw aq hu
  go_region_held3 (λw'=>w'.cell? ⟨b,1,none⟩=some (.map (some B))/\w'.cell? ⟨Z,0,none⟩=some (rI y))
   (first
    |exact⟨k1,c0⟩
    |exact Q
    |exact a1)
   ((first
    |(go_at_call 129
      refine(RX _ u Ly U _ L.out.1 b3 (show wc.drew.cell? ⟨U,0,none⟩=_ from c1) L.out.2.2.2.2.2).mono ?_;rintro e wI ⟨v',rfl,ai,m,aa⟩
      have Q:wI.cell? ⟨b,1,none⟩=some (.map (some B))/\wI.cell? ⟨Z,0,none⟩=some (rI y):=
       ⟨aH (w:=wc.drew) m L.out.2.2.1 k1,aH (w:=wc.drew) m L.out.2.2.2.1 c0⟩
      have aS:MapAt iK wI B V N:=L.out.2.1.kept m L.out.2.2.2.2.1;obtain⟨wU,hU,ad,J⟩:=aS.store (aF underlying3) underlying124 y v';have hU:(Instr.mapUpdate 124 (.map (some B)) (rI y) v').run prog wI=.ok () wU:=hU
      have a1:wU.cell? ⟨b,1,none⟩=some (.map (some B))/\wU.cell? ⟨Z,0,none⟩=some (rI y):=
       ⟨aH J (by simpa using a4) Q.1,aH J (by simpa using ax.out.2) Q.2⟩)))
  all_goals
   have ap:wc.drew.grownBy wI u.ownBlock:=⟨m.os,m.tape,m.output,m.size,λk hk hn=>m.block k hk (by rw[Zv];exactλe=>hn e.symm)⟩;have F:=cz.put (w:=wc) (w1:=wc.drew) H1.out H2.out H3.out H4.out H5.out H6.out H7.out Hu.out (aj (Below.refl _ wc)) ai ap (.inl aa) ad J;have F:=hid F;clear ap ai m aa ad J
  all_goals
   obtain⟨S2,bb,bg,M⟩:=F.out;have bh:=HW.size
   have O:Rq w R B (bT (bT E x (some (jI Lx y))) y (some (jI Ly x))) (.returned (.tuple #[])) wU:=by
    refine⟨rfl,S2,bb,λk hk=>?_,?_⟩
    .rcases bg k hk with q|q
     .rcases a7.out k q with r|r
      .exact .inl r
      .exact .inr om
     .have:=a5.out.size;exact .inr om
    .have S:Kept (B::R) w wc:=(Kept.of_below HW).trans a5.out
     refine⟨M.os.trans S.os,M.tape.trans S.tape,M.output.trans S.output,Zg S.size M.size,λk hk hn=>?_⟩;refine(M.block k (Zf hk S.size) ?_).trans (S.block k hk hn);intro hm;rcases Zd.1 hm with e|e
     .exact hn (by rw[e];simp)
     .rcases a7.out k e with q|q
      .exact hn (List.mem_cons_of_mem _ q)
      .omega
   have O:=hid O;clear bb bg M
   first
    |(go_end0;exact O.out)
    |(go_wp2;go_end0;exact O.out)
def nW(g:G)(N:Nat->Prop)(D:Nat->Nat->Prop)(E:Int->Option (List Ed)):Prop:=
 (∀z:Int,E z≠none↔∃c:Nat,z=c/\N c)/\∀(c:Nat)(L:List Ed),E c=some L->rQ L/\∀e,e∈L↔∃y:Nat,N y/\y≠c/\D c y/\e=⟨y,g.cZ c y,-1⟩
theorem bZ.sp{k:Nat->Nat->Prop}(h:bZ g k E):nW g g.av (λa b=>k a b/\g.aK a b) E:=by
 refine⟨h.1,λc L I=>⟨(h.2 c L I).1,λe=>?_⟩⟩;rw[(h.2 c L I).2 e];constructor
 .rintro⟨y,m,u,z,B,F⟩;exact⟨y,m,u,⟨z,B⟩,F⟩
 .rintro⟨y,m,u,⟨z,B⟩,F⟩;exact⟨y,m,u,z,B,F⟩
theorem nW.spec(h:nW g g.av g.aK E):bZ g (λ_ _=>True) E:=by
 refine⟨h.1,λc L B=>⟨(h.2 c L B).1,λe=>?_⟩⟩;rw[(h.2 c L B).2 e];constructor
 .rintro⟨y,k,m,u,z⟩;exact⟨y,k,m,trivial,u,z⟩
 .rintro⟨y,k,m,_,u,z⟩;exact⟨y,k,m,u,z⟩
theorem nW.node(h:nW g N D E)(m:E c=some L):N c:=by
 obtain⟨k,e,u⟩:=(h.1 c).1 (by rw[m];simp);obtain rfl:c=k:=om;exact u
theorem nW.congr{N O:Nat->Prop}{D J:Nat->Nat->Prop}(h:nW g N D E)(u:∀c,N c↔O c)(P:∀a b,N a->N b->a≠b->(D a b↔J a b))(R:∀a b,g'.cZ a b=g.cZ a b):nW g' O J E:=by
 refine⟨λz=>?_,λc L I=>⟨(h.2 c L I).1,λe=>?_⟩⟩
 .rw[h.1 z]
  exact exists_congr λc=>and_congr_right λ_=>u c
 .have Q:=h.node I
  rw[(h.2 c L I).2 e];constructor
  .rintro⟨y,k,m,B,F⟩;exact⟨y,(u y).1 k,m,(P c y Q k (Ne.symm m)).1 B,by rw[R];exact F⟩
  .rintro⟨y,k,m,B,F⟩;exact⟨y,(u y).2 k,m,(P c y Q ((u y).2 k) (Ne.symm m)).2 B,by rw[<-R];exact F⟩
theorem nW.facts{M:Nat}(h:nW g N D E)(J:M<=256)(B:∀c,N c->c<M)(F:N c):∃L,E c=some L/\rQ L/\(∀e∈L,aT e.to_)/\L.length<=1000/\∀e,e∈L↔∃y:Nat,N y/\y≠c/\D c y/\e=⟨y,g.cZ c y,-1⟩:=by
 have z:=(h.1 c).2 ⟨c,rfl,F⟩;cases m:E c with
 |none=>exact absurd m z
 |some L=>
  obtain⟨a,b⟩:=h.2 c L m
  have u:∀e∈L,0<=e.to_/\e.to_<M:=λe k=>by
   obtain⟨y,I,_,_,rfl⟩:=(b e).1 k;have:=B y I;simp only;omega
  refine⟨L,rfl,a,λe k=>?_,?_,b⟩
  .have:=u e k
   unfold aT;omega
  .have:=FN a M u
   omega
theorem zK:rQ L↔L.Pairwise (λa b=>a.to_<b.to_):=by
 rw[List.pairwise_iff_getElem];constructor
 .intro h i j m u k;exact h i j _ _ k (Zc m) (Zc u)
 .intro h i j a b k z B
  obtain⟨m,rfl⟩:=Zb.1 z;obtain⟨u,rfl⟩:=Zb.1 B;exact h i j m u k
theorem KC(h:rQ L)(t:Int):rQ (jI L t):=by
 rw[zK]at*;exact h.filter _
theorem J6:e∈jI L t↔e∈L/\e.to_≠t:=by
 unfold jI;simp
def Pr(a b x y:Nat):Prop:=(x=a/\y=b)\/(x=b/\y=a)
theorem nW.cut(h:nW g N D E){a b:Nat}(T:N a)(hb:N b)(R:a≠b){U Z:List Ed}(M:E a=some U)(S:E b=some Z):nW g N (λx y=>D x y/\¬Pr a b x y) (bT (bT E a (some (jI U b))) b (some (jI Z a))):=by
 obtain⟨sa,ma⟩:=h.2 a U M;obtain⟨sb,mb⟩:=h.2 b Z S;refine⟨λz=>?_,λc L u=>?_⟩
 .unfold bT
  by_cases O:z=(b:Int)
  .rw[if_pos O];exact⟨λ_=>⟨b,O,hb⟩,λ_=>rS⟩
  .rw[if_neg O]
   by_cases P:z=(a:Int)
   .rw[if_pos P];exact⟨λ_=>⟨a,P,T⟩,λ_=>rS⟩
   .rw[if_neg P];exact h.1 z
 .unfold bT at u
  by_cases O:(c:Int)=(b:Int)
  .rw[if_pos O]at u
   injection u with u
   obtain rfl:c=b:=om;subst u;refine⟨KC sb _,λe=>?_⟩;rw[J6,mb e];constructor
   .rintro⟨⟨y,B,F,I,rfl⟩,k⟩
    simp only at k;refine⟨y,B,F,⟨I,?_⟩,rfl⟩;rintro(⟨J,Q⟩|⟨J,Q⟩)
    .exact R J.symm
    .exact k (by rw[Q])
   .rintro⟨y,B,F,⟨I,k⟩,rfl⟩
    refine⟨⟨y,B,F,I,rfl⟩,?_⟩;simp only;intro r;exact k (.inr ⟨rfl,om⟩)
  .rw[if_neg O]at u
   by_cases P:(c:Int)=(a:Int)
   .rw[if_pos P]at u
    injection u with u
    obtain rfl:c=a:=om;subst u;refine⟨KC sa _,λe=>?_⟩;rw[J6,ma e];constructor
    .rintro⟨⟨y,B,F,I,rfl⟩,k⟩
     simp only at k;refine⟨y,B,F,⟨I,?_⟩,rfl⟩;rintro(⟨J,Q⟩|⟨J,Q⟩)
     .exact k (by rw[Q])
     .exact R J
    .rintro⟨y,B,F,⟨I,k⟩,rfl⟩
     refine⟨⟨y,B,F,I,rfl⟩,?_⟩;simp only;intro r;exact k (.inl ⟨rfl,om⟩)
   .rw[if_neg P]at u
    obtain⟨s,m⟩:=h.2 c L u;refine⟨s,λe=>?_⟩;rw[m e];constructor
    .rintro⟨y,B,F,I,k⟩
     refine⟨y,B,F,⟨I,?_⟩,k⟩;rintro(⟨J,Q⟩|⟨J,Q⟩)
     .exact P (by rw[J])
     .exact O (by rw[J])
    .rintro⟨y,B,F,⟨I,_⟩,k⟩;exact⟨y,B,F,I,k⟩
theorem nW.yes(h:nW g N D E){a b:Nat}(T:N a)(hb:N b)(O:a≠b)(h1:¬D a b)(h2:¬D b a){Q R:List Ed}(U:E a=some Q)(Z:E b=some R):nW g N (λx y=>D x y\/Pr a b x y) (bT (bT E a (some (ng Q ⟨b,g.cZ a b,-1⟩))) b (some (ng R ⟨a,g.cZ a b,-1⟩)))/\gU Q b=false/\gU R a=false:=by
 obtain⟨sa,ma⟩:=h.2 a Q U;obtain⟨sb,mb⟩:=h.2 b R Z
 have na:gU Q b=false:=by
  cases S:gU Q b with
  |false=>rfl
  |true=>
   obtain⟨e,M,B⟩:=kF.1 S;obtain⟨y,_,_,q,rfl⟩:=(ma e).1 M;simp only at B;obtain rfl:y=b:=om;exact absurd q h1
 have nb:gU R a=false:=by
  cases S:gU R a with
  |false=>rfl
  |true=>
   obtain⟨e,M,B⟩:=kF.1 S;obtain⟨y,_,_,q,rfl⟩:=(mb e).1 M;simp only at B;obtain rfl:y=a:=om;exact absurd q h2
 have aa:¬((b:Int)=(a:Int)):=om;refine⟨⟨λz=>?_,λc L u=>?_⟩,na,nb⟩
 .unfold bT
  by_cases B:z=(b:Int)
  .rw[if_pos B];exact⟨λ_=>⟨b,B,hb⟩,λ_=>rS⟩
  .rw[if_neg B]
   by_cases P:z=(a:Int)
   .rw[if_pos P];exact⟨λ_=>⟨a,P,T⟩,λ_=>rS⟩
   .rw[if_neg P];exact h.1 z
 .unfold bT at u
  by_cases B:(c:Int)=(b:Int)
  .rw[if_pos B]at u
   injection u with u
   obtain rfl:c=b:=om;subst u;refine⟨oV sb nb,λe=>?_⟩;rw[oK,mb e];constructor
   .rintro(rfl|⟨y,F,I,J,k⟩)
    .exact⟨a,T,O,.inr (.inr ⟨rfl,rfl⟩),by rw[G.fH]⟩
    .exact⟨y,F,I,.inl J,k⟩
   .rintro⟨y,F,I,J|⟨rfl,rfl⟩|⟨_,rfl⟩,k⟩
    .exact .inr ⟨y,F,I,J,k⟩
    .exact absurd rfl O
    .exact .inl (by rw[k,G.fH])
  .rw[if_neg B]at u
   by_cases P:(c:Int)=(a:Int)
   .rw[if_pos P]at u
    injection u with u
    obtain rfl:c=a:=om;subst u;refine⟨oV sa na,λe=>?_⟩;rw[oK,ma e];constructor
    .rintro(rfl|⟨y,F,I,J,k⟩)
     .exact⟨b,hb,Ne.symm O,.inr (.inl ⟨rfl,rfl⟩),rfl⟩
     .exact⟨y,F,I,.inl J,k⟩
    .rintro⟨y,F,I,J|⟨_,rfl⟩|⟨rfl,rfl⟩,k⟩
     .exact .inr ⟨y,F,I,J,k⟩
     .exact .inl k
     .exact absurd rfl O
   .rw[if_neg P]at u
    obtain⟨s,m⟩:=h.2 c L u;refine⟨s,λe=>?_⟩;rw[m e];constructor
    .rintro⟨y,F,I,J,k⟩;exact⟨y,F,I,.inl J,k⟩
    .rintro⟨y,F,I,J|⟨rfl,_⟩|⟨rfl,_⟩,k⟩
     .exact⟨y,F,I,J,k⟩
     .exact absurd rfl P
     .exact absurd rfl B
theorem nW.add(h:nW g N D E)(P:¬N c):nW g (λz=>N z\/z=c) (λx y=>D x y/\x≠c/\y≠c) (bT E c (some [])):=by
 refine⟨λz=>?_,λx L B=>?_⟩
 .unfold bT
  by_cases e:z=(c:Int)
  .rw[if_pos e];exact⟨λ_=>⟨c,e,.inr rfl⟩,λ_=>rS⟩
  .rw[if_neg e,h.1 z]
   constructor
   .rintro⟨y,k,u⟩;exact⟨y,k,.inl u⟩
   .rintro⟨y,k,u|u⟩
    .exact⟨y,k,u⟩
    .exact absurd (by rw[k,u]) e
 .unfold bT at B
  by_cases e:(x:Int)=(c:Int)
  .rw[if_pos e]at B
   injection B with B
   subst B;refine⟨λi j a b _ O=>by simp at O,λJ=>?_⟩;constructor
   .intro h;simp at h
   .rintro⟨y,_,_,⟨_,q,_⟩,_⟩;exact absurd om q
  .rw[if_neg e]at B
   obtain⟨s,m⟩:=h.2 x L B;refine⟨s,λJ=>?_⟩;rw[m J];constructor
   .rintro⟨y,k,u,F,I⟩
    exact⟨y,.inl k,u,⟨F,λr=>e (by rw[r]),λr=>P (by rw[<-r];exact k)⟩,I⟩
   .rintro⟨y,k|k,u,⟨F,_,Q⟩,I⟩
    .exact⟨y,k,u,F,I⟩
    .exact absurd k Q
theorem nW.sub(h:nW g N D E)(Q:∀x,N x->x≠c->¬D x c):nW g (λz=>N z/\z≠c) (λx y=>D x y/\x≠c/\y≠c) (bT E c none):=by
 refine⟨λz=>?_,λx L B=>?_⟩
 .unfold bT
  by_cases e:z=(c:Int)
  .rw[if_pos e]
   refine⟨λh=>absurd rfl h,?_⟩;rintro⟨y,k,_,u⟩;exact absurd om u
  .rw[if_neg e,h.1 z]
   constructor
   .rintro⟨y,k,u⟩;exact⟨y,k,u,λr=>e (by rw[k,r])⟩
   .rintro⟨y,k,u,_⟩;exact⟨y,k,u⟩
 .unfold bT at B
  by_cases e:(x:Int)=(c:Int)
  .rw[if_pos e]at B;cases B
  .rw[if_neg e]at B
   have R:=h.node B;have F:x≠c:=λr=>e (by rw[r]);obtain⟨s,m⟩:=h.2 x L B;refine⟨s,λP=>?_⟩;rw[m P];constructor
   .rintro⟨y,k,u,J,O⟩
    have I:y≠c:=λr=>Q x R F (by rw[<-r];exact J);exact⟨y,⟨k,I⟩,u,⟨J,F,I⟩,O⟩
   .rintro⟨y,⟨k,_⟩,u,⟨J,_⟩,O⟩;exact⟨y,k,u,J,O⟩
def NF(w:World)(b p mb:Nat)(S:List Nat)(g:G)(v:Int)(N:Nat->Prop)(D:Nat->Nat->Prop)(e:Ending)(w':World):Prop:=
 e=.returned (.tuple #[])/\∃S' E',aJ w' b p mb S' g v E'/\nW g N D E'/\(∀k∈S',k∈S\/w.heap.size<=k)/\Kept (mb::S) w w'
theorem Hf(w:World)(b p Z:Nat)(S:List Nat)(g:G)(v:Int)(E:Int->Option (List Ed))(N:Nat->Prop)(D:Nat->Nat->Prop)(x y:Nat)(h:aJ w b p Z S g v E)(hS:nW g N D E)(Q:∀c,N c->c<g.n/\g.b c=false)(hx:N x)(hy:N y)(a5:x≠y)(h1:¬D x y)(h2:¬D y x):Calls prog 82 #[vP b,rI (x:Nat),rI (y:Nat)] w (NF w b p Z S g v N (λa c=>D a c\/(Pr x y a c/\g.aK a c))):=by
 have hg:=h.2.1;have a3:=hg.1;have aw:=G.bA a3;obtain⟨xn,xf⟩:=Q x hx;obtain⟨yn,yf⟩:=Q y hy;have ac:w.cell? ⟨b,0,none⟩=some (vP p):=by simp[World.cell?,h.1]
 obtain⟨t,ht⟩:=Jn (g.aK x y);have Ht:=hid ht;have cD:=hid (jS w p g v x y t hg xn yn xf yf ht);have H:=hid h;have HS:=hid hS;have Hd:=hid (rN h1 h2);have ad:=hid Q;clear h hS ht h1 h2 hg Q;go_enter func82,ntmps82;go_wp2_with fail;(with_reducible refine cD.out.mono ?_);rintro e w1 ⟨rfl,F⟩;clear cD;cases t with
 |false=>
  have a0:¬g.aK x y:=λhh=>by have:=Ht.out.2 hh;cases this
  have m:NF w b p Z S g v N (λa c=>D a c\/(Pr x y a c/\g.aK a c)) (.returned (.tuple #[])) w1:=by
   refine⟨rfl,S,E,H.out.below F,HS.out.congr (λ_=>Iff.rfl) (λa c _ _ _=>?_) (λ_ _=>rfl),λk hk=>.inl hk,Kept.of_below F⟩;constructor
   .exact .inl
   .rintro(q|⟨⟨rfl,rfl⟩|⟨rfl,rfl⟩,q⟩)
    .exact q
    .exact absurd q a0
    .exact absurd (G.gW.1 q) a0
  have m:=hid m;clear Ht;go_wp2;go_end0;exact m.out
 |true=>
  have M:g.aK x y:=Ht.out.1 rfl;obtain⟨Lx,aq,sx,ix,lx,_⟩:=HS.out.facts aw (λc hc=>(ad.out c hc).1) hx;obtain⟨Ly,ar,sy,iy,ly,_⟩:=HS.out.facts aw (λc hc=>(ad.out c hc).1) hy;have P:=H.out.below F;have aS:aC w1 p g v:=P.2.1;have ac:=af F ac;have U:=HS.out.yes hx hy a5 Hd.out.1 Hd.out.2 aq ar
  have J:nW g N (λa c=>D a c\/(Pr x y a c/\g.aK a c)) (bT (bT E x (some (ng Lx ⟨y,g.cZ x y,-1⟩))) y (some (ng Ly ⟨x,g.cZ x y,-1⟩))):=by
   refine U.1.congr (λ_=>Iff.rfl) (λa c _ _ _=>?_) (λ_ _=>rfl);constructor
   .rintro(q|q)
    .exact .inl q
    .refine .inr ⟨q,?_⟩
     rcases q with⟨rfl,rfl⟩|⟨rfl,rfl⟩
     .exact M
     .exact G.gW.1 M
   .rintro(q|⟨q,_⟩)
    .exact .inl q
    .exact .inr q
  clear U;obtain⟨⟨os,od⟩,ho⟩:=rX (g.cZ x y);rw[ho]at J;have U:=hid J;have a4:aT (x:Int):=by unfold aT;omega
  have a6:aT (y:Int):=by unfold aT;omega
  clear Ht J;go_wp2_with fail;(with_reducible refine(Cs _ p g v x y ⟨os,od⟩ aS xn yn ho).mono ?_);rintro e w2 ⟨rfl,ab⟩;go_upto_region 3 with(fail);refine aB ?_;intro W hW;have HW:Below w2.heap.size w2 W:=by rw[hW];exact be
  have o0:W.cell? ⟨w2.heap.size,0,none⟩=some (rI os):=by rw[hW];go_simp
  have o1:W.cell? ⟨w2.heap.size,1,none⟩=some (rI od):=by rw[hW];go_simp
  have T:=ae ab HW;have ao:=P.below T;have O:=ae F T
  have R:w2.heap.size∉Z::S:=by
   have hE:=P.2.2.1;have a7:=hE.lt;obtain⟨V,N,q1,q2,q3,q4,q5,q6,q7⟩:=hE;have a8:=ab.size;intro hh;rcases Zd.1 hh with e|e
   .omega
   .have:=q7 _ e;omega
  obtain⟨b8,aE⟩:=rX w2.heap.size;rw[aE]at o0 o1 R⊢;have a2:=hid ao;obtain⟨g1,g2,g3,g4,g5,g6,g7,g8⟩:=ao;have c1:=hid (sM W S b p Z E (x:Nat) ⟨(y:Nat),⟨os,od⟩,-1⟩ Lx g1 g3 g4 g6 aq sx ix a6 lx);clear hW aE HW T P ab F ac g1 g2 g3 g4 g5 g6 g7 g8;go_wp2_with fail
  (refine c1.out.mono ?_)
  rintro e w3 ⟨rfl,S1,ag,aa,I⟩;have al:=a2.out.put ag aa I;have o0:=aH I R o0;have o1:=aH I R o1
  have L:bT E (x:Nat) (some (ng Lx ⟨(y:Nat),⟨os,od⟩,-1⟩)) (y:Nat)=some Ly:=by
   unfold bT;rw[if_neg om];exact ar
  have a1:=hid al;obtain⟨g1,g2,g3,g4,g5,g6,g7,g8⟩:=al;have c2:=hid (sM w3 S1 b p Z _ (y:Nat) ⟨(x:Nat),⟨os,od⟩,-1⟩ Ly g1 g3 g4 g6 L sy iy a4 ly);clear c1 ag g1 g2 g3 g4 g5 g6 g7 g8 L R;go_wp2_with fail
  (refine c2.out.mono ?_)
  rintro e w4 ⟨rfl,S2,ai,ax,u⟩;have am:=a1.out.put ai ax u
  have ap:Kept (Z::S) w w4:=by
   have B:Kept (Z::S) w w3:=(Kept.of_below O).trans I;refine⟨u.os.trans B.os,u.tape.trans B.tape,u.output.trans B.output,Zg B.size u.size,λk hk hn=>?_⟩;refine(u.block k (Zf hk B.size) ?_).trans (B.block k hk hn);intro hm;rcases Zd.1 hm with e|e
   .exact hn (by rw[e];simp)
   .rcases aa k e with q|q
    .exact hn (List.mem_cons_of_mem _ q)
    .have:=O.size;omega
  have ay:∀k∈S2,k∈S\/w.heap.size<=k:=λk hk=>by
   rcases ax k hk with q|q
   .rcases aa k q with r|r
    .exact .inl r
    .have:=O.size;exact .inr om
   .have:=I.size;have:=O.size;exact .inr om
  have m:NF w b p Z S g v N (λa c=>D a c\/(Pr x y a c/\g.aK a c)) (.returned (.tuple #[])) w4:=⟨rfl,S2,_,am,U.out,ay,ap⟩;have m:=hid m;clear ai am ay ap;go_wp2;go_end0;exact m.out
def Nr(w:World)(P:Prop)(e:Ending)(w':World):Prop:=∃t:Bool,e=.returned (.bool t)/\(t=true↔P)/\Below w.heap.size w w'
theorem Ct(w:World)(b p:Nat)(g:G)(v:Int)(mv:Value)(x y:Nat)(X Y:Int)(U:w.heap[b]? =some (.cells #[vP p,mv] 165 (0,0)))(O:aC w p g v)(hx:x<g.n)(hy:y<g.n)(hX: -100<=X/\X<=100)(hY: -100<=Y/\Y<=100):Calls prog 79 #[vP b,rI (x:Nat),rI (y:Nat),rI X,rI Y] w (Nr w (g.xS x y X Y)):=by
 have J:=O.1;have R:w.cell? ⟨b,0,none⟩=some (vP p):=by simp[World.cell?,U]
 obtain⟨o1,o2,o3,o4⟩:=O.1;have x1:=G.ji J x;have x2:=G.ji J y;have y1:=G.iJ hx;have y2:=G.iJ hy
 have m:Nr w (g.xS x y X Y)=Nr w ((((g.X x:Int)-1<=X\/(g.X y:Int)-1<=X)/\(X<=g.X x+1\/X<=g.X y+1))/\(((g.Y x:Int)-1<=Y\/(g.Y y:Int)-1<=Y)/\(Y<=g.Y x+1\/Y<=g.Y y+1))):=by
  congr 1;unfold G.xS;simp only[and_assoc]
 rw[m];clear m;have Z:=hid (aU w p g v x O hx);have L:=hid (λw'(U:Below w.heap.size w w')=>aU w' p g v y (O.below U O.lt) hy);obtain⟨ax,u⟩:=rX (((g.X x:Nat):Int));obtain⟨ay,B⟩:=rX (((g.Y x:Nat):Int));obtain⟨bx,F⟩:=rX (((g.X y:Nat):Int));obtain⟨P,I⟩:=rX (((g.Y y:Nat):Int));rw[u,B]at Z;rw[F,I]at L;rw[u,B,F,I];have S:0<=ax/\ax<=16:=om;have T:0<=ay/\ay<=16:=om;have a3:0<=bx/\bx<=16:=om;have a4:0<=P/\P<=16:=om;clear u B F I x1 x2 y1 y2 O J U;obtain⟨S,aa⟩:=S;obtain⟨T,ab⟩:=T;obtain⟨a3,ac⟩:=a3;obtain⟨a4,ad⟩:=a4;obtain⟨X1,X2⟩:=hX;obtain⟨Y1,Y2⟩:=hY;go_enter func79,ntmps79;go_wp2_with fail;(with_reducible refine Z.out.mono ?_);rintro e w1 ⟨rfl,k⟩;have M:=af k R;go_wp2_with fail;(with_reducible refine(L.out _ k).mono ?_);rintro e w2 ⟨rfl,Q⟩;have hB:=ae k Q;clear Z L R M k Q;go_wp2
 all_goals
  go_ret;exact⟨_,rfl,so,hB⟩
def NV(w:World)(e:Ending)(w':World):Prop:=∃t:Bool,e=.returned (.bool t)/\Below w.heap.size w w'
def Rv(w:World)(e:Ending)(w':World):Prop:=∃t:Int,e=.returned (rI t)/\Below w.heap.size w w'
theorem LP(w:World)(A:Option Addr)(n m:Nat)(f:Nat->Int)(x:Int)(h:Ints w A n f)(Z:n<=100000):Calls prog 128 #[.slice A n m,rI x] w (Rv w):=by
 have H:=hid h;clear h;go_enter func128,ntmps128;go_wp2_with fail;go_loopw [8] (λI wr=>∃k:Nat,I=rI k/\k<=n/\Below w.heap.size w wr) (λI _=>n-(intOf I).toNat)
 case atStart=>exact⟨0,rfl,om,br⟩
 case round=>
  obtain⟨k,rfl,U,z⟩:=hrel;by_cases u:k<n
  .have B:=H.out.below z
   obtain⟨R,F⟩:=B.addr om;rw[F]at B;have P:=λQ=>aP (m:=m) F u Q;have O:=B.cell br u;obtain⟨y,J⟩:=rX (f k);rw[J]at O;clear B F J;go_wp2
   .go_ret
    exact⟨_,rfl,z⟩
   .go_roundw
    case rel=>exact⟨k+1,by go_num,om,z⟩
    case measure=>exact rM
  .obtain rfl:k=n:=om
   go_wp2;go_ret;exact⟨_,rfl,z⟩
theorem CG(w:World)(A:Option Addr)(n m:Nat)(f:Nat->Int)(x:Int)(h:Ints w A n f)(z:n<=100000):Calls prog 80 #[.slice A n m,rI x] w (NV w):=by
 have u:=hid (LP w A n m f x h z);clear h;go_enter func80,ntmps80;go_wp2_with fail;(with_reducible refine u.out.mono ?_);rintro e B ⟨t,rfl,k⟩;go_wp2;go_ret;exact⟨_,rfl,k⟩
def DJ(g:G)(N:Nat->Prop)(c:Nat)(z:Nat):Prop:=(z=c/\g.av c)\/(z≠c/\N z)
def DI(g:G)(N:Nat->Prop)(D:Nat->Nat->Prop)(c a b:Nat):Prop:=D a b/\((a≠c/\b≠c)\/(g.av c/\N c))
def Je(w:World)(b p mb:Nat)(S:List Nat)(g:G)(v:Int)(N:Nat->Prop)(D:Nat->Nat->Prop)(c:Nat)(e:Ending)(w':World):Prop:=
 ∃(t:Bool)(S':List Nat)(E':Int->Option (List Ed)),e=.returned (.bool t)/\aJ w' b p mb S' g v E'/\nW g (DJ g N c) (DI g N D c) E'/\(∀k∈S',k∈S\/w.heap.size<=k)/\Kept (mb::S) w w'
theorem cz.drop{w O:World}{mb N P:Nat}{V:Int->Option Value}{a:Int}(h1:MapAt iK w mb V N)(g:∀k,E k=none↔V k=none)(M:∀k u L,V k=some u->E k=some L->bf w 0 u L)(Q:∀k u q,V k=some u->u.ownBlock=some q->q∈S)(R:mb∉S)(T:∀k F u Z q,V k=some u->V F=some Z->u.ownBlock=some q->Z.ownBlock=some q->k=F)(h7:∀s,s∈S->s<w.heap.size)(hM:MapAt iK O mb (aN V a none) P)(U:Kept [mb] w O):cz O S mb (bT E a none):=by
 refine⟨_,P,hM,λk=>?_,λk x L m I=>?_,λk x q m B=>?_,R,λk F x x' q m z B J=>?_,λs hs=>Zf (h7 s hs) U.size⟩
 .unfold bT aN
  split
  .simp
  .exact g k
 .unfold bT at I
  unfold aN at m;split at m
  .cases m
  .rename_i e
   rw[if_neg e]at I
   exact(M k x L m I).kept U (λq B=>by
    have:=Q k x q m B;simp;rintro rfl;exact R this)
 .unfold aN at m
  split at m
  .cases m
  .exact Q k x q m B
 .unfold aN at m z
  split at m
  .cases m
  .split at z
   .cases z
   .exact T k F x x' q m z B J
def Ns(D:Nat->Nat->Prop)(L:List Ed)(c k a b:Nat):Prop:=D a b/\∀(j:Nat)(e:Ed),j<k->L[j]? =some e->∀y:Nat,e.to_=y->¬Pr c y a b
def UL(w w1:World)(b p mb:Nat)(S:List Nat)(g:G)(v:Int)(N:Nat->Prop)(D:Nat->Nat->Prop)(c:Nat)(L:List Ed)(A:Option Addr)(k:Nat)(wr:World):Prop:=
 ∃S' E',aJ wr b p mb S' g v E'/\nW g N (Ns D L c k) E'/\(∀k∈S',k∈S\/w.heap.size<=k)/\Kept (mb::S) w wr/\bP wr A L/\(∀ad,A=some ad->ad.block∉mb::S')
theorem LX(h:Kept (mb::S) w w1)(k:Kept (mb::S1) w1 w2)(z:∀q∈S1,q∈S\/w.heap.size<=q):Kept (mb::S) w w2:=
 ⟨k.os.trans h.os,k.tape.trans h.tape,k.output.trans h.output,Zg h.size k.size,λq u m=>by
  refine(k.block q (Zf u h.size) ?_).trans (h.block q u m);intro B;rcases Zd.1 B with e|e
  .exact m (by rw[e];simp)
  .rcases z q e with r|r
   .exact m (List.mem_cons_of_mem _ r)
   .omega⟩
theorem pO(B:w.heap.size<=w1.heap.size)(m:∀k∈S1,k∈S\/w.heap.size<=k)(u:∀k∈S2,k∈S1\/w1.heap.size<=k):∀k∈S2,k∈S\/w.heap.size<=k:=λk z=>by
 rcases u k z with q|q
 .exact m k q
 .exact .inr om
theorem cz.qp(h:cz w S mb E):∀s∈S,s<w.heap.size:=by
 obtain⟨_,_,_,_,_,_,_,_,k⟩:=h;exact k
theorem LD(w:World)(b p R:Nat)(S:List Nat)(g:G)(v:Int)(E:Int->Option (List Ed))(N:Nat->Prop)(D:Nat->Nat->Prop)(c:Nat)(h:aJ w b p R S g v E)(hS:nW g N D E)(bz:∀c,N c->c<g.n)(hc:c<g.n)(a6:∀a b,D a b->D b a):Calls prog 78 #[vP b,rI (c:Nat)] w (Je w b p R S g v N D c):=by
 have hg:=h.2.1;have cg:=hg.1;have bc:=G.bA cg;have cj:w.cell? ⟨b,0,none⟩=some (vP p):=by simp[World.cell?,h.1]
 have al:w.cell? ⟨b,1,none⟩=some (.map (some R)):=by simp[World.cell?,h.1]
 obtain⟨t,ht⟩:=rX (aQ g c);have a0:t=true↔g.av c:=by rw[<-ht];exact fU hc
 have cI:=oz w p g v c hg hc;rw[ht]at cI;have cI:=hid cI;have O:=hid a0;have H:=hid h;have HS:=hid hS;have a9:=hid bz;have bo:=hid a6;obtain⟨_,_,⟨V,n0,q1,q2,q3,q4,q5,q6,q7⟩,_⟩:=h;have Q:=hid (rN q1 (rN q2 (rN q3 (rN q4 (rN q5 (rN q6 q7))))))
 have bi:∀w',Below w.heap.size w w'->(Instr.lookup 124 (.map (some R)) (rI (c:Nat)) true).run prog w'=.ok (.tuple #[(V c).getD (.slice none 0 0),.bool (V c).isSome]) w':=λw' hb=>
  ((q1.below hb).look (aF underlying3) underlying124 (z:=.slice none 0 0) (by simp[zeroValue119]) (c:Int)).1
 have bd:(V c).isSome=true↔N c:=by
  have h1:=hS.1 c;have h2:=q2 c;constructor
  .intro hv
   obtain⟨c',e,hn⟩:=h1.1 (λe=>by rw[h2.1 e]at hv;cases hv);obtain rfl:c=c':=om;exact hn
  .intro hn
   cases hV:V c with
   |none=>exact absurd (h2.2 hV) (h1.2 ⟨c,rfl,hn⟩)
   |some _=>rfl
 obtain⟨u,hu⟩:=rX ((V c).getD (.slice none 0 0));obtain⟨s,hs⟩:=rX ((V c).isSome);rw[hu,hs]at bi;rw[hs]at bd;have b9:=hid bi;have Z:=hid bd;have Hu:=hid hu;have Hs:=hid hs;clear hS bz a6 q1 q2 q3 q4 q5 q6 q7 hg ht a0 bi bd hu hs;go_enter func78,ntmps78;go_wp2_with fail;(with_reducible refine cI.out.mono ?_);rintro e w1 ⟨rfl,F⟩;have al:=af F al;have ce:=b9.out _ F;have H1:=hid (H.out.below F);clear cI cj
 have ag:(t=true/\s=true)\/(t=false/\s=false)->Je w b p R S g v N D c (.returned (.bool false)) w1:=by
  intro b6;refine⟨false,S,E,rfl,H1.out,HS.out.congr (λz=>?_) (λx y hx hy _=>?_) (λ_ _=>rfl),λk hk=>.inl hk,Kept.of_below F⟩
  .unfold DJ
   by_cases e:z=c
   .subst e
    rcases b6 with⟨r1,r2⟩|⟨r1,r2⟩
    .have:=O.out.1 r1;have:=Z.out.1 r2;simp[*]
    .have n1:¬N z:=λhh=>by have:=Z.out.2 hh;rw[r2]at this;cases this
     have n2:¬g.av z:=λhh=>by have:=O.out.2 hh;rw[r1]at this;cases this
     simp[n1,n2]
   .simp[e]
  .unfold DI
   refine⟨λhd=>⟨hd,?_⟩,λhd=>hd.1⟩;rcases b6 with⟨r1,r2⟩|⟨r1,r2⟩
   .exact .inr ⟨O.out.1 r1,Z.out.1 r2⟩
   .left
    have n1:¬N c:=λhh=>by have:=Z.out.2 hh;rw[r2]at this;cases this
    exact⟨λe=>n1 (by rw[<-e];exact hx),λe=>n1 (by rw[<-e];exact hy)⟩
 have I:=hid ag;clear ag;cases t with
 |true=>
  cases s with
  |true=>
   have B:=hid (I.out (.inl ⟨rfl,rfl⟩));clear I F;go_wp2;go_ret;exact B.out
  |false=>
   clear I;have b4:¬N c:=λhh=>by have:=Z.out.2 hh;cases this
   have cb:g.av c:=O.out.1 rfl;obtain⟨wU,hU,bw,ar⟩:=(Q.out.1.below F).store (aF underlying3) underlying124 (c:Int) (.slice none 0 0);have hU:(Instr.mapUpdate 124 (.map (some R)) (rI (c:Nat)) (.slice none 0 0)).run prog w1=.ok () wU:=hU;have ab:cz wU S R (bT E c (some [])):=cz.add (Q.out.1.below F) Q.out.2.1 (λk u L a1 a2=>(Q.out.2.2.1 k u L a1 a2).kept (T:=[]) (.of_below F) (λ_ _=>rS)) Q.out.2.2.2.1 Q.out.2.2.2.2.1 Q.out.2.2.2.2.2.1 (λs hs=>Zf (Q.out.2.2.2.2.2.2 s hs) F.size) bw ar
   have B:Je w b p R S g v N D c (.returned (.bool true)) wU:=by
    refine⟨true,S,_,rfl,H1.out.put ab (λk hk=>.inl hk) (ar.wid rS),(HS.out.add b4).congr (λz=>?_) (λx y _ _ _=>?_) (λ_ _=>rfl),λk hk=>.inl hk,(Kept.of_below F).trans (ar.wid rS)⟩
    .unfold DJ
     by_cases e:z=c
     .subst e;simp[cb]
     .simp[e]
    .unfold DI
     constructor
     .rintro⟨a1,a2,a3⟩;exact⟨a1,.inl ⟨a2,a3⟩⟩
     .rintro⟨a1,a2|⟨_,a2⟩⟩
      .exact⟨a1,a2⟩
      .exact absurd a2 b4
   have B:=hid B;clear ab bw ar F;go_wp2;go_ret;exact B.out
 |false=>
  cases s with
  |false=>
   have B:=hid (I.out (.inr ⟨rfl,rfl⟩));clear I F;go_wp2;go_ret;exact B.out
  |true=>
   clear I;have hN:N c:=Z.out.1 rfl;have b5:¬g.av c:=λhh=>by have:=O.out.2 hh;cases this
   obtain⟨L,hL,sL,iL,lL,mL⟩:=HS.out.facts bc a9.out hN
   have b1:V c=some u:=by
    have a:=Hu.out;have b:=Hs.out;cases hV:V c with
    |none=>rw[hV]at b;cases b
    |some x=>rw[hV]at a;simp at a;rw[a]
   have b0:bf w1 0 u L:=(Q.out.2.2.1 c u L b1 hL).kept (T:=[]) (.of_below F) (λ_ _=>rS);have cC:=hid (JA w1 0 u L b0 om);have bl:=hid mL;have bj:=hid F;clear hL b1 b0 mL F iL sL;go_wp2_with fail;(with_reducible refine cC.out.mono ?_);rintro e w2 ⟨A,m,rfl,bt,bp,bg⟩;have ac:=ae bj.out bg
   have hstart:UL w w2 b p R S g v N D c L A 0 w2:=by
    refine⟨S,E,H1.out.below bg,HS.out.congr (λ_=>Iff.rfl) (λx y _ _ _=>?_) (λ_ _=>rfl),λk hk=>.inl hk,Kept.of_below ac,bt,λad e hm=>?_⟩
    .unfold Ns
     exact⟨λhd=>⟨hd,λj e hj=>om⟩,λhd=>hd.1⟩
    .have h1:=bp ad e
     have h2:=bj.out.size;have h3:=H.out.2.2.1.lt;have h4:=H.out.2.2.1.qp;rcases Zd.1 hm with r|r
     .omega
     .have:=h4 _ r;omega
   obtain⟨n,hn⟩:=rX L.length;rw[hn]at lL⊢;have Hn:=hid hn;have ck:=hid ac;clear ce cC bt bp bg hn al ac H1;go_wp2_with fail;go_loopw [49] (λkv wr=>∃k:Nat,kv=rI k/\k<=n/\UL w w2 b p R S g v N D c L A k wr) (λkv _=>n-(intOf kv).toNat)
   case atStart=>exact⟨0,rfl,om,hstart⟩
   case round=>
    obtain⟨k,rfl,hk,S1,E1,J,aa,aw,ap,U,hA1⟩:=hrel;clear hstart;by_cases b3:k<n
    .obtain⟨ek,ay⟩:∃e,L[k]? =some e:=⟨L[k]'(by rw[Hn.out];exact b3),Zc _⟩
     obtain⟨y,b8,ci,co,b2⟩:=(bl.out ek).1 (Ze ay);obtain⟨os,b7⟩:=rX (g.cZ c y);rw[b7]at b2;subst b2;obtain⟨ga,hA,a1,a2,a3,a4⟩:=U.get ay;have cd:=λwx=>gZ (m:=m) hA b3 wx;simp only at a1 a2 a3 a4;obtain⟨os,od⟩:=os;simp only at a1 a2 a3 a4;obtain⟨Lc,ba,_,_,lc,_⟩:=aa.facts bc a9.out hN;obtain⟨Ly,bb,_,_,ly,_⟩:=aa.facts bc a9.out b8;have bk:=hid ay;have a8:=hid J;have ca:=hid (aa.cut hN b8 (Ne.symm ci) ba bb);have ao:=hid aw;have am:=hid ap;have aS:=hid U;have a7:=hid hA1;have cT:=hid (λw'(hb:Below wr.heap.size wr w')=>Ex w' S1 b p R E1 (c:Nat) (y:Nat) Lc Ly (J.below hb).1 (J.below hb).2.2.1 J.2.2.2.1 J.2.2.2.2.2.1 ba bb om om om);clear ay b7 hA J aa aw ap U hA1 ba bb;go_upto_region 10 with(fail);refine aB ?_;intro W hW;have HW:Below wr.heap.size wr W:=by rw[hW];exact be
     have e0:W.cell? ⟨wr.heap.size,0,none⟩=some (rI (y:Nat)):=by rw[hW];go_simp
     obtain⟨bx,bh⟩:=rX wr.heap.size;have cl:=hid bh;rw[bh]at e0⊢;clear hW a1 a2 a3 a4 cd bh;go_wp2_with fail
     (refine(cT.out _ HW).mono ?_)
     rintro e w3 ⟨rfl,S2,ab,ax,aq⟩
     have B:UL w w2 b p R S g v N D c L A (k+1) w3:=by
      refine⟨S2,_,(a8.out.below HW).put ab ax aq,ca.out.congr (λ_=>Iff.rfl) (λx z _ _ _=>?_) (λ_ _=>rfl),?_,?_,?_,?_⟩
      .unfold Ns
       constructor
       .rintro⟨⟨d1,M⟩,d3⟩
        refine⟨d1,λj e hj he y' ai=>?_⟩;by_cases ej:j=k
        .subst ej
         rw[bk.out]at he;injection he with he
         subst he;simp only at ai;obtain rfl:y=y':=om;exact d3
        .exact M j e om he y' ai
       .rintro⟨d1,M⟩
        exact⟨⟨d1,λj e hj he y' ai=>M j e om he y' ai⟩,M k _ om bk.out y rfl⟩
      .exact pO (Zg am.out.size HW.size) ao.out ax
      .exact LX (am.out.trans (Kept.of_below HW)) aq ao.out
      .exact((aS.out.below HW).kept aq (λad e=>a7.out ad e))
      .intro ad e hm
       have cn:ad.block<wr.heap.size:=by
        obtain⟨ga,e2,hl,_⟩:=aS.out (by rw[Hn.out];omega);rw[e2]at e;injection e with e
        rw[<-e];exact hl
       rcases Zd.1 hm with r|r
       .exact a7.out ad e (by rw[r];simp)
       .rcases ax _ r with q|q
        .exact a7.out ad e (List.mem_cons_of_mem _ q)
        .have:=HW.size;omega
     have B:=hid B;clear ab ax aq HW e0 cT;go_wp2;go_roundw
     case rel=>refine rR ?_;exact⟨k+1,by go_num,om,B.out⟩
     case measure=>exact rM
    .obtain rfl:k=n:=om
     have hD:∀x,N x->x≠c->¬Ns D L c k x c:=by
      rintro x hx ch ⟨d1,M⟩;have hm:=(bl.out ⟨x,g.cZ c x,-1⟩).2 ⟨x,hx,ch,bo.out _ _ d1,rfl⟩;obtain⟨j,hj⟩:=Zo hm;have cm:=(Zb.1 hj).1;exact M j _ (by have:=Hn.out;omega) hj x rfl (.inr ⟨rfl,rfl⟩)
     have a5:=aa.sub hD;have al:wr.cell? ⟨b,1,none⟩=some (.map (some R)):=by simp[World.cell?,J.1]
     have a8:=hid J;have bm:=hid a5;have ao:=hid aw;have am:=hid ap;obtain⟨_,_,⟨V1,n1,p1,p2,p3,p4,p5,p6,p7⟩,_⟩:=J;have P:=hid (rN p1 (rN p2 (rN p3 (rN p4 (rN p5 (rN p6 p7))))));clear hD a5 aa aw ap U hA1 p1 p2 p3 p4 p5 p6 p7;go_wp2_with (at_delete;(refine ug rfl _ _ rfl (aF underlying3) underlying124 P.out.1 rfl (c:Int) rfl ?_);intro w5 bv aE)
     have bq:cz w5 S1 R (bT E1 c none):=cz.drop P.out.1 P.out.2.1 P.out.2.2.1 P.out.2.2.2.1 P.out.2.2.2.2.1 P.out.2.2.2.2.2.1 P.out.2.2.2.2.2.2 bv aE
     have B:Je w b p R S g v N D c (.returned (.bool false)) w5:=by
      refine⟨false,S1,_,rfl,a8.out.put bq (λk hk=>.inl hk) (aE.wid rS),bm.out.congr (λz=>?_) (λx y hx hy _=>?_) (λ_ _=>rfl),ao.out,am.out.trans (aE.wid rS)⟩
      .unfold DJ
       by_cases e:z=c
       .subst e;simp[b5]
       .simp[e]
      .unfold DI Ns
       constructor
       .rintro⟨⟨d1,_⟩,M,d3⟩;exact⟨d1,.inl ⟨M,d3⟩⟩
       .rintro⟨d1,⟨M,d3⟩|⟨M,_⟩⟩
        .refine⟨⟨d1,λj e hj he y' ai=>?_⟩,M,d3⟩
         rintro(⟨r1,_⟩|⟨_,r2⟩)
         .exact M r1
         .exact d3 r2
        .exact absurd M b5
     have B:=hid B;clear bq bv aE al;go_wp2;go_ret;exact B.out
theorem tQ:∀{L M:List Ed},L.Pairwise (λa b=>a.to_<b.to_)->M.Pairwise (λa b=>a.to_<b.to_)->(∀z,z∈L↔z∈M)->L=M
 |[],[],_,_,_=>rfl
 |[],y::M,_,_,h=>by have:=(h y).2 rS;simp at this
 |x::L,[],_,_,h=>by have:=(h x).1 rS;simp at this
 |x::L,y::M,m,u,h=>by
  rw[List.pairwise_cons]at m u
  have B:x=y:=by
   have a:=(h x).1 rS;have b:=(h y).2 rS;rcases Zd.1 a with a|a
   .exact a
   .rcases Zd.1 b with b|b
    .exact b.symm
    .have:=u.1 x a;have:=m.1 y b;omega
  subst B;rw[tQ m.2 u.2 (λz=>?_)];constructor
  .intro k
   have:=(h z).1 (List.mem_cons_of_mem _ k);rcases Zd.1 this with e|e
   .subst e;have:=m.1 z k;omega
   .exact e
  .intro k
   have:=(h z).2 (List.mem_cons_of_mem _ k);rcases Zd.1 this with e|e
   .subst e;have:=u.1 z k;omega
   .exact e
theorem QK(h:rQ L):L.Pairwise (λa b=>a.to_<b.to_):=by
 rw[List.pairwise_iff_getElem];intro i j m u k;exact h i j _ _ k (Zc m) (Zc u)
def Ug(w:World)(b p mb:Nat)(S:List Nat)(g:G)(v:Int)(e:Ending)(w':World):Prop:=
 e=.returned (.tuple #[.bool true,.nilIface])/\∃S' E',aJ w' b p mb S' g v E'/\bZ g (λ_ _=>True) E'/\(∀k∈S',k∈S\/w.heap.size<=k)/\Kept (p::mb::S) w w'
def qH(w:World)(b p mb:Nat)(S:List Nat)(g g':G)(v:Int)(c:Nat)(nx ny:Int)(fv:Value)(wr:World):Prop:=
 ∃S' E' zs,aJ wr b p mb S' g' v E'/\nW g' (g.PN g' c nx ny) (g.PD g' c nx ny) E'/\(∀k∈S',k∈S\/w.heap.size<=k)/\Kept (p::mb::S) w wr/\aL wr w.heap.size fv zs/\(zs.length:Int)<=3*(ny-g.Y c+1)+(nx-g.X c+1)/\∀q,fv.ownBlock=some q->q∉b::p::mb::S'
theorem qW(h:Kept (p::mb::S) w w1)(k:Kept (mb::S1) w1 w2)(z:∀q∈S1,q∈S\/w.heap.size<=q):Kept (p::mb::S) w w2:=
 ⟨k.os.trans h.os,k.tape.trans h.tape,k.output.trans h.output,Zg h.size k.size,λq u m=>by
  refine(k.block q (Zf u h.size) ?_).trans (h.block q u m);intro B;rcases Zd.1 B with e|e
  .exact m (by rw[e];simp)
  .rcases z q e with r|r
   .exact m (by simp[r])
   .omega⟩
theorem qH.none(k:g.ok)(h:qH w b p mb S g g' v c nx ny fv wr)(m:¬(0<=nx/\nx<g.w/\0<=ny/\ny<g.h)):qH w b p mb S g g' v c (nx+1) ny fv wr:=by
 obtain⟨B,u,L,F,I,J,O,P,M,Q⟩:=h;refine⟨B,u,L,F,I.congr (λz=>?_) (λa b R U _=>?_) (λ_ _=>rfl),J,O,P,om,Q⟩
 .unfold G.PN
  refine and_congr_right λZ=>?_;rw[G.BV k Z m]
 .unfold G.PD
  rw[G.BV k R.1 m,G.BV k U.1 m]
theorem qH.row(h:qH w b p mb S g g' v c nx ny fv wr)(e:nx=(g.X c:Int)+2):qH w b p mb S g g' v c ((g.X c:Int)-1) (ny+1) fv wr:=by
 obtain⟨m,k,P,u,B,F,I,J,Q,O⟩:=h;refine⟨m,k,P,u,B.congr (λz=>?_) (λa b _ _ _=>?_) (λ_ _=>rfl),F,I,J,om,O⟩
 .unfold G.PN;rw[G.Gp e]
 .unfold G.PD;rw[G.Gp e,G.Gp e]
theorem qH.turned{S B:List Nat}{c k:Nat}{F:List Int}{I:Int->Option (List Ed)}(hn:g'.n=g.n)(h3:∀k∈B,k∈S\/w.heap.size<=k)(h4:Kept (p::mb::S) w wr)(M:aL wr w.heap.size fv F)(h6:(F.length:Int)<=3*(ny-g.Y c+1)+(nx-g.X c+1))(h7:∀q,fv.ownBlock=some q->q∉b::p::mb::B)(m:k<g.n)(Q:(g.X k:Int)=nx)(R:(g.Y k:Int)=ny)(P:g.p9 c k)(t1:aJ w2 b p mb S2 g' v I)(t2:nW g' (DJ g' (g.PN g' c nx ny) k) (DI g' (g.PN g' c nx ny) (g.PD g' c nx ny) k) I)(t3:∀k∈S2,k∈B\/wr.heap.size<=k)(t4:Kept (mb::B) wr w2):qH w b p mb S g g' v c (nx+1) ny fv w2/\∃B E' F,aJ w2 b p mb B g' v E'/\nW g' (g.PN g' c (nx+1) ny) (g.PD g' c (nx+1) ny) E'/\(∀k∈B,k∈S\/w.heap.size<=k)/\Kept (p::mb::S) w w2/\aL w2 w.heap.size fv F/\(F.length:Int)+1<=3*(ny-g.Y c+1)+(nx+1-g.X c+1)/\∀q,fv.ownBlock=some q->q∉b::p::mb::B:=by
 have g2:nW g' (g.PN g' c (nx+1) ny) (g.PD g' c (nx+1) ny) I:=t2.congr (λz=>G.BU m Q R P) (λa b ha T _=>G.Ro m Q R P ((G.BU m Q R P).1 ha) ((G.BU m Q R P).1 T)) (λ_ _=>rfl)
 have o2:aL w2 w.heap.size fv F:=by
  refine⟨M.1,?_⟩;rcases M.2 with hn|⟨L,U,Z,rfl,T,J,O⟩
  .exact .inl hn
  .refine .inr ⟨L,U,Z,rfl,T,?_,O⟩
   rw[t4.block L (Za.1 J).1 (λu=>?_)]
   .exact J
   .have:=h7 L rfl
    exact this (by rcases Zd.1 u with e|e<;>simp[e])
 have n2:∀q,fv.ownBlock=some q->q∉b::p::mb::S2:=λq hq u=>by
  have aa:=(World.ownsRow.lt M q hq).2;have:=h7 q hq;rcases Zd.1 u with e|u
  .exact this (by rw[e];simp)
  rcases Zd.1 u with e|u
  .exact this (by rw[e];simp)
  rcases Zd.1 u with e|u
  .exact this (by rw[e];simp)
  rcases t3 q u with e|e
  .exact this (by simp[e])
  .omega
 have s2:=pO h4.size h3 t3;have k2:=qW h4 t4 h3;exact⟨⟨S2,I,F,t1,g2,s2,k2,o2,om,n2⟩,S2,I,F,t1,g2,s2,k2,o2,om,n2⟩
def nX(g g':G)(c:Nat)(nx ny:Int)(i j a b:Nat):Prop:=(Dn g' i j a b/\g'.aK a b)\/(¬Dn g' i j a b/\g.PD g' c nx ny a b)
def lJ(w:World)(b p mb:Nat)(S:List Nat)(g g':G)(v:Int)(c:Nat)(nx ny:Int)(bl:List Nat)(i j:Nat)(wr:World):Prop:=
 ∃S' E',aJ wr b p mb S' g' v E'/\nW g' g'.av (nX g g' c nx ny i j) E'/\(∀k∈S',k∈S\/w.heap.size<=k)/\Kept (p::mb::S) w wr/\∀q∈bl,q∉b::p::mb::S'
theorem MG(k:i<j)(m:j<(aA g').length)(a b:Nat):((nX g g' c nx ny i j a b/\¬Pr (cf g' i) (cf g' j) a b)\/(Pr (cf g' i) (cf g' j) a b/\g'.aK a b))↔nX g g' c nx ny i (j+1) a b:=by
 have h:=mP k m a b;have u:=GR k m;unfold nX;rw[<-h];unfold vR Pr;by_cases e:(a=cf g' i/\b=cf g' j)\/(a=cf g' j/\b=cf g' i)
 .simp[e]
 .simp[e]
theorem MF(k:i<j)(m:j<(aA g').length)(u:∀a b,Pr (cf g' i) (cf g' j) a b->(g.PD g' c nx ny a b↔g'.aK a b))(a b:Nat):nX g g' c nx ny i j a b↔nX g g' c nx ny i (j+1) a b:=by
 have h:=mP k m a b;have z:=GR k m;unfold nX;rw[<-h];unfold vR;by_cases e:(a=cf g' i/\b=cf g' j)\/(a=cf g' j/\b=cf g' i)
 .have:=u a b e
  rw[this];by_cases q:Dn g' i j a b<;>simp[q,e]
 .simp[e]
theorem lJ.row(h:lJ w b p mb S g g' v c nx ny bl i j wr)(J:(aA g').length<=j):lJ w b p mb S g g' v c nx ny bl (i+1) (i+2) wr:=by
 obtain⟨m,k,u,z,B,F,I⟩:=h;refine⟨m,k,u,z.congr (λ_=>Iff.rfl) (λa b _ _ _=>?_) (λ_ _=>rfl),B,F,I⟩;unfold nX;rw[OJ J a b]
theorem Ints.same{A:Option Addr}{f:Nat->Int}(h:Ints w A n f)(I:∀m,A=some m->w'.heap[m.block]? =w.heap[m.block]?)(J:w.heap.size<=w'.heap.size):Ints w' A n f:=by
 intro F;obtain⟨m,e,B,u⟩:=h F;refine⟨m,e,Zf B J,λk z=>?_⟩;exact(World.cell?_of_block (a:=m.add k) (by rw[add_block];exact I m e)).trans (u k z)
def mG(w3 wr:World)(bl:List Nat):Prop:=(∀q∈bl,wr.heap[q]? =w3.heap[q]?)/\w3.heap.size<=wr.heap.size
theorem mG.kept{m wr w':World}(h:mG m wr bl)(B:∀q∈bl,q<m.heap.size)(u:Kept T wr w')(z:∀q∈bl,q∉T):mG m w' bl:=
 ⟨λq k=>(u.block q (Zf (B q k) h.2) (z q k)).trans (h.1 q k),Zg h.2 u.size⟩
theorem lJ.anew{w wr I J:World}{S S1 S2 B:List Nat}{z:Int->Option (List Ed)}(F:i<j)(hj:j<(aA g').length)(R:∀k∈S1,k∈S\/w.heap.size<=k)(U:Kept (p::mb::S) w wr)(h5:∀q∈bl,q∉b::p::mb::S1)(hl:∀q∈bl,q<wr.heap.size)(O:∀k∈S2,k∈S1\/wr.heap.size<=k)(P:Kept (mb::S1) wr I)(T:aJ J b p mb B g' v z)(b1:nW g' g'.av (λx y=>(nX g g' c nx ny i j x y/\¬Pr (cf g' i) (cf g' j) x y)\/(Pr (cf g' i) (cf g' j) x y/\g'.aK x y)) z)(Q:∀k∈B,k∈S2\/I.heap.size<=k)(b3:Kept (mb::S2) I J):lJ w b p mb S g g' v c nx ny bl i (j+1) J:=by
 have M:=pO U.size R O;have L:=qW U P R;have m2:=pO L.size M Q;have k2:=qW L b3 M;refine⟨B,z,T,b1.congr (λ_=>Iff.rfl) (λx y _ _ _=>MG F hj x y) (λ_ _=>rfl),m2,k2,λq Z u=>?_⟩;have aa:=hl q Z;have m:=h5 q Z;have hs:=P.size;rcases Zd.1 u with r|u
 .exact m (by simp[r])
 rcases Zd.1 u with r|u
 .exact m (by simp[r])
 rcases Zd.1 u with r|u
 .exact m (by simp[r])
 rcases Q q u with r|r
 .rcases O q r with r|r
  .exact m (by simp[r])
  .omega
 .omega
theorem Cu(w:World)(b p M:Nat)(S:List Nat)(g:G)(v:Int)(E:Int->Option (List Ed))(c:Nat)(t:Bool)(h:aJ w b p M S g v E)(hS:bZ g (λ_ _=>True) E)(hc:c<g.n)(ht:g.b c= !t)(hv:0<=v/\v<=1099511627776):Calls prog 37 #[vP b,rI (c:Nat),.bool t] w (Ug w b p M S (dN g c t) (v+1)):=by
 have hg:=h.2.1;have bi:=hg.1;have cQ:=G.bA bi;have aq:w.cell? ⟨b,0,none⟩=some (vP p):=by simp[World.cell?,h.1]
 have cS:=hid (kE w p g v c t hg hc ht hv);have H:=hid h;have HS:=hid hS;obtain⟨I,cj⟩:=rX (dN g c t);have ar:G.But g I (g.X c) (g.Y c):=by rw[<-cj];exact G.RN hc
 have ba:I.n=g.n:=ar.n;have b1:I.ok:=ar.ok bi;rw[cj]at cS⊢;have O:=hid ar;have ax:=hid (rN bi b1);obtain⟨o1,o2,o3,o4⟩:=bi;have xX:=G.ji ax.out.1 c;have yY:=G.iJ hc;clear h hS ht hg cj ar b1;go_enter func37,ntmps37;go_wp2_with fail
 (refine cS.out.mono ?_)
 rintro e w1 ⟨rfl,b8,a6⟩;have cW:b≠p:=H.out.2.2.2.2.2.2.2;have aq:=aH a6 (by simpa using cW) aq
 have bv:aJ w1 b p M S I (v+1) E:=by
  obtain⟨g1,g2,g3,g4,g5,g6,g7,g8⟩:=H.out;refine⟨(a6.block b (Za.1 g1).1 (by simpa using cW)).trans g1,b8,g3.kept a6 (λs hs=>by simp;rintro rfl;exact g5 hs) (by simpa using Ne.symm g7),g4,g5,g6,g7,g8⟩
 have cP:=hid (aU w1 p I (v+1) c b8 om);rw[O.out.X,O.out.Y]at cP;obtain⟨X,hX⟩:∃X:Int,((g.X c:Nat):Int)=X:=⟨_,rfl⟩;obtain⟨Y,hY⟩:∃Y:Int,((g.Y c:Nat):Int)=Y:=⟨_,rfl⟩;have X0:0<=X:=om;have X1:X<=16:=om;have Y0:0<=Y:=om;have Y1:Y<=16:=om;rw[hX,hY]at cP;have HX:=hid hX;have HY:=hid hY;have bq:=hid bv;have b5:=hid a6;clear hX hY b8 bv a6 cS;go_wp2_with fail;(with_reducible refine cP.out.mono ?_);rintro e w2 ⟨rfl,ay⟩;have dq:=ay.size;have dt:=b5.out.size
 have hstart:qH w b p M S g I (v+1) c (X-1) (Y-1) (.slice none 0 0) w2:=by
  refine⟨S,E,[],bq.out.below ay,HS.out.sp.congr (λz=>?_) (λx y _ _ _=>?_) (λx y=>O.out.cZ x y),λk hk=>.inl hk,(b5.out.wid rS).trans (Kept.of_below ay),aL.nil _ _,?_,?_⟩
  .unfold G.PN
   have:=G.xV (g:=g) (c:=c) (z:=z);rw[HX.out,HY.out]at this;exact⟨λhz=>⟨hz.1,.inr ⟨this,hz⟩⟩,λhz=>(hz.2.resolve_left (λq=>this q.1)).2⟩
  .unfold G.PD
   have q1:=G.xV (g:=g) (c:=c) (z:=x);have q2:=G.xV (g:=g) (c:=c) (z:=y);rw[HX.out,HY.out]at q1 q2;exact⟨λhz=>⟨hz.2,λr=>absurd r q1,λr=>absurd r q2⟩,λhz=>⟨trivial,hz.1⟩⟩
  .rw[HX.out,HY.out];simp;omega
  .intro q J;simp[Value.ownBlock]at J
 clear ay aq cP bq b5 dq dt;go_wp2_with fail;obtain⟨wz,rfl⟩:∃wz:World,wz=w2:=⟨_,rfl⟩
 go_loopw [13,14] (λfv cr wr=>∃ny:Int,cr=rI ny/\Y-1<=ny/\ny<=Y+2/\qH w b p M S g I (v+1) c (X-1) ny fv wr) (λ_ cr _=>(Y+2-intOf cr).toNat)
 case atStart=>exact⟨Y-1,rfl,om,om,hstart⟩
 case round=>
  obtain⟨ny,rfl,ef,eg,hI⟩:=hrel;have HI:=hid hI;clear hstart hI;by_cases d7:ny<=Y+1
  .have ap:=HI.out
   clear HI;go_wp2_with fail;obtain⟨wo,rfl⟩:∃wo:World,wo=wr:=⟨_,rfl⟩
   go_loopw [13,15] (λfv cq wr=>∃T:Int,cq=rI T/\X-1<=T/\T<=X+2/\qH w b p M S g I (v+1) c T ny fv wr) (λ_ cq _=>(X+2-intOf cq).toNat)
   case atStart=>exact⟨X-1,rfl,om,om,ap⟩
   case round=>
    obtain⟨T,rfl,ed,ee,hI⟩:=hrel;have HI:=hid hI;clear ap hI;by_cases d8:T<=X+1
    .obtain⟨S1,E1,zs,h1,h2,h3,h4,h5,h6,h7⟩:=HI.out
     have aq:wr.cell? ⟨b,0,none⟩=some (vP p):=by simp[World.cell?,h1.1]
     by_cases bh:0<=T/\T<g.w/\0<=ny/\ny<g.h
     .obtain⟨i1,i2,i3,i4⟩:=bh
      obtain⟨k,hk⟩:=rX (g.cell T.toNat ny.toNat);have cl:(g.X k:Int)=T:=by rw[<-hk,G.qI om];omega
      have cm:(g.Y k:Int)=ny:=by rw[<-hk,G.qJ om];omega
      have ck:k<g.n:=by rw[<-hk];exact G.pq om om
      have c0:ny*(I.w:Int)+T=(k:Nat):=by
       rw[O.out.w,<-hk];unfold G.cell;obtain⟨a,ha⟩:∃a:Nat,T=a:=⟨T.toNat,om⟩;obtain⟨d,hd⟩:∃d:Nat,ny=d:=⟨ny.toNat,om⟩;subst ha;subst hd;simp
      have cC:=kD wr p I (v+1) T ny h1.2.1 i1 (by rw[O.out.w];exact i2) i3 (by rw[O.out.h];exact i4);rw[c0]at cC;have cC:=hid cC;have cT:=hid (LD wr b p M S1 I (v+1) E1 _ _ k h1 h2 (λz hz=>by rw[ba];exact hz.1) (by rw[ba];exact ck) (λx y bk=>G.Rp bk))
      have bb:g.p9 c k:=by
       unfold G.p9;rw[HX.out,HY.out,cl,cm];omega
      have ab:=hid (rN ck (rN cl (rN cm bb)));have HH:=hid (rN h3 (rN h4 (rN h5 (rN h6 h7))));clear h1 h2 h3 h4 h5 h6 h7 i1 i2 i3 i4 hk cl cm ck c0 bb HI;go_wp2_with fail;(with_reducible refine cC.out.mono ?_);rintro e w' ⟨rfl,rfl⟩;go_wp2_with fail
      (refine cT.out.mono ?_)
      rintro e w3 ⟨tt,S2,E2,rfl,t1,t2,t3,t4⟩;obtain⟨r1,r2⟩:=qH.turned ba HH.out.1 HH.out.2.1 HH.out.2.2.1 HH.out.2.2.2.1 HH.out.2.2.2.2 ab.out.1 ab.out.2.1 ab.out.2.2.1 ab.out.2.2.2 t1 t2 t3 t4;have R1:=hid r1;have R2:=hid r2;clear t1 t2 t3 t4 r1 r2 cT cC aq;cases tt with
      |false=>
       clear R2 HH;go_wp2;go_roundw
       case rel=>refine rR ?_;exact⟨T+1,rfl,om,om,R1.out⟩
       case measure=>exact rM
      |true=>
       clear R1 HH;obtain⟨S3,E3,da,u1,u2,u3,u4,u5,u6,u7⟩:=R2.out
       have hl:da.length<1099511627776:=by
        have:=HX.out;have:=HY.out;omega
       have ec:=u4.size;have U:=hid (rN u1 (rN u2 (rN u3 (rN u4 (rN u5 (rN u6 u7))))));clear u1 u2 u3 u4 u6 u7 R2;go_wp2_with (at_builtin;(refine dI _ rfl _ _ rfl w.heap.size _ _ _ rfl (u5.alloc _) ⟨w3.heap.size,0,none⟩ rfl (dh _ _ _) hl so ?_);intro v' w9 bc P cV)
       have F:qH w b p M S g I (v+1) c (T+1) ny v' w9:=by
        obtain⟨u1,u2,u3,u4,u5,u6,u7⟩:=U.out;have d6:=P;have aS:Kept (Value.ownBlock _).toList (w3.alloc _) w9:=⟨P.os,P.tape,P.output,P.size,λq J hn=>P.block q J (λe=>hn (by rw[<-e];simp))⟩;have Z:=λo=>ah (o:=o) (Below.refl w3.heap.size w3)
        have dl:∀q,q∈b::p::M::S3->q∉(Value.ownBlock _).toList:=λq J Q=>by
         rw[Zv]at Q;exact u7 q Q J
        have dk:=(u1.below (Z _)).kept aS dl;refine⟨S3,E3,da++[((k:Nat):Int)],dk,u2,u3,?_,bc,?_,?_⟩
        .have aE:=λo=>u4.trans (Kept.of_below (S:=p::M::S) (Z o))
         refine⟨aS.os.trans (aE _).os,aS.tape.trans (aE _).tape,aS.output.trans (aE _).output,Zg (aE _).size aS.size,λq J hn=>?_⟩;refine(aS.block q (Zf J (aE _).size) ?_).trans ((aE _).block q J hn);intro Q;rw[Zv]at Q;have:=(World.ownsRow.lt u5 q Q).1;omega
        .rw[Zp];simp;omega
        .intro q J
         rcases cV with e|e
         .rw[e]at J;exact u7 q J
         .rw[e]at J
          injection J with J
          intro Q;have cn:=u1.2.2.1.qp;have dv:=u1.2.2.1.lt;have dx:=u1.2.1.lt;have du:=(Za.1 u1.1).1;simp at J;rcases Zd.1 Q with r|Q
          .omega
          rcases Zd.1 Q with r|Q
          .omega
          rcases Zd.1 Q with r|Q
          .omega
          have:=cn q Q;omega
       have F:=hid F;clear bc P cV u5 hl U;go_wp2;go_roundw
       case rel=>refine rR ?_;exact⟨T+1,rfl,om,om,F.out⟩
       case measure=>exact rM
     .have cC:=hid (mX wr p I (v+1) T ny h1.2.1 (by rw[O.out.w,O.out.h];exact bh))
      have F:=hid (qH.none ax.out.1 HI.out bh);clear h1 h2 h3 h4 h5 h6 h7 HI bh;go_wp2_with fail;(with_reducible refine cC.out.mono ?_);rintro e w' ⟨rfl,rfl⟩;clear cC;go_wp2;go_roundw
      case rel=>refine rR ?_;exact⟨T+1,rfl,om,om,F.out⟩
      case measure=>exact rM
    .have F:=hid (qH.row HI.out (by rw[HX.out];omega))
     rw[HX.out]at F;clear HI;go_wp2;go_roundw
     case rel=>refine rR ?_;exact⟨ny+1,rfl,om,om,F.out⟩
     case measure=>exact rM
  .obtain rfl:ny=Y+2:=om
   obtain⟨S1,E1,zs,h1,h2,h3,h4,h5,h6,h7⟩:=HI.out;have d1:zs.length<=100:=by have:=HX.out;have:=HY.out;omega
   have co:nW I I.av (nX g I c (X-1) (Y+2) 0 (0+1)) E1:=
    h2.congr (λz=>G.U0 O.out (by rw[HY.out]) z) (λx y _ _ _=>⟨λq=>.inr ⟨yE _ _,q⟩,λq=>(q.resolve_left (λr=>yE _ _ r.1)).2⟩) (λ_ _=>rfl)
   obtain⟨Af,mf,rfl,cO⟩:=h5.ints;have cI:∀R,Af=some R->R.block<wr.heap.size:=λR e=>(World.ownsRow.lt h5 R.block (by rw[e];rfl)).2;have cN:=hid (kC wr b p M S1 I (v+1) E1 h1 co.1);have HH:=hid (rN h1 (rN co (rN h3 (rN h4 h7))));have bd:=hid cO;obtain⟨nf,c6⟩:=rX zs.length;obtain⟨ff,cX⟩:∃ff:Nat->Int,(λk=>zs.getD k 0)=ff:=⟨_,rfl⟩;rw[c6]at d1 bd HH⊢;rw[cX]at bd;clear h1 h2 h3 h4 h5 h6 h7 co cO HI c6 cX;go_wp2_with fail;(with_reducible refine cN.out.mono ?_);rintro e w3 ⟨A,m,rfl,Q,hI,cG,Z⟩;obtain⟨bl,bg⟩:=rX (Af.toList.map (·.block)++A.toList.map (·.block));have bx:∀R,A=some R->R.block∈bl:=λR e=>by rw[<-bg,e];simp
   have bz:∀R,Af=some R->R.block∈bl:=λR e=>by rw[<-bg,e];simp
   have ag:∀q∈bl,q∉b::p::M::S1/\q<w3.heap.size:=by
    intro q J;rw[<-bg,Zl]at J;have eb:=Z.size;have gl:=HH.out.1;rcases J with J|J
    .cases Af with
     |none=>simp at J
     |some R=>
      simp at J;subst J;refine⟨HH.out.2.2.2.2 R.block rfl,?_⟩;have:=cI R rfl;omega
    .cases A with
     |none=>simp at J
     |some R=>
      simp at J;subst J;obtain⟨r1,r2⟩:=cG R rfl;refine⟨λQ=>?_,r2⟩;have cn:=gl.2.2.1.qp;have dv:=gl.2.2.1.lt;have dx:=gl.2.1.lt;have du:=(Za.1 gl.1).1;rcases Zd.1 Q with r|Q
      .omega
      rcases Zd.1 Q with r|Q
      .omega
      rcases Zd.1 Q with r|Q
      .omega
      have:=cn _ Q;omega
   have d3:=hid ag;have c1:∀q∈bl,q<w3.heap.size:=λq J=>(ag q J).2;have a5:=hid c1;have a4:=hid bx;have cv:=hid bz;have cs:=hid (bd.out.below Z);obtain⟨n,hn⟩:=rX ((aA I).length);have dy:n<=256:=by rw[<-hn];exact bM ax.out.2
   rw[hn]at Q hI⊢;have Hn:=hid hn;have HI:=hid hI
   have hP:lJ w b p M S g I (v+1) c (X-1) (Y+2) bl 0 (0+1) w3:=
    ⟨S1,E1,HH.out.1.below Z,HH.out.2.1,HH.out.2.2.1,HH.out.2.2.2.1.trans (Kept.of_below Z),λq J=>(ag q J).1⟩
   have cU:mG w3 w3 bl:=⟨λ_ _=>rfl,Zi _⟩;have d2:w.heap.size<=w3.heap.size:=Zg HH.out.2.2.2.1.size Z.size;clear HH Z cN ag c1 bx bz bg hn hI cG cI bd;go_wp2_with fail;go_loopw [91] (λkv wr=>∃i:Nat,kv=rI i/\i<=n/\lJ w b p M S g I (v+1) c (X-1) (Y+2) bl i (i+1) wr/\mG w3 wr bl) (λkv _=>n-(intOf kv).toNat)
   case atStart=>exact⟨0,rfl,om,hP,cU⟩
   case round=>
    obtain⟨i,rfl,hi,a7,ao⟩:=hrel;clear hP cU;have aa:=hid a7;have B:=hid ao;clear a7 ao;by_cases aw:i<n
    .have am:=HI.out.same (λR e=>B.out.1 _ (a4.out R e)) B.out.2
     have al:=Ints.drop HI.out Q (show i+1<=n by omega);obtain⟨R,hA⟩:=am.addr om;have ca:=am;rw[hA]at ca;have ds:=λwx=>aP (m:=m) hA aw wx;have hE:=ca.cell br aw;rw[(bW (by rw[Hn.out];exact aw)).1]at hE;obtain⟨x,hx⟩:=rX (cf I i);rw[hx]at hE;have Hx:=hid hx;have b4:=hid al;have d0:IntKind.i64.wrap ((i:Int)+1)=(i:Int)+1:=IntWalk.i64_in _ om;have dn:(0:Int)<=(i:Int)+1:=om;have ay:(i:Int)+1<=(n:Int):=om;have Z:i+1<=n:=om;have a8:i+1<=m:=om;have ci:((i:Int)+1).toNat=i+1:=om;clear am ca hA hx al;go_upto_region 19 with(fail);go_cut [99,100,101] (λsv lv zv wx=>∃A' m',sv=.slice A' (n-(i+1)) m'/\Ints w3 A' (n-(i+1)) (λt=>(aA I).getD (i+1+t) 0)/\(∀R,A'=some R->R.block∈bl)/\lv=rI ((n-(i+1):Nat):Int)/\zv=rI (0:Nat)/\wx=wr)
     case first=>
      by_cases c4:m=i+1
      .have al:=b4.out
       rw[if_pos c4]at al;go_wp2;go_meet
       case rel=>exact⟨_,_,rfl,al,a4.out,rfl,rfl,rfl⟩
      .have al:=b4.out
       rw[if_neg c4]at al;go_wp2;go_meet
       case rel=>
        refine⟨_,_,rfl,by simpa[Addr.add]using al,?_,rfl,rfl,rfl⟩;intro d4 e;cases A with
        |none=>simp at e
        |some a0=>
         simp at e;rw[<-e];exact a4.out a0 rfl
     case rest=>
     obtain⟨A',m',rfl,b9,hA2,rfl,rfl,bj⟩:=hcut;have bj:wc=wr:=bj;rw[bj];obtain⟨r,hr⟩:=rX (n-(i+1));rw[hr]at b9⊢;have dd:=hid b9;have db:=hid hA2;have a1:I.av x:=by rw[<-Hx.out];exact(bW (by rw[Hn.out];exact aw)).2
     have L:lJ w b p M S g I (v+1) c (X-1) (Y+2) bl i (i+1+0) wr/\mG w3 wr bl:=⟨aa.out,B.out⟩;clear bj hE ds b4 b9 hA2 aa B d0 dn ay Z a8 ci;obtain⟨w0,c9⟩:∃z:World,wr=z:=⟨_,rfl⟩;rw[c9]at L⊢;clear c9;go_wp2_with fail;obtain⟨wp,rfl⟩:∃wp:World,wp=wr:=⟨_,rfl⟩
     go_loopw [101] (λkv wr=>∃j:Nat,j<=r/\kv=rI j/\lJ w b p M S g I (v+1) c (X-1) (Y+2) bl i (i+1+j) wr/\mG w3 wr bl) (λkv _=>r-(intOf kv).toNat)
     case atStart=>exact⟨0,om,rfl,L⟩
     case round=>
      obtain⟨j,hj,rfl,a7,ao⟩:=hrel;clear L;have aa:=hid a7;have B:=hid ao;clear a7 ao;by_cases b0:j<r
      .have am:=dd.out.same (λR e=>B.out.1 _ (db.out R e)) B.out.2
       have bw:=cs.out.same (λR e=>B.out.1 _ (cv.out R e)) B.out.2;obtain⟨d5,hA1⟩:=am.addr om;rw[hA1]at am;have cY:=λwx=>aP (m:=m') hA1 b0 wx;have b7:=am.cell br b0;have a9:i+1+j<(aA I).length:=by rw[Hn.out];omega
       rw[(bW a9).1]at b7;obtain⟨y,hy⟩:=rX (cf I (i+1+j));have a2:I.av y:=by rw[<-hy];exact(bW a9).2
       rw[hy]at b7;have Hy:=hid hy
       have bk:x≠y:=by
        rw[<-Hx.out,<-hy];have:=D8 (g:=I) (show i<i+1+j by omega) a9;omega
       obtain⟨S2,E2,g2,bm,n2,k2,b2⟩:=aa.out;have aq:wr.cell? ⟨b,0,none⟩=some (vP p):=by simp[World.cell?,g2.1]
       have cB:=hid (Ct wr b p I (v+1) (.map (some M)) x y X Y g2.1 g2.2.1 a1.1 a2.1 ⟨om,om⟩ ⟨om,om⟩);have cC:=hid (λw'(hb:Below wr.heap.size wr w')z=>CG w' Af nf mf ff z (bw.below hb) om);have d9:(0:Int)<=(j:Int):=om;have ea:(j:Int)<(r:Int):=om;have HG:=hid (rN g2 (rN bm (rN n2 (rN k2 b2))));have cx:=hid a9;clear am hA1 hy g2 bm n2 k2 b2 bw a9;go_upto_region 22 with(fail);go_cut [120] (λs wx=>∃u:Bool,s=.bool u/\(u=false->¬I.xS x y X Y)/\Below wr.heap.size wr wx)
       case first=>
        go_wp2_with fail;(with_reducible refine cB.out.mono ?_);rintro e w4 ⟨u1,rfl,c8,a8⟩;have cF:=hid c8;clear c8 cB aq;cases u1 with
        |true=>
         go_wp2;go_meet
         case rel=>exact⟨true,rfl,(λh=>by cases h),a8⟩
        |false=>
         have c7:¬I.xS x y X Y:=λhh=>by have:=cF.out.2 hh;cases this
         have dg:=hid c7;clear c7 cF;go_wp2_with fail;(with_reducible refine(cC.out _ a8 _).mono ?_);rintro e w5 ⟨u2,rfl,ci⟩;have b6:=ae a8 ci;cases u2 with
         |true=>
          go_wp2;go_meet
          case rel=>exact⟨true,rfl,(λh=>by cases h),b6⟩
         |false=>
          go_wp2_with fail;(with_reducible refine(cC.out _ b6 _).mono ?_);rintro e w6 ⟨u3,rfl,dp⟩;have dj:=ae b6 dp;go_wp2;go_meet
          case rel=>exact⟨u3,rfl,(λ_=>dg.out),dj⟩
       case rest=>
        obtain⟨u,rfl,hu,ac⟩:=hcut;have Hu:=hid hu;have c2:∀q∈bl,q<wr.heap.size:=λq J=>Zf (a5.out q J) B.out.2;have cD:=hid c2;clear b7 cY hu cB cC aq c2;cases u with
        |false=>
         have hF:lJ w b p M S g I (v+1) c (X-1) (Y+2) bl i (i+1+(j+1)) wc/\mG w3 wc bl:=by
          obtain⟨q1,q2,q3,q4,q5⟩:=HG.out
          have c5:¬g.xS x y (g.X c) (g.Y c):=by
           rw[HX.out,HY.out]
           exactλhh=>Hu.out rfl ((O.out.XV x y X Y).2 hh)
          refine⟨⟨S2,E2,q1.below ac,q2.congr (λ_=>Iff.rfl) (λa d _ _ _=>MF om cx.out (λa d hp=>?_) a d) (λ_ _=>rfl),q3,q4.trans (Kept.of_below ac),q5⟩,B.out.kept a5.out (Kept.of_below (S:=[]) ac) rS⟩;rw[Hx.out,Hy.out]at hp;rcases hp with⟨rfl,rfl⟩|⟨rfl,rfl⟩
          .exact G.NM ax.out.1 O.out (by rw[HY.out]) a1 a2 c5
          .exact G.NM ax.out.1 O.out (by rw[HY.out]) a2 a1 (λhh=>c5 (G.DV.1 hh))
         have HF:=hid hF;clear hF ac HG aa B;go_wp2;go_roundw
         case rel=>refine rR ?_;exact⟨j+1,om,by go_num,HF.out⟩
         case measure=>exact rM
        |true=>
         obtain⟨q1,q2,q3,q4,q5⟩:=HG.out;obtain⟨Lx,ce,_,_,lx,_⟩:=q2.facts cQ (λz hz=>by have:=hz.1;rw[ba]at this;exact this) a1;obtain⟨Ly,cg,_,_,ly,_⟩:=q2.facts cQ (λz hz=>by have:=hz.1;rw[ba]at this;exact this) a2;have a3:=q1.below ac;have cT:=hid (Ex wc S2 b p M E2 (x:Nat) (y:Nat) Lx Ly a3.1 a3.2.2.1 a3.2.2.2.1 a3.2.2.2.2.2.1 ce cg om om om);have cw:=hid (q2.cut a1 a2 bk ce cg);have bt:=hid a3;have de:=hid (q4.trans (Kept.of_below (S:=p::M::S) ac));have ct:=hid (B.out.kept a5.out (Kept.of_below (S:=[]) ac) rS);have ai:=hid (rN q3 q5);have cA:Hid (∀q∈bl,q<wc.heap.size):=hid λq J=>Zf (cD.out q J) ac.size;clear q1 q2 q3 q4 q5 a3 ce cg lx ly ac HG B aa cD;go_wp2_with fail
         (refine cT.out.mono ?_)
         rintro e w4 ⟨rfl,S3,cH,ch,cb⟩;have cJ:=bt.out.put cH ch cb;have cL:=hid (Hf w4 b p M S3 I (v+1) _ I.av _ x y cJ cw.out (λz hz=>iW ax.out.2 hz) a1 a2 bk (λhh=>hh.2 (.inl ⟨rfl,rfl⟩)) (λhh=>hh.2 (.inr ⟨rfl,rfl⟩)));have cE:=hid ch;have cy:=hid cb;clear cH ch cb cJ cT;go_wp2_with fail
         (refine cL.out.mono ?_)
         rintro e w5 ⟨rfl,S4,E4,cM,b3,cR,cd⟩
         have hF:lJ w b p M S g I (v+1) c (X-1) (Y+2) bl i (i+1+(j+1)) w5/\mG w3 w5 bl:=by
          have cp:nW I I.av (λbo bp=>(nX g I c (X-1) (Y+2) i (i+1+j) bo bp/\¬Pr (cf I i) (cf I (i+1+j)) bo bp)\/(Pr (cf I i) (cf I (i+1+j)) bo bp/\I.aK bo bp)) E4:=by
           rw[Hx.out,Hy.out];exact b3
          refine⟨lJ.anew (i:=i) (j:=i+1+j) om cx.out ai.out.1 de.out ai.out.2 cA.out cE.out cy.out cM cp cR cd,?_⟩;have h1:=ct.out.kept a5.out cy.out (λq J Q=>ai.out.2 q J (by rcases Zd.1 Q with r|r<;>simp[r]));refine h1.kept a5.out cd (λq J Q=>?_);rcases Zd.1 Q with r|r
          .exact ai.out.2 q J (by simp[r])
          .rcases cE.out q r with r|r
           .exact ai.out.2 q J (by simp[r])
           .have:=cA.out q J;omega
         have HF:=hid hF;clear hF cM b3 cR cd cL cw bt;go_wp2;go_roundw
         case rel=>refine rR ?_;exact⟨j+1,om,by go_num,HF.out⟩
         case measure=>exact rM
      .obtain rfl:j=r:=om
       have HF:=hid (rN (lJ.row aa.out (by rw[Hn.out];omega)) B.out);clear aa B;go_wp2;go_roundw
       case rel=>refine rR ?_;exact⟨i+1,by go_num,om,HF.out⟩
       case measure=>exact rM
    .obtain rfl:i=n:=om
     have F:Ug w b p M S I (v+1) (.returned (.tuple #[.bool true,.nilIface])) wr:=by
      obtain⟨S2,E2,g2,bm,n2,k2,_⟩:=aa.out;refine⟨rfl,S2,E2,g2,nW.spec (bm.congr (λ_=>Iff.rfl) (λa d ha hd dT=>?_) (λ_ _=>rfl)),n2,k2⟩;have dr:Dn I i (i+1) a d:=qP (by rw[Hn.out];omega) ha hd (Ne.symm dT);unfold nX;simp[dr]
     have F:=hid F;clear aa B;go_wp2;go_ret2;exact F.out
