/- Lemmas of this claim: Graph6, Del, Cut, GSp, GSet1, GSet2, SameE, GSet3. -/
import Derived.Test.YtokhnobcincfjaaGreatDoorGraph5
import Derived.Test.YtokhnobcincfjaaGreatDoorKNEd3
set_option linter.unusedVariables false
set_option linter.unusedSimpArgs false
set_option maxHeartbeats 3200000
set_option maxRecDepth 100000
namespace Go.Proofs.YtokhnobcincfjaaGreatDoor
open Go.Lib (hid)
open Go.RowKit Go.Sort FR
variable {e:Ed}{g g':G}{nx ny t v:Int}{E:Int->Option (List Ed)}{L M:List Ed}{S S1:List Nat}{b c cap i j mb n p:Nat}{D:Nat->Nat->Prop}{N:Nat->Prop}{fv:Value}{w w' w1 w2 wr:World}
def R8(w:World)(L:List Ed)(e:Ending)(w':World):Prop:=∃A m,e=.returned (.slice A L.length m)/\bQ w' A L/\(∀ad,A=some ad->w.heap.size<=ad.block)/\Below w.heap.size w w'
theorem FE(w:World)(B:Nat)(v:Value)(L:List Ed)(h:bU w B v L)(hl:L.length<=100000):Calls Tryz.prog 98 #[v] w (R8 w L):=by
 obtain⟨i0,z0,hi,ac,ag,ai,al⟩:=gM;have hq:∀(w:World)(a:Option Addr)(n c n' S:Nat),(binOp .eql 119 (.slice a n c) (.slice none n' S)).run Tryz.prog w=.ok (.bool a.isNone) w:=λw a n c n' S=>Lib.run_eql_slice_nil w _ _ a n c n' S Tryz.underlying119;rcases h.2 with⟨rfl,h0⟩|⟨g,ab,am,rfl,_,hg,_,_,_,O⟩
 .have:L=[]:=List.eq_nil_of_length_eq_zero h0
  subst this;go_enter Tryz.func98,Tryz.ntmps98;go_wp2;go_ret;exact⟨none,0,rfl,λh=>by simp at h,(λad e=>by cases e),Below.refl _ _⟩
 .have R:∀j u,(dw L)[j]? =some u->w.cell? ((⟨g,0,none⟩:Addr).add j)=some u:=λj u M=>by
   rw[Addr.add_lit,Nat.zero_add];rw[<-O,List.getElem?_take]at M;split at M
   .rw[Array.getElem?_toList]at M
    simp[World.cell?,hg,M]
   .cases M
  have an:g<w.heap.size:=(Array.getElem?_eq_some_iff.1 hg).1;have J:=bz L;have P:=tZ L;obtain⟨n,hn⟩:∃n,L.length=n:=⟨_,rfl⟩;obtain⟨X,hX⟩:∃X,dw L=X:=⟨_,rfl⟩;rw[hn]at hl J⊢;rw[hX]at R J P;have Hn:=hid (And.intro hn hX);clear hn hX O hg h;go_enter Tryz.func98,Tryz.ntmps98;go_wp2_with (at_builtin;(refine wpList_append_own _ rfl _ _ 119 rfl w.heap.size 182 i0 z0 4 32 Tryz.underlying119 hi ac ag ai al (by decide) _ _ _ rfl (World.ownsRow_made w #[] 0 (Nat.le_refl _) (Nat.zero_le _) rfl) ⟨g,0,none⟩ n ab X rfl J (λj u hj=>Lib.cell?_alloc_some _ (R j u hj)) P (by unfold maxLen;omega) (by omega) (by simp) ?_);intro v' w1 Q I Z)
  have z:bU w1 w.heap.size v' L:=by
   unfold bU;rw[Hn.out.1,Hn.out.2];simpa using Q
  obtain⟨A,m,rfl,U⟩:=z.Ag;have T:Below w.heap.size w w1:=((Below.refl _ w).alloc (Nat.le_refl _) _).grown I (by simp) (λk hk=>(World.ownsRow.lt (World.ownsRow_made (e:=182) (size:=4) w #[] 0 (Nat.le_refl _) (Nat.zero_le _) rfl) k hk).1);have F:R8 w L (.returned (.slice A L.length m)) w1:=⟨A,m,rfl,U,λad e=>(World.ownsRow.lt z ad.block (by rw[e];rfl)).1,T⟩;have F:=hid F;clear Q I Z z U T;go_wp2;go_ret;exact F.out
def R9(w:World)(L:List Ed)(e:Ending)(w':World):Prop:=∃A m,e=.returned (.tuple #[.slice A L.length m,.nilIface])/\bQ w' A L/\(∀ad,A=some ad->w.heap.size<=ad.block)/\Below w.heap.size w w'
theorem DZ(w:World)(b p Q:Nat)(S:List Nat)(g:G)(v:Int)(E:Int->Option (List Ed))(h:aD w b p Q S g v E)(c:Int)(L:List Ed)(I:E c=some L)(hl:L.length<=100000):Calls Tryz.prog 54 #[.pointer (some ⟨b,0,none⟩),.int .i64 c] w (R9 w L):=by
 obtain⟨T,_,⟨V,N,Z,M,q3,_,_,_,_⟩,_⟩:=h;have ab:w.cell? ⟨b,1,none⟩=some (.map (some Q)):=by simp[World.cell?,T]
 obtain⟨u,P⟩:∃u,V c=some u:=by
  cases hV:V c with
  |none=>rw[(M c).2 hV]at I;cases I
  |some u=>exact⟨u,rfl⟩
 have U:=q3 c u L P I
 have O:(Instr.lookup 137 (.map (some Q)) (.int .i64 c) true).run Tryz.prog w=.ok (.tuple #[u,.bool true]) w:=by
  have:=(Z.look (aG Tryz.underlying3) Tryz.underlying137 (z:=.slice none 0 0) (by simp[Tryz.zeroValue119]) c).1;rw[P]at this;exact this
 have R:=hid (FE w 0 u L U hl);clear T Z M q3 P U I;go_enter Tryz.func54,Tryz.ntmps54;go_wp2_with fail;(with_reducible refine R.out.mono ?_);rintro e w1 ⟨A,m,rfl,B,J,F⟩;have k:R9 w L (.returned (.tuple #[.slice A L.length m,.nilIface])) w1:=⟨A,m,rfl,B,J,F⟩;have k:=hid k;clear B F O R;go_wp2;go_ret2;exact k.out
theorem bQ.kept{A:Option Addr}{T:List Nat}(h:bQ w A L)(B:Kept T w w')(I:∀k,A=some k->k.block∉T):bQ w' A L:=λJ=>by
 obtain⟨g,u,z,F⟩:=h J;refine⟨g,u,Nat.lt_of_lt_of_le z B.size,λj v O=>?_⟩;exact(World.cell?_of_block (a:=⟨g,j,none⟩) (B.block g z (I _ u))).trans (F j v O)
theorem aD.kept{S T:List Nat}(h:aD w b p mb S g v E)(z:Kept T w w')(u:∀k,k∈b::p::mb::S->k∉T):aD w' b p mb S g v E:=by
 obtain⟨B,F,I,J⟩:=h;exact⟨(z.block b (Array.getElem?_eq_some_iff.1 B).1 (u b (by simp))).trans B,F.kept z (u p (by simp)),I.kept z (λs O=>u s (by simp[O])) (u mb (by simp)),J⟩
def GM(w:World)(L:List Ed)(t:Int)(r:Ending)(w':World):Prop:=
 (r=.returned (.int .i64 (-1))/\(∀e∈L,e.to_≠t)/\Below w.heap.size w w')\/∃(k:Nat)(e:Ed),r=.returned (.int .i64 (k:Nat))/\L[k]? =some e/\e.to_=t/\(∀j e',L[j]? =some e'->j<k->e'.to_≠t)/\Below w.heap.size w w'
theorem KD(w:World)(k:Nat)(e:Ed)(t:Int)(u:w.cell? ⟨k,0,none⟩=some (.int .i64 t)):Calls Tryz.prog 162 #[.agg #[.int .i64 e.to_,.int .i64 e.c.s,.int .i64 e.c.d,.int .i64 e.mid],.pointer (some ⟨k,0,none⟩)] w λr F=>r=.returned (.bool (e.to_==t))/\Below w.heap.size w F:=by
 obtain⟨x,⟨s,d⟩,m⟩:=e;have B:=World.new_ne w _ u;have z:=λo=>aC (o:=o) u;simp only;go_enter Tryz.func162,Tryz.ntmps162;go_wp2;go_ret;exact⟨rfl,by(repeat' (first|exact Below.refl _ _|assumption|apply aj|apply ah|apply af|(refine aa ?_ (by assumption))))⟩
theorem N9(w:World)(A:Option Addr)(n R:Nat)(L:List Ed)(bt:Nat)(t:Int)(h:bQ w A L)(hn:L.length=n)(hl:n<=100000)(hc:w.cell? ⟨bt,0,none⟩=some (.int .i64 t)):Calls Tryz.prog 215 #[.slice A n R,.func (.func 162) #[] #[.pointer (some ⟨bt,0,none⟩)]] w (GM w L t):=by
 have Hn:=hid hn;have h:=hid h;have Hc:=hid hc;clear hn hc;go_enter Tryz.func215,Tryz.ntmps215;go_wp2_with fail;go_loopw [8] (λkv wr=>∃k:Nat,kv=.int .i64 k/\k<=n/\(∀j e,L[j]? =some e->j<k->e.to_≠t)/\Below w.heap.size w wr) (λkv _=>n-(intOf kv).toNat)
 case atStart=>exact⟨0,rfl,by omega,λj e _ h=>by omega,Below.refl _ _⟩
 case round=>
  obtain⟨k,rfl,hk,M,P⟩:=hrel;have J:=hid M;clear M;by_cases Z:k<n
  .obtain⟨e,U⟩:∃e,L[k]? =some e:=⟨L[k]'(by rw[Hn.out];exact Z),List.getElem?_eq_getElem _⟩
   obtain⟨g,hA,a1,a2,a3,a4⟩:=(h.out.below P).get U;have ad:=λwx=>jy (m:=R) hA Z wx;have O:=hid (KD wr bt e t (ae P Hc.out));have He:=hid U;obtain⟨u,hu⟩:∃u,(e.to_==t)=u:=⟨_,rfl⟩;rw[hu]at O;have Hu:=hid hu;obtain⟨x,hx⟩:∃x,e.to_=x:=⟨_,rfl⟩;obtain⟨xs,ac⟩:∃x,e.c.s=x:=⟨_,rfl⟩;obtain⟨xd,S⟩:∃x,e.c.d=x:=⟨_,rfl⟩;obtain⟨xm,ab⟩:∃x,e.mid=x:=⟨_,rfl⟩;rw[hx]at a1 O;rw[ac]at a2 O;rw[S]at a3 O;rw[ab]at a4 O;clear hA U hu hx ac S ab;go_wp2_with fail;(with_reducible refine O.out.mono ?_);rintro r w2 ⟨rfl,T⟩;have I:=aa P T;clear a1 a2 a3 a4 O ad T P;cases u with
   |true=>
    have z:GM w L t (.returned (.int .i64 (k:Nat))) w2:=.inr ⟨k,e,rfl,He.out,by simpa using Hu.out,J.out,I⟩;have z:=hid z;clear I;go_wp2;go_ret;exact z.out
   |false=>
    have F:∀j e',L[j]? =some e'->j<k+1->e'.to_≠t:=λj e' B hj=>by
     by_cases e1:j=k
     .subst e1
      rw[He.out]at B;injection B with B
      subst B;simpa using Hu.out
     .exact J.out j e' B (by omega)
    have Q:=hid F;clear F;go_wp2;go_roundw
    case rel=>exact⟨k+1,by go_num,by omega,Q.out,I⟩
    case measure=>simp[intOf];omega
  .obtain rfl:k=n:=by omega
   have z:GM w L t (.returned (.int .i64 (-1))) wr:=.inl ⟨rfl,λe U=>by
    obtain⟨j,hj⟩:=List.getElem?_of_mem U;exact J.out j e hj (by have:=(List.getElem?_eq_some_iff.1 hj).1;have:=Hn.out;omega),P⟩
   have z:=hid z;clear P;go_wp2;go_ret;exact z.out
theorem KE(w:World)(k:Nat)(e:Ed)(t:Int)(u:w.cell? ⟨k,0,none⟩=some (.int .i64 t)):Calls Tryz.prog 163 #[.agg #[.int .i64 e.to_,.int .i64 e.c.s,.int .i64 e.c.d,.int .i64 e.mid],.pointer (some ⟨k,0,none⟩)] w λr F=>r=.returned (.bool (e.to_==t))/\Below w.heap.size w F:=by
 obtain⟨x,⟨s,d⟩,m⟩:=e;have B:=World.new_ne w _ u;have z:=λo=>aC (o:=o) u;simp only;go_enter Tryz.func163,Tryz.ntmps163;go_wp2;go_ret;exact⟨rfl,by(repeat' (first|exact Below.refl _ _|assumption|apply aj|apply ah|apply af|(refine aa ?_ (by assumption))))⟩
theorem Ob(w:World)(A:Option Addr)(n R:Nat)(L:List Ed)(bt:Nat)(t:Int)(h:bQ w A L)(hn:L.length=n)(hl:n<=100000)(hc:w.cell? ⟨bt,0,none⟩=some (.int .i64 t)):Calls Tryz.prog 215 #[.slice A n R,.func (.func 163) #[] #[.pointer (some ⟨bt,0,none⟩)]] w (GM w L t):=by
 have Hn:=hid hn;have h:=hid h;have Hc:=hid hc;clear hn hc;go_enter Tryz.func215,Tryz.ntmps215;go_wp2_with fail;go_loopw [8] (λkv wr=>∃k:Nat,kv=.int .i64 k/\k<=n/\(∀j e,L[j]? =some e->j<k->e.to_≠t)/\Below w.heap.size w wr) (λkv _=>n-(intOf kv).toNat)
 case atStart=>exact⟨0,rfl,by omega,λj e _ h=>by omega,Below.refl _ _⟩
 case round=>
  obtain⟨k,rfl,hk,M,P⟩:=hrel;have J:=hid M;clear M;by_cases Z:k<n
  .obtain⟨e,U⟩:∃e,L[k]? =some e:=⟨L[k]'(by rw[Hn.out];exact Z),List.getElem?_eq_getElem _⟩
   obtain⟨g,hA,a1,a2,a3,a4⟩:=(h.out.below P).get U;have ad:=λwx=>jy (m:=R) hA Z wx;have O:=hid (KE wr bt e t (ae P Hc.out));have He:=hid U;obtain⟨u,hu⟩:∃u,(e.to_==t)=u:=⟨_,rfl⟩;rw[hu]at O;have Hu:=hid hu;obtain⟨x,hx⟩:∃x,e.to_=x:=⟨_,rfl⟩;obtain⟨xs,ac⟩:∃x,e.c.s=x:=⟨_,rfl⟩;obtain⟨xd,S⟩:∃x,e.c.d=x:=⟨_,rfl⟩;obtain⟨xm,ab⟩:∃x,e.mid=x:=⟨_,rfl⟩;rw[hx]at a1 O;rw[ac]at a2 O;rw[S]at a3 O;rw[ab]at a4 O;clear hA U hu hx ac S ab;go_wp2_with fail;(with_reducible refine O.out.mono ?_);rintro r w2 ⟨rfl,T⟩;have I:=aa P T;clear a1 a2 a3 a4 O ad T P;cases u with
   |true=>
    have z:GM w L t (.returned (.int .i64 (k:Nat))) w2:=.inr ⟨k,e,rfl,He.out,by simpa using Hu.out,J.out,I⟩;have z:=hid z;clear I;go_wp2;go_ret;exact z.out
   |false=>
    have F:∀j e',L[j]? =some e'->j<k+1->e'.to_≠t:=λj e' B hj=>by
     by_cases e1:j=k
     .subst e1
      rw[He.out]at B;injection B with B
      subst B;simpa using Hu.out
     .exact J.out j e' B (by omega)
    have Q:=hid F;clear F;go_wp2;go_roundw
    case rel=>exact⟨k+1,by go_num,by omega,Q.out,I⟩
    case measure=>simp[intOf];omega
  .obtain rfl:k=n:=by omega
   have z:GM w L t (.returned (.int .i64 (-1))) wr:=.inl ⟨rfl,λe U=>by
    obtain⟨j,hj⟩:=List.getElem?_of_mem U;exact J.out j e hj (by have:=(List.getElem?_eq_some_iff.1 hj).1;have:=Hn.out;omega),P⟩
   have z:=hid z;clear P;go_wp2;go_ret;exact z.out
def iZ(L:List Ed)(t:Int):List Ed:=L.filter λe=>!(e.to_==t)
def JL(w:World)(v:Value)(L:List Ed)(e:Ending)(w':World):Prop:=∃v',e=.returned v'/\bU w' 0 v' L/\Kept v.ownBlock.toList w w'/\v'.ownBlock=v.ownBlock
def nW(w:World)(g cap n:Nat)(M:List Ed):Prop:=∃cur,w.heap[g]? =some (.cells cur 182 (0,0))/\cur.size=cap*4/\n<=cap/\cap<=maxLen/\M.length=n/\cur.toList.take (n*4)=dw M
theorem nW.lt{g cap n:Nat}(h:nW w g cap n M):g<w.heap.size:=by
 obtain⟨k,u,_⟩:=h;exact(Array.getElem?_eq_some_iff.1 u).1
theorem nW.below{g cap n:Nat}(h:nW w g cap n M)(B:Below w.heap.size w w'):nW w' g cap n M:=by
 have F:=h.lt;obtain⟨k,u,z⟩:=h;exact⟨k,(B.block g F).trans u,z⟩
theorem nW.get{g cap n:Nat}(h:nW w g cap n M)(J:M[j]? =some e):w.cell? ⟨g,j*4,none⟩=some (.int .i64 e.to_)/\w.cell? ⟨g,j*4+1,none⟩=some (.int .i64 e.c.s)/\w.cell? ⟨g,j*4+2,none⟩=some (.int .i64 e.c.d)/\w.cell? ⟨g,j*4+3,none⟩=some (.int .i64 e.mid):=by
 obtain⟨B,F,O,P,Q,R,I⟩:=h
 have u:∀k v,(dw M)[k]? =some v->w.cell? ⟨g,k,none⟩=some v:=λk v z=>by
  rw[<-I,List.getElem?_take]at z;split at z
  .rw[Array.getElem?_toList]at z;simp[World.cell?,F,z]
  .cases z
 obtain⟨a,b,c,d⟩:=tY M j e J;exact⟨u _ _ a,u _ _ b,u _ _ c,u _ _ d⟩
theorem FI:∀(M:List Ed)(i:Nat)(e:Ed),i<M.length->dw (M.set i e)=((((dw M).set (i*4) (.int .i64 e.to_)).set (i*4+1) (.int .i64 e.c.s)).set (i*4+2) (.int .i64 e.c.d)).set (i*4+3) (.int .i64 e.mid)
 |[],i,e,h=>by simp at h
 |x::M,0,e,h=>by
  rw[List.set_cons_zero,dA,dA];simp[Ed.cells]
 |x::M,i+1,e,h=>by
  rw[List.set_cons_succ,dA,dA,FI M i e (by simpa using h)];have z:x.cells.length=4:=rfl
  have u:∀(a b:List Value)(k:Nat)(v:Value),a.length=4->(a++b).set (4+k) v=a++b.set k v:=λa b k v B=>by
   rw[List.set_append_right _ _ (by omega),B,show 4+k-4=k by omega]
  rw[show(i+1)*4+1=4+(i*4+1)by omega,show(i+1)*4+2=4+(i*4+2)by omega,show(i+1)*4+3=4+(i*4+3)by omega,show(i+1)*4=4+i*4 by omega];rw[u _ _ _ _ z,u _ _ _ _ z,u _ _ _ _ z,u _ _ _ _ z]
theorem nW.set{g cap n:Nat}(h:nW w g cap n M)(O:i<n)(e:Ed):nW ((((w.setCell ⟨g,i*4,none⟩ (.int .i64 e.to_)).setCell ⟨g,i*4+1,none⟩ (.int .i64 e.c.s)).setCell ⟨g,i*4+2,none⟩ (.int .i64 e.c.d)).setCell ⟨g,i*4+3,none⟩ (.int .i64 e.mid)) g cap n (M.set i e):=by
 obtain⟨k,u,z,B,F,I,J⟩:=h;refine⟨_,aH _ _ _ _ _ _ (aH _ _ _ _ _ _ (aH _ _ _ _ _ _ (aH _ _ _ _ _ _ u))),by simp[z],B,F,by simp[I],?_⟩;rw[FI M i e (by omega),<-J];simp only[Array.toList_setIfInBounds,List.take_set]
def fE(w w1:World)(g cap n:Nat)(L:List Ed)(t:Int)(i j:Nat)(wr:World):Prop:=
 ∃M,nW wr g cap n M/\M.take i=iZ (L.take j) t/\M.drop j=L.drop j/\Kept [g] w wr/\Kept [g] w1 wr
theorem fE.start{g cap n:Nat}{k:Nat}(h:nW w g cap n L)(I:Below w.heap.size w w1)(J:L[k]? =some e)(z:e.to_=t)(B:∀j F,L[j]? =some F->j<k->F.to_≠t):fE w w1 g cap n L t k (k+1) w1:=by
 refine⟨L,h.below I,?_,rfl,Kept.of_below I,Kept.refl _ _⟩;unfold iZ;have Q:=(List.getElem?_eq_some_iff.1 J).1;rw[List.take_add_one,J,List.filter_append]
 have O:(L.take k).filter (λe=>!(e.to_==t))=L.take k:=by
  rw[List.filter_eq_self];intro x P;obtain⟨j,u⟩:=List.getElem?_of_mem P;rw[List.getElem?_take]at u;split at u
  .have:=B j x u (by assumption)
   simpa using this
  .cases u
 rw[O];simp[z]
theorem fE.below{g cap n:Nat}(h:fE w w1 g cap n L t i j wr)(k:Below wr.heap.size wr w'):fE w w1 g cap n L t i j w':=by
 obtain⟨M,u,z,B,F,I⟩:=h;exact⟨M,u.below k,z,B,F.trans (Kept.of_below k),I.trans (Kept.of_below k)⟩
theorem fE.lt{g cap n:Nat}(h:fE w w1 g cap n L t i j wr):g<wr.heap.size:=by
 obtain⟨M,k,_⟩:=h;exact k.lt
theorem Bd(h:M.drop j=L.drop j)(k:L[j]? =some e):M[j]? =some e:=by
 have:=congrArg (λl:List Ed=>l[0]?) h;simp only[List.getElem?_drop,Nat.add_zero]at this;rw[this];exact k
theorem fE.get{g cap n:Nat}(h:fE w w1 g cap n L t i j wr)(z:L[j]? =some e):wr.cell? ⟨g,j*4,none⟩=some (.int .i64 e.to_)/\wr.cell? ⟨g,j*4+1,none⟩=some (.int .i64 e.c.s)/\wr.cell? ⟨g,j*4+2,none⟩=some (.int .i64 e.c.d)/\wr.cell? ⟨g,j*4+3,none⟩=some (.int .i64 e.mid):=by
 obtain⟨M,k,B,u,_⟩:=h;exact k.get (Bd u z)
theorem fE.there{g cap n:Nat}(h:fE w w1 g cap n L t i j wr)(z:i<n):∃u1 u2 u3 u4:Value,wr.cell? ⟨g,i*4,none⟩=some u1/\wr.cell? ⟨g,i*4+1,none⟩=some u2/\wr.cell? ⟨g,i*4+2,none⟩=some u3/\wr.cell? ⟨g,i*4+3,none⟩=some u4:=by
 obtain⟨M,k,_⟩:=h;have u:i<M.length:=by obtain⟨_,_,_,_,_,q,_⟩:=k;omega
 obtain⟨a,b,c,d⟩:=k.get (List.getElem?_eq_getElem u);exact⟨_,_,_,_,a,b,c,d⟩
theorem fE.free{g cap n:Nat}(h:fE w w1 g cap n L t i j wr):wr.frozen? ⟨g,i*4,none⟩=false/\wr.frozen? ⟨g,i*4+1,none⟩=false/\wr.frozen? ⟨g,i*4+2,none⟩=false/\wr.frozen? ⟨g,i*4+3,none⟩=false:=by
 obtain⟨M,⟨k,u,_⟩,_⟩:=h;simp[World.frozen?,u]
theorem fE.cell{g cap n:Nat}{i j k:Nat}{v:Value}(h:fE w w1 g cap n L t i j wr)(F:k<w1.heap.size)(u:k≠g)(B:w1.cell? ⟨k,0,none⟩=some v):wr.cell? ⟨k,0,none⟩=some v:=by
 obtain⟨M,_,_,_,_,z⟩:=h;exact aJ z (by simpa using u) B
theorem fE.skip{g cap n:Nat}(h:fE w w1 g cap n L t i j wr)(J:L[j]? =some e)(k:e.to_=t):fE w w1 g cap n L t i (j+1) wr:=by
 obtain⟨M,u,z,B,F,I⟩:=h;refine⟨M,u,?_,?_,F,I⟩
 .rw[z]
  unfold iZ;rw[List.take_add_one,J,List.filter_append];simp[k]
 .have:=congrArg (List.drop 1) B
  simpa[List.drop_drop]using this
theorem fE.keep{g cap n:Nat}(h:fE w w1 g cap n L t i j wr)(I:L[j]? =some e)(k:e.to_≠t)(P:i<j):fE w w1 g cap n L t (i+1) (j+1) ((((wr.setCell ⟨g,i*4,none⟩ (.int .i64 e.to_)).setCell ⟨g,i*4+1,none⟩ (.int .i64 e.c.s)).setCell ⟨g,i*4+2,none⟩ (.int .i64 e.c.d)).setCell ⟨g,i*4+3,none⟩ (.int .i64 e.mid)):=by
 obtain⟨M,u,z,B,J,O⟩:=h;have R:M.length=n:=by obtain⟨_,_,_,_,_,q,_⟩:=u;exact q
 have Q:=(List.getElem?_eq_some_iff.1 (Bd B I)).1;have F:Kept [g] wr ((((wr.setCell ⟨g,i*4,none⟩ (.int .i64 e.to_)).setCell ⟨g,i*4+1,none⟩ (.int .i64 e.c.s)).setCell ⟨g,i*4+2,none⟩ (.int .i64 e.c.d)).setCell ⟨g,i*4+3,none⟩ (.int .i64 e.mid)):=((((Kept.refl _ _).setCell (.inl (by simp))).setCell (.inl (by simp))).setCell (.inl (by simp))).setCell (.inl (by simp));refine⟨M.set i e,u.set (by omega) e,?_,?_,J.trans F,O.trans F⟩
 .unfold iZ at z⊢
  rw[List.take_add_one (l:=L),I,List.filter_append,<-z];rw[List.take_add_one,List.getElem?_set_self (by omega)];simp[List.take_set,k];exact List.set_eq_of_length_le (by simp;omega)
 .rw[List.drop_set_of_lt (by omega)]
  have:=congrArg (List.drop 1) B;simpa[List.drop_drop]using this
theorem Ij:∀w,(zeroValue 182).run Tryz.prog w=.ok (.agg #[.int .i64 0,.int .i64 0,.int .i64 0,.int .i64 0]) w:=by
 intro w;simp[Tryz.zeroValue182]
theorem fE.clear{g cap n:Nat}(h:fE w w1 g cap n L t i n wr)(hn:L.length=n)(hi:i<n):∃Z,(∀U,(Builtin.clear_ #[119] U #[.slice (some ⟨g,i*4,none⟩) (n-i) (cap-i)]).run Tryz.prog wr=.ok (.tuple #[]) Z)/\JL w (.slice (some ⟨g,0,none⟩) n cap) (iZ L t) (.returned (.slice (some ⟨g,0,none⟩) i cap)) Z:=by
 obtain⟨M,⟨z,T,c2,c3,S,c5,c6⟩,P,_,I,_⟩:=h;rw[show L.take n=L by rw[<-hn,List.take_length]]at P;obtain⟨F,u⟩:∃F,(Builtin.zeroCells (Value.agg #[.int .i64 0,.int .i64 0,.int .i64 0,.int .i64 0]).cells (n-i)).toList=F:=⟨_,rfl⟩
 have zl:F.length=(n-i)*4:=by
  rw[<-u];simp[Builtin.zeroCells,Value.cells]
 have z1:∀v∈F,v.oneCell'=true:=by
  intro v R;rw[<-u]at R;simp[Builtin.zeroCells,Value.cells]at R;obtain⟨k,_,rfl⟩:=R;have:k%4=0\/k%4=1\/k%4=2\/k%4=3:=by omega
  rcases this with e|e|e|e<;>rw[e]<;>rfl
 have O:=run_storeCells_at Tryz.prog g (i*4) 182 F 0 z wr T (by omega) z1;simp only[Nat.add_zero]at O;refine⟨wr.setRow g (z.toList.take (i*4)++F++z.toList.drop (i*4+F.length)).toArray,λU=>?_,_,rfl,?_,?_,rfl⟩
 rotate_left
 .have J:(iZ L t).length=i:=by rw[<-P,List.length_take];omega
  refine⟨by rw[bz],.inr ⟨g,cap,_,by rw[J],Nat.zero_le _,setRow_heap wr g z _ _ _ T,by omega,S,?_,?_⟩⟩
  .simp[zl];omega
  .rw[J]
   rw[List.append_assoc,List.take_append_of_le_length (by simp;omega),List.take_take,Nat.min_self,<-P,<-qf,<-c6,List.take_take,Nat.min_eq_left (by omega)]
 .refine⟨I.os,I.tape,I.output,by simpa[World.setRow]using I.size,λk hk Q=>?_⟩
  have B:k≠g:=by simpa[Value.ownBlock]using Q
  exact(setRow_other wr g k _ B).trans (I.block k hk (by simpa using B))
 .obtain⟨m,hm⟩:∃m,n-i=m+1:=⟨n-i-1,by omega⟩
  rw[hm]at u⊢;simp only[Value.cells]at u;simp[Builtin.clear_,run_underlying Tryz.underlying119,Ij,Value.cells,u,O,Result.andThen]
theorem N8(w:World)(v:Value)(L:List Ed)(bt:Nat)(t:Int)(h:bU w 0 v L)(hl:L.length<=100000)(hc:w.cell? ⟨bt,0,none⟩=some (.int .i64 t))(bc:v.ownBlock≠some bt):Calls Tryz.prog 161 #[v,.func (.func 162) #[] #[.pointer (some ⟨bt,0,none⟩)]] w (JL w v (iZ L t)):=by
 obtain⟨A0,Q,a9,al⟩:=h.Ag;have cI:=hid (N9 w A0 L.length Q L bt t al rfl hl hc);by_cases I:∃e∈L,e.to_=t
 case neg=>
  subst a9
  have ac:iZ L t=L:=by
   unfold iZ;rw[List.filter_eq_self];intro e P;have:e.to_≠t:=λe1=>I ⟨e,P,e1⟩;simpa using this
  rw[ac];obtain⟨n,hn⟩:∃n,L.length=n:=⟨_,rfl⟩;rw[hn]at cI;have H:=hid h;have Hn:=hid hn;have M:=hid I;rw[hn];clear h al hn I ac;go_enter Tryz.func161,Tryz.ntmps161;go_wp2_with fail;(with_reducible refine cI.out.mono ?_);rintro r w1 (⟨rfl,ao,J⟩|⟨k,e,rfl,P,Z,_,_⟩)
  .have B:JL w (.slice A0 n Q) L (.returned (.slice A0 n Q)) w1:=by
    have hk:=Kept.of_below (S:=(Value.slice A0 n Q).ownBlock.toList) J;exact⟨_,rfl,by have:=H.out.kept (T:=[]) (.of_below J) (λ_ _=>by simp);rw[Hn.out]at this;exact this,hk,rfl⟩
   have B:=hid B;clear cI ao J;go_wp2;go_ret;exact B.out
  .exact absurd ⟨e,List.mem_of_getElem? P,Z⟩ M.out
 rcases h.2 with⟨e0,h0⟩|⟨g,F,ba,e0,_,hg,a8,an,a0,ad⟩
 .exfalso
  obtain⟨e,P,_⟩:=I;have:L=[]:=List.eq_nil_of_length_eq_zero h0;subst this;simp at P
 subst e0;injection a9 with e1 e2 e3
 subst e1;subst e3;have ab:nW w g F L.length L:=⟨ba,hg,a0,a8,an,rfl,ad⟩;have bb:bt≠g:=λe=>bc (by rw[e];rfl);have a6:L.length=L.length:=rfl;obtain⟨n,hn⟩:∃n,L.length=n:=⟨_,rfl⟩;rw[hn]at cI ab a8 hl⊢;have Hn:=hid hn;have M:=hid I;have Hc:=hid hc;have ax:=hid ab;have an:F<=9223372036854775807:=an;clear h al I hg a0 ad ab a6 hn hc;go_enter Tryz.func161,Tryz.ntmps161;go_wp2_with fail;(with_reducible refine cI.out.mono ?_);rintro r w1 (⟨rfl,ao,J⟩|⟨k,e,rfl,P,Z,O,J⟩)
 .obtain⟨e,P,Z⟩:=M.out
  exact absurd Z (ao e P)
 have bx:k<n:=by have:=(List.getElem?_eq_some_iff.1 P).1;have:=Hn.out;omega
 have bg:((k:Int)== -1)=false:=beq_eq_false_iff_ne.2 (by omega);have hstart:fE w w1 g F n L t k (k+1) w1:=fE.start ax.out J P Z O;have aE:=hid (ae J Hc.out);have bj:=hid J;have ay:bt<w1.heap.size:=World.block_lt_of_cell? _ _ aE.out;have bh:IntKind.i64.wrap ((k:Int)+1)=((k+1:Nat):Int):=by rw[IntWalk.i64_in _ (by omega)];omega
 clear cI P Z O J;go_wp2_with fail;clear bh bg;obtain⟨wz,rfl⟩:∃wz:World,wz=w1:=⟨_,rfl⟩
 go_loopw [5,6] (λiv jv wr=>∃i j:Nat,iv=.int .i64 i/\jv=.int .i64 j/\i<j/\j<=n/\fE w wz g F n L t i j wr) (λ_ jv _=>n-(intOf jv).toNat)
 case atStart=>exact⟨k,k+1,rfl,rfl,by omega,by omega,hstart⟩
 case round=>
  obtain⟨i,j,rfl,rfl,bd,bw,hI⟩:=hrel;have HI:=hid hI;clear hstart hI;by_cases a7:j<n
  .obtain⟨e,P⟩:∃e,L[j]? =some e:=⟨L[j]'(by rw[Hn.out];exact a7),List.getElem?_eq_getElem _⟩
   have He:=hid P;obtain⟨a1,a2,a3,a4⟩:=HI.out.get P;have be:=λwx=>jy (A:=some ⟨g,0,none⟩) (m:=F) rfl a7 wx;have a5:=λwx=>jy (A:=some ⟨g,0,none⟩) (m:=F) (n:=n) (k:=i) rfl (by omega) wx;have aS:=HI.out.cell ay bb aE.out;have cF:=hid (λw'(hb:Below wr.heap.size wr w')=>KD w' bt e t (ae hb aS));obtain⟨u,hu⟩:∃u,(e.to_==t)=u:=⟨_,rfl⟩;rw[hu]at cF;have Hu:=hid hu;have bp:=HI.out.lt;obtain⟨x,hx⟩:∃x,e.to_=x:=⟨_,rfl⟩;obtain⟨xs,ar⟩:∃x,e.c.s=x:=⟨_,rfl⟩;obtain⟨xd,ap⟩:∃x,e.c.d=x:=⟨_,rfl⟩;obtain⟨xm,aq⟩:∃x,e.mid=x:=⟨_,rfl⟩;rw[hx]at a1 cF;rw[ar]at a2 cF;rw[ap]at a3 cF;rw[aq]at a4 cF;have Hx:=hid (And.intro hx (And.intro ar (And.intro ap aq)));clear P hu aS hx ar ap aq;go_upto_region 8 with(fail);refine au ?_;intro Wq R;have ai:Below wr.heap.size wr Wq:=by rw[R];(repeat' (first|exact Below.refl _ _|assumption|apply aj|apply ah|apply af|(refine aa ?_ (by assumption))))
   have q0:Wq.cell? ⟨wr.heap.size,0,none⟩=some (.int .i64 x):=by rw[R];go_simp
   have q1:Wq.cell? ⟨wr.heap.size,1,none⟩=some (.int .i64 xs):=by rw[R];go_simp
   have q2:Wq.cell? ⟨wr.heap.size,2,none⟩=some (.int .i64 xd):=by rw[R];go_simp
   have q3:Wq.cell? ⟨wr.heap.size,3,none⟩=some (.int .i64 xm):=by rw[R];go_simp
   obtain⟨bq,am⟩:∃z,wr.heap.size=z:=⟨_,rfl⟩;have bo:g<bq:=by omega
   have aw:=hid (HI.out.below ai);have bi:=hid am;rw[am]at q0 q1 q2 q3⊢;clear R am a1 a2 a3 a4 be;go_wp2_with fail;(with_reducible refine(cF.out _ ai).mono ?_);rintro r w2 ⟨rfl,U⟩;have ag:=hid (aw.out.below U);have q0:=ae U q0;have q1:=ae U q1;have q2:=ae U q2;have q3:=ae U q3;clear U ai cF HI aw;cases u with
   |true=>
    have hF:fE w wz g F n L t i (j+1) w2:=ag.out.skip He.out (by simpa using Hu.out);have hF:=hid hF;clear q0 q1 q2 q3;go_wp2;go_roundw
    case rel=>first|exact⟨i,j+1,rfl,by go_num,by omega,by omega,hF.out⟩|((repeat apply Exists.intro);exact⟨⟨i,j+1,rfl,by go_num,by omega,by omega,hF.out⟩,rfl⟩)
    case measure=>simp[intOf];omega
   |false=>
    obtain⟨f1,f2,f3,f4⟩:=ag.out.free (i:=i);obtain⟨p1,p2,p3,p4,o1,o2,o3,o4⟩:=ag.out.there (i:=i) (by omega)
    have hF:fE w wz g F n L t (i+1) (j+1) ((((w2.setCell ⟨g,i*4,none⟩ (.int .i64 x)).setCell ⟨g,i*4+1,none⟩ (.int .i64 xs)).setCell ⟨g,i*4+2,none⟩ (.int .i64 xd)).setCell ⟨g,i*4+3,none⟩ (.int .i64 xm)):=by
     have:=ag.out.keep He.out (by simpa using Hu.out) (by omega:i<j);rw[Hx.out.1,Hx.out.2.1,Hx.out.2.2.1,Hx.out.2.2.2]at this;exact this
    have hF:=hid hF;go_upto_region 10 with(fail);clear f1 f2 f3 f4 o1 o2 o3 o4 q0 q1 q2 q3 a5;generalize ((((w2.setCell ⟨g,i*4,none⟩ (.int .i64 x)).setCell ⟨g,i*4+1,none⟩ (.int .i64 xs)).setCell ⟨g,i*4+2,none⟩ (.int .i64 xd)).setCell ⟨g,i*4+3,none⟩ (.int .i64 xm))=w3 at hF⊢;have b0:IntKind.i64.wrap ((i:Int)+1)=((i+1:Nat):Int):=by rw[IntWalk.i64_in _ (by omega)];omega
    go_wp2;go_roundw
    case rel=>first|exact⟨i+1,j+1,rfl,by go_num,by omega,by omega,hF.out⟩|((repeat apply Exists.intro);exact⟨⟨i+1,j+1,rfl,by go_num,by omega,by omega,hF.out⟩,rfl⟩)
    case measure=>simp[intOf];omega
  .obtain rfl:j=n:=by omega
   obtain⟨w3,bm,B⟩:=HI.out.clear Hn.out bd;have B:=hid B;have bk:¬F=i:=by omega
   have bv:i<=j:=by omega
   have br:i<=F:=by omega
   clear HI;go_wp2;go_ret;exact B.out
theorem Oa(w:World)(v:Value)(L:List Ed)(bt:Nat)(t:Int)(h:bU w 0 v L)(hl:L.length<=100000)(hc:w.cell? ⟨bt,0,none⟩=some (.int .i64 t))(bc:v.ownBlock≠some bt):Calls Tryz.prog 161 #[v,.func (.func 163) #[] #[.pointer (some ⟨bt,0,none⟩)]] w (JL w v (iZ L t)):=by
 obtain⟨A0,Q,a9,al⟩:=h.Ag;have cI:=hid (Ob w A0 L.length Q L bt t al rfl hl hc);by_cases I:∃e∈L,e.to_=t
 case neg=>
  subst a9
  have ac:iZ L t=L:=by
   unfold iZ;rw[List.filter_eq_self];intro e P;have:e.to_≠t:=λe1=>I ⟨e,P,e1⟩;simpa using this
  rw[ac];obtain⟨n,hn⟩:∃n,L.length=n:=⟨_,rfl⟩;rw[hn]at cI;have H:=hid h;have Hn:=hid hn;have M:=hid I;rw[hn];clear h al hn I ac;go_enter Tryz.func161,Tryz.ntmps161;go_wp2_with fail;(with_reducible refine cI.out.mono ?_);rintro r w1 (⟨rfl,ao,J⟩|⟨k,e,rfl,P,Z,_,_⟩)
  .have B:JL w (.slice A0 n Q) L (.returned (.slice A0 n Q)) w1:=by
    have hk:=Kept.of_below (S:=(Value.slice A0 n Q).ownBlock.toList) J;exact⟨_,rfl,by have:=H.out.kept (T:=[]) (.of_below J) (λ_ _=>by simp);rw[Hn.out]at this;exact this,hk,rfl⟩
   have B:=hid B;clear cI ao J;go_wp2;go_ret;exact B.out
  .exact absurd ⟨e,List.mem_of_getElem? P,Z⟩ M.out
 rcases h.2 with⟨e0,h0⟩|⟨g,F,ba,e0,_,hg,a8,an,a0,ad⟩
 .exfalso
  obtain⟨e,P,_⟩:=I;have:L=[]:=List.eq_nil_of_length_eq_zero h0;subst this;simp at P
 subst e0;injection a9 with e1 e2 e3
 subst e1;subst e3;have ab:nW w g F L.length L:=⟨ba,hg,a0,a8,an,rfl,ad⟩;have bb:bt≠g:=λe=>bc (by rw[e];rfl);have a6:L.length=L.length:=rfl;obtain⟨n,hn⟩:∃n,L.length=n:=⟨_,rfl⟩;rw[hn]at cI ab a8 hl⊢;have Hn:=hid hn;have M:=hid I;have Hc:=hid hc;have ax:=hid ab;have an:F<=9223372036854775807:=an;clear h al I hg a0 ad ab a6 hn hc;go_enter Tryz.func161,Tryz.ntmps161;go_wp2_with fail;(with_reducible refine cI.out.mono ?_);rintro r w1 (⟨rfl,ao,J⟩|⟨k,e,rfl,P,Z,O,J⟩)
 .obtain⟨e,P,Z⟩:=M.out
  exact absurd Z (ao e P)
 have bx:k<n:=by have:=(List.getElem?_eq_some_iff.1 P).1;have:=Hn.out;omega
 have bg:((k:Int)== -1)=false:=beq_eq_false_iff_ne.2 (by omega);have hstart:fE w w1 g F n L t k (k+1) w1:=fE.start ax.out J P Z O;have aE:=hid (ae J Hc.out);have bj:=hid J;have ay:bt<w1.heap.size:=World.block_lt_of_cell? _ _ aE.out;have bh:IntKind.i64.wrap ((k:Int)+1)=((k+1:Nat):Int):=by rw[IntWalk.i64_in _ (by omega)];omega
 clear cI P Z O J;go_wp2_with fail;clear bh bg;obtain⟨wz,rfl⟩:∃wz:World,wz=w1:=⟨_,rfl⟩
 go_loopw [5,6] (λiv jv wr=>∃i j:Nat,iv=.int .i64 i/\jv=.int .i64 j/\i<j/\j<=n/\fE w wz g F n L t i j wr) (λ_ jv _=>n-(intOf jv).toNat)
 case atStart=>exact⟨k,k+1,rfl,rfl,by omega,by omega,hstart⟩
 case round=>
  obtain⟨i,j,rfl,rfl,bd,bw,hI⟩:=hrel;have HI:=hid hI;clear hstart hI;by_cases a7:j<n
  .obtain⟨e,P⟩:∃e,L[j]? =some e:=⟨L[j]'(by rw[Hn.out];exact a7),List.getElem?_eq_getElem _⟩
   have He:=hid P;obtain⟨a1,a2,a3,a4⟩:=HI.out.get P;have be:=λwx=>jy (A:=some ⟨g,0,none⟩) (m:=F) rfl a7 wx;have a5:=λwx=>jy (A:=some ⟨g,0,none⟩) (m:=F) (n:=n) (k:=i) rfl (by omega) wx;have aS:=HI.out.cell ay bb aE.out;have cF:=hid (λw'(hb:Below wr.heap.size wr w')=>KE w' bt e t (ae hb aS));obtain⟨u,hu⟩:∃u,(e.to_==t)=u:=⟨_,rfl⟩;rw[hu]at cF;have Hu:=hid hu;have bp:=HI.out.lt;obtain⟨x,hx⟩:∃x,e.to_=x:=⟨_,rfl⟩;obtain⟨xs,ar⟩:∃x,e.c.s=x:=⟨_,rfl⟩;obtain⟨xd,ap⟩:∃x,e.c.d=x:=⟨_,rfl⟩;obtain⟨xm,aq⟩:∃x,e.mid=x:=⟨_,rfl⟩;rw[hx]at a1 cF;rw[ar]at a2 cF;rw[ap]at a3 cF;rw[aq]at a4 cF;have Hx:=hid (And.intro hx (And.intro ar (And.intro ap aq)));clear P hu aS hx ar ap aq;go_upto_region 8 with(fail);refine au ?_;intro Wq R;have ai:Below wr.heap.size wr Wq:=by rw[R];(repeat' (first|exact Below.refl _ _|assumption|apply aj|apply ah|apply af|(refine aa ?_ (by assumption))))
   have q0:Wq.cell? ⟨wr.heap.size,0,none⟩=some (.int .i64 x):=by rw[R];go_simp
   have q1:Wq.cell? ⟨wr.heap.size,1,none⟩=some (.int .i64 xs):=by rw[R];go_simp
   have q2:Wq.cell? ⟨wr.heap.size,2,none⟩=some (.int .i64 xd):=by rw[R];go_simp
   have q3:Wq.cell? ⟨wr.heap.size,3,none⟩=some (.int .i64 xm):=by rw[R];go_simp
   obtain⟨bq,am⟩:∃z,wr.heap.size=z:=⟨_,rfl⟩;have bo:g<bq:=by omega
   have aw:=hid (HI.out.below ai);have bi:=hid am;rw[am]at q0 q1 q2 q3⊢;clear R am a1 a2 a3 a4 be;go_wp2_with fail;(with_reducible refine(cF.out _ ai).mono ?_);rintro r w2 ⟨rfl,U⟩;have ag:=hid (aw.out.below U);have q0:=ae U q0;have q1:=ae U q1;have q2:=ae U q2;have q3:=ae U q3;clear U ai cF HI aw;cases u with
   |true=>
    have hF:fE w wz g F n L t i (j+1) w2:=ag.out.skip He.out (by simpa using Hu.out);have hF:=hid hF;clear q0 q1 q2 q3;go_wp2;go_roundw
    case rel=>first|exact⟨i,j+1,rfl,by go_num,by omega,by omega,hF.out⟩|((repeat apply Exists.intro);exact⟨⟨i,j+1,rfl,by go_num,by omega,by omega,hF.out⟩,rfl⟩)
    case measure=>simp[intOf];omega
   |false=>
    obtain⟨f1,f2,f3,f4⟩:=ag.out.free (i:=i);obtain⟨p1,p2,p3,p4,o1,o2,o3,o4⟩:=ag.out.there (i:=i) (by omega)
    have hF:fE w wz g F n L t (i+1) (j+1) ((((w2.setCell ⟨g,i*4,none⟩ (.int .i64 x)).setCell ⟨g,i*4+1,none⟩ (.int .i64 xs)).setCell ⟨g,i*4+2,none⟩ (.int .i64 xd)).setCell ⟨g,i*4+3,none⟩ (.int .i64 xm)):=by
     have:=ag.out.keep He.out (by simpa using Hu.out) (by omega:i<j);rw[Hx.out.1,Hx.out.2.1,Hx.out.2.2.1,Hx.out.2.2.2]at this;exact this
    have hF:=hid hF;go_upto_region 10 with(fail);clear f1 f2 f3 f4 o1 o2 o3 o4 q0 q1 q2 q3 a5;generalize ((((w2.setCell ⟨g,i*4,none⟩ (.int .i64 x)).setCell ⟨g,i*4+1,none⟩ (.int .i64 xs)).setCell ⟨g,i*4+2,none⟩ (.int .i64 xd)).setCell ⟨g,i*4+3,none⟩ (.int .i64 xm))=w3 at hF⊢;have b0:IntKind.i64.wrap ((i:Int)+1)=((i+1:Nat):Int):=by rw[IntWalk.i64_in _ (by omega)];omega
    go_wp2;go_roundw
    case rel=>first|exact⟨i+1,j+1,rfl,by go_num,by omega,by omega,hF.out⟩|((repeat apply Exists.intro);exact⟨⟨i+1,j+1,rfl,by go_num,by omega,by omega,hF.out⟩,rfl⟩)
    case measure=>simp[intOf];omega
  .obtain rfl:j=n:=by omega
   obtain⟨w3,bm,B⟩:=HI.out.clear Hn.out bd;have B:=hid B;have bk:¬F=i:=by omega
   have bv:i<=j:=by omega
   have br:i<=F:=by omega
   clear HI;go_wp2;go_ret;exact B.out
def Sd(W:World)(S:List Nat)(mb:Nat)(E:Int->Option (List Ed))(wx:World):Prop:=∃S',dL wx S' mb E/\(∀k∈S',k∈S\/W.heap.size<=k)/\Kept (mb::S) W wx
theorem Br(w:World)(U:List Nat)(b p F:Nat)(E:Int->Option (List Ed))(x y:Int)(Lx Ly:List Ed)(hb:w.heap[b]? =some (.cells #[.pointer (some ⟨p,0,none⟩),.map (some F)] 185 (0,0)))(hE:dL w U F E)(ap:b∉U)(a5:b≠F)(bd:E x=some Lx)(be:E y=some Ly)(b7:x≠y)(b3:Lx.length<=100000)(b6:Ly.length<=100000):Calls Tryz.prog 109 #[.pointer (some ⟨b,0,none⟩),.int .i64 x,.int .i64 y] w (ND w U F (bO (bO E x (some (iZ Lx y))) y (some (iZ Ly x)))):=by
 have b8:=hE.lt;have aS:∀s∈U,s<w.heap.size:=by obtain⟨_,_,_,_,_,_,_,_,h7⟩:=hE;exact h7
 have b1:b<w.heap.size:=(Array.getElem?_eq_some_iff.1 hb).1;have bp:w.cell? ⟨b,1,none⟩=some (.map (some F)):=by simp[World.cell?,hb]
 have a7:=hid bd;have bt:=hid be;have bv:=hid b7;have HE:=hid hE;clear hb bd be hE;go_enter Tryz.func109,Tryz.ntmps109;go_upto_region 1 with(fail);refine au ?_;intro W hW;have HW:Below w.heap.size w W:=by rw[hW];(repeat' (first|exact Below.refl _ _|assumption|apply aj|apply ah|apply af|(refine aa ?_ (by assumption))))
 have c0:W.cell? ⟨w.heap.size,0,none⟩=some (.int .i64 x):=by rw[hW];go_simp
 have c1:W.cell? ⟨w.heap.size+1,0,none⟩=some (.int .i64 y):=by rw[hW];go_simp
 have k1:=ae HW bp;have bh:W.heap.size=w.heap.size+2:=by rw[hW];simp
 obtain⟨Z,bw⟩:∃z,w.heap.size=z:=⟨_,rfl⟩;rw[bw]at c0 c1 bh⊢;obtain⟨g,bx⟩:∃z,Z+1=z:=⟨_,rfl⟩;rw[bx]at c1⊢;have an:Z∉U:=λh=>by have:=aS Z h;omega
 have ao:g∉U:=λh=>by have:=aS g h;omega
 have br:=hid (HE.out.below HW);have ay:Hid (Z≠F/\g≠F):=hid ⟨by omega,by omega⟩;have bj:g<W.heap.size:=by omega
 clear hW bp;go_cut [] (λwx=>Sd W U F (bO E x (some (iZ Lx y))) wx)
 case first=>
  obtain⟨V,N,h1,h2,h3,h4,h5,h6,h7⟩:=br.out
  obtain⟨u,hu⟩:∃u,V x=some u:=by
   cases hV:V x with
   |none=>have:=(h2 x).2 hV;rw[a7.out]at this;cases this
   |some u=>exact⟨u,rfl⟩
  have hO:=h3 x u Lx hu a7.out;have J:∀q,u.ownBlock=some q->q∈U:=λq hq=>h4 x u q hu hq
  have b2:(Instr.lookup 137 (.map (some F)) (.int .i64 x) false).run Tryz.prog W.drew=.ok u W.drew:=by
   have:=((h1.below (ah (Below.refl _ W))).look (aG Tryz.underlying3) Tryz.underlying137 (z:=.slice none 0 0) (by simp[Tryz.zeroValue119]) x).2;rw[hu]at this;exact this
  have al:bU W.drew 0 u Lx:=hO.kept (T:=[]) (.of_below (ah (Below.refl _ W))) (λ_ _=>by simp);have ag:MapAt iK W.drew F V N:=h1.below (ah (Below.refl _ W));have Q:b∉u.ownBlock.toList:=λe=>by rw[Option.mem_toList]at e;exact ap (J b e)
  have aw:Z∉u.ownBlock.toList:=λe=>by rw[Option.mem_toList]at e;exact an (J _ e)
  have ax:F∉u.ownBlock.toList:=λe=>by rw[Option.mem_toList]at e;exact h5 (J F e)
  have ar:u.ownBlock≠some g:=λe=>ao (J _ e);have M:=hid (And.intro al (And.intro ag (And.intro Q (And.intro aw (And.intro ax ar)))));have H1:=hid h1;have H2:=hid h2;have H3:=hid h3;have H4:=hid h4;have H5:=hid h5;have H6:=hid h6;have H7:=hid h7;have Hu:=hid hu;clear h1 h2 h3 h4 h5 h6 h7 hO J al ag Q aw ax ar hu
  go_region_held3 (λw'=>w'.cell? ⟨b,1,none⟩=some (.map (some F))/\w'.cell? ⟨Z,0,none⟩=some (.int .i64 x))
   (first
    |exact⟨k1,c0⟩
    |exact R
    |exact a2)
   ((first
    |(go_at_call 161
      refine(N8 _ u Lx g _ M.out.1 b3 (show W.drew.cell? ⟨g,0,none⟩=_ from c1) M.out.2.2.2.2.2).mono ?_;rintro e wI ⟨v',rfl,am,B,ac⟩
      have R:wI.cell? ⟨b,1,none⟩=some (.map (some F))/\wI.cell? ⟨Z,0,none⟩=some (.int .i64 x):=
       ⟨aJ (w:=W.drew) B M.out.2.2.1 k1,aJ (w:=W.drew) B M.out.2.2.2.1 c0⟩
      have a0:MapAt iK wI F V N:=M.out.2.1.kept B M.out.2.2.2.2.1;obtain⟨wU,hU,ai,O⟩:=a0.store (aG Tryz.underlying3) Tryz.underlying137 x v';have hU:(Instr.mapUpdate 137 (.map (some F)) (.int .i64 x) v').run Tryz.prog wI=.ok () wU:=hU
      have a2:wU.cell? ⟨b,1,none⟩=some (.map (some F))/\wU.cell? ⟨Z,0,none⟩=some (.int .i64 x):=
       ⟨aJ O (by simpa using a5) R.1,aJ O (by simpa using ay.out.1) R.2⟩)))
  all_goals
   have aq:W.drew.grownBy wI u.ownBlock:=⟨B.os,B.tape,B.output,B.size,λk hk hn=>B.block k hk (by rw[Option.mem_toList];exactλe=>hn e.symm)⟩;have I:=dL.put (w:=W) (w1:=W.drew) H1.out H2.out H3.out H4.out H5.out H6.out H7.out Hu.out (ah (Below.refl _ W)) am aq (.inl ac) ai O;have I:=hid I;clear aq am B ac ai O
  all_goals
   first
    |(go_meet;(case rel=>exact I.out))
    |(go_wp2;go_meet;(case rel=>exact I.out))
 case rest=>
  obtain⟨S1,bb,a1,ad⟩:=hcut
  have bk:Z∉F::U:=by
   intro h;rcases List.mem_cons.1 h with h|h
   .exact ay.out.1 h
   .exact an h
  have bm:g∉F::U:=by
   intro h;rcases List.mem_cons.1 h with h|h
   .exact ay.out.2 h
   .exact ao h
  have Q:b∉F::U:=by
   intro h;rcases List.mem_cons.1 h with h|h
   .exact a5 h
   .exact ap h
  have a9:=aJ ad bk c0;have ba:=aJ ad bm c1;have bo:=aJ ad Q k1
  have L:∀k,k<W.heap.size->k∉U->k∉S1:=λk hk hn h=>by
   rcases a1 k h with q|q
   .exact hn q
   .omega
  have b0:b<W.heap.size:=Nat.lt_of_lt_of_le b1 HW.size;have a3:Z∉S1:=L Z (by omega) an;have a4:g∉S1:=L g bj ao;have bi:b∉S1:=L b b0 ap;have bq:=hid bb;have aE:Hid (bO E x (some (iZ Lx y)) y=some Ly):=hid (by unfold bO;rw[if_neg (Ne.symm bv.out)];exact bt.out);have a8:=hid a1;have a6:=hid ad;clear bb a1 ad bk bm Q c0 c1 k1 L;have c0:=ba;have c1:=a9;have k1:=bo;clear a9 ba bo;go_upto_region 2 with(fail);obtain⟨V,N,h1,h2,h3,h4,h5,h6,h7⟩:=bq.out
  obtain⟨u,hu⟩:∃u,V y=some u:=by
   cases hV:V y with
   |none=>have:=(h2 y).2 hV;rw[aE.out]at this;cases this
   |some u=>exact⟨u,rfl⟩
  have hO:=h3 y u Ly hu aE.out;have J:∀q,u.ownBlock=some q->q∈S1:=λq hq=>h4 y u q hu hq
  have b2:(Instr.lookup 137 (.map (some F)) (.int .i64 y) false).run Tryz.prog wc.drew=.ok u wc.drew:=by
   have:=((h1.below (ah (Below.refl _ wc))).look (aG Tryz.underlying3) Tryz.underlying137 (z:=.slice none 0 0) (by simp[Tryz.zeroValue119]) y).2;rw[hu]at this;exact this
  have al:bU wc.drew 0 u Ly:=hO.kept (T:=[]) (.of_below (ah (Below.refl _ wc))) (λ_ _=>by simp);have ag:MapAt iK wc.drew F V N:=h1.below (ah (Below.refl _ wc));have Q:b∉u.ownBlock.toList:=λe=>by rw[Option.mem_toList]at e;exact bi (J b e)
  have aw:g∉u.ownBlock.toList:=λe=>by rw[Option.mem_toList]at e;exact a4 (J _ e)
  have ax:F∉u.ownBlock.toList:=λe=>by rw[Option.mem_toList]at e;exact h5 (J F e)
  have ar:u.ownBlock≠some Z:=λe=>a3 (J _ e);have M:=hid (And.intro al (And.intro ag (And.intro Q (And.intro aw (And.intro ax ar)))));have H1:=hid h1;have H2:=hid h2;have H3:=hid h3;have H4:=hid h4;have H5:=hid h5;have H6:=hid h6;have H7:=hid h7;have Hu:=hid hu;clear h1 h2 h3 h4 h5 h6 h7 hO J al ag Q aw ax ar hu
  go_region_held3 (λw'=>w'.cell? ⟨b,1,none⟩=some (.map (some F))/\w'.cell? ⟨g,0,none⟩=some (.int .i64 y))
   (first
    |exact⟨k1,c0⟩
    |exact R
    |exact a2)
   ((first
    |(go_at_call 161
      refine(Oa _ u Ly Z _ M.out.1 b6 (show wc.drew.cell? ⟨Z,0,none⟩=_ from c1) M.out.2.2.2.2.2).mono ?_;rintro e wI ⟨v',rfl,am,B,ac⟩
      have R:wI.cell? ⟨b,1,none⟩=some (.map (some F))/\wI.cell? ⟨g,0,none⟩=some (.int .i64 y):=
       ⟨aJ (w:=wc.drew) B M.out.2.2.1 k1,aJ (w:=wc.drew) B M.out.2.2.2.1 c0⟩
      have a0:MapAt iK wI F V N:=M.out.2.1.kept B M.out.2.2.2.2.1;obtain⟨wU,hU,ai,O⟩:=a0.store (aG Tryz.underlying3) Tryz.underlying137 y v';have hU:(Instr.mapUpdate 137 (.map (some F)) (.int .i64 y) v').run Tryz.prog wI=.ok () wU:=hU
      have a2:wU.cell? ⟨b,1,none⟩=some (.map (some F))/\wU.cell? ⟨g,0,none⟩=some (.int .i64 y):=
       ⟨aJ O (by simpa using a5) R.1,aJ O (by simpa using ay.out.2) R.2⟩)))
  all_goals
   have aq:wc.drew.grownBy wI u.ownBlock:=⟨B.os,B.tape,B.output,B.size,λk hk hn=>B.block k hk (by rw[Option.mem_toList];exactλe=>hn e.symm)⟩;have I:=dL.put (w:=wc) (w1:=wc.drew) H1.out H2.out H3.out H4.out H5.out H6.out H7.out Hu.out (ah (Below.refl _ wc)) am aq (.inl ac) ai O;have I:=hid I;clear aq am B ac ai O
  all_goals
   obtain⟨S2,bc,bg,S⟩:=I.out;have bh:=HW.size
   have P:ND w U F (bO (bO E x (some (iZ Lx y))) y (some (iZ Ly x))) (.returned (.tuple #[])) wU:=by
    refine⟨rfl,S2,bc,λk hk=>?_,?_⟩
    .rcases bg k hk with q|q
     .rcases a8.out k q with r|r
      .exact .inl r
      .exact .inr (by omega)
     .have:=a6.out.size;exact .inr (by omega)
    .have ab:Kept (F::U) w wc:=(Kept.of_below HW).trans a6.out
     refine⟨S.os.trans ab.os,S.tape.trans ab.tape,S.output.trans ab.output,Nat.le_trans ab.size S.size,λk hk hn=>?_⟩;refine(S.block k (Nat.lt_of_lt_of_le hk ab.size) ?_).trans (ab.block k hk hn);intro hm;rcases List.mem_cons.1 hm with e|e
     .exact hn (by rw[e];simp)
     .rcases a8.out k e with q|q
      .exact hn (List.mem_cons_of_mem _ q)
      .omega
   have P:=hid P;clear bc bg S
   first
    |(go_end0;exact P.out)
    |(go_wp2;go_end0;exact P.out)
def lK(g:G)(N:Nat->Prop)(D:Nat->Nat->Prop)(E:Int->Option (List Ed)):Prop:=
 (∀z:Int,E z≠none↔∃c:Nat,z=c/\N c)/\∀(c:Nat)(L:List Ed),E c=some L->sJ L/\∀e,e∈L↔∃y:Nat,N y/\y≠c/\D c y/\e=⟨y,g.bV c y,-1⟩
theorem bI.sp{k:Nat->Nat->Prop}(h:bI g k E):lK g g.ak (λa b=>k a b/\g.aF a b) E:=by
 refine⟨h.1,λc L J=>⟨(h.2 c L J).1,λe=>?_⟩⟩;rw[(h.2 c L J).2 e];constructor
 .rintro⟨y,u,z,B,F,I⟩;exact⟨y,u,z,⟨B,F⟩,I⟩
 .rintro⟨y,u,z,⟨B,F⟩,I⟩;exact⟨y,u,z,B,F,I⟩
theorem lK.spec(h:lK g g.ak g.aF E):bI g (λ_ _=>True) E:=by
 refine⟨h.1,λc L F=>⟨(h.2 c L F).1,λe=>?_⟩⟩;rw[(h.2 c L F).2 e];constructor
 .rintro⟨y,k,u,z,B⟩;exact⟨y,k,u,trivial,z,B⟩
 .rintro⟨y,k,u,_,z,B⟩;exact⟨y,k,u,z,B⟩
theorem lK.node(h:lK g N D E)(u:E c=some L):N c:=by
 obtain⟨k,e,z⟩:=(h.1 c).1 (by rw[u];simp);obtain rfl:c=k:=by omega
 exact z
theorem lK.congr{N P:Nat->Prop}{D O:Nat->Nat->Prop}(h:lK g N D E)(B:∀c,N c↔P c)(Q:∀a b,N a->N b->a≠b->(D a b↔O a b))(T:∀a b,g'.bV a b=g.bV a b):lK g' P O E:=by
 refine⟨λz=>?_,λc L J=>⟨(h.2 c L J).1,λe=>?_⟩⟩
 .rw[h.1 z]
  exact exists_congr λc=>and_congr_right λ_=>B c
 .have R:=h.node J
  rw[(h.2 c L J).2 e];constructor
  .rintro⟨y,k,u,F,I⟩;exact⟨y,(B y).1 k,u,(Q c y R k (Ne.symm u)).1 F,by rw[T];exact I⟩
  .rintro⟨y,k,u,F,I⟩;exact⟨y,(B y).2 k,u,(Q c y R ((B y).2 k) (Ne.symm u)).2 F,by rw[<-T];exact I⟩
theorem lK.facts{M:Nat}(h:lK g N D E)(O:M<=256)(F:∀c,N c->c<M)(I:N c):∃L,E c=some L/\sJ L/\(∀e∈L,aV e.to_)/\L.length<=1000/\∀e,e∈L↔∃y:Nat,N y/\y≠c/\D c y/\e=⟨y,g.bV c y,-1⟩:=by
 have B:=(h.1 c).2 ⟨c,rfl,I⟩;cases u:E c with
 |none=>exact absurd u B
 |some L=>
  obtain⟨a,b⟩:=h.2 c L u
  have z:∀e∈L,0<=e.to_/\e.to_<M:=λe k=>by
   obtain⟨y,J,_,_,rfl⟩:=(b e).1 k;have:=F y J;simp only;omega
  refine⟨L,rfl,a,λe k=>?_,?_,b⟩
  .have:=z e k
   unfold aV;omega
  .have:=Cz a M z
   omega
theorem wF:sJ L↔L.Pairwise (λa b=>a.to_<b.to_):=by
 rw[List.pairwise_iff_getElem];constructor
 .intro h i j u z k;exact h i j _ _ k (List.getElem?_eq_getElem u) (List.getElem?_eq_getElem z)
 .intro h i j a b k B F
  obtain⟨u,rfl⟩:=List.getElem?_eq_some_iff.1 B;obtain⟨z,rfl⟩:=List.getElem?_eq_some_iff.1 F;exact h i j u z k
theorem GD(h:sJ L)(t:Int):sJ (iZ L t):=by
 rw[wF]at*;exact h.filter _
theorem Ga:e∈iZ L t↔e∈L/\e.to_≠t:=by
 unfold iZ;simp
def Pr(a b x y:Nat):Prop:=(x=a/\y=b)\/(x=b/\y=a)
theorem lK.cut(h:lK g N D E){a b:Nat}(S:N a)(hb:N b)(R:a≠b){T U:List Ed}(Z:E a=some T)(M:E b=some U):lK g N (λx y=>D x y/\¬Pr a b x y) (bO (bO E a (some (iZ T b))) b (some (iZ U a))):=by
 obtain⟨sa,ma⟩:=h.2 a T Z;obtain⟨sb,mb⟩:=h.2 b U M;refine⟨λz=>?_,λc L u=>?_⟩
 .unfold bO
  by_cases O:z=(b:Int)
  .rw[if_pos O];exact⟨λ_=>⟨b,O,hb⟩,λ_=>by simp⟩
  .rw[if_neg O]
   by_cases P:z=(a:Int)
   .rw[if_pos P];exact⟨λ_=>⟨a,P,S⟩,λ_=>by simp⟩
   .rw[if_neg P];exact h.1 z
 .unfold bO at u
  by_cases O:(c:Int)=(b:Int)
  .rw[if_pos O]at u
   injection u with u
   obtain rfl:c=b:=by omega
   subst u;refine⟨GD sb _,λe=>?_⟩;rw[Ga,mb e];constructor
   .rintro⟨⟨y,B,F,I,rfl⟩,k⟩
    simp only at k;refine⟨y,B,F,⟨I,?_⟩,rfl⟩;rintro(⟨J,Q⟩|⟨J,Q⟩)
    .exact R J.symm
    .exact k (by rw[Q])
   .rintro⟨y,B,F,⟨I,k⟩,rfl⟩
    refine⟨⟨y,B,F,I,rfl⟩,?_⟩;simp only;intro r;exact k (.inr ⟨rfl,by omega⟩)
  .rw[if_neg O]at u
   by_cases P:(c:Int)=(a:Int)
   .rw[if_pos P]at u
    injection u with u
    obtain rfl:c=a:=by omega
    subst u;refine⟨GD sa _,λe=>?_⟩;rw[Ga,ma e];constructor
    .rintro⟨⟨y,B,F,I,rfl⟩,k⟩
     simp only at k;refine⟨y,B,F,⟨I,?_⟩,rfl⟩;rintro(⟨J,Q⟩|⟨J,Q⟩)
     .exact k (by rw[Q])
     .exact R J
    .rintro⟨y,B,F,⟨I,k⟩,rfl⟩
     refine⟨⟨y,B,F,I,rfl⟩,?_⟩;simp only;intro r;exact k (.inl ⟨rfl,by omega⟩)
   .rw[if_neg P]at u
    obtain⟨s,m⟩:=h.2 c L u;refine⟨s,λe=>?_⟩;rw[m e];constructor
    .rintro⟨y,B,F,I,k⟩
     refine⟨y,B,F,⟨I,?_⟩,k⟩;rintro(⟨J,Q⟩|⟨J,Q⟩)
     .exact P (by rw[J])
     .exact O (by rw[J])
    .rintro⟨y,B,F,⟨I,_⟩,k⟩;exact⟨y,B,F,I,k⟩
theorem lK.yes(h:lK g N D E){a b:Nat}(S:N a)(hb:N b)(O:a≠b)(h1:¬D a b)(h2:¬D b a){Q R:List Ed}(T:E a=some Q)(U:E b=some R):lK g N (λx y=>D x y\/Pr a b x y) (bO (bO E a (some (ll Q ⟨b,g.bV a b,-1⟩))) b (some (ll R ⟨a,g.bV a b,-1⟩)))/\fV Q b=false/\fV R a=false:=by
 obtain⟨sa,ma⟩:=h.2 a Q T;obtain⟨sb,mb⟩:=h.2 b R U
 have na:fV Q b=false:=by
  cases M:fV Q b with
  |false=>rfl
  |true=>
   obtain⟨e,Z,B⟩:=jI.1 M;obtain⟨y,_,_,q,rfl⟩:=(ma e).1 Z;simp only at B;obtain rfl:y=b:=by omega
   exact absurd q h1
 have nb:fV R a=false:=by
  cases M:fV R a with
  |false=>rfl
  |true=>
   obtain⟨e,Z,B⟩:=jI.1 M;obtain⟨y,_,_,q,rfl⟩:=(mb e).1 Z;simp only at B;obtain rfl:y=a:=by omega
   exact absurd q h2
 have ab:¬((b:Int)=(a:Int)):=by omega
 refine⟨⟨λz=>?_,λc L u=>?_⟩,na,nb⟩
 .unfold bO
  by_cases B:z=(b:Int)
  .rw[if_pos B];exact⟨λ_=>⟨b,B,hb⟩,λ_=>by simp⟩
  .rw[if_neg B]
   by_cases P:z=(a:Int)
   .rw[if_pos P];exact⟨λ_=>⟨a,P,S⟩,λ_=>by simp⟩
   .rw[if_neg P];exact h.1 z
 .unfold bO at u
  by_cases B:(c:Int)=(b:Int)
  .rw[if_pos B]at u
   injection u with u
   obtain rfl:c=b:=by omega
   subst u;refine⟨mH sb nb,λe=>?_⟩;rw[mE,mb e];constructor
   .rintro(rfl|⟨y,F,I,J,k⟩)
    .exact⟨a,S,O,.inr (.inr ⟨rfl,rfl⟩),by rw[G.dW]⟩
    .exact⟨y,F,I,.inl J,k⟩
   .rintro⟨y,F,I,J|⟨rfl,rfl⟩|⟨_,rfl⟩,k⟩
    .exact .inr ⟨y,F,I,J,k⟩
    .exact absurd rfl O
    .exact .inl (by rw[k,G.dW])
  .rw[if_neg B]at u
   by_cases P:(c:Int)=(a:Int)
   .rw[if_pos P]at u
    injection u with u
    obtain rfl:c=a:=by omega
    subst u;refine⟨mH sa na,λe=>?_⟩;rw[mE,ma e];constructor
    .rintro(rfl|⟨y,F,I,J,k⟩)
     .exact⟨b,hb,Ne.symm O,.inr (.inl ⟨rfl,rfl⟩),rfl⟩
     .exact⟨y,F,I,.inl J,k⟩
    .rintro⟨y,F,I,J|⟨_,rfl⟩|⟨rfl,rfl⟩,k⟩
     .exact .inr ⟨y,F,I,J,k⟩
     .exact .inl k
     .exact absurd rfl O
   .rw[if_neg P]at u
    obtain⟨s,m⟩:=h.2 c L u;refine⟨s,λe=>?_⟩;rw[m e];constructor
    .rintro⟨y,F,I,J,k⟩;exact⟨y,F,I,.inl J,k⟩
    .rintro⟨y,F,I,J|⟨rfl,_⟩|⟨rfl,_⟩,k⟩
     .exact⟨y,F,I,J,k⟩
     .exact absurd rfl P
     .exact absurd rfl B
theorem lK.add(h:lK g N D E)(P:¬N c):lK g (λz=>N z\/z=c) (λx y=>D x y/\x≠c/\y≠c) (bO E c (some [])):=by
 refine⟨λz=>?_,λx L B=>?_⟩
 .unfold bO
  by_cases e:z=(c:Int)
  .rw[if_pos e];exact⟨λ_=>⟨c,e,.inr rfl⟩,λ_=>by simp⟩
  .rw[if_neg e,h.1 z]
   constructor
   .rintro⟨y,k,u⟩;exact⟨y,k,.inl u⟩
   .rintro⟨y,k,u|u⟩
    .exact⟨y,k,u⟩
    .exact absurd (by rw[k,u]) e
 .unfold bO at B
  by_cases e:(x:Int)=(c:Int)
  .rw[if_pos e]at B
   injection B with B
   subst B;refine⟨λi j a b _ O=>by simp at O,λJ=>?_⟩;constructor
   .intro h;simp at h
   .rintro⟨y,_,_,⟨_,q,_⟩,_⟩;exact absurd (by omega) q
  .rw[if_neg e]at B
   obtain⟨s,m⟩:=h.2 x L B;refine⟨s,λJ=>?_⟩;rw[m J];constructor
   .rintro⟨y,k,u,F,I⟩
    exact⟨y,.inl k,u,⟨F,λr=>e (by rw[r]),λr=>P (by rw[<-r];exact k)⟩,I⟩
   .rintro⟨y,k|k,u,⟨F,_,Q⟩,I⟩
    .exact⟨y,k,u,F,I⟩
    .exact absurd k Q
theorem lK.sub(h:lK g N D E)(Q:∀x,N x->x≠c->¬D x c):lK g (λz=>N z/\z≠c) (λx y=>D x y/\x≠c/\y≠c) (bO E c none):=by
 refine⟨λz=>?_,λx L B=>?_⟩
 .unfold bO
  by_cases e:z=(c:Int)
  .rw[if_pos e]
   refine⟨λh=>absurd rfl h,?_⟩;rintro⟨y,k,_,u⟩;exact absurd (by omega) u
  .rw[if_neg e,h.1 z]
   constructor
   .rintro⟨y,k,u⟩;exact⟨y,k,u,λr=>e (by rw[k,r])⟩
   .rintro⟨y,k,u,_⟩;exact⟨y,k,u⟩
 .unfold bO at B
  by_cases e:(x:Int)=(c:Int)
  .rw[if_pos e]at B;cases B
  .rw[if_neg e]at B
   have R:=h.node B;have F:x≠c:=λr=>e (by rw[r]);obtain⟨s,m⟩:=h.2 x L B;refine⟨s,λP=>?_⟩;rw[m P];constructor
   .rintro⟨y,k,u,J,O⟩
    have I:y≠c:=λr=>Q x R F (by rw[<-r];exact J);exact⟨y,⟨k,I⟩,u,⟨J,F,I⟩,O⟩
   .rintro⟨y,⟨k,_⟩,u,⟨J,_⟩,O⟩;exact⟨y,k,u,J,O⟩
def JU(w:World)(b p mb:Nat)(S:List Nat)(g:G)(v:Int)(N:Nat->Prop)(D:Nat->Nat->Prop)(e:Ending)(w':World):Prop:=
 e=.returned (.tuple #[])/\∃S' E',aD w' b p mb S' g v E'/\lK g N D E'/\(∀k∈S',k∈S\/w.heap.size<=k)/\Kept (mb::S) w w'
theorem D5(w:World)(b p Z:Nat)(S:List Nat)(g:G)(v:Int)(E:Int->Option (List Ed))(N:Nat->Prop)(D:Nat->Nat->Prop)(x y:Nat)(h:aD w b p Z S g v E)(hS:lK g N D E)(R:∀c,N c->c<g.n/\g.b c=false)(hx:N x)(hy:N y)(a6:x≠y)(h1:¬D x y)(h2:¬D y x):Calls Tryz.prog 110 #[.pointer (some ⟨b,0,none⟩),.int .i64 (x:Nat),.int .i64 (y:Nat)] w (JU w b p Z S g v N (λa c=>D a c\/(Pr x y a c/\g.aF a c))):=by
 have hg:=h.2.1;have a4:=hg.1;have ax:=G.bR a4;obtain⟨xn,xf⟩:=R x hx;obtain⟨yn,yf⟩:=R y hy;have ag:w.cell? ⟨b,0,none⟩=some (.pointer (some ⟨p,0,none⟩)):=by simp[World.cell?,h.1]
 obtain⟨t,ht⟩:=Kq (g.aF x y);have Ht:=hid ht;have cD:=hid (jl w p g v x y t hg xn yn xf yf ht);have H:=hid h;have HS:=hid hS;have Hd:=hid (And.intro h1 h2);have ai:=hid R;clear h hS ht h1 h2 hg R;go_enter Tryz.func110,Tryz.ntmps110;go_wp2_with fail;(with_reducible refine cD.out.mono ?_);rintro e w1 ⟨rfl,I⟩;clear cD;cases t with
 |false=>
  have a1:¬g.aF x y:=λhh=>by have:=Ht.out.2 hh;cases this
  have u:JU w b p Z S g v N (λa c=>D a c\/(Pr x y a c/\g.aF a c)) (.returned (.tuple #[])) w1:=by
   refine⟨rfl,S,E,H.out.below I,HS.out.congr (λ_=>Iff.rfl) (λa c _ _ _=>?_) (λ_ _=>rfl),λk hk=>.inl hk,Kept.of_below I⟩;constructor
   .exact .inl
   .rintro(q|⟨⟨rfl,rfl⟩|⟨rfl,rfl⟩,q⟩)
    .exact q
    .exact absurd q a1
    .exact absurd (G.fZ.1 q) a1
  have u:=hid u;clear Ht;go_wp2;go_end0;exact u.out
 |true=>
  have M:g.aF x y:=Ht.out.1 rfl;obtain⟨Lx,ar,sx,ix,lx,_⟩:=HS.out.facts ax (λc hc=>(ai.out c hc).1) hx;obtain⟨Ly,aw,sy,iy,ly,_⟩:=HS.out.facts ax (λc hc=>(ai.out c hc).1) hy;have Q:=H.out.below I;have a0:az w1 p g v:=Q.2.1;have ag:=ae I ag;have U:=HS.out.yes hx hy a6 Hd.out.1 Hd.out.2 ar aw
  have O:lK g N (λa c=>D a c\/(Pr x y a c/\g.aF a c)) (bO (bO E x (some (ll Lx ⟨y,g.bV x y,-1⟩))) y (some (ll Ly ⟨x,g.bV x y,-1⟩))):=by
   refine U.1.congr (λ_=>Iff.rfl) (λa c _ _ _=>?_) (λ_ _=>rfl);constructor
   .rintro(q|q)
    .exact .inl q
    .refine .inr ⟨q,?_⟩
     rcases q with⟨rfl,rfl⟩|⟨rfl,rfl⟩
     .exact M
     .exact G.fZ.1 M
   .rintro(q|⟨q,_⟩)
    .exact .inl q
    .exact .inr q
  clear U;obtain⟨⟨os,od⟩,ho⟩:∃z,g.bV x y=z:=⟨_,rfl⟩;rw[ho]at O;have U:=hid O;have a5:aV (x:Int):=by unfold aV;omega
  have a7:aV (y:Int):=by unfold aV;omega
  clear Ht O;go_wp2_with fail;(with_reducible refine(zi _ p g v x y ⟨os,od⟩ a0 xn yn ho).mono ?_);rintro e w2 ⟨rfl,ad⟩;go_upto_region 3 with(fail);refine au ?_;intro W hW;have HW:Below w2.heap.size w2 W:=by rw[hW];(repeat' (first|exact Below.refl _ _|assumption|apply aj|apply ah|apply af|(refine aa ?_ (by assumption))))
  have o0:W.cell? ⟨w2.heap.size,0,none⟩=some (.int .i64 os):=by rw[hW];go_simp
  have o1:W.cell? ⟨w2.heap.size,1,none⟩=some (.int .i64 od):=by rw[hW];go_simp
  have ab:=aa ad HW;have ap:=Q.below ab;have P:=aa I ab
  have T:w2.heap.size∉Z::S:=by
   have hE:=Q.2.2.1;have a8:=hE.lt;obtain⟨V,N,q1,q2,q3,q4,q5,q6,q7⟩:=hE;have a9:=ad.size;intro hh;rcases List.mem_cons.1 hh with e|e
   .omega
   .have:=q7 _ e;omega
  obtain⟨b8,aS⟩:∃z,w2.heap.size=z:=⟨_,rfl⟩;rw[aS]at o0 o1 T⊢;have a3:=hid ap;obtain⟨g1,g2,g3,g4,g5,g6,g7,g8⟩:=ap;have c1:=hid (qp W S b p Z E (x:Nat) ⟨(y:Nat),⟨os,od⟩,-1⟩ Lx g1 g3 g4 g6 ar sx ix a7 lx);clear hW aS HW ab Q ad I ag g1 g2 g3 g4 g5 g6 g7 g8;go_wp2_with fail
  (refine c1.out.mono ?_)
  rintro e w3 ⟨rfl,S1,al,ac,J⟩;have an:=a3.out.put al ac J;have o0:=aJ J T o0;have o1:=aJ J T o1
  have L:bO E (x:Nat) (some (ll Lx ⟨(y:Nat),⟨os,od⟩,-1⟩)) (y:Nat)=some Ly:=by
   unfold bO;rw[if_neg (by omega)];exact aw
  have a2:=hid an;obtain⟨g1,g2,g3,g4,g5,g6,g7,g8⟩:=an;have c2:=hid (qp w3 S1 b p Z _ (y:Nat) ⟨(x:Nat),⟨os,od⟩,-1⟩ Ly g1 g3 g4 g6 L sy iy a5 ly);clear c1 al g1 g2 g3 g4 g5 g6 g7 g8 L T;go_wp2_with fail
  (refine c2.out.mono ?_)
  rintro e w4 ⟨rfl,S2,am,ay,B⟩;have ao:=a2.out.put am ay B
  have aq:Kept (Z::S) w w4:=by
   have F:Kept (Z::S) w w3:=(Kept.of_below P).trans J;refine⟨B.os.trans F.os,B.tape.trans F.tape,B.output.trans F.output,Nat.le_trans F.size B.size,λk hk hn=>?_⟩;refine(B.block k (Nat.lt_of_lt_of_le hk F.size) ?_).trans (F.block k hk hn);intro hm;rcases List.mem_cons.1 hm with e|e
   .exact hn (by rw[e];simp)
   .rcases ac k e with q|q
    .exact hn (List.mem_cons_of_mem _ q)
    .have:=P.size;omega
  have aE:∀k∈S2,k∈S\/w.heap.size<=k:=λk hk=>by
   rcases ay k hk with q|q
   .rcases ac k q with r|r
    .exact .inl r
    .have:=P.size;exact .inr (by omega)
   .have:=J.size;have:=P.size;exact .inr (by omega)
  have u:JU w b p Z S g v N (λa c=>D a c\/(Pr x y a c/\g.aF a c)) (.returned (.tuple #[])) w4:=⟨rfl,S2,_,ao,U.out,aE,aq⟩;have u:=hid u;clear am ao aE aq;go_wp2;go_end0;exact u.out
def JJ(w:World)(P:Prop)(e:Ending)(w':World):Prop:=∃t:Bool,e=.returned (.bool t)/\(t=true↔P)/\Below w.heap.size w w'
theorem zk(w:World)(b p:Nat)(g:G)(v:Int)(mv:Value)(x y:Nat)(X Y:Int)(U:w.heap[b]? =some (.cells #[.pointer (some ⟨p,0,none⟩),mv] 185 (0,0)))(P:az w p g v)(hx:x<g.n)(hy:y<g.n)(hX: -100<=X/\X<=100)(hY: -100<=Y/\Y<=100):Calls Tryz.prog 107 #[.pointer (some ⟨b,0,none⟩),.int .i64 (x:Nat),.int .i64 (y:Nat),.int .i64 X,.int .i64 Y] w (JJ w (g.uC x y X Y)):=by
 have O:=P.1;have T:w.cell? ⟨b,0,none⟩=some (.pointer (some ⟨p,0,none⟩)):=by simp[World.cell?,U]
 obtain⟨o1,o2,o3,o4⟩:=P.1;have x1:=G.jw O x;have x2:=G.jw O y;have y1:=G.iM hx;have y2:=G.iM hy
 have u:JJ w (g.uC x y X Y)=JJ w ((((g.X x:Int)-1<=X\/(g.X y:Int)-1<=X)/\(X<=g.X x+1\/X<=g.X y+1))/\(((g.Y x:Int)-1<=Y\/(g.Y y:Int)-1<=Y)/\(Y<=g.Y x+1\/Y<=g.Y y+1))):=by
  congr 1;unfold G.uC;simp only[and_assoc]
 rw[u];clear u;have Z:=hid (aU w p g v x P hx);have L:=hid (λw'(U:Below w.heap.size w w')=>aU w' p g v y (P.below U P.lt) hy);obtain⟨ax,B⟩:∃z,((g.X x:Nat):Int)=z:=⟨_,rfl⟩;obtain⟨ay,F⟩:∃z,((g.Y x:Nat):Int)=z:=⟨_,rfl⟩;obtain⟨bx,I⟩:∃z,((g.X y:Nat):Int)=z:=⟨_,rfl⟩;obtain⟨Q,J⟩:∃z,((g.Y y:Nat):Int)=z:=⟨_,rfl⟩;rw[B,F]at Z;rw[I,J]at L;rw[B,F,I,J];have S:0<=ax/\ax<=16:=by omega
 have a2:0<=ay/\ay<=16:=by omega
 have a3:0<=bx/\bx<=16:=by omega
 have a4:0<=Q/\Q<=16:=by omega
 clear B F I J x1 x2 y1 y2 P O U;obtain⟨S,ab⟩:=S;obtain⟨a2,ac⟩:=a2;obtain⟨a3,ad⟩:=a3;obtain⟨a4,ag⟩:=a4;obtain⟨X1,X2⟩:=hX;obtain⟨Y1,Y2⟩:=hY;go_enter Tryz.func107,Tryz.ntmps107;go_wp2_with fail;(with_reducible refine Z.out.mono ?_);rintro e w1 ⟨rfl,k⟩;have M:=ae k T;go_wp2_with fail;(with_reducible refine(L.out _ k).mono ?_);rintro e w2 ⟨rfl,R⟩;have hB:=aa k R;clear Z L T M k R;go_wp2
 all_goals
  go_ret;exact⟨_,rfl,by simp;omega,hB⟩
def J7(w:World)(e:Ending)(w':World):Prop:=∃t:Bool,e=.returned (.bool t)/\Below w.heap.size w w'
def NG(w:World)(e:Ending)(w':World):Prop:=∃t:Int,e=.returned (.int .i64 t)/\Below w.heap.size w w'
theorem IB(w:World)(A:Option Addr)(n m:Nat)(f:Nat->Int)(x:Int)(h:Ints w A n f)(U:n<=100000):Calls Tryz.prog 160 #[.slice A n m,.int .i64 x] w (NG w):=by
 have H:=hid h;clear h;go_enter Tryz.func160,Tryz.ntmps160;go_wp2_with fail;go_loopw [8] (λI wr=>∃k:Nat,I=.int .i64 k/\k<=n/\Below w.heap.size w wr) (λI _=>n-(intOf I).toNat)
 case atStart=>exact⟨0,rfl,by omega,Below.refl _ _⟩
 case round=>
  obtain⟨k,rfl,T,z⟩:=hrel;by_cases u:k<n
  .have B:=H.out.below z
   obtain⟨R,F⟩:=B.addr (by omega);rw[F]at B;have P:=λQ=>aX (m:=m) F u Q;have O:=B.cell (Below.refl _ _) u;obtain⟨y,J⟩:∃y,f k=y:=⟨_,rfl⟩;rw[J]at O;clear B F J;go_wp2
   .go_ret
    exact⟨_,rfl,z⟩
   .go_roundw
    case rel=>exact⟨k+1,by go_num,by omega,z⟩
    case measure=>simp[intOf];omega
  .obtain rfl:k=n:=by omega
   go_wp2;go_ret;exact⟨_,rfl,z⟩
theorem zC(w:World)(A:Option Addr)(n m:Nat)(f:Nat->Int)(x:Int)(h:Ints w A n f)(z:n<=100000):Calls Tryz.prog 108 #[.slice A n m,.int .i64 x] w (J7 w):=by
 have u:=hid (IB w A n m f x h z);clear h;go_enter Tryz.func108,Tryz.ntmps108;go_wp2_with fail;(with_reducible refine u.out.mono ?_);rintro e B ⟨t,rfl,k⟩;go_wp2;go_ret;exact⟨_,rfl,k⟩
def Ay(g:G)(N:Nat->Prop)(c:Nat)(z:Nat):Prop:=(z=c/\g.ak c)\/(z≠c/\N z)
def Av(g:G)(N:Nat->Prop)(D:Nat->Nat->Prop)(c a b:Nat):Prop:=D a b/\((a≠c/\b≠c)\/(g.ak c/\N c))
def E9(w:World)(b p mb:Nat)(S:List Nat)(g:G)(v:Int)(N:Nat->Prop)(D:Nat->Nat->Prop)(c:Nat)(e:Ending)(w':World):Prop:=
 ∃(t:Bool)(S':List Nat)(E':Int->Option (List Ed)),e=.returned (.bool t)/\aD w' b p mb S' g v E'/\lK g (Ay g N c) (Av g N D c) E'/\(∀k∈S',k∈S\/w.heap.size<=k)/\Kept (mb::S) w w'
theorem dL.drop{w P:World}{mb N Q:Nat}{V:Int->Option Value}{a:Int}(h1:MapAt iK w mb V N)(g:∀k,E k=none↔V k=none)(M:∀k u L,V k=some u->E k=some L->bU w 0 u L)(R:∀k u q,V k=some u->u.ownBlock=some q->q∈S)(T:mb∉S)(h6:∀k I u Z q,V k=some u->V I=some Z->u.ownBlock=some q->Z.ownBlock=some q->k=I)(h7:∀s,s∈S->s<w.heap.size)(hM:MapAt iK P mb (aL V a none) Q)(U:Kept [mb] w P):dL P S mb (bO E a none):=by
 refine⟨_,Q,hM,λk=>?_,λk x L z J=>?_,λk x q z F=>?_,T,λk I x x' q z B F O=>?_,λs hs=>Nat.lt_of_lt_of_le (h7 s hs) U.size⟩
 .unfold bO aL
  split
  .simp
  .exact g k
 .unfold bO at J
  unfold aL at z;split at z
  .cases z
  .rename_i e
   rw[if_neg e]at J
   exact(M k x L z J).kept U (λq F=>by
    have:=R k x q z F;simp;rintro rfl;exact T this)
 .unfold aL at z
  split at z
  .cases z
  .exact R k x q z F
 .unfold aL at z B
  split at z
  .cases z
  .split at B
   .cases B
   .exact h6 k I x x' q z B F O
def JK(D:Nat->Nat->Prop)(L:List Ed)(c k a b:Nat):Prop:=D a b/\∀(j:Nat)(e:Ed),j<k->L[j]? =some e->∀y:Nat,e.to_=y->¬Pr c y a b
def Qy(w w1:World)(b p mb:Nat)(S:List Nat)(g:G)(v:Int)(N:Nat->Prop)(D:Nat->Nat->Prop)(c:Nat)(L:List Ed)(A:Option Addr)(k:Nat)(wr:World):Prop:=
 ∃S' E',aD wr b p mb S' g v E'/\lK g N (JK D L c k) E'/\(∀k∈S',k∈S\/w.heap.size<=k)/\Kept (mb::S) w wr/\bQ wr A L/\(∀ad,A=some ad->ad.block∉mb::S')
theorem II(h:Kept (mb::S) w w1)(k:Kept (mb::S1) w1 w2)(B:∀q∈S1,q∈S\/w.heap.size<=q):Kept (mb::S) w w2:=
 ⟨k.os.trans h.os,k.tape.trans h.tape,k.output.trans h.output,Nat.le_trans h.size k.size,λq z u=>by
  refine(k.block q (Nat.lt_of_lt_of_le z h.size) ?_).trans (h.block q z u);intro F;rcases List.mem_cons.1 F with e|e
  .exact u (by rw[e];simp)
  .rcases B q e with r|r
   .exact u (List.mem_cons_of_mem _ r)
   .omega⟩
theorem nG{S S1 u:List Nat}(I:w.heap.size<=w1.heap.size)(z:∀k∈S1,k∈S\/w.heap.size<=k)(B:∀k∈u,k∈S1\/w1.heap.size<=k):∀k∈u,k∈S\/w.heap.size<=k:=λk F=>by
 rcases B k F with q|q
 .exact z k q
 .exact .inr (by omega)
theorem dL.q9(h:dL w S mb E):∀s∈S,s<w.heap.size:=by
 obtain⟨_,_,_,_,_,_,_,_,k⟩:=h;exact k
theorem Ir(w:World)(b p R:Nat)(S:List Nat)(g:G)(v:Int)(E:Int->Option (List Ed))(N:Nat->Prop)(D:Nat->Nat->Prop)(c:Nat)(h:aD w b p R S g v E)(hS:lK g N D E)(bw:∀c,N c->c<g.n)(hc:c<g.n)(a6:∀a b,D a b->D b a):Calls Tryz.prog 106 #[.pointer (some ⟨b,0,none⟩),.int .i64 (c:Nat)] w (E9 w b p R S g v N D c):=by
 have hg:=h.2.1;have cg:=hg.1;have bc:=G.bR cg;have cj:w.cell? ⟨b,0,none⟩=some (.pointer (some ⟨p,0,none⟩)):=by simp[World.cell?,h.1]
 have am:w.cell? ⟨b,1,none⟩=some (.map (some R)):=by simp[World.cell?,h.1]
 obtain⟨t,ht⟩:∃t,bT g c=t:=⟨_,rfl⟩;have a0:t=true↔g.ak c:=by rw[<-ht];exact ik hc
 have cI:=l7 w p g v c hg hc;rw[ht]at cI;have cI:=hid cI;have O:=hid a0;have H:=hid h;have HS:=hid hS;have a9:=hid bw;have bo:=hid a6;obtain⟨_,_,⟨V,n0,q1,q2,q3,q4,q5,q6,q7⟩,_⟩:=h;have Q:=hid (And.intro q1 (And.intro q2 (And.intro q3 (And.intro q4 (And.intro q5 (And.intro q6 q7))))))
 have bh:∀w',Below w.heap.size w w'->(Instr.lookup 137 (.map (some R)) (.int .i64 (c:Nat)) true).run Tryz.prog w'=.ok (.tuple #[(V c).getD (.slice none 0 0),.bool (V c).isSome]) w':=λw' hb=>
  ((q1.below hb).look (aG Tryz.underlying3) Tryz.underlying137 (z:=.slice none 0 0) (by simp[Tryz.zeroValue119]) (c:Int)).1
 have bd:(V c).isSome=true↔N c:=by
  have h1:=hS.1 c;have h2:=q2 c;constructor
  .intro hv
   obtain⟨c',e,hn⟩:=h1.1 (λe=>by rw[h2.1 e]at hv;cases hv);obtain rfl:c=c':=by omega
   exact hn
  .intro hn
   cases hV:V c with
   |none=>exact absurd (h2.2 hV) (h1.2 ⟨c,rfl,hn⟩)
   |some _=>rfl
 obtain⟨u,hu⟩:∃u,(V c).getD (.slice none 0 0)=u:=⟨_,rfl⟩;obtain⟨s,hs⟩:∃s,(V c).isSome=s:=⟨_,rfl⟩;rw[hu,hs]at bh;rw[hs]at bd;have b9:=hid bh;have Z:=hid bd;have Hu:=hid hu;have Hs:=hid hs;clear hS bw a6 q1 q2 q3 q4 q5 q6 q7 hg ht a0 bh bd hu hs;go_enter Tryz.func106,Tryz.ntmps106;go_wp2_with fail;(with_reducible refine cI.out.mono ?_);rintro e w1 ⟨rfl,F⟩;have am:=ae F am;have ce:=b9.out _ F;have H1:=hid (H.out.below F);clear cI cj
 have ai:(t=true/\s=true)\/(t=false/\s=false)->E9 w b p R S g v N D c (.returned (.bool false)) w1:=by
  intro b6;refine⟨false,S,E,rfl,H1.out,HS.out.congr (λz=>?_) (λx y hx hy _=>?_) (λ_ _=>rfl),λk hk=>.inl hk,Kept.of_below F⟩
  .unfold Ay
   by_cases e:z=c
   .subst e
    rcases b6 with⟨r1,r2⟩|⟨r1,r2⟩
    .have:=O.out.1 r1;have:=Z.out.1 r2;simp[*]
    .have n1:¬N z:=λhh=>by have:=Z.out.2 hh;rw[r2]at this;cases this
     have n2:¬g.ak z:=λhh=>by have:=O.out.2 hh;rw[r1]at this;cases this
     simp[n1,n2]
   .simp[e]
  .unfold Av
   refine⟨λhd=>⟨hd,?_⟩,λhd=>hd.1⟩;rcases b6 with⟨r1,r2⟩|⟨r1,r2⟩
   .exact .inr ⟨O.out.1 r1,Z.out.1 r2⟩
   .left
    have n1:¬N c:=λhh=>by have:=Z.out.2 hh;rw[r2]at this;cases this
    exact⟨λe=>n1 (by rw[<-e];exact hx),λe=>n1 (by rw[<-e];exact hy)⟩
 have I:=hid ai;clear ai;cases t with
 |true=>
  cases s with
  |true=>
   have B:=hid (I.out (.inl ⟨rfl,rfl⟩));clear I F;go_wp2;go_ret;exact B.out
  |false=>
   clear I;have b4:¬N c:=λhh=>by have:=Z.out.2 hh;cases this
   have cb:g.ak c:=O.out.1 rfl;obtain⟨wU,hU,bv,ar⟩:=(Q.out.1.below F).store (aG Tryz.underlying3) Tryz.underlying137 (c:Int) (.slice none 0 0);have hU:(Instr.mapUpdate 137 (.map (some R)) (.int .i64 (c:Nat)) (.slice none 0 0)).run Tryz.prog w1=.ok () wU:=hU;have ac:dL wU S R (bO E c (some [])):=dL.add (Q.out.1.below F) Q.out.2.1 (λk u L a1 a2=>(Q.out.2.2.1 k u L a1 a2).kept (T:=[]) (.of_below F) (λ_ _=>by simp)) Q.out.2.2.2.1 Q.out.2.2.2.2.1 Q.out.2.2.2.2.2.1 (λs hs=>Nat.lt_of_lt_of_le (Q.out.2.2.2.2.2.2 s hs) F.size) bv ar
   have B:E9 w b p R S g v N D c (.returned (.bool true)) wU:=by
    refine⟨true,S,_,rfl,H1.out.put ac (λk hk=>.inl hk) (ar.wid (by simp)),(HS.out.add b4).congr (λz=>?_) (λx y _ _ _=>?_) (λ_ _=>rfl),λk hk=>.inl hk,(Kept.of_below F).trans (ar.wid (by simp))⟩
    .unfold Ay
     by_cases e:z=c
     .subst e;simp[cb]
     .simp[e]
    .unfold Av
     constructor
     .rintro⟨a1,a2,a3⟩;exact⟨a1,.inl ⟨a2,a3⟩⟩
     .rintro⟨a1,a2|⟨_,a2⟩⟩
      .exact⟨a1,a2⟩
      .exact absurd a2 b4
   have B:=hid B;clear ac bv ar F;go_wp2;go_ret;exact B.out
 |false=>
  cases s with
  |false=>
   have B:=hid (I.out (.inr ⟨rfl,rfl⟩));clear I F;go_wp2;go_ret;exact B.out
  |true=>
   clear I;have hN:N c:=Z.out.1 rfl;have b5:¬g.ak c:=λhh=>by have:=O.out.2 hh;cases this
   obtain⟨L,hL,sL,iL,lL,mL⟩:=HS.out.facts bc a9.out hN
   have b1:V c=some u:=by
    have a:=Hu.out;have b:=Hs.out;cases hV:V c with
    |none=>rw[hV]at b;cases b
    |some x=>rw[hV]at a;simp at a;rw[a]
   have b0:bU w1 0 u L:=(Q.out.2.2.1 c u L b1 hL).kept (T:=[]) (.of_below F) (λ_ _=>by simp);have cC:=hid (FE w1 0 u L b0 (by omega));have bk:=hid mL;have bi:=hid F;clear hL b1 b0 mL F iL sL;go_wp2_with fail;(with_reducible refine cC.out.mono ?_);rintro e w2 ⟨A,m,rfl,br,bp,be⟩;have ag:=aa bi.out be
   have hstart:Qy w w2 b p R S g v N D c L A 0 w2:=by
    refine⟨S,E,H1.out.below be,HS.out.congr (λ_=>Iff.rfl) (λx y _ _ _=>?_) (λ_ _=>rfl),λk hk=>.inl hk,Kept.of_below ag,br,λad e hm=>?_⟩
    .unfold JK
     exact⟨λhd=>⟨hd,λj e hj=>by omega⟩,λhd=>hd.1⟩
    .have h1:=bp ad e
     have h2:=bi.out.size;have h3:=H.out.2.2.1.lt;have h4:=H.out.2.2.1.q9;rcases List.mem_cons.1 hm with r|r
     .omega
     .have:=h4 _ r;omega
   obtain⟨n,hn⟩:∃n,L.length=n:=⟨_,rfl⟩;rw[hn]at lL⊢;have Hn:=hid hn;have ck:=hid ag;clear ce cC br bp be hn am ag H1;go_wp2_with fail;go_loopw [49] (λkv wr=>∃k:Nat,kv=.int .i64 k/\k<=n/\Qy w w2 b p R S g v N D c L A k wr) (λkv _=>n-(intOf kv).toNat)
   case atStart=>exact⟨0,rfl,by omega,hstart⟩
   case round=>
    obtain⟨k,rfl,hk,S1,E1,J,ab,aw,ap,U,hA1⟩:=hrel;clear hstart;by_cases b3:k<n
    .obtain⟨ek,ay⟩:∃e,L[k]? =some e:=⟨L[k]'(by rw[Hn.out];exact b3),List.getElem?_eq_getElem _⟩
     obtain⟨y,b8,ci,co,b2⟩:=(bk.out ek).1 (List.mem_of_getElem? ay);obtain⟨os,b7⟩:∃o,g.bV c y=o:=⟨_,rfl⟩;rw[b7]at b2;subst b2;obtain⟨ga,hA,a1,a2,a3,a4⟩:=U.get ay;have cd:=λwx=>jy (m:=m) hA b3 wx;simp only at a1 a2 a3 a4;obtain⟨os,od⟩:=os;simp only at a1 a2 a3 a4;obtain⟨Lc,ba,_,_,lc,_⟩:=ab.facts bc a9.out hN;obtain⟨Ly,bb,_,_,ly,_⟩:=ab.facts bc a9.out b8;have bj:=hid ay;have a8:=hid J;have ca:=hid (ab.cut hN b8 (Ne.symm ci) ba bb);have ao:=hid aw;have an:=hid ap;have aS:=hid U;have a7:=hid hA1;have cT:=hid (λw'(hb:Below wr.heap.size wr w')=>Br w' S1 b p R E1 (c:Nat) (y:Nat) Lc Ly (J.below hb).1 (J.below hb).2.2.1 J.2.2.2.1 J.2.2.2.2.2.1 ba bb (by omega) (by omega) (by omega));clear ay b7 hA J ab aw ap U hA1 ba bb;go_upto_region 10 with(fail);refine au ?_;intro W hW;have HW:Below wr.heap.size wr W:=by rw[hW];(repeat' (first|exact Below.refl _ _|assumption|apply aj|apply ah|apply af|(refine aa ?_ (by assumption))))
     have e0:W.cell? ⟨wr.heap.size,0,none⟩=some (.int .i64 (y:Nat)):=by rw[hW];go_simp
     obtain⟨bx,bg⟩:∃z,wr.heap.size=z:=⟨_,rfl⟩;have cl:=hid bg;rw[bg]at e0⊢;clear hW a1 a2 a3 a4 cd bg;go_wp2_with fail
     (refine(cT.out _ HW).mono ?_)
     rintro e w3 ⟨rfl,S2,ac,ax,aq⟩
     have B:Qy w w2 b p R S g v N D c L A (k+1) w3:=by
      refine⟨S2,_,(a8.out.below HW).put ac ax aq,ca.out.congr (λ_=>Iff.rfl) (λx z _ _ _=>?_) (λ_ _=>rfl),?_,?_,?_,?_⟩
      .unfold JK
       constructor
       .rintro⟨⟨d1,M⟩,d3⟩
        refine⟨d1,λj e hj he y' al=>?_⟩;by_cases ej:j=k
        .subst ej
         rw[bj.out]at he;injection he with he
         subst he;simp only at al;obtain rfl:y=y':=by omega
         exact d3
        .exact M j e (by omega) he y' al
       .rintro⟨d1,M⟩
        exact⟨⟨d1,λj e hj he y' al=>M j e (by omega) he y' al⟩,M k _ (by omega) bj.out y rfl⟩
      .exact nG (Nat.le_trans an.out.size HW.size) ao.out ax
      .exact II (an.out.trans (Kept.of_below HW)) aq ao.out
      .exact((aS.out.below HW).kept aq (λad e=>a7.out ad e))
      .intro ad e hm
       have cn:ad.block<wr.heap.size:=by
        obtain⟨ga,e2,hl,_⟩:=aS.out (by rw[Hn.out];omega);rw[e2]at e;injection e with e
        rw[<-e];exact hl
       rcases List.mem_cons.1 hm with r|r
       .exact a7.out ad e (by rw[r];simp)
       .rcases ax _ r with q|q
        .exact a7.out ad e (List.mem_cons_of_mem _ q)
        .have:=HW.size;omega
     have B:=hid B;clear ac ax aq HW e0 cT;go_wp2;go_roundw
     case rel=>first|exact⟨k+1,by go_num,by omega,B.out⟩|((repeat apply Exists.intro);exact⟨⟨k+1,by go_num,by omega,B.out⟩,rfl⟩)
     case measure=>simp[intOf];omega
    .obtain rfl:k=n:=by omega
     have hD:∀x,N x->x≠c->¬JK D L c k x c:=by
      rintro x hx ch ⟨d1,M⟩;have hm:=(bk.out ⟨x,g.bV c x,-1⟩).2 ⟨x,hx,ch,bo.out _ _ d1,rfl⟩;obtain⟨j,hj⟩:=List.getElem?_of_mem hm;have cm:=(List.getElem?_eq_some_iff.1 hj).1;exact M j _ (by have:=Hn.out;omega) hj x rfl (.inr ⟨rfl,rfl⟩)
     have a5:=ab.sub hD;have am:wr.cell? ⟨b,1,none⟩=some (.map (some R)):=by simp[World.cell?,J.1]
     have a8:=hid J;have bm:=hid a5;have ao:=hid aw;have an:=hid ap;obtain⟨_,_,⟨V1,n1,p1,p2,p3,p4,p5,p6,p7⟩,_⟩:=J;have P:=hid (And.intro p1 (And.intro p2 (And.intro p3 (And.intro p4 (And.intro p5 (And.intro p6 p7))))));clear hD a5 ab aw ap U hA1 p1 p2 p3 p4 p5 p6 p7;go_wp2_with (at_delete;(refine qZ rfl _ _ rfl (aG Tryz.underlying3) Tryz.underlying137 P.out.1 rfl (c:Int) rfl ?_);intro w5 bt aE)
     have bq:dL w5 S1 R (bO E1 c none):=dL.drop P.out.1 P.out.2.1 P.out.2.2.1 P.out.2.2.2.1 P.out.2.2.2.2.1 P.out.2.2.2.2.2.1 P.out.2.2.2.2.2.2 bt aE
     have B:E9 w b p R S g v N D c (.returned (.bool false)) w5:=by
      refine⟨false,S1,_,rfl,a8.out.put bq (λk hk=>.inl hk) (aE.wid (by simp)),bm.out.congr (λz=>?_) (λx y hx hy _=>?_) (λ_ _=>rfl),ao.out,an.out.trans (aE.wid (by simp))⟩
      .unfold Ay
       by_cases e:z=c
       .subst e;simp[b5]
       .simp[e]
      .unfold Av JK
       constructor
       .rintro⟨⟨d1,_⟩,M,d3⟩;exact⟨d1,.inl ⟨M,d3⟩⟩
       .rintro⟨d1,⟨M,d3⟩|⟨M,_⟩⟩
        .refine⟨⟨d1,λj e hj he y' al=>?_⟩,M,d3⟩
         rintro(⟨r1,_⟩|⟨_,r2⟩)
         .exact M r1
         .exact d3 r2
        .exact absurd M b5
     have B:=hid B;clear bq bt aE am;go_wp2;go_ret;exact B.out
theorem uu:∀{L M:List Ed},L.Pairwise (λa b=>a.to_<b.to_)->M.Pairwise (λa b=>a.to_<b.to_)->(∀z,z∈L↔z∈M)->L=M
 |[],[],_,_,_=>rfl
 |[],y::M,_,_,h=>by have:=(h y).2 (by simp);simp at this
 |x::L,[],_,_,h=>by have:=(h x).1 (by simp);simp at this
 |x::L,y::M,u,B,h=>by
  rw[List.pairwise_cons]at u B
  have F:x=y:=by
   have a:=(h x).1 (by simp);have b:=(h y).2 (by simp);rcases List.mem_cons.1 a with a|a
   .exact a
   .rcases List.mem_cons.1 b with b|b
    .exact b.symm
    .have:=B.1 x a;have:=u.1 y b;omega
  subst F;rw[uu u.2 B.2 (λz=>?_)];constructor
  .intro k
   have:=(h z).1 (List.mem_cons_of_mem _ k);rcases List.mem_cons.1 this with e|e
   .subst e;have:=u.1 z k;omega
   .exact e
  .intro k
   have:=(h z).2 (List.mem_cons_of_mem _ k);rcases List.mem_cons.1 this with e|e
   .subst e;have:=B.1 z k;omega
   .exact e
theorem EL(h:sJ L):L.Pairwise (λa b=>a.to_<b.to_):=by
 rw[List.pairwise_iff_getElem];intro i j u z k;exact h i j _ _ k (List.getElem?_eq_getElem u) (List.getElem?_eq_getElem z)
theorem bI.one{E B:Int->Option (List Ed)}(h:bI g (λ_ _=>True) E)(P:bI g (λ_ _=>True) B){L k:List Ed}(Q:E c=some L)(u:B c=some k):L=k:=by
 obtain⟨F,I⟩:=h.2 c L Q;obtain⟨J,O⟩:=P.2 c k u;exact uu (EL F) (EL J) (λz=>by rw[I z,O z])
def P7(w:World)(b p mb:Nat)(S:List Nat)(g:G)(v:Int)(e:Ending)(w':World):Prop:=
 e=.returned (.tuple #[.bool true,.nilIface])/\∃S' E',aD w' b p mb S' g v E'/\bI g (λ_ _=>True) E'/\(∀k∈S',k∈S\/w.heap.size<=k)/\Kept (p::mb::S) w w'
def oM(w:World)(b p mb:Nat)(S:List Nat)(g g':G)(v:Int)(c:Nat)(nx ny:Int)(fv:Value)(wr:World):Prop:=
 ∃S' E' zs,aD wr b p mb S' g' v E'/\lK g' (g.PN g' c nx ny) (g.PD g' c nx ny) E'/\(∀k∈S',k∈S\/w.heap.size<=k)/\Kept (p::mb::S) w wr/\aI wr w.heap.size fv zs/\(zs.length:Int)<=3*(ny-g.Y c+1)+(nx-g.X c+1)/\∀q,fv.ownBlock=some q->q∉b::p::mb::S'
theorem o8(h:Kept (p::mb::S) w w1)(k:Kept (mb::S1) w1 w2)(B:∀q∈S1,q∈S\/w.heap.size<=q):Kept (p::mb::S) w w2:=
 ⟨k.os.trans h.os,k.tape.trans h.tape,k.output.trans h.output,Nat.le_trans h.size k.size,λq z u=>by
  refine(k.block q (Nat.lt_of_lt_of_le z h.size) ?_).trans (h.block q z u);intro F;rcases List.mem_cons.1 F with e|e
  .exact u (by rw[e];simp)
  .rcases B q e with r|r
   .exact u (by simp[r])
   .omega⟩
theorem oM.none(k:g.ok)(h:oM w b p mb S g g' v c nx ny fv wr)(u:¬(0<=nx/\nx<g.w/\0<=ny/\ny<g.h)):oM w b p mb S g g' v c (nx+1) ny fv wr:=by
 obtain⟨F,B,L,I,J,O,P,Q,M,R⟩:=h;refine⟨F,B,L,I,J.congr (λz=>?_) (λa b T U _=>?_) (λ_ _=>rfl),O,P,Q,by omega,R⟩
 .unfold G.PN
  refine and_congr_right λZ=>?_;rw[G.yV k Z u]
 .unfold G.PD
  rw[G.yV k T.1 u,G.yV k U.1 u]
theorem oM.row(h:oM w b p mb S g g' v c nx ny fv wr)(e:nx=(g.X c:Int)+2):oM w b p mb S g g' v c ((g.X c:Int)-1) (ny+1) fv wr:=by
 obtain⟨u,k,Q,B,F,I,J,O,R,P⟩:=h;refine⟨u,k,Q,B,F.congr (λz=>?_) (λa b _ _ _=>?_) (λ_ _=>rfl),I,J,O,by omega,P⟩
 .unfold G.PN;rw[G.C9 e]
 .unfold G.PD;rw[G.C9 e,G.C9 e]
theorem oM.turned{S F:List Nat}{c k:Nat}{I:List Int}{O:List Nat}{J:Int->Option (List Ed)}(hn:g'.n=g.n)(h3:∀k∈F,k∈S\/w.heap.size<=k)(h4:Kept (p::mb::S) w wr)(h5:aI wr w.heap.size fv I)(h6:(I.length:Int)<=3*(ny-g.Y c+1)+(nx-g.X c+1))(h7:∀q,fv.ownBlock=some q->q∉b::p::mb::F)(u:k<g.n)(T:(g.X k:Int)=nx)(U:(g.Y k:Int)=ny)(R:g.nX c k)(t1:aD w2 b p mb O g' v J)(t2:lK g' (Ay g' (g.PN g' c nx ny) k) (Av g' (g.PN g' c nx ny) (g.PD g' c nx ny) k) J)(t3:∀k∈O,k∈F\/wr.heap.size<=k)(t4:Kept (mb::F) wr w2):oM w b p mb S g g' v c (nx+1) ny fv w2/\∃F E' I,aD w2 b p mb F g' v E'/\lK g' (g.PN g' c (nx+1) ny) (g.PD g' c (nx+1) ny) E'/\(∀k∈F,k∈S\/w.heap.size<=k)/\Kept (p::mb::S) w w2/\aI w2 w.heap.size fv I/\(I.length:Int)+1<=3*(ny-g.Y c+1)+(nx+1-g.X c+1)/\∀q,fv.ownBlock=some q->q∉b::p::mb::F:=by
 have g2:lK g' (g.PN g' c (nx+1) ny) (g.PD g' c (nx+1) ny) J:=t2.congr (λz=>G.yU u T U R) (λa b ha hb _=>G.NB u T U R ((G.yU u T U R).1 ha) ((G.yU u T U R).1 hb)) (λ_ _=>rfl)
 have o2:aI w2 w.heap.size fv I:=by
  refine⟨h5.1,?_⟩;rcases h5.2 with hn|⟨M,Z,L,rfl,hb,P,Q⟩
  .exact .inl hn
  .refine .inr ⟨M,Z,L,rfl,hb,?_,Q⟩
   rw[t4.block M (Array.getElem?_eq_some_iff.1 P).1 (λB=>?_)]
   .exact P
   .have:=h7 M rfl
    exact this (by rcases List.mem_cons.1 B with e|e<;>simp[e])
 have n2:∀q,fv.ownBlock=some q->q∉b::p::mb::O:=λq hq B=>by
  have ab:=(World.ownsRow.lt h5 q hq).2;have:=h7 q hq;rcases List.mem_cons.1 B with e|B
  .exact this (by rw[e];simp)
  rcases List.mem_cons.1 B with e|B
  .exact this (by rw[e];simp)
  rcases List.mem_cons.1 B with e|B
  .exact this (by rw[e];simp)
  rcases t3 q B with e|e
  .exact this (by simp[e])
  .omega
 have s2:=nG h4.size h3 t3;have k2:=o8 h4 t4 h3;exact⟨⟨O,J,I,t1,g2,s2,k2,o2,by omega,n2⟩,O,J,I,t1,g2,s2,k2,o2,by omega,n2⟩
def lM(g g':G)(c:Nat)(nx ny:Int)(i j a b:Nat):Prop:=(Dn g' i j a b/\g'.aF a b)\/(¬Dn g' i j a b/\g.PD g' c nx ny a b)
def iH(w:World)(b p mb:Nat)(S:List Nat)(g g':G)(v:Int)(c:Nat)(nx ny:Int)(bl:List Nat)(i j:Nat)(wr:World):Prop:=
 ∃S' E',aD wr b p mb S' g' v E'/\lK g' g'.ak (lM g g' c nx ny i j) E'/\(∀k∈S',k∈S\/w.heap.size<=k)/\Kept (p::mb::S) w wr/\∀q∈bl,q∉b::p::mb::S'
theorem Jf(k:i<j)(u:j<(aA g').length)(a b:Nat):((lM g g' c nx ny i j a b/\¬Pr (cf g' i) (cf g' j) a b)\/(Pr (cf g' i) (cf g' j) a b/\g'.aF a b))↔lM g g' c nx ny i (j+1) a b:=by
 have h:=kV k u a b;have z:=DF k u;unfold lM;rw[<-h];unfold sD Pr;by_cases e:(a=cf g' i/\b=cf g' j)\/(a=cf g' j/\b=cf g' i)
 .simp[e]
 .simp[e]
theorem Je(k:i<j)(u:j<(aA g').length)(z:∀a b,Pr (cf g' i) (cf g' j) a b->(g.PD g' c nx ny a b↔g'.aF a b))(a b:Nat):lM g g' c nx ny i j a b↔lM g g' c nx ny i (j+1) a b:=by
 have h:=kV k u a b;have B:=DF k u;unfold lM;rw[<-h];unfold sD;by_cases e:(a=cf g' i/\b=cf g' j)\/(a=cf g' j/\b=cf g' i)
 .have:=z a b e
  rw[this];by_cases q:Dn g' i j a b<;>simp[q,e]
 .simp[e]
theorem iH.below{bl:List Nat}(h:iH w b p mb S g g' v c nx ny bl i j wr)(k:Below wr.heap.size wr w'):iH w b p mb S g g' v c nx ny bl i j w':=by
 obtain⟨z,u,B,F,I,J,O⟩:=h;exact⟨z,u,B.below k,F,I,J.trans (Kept.of_below k),O⟩
