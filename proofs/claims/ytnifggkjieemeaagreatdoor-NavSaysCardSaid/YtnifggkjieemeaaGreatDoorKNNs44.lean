/- Lemmas of this claim: OpenEd, OpenA, OpenAct. -/
import Derived.Test.YtnifggkjieemeaaGreatDoorKNNs39
import Derived.Test.YtnifggkjieemeaaGreatDoorKNNs43
set_option linter.unusedVariables false
set_option linter.unusedSimpArgs false
set_option maxRecDepth 100000
open Go.Proofs.Tryz
namespace Go.Proofs.YtnifggkjieemeaaGreatDoor
open Go.RowKit Go.Sort FR
open Go.ChangeShapes Go.WideShapes Go.ChangeAt Go.Joins
structure Yu (W:World) (A:Option Addr) (n:Nat) (f:Nat->Int×Bool):Prop where
 edt:eG W A n f
 len:n<=9223372036854775807
 lt:∀ad,A=some ad->ad.block<W.heap.size
theorem DZ:prog.cellsOf 77=2:=kr
section
variable {H:Type} {enc:TypeId×Value->H} {w:World} {base:Nat} {held:Bool}
theorem Vo{g:Nat}{cs:List Value}{x:DataW H×List MemPlace}(h:DataW.trod enc prog w base (λ_=>true) held g 77 cs=some x):∃s d,cs=[rI s,.bool d]:=by
 obtain⟨B,F,n,I,J,rfl,u,z⟩:=KD underlying77 DZ rfl ou rfl K8 h;obtain⟨s,k,_⟩:=DataW.trod_int underlying3 u;obtain⟨d,m,_⟩:=DataW.trod_bool underlying4 z;simp at k m;subst k m;exact⟨s,d,rfl⟩
theorem TI{u:Nat}{cs:List Value}{x:DataW H×List MemPlace}(h:DataW.trod enc prog w base (λ_=>true) held u 42 cs=some x):∃A n m f,cs=[.slice A n m]/\eG w A n f/\n<=9223372036854775807:=by
 rcases Go.Deep.open_slice underlying42 h with⟨rfl,_⟩|⟨a,len,z,m,n,D,Z,rfl,_,hl,U,I,_,M⟩
 .exact⟨none,0,0,λ_=>default,rfl,λh=>absurd h om,om⟩
 .rw[DZ]at M
  simp only[if_true]at I
  obtain⟨F,J⟩:=Go.Deep.choose_lt (α:=Int×Bool) (n:=m) (p:=λi p=>∀j v,[Value.int .i64 p.1,.bool p.2][j]? =some v->w.cell? ((a.add (i*2)).add j)=some v) (λi T=>by
   obtain⟨O,Q,R⟩:=M i T;obtain⟨s,d,rfl⟩:=Vo R;refine⟨⟨s,d⟩,λj v L=>?_⟩;obtain⟨_,_,S⟩:=World.cells?_some Q;rw[S j (by have:=(Zb.1 L).1;simpa using this)];exact L)
  refine⟨some a,len,z,F,rfl,λhp=>?_,?_⟩
  .have B:=J 0 om 0 _ rfl
   have P:(a.add (0*2)).add 0=a:=by simp[Addr.add]
   rw[P]at B;obtain⟨b,o,rfl⟩:=yc B;refine⟨b,o,rfl,ZF _ _ B,λk hk=>?_⟩;have g:=J k om;simp only[x9]at g;exact⟨g 0 _ rfl,g 1 _ rfl⟩
  .unfold maxLen at U;omega
variable {r:Reach} {b0:Nat} {v:Value} {d:DataW H} {p:List MemPlace}
end
theorem DY:prog.cellsOf 113=2:=kr
section
variable {H:Type} {enc:TypeId×Value->H} {w:World} {base:Nat} {held:Bool}
theorem Vh{g:Nat}{cs:List Value}{x:DataW H×List MemPlace}(h:DataW.trod enc prog w base (λ_=>true) held g 113 cs=some x):∃s d,cs=[rI s,rI d]:=by
 obtain⟨B,F,n,I,J,rfl,u,z⟩:=KD underlying113 DY rfl ou rfl ou h;obtain⟨s,k,_⟩:=DataW.trod_int underlying3 u;obtain⟨d,m,_⟩:=DataW.trod_int underlying3 z;simp at k m;subst k m;exact⟨s,d,rfl⟩
theorem Wd{u:Nat}{cs:List Value}{x:DataW H×List MemPlace}(h:DataW.trod enc prog w base (λ_=>true) held u 43 cs=some x):∃A n m f,cs=[.slice A n m]/\Yt w A n f:=by
 rcases Go.Deep.open_slice underlying43 h with⟨rfl,_⟩|⟨a,len,z,m,n,D,Z,rfl,_,hl,U,I,_,M⟩
 .exact⟨none,0,0,λ_=>default,rfl,λh=>absurd h om,om⟩
 .rw[DY]at M
  simp only[if_true]at I
  obtain⟨F,J⟩:=Go.Deep.choose_lt (α:=Int×Int) (n:=m) (p:=λi p=>∀j v,[Value.int .i64 p.1,rI p.2][j]? =some v->w.cell? ((a.add (i*2)).add j)=some v) (λi T=>by
   obtain⟨O,Q,R⟩:=M i T;obtain⟨s,d,rfl⟩:=Vh R;refine⟨⟨s,d⟩,λj v L=>?_⟩;obtain⟨_,_,S⟩:=World.cells?_some Q;rw[S j (by have:=(Zb.1 L).1;simpa using this)];exact L)
  refine⟨some a,len,z,F,rfl,λhp=>?_,?_⟩
  .have B:=J 0 om 0 _ rfl
   have P:(a.add (0*2)).add 0=a:=by simp[Addr.add]
   rw[P]at B;obtain⟨b,o,rfl⟩:=yc B;refine⟨b,o,rfl,ZF _ _ B,λk hk=>?_⟩;have g:=J k om;simp only[x9]at g;exact⟨g 0 _ rfl,g 1 _ rfl⟩
  .unfold maxLen at U;omega
variable {r:Reach} {b0:Nat} {v:Value} {d:DataW H} {p:List MemPlace}
end
structure qB where
 kind:ByteArray
 a:Int
 b:Int
 eA:Option Addr
 eN:Nat
 eM:Nat
 eF:Nat->Int×Bool
 qA:Option Addr
 qN:Nat
 qM:Nat
 qF:Nat->Int×Int
 s:ByteArray
instance:Inhabited qB:=⟨⟨ByteArray.empty,0,0,none,0,0,λ_=>default,none,0,0,λ_=>default,ByteArray.empty⟩⟩
def qB.cells(x:qB):List Value:=[.string x.kind,rI x.a,rI x.b,.slice x.eA x.eN x.eM,.slice x.qA x.qN x.qM,.string x.s]
def qB.At(w:World)(x:qB):Prop:=(eG w x.eA x.eN x.eF/\x.eN<=9223372036854775807)/\qC w x.qA x.qN x.qF/\x.qN<=9223372036854775807
structure Cc (W:World) (A:Option Addr) (n:Nat) (F:Nat->qB):Prop where
 at_:0<n->∃b o,A=some ⟨b,o,none⟩/\b<W.heap.size/\∀k,k<n->(∀j v,(F k).cells[j]? =some v->W.cell? ⟨b,o+k*6+j,none⟩=some v)/\(F k).At W
 len:n<=9223372036854775807
theorem DX:prog.cellsOf 45=6:=kr
theorem Am:prog.cellsOf 9=1:=kr
theorem Ot:prog.cellsOf 42=1:=kr
theorem Oq:prog.cellsOf 43=1:=kr
section
variable {cs:List Value}{fuel:Nat}
variable {H:Type} {enc:TypeId×Value->H} {w:World} {base:Nat} {held:Bool}
theorem TS{P:Program}{t:TypeId}{u z B F I J:Field}{x:DataW H×List MemPlace}(hs:P.underlying t=some (.struct #[u,z,B,F,I,J]))(hC:P.cellsOf t=6)(o0:u.offset=0)(o1:z.offset=1)(o2:B.offset=2)(o3:F.offset=3)(o4:I.offset=4)(o5:J.offset=5)(k0:P.cellsOf u.type=1)(k1:P.cellsOf z.type=1)(k2:P.cellsOf B.type=1)(k3:P.cellsOf F.type=1)(k4:P.cellsOf I.type=1)(k5:P.cellsOf J.type=1)(h:DataW.trod enc P w base (λ_=>true) held fuel t cs=some x):∃L M O c3 Q R n y0 y1 y2 y3 y4 y5,cs=[L,M,O,c3,Q,R]/\DataW.trod enc P w base (λ_=>true) held n u.type [L]=some y0/\DataW.trod enc P w base (λ_=>true) held n z.type [M]=some y1/\DataW.trod enc P w base (λ_=>true) held n B.type [O]=some y2/\DataW.trod enc P w base (λ_=>true) held n F.type [c3]=some y3/\DataW.trod enc P w base (λ_=>true) held n I.type [Q]=some y4/\DataW.trod enc P w base (λ_=>true) held n J.type [R]=some y5:=by
 obtain⟨m,n,_,_,hl,g,k⟩:=DataW.trod_struct hs h;rw[hC]at hl
 match cs,hl with
 |[L,M,O,c3,Q,R],_=>
  have S:=k 0 u rfl;have T:=k 1 z rfl;have U:=k 2 B rfl;have Z:=k 3 F rfl;have h4:=k 4 I rfl;have h5:=k 5 J rfl;rw[o0,k0,Zc (show 0<m.length by rw[g];simp)]at S;rw[o1,k1,Zc (show 1<m.length by rw[g];simp)]at T;rw[o2,k2,Zc (show 2<m.length by rw[g];simp)]at U;rw[o3,k3,Zc (show 3<m.length by rw[g];simp)]at Z;rw[o4,k4,Zc (show 4<m.length by rw[g];simp)]at h4;rw[o5,k5,Zc (show 5<m.length by rw[g];simp)]at h5;exact⟨L,M,O,c3,Q,R,n,_,_,_,_,_,_,rfl,S,T,U,Z,h4,h5⟩
theorem Vb{x:DataW H×List MemPlace}(h:DataW.trod enc prog w base (λ_=>true) held fuel 45 cs=some x):∃y:qB,cs=y.cells/\y.At w:=by
 obtain⟨c0,c1,c2,c3,c4,c5,n,y0,y1,y2,y3,y4,y5,rfl,O,P,Q,R,S,T⟩:=TS underlying45 DX rfl rfl rfl rfl rfl rfl Am ou ou Ot Oq Am h;obtain⟨k,g,_⟩:=DataW.trod_string underlying9 O;obtain⟨a,u,_⟩:=DataW.trod_int underlying3 P;obtain⟨b,z,_⟩:=DataW.trod_int underlying3 Q;obtain⟨A,m,l,f,F,U,Z⟩:=TI R;obtain⟨B,m',l',M,I,L⟩:=Wd S;obtain⟨s,J,_⟩:=DataW.trod_string underlying9 T;simp at g u z F I J;subst g u z F I J;exact⟨⟨k,a,b,A,m,l,f,B,m',l',M,s⟩,rfl,⟨U,Z⟩,L.ask,L.len⟩
theorem TG{x:DataW H×List MemPlace}(h:DataW.trod enc prog w base (λ_=>true) held fuel 22 cs=some x):∃A n m F,cs=[.slice A n m]/\Cc w A n F:=by
 rcases Go.Deep.open_slice underlying22 h with⟨rfl,_⟩|⟨a,len,u,m,n,D,Z,rfl,_,hl,T,B,_,L⟩
 .exact⟨none,0,0,λ_=>default,rfl,λh=>absurd h om,om⟩
 .rw[DX]at L
  simp only[if_true]at B
  obtain⟨F,I⟩:=Go.Deep.choose_lt (α:=qB) (n:=m) (p:=λi p=>(∀j v,p.cells[j]? =some v->w.cell? ((a.add (i*6)).add j)=some v)/\p.At w) (λi S=>by
   obtain⟨M,P,Q⟩:=L i S;obtain⟨y,rfl,U⟩:=Vb Q;refine⟨y,λj v J=>?_,U⟩;obtain⟨_,_,R⟩:=World.cells?_some P;rw[R j (by have:=(Zb.1 J).1;simpa[qB.cells]using this)];exact J)
  refine⟨some a,len,u,F,rfl,λhp=>?_,?_⟩
  .have z:=(I 0 om).1 0 _ rfl
   have O:(a.add (0*6)).add 0=a:=by simp[Addr.add]
   rw[O]at z;obtain⟨b,o,rfl⟩:=yc z;refine⟨b,o,rfl,ZF _ _ z,λk hk=>?_⟩;have g:=I k om;simp only[x9]at g;exact g
  .unfold maxLen at T;omega
variable {r:Reach} {b0:Nat} {v:Value} {d:DataW H} {p:List MemPlace}
theorem MC(z:Value.okWide prog w r b0 22 v)(h:DataW.Trod enc prog w base (λ_=>true) held 22 v d p):∃A n m F,v=.slice A n m/\Cc w A n F:=by
 obtain⟨a,l,c,rfl⟩:=okWide_slice underlying22 z;obtain⟨g,k⟩:=h;obtain⟨A,n,m,F,e,u⟩:=TG k;exact⟨A,n,m,F,(List.cons.inj (show[Value.slice a l c]=[.slice A n m]from e)).1,u⟩
end
end Go.Proofs.YtnifggkjieemeaaGreatDoor
