/- Lemmas of this claim: Edge, Ins, Bin, Graph1, Graph2, Graph3, Graph4, Lv0, EdsO. -/
import Derived.Lib.AppendZerosOnto
import Derived.Lib.Overlaps
import Derived.Test.YtnifggkjieemeaaGreatDoorKNNs17
set_option linter.unusedVariables false
set_option linter.unusedSimpArgs false
set_option maxHeartbeats 3200000
set_option maxRecDepth 100000
open Go.Proofs.Tryz
namespace Go.Proofs.YtnifggkjieemeaaGreatDoor
section
open Go.Lib (hid)
open Go.RowKit Go.Sort FR
variable {Q:Exit->Act->World->Prop}{P:Program}
structure Ed where
 to_:Int
 c:C
 mid:Int
def Ed.cells(e:Ed):List Value:=[rI e.to_,rI e.c.s,rI e.c.d,rI e.mid]
def dM(L:List Ed):List Value:=L.flatMap Ed.cells
theorem xG:dM []=[]:=rfl
theorem dz(e:Ed)(L:List Ed):dM (e::L)=e.cells++dM L:=by simp[dM]
theorem iO(L M:List Ed):dM (L++M)=dM L++dM M:=by simp[dM]
theorem bE:∀L:List Ed,(dM L).length=L.length*4
 |[]=>rfl
 |e::L=>by rw[dz,Zp,bE L,List.length_cons];simp[Ed.cells];omega
theorem sD:∀(L:List Ed)(k:Nat),(dM L).take (k*4)=dM (L.take k)
 |[],k=>by simp[dM]
 |e::L,0=>by simp[dM]
 |e::L,k+1=>by
  rw[dz,List.take_succ_cons,dz,show(k+1)*4=4+k*4 by omega,<-sD L k];rw[show 4+k*4=k*4+4 by omega];simp[Ed.cells]
theorem yG:∀(L:List Ed)(k:Nat),(dM L).drop (k*4)=dM (L.drop k)
 |[],k=>by simp[dM]
 |e::L,0=>by simp[dM]
 |e::L,k+1=>by
  rw[dz,List.drop_succ_cons,show(k+1)*4=4+k*4 by omega,<-yG L k];rw[List.drop_append,List.drop_eq_nil_of_le (by simp[Ed.cells])];simp[Ed.cells]
theorem oG(e:Ed):∀v∈e.cells,v.oneCell'=true:=by
 intro v g;simp[Ed.cells]at g;rcases g with rfl|rfl|rfl|rfl<;>rfl
theorem xH(L:List Ed):∀v∈dM L,v.oneCell'=true:=by
 intro v g;simp only[dM,List.mem_flatMap]at g;obtain⟨e,_,k⟩:=g;exact oG e v k
def bf(w:World)(B:Nat)(v:Value)(L:List Ed):Prop:=w.ownsRow B 192 4 v L.length (dM L)
theorem bf.nil(w:World)(B:Nat):bf w B (.slice none 0 0) []:=⟨rfl,.inl ⟨rfl,rfl⟩⟩
theorem iT(w:World)(S sT ty u:TypeId)(R g z m F:Nat)(ad:Addr)(B M:Nat)(k:Array Value)(t:TypeId)(cs:List Value)(hu:P.underlying S=some (.slice u))(T:(P.info? u).map (·.size)=some R)(Z:w.heap[g]? =some (.cells k t (0,0)))(hn:cs.length=Nat.min B m*R)(J:∀j v,cs[j]? =some v->w.cell? (ad.add j)=some v)(I:z+cs.length<=k.size)(U:∀v∈cs,v.oneCell'=true):(Builtin.copy_ #[S,sT] ty #[.slice (some ⟨g,z,none⟩) m F,.slice (some ad) B M]).run P w=.ok (goInt (Nat.min B m)) (w.setRow g (k.toList.take z++cs++k.toList.drop (z+cs.length)).toArray):=by
 have hl:=run_loadCells_list (P:=P) w ad cs J;have L:=run_storeCells_at P g z t cs 0 k w Z (by simpa using I) U;cases O:P.info? u with
 |none=>simp[O]at T
 |some i=>
  have Q:i.size=R:=by simpa[O]using T
  simp only[Nat.add_zero]at L;simp[Builtin.copy_,run_underlying hu,Builtin.lenOf,Builtin.firstCells,sizeOf,typeInfo,O,Q,<-hn,hl,L]
theorem mD(w:World){k:Array Oper}{g:List Oper}{o:Oper}{a:Act}(m:o.guard=none)(d s:Operand)(t z:TypeId)(J:o.op=.call {callee:=.builtin .copy,args:=#[d,s],argTypes:=#[t,z]})(v u:Value)(I:a.eval d=v)(M:a.eval s=u){B:Value}{w':World}(L:(Builtin.copy_ #[t,z] o.type #[v,u]).run P w=.ok B w')(h:wpList P k Q g (a.put o.dst B) w'):wpList P k Q (o::g) a w:=
 wpList_plain m λ_ F=>by
  unfold Oper.wp execOp;simp only[J,resolve,invoke,builtin,Sem.run_bind,Sem.run_pure,Result.andThen_ok,List.map_toArray,List.map_cons,List.map_nil,I,M,L];exact F _ _ h
theorem oW{g:Array Oper}{o:Oper}{a:Act}{w:World}{K:Act->World->Prop}{E:Prop}(J:o.guard=none)(d x:Operand)(m z:TypeId)(k:o.op=Op.call {callee:=Callee.builtin Builtin.copy,args:=#[d,x],argTypes:=#[m,z]})(v u:Value)(I:a.eval d=v)(O:a.eval x=u){B:Value}{w':World}(L:(Builtin.copy_ #[m,z] o.type #[v,u]).run P w=.ok B w')(F:K (a.put o.dst B) w'):if Region.wanted o (yielded g a.tmps)=true then Oper.wp P o a w K Q else E:=by
 have M:Region.wanted o (yielded g a.tmps)=true:=by simp[Region.wanted,J]
 rw[if_pos M];unfold Oper.wp;simp[execOp,k,resolve,invoke,builtin,I,O,L,Result.andThen];exact F
open Go.Lib
variable {w:World}
theorem Ll:(prog.info? 192).map (λi=>(i.zero.map λz=>z.cells.size,i.size,i.bytes))=some (some 4,4,32):=kr
theorem fV:∃i z,prog.info? 192=some i/\i.zero=some z/\i.size=4/\i.bytes=32/\z.cells.size=4:=by
 obtain⟨i,B,h⟩:=Option.map_eq_some_iff.1 Ll;simp only[Prod.mk.injEq]at h;obtain⟨g,k,m⟩:=h;obtain⟨z,F,u⟩:=Option.map_eq_some_iff.1 g;exact⟨i,z,B,F,k,m,u⟩
def Gl(w:World)(B:Nat)(v:Value)(L:List Ed)(e:Ending)(w':World):Prop:=
 ∃v',e=.returned v'/\bf w' B v' L/\w.grownBy w' v.ownBlock/\(v'.ownBlock=v.ownBlock\/v'.ownBlock=some w.heap.size)
theorem dH{g:Nat}{x:Ed}(k:w.heap[g]? =some (.cells x.cells.toArray 192 (0,0))):∀j u,x.cells[j]? =some u->w.cell? ⟨g,j,none⟩=some u:=by
 intro j u h;simp[World.cell?,k,h]
theorem Ib(w:World)(B:Nat)(A:Option Addr)(L:List Ed)(n g S:Nat)(x:Ed)(h:bf w B (.slice A n g) L)(hn:L.length=n)(hx:w.heap[S]? =some (.cells x.cells.toArray 192 (0,0)))(Z:B<=w.heap.size)(hl:n<=100000):Calls prog 182 #[.slice A n g,rI (n:Nat),.slice (some ⟨S,0,none⟩) 1 1] w (Gl w B (.slice A n g) (L++[x])):=by
 obtain⟨i0,z0,hi,O,P,Q,R⟩:=fV;have M:=dH hx;subst hn
 have k:∀m z,z.ownsRow B 192 4 m (L.length+1) (dM L++x.cells)->w.grownBy z (Value.slice A L.length g).ownBlock->(m.ownBlock=(Value.slice A L.length g).ownBlock\/m.ownBlock=some w.heap.size)->Gl w B (.slice A L.length g) (L++[x]) (.returned m) z:=by
  intro m z F I h3;refine⟨m,rfl,?_,I,h3⟩;unfold bf;rw[Zp,iO,dz,xG,List.append_nil];exact F
 have k:=hid k;by_cases J:g=L.length
 .subst J
  go_enter func182,ntmps182;go_upto_region 7 with(fail);go_wp2_with (at_builtin;(refine wpList_append_own_at w rfl _ _ 119 rfl B 192 i0 z0 4 32 underlying119 hi O P Q R rD _ L.length (dM L) rfl h ⟨S,0,none⟩ 1 1 x.cells rfl rfl (λj u U=>by rw[Addr.add_lit,Zx];exact M j u U) (oG x) (by unfold maxLen;omega) om Z ?_);intro m z F I _ T)
  go_ret;exact k.out _ _ F I T
 .go_enter func182,ntmps182
  go_upto_region 7 with(fail);go_wp2_with (at_builtin;(refine wpList_append_own_at w rfl _ _ 119 rfl B 192 i0 z0 4 32 underlying119 hi O P Q R rD _ L.length (dM L) rfl h ⟨S,0,none⟩ 1 1 x.cells rfl rfl (λj u U=>by rw[Addr.add_lit,Zx];exact M j u U) (oG x) (by unfold maxLen;omega) om Z ?_);intro m z F I _ T)
  go_ret;exact k.out _ _ F I T
theorem tL{w w':World}{g:Nat}(h:w.grownBy w' (some g))(cs:Array Value):w.grownBy (w'.setRow g cs) (some g):=
 ⟨h.os,h.tape,h.output,by simpa[World.setRow]using h.size,λk u m=>(setRow_other w' g k cs (λe=>m (by rw[e]))).trans (h.block k u m)⟩
theorem M5(g:List Value)(L:List Ed)(x:Ed)(i:Nat)(J:i<=L.length)(h:g.take (L.length*4)=dM L)(M:(L.length+1)*4<=g.length)(R:List Value):((g.take ((i+1)*4)++dM (L.drop i)++R).toArray.toList.take (i*4)++x.cells++(g.take ((i+1)*4)++dM (L.drop i)++R).toArray.toList.drop (i*4+x.cells.length)).toArray.toList.take ((L.length+1)*4)=dM (L.take i)++(x.cells++dM (L.drop i)):=by
 have B:(g.take ((i+1)*4)).length=(i+1)*4:=by rw[List.length_take];omega
 have F:(dM (L.drop i)).length=(L.length-i)*4:=by rw[bE,List.length_drop]
 have I:(dM (L.take i)).length=i*4:=by rw[bE,List.length_take];omega
 have k:x.cells.length=4:=rfl
 have m:(g.take ((i+1)*4)++dM (L.drop i)++R).take (i*4)=dM (L.take i):=by
  rw[List.append_assoc,List.take_append_of_le_length om,List.take_take,Nat.min_eq_left om,<-sD,<-h,List.take_take,Nat.min_eq_left om]
 have u:(g.take ((i+1)*4)++dM (L.drop i)++R).drop (i*4+4)=dM (L.drop i)++R:=by
  rw[List.append_assoc,List.drop_append,List.drop_eq_nil_of_le om,B,show i*4+4-(i+1)*4=0 by omega];rfl
 simp only[k,m,u];have z:dM (L.take i)++x.cells++(dM (L.drop i)++R)=(dM (L.take i)++(x.cells++dM (L.drop i)))++R:=rS;rw[z];exact List.take_left' (by simp only[Zp,F,I,k];omega)
theorem Sm(w:World)(B g:Nat)(L:List Ed)(i n u U:Nat)(x:Ed)(h:bf w B (.slice (some ⟨g,0,none⟩) n u) L)(hn:L.length=n)(hi:i<n)(ai:n+1<=u)(hx:w.heap[U]? =some (.cells x.cells.toArray 192 (0,0)))(ap:U≠g)(hl:n<=100000):Calls prog 182 #[.slice (some ⟨g,0,none⟩) n u,rI (i:Nat),.slice (some ⟨U,0,none⟩) 1 1] w (Gl w B (.slice (some ⟨g,0,none⟩) n u) (L.take i++x::L.drop i)):=by
 obtain⟨i0,z0,aE,bg,aa,aw,a3⟩:=fV;have a0:=dH hx;obtain⟨ao,h'⟩:=h;rcases h' with⟨h',_⟩|⟨g',a4,k,h',al,hg,bb,ax,Q,I⟩
 .simp at h'
 simp only[Value.slice.injEq,Option.some.injEq,Addr.mk.injEq,and_true,true_and]at h';obtain⟨rfl,_,rfl⟩:=h';subst hn;have aq:(prog.info? 192).map (·.size)=some 4:=by rw[aE];simp[aa]
 have ad:(dM (L.drop i)).length=(L.length-i)*4:=by rw[bE,List.length_drop]
 have ab:∀j v,j<L.length*4->(dM L)[j]? =some v->w.cell? ⟨g,j,none⟩=some v:=by
  intro j v hj hv;rw[<-I,ZA,if_pos hj,ZB]at hv;simp[World.cell?,hg,hv]
 have ay:k.size≠0:=by rw[Q];omega
 have aS:∀lb cb,(callFunc 224 #[.slice (some ⟨U,0,none⟩) 1 1,.slice (some ⟨g,(i+1)*4,none⟩) lb cb]).run prog w=.ok (.value (.bool false)) w:=λlb cb=>by
  rw[run_callFunc_extern func224 kr kr kr (e:=Extern.SlicesOverlaps.overlaps #[119,119] #[4]) kr,
   Lib.run_overlaps_apart w 119 4 192 underlying119 4 sizeOf192 ⟨U,0,none⟩ ⟨g,(i+1)*4,none⟩ 1 1 lb cb ap 192 192 4 k.size
    (by simp[World.shape?,hx,Ed.cells]) (by simp[World.shape?,hg]) ay (by simp[World.frozen?,hx]) (by simp[World.frozen?,hx])]
  rfl
 -- the first copy
 have S:(i+1)*4+(dM (L.drop i)).length<=k.size:=by rw[ad,Q];omega
 have M:∀ty dc sc,(Builtin.copy_ #[119,119] ty #[.slice (some ⟨g,(i+1)*4,none⟩) (L.length-i) dc,.slice (some ⟨g,i*4,none⟩) (L.length+1-i) sc]).run prog w.drew=
  .ok (goInt ((L.length-i:Nat):Int)) (w.drew.setRow g (k.toList.take ((i+1)*4)++dM (L.drop i)++k.toList.drop ((i+1)*4+(dM (L.drop i)).length)).toArray):=λty dc sc=>by
  have:=iT (P:=prog) w.drew 119 119 ty 192 4 g ((i+1)*4) (L.length-i) dc ⟨g,i*4,none⟩ (L.length+1-i) sc k 192 (dM (L.drop i)) underlying119 aq hg
   (by rw[ad];simp only[Nat.min_def];split<;>omega)
   (λj v hj=>by
    rw[Addr.add_lit];rw[<-yG,List.getElem?_drop]at hj;refine ab _ v ?_ hj;have:=(Zb.1 hj).1;rwa[bE]at this)
   S (xH _)
  rw[show Nat.min (L.length+1-i) (L.length-i)=L.length-i by simp only[Nat.min_def];split<;>omega]at this;exact this
 obtain⟨m,z⟩:=rX ((k.toList.take ((i+1)*4)++dM (L.drop i)++k.toList.drop ((i+1)*4+(dM (L.drop i)).length)).toArray);rw[z]at M;have aa:m.size=k.size:=by rw[<-z];simp;omega
 obtain⟨T,Z⟩:=rX (w.drew.setRow g m);rw[Z]at M;have am:T.heap[g]? =some (.cells m 192 (0,0)):=by rw[<-Z];exact setRow_heap w.drew g _ _ _ _ hg
 have ac:w.grownBy T (some g):=by rw[<-Z];exact tL (w:=w) (w':=w.drew) ⟨rfl,rfl,rfl,Zi _,λ_ _ _=>rfl⟩ _
 have a2:U<w.heap.size:=(Za.1 hx).1;have a1:T.heap[U]? =some (.cells x.cells.toArray 192 (0,0)):=(ac.block U a2 (by simpa using ap)).trans hx;have ar:=dH a1
 -- the second one
 have O:∀ty dc,(Builtin.copy_ #[119,119] ty #[.slice (some ⟨g,i*4,none⟩) (L.length+1-i) dc,.slice (some ⟨U,0,none⟩) 1 1]).run prog T=
  .ok (goInt ((1:Nat):Int)) (T.setRow g (m.toList.take (i*4)++x.cells++m.toList.drop (i*4+x.cells.length)).toArray):=λty dc=>by
  have:=iT (P:=prog) T 119 119 ty 192 4 g (i*4) (L.length+1-i) dc ⟨U,0,none⟩ 1 1 m 192 x.cells underlying119 aq am
   (by simp only[Nat.min_def];split<;>simp[Ed.cells]<;>omega)
   (λj v hj=>by rw[Addr.add_lit,Zx];exact ar j v hj)
   (by rw[aa,Q];simp[Ed.cells];omega) (oG _)
  rw[show Nat.min 1 (L.length+1-i)=1 by simp only[Nat.min_def];split<;>omega]at this;exact this
 obtain⟨J,F⟩:=rX ((m.toList.take (i*4)++x.cells++m.toList.drop (i*4+x.cells.length)).toArray);rw[F]at O;have aw:J.size=k.size:=by rw[<-F,<-aa];simp[Ed.cells];omega
 have R:Gl w B (.slice (some ⟨g,0,none⟩) L.length u) (L.take i++x::L.drop i) (.returned (.slice (some ⟨g,0,none⟩) (L.length+1) u)) (T.setRow g J):=by
  have ag:(L.take i++x::L.drop i).length=L.length+1:=so;refine⟨_,rfl,⟨?_,.inr ⟨g,u,J,by rw[ag],al,setRow_heap T g _ _ _ _ am,by rw[ag];exact ai,ax,by rw[aw,Q],?_⟩⟩,tL ac _,.inl rfl⟩
  .rw[bE]
  .rw[ag,iO,dz,<-F,<-z]
   exact M5 k.toList L x i om I (by have:k.toList.length=k.size:=Array.length_toList;omega) _
 have R:=hid R;have bd:IntKind.i64.wrap ((i:Int)+1)=(i:Int)+1:=by rw[IntKind.wrap_i64];omega
 have a3:¬((i:Int)=(L.length:Int)):=om;have bc:((i:Int)+1).toNat=i+1:=om;have a5:i<=L.length:=om;have a6:i<=L.length+1:=om;have a7:(0:Int)<=(i:Int)+1:=om;have a8:¬(u=i+1):=om;have ba:¬(u=i):=om;have a9:(i:Int)<=(L.length:Int)+1:=om;clear ab z F ad S I ao al Q a0 ar;go_enter func182,ntmps182;go_wp2_with (simp only[aS])
 go_region_law (refine oW rfl _ _ 119 119 rfl _ _ (by simp[Act.eval,Act.put]) (by simp[Act.eval,Act.put]) (M _ _ _) ?_);go_wp2_with (at_builtin;refine mD _ rfl _ _ 119 119 rfl _ _ rfl rfl (by first|exact O _ _|(rw[Z];exact O _ _)) ?_)
 go_ret;exact R.out
theorem OW(R:List Value)(L:List Ed)(x:Ed)(i:Nat)(B:i<=L.length)(h:R.take (i*4)=dM (L.take i))(F:(L.length+1)*4<=R.length):((R.take (i*4)++x.cells++R.drop (i*4+x.cells.length)).toArray.toList.take ((i+1)*4)++dM (L.drop i)++(R.take (i*4)++x.cells++R.drop (i*4+x.cells.length)).toArray.toList.drop ((i+1)*4+(dM (L.drop i)).length)).toArray.toList.take ((L.length+1)*4)=dM (L.take i)++(x.cells++dM (L.drop i)):=by
 have z:(dM (L.drop i)).length=(L.length-i)*4:=by rw[bE,List.length_drop]
 have g:(dM (L.take i)).length=i*4:=by rw[bE,List.length_take];omega
 have k:x.cells.length=4:=rfl;rw[h]
 have m:(dM (L.take i)++x.cells++R.drop (i*4+x.cells.length)).toArray.toList.take ((i+1)*4)=dM (L.take i)++x.cells:=
  List.take_left' (by simp only[Zp,g,k];omega)
 rw[m];generalize (dM (L.take i)++x.cells++R.drop (i*4+x.cells.length)).toArray.toList.drop ((i+1)*4+(dM (L.drop i)).length)=T;have u:dM (L.take i)++x.cells++dM (L.drop i)++T=(dM (L.take i)++(x.cells++dM (L.drop i)))++T:=rS;rw[u];exact List.take_left' (by simp only[Zp,z,g,k];omega)
theorem qw{w w':World}{g H:Nat}(h:w.grownBy w' (some g))(z:w.heap.size<=H)(cs:Array Value):w.grownBy (w'.setRow H cs) (some g):=
 ⟨h.os,h.tape,h.output,by simpa[World.setRow]using h.size,λk m u=>(setRow_other w' H k cs om).trans (h.block k m u)⟩
theorem Sl(w:World)(B g:Nat)(L:List Ed)(i n m xb:Nat)(x:Ed)(h:bf w B (.slice (some ⟨g,0,none⟩) n m) L)(hn:L.length=n)(hi:i<n)(ar:m<n+1)(hx:w.heap[xb]? =some (.cells x.cells.toArray 192 (0,0)))(hB:B<=w.heap.size)(hl:n<=100000):Calls prog 182 #[.slice (some ⟨g,0,none⟩) n m,rI (i:Nat),.slice (some ⟨xb,0,none⟩) 1 1] w (Gl w B (.slice (some ⟨g,0,none⟩) n m) (L.take i++x::L.drop i)):=by
 obtain⟨i0,z0,a5,bk,ba,bb,bl⟩:=fV;have bh:=dH hx;obtain⟨a7,h'⟩:=h;rcases h' with⟨h',_⟩|⟨g',bm,bq,h',bc,hg,b3,b1,bd,S⟩
 .simp at h'
 simp only[Value.slice.injEq,Option.some.injEq,Addr.mk.injEq,and_true,true_and]at h';obtain⟨rfl,_,rfl⟩:=h';subst hn;have a8:(prog.info? 192).map (·.size)=some 4:=by rw[a5];simp[ba]
 have ac:(dM (L.drop i)).length=(L.length-i)*4:=by rw[bE,List.length_drop]
 have ag:(dM (L.take i)).length=i*4:=by rw[bE,List.length_take];omega
 have bg:g<w.heap.size:=(Za.1 hg).1;have bj:xb<w.heap.size:=(Za.1 hx).1
 have Q:∀j v,j<L.length*4->(dM L)[j]? =some v->w.cell? ⟨g,j,none⟩=some v:=by
  intro j v I hv;rw[<-S,ZA,if_pos I,ZB]at hv;simp[World.cell?,hg,hv]
 have a6:(L.length:Int)+1-(i:Int)=((L.length+1-i:Nat):Int):=om;have ap:i+(L.length+1-i)=L.length+1:=om
 have ao:(Builtin.firstCells i0.size i (.slice (some ⟨g,0,none⟩) i m)).run prog w.drew=.ok (dM (L.take i)).toArray w.drew:=by
  rw[ba]
  exact run_firstCells_some w.drew 4 i ⟨g,0,none⟩ i m (dM (L.take i)) ag (λj v I=>by
   rw[Addr.add_lit,Zx];have b2:=(Zb.1 I).1;rw[<-sD,ZA]at I;split at I
   .exact Q j v om I
   .cases I)
 have ad:∀T,(Builtin.append_ #[119,3] T #[.slice (some ⟨g,0,none⟩) i m,rI ((L.length:Int)+1-(i:Int))]).run prog w=
  .ok (.slice (some ⟨w.heap.size,0,none⟩) (L.length+1) (grownCap w (L.length+1) m 192)) (w.drew.alloc (.cells ((dM (L.take i)).toArray++Builtin.zeroCells z0.cells (L.length+1-i)++Builtin.zeroCells z0.cells (grownCap w (L.length+1) m 192-(L.length+1))) 192)):=λT=>by
  have h:=Lib.run_append_grow_zeros w 119 3 T 192 i0 _ .i64 .i64 underlying119 underlying3 a5 bk (some ⟨g,0,none⟩) i m (dM (L.take i)) ao (L.length+1-i) om om om om (by rw[bb];omega) (by rw[bb,ap];exact growslice_fits ar om);rw[ap]at h;rw[a6];exact h
 have ax:=grownCap_ge w (L.length+1) m 192;have aw:=grownCap_le_maxLen w (L.length+1) m 192 (by unfold maxLen;omega);obtain⟨G,hG⟩:=rX (grownCap w (L.length+1) m 192);rw[hG]at ad ax aw;obtain⟨u,F⟩:∃u:Array Value,(dM (L.take i)).toArray++Builtin.zeroCells z0.cells (L.length+1-i)++Builtin.zeroCells z0.cells (G-(L.length+1))=u:=⟨_,rfl⟩;rw[F]at ad
 have aE:u.size=G*4:=by
  rw[<-F];simp only[Array.size_append,List.size_toArray,size_zeroCells,bl,ag];omega
 have aS:u.toList.take (i*4)=dM (L.take i):=by
  rw[<-F];simp only[Array.toList_append,List.append_assoc];exact List.take_left' ag
 obtain⟨H,hH⟩:=rX w.heap.size;obtain⟨J,aa⟩:=rX (w.drew.alloc (.cells u 192));have a1:J.heap[H]? =some (.cells u 192 (0,0)):=by rw[<-aa,<-hH];exact heap_alloc_new w.drew _
 have a3:w.grownBy J (some g):=by rw[<-aa];exact⟨rfl,rfl,rfl,rS,λk hk _=>heap_alloc_old w.drew _ hk⟩
 have a0:Below w.heap.size w J:=by rw[<-aa];exact((Below.refl _ _).drew).alloc (Zi _) _
 rw[aa,hH]at ad;have bi:J.heap[xb]? =some (.cells x.cells.toArray 192 (0,0)):=(a0.block xb bj).trans hx;have a9:=dH bi
 have O:∀T dc,(Builtin.copy_ #[119,119] T #[.slice (some ⟨H,i*4,none⟩) (L.length+1-i) dc,.slice (some ⟨xb,0,none⟩) 1 1]).run prog J=
  .ok (goInt ((1:Nat):Int)) (J.setRow H (u.toList.take (i*4)++x.cells++u.toList.drop (i*4+x.cells.length)).toArray):=λT dc=>by
  have:=iT (P:=prog) J 119 119 T 192 4 H (i*4) (L.length+1-i) dc ⟨xb,0,none⟩ 1 1 u 192 x.cells underlying119 a8 a1
   (by simp only[Nat.min_def];split<;>simp[Ed.cells]<;>omega)
   (λj v I=>by rw[Addr.add_lit,Zx];exact a9 j v I)
   (by rw[aE];simp[Ed.cells];omega) (oG _)
  rw[show Nat.min 1 (L.length+1-i)=1 by simp only[Nat.min_def];split<;>omega]at this;exact this
 obtain⟨R1,U⟩:=rX ((u.toList.take (i*4)++x.cells++u.toList.drop (i*4+x.cells.length)).toArray);rw[U]at O;have ai:R1.size=G*4:=by rw[<-U,<-aE];simp[Ed.cells];omega
 obtain⟨M,ab⟩:=rX (J.setRow H R1);have a2:M.heap[H]? =some (.cells R1 192 (0,0)):=by rw[<-ab];exact setRow_heap J H _ _ _ _ a1
 have z:w.grownBy M (some g):=by rw[<-ab];exact qw a3 om _
 have am:∀j v,w.cell? ⟨g,j,none⟩=some v->M.cell? ⟨g,j,none⟩=some v:=λj v hv=>by
  have e1:M.heap[g]? =w.heap[g]?:=by rw[<-ab];exact(setRow_other J H g _ om).trans (a0.block g bg)
  exact(World.cell?_of_block (a:=⟨g,j,none⟩) e1).trans hv
 rw[ab]at O
 have al:∀T dc sc,(Builtin.copy_ #[119,119] T #[.slice (some ⟨H,(i+1)*4,none⟩) (L.length-i) dc,.slice (some ⟨g,i*4,none⟩) (L.length-i) sc]).run prog M.drew=
  .ok (goInt ((L.length-i:Nat):Int)) (M.drew.setRow H (R1.toList.take ((i+1)*4)++dM (L.drop i)++R1.toList.drop ((i+1)*4+(dM (L.drop i)).length)).toArray):=λT dc sc=>by
  have:=iT (P:=prog) M.drew 119 119 T 192 4 H ((i+1)*4) (L.length-i) dc ⟨g,i*4,none⟩ (L.length-i) sc R1 192 (dM (L.drop i)) underlying119 a8 a2
   (by rw[ac];simp only[Nat.min_def];split<;>omega)
   (λj v I=>by
    rw[Addr.add_lit];rw[<-yG,List.getElem?_drop]at I;refine am _ v (Q _ v ?_ I);have:=(Zb.1 I).1;rwa[bE]at this)
   (by rw[ac,ai];omega) (xH _)
  rw[show Nat.min (L.length-i) (L.length-i)=L.length-i by simp only[Nat.min_def];split<;>omega]at this;exact this
 obtain⟨R2,Z⟩:=rX ((R1.toList.take ((i+1)*4)++dM (L.drop i)++R1.toList.drop ((i+1)*4+(dM (L.drop i)).length)).toArray);rw[Z]at al;have ay:R2.size=G*4:=by rw[<-Z,<-ai];simp only[List.size_toArray,Zp,List.length_take,List.length_drop,Array.length_toList,ac];omega
 have R:Gl w B (.slice (some ⟨g,0,none⟩) L.length m) (L.take i++x::L.drop i) (.returned (.slice (some ⟨H,0,none⟩) (L.length+1) G)) (M.drew.setRow H R2):=by
  have aq:(L.take i++x::L.drop i).length=L.length+1:=so;have a4:w.grownBy M.drew (some g):=⟨z.os,z.tape,z.output,z.size,z.block⟩;refine⟨_,rfl,⟨?_,.inr ⟨H,G,R2,by rw[aq],om,setRow_heap M.drew H _ _ _ _ a2,by rw[aq];exact ax,aw,ay,?_⟩⟩,qw a4 om _,.inr (by rw[hH];rfl)⟩
  .rw[bE]
  .rw[aq,iO,dz,<-Z,<-U]
   exact OW u.toList L x i om aS (by have:u.toList.length=u.size:=Array.length_toList;omega)
 have R:=hid R;have b5:IntKind.i64.wrap ((i:Int)+1)=(i:Int)+1:=by rw[IntKind.wrap_i64];omega
 have b6:¬((i:Int)=(L.length:Int)):=om;have b7:(m:Int)<(L.length:Int)+1:=om;have b4:((i:Int)+1).toNat=i+1:=om;have bo:i<=L.length:=om;have bp:i<=L.length+1:=om;have bt:(0:Int)<=(i:Int)+1:=om;have bv:¬(G=i+1):=om;have bx:¬(G=i):=om;have bz:¬(m=i):=om;have bw:(i:Int)<=(L.length:Int):=om;have b0:i<=m:=om;clear Q F U Z ac ag S a7 bc bd bh a9 ap a6 ao aS am;go_enter func182,ntmps182
 go_wp2_with (first
  |(at_builtin;refine Lib.wpList_append_run _ rfl _ _ _ _ rfl _ _ rfl rfl _ _ (ad _) ?_)
  |(at_builtin;refine mD _ rfl _ _ 119 119 rfl _ _ rfl rfl (O _ _) ?_))
 go_region_law (refine oW rfl _ _ 119 119 rfl _ _ (by simp[Act.eval,Act.put]) (by simp[Act.eval,Act.put]) (al _ _ _) ?_);go_wp2;go_ret;exact R.out
theorem JP(w:World)(B:Nat)(v:Value)(L:List Ed)(i m:Nat)(x:Ed)(h:bf w B v L)(R:i<=L.length)(F:w.heap[m]? =some (.cells x.cells.toArray 192 (0,0)))(J:v.ownBlock≠some m)(I:B<=w.heap.size)(z:L.length<=100000):Calls prog 182 #[v,rI (i:Nat),.slice (some ⟨m,0,none⟩) 1 1] w (Gl w B v (L.take i++x::L.drop i)):=by
 have O:=h;rcases O.2 with⟨rfl,P⟩|⟨g,k,M,rfl,_⟩
 .obtain rfl:i=L.length:=om
  rw[List.take_length,List.drop_length];have u:L.length=0:=P;have:=Ib w B none L L.length 0 m x (by rw[u];exact h) rfl F I z;rw[u]at this⊢;exact this
 .by_cases e:i=L.length
  .subst e
   rw[List.take_length,List.drop_length];exact Ib w B _ L L.length k m x h rfl F I z
  .by_cases Q:L.length+1<=k
   .exact Sm w B g L i L.length k m x h rfl om Q F (λe=>J (by rw[e];rfl)) z
   .exact Sl w B g L i L.length k m x h rfl om om F I z
end
section
open Go.Lib (hid)
open Go.RowKit Go.Sort FR
variable {e x:Ed}{g:G}{E:Int->Option (List Ed)}{V:Int->Option Value}{L:List Ed}{S T:List Nat}{B b c i j k m mb n:Nat}{Done:Nat->Nat->Prop}{A:Option Addr}{v:Value}{w w':World}
def bP(w:World)(A:Option Addr)(L:List Ed):Prop:=0<L.length->∃g,A=some ⟨g,0,none⟩/\g<w.heap.size/\∀j v,(dM L)[j]? =some v->w.cell? ⟨g,j,none⟩=some v
theorem bf.yI(h:bf w B v L):∃A u,v=.slice A L.length u/\bP w A L:=by
 rcases h.2 with⟨rfl,M⟩|⟨g,u,J,rfl,_,I,_,_,_,z⟩
 .exact⟨none,0,by rw[M],λh=>om⟩
 .refine⟨_,u,rfl,λ_=>⟨g,rfl,(Za.1 I).1,λj v F=>?_⟩⟩
  rw[<-z,ZA]at F;split at F
  .rw[ZB]at F
   simp[World.cell?,I,F]
  .cases F
theorem bP.below(h:bP w A L)(u:Below w.heap.size w w'):bP w' A L:=λJ=>by
 obtain⟨g,z,F,I⟩:=h J;exact⟨g,z,Zf F u.size,λj v M=>af u (I j v M)⟩
theorem xE:∀(L:List Ed)(j:Nat)(e:Ed),L[j]? =some e->(dM L)[j*4]? =some (rI e.to_)/\(dM L)[j*4+1]? =some (rI e.c.s)/\(dM L)[j*4+2]? =some (rI e.c.d)/\(dM L)[j*4+3]? =some (rI e.mid)
 |[],j,e,h=>by simp at h
 |x::L,0,e,h=>by
  simp at h;subst h;rw[dz];simp[Ed.cells]
 |x::L,j+1,e,h=>by
  simp at h;have:=xE L j e h;rw[dz];rw[show(j+1)*4=4+j*4 by omega];have u:x.cells.length=4:=rfl;refine⟨?_,?_,?_,?_⟩<;>rw[Zz om,u]
  .rw[show 4+j*4-4=j*4 by omega];exact this.1
  .rw[show 4+j*4+1-4=j*4+1 by omega];exact this.2.1
  .rw[show 4+j*4+2-4=j*4+2 by omega];exact this.2.2.1
  .rw[show 4+j*4+3-4=j*4+3 by omega];exact this.2.2.2
theorem bP.get(h:bP w A L)(z:L[j]? =some e):∃g,A=some ⟨g,0,none⟩/\w.cell? ⟨g,j*4,none⟩=some (rI e.to_)/\w.cell? ⟨g,j*4+1,none⟩=some (rI e.c.s)/\w.cell? ⟨g,j*4+2,none⟩=some (rI e.c.d)/\w.cell? ⟨g,j*4+3,none⟩=some (rI e.mid):=by
 obtain⟨g,F,I,u⟩:=h (by have:=(Zb.1 z).1;omega);obtain⟨a,b,c,d⟩:=xE L j e z;exact⟨g,F,u _ _ a,u _ _ b,u _ _ c,u _ _ d⟩
def rQ(L:List Ed):Prop:=∀(i j:Nat)(a b:Ed),i<j->L[i]? =some a->L[j]? =some b->a.to_<b.to_
def BK(w:World)(L:List Ed)(t:Int)(r:Ending)(w':World):Prop:=∃(i:Nat)(fd:Bool),r=.returned (.tuple #[rI (i:Nat),.bool fd])/\i<=L.length/\(∀j e,L[j]? =some e->(j<i↔e.to_<t))/\(fd=true↔∃e,L[i]? =some e/\e.to_=t)/\Below w.heap.size w w'
theorem UH(w:World)(e:Ed)(t:Int)(u:aT e.to_)(z:aT t):Calls prog 181 #[.agg #[rI e.to_,rI e.c.s,rI e.c.d,rI e.mid],rI t] w (Rt w (rI (e.to_-t))):=by
 obtain⟨x,⟨s,d⟩,m⟩:=e;simp only at u⊢;unfold aT at u z;have I:IntKind.i64.wrap (x-t)=x-t:=IntWalk.i64_in _ om;go_enter func181,ntmps181;go_wp2;go_ret;exact⟨rfl,be⟩
theorem gZ{g n m k:Nat}(h:A=some ⟨g,0,none⟩)(z:k<n)(u:World):(Instr.indexAt 119 (.slice A n m) (rI (k:Nat))).run prog u=.ok (.pointer (some ⟨g,k*4,none⟩)) u:=by
 subst h;have q:(k:Int)<(n:Int):=om;go_simp
theorem RG(w:World)(A:Option Addr)(n ab:Nat)(L:List Ed)(t:Int)(h:bP w A L)(hn:L.length=n)(hs:rQ L)(hb:∀e∈L,aT e.to_)(ht:aT t)(hl:n<=100000):Calls prog 180 #[.slice A n ab,rI t,.func (.func 181) #[] #[]] w (BK w L t):=by
 have hs:=hid hs;have hb:=hid hb;have Hn:=hid hn;have h:=hid h;clear hn;go_enter func180,ntmps180;go_wp2_with fail;go_loopw [9,10] (λiv jv wr=>∃i j:Nat,iv=rI i/\jv=rI j/\i<=j/\j<=n/\(∀k e,L[k]? =some e->k<i->e.to_<t)/\(∀k e,L[k]? =some e->j<=k->t<=e.to_)/\Below w.heap.size w wr) (λiv jv _=>(intOf jv).toNat-(intOf iv).toNat)
 case atStart=>exact⟨0,n,rfl,rfl,om,om,λk e _ h=>om,λk e hk hj=>by have:=(Zb.1 hk).1;have:=Hn.out;omega,br⟩
 case round=>
  obtain⟨i,j,rfl,rfl,aw,ax,h1,h2,HB⟩:=hrel;have h1:=hid h1;have h2:=hid h2;by_cases ay:i<j
  .have aq:IntKind.i64.wrap ((i:Int)+(j:Int))=(i:Int)+(j:Int):=IntWalk.i64_in _ om
   go_upto_region 5 with(fail);have al:((i:Int)+(j:Int))/2=(((i+j)/2:Nat):Int):=om;have ao:i<=(i+j)/2:=om;have ap:(i+j)/2<j:=om;rw[al];obtain⟨m,hm⟩:=rX ((i+j)/2);rw[hm]at ao ap⊢;clear hm al aq;have am:m<n:=om;obtain⟨e,u⟩:∃e,L[m]? =some e:=⟨L[m]'(by rw[Hn.out];exact am),Zc _⟩;have He:=hid u;obtain⟨g,hA,a1,a2,a3,a4⟩:=(h.out.below HB).get u;have ad:=λwx=>gZ (m:=ab) hA am wx;have O:=hid (UH wr e t (hb.out e (Ze u)) ht);have R:aT e.to_:=hb.out e (Ze u)
   have I:e.to_<t->∀k x,L[k]? =some x->k<m+1->x.to_<t:=λhl k x M hk=>by
    by_cases e1:k=m
    .subst e1;rw[M]at u;injection u with u;rw[u];exact hl
    .exact Int.lt_trans (hs.out k m x e om M u) hl
   have J:t<=e.to_->∀k x,L[k]? =some x->m<=k->t<=x.to_:=λhl k x M hk=>by
    by_cases e1:k=m
    .subst e1;rw[M]at u;injection u with u;rw[u];exact hl
    .have:=hs.out m k e x om u M
     omega
   have I:=hid I;have J:=hid J;obtain⟨x,M⟩:=rX e.to_;rw[M]at a1 O R I J;obtain⟨xs,B⟩:=rX e.c.s;obtain⟨xd,U⟩:=rX e.c.d;obtain⟨xm,Z⟩:=rX e.mid;rw[B]at a2 O;rw[U]at a3 O;rw[Z]at a4 O;clear hA u M B U Z;go_wp2_with fail;(with_reducible refine O.out.mono ?_);rintro r w2 ⟨rfl,T⟩;have S:=ae HB T;clear a1 a2 a3 a4 O ad;unfold aT at R;by_cases ar:x<t
   .have hd:decide (x-t<0)=true:=so
    have I:=hid (I.out ar);have aE:IntKind.i64.wrap ((m:Int)+1)=((m+1:Nat):Int):=by rw[IntWalk.i64_in _ om];omega
    clear J;go_wp2;go_roundw
    case rel=>exact⟨m+1,j,rfl,rfl,om,om,I.out,h2.out,S⟩
    case measure=>exact rM
   .have hd:decide (x-t<0)=false:=so
    have J:=hid (J.out om);clear I;go_wp2;go_roundw
    case rel=>exact⟨i,m,rfl,rfl,om,om,h1.out,J.out,S⟩
    case measure=>exact rM
  .obtain rfl:i=j:=om
   have hcut:∀k x,L[k]? =some x->(k<i↔x.to_<t):=λk x M=>by
    constructor
    .exactλhk=>h1.out k x M hk
    .intro hl
     by_cases hk:k<i
     .exact hk
     .have:=h2.out k x M om
      omega
   have aa:=hid hcut;clear hcut;clear h1 h2;by_cases R:i<n
   .obtain⟨e,u⟩:∃e,L[i]? =some e:=⟨L[i]'(by rw[Hn.out];exact R),Zc _⟩
    obtain⟨g,hA,a1,a2,a3,a4⟩:=(h.out.below HB).get u;have ad:=λwx=>gZ (m:=ab) hA R wx;have O:=hid (UH wr e t (hb.out e (Ze u)) ht);have ai:aT e.to_:=hb.out e (Ze u);obtain⟨fd,ac⟩:∃fd,(e.to_-t==0)=fd:=⟨_,rfl⟩
    have F:fd=true↔∃x,L[i]? =some x/\x.to_=t:=by
     rw[<-ac,u];simp;omega
    have P:=hid F;clear F;have ag:=hid ac;obtain⟨x,M⟩:=rX e.to_;rw[M]at a1 O ag;obtain⟨xs,B⟩:=rX e.c.s;obtain⟨xd,U⟩:=rX e.c.d;obtain⟨xm,Z⟩:=rX e.mid;rw[B]at a2 O;rw[U]at a3 O;rw[Z]at a4 O;have q:(i:Int)<(n:Int):=om;clear hA u M B U Z ac ai;go_wp2_with fail;(with_reducible refine O.out.mono ?_);rintro r w2 ⟨rfl,T⟩;have S:=ae HB T;clear a1 a2 a3 a4 O ad T;have z:BK w L t (.returned (.tuple #[rI (i:Nat),.bool fd])) w2:=⟨i,fd,rfl,by rw[Hn.out];omega,aa.out,P.out,S⟩;rw[<-ag.out]at z;have Q:=hid z;clear z;go_wp2;go_ret2;exact Q.out
   .obtain rfl:i=n:=om
    have F:false=true↔∃x,L[i]? =some x/\x.to_=t:=by
     rw[List.getElem?_eq_none (by rw[Hn.out];omega)];simp
    have P:=hid F;clear F;have z:BK w L t (.returned (.tuple #[rI (i:Nat),.bool false])) wr:=⟨i,false,rfl,by rw[Hn.out];omega,aa.out,P.out,HB⟩;have Q:=hid z;clear z;go_wp2;go_ret2;exact Q.out
def fE(L:List Ed)(t:Int):Nat:=(L.filter λe=>decide (e.to_<t)).length
def gU(L:List Ed)(t:Int):Bool:=L.any λe=>e.to_==t
def ng(L:List Ed)(x:Ed):List Ed:=L.take (fE L x.to_)++x::L.drop (fE L x.to_)
theorem Ii{t:Int}(O:i<=L.length)(h:∀j e,L[j]? =some e->(j<i↔e.to_<t)):i=fE L t:=by
 unfold fE;have F:L=L.take i++L.drop i:=(List.take_append_drop i L).symm;rw[F,List.filter_append,Zp]
 have I:(L.take i).filter (λe=>decide (e.to_<t))=L.take i:=by
  rw[List.filter_eq_self];intro e z;obtain⟨j,u⟩:=Zo z;rw[ZA]at u;split at u
  .exact decide_eq_true ((h j e u).1 au)
  .cases u
 have J:(L.drop i).filter (λe=>decide (e.to_<t))=[]:=by
  rw[List.filter_eq_nil_iff];intro e z;obtain⟨j,u⟩:=Zo z;rw[List.getElem?_drop]at u;have:=(h (i+j) e u);simp;have:¬e.to_<t:=λM=>by have:=this.2 M;omega
  omega
 rw[I,J,List.length_take];simp;omega
theorem sS(I:rQ L)(t:Int):fE L t<=L.length/\∀j e,L[j]? =some e->(j<fE L t↔e.to_<t):=by
 induction L with
 |nil=>exact⟨by simp[fE],λj e h=>by simp at h⟩
 |cons x L Z=>
  have J:rQ L:=λi j a b R P Q=>I (i+1) (j+1) a b om (by simpa using P) (by simpa using Q);obtain⟨g,O⟩:=Z J;by_cases M:x.to_<t
  .have e:fE (x::L) t=fE L t+1:=by simp[fE,M]
   rw[e];refine⟨so,λj z u=>?_⟩;cases j with
   |zero=>simp at u;subst u;simp[M]
   |succ j=>simp at u;rw[<-O j z u];omega
  .have m:fE L t=0:=by
    unfold fE;rw[List.length_eq_zero_iff,List.filter_eq_nil_iff];intro z F;obtain⟨j,U⟩:=Zo F;have:=I 0 (j+1) x z om rfl (by simpa using U);simp;omega
   have e:fE (x::L) t=0:=by
    have:fE (x::L) t=fE L t:=by simp[fE,M]
    omega
   rw[e];refine⟨om,λj z u=>?_⟩;constructor
   .omega
   .intro k
    cases j with
    |zero=>simp at u;subst u;omega
    |succ j=>
     have:=I 0 (j+1) x z om rfl u;omega
theorem kF{t:Int}:gU L t=true↔∃e∈L,e.to_=t:=by simp[gU,List.any_eq_true]
theorem qV(I:rQ L)(t:Int):(∃e,L[fE L t]? =some e/\e.to_=t)↔gU L t=true:=by
 obtain⟨Q,z⟩:=sS I t;rw[kF];constructor
 .rintro⟨e,a,b⟩;exact⟨e,Ze a,b⟩
 .rintro⟨e,O,rfl⟩
  obtain⟨j,u⟩:=Zo O;have F:¬j<fE L e.to_:=λh=>by have:=(z j e u).1 h;omega
  have P:=(Zb.1 u).1;by_cases M:j=fE L e.to_
  .subst M;exact⟨e,u,rfl⟩
  .exfalso
   obtain⟨x,J⟩:∃x,L[fE L e.to_]? =some x:=⟨L[fE L e.to_]'om,Zc _⟩;have a:=I _ _ _ _ (show fE L e.to_<j by omega) J u;have:=(z _ x J).2 a;omega
theorem oK:e∈ng L x↔e=x\/e∈L:=by
 unfold ng;rw[Zl,Zd];have:e∈L↔e∈L.take (fE L x.to_)\/e∈L.drop (fE L x.to_):=by rw[<-Zl,List.take_append_drop]
 rw[this];constructor
 .rintro(h|h|h)
  .exact .inr (.inl h)
  .exact .inl h
  .exact .inr (.inr h)
 .rintro(h|h|h)
  .exact .inr (.inl h)
  .exact .inl h
  .exact .inr (.inr h)
theorem oV(I:rQ L)(hn:gU L x.to_=false):rQ (ng L x):=by
 obtain⟨k,J⟩:=sS I x.to_
 have O:∀e∈L,e.to_≠x.to_:=λe T h=>by
  have:=kF.2 ⟨e,T,h⟩;rw[hn]at this;cases this
 have R:(L.take (fE L x.to_)).length=fE L x.to_:=by rw[List.length_take];omega
 obtain⟨m,U⟩:=rX (fE L x.to_);rw[U]at k J R
 have u:∀i a,(ng L x)[i]? =some a->(i<m/\L[i]? =some a)\/(i=m/\a=x)\/(m<i/\L[i-1]? =some a):=by
  intro i a h;unfold ng at h;rw[U]at h;by_cases Q:i<m
  .rw[List.getElem?_append_left om,ZA,if_pos Q]at h
   exact .inl ⟨Q,h⟩
  .rw[Zz om,R]at h
   by_cases g:i=m
   .subst g
    simp at h;exact .inr (.inl ⟨rfl,h.symm⟩)
   .obtain⟨j,rfl⟩:∃j,i=m+1+j:=⟨i-m-1,om⟩
    rw[show m+1+j-m=j+1 by omega,List.getElem?_cons_succ,List.getElem?_drop]at h;exact .inr (.inr ⟨om,by rw[show m+1+j-1=m+j by omega];exact h⟩)
 intro i j a b M B S;rcases u i a B with⟨P,F⟩|⟨P,F⟩|⟨P,F⟩<;>rcases u j b S with⟨Z,z⟩|⟨Z,z⟩|⟨Z,z⟩
 .exact I i j a b M F z
 .rw[z];exact(J i a F).1 P
 .exact I i (j-1) a b om F z
 .omega
 .omega
 .rw[F]
  have:=O b (Ze z);have h3:¬b.to_<x.to_:=λh=>by have:=(J (j-1) b z).2 h;omega
  omega
 .omega
 .omega
 .exact I (i-1) (j-1) a b om F z
theorem Oh(w:World)(A:Option Addr)(n u:Nat)(L:List Ed)(t:Int)(h:bP w A L)(Z:L.length=n)(F:rQ L)(R:∀e∈L,aT e.to_)(g:aT t)(U:n<=100000):Calls prog 180 #[.slice A n u,rI t,.func (.func 181) #[] #[]] w (Rt w (.tuple #[rI (fE L t:Nat),.bool (gU L t)])):=by
 refine(RG w A n u L t h Z F R g U).mono ?_;rintro r I ⟨i,M,rfl,O,P,z,Q⟩;have e:=Ii O P;subst e;rw[qV F]at z;have J:M=gU L t:=Bool.eq_iff_iff.2 z;rw[J];exact⟨rfl,Q⟩
abbrev iK:Int->Value:=λz=>Value.int .i64 z
def cz(w:World)(S:List Nat)(mb:Nat)(E:Int->Option (List Ed)):Prop:=
 ∃V N,MapAt iK w mb V N/\(∀k,E k=none↔V k=none)/\(∀k u L,V k=some u->E k=some L->bf w 0 u L)/\(∀k u q,V k=some u->u.ownBlock=some q->q∈S)/\mb∉S/\
  (∀k k' u u' q,V k=some u->V k'=some u'->u.ownBlock=some q->u'.ownBlock=some q->k=k')/\∀s,s∈S->s<w.heap.size
theorem bf.lt(h:bf w B v L){q:Nat}(u:v.ownBlock=some q):q<w.heap.size:=(World.ownsRow.lt h q u).2
theorem bf.kept(h:bf w B v L)(O:Kept T w w')(J:∀q,v.ownBlock=some q->q∉T):bf w' B v L:=by
 refine⟨h.1,?_⟩;rcases h.2 with P|⟨g,z,F,rfl,M,I,u⟩
 .exact .inl P
 .exact .inr ⟨g,z,F,rfl,M,(O.block g (Za.1 I).1 (J g rfl)).trans I,u⟩
theorem cz.lt(h:cz w S mb E):mb<w.heap.size:=by
 obtain⟨V,N,u,_⟩:=h;exact u.lt
theorem cz.kept(h:cz w S mb E)(z:Kept T w w')(Z:∀s,s∈S->s∉T)(g:mb∉T):cz w' S mb E:=by
 obtain⟨V,N,J,M,O,F,P,Q,R⟩:=h;exact⟨V,N,J.kept z g,M,λk u L I U=>(O k u L I U).kept z (λq m=>Z q (F k u q I m)),F,P,Q,λs B=>Zf (R s B) z.size⟩
theorem cz.below(h:cz w S mb E)(u:Below w.heap.size w w'):cz w' S mb E:=h.kept (T:=[]) (.of_below u) (λ_ _=>rS) rS
def bT(E:Int->Option (List Ed))(k:Int)(L:Option (List Ed)):Int->Option (List Ed):=λj=>if j=k then L else E j
theorem cz.put{w w1 wI wU:World}{mb N N2:Nat}{a:Int}{u J:Value}{L':List Ed}(h1:MapAt iK w mb V N)(h2:∀k,E k=none↔V k=none)(h3:∀k u L,V k=some u->E k=some L->bf w 0 u L)(h4:∀k u q,V k=some u->u.ownBlock=some q->q∈S)(h5:mb∉S)(h6:∀k m u u' q,V k=some u->V m=some u'->u.ownBlock=some q->u'.ownBlock=some q->k=m)(h7:∀s,s∈S->s<w.heap.size)(ha:V a=some u)(Q:Below w.heap.size w w1)(hO:bf wI 0 J L')(R:w1.grownBy wI u.ownBlock)(g:J.ownBlock=u.ownBlock\/J.ownBlock=some w1.heap.size)(hM:MapAt iK wU mb (aN V a (some J)) N2)(hK:Kept [mb] wI wU):∃S',cz wU S' mb (bT E a (some L'))/\(∀k∈S',k∈S\/w.heap.size<=k)/\Kept (mb::S) w wU:=by
 have ab:∀q,J.ownBlock=some q->q≠mb:=λq z e=>by
  subst e;rcases g with e|e
  .exact h5 (h4 a u q ha (by rw[<-e];exact z))
  .rw[e]at z;injection z with z
   have:=h1.lt;have:=Q.size;omega
 have hS:∀q,J.ownBlock=some q->q∈S\/w.heap.size<=q:=λq z=>by
  rcases g with e|e
  .exact .inl (h4 a u q ha (by rw[<-e];exact z))
  .rw[e]at z;injection z with z
   have:=Q.size;exact .inr om
 have aa:Kept (mb::S) w wI:=⟨R.os.trans Q.os,R.tape.trans Q.tape,R.output.trans Q.output,Zg Q.size R.size,λk hk M=>by
  refine(R.block k (Zf hk Q.size) ?_).trans (Q.block k hk);intro e;exact M (List.mem_cons_of_mem _ (h4 a u k ha e.symm))⟩
 refine⟨J.ownBlock.toList++S,⟨aN V a (some J),N2,hM,?_,?_,?_,?_,?_,?_⟩,?_,aa.trans (hK.wid rS)⟩
 .intro k
  unfold bT aN;split
  .simp
  .exact h2 k
 .intro k x L F Z
  unfold bT at Z;unfold aN at F;split at F
  .rename_i e
   rw[if_pos e]at Z;injection F with F
   injection Z with Z
   subst F;subst Z;exact hO.kept hK (λq z=>by simpa using ab q z)
  .rename_i e
   rw[if_neg e]at Z;have ac:=h3 k x L F Z;refine((ac.kept (T:=[]) (.of_below Q) (λ_ _=>rS)).kept (w':=wI) (T:=u.ownBlock.toList) ⟨R.os,R.tape,R.output,R.size,λq z M=>R.block q z (λe=>M (by rw[<-e];simp))⟩ ?_).kept hK ?_
   .intro q z M
    have M:u.ownBlock=some q:=by
     cases hu:u.ownBlock with
     |none=>rw[hu]at M;simp at M
     |some r=>rw[hu]at M;simp at M;rw[M]
    exact e (h6 k a x u q F ha z M)
   .intro q z
    have:=h4 k x q F z;simp;rintro rfl;exact h5 this
 .intro k x q F z
  unfold aN at F;split at F
  .injection F with F
   subst F;exact List.mem_append_left _ (by rw[z];simp)
  .exact List.mem_append_right _ (h4 k x q F z)
 .rw[Zl]
  rintro(h|h)
  .cases P:J.ownBlock with
   |none=>rw[P]at h;simp at h
   |some q=>rw[P]at h;simp at h;exact ab q P h.symm
  .exact h5 h
 .intro k m x x' q F I z O
  have ag:∀j y,j≠a->V j=some y->y.ownBlock=some q->J.ownBlock=some q->False:=by
   intro j y hj hy ad U;rcases g with e|e
   .exact hj (h6 j a y u q hy ha ad (by rw[<-e];exact U))
   .rw[e]at U;injection U with U
    obtain⟨Lj,ai⟩:∃Lj,E j=some Lj:=by
     cases hE:E j with
     |none=>rw[(h2 j).1 hE]at hy;cases hy
     |some L=>exact⟨L,rfl⟩
    have:=(h3 j y Lj hy ai).lt ad;have:=Q.size;omega
  unfold aN at F I;by_cases e1:k=a
  .by_cases B:m=a
   .rw[e1,B]
   .rw[if_pos e1]at F
    rw[if_neg B]at I;injection F with F
    subst F;exact absurd z (λz=>ag m x' B I O z)
  .rw[if_neg e1]at F
   by_cases B:m=a
   .rw[if_pos B]at I
    injection I with I
    subst I;exact absurd O (λO=>ag k x e1 F z O)
   .rw[if_neg B]at I
    exact h6 k m x x' q F I z O
 .intro k hk
  rcases Zl.1 hk with h|h
  .cases P:J.ownBlock with
   |none=>rw[P]at h;simp at h
   |some q=>
    rw[P]at h;simp at h;rw[h];exact Zf (hO.lt P) hK.size
  .exact Zf (h7 k h) (Zg aa.size hK.size)
 .intro k hk
  rcases Zl.1 hk with h|h
  .cases P:J.ownBlock with
   |none=>rw[P]at h;simp at h
   |some q=>rw[P]at h;simp at h;rw[h];exact hS q P
  .exact .inl h
theorem Cs(w:World)(p:Nat)(g:G)(v:Int)(a b:Nat)(x:C)(h:aC w p g v)(L:a<g.n)(u:b<g.n)(T:g.cZ a b=x):Calls prog 133 #[vP p,rI (a:Nat),rI (b:Nat)] w (Rt w (.agg #[rI x.s,rI x.d])):=by
 have F:=h.1;obtain⟨o1,o2,o3,o4⟩:=h.1;have l1:=G.ji F a;have l2:=G.ji F b;have l3:=G.iJ L;have l4:=G.iJ u;have O:=λw=>qL (g.X a:Nat) (g.Y a:Nat) (g.X b:Nat) (g.Y b:Nat) w om om om om;have J:dD ((g.X a:Nat)-(g.X b:Nat)) ((g.Y a:Nat)-(g.Y b:Nat))=x:=T;rw[J]at O;have O:=hid O;obtain⟨xs,xd⟩:=x;clear T J l1 l2 l3 l4 F;go_enter func133,ntmps133;go_upto_region 1 with(fail);refine aB ?_;intro W z;have B:Below w.heap.size w W:=by rw[z];exact be
 have P:W.cell? ⟨w.heap.size,0,none⟩=some (rI 0):=by rw[z];go_simp
 have Q:W.cell? ⟨w.heap.size,1,none⟩=some (rI 0):=by rw[z];go_simp
 have R:W.frozen? ⟨w.heap.size,0,none⟩=false:=by rw[z];go_simp
 have U:W.frozen? ⟨w.heap.size,1,none⟩=false:=by rw[z];go_simp
 have S:w.heap.size<W.heap.size:=by rw[z];simp
 have Z:=h.below B h.lt;have M:=hid (rN P (rN Q (rN R U)));clear z P Q R U;go_wp2_with fail;(with_reducible refine(aU _ p g v a Z L).mono ?_);rintro e w1 ⟨rfl,I⟩;go_wp2_with fail;(with_reducible refine(aU _ p g v b (Z.below I Z.lt) u).mono ?_);rintro e w2 ⟨rfl,k⟩;go_wp2_with fail;(with_reducible refine(O.out _).mono ?_);rintro e w3 ⟨rfl,m⟩;have u:=ae (ae I k) m;have P:=af u M.out.1;have Q:=af u M.out.2.1;have R:=(u.frozen (p:=⟨w.heap.size,0,none⟩) S).trans M.out.2.2.1;have U:=(u.frozen (p:=⟨w.heap.size,1,none⟩) S).trans M.out.2.2.2;go_wp2;have e5:=dJ (x:=rI xs) (y:=rI xd) P Q;refine bodyPost_ret (v:=.agg #[rI xs,rI xd]) (by simp[results,results133,go_sem,e5]) rfl ?_;exact⟨rfl,((ae B u).setCell rS _).setCell rS _⟩
theorem aH{p:Addr}(u:Kept S w w')(z:p.block∉S)(h:w.cell? p=some v):w'.cell? p=some v:=
 (World.cell?_of_block (a:=p) (u.block p.block (ZF w _ h) z)).trans h
def Rq(w:World)(S:List Nat)(mb:Nat)(E:Int->Option (List Ed))(e:Ending)(w':World):Prop:=
 e=.returned (.tuple #[])/\∃S',cz w' S' mb E/\(∀k∈S',k∈S\/w.heap.size<=k)/\Kept (mb::S) w w'
theorem sM(w:World)(S:List Nat)(b p J:Nat)(E:Int->Option (List Ed))(a:Int)(x:Ed)(L:List Ed)(hb:w.heap[b]? =some (.cells #[vP p,.map (some J)] 165 (0,0)))(hE:cz w S J E)(bc:b∉S)(bd:b≠J)(hL:E a=some L)(hs:rQ L)(ar:∀e∈L,aT e.to_)(hx:aT x.to_)(hl:L.length<=1000):Calls prog 134 #[vP b,rI a,.agg #[rI x.to_,rI x.c.s,rI x.c.d,rI x.mid]] w (Rq w S J (bT E a (some (ng L x)))):=by
 have bl:=hE.lt;obtain⟨V,N,h1,h2,h3,h4,h5,h6,h7⟩:=hE
 obtain⟨u,hu⟩:∃u,V a=some u:=by
  cases hV:V a with
  |none=>rw[(h2 a).2 hV]at hL;cases hL
  |some u=>exact⟨u,rfl⟩
 have hO:=h3 a u L hu hL;have aS:∀q,u.ownBlock=some q->q∈S:=λq hq=>h4 a u q hu hq;obtain⟨A,F,rfl,am⟩:=hO.yI;have bp:b<w.heap.size:=(Za.1 hb).1
 have aw:∀O,Below w.heap.size w O->(Instr.lookup 124 (.map (some J)) (rI a) false).run prog O=.ok (.slice A L.length F) O:=λO bg=>by
  have:=((h1.below bg).look (aF underlying3) underlying124 (z:=.slice none 0 0) (by simp[zeroValue119]) a).2;rw[hu]at this;exact this
 obtain⟨Q,⟨xs,xd⟩,xm⟩:=x;simp only at hx⊢;have H1:=hid h1;have H2:=hid h2;have H3:=hid h3;have H4:=hid h4;have H6:=hid h6;have H7:=hid h7;have HO:=hid hO;have Hu:=hid hu;have ad:=hid aS;have B:=hid aw;obtain⟨i,hi⟩:=rX (fE L Q);obtain⟨fd,ag⟩:=rX (gU L Q);have bh:i<=L.length:=by rw[<-hi];exact(sS hs Q).1
 have cB:=hid (λO(a9:Below w.heap.size w O)=>(show Calls prog 180 #[.slice A L.length F,rI Q,.func (.func 181) #[] #[]] O λr w2=>r=.returned (.tuple #[rI (i:Nat),.bool fd])/\Below O.heap.size O w2 by
  have:=Oh O A L.length F L Q (am.below a9) rfl hs ar hx om;rw[hi,ag]at this;exact this))
 have ab:ng L ⟨Q,⟨xs,xd⟩,xm⟩=L.take i++(⟨Q,⟨xs,xd⟩,xm⟩:Ed)::L.drop i:=by unfold ng;rw[<-hi]
 rw[ab];have bo:=hid ag;obtain⟨n,hn⟩:=rX L.length;rw[hn]at hl bh HO ad Hu B cB;have Hn:=hid hn;have bm:=hid hb;have a1:w.cell? ⟨b,1,none⟩=some (.map (some J)):=by simp[World.cell?,hb]
 have hx:=hid hx;clear h1 h2 h3 h4 h6 h7 hO hu aS aw am hi ag ab ar hs hL hn hb;go_enter func134,ntmps134;go_upto_region 1 with(fail);refine aB ?_;intro W hW;have HW:Below w.heap.size w W:=by rw[hW];exact be
 have c0:W.cell? ⟨w.heap.size,0,none⟩=some (rI Q):=by rw[hW];go_simp
 have c1:W.cell? ⟨w.heap.size,1,none⟩=some (rI xs):=by rw[hW];go_simp
 have c2:W.cell? ⟨w.heap.size,2,none⟩=some (rI xd):=by rw[hW];go_simp
 have c3:W.cell? ⟨w.heap.size,3,none⟩=some (rI xm):=by rw[hW];go_simp
 obtain⟨M,bb⟩:=rX w.heap.size;have bk:b≠M:=om;have P:J≠M:=om;have aa:∀q,(Value.slice A n F).ownBlock=some q->q≠M:=λq hq=>by have:=HO.out.lt hq;omega
 have ai:=hid aa;rw[bb]at c0 c1 c2 c3⊢;have k1:=af HW a1;have bi:∀d os,(Instr.lookup 124 (.map (some J)) (rI a) false).run prog (grow (redrawn W d) os)=.ok (.slice A n F) (grow (redrawn W d) os):=λd os=>B.out _ (ae HW (ZC W d os));have a3:=ZE c0;have bj:=ZE k1;have HX:=Below.refl W.heap.size W;clear hW a1 aa;refine qb HX (λx(z:Below W.heap.size W x)=>cB.out x (ae HW z)) λk HY ba=>?_;have c0:=af HY c0;have c1:=af HY c1;have c2:=af HY c2;have c3:=af HY c3;have k1:=af HY k1;have R:=ae HW HY;clear a3 bj bi HX ba HY;go_upto_region 2 with(fail);obtain⟨o,ho⟩:∃o,Obj.cells #[Value.int .i64 Q,Value.int .i64 xs,Value.int .i64 xd,Value.int .i64 xm] 192 (0,0)=o:=⟨_,rfl⟩;have bq:(Instr.lookup 124 (.map (some J)) (rI a) false).run prog k.drew=.ok (.slice A n F) k.drew:=B.out _ (aj R);have bt:∀o,(Instr.lookup 124 (.map (some J)) (rI a) false).run prog (k.alloc o).drew=.ok (.slice A n F) (k.alloc o).drew:=λo=>B.out _ (aj (ah R))
 have ap:bf (k.alloc o).drew 0 (.slice A n F) L:=HO.out.kept (T:=[]) (.of_below (aj (ah R))) (λ_ _=>rS);have ao:MapAt iK (k.alloc o).drew J V N:=H1.out.below (aj (ah R));have a0:(k.alloc o).drew.heap[k.heap.size]? =some (.cells (Ed.cells ⟨Q,⟨xs,xd⟩,xm⟩).toArray 192 (0,0)):=by rw[<-ho];exact alloc_at k _ rfl
 have ac:(Value.slice A n F).ownBlock≠some k.heap.size:=λe=>by have:=HO.out.lt e;have:=R.size;omega
 have ay:some b≠(Value.slice A n F).ownBlock:=λe=>bc (ad.out b e.symm);have ax:some M≠(Value.slice A n F).ownBlock:=λe=>(ai.out M e.symm) rfl;have aE:some J≠(Value.slice A n F).ownBlock:=λe=>h5 (ad.out J e.symm);have al:Below w.heap.size w (k.alloc o).drew:=aj (ah R);have g:=hid (rN ap (rN ao (rN a0 (rN ac (rN ay (rN ax (rN aE al)))))));have m:L.length<=100000:=by have:=Hn.out;omega
 have a2:i<=L.length:=by have:=Hn.out;omega
 have Ho:=hid ho;clear ap ao a0 ac ay ax aE al;rw[<-ho]at g;clear ho
 go_region_held3 (λO=>O.cell? ⟨b,1,none⟩=some (.map (some J))/\O.cell? ⟨M,0,none⟩=some (rI Q)/\O.cell? ⟨M,1,none⟩=some (rI xs)/\O.cell? ⟨M,2,none⟩=some (rI xd)/\O.cell? ⟨M,3,none⟩=some (rI xm))
  (first
   |exact⟨k1,c0,c1,c2,c3⟩
   |exact⟨aD k1,aD c0,aD c1,aD c2,aD c3⟩
   |exact Z
   |exact a8)
  ((first
   |(go_at_call 182
     refine(JP _ 0 (.slice A n F) L i k.heap.size ⟨Q,⟨xs,xd⟩,xm⟩ g.out.1 a2 g.out.2.2.1 g.out.2.2.2.1 (Zw _) m).mono ?_;rintro e wI ⟨v',rfl,a7,I,a4⟩
     have Z:wI.cell? ⟨b,1,none⟩=some (.map (some J))/\wI.cell? ⟨M,0,none⟩=some (rI Q)/\wI.cell? ⟨M,1,none⟩=some (rI xs)/\wI.cell? ⟨M,2,none⟩=some (rI xd)/\wI.cell? ⟨M,3,none⟩=some (rI xm):=
      ⟨I.cell (aD k1) g.out.2.2.2.2.1,I.cell (aD c0) g.out.2.2.2.2.2.1,I.cell (aD c1) g.out.2.2.2.2.2.1,I.cell (aD c2) g.out.2.2.2.2.2.1,I.cell (aD c3) g.out.2.2.2.2.2.1⟩
     have a5:MapAt iK wI J V N:=g.out.2.1.kept (S:=(Value.slice A n F).ownBlock.toList) ⟨I.os,I.tape,I.output,I.size,λq hq hn=>I.block q hq (λe=>hn (by rw[<-e];simp))⟩ (by
      intro hh;have:=g.out.2.2.2.2.2.2.1;cases hv:(Value.slice A n F).ownBlock with
      |none=>rw[hv]at hh;simp at hh
      |some r=>rw[hv]at hh this;simp at hh;exact this (by rw[hh]))
     obtain⟨wU,hU,a6,U⟩:=a5.store (aF underlying3) underlying124 a v';have hU:(Instr.mapUpdate 124 (.map (some J)) (rI a) v').run prog wI=.ok () wU:=hU
     have a8:wU.cell? ⟨b,1,none⟩=some (.map (some J))/\wU.cell? ⟨M,0,none⟩=some (rI Q)/\wU.cell? ⟨M,1,none⟩=some (rI xs)/\wU.cell? ⟨M,2,none⟩=some (rI xd)/\wU.cell? ⟨M,3,none⟩=some (rI xm):=
      ⟨aH U (by simpa using bd) Z.1,aH U (by simpa using Ne.symm P) Z.2.1,aH U (by simpa using Ne.symm P) Z.2.2.1,aH U (by simpa using Ne.symm P) Z.2.2.2.1,aH U (by simpa using Ne.symm P) Z.2.2.2.2⟩)))
 all_goals
  have aq:=cz.put H1.out H2.out H3.out H4.out h5 H6.out H7.out Hu.out g.out.2.2.2.2.2.2.2 a7 I a4 a6 U;go_end0;exact⟨rfl,aq⟩
theorem Jn(P:Prop):∃t:Bool,t=true↔P:=by
 by_cases h:P
 .exact⟨true,by simp[h]⟩
 .exact⟨false,by simp[h]⟩
def aJ(w:World)(b p mb:Nat)(S:List Nat)(g:G)(v:Int)(E:Int->Option (List Ed)):Prop:=
 w.heap[b]? =some (.cells #[vP p,.map (some mb)] 165 (0,0))/\aC w p g v/\cz w S mb E/\b∉S/\p∉S/\b≠mb/\p≠mb/\b≠p
theorem aJ.below{b p mb:Nat}{v:Int}(h:aJ w b p mb S g v E)(u:Below w.heap.size w w'):aJ w' b p mb S g v E:=
 ⟨(u.block b (Za.1 h.1).1).trans h.1,h.2.1.below u h.2.1.lt,h.2.2.1.below u,h.2.2.2⟩
theorem aJ.put{b p mb:Nat}{S u:List Nat}{v:Int}{E F:Int->Option (List Ed)}(h:aJ w b p mb S g v E)(m:cz w' u mb F)(R:∀k∈u,k∈S\/w.heap.size<=k)(U:Kept (mb::S) w w'):aJ w' b p mb u g v F:=by
 obtain⟨I,J,L,M,O,P,Q,Z⟩:=h;have B:b<w.heap.size:=(Za.1 I).1;refine⟨(U.block b B (by simp[P,M])).trans I,J.kept U (by simp[Q,O]),m,?_,?_,P,Q,Z⟩
 .intro z
  rcases R b z with a|a
  .exact M a
  .omega
 .intro z
  rcases R p z with a|a
  .exact O a
  .have:=J.lt;omega
def bZ(g:G)(Done:Nat->Nat->Prop)(E:Int->Option (List Ed)):Prop:=
 (∀z:Int,E z≠none↔∃c:Nat,z=c/\g.av c)/\∀(c:Nat)(L:List Ed),E c=some L->rQ L/\∀e,e∈L↔∃y:Nat,g.av y/\y≠c/\Done c y/\g.aK c y/\e=⟨y,g.cZ c y,-1⟩
theorem iW(u:g.ok)(h:g.av c):c<g.n/\g.b c=false:=by
 refine⟨h.1,?_⟩;have:=h.2.1;rw[G.sW u h.1]at this;simpa using this
theorem FN(J:rQ L)(n:Nat)(h:∀e∈L,0<=e.to_/\e.to_<n):L.length<=n:=by
 have F:∀(j:Nat)(e:Ed),L[j]? =some e->(j:Int)<=e.to_:=by
  intro j
  induction j with
  |zero=>intro e z;exact(h e (Ze z)).1
  |succ j M=>
   intro e z;have I:=(Zb.1 z).1;obtain⟨x,u⟩:∃x,L[j]? =some x:=⟨L[j]'om,Zc _⟩;have a:=M x u;have b:=J j (j+1) x e om u z;omega
 cases I:L.length with
 |zero=>omega
 |succ m=>
  obtain⟨x,u⟩:∃x,L[m]? =some x:=⟨L[m]'om,Zc _⟩;have a:=F m x u;have b:=(h x (Ze u)).2;omega
theorem bZ.facts(I:g.ok)(h:bZ g Done E)(M:g.av c):∃L,E c=some L/\rQ L/\(∀e∈L,aT e.to_)/\L.length<=1000/\∀e,e∈L↔∃y:Nat,g.av y/\y≠c/\Done c y/\g.aK c y/\e=⟨y,g.cZ c y,-1⟩:=by
 have J:=(h.1 c).2 ⟨c,rfl,M⟩;cases z:E c with
 |none=>exact absurd z J
 |some L=>
  obtain⟨a,b⟩:=h.2 c L z
  have F:∀e∈L,0<=e.to_/\e.to_<g.n:=λe u=>by
   obtain⟨y,O,_,_,_,rfl⟩:=(b e).1 u;have:=(iW I O).1;simp only;omega
  have P:=G.bA I;refine⟨L,rfl,a,λe u=>?_,?_,b⟩
  .have:=F e u
   unfold aT;omega
  .have:=FN a g.n F
   omega
def vR(Done:Nat->Nat->Prop)(a b:Nat):Nat->Nat->Prop:=λx y=>Done x y\/(x=a/\y=b)\/(x=b/\y=a)
theorem bZ.no(h:bZ g Done E){a b:Nat}(O:¬g.aK a b):bZ g (vR Done a b) E:=by
 refine⟨h.1,λc L M=>⟨(h.2 c L M).1,λe=>?_⟩⟩;rw[(h.2 c L M).2 e];constructor
 .rintro⟨y,z,F,I,u,J⟩
  exact⟨y,z,F,.inl I,u,J⟩
 .rintro⟨y,z,F,I|⟨rfl,rfl⟩|⟨rfl,rfl⟩,u,J⟩
  .exact⟨y,z,F,I,u,J⟩
  .exact absurd u O
  .exact absurd (G.gW.1 u) O
theorem bZ.yes(h:bZ g Done E){a b:Nat}(ha:g.av a)(hb:g.av b)(Q:a≠b)(hd:g.aK a b)(h1:¬Done a b)(h2:¬Done b a){U Z:List Ed}(k:E a=some U)(B:E b=some Z):bZ g (vR Done a b) (bT (bT E a (some (ng U ⟨b,g.cZ a b,-1⟩))) b (some (ng Z ⟨a,g.cZ a b,-1⟩)))/\gU U b=false/\gU Z a=false:=by
 obtain⟨sa,ma⟩:=h.2 a U k;obtain⟨sb,mb⟩:=h.2 b Z B
 have na:gU U b=false:=by
  cases T:gU U b with
  |false=>rfl
  |true=>
   obtain⟨e,S,I⟩:=kF.1 T;obtain⟨y,_,_,q,_,rfl⟩:=(ma e).1 S;simp only at I;obtain rfl:y=b:=om;exact absurd q h1
 have nb:gU Z a=false:=by
  cases T:gU Z a with
  |false=>rfl
  |true=>
   obtain⟨e,S,I⟩:=kF.1 T;obtain⟨y,_,_,q,_,rfl⟩:=(mb e).1 S;simp only at I;obtain rfl:y=a:=om;exact absurd q h2
 have aa:¬((b:Int)=(a:Int)):=om;refine⟨⟨λz=>?_,λc L F=>?_⟩,na,nb⟩
 .unfold bT
  by_cases I:z=(b:Int)
  .rw[if_pos I]
   exact⟨λ_=>⟨b,I,hb⟩,λ_=>rS⟩
  .rw[if_neg I]
   by_cases R:z=(a:Int)
   .rw[if_pos R]
    exact⟨λ_=>⟨a,R,ha⟩,λ_=>rS⟩
   .rw[if_neg R]
    exact h.1 z
 .unfold bT at F
  by_cases I:(c:Int)=(b:Int)
  .rw[if_pos I]at F
   injection F with F
   obtain rfl:c=b:=om;subst F;refine⟨oV sb nb,λe=>?_⟩;rw[oK,mb e];constructor
   .rintro(rfl|⟨y,J,M,O,P,u⟩)
    .exact⟨a,ha,Q,.inr (.inr ⟨rfl,rfl⟩),G.gW.1 hd,by rw[G.fH]⟩
    .exact⟨y,J,M,.inl O,P,u⟩
   .rintro⟨y,J,M,O|⟨rfl,rfl⟩|⟨_,rfl⟩,P,u⟩
    .exact .inr ⟨y,J,M,O,P,u⟩
    .exact absurd rfl Q
    .exact .inl (by rw[u,G.fH])
  .rw[if_neg I]at F
   by_cases R:(c:Int)=(a:Int)
   .rw[if_pos R]at F
    injection F with F
    obtain rfl:c=a:=om;subst F;refine⟨oV sa na,λe=>?_⟩;rw[oK,ma e];constructor
    .rintro(rfl|⟨y,J,M,O,P,u⟩)
     .exact⟨b,hb,Ne.symm Q,.inr (.inl ⟨rfl,rfl⟩),hd,rfl⟩
     .exact⟨y,J,M,.inl O,P,u⟩
    .rintro⟨y,J,M,O|⟨_,rfl⟩|⟨rfl,rfl⟩,P,u⟩
     .exact .inr ⟨y,J,M,O,P,u⟩
     .exact .inl u
     .exact absurd rfl Q
   .rw[if_neg R]at F
    obtain⟨s,m⟩:=h.2 c L F;refine⟨s,λe=>?_⟩;rw[m e];constructor
    .rintro⟨y,J,M,O,P,u⟩
     exact⟨y,J,M,.inl O,P,u⟩
    .rintro⟨y,J,M,O|⟨rfl,_⟩|⟨rfl,_⟩,P,u⟩
     .exact⟨y,J,M,O,P,u⟩
     .exact absurd rfl R
     .exact absurd rfl I
def ND(w:World)(b p mb:Nat)(S:List Nat)(g:G)(v:Int)(Done:Nat->Nat->Prop)(e:Ending)(w':World):Prop:=
 e=.returned (.tuple #[])/\∃S' E',aJ w' b p mb S' g v E'/\bZ g Done E'/\(∀k∈S',k∈S\/w.heap.size<=k)/\Kept (mb::S) w w'
theorem LC(w:World)(b p Z:Nat)(S:List Nat)(g:G)(v:Int)(E:Int->Option (List Ed))(F:Nat->Nat->Prop)(x y:Nat)(h:aJ w b p Z S g v E)(hS:bZ g F E)(hx:g.av x)(hy:g.av y)(a2:x≠y)(h1:¬F x y)(h2:¬F y x):Calls prog 82 #[vP b,rI (x:Nat),rI (y:Nat)] w (ND w b p Z S g v (vR F x y)):=by
 have hg:=h.2.1;have P:=hg.1;have a4:=G.bA P;obtain⟨xn,xf⟩:=iW P hx;obtain⟨yn,yf⟩:=iW P hy;have aa:w.cell? ⟨b,0,none⟩=some (vP p):=by simp[World.cell?,h.1]
 obtain⟨t,ht⟩:=Jn (g.aK x y);have Ht:=hid ht;have cD:=hid (jS w p g v x y t hg xn yn xf yf ht);have H:=hid h;have HS:=hid hS;have Hd:=hid (rN h1 h2);clear h hS ht h1 h2 hg;go_enter func82,ntmps82;go_wp2_with fail;(with_reducible refine cD.out.mono ?_);rintro e w1 ⟨rfl,M⟩;clear cD;cases t with
 |false=>
  have a0:¬g.aK x y:=λhh=>by have:=Ht.out.2 hh;cases this
  have u:ND w b p Z S g v (vR F x y) (.returned (.tuple #[])) w1:=⟨rfl,S,E,H.out.below M,HS.out.no a0,λk hk=>.inl hk,Kept.of_below M⟩;have u:=hid u;clear Ht;go_wp2;go_end0;exact u.out
 |true=>
  have ay:g.aK x y:=Ht.out.1 rfl;obtain⟨Lx,am,sx,ix,lx,_⟩:=HS.out.facts P hx;obtain⟨Ly,ao,sy,iy,ly,_⟩:=HS.out.facts P hy;have R:=H.out.below M;have aw:aC w1 p g v:=R.2.1;have aa:=af M aa;have ax:=hid (HS.out.yes hx hy a2 ay Hd.out.1 Hd.out.2 am ao);obtain⟨⟨os,od⟩,ho⟩:=rX (g.cZ x y);rw[ho]at ax;have a1:aT (x:Int):=by unfold aT;omega
  have a3:aT (y:Int):=by unfold aT;omega
  clear Ht;go_wp2_with fail;(with_reducible refine(Cs _ p g v x y ⟨os,od⟩ aw xn yn ho).mono ?_);rintro e w2 ⟨rfl,T⟩;go_upto_region 3 with(fail);refine aB ?_;intro W hW;have HW:Below w2.heap.size w2 W:=by rw[hW];exact be
  have o0:W.cell? ⟨w2.heap.size,0,none⟩=some (rI os):=by rw[hW];go_simp
  have o1:W.cell? ⟨w2.heap.size,1,none⟩=some (rI od):=by rw[hW];go_simp
  have B:=ae T HW;have ai:=R.below B;have Q:=ae M B
  have U:w2.heap.size∉Z::S:=by
   have hE:=R.2.2.1;have a5:=hE.lt;obtain⟨V,N,q1,q2,q3,q4,q5,q6,q7⟩:=hE;have a6:=T.size;intro hh;rcases Zd.1 hh with e|e
   .omega
   .have:=q7 _ e;omega
  obtain⟨b8,ar⟩:=rX w2.heap.size;rw[ar]at o0 o1 U⊢;have aS:=hid ai;obtain⟨g1,g2,g3,g4,g5,g6,g7,g8⟩:=ai;have c1:=hid (sM W S b p Z E (x:Nat) ⟨(y:Nat),⟨os,od⟩,-1⟩ Lx g1 g3 g4 g6 am sx ix a3 lx);clear hW ar HW B R T M aa g1 g2 g3 g4 g5 g6 g7 g8;go_wp2_with fail
  (refine c1.out.mono ?_)
  rintro e w3 ⟨rfl,S1,ab,L,O⟩;have ad:=aS.out.put ab L O;have o0:=aH O U o0;have o1:=aH O U o1
  have m:bT E (x:Nat) (some (ng Lx ⟨(y:Nat),⟨os,od⟩,-1⟩)) (y:Nat)=some Ly:=by
   unfold bT;rw[if_neg om];exact ao
  have aE:=hid ad;obtain⟨g1,g2,g3,g4,g5,g6,g7,g8⟩:=ad;have c2:=hid (sM w3 S1 b p Z _ (y:Nat) ⟨(x:Nat),⟨os,od⟩,-1⟩ Ly g1 g3 g4 g6 m sy iy a1 ly);clear c1 ab g1 g2 g3 g4 g5 g6 g7 g8 m U;go_wp2_with fail
  (refine c2.out.mono ?_)
  rintro e w4 ⟨rfl,S2,ac,ap,I⟩;have ag:=aE.out.put ac ap I
  have al:Kept (Z::S) w w4:=by
   have J:Kept (Z::S) w w3:=(Kept.of_below Q).trans O;refine⟨I.os.trans J.os,I.tape.trans J.tape,I.output.trans J.output,Zg J.size I.size,λk hk hn=>?_⟩;refine(I.block k (Zf hk J.size) ?_).trans (J.block k hk hn);intro hm;rcases Zd.1 hm with e|e
   .exact hn (by rw[e];simp)
   .rcases L k e with q|q
    .exact hn (List.mem_cons_of_mem _ q)
    .have:=Q.size;omega
  have aq:∀k∈S2,k∈S\/w.heap.size<=k:=λk hk=>by
   rcases ap k hk with q|q
   .rcases L k q with r|r
    .exact .inl r
    .have:=Q.size;exact .inr om
   .have:=O.size;have:=Q.size;exact .inr om
  have u:ND w b p Z S g v (vR F x y) (.returned (.tuple #[])) w4:=⟨rfl,S2,_,ag,ax.out.1,aq,al⟩;have u:=hid u;clear ac ag aq al;go_wp2;go_end0;exact u.out
theorem cz.add{w P:World}{mb N Q:Nat}{a:Int}(h1:MapAt iK w mb V N)(m:∀k,E k=none↔V k=none)(B:∀k u L,V k=some u->E k=some L->bf w 0 u L)(R:∀k u q,V k=some u->u.ownBlock=some q->q∈S)(U:mb∉S)(T:∀k O u g q,V k=some u->V O=some g->u.ownBlock=some q->g.ownBlock=some q->k=O)(h7:∀s,s∈S->s<w.heap.size)(hM:MapAt iK P mb (aN V a (some (.slice none 0 0))) Q)(Z:Kept [mb] w P):cz P S mb (bT E a (some [])):=by
 refine⟨_,Q,hM,λk=>?_,λk x L z I=>?_,λk x q z J=>?_,U,λk O x x' q z F J M=>?_,λs hs=>Zf (h7 s hs) Z.size⟩
 .unfold bT aN
  split
  .simp
  .exact m k
 .unfold bT at I
  unfold aN at z;split at z
  .rename_i e
   rw[if_pos e]at I;injection z with z
   injection I with I
   subst z;subst I;exact bf.nil _ _
  .rename_i e
   rw[if_neg e]at I
   exact(B k x L z I).kept Z (λq J=>by
    have:=R k x q z J;simp;rintro rfl;exact U this)
 .unfold aN at z
  split at z
  .injection z with z
   subst z;simp[Value.ownBlock]at J
  .exact R k x q z J
 .unfold aN at z F
  split at z
  .injection z with z
   subst z;simp[Value.ownBlock]at J
  .split at F
   .injection F with F
    subst F;simp[Value.ownBlock]at M
   .exact T k O x x' q z F J M
def rP(w:World)(zs:List Int)(e:Ending)(w':World):Prop:=∃A m,e=.returned (.slice A zs.length m)/\zs.length<=m/\Ints w' A zs.length (λk=>zs.getD k 0)/\(∀ad,A=some ad->w.heap.size<=ad.block/\ad.block<w'.heap.size)/\Below w.heap.size w w'
theorem uY{u:List Int}(h:aL w' w.heap.size v u)(P:Below w.heap.size w w'):rP w u (.returned v) w':=by
 obtain⟨A,m,rfl,Q⟩:=h.ints;refine⟨A,m,rfl,?_,Q,?_,P⟩
 .rcases h.2 with⟨e,R⟩|⟨g,F,I,e,_,_,U,_⟩
  .injection e with J M O;omega
  .injection e with J M O;omega
 .intro z e
  subst e;exact World.ownsRow.lt h z.block rfl
theorem Po{w2 wr w':World}(h:Kept [mb] w2 wr)(k:Kept (mb::S) wr w')(F:∀q∈S,w2.heap.size<=q):Kept [mb] w2 w':=
 ⟨k.os.trans h.os,k.tape.trans h.tape,k.output.trans h.output,Zg h.size k.size,λq z u=>by
  refine(k.block q (Zf z h.size) ?_).trans (h.block q z u);intro I;rcases Zd.1 I with e|e
  .exact u (by rw[e];simp)
  .have:=F q e;omega⟩
theorem GH(w:World)(p:Nat)(g:G)(v:Int)(h:aC w p g v):Calls prog 122 #[vP p] w (rP w (aA g)):=by
 have Z:=hid h.lt;have hn:=G.bA h.1;go_enter func122,ntmps122;go_wp2_with fail;refine(jK w p g v h).mono ?_;rintro e w1 ⟨rfl,M⟩;have m:=M.size;go_wp2_with fail;go_loopw [3,9] (λl i wr=>∃k:Nat,k<=g.n/\i=rI k/\aL wr w.heap.size l (upTo (aQ g) k)/\Below w.heap.size w wr) (λ_ i _=>g.n-(intOf i).toNat)
 case atStart=>exact⟨0,om,rfl,aL.nil _ _,M⟩
 case round=>
  obtain⟨k,S,rfl,z,Q⟩:=hrel;have T:=iG (aQ g) k;by_cases U:k<g.n
  .go_wp2_with fail
   refine(oz _ p g v k (h.below Q Z.out) U).mono ?_;rintro e L ⟨rfl,O⟩;have F:=ae Q O;have u:=z.below (B':=0) O;have B:=F.size;cases P:aQ g k with
   |false=>
    have e:=hid (xP (p:=aQ g) P);clear P;go_wp2;go_roundw
    case rel=>exact⟨k+1,om,by go_num,by rw[e.out];exact u,F⟩
    case measure=>exact rM
   |true=>
    have e:=hid (tY (p:=aQ g) P);clear P;go_wp2_with (at_builtin;refine bH _ rfl _ _ rfl w.heap.size _ _ _ rfl (u.alloc _) ⟨L.heap.size,0,none⟩ rfl (dh _ _ _) om so ?_;intro v' w3 J I)
    have R:=below_grown (F.alloc om _) so (u.alloc _) I;go_wp2;go_roundw
    case rel=>exact⟨k+1,om,by go_num,by rw[e.out];exact J,R⟩
    case measure=>exact rM
  .obtain rfl:k=g.n:=om
   go_wp2;go_ret;exact uY z Q
def cf(g:G)(i:Nat):Nat:=((aA g).getD i 0).toNat
theorem zY{L:List Int}(h:L.Pairwise (· < ·))(u:i<j)(z:j<L.length):L.getD i 0<L.getD j 0:=by
 have:=(List.pairwise_iff_getElem.1 h) i j om z u;simpa[List.getD,show i<L.length by omega,z]using this
theorem jG(g:G):(aA g).Pairwise (· < ·):=by
 unfold aA upTo;rw[List.pairwise_map];exact(List.Pairwise.filter _ List.pairwise_lt_range).imp (λh=>om)
theorem bW(J:i<(aA g).length):(aA g).getD i 0=(cf g i:Nat)/\g.av (cf g i):=by
 obtain⟨d,z,F,I⟩:=F8 (p:=aQ g) (n:=g.n) J;have u:(aA g).getD i 0=(d:Int):=z;have e:cf g i=d:=by unfold cf;rw[u];simp
 rw[e];exact⟨u,(fU F).1 I⟩
theorem D8(u:i<j)(z:j<(aA g).length):cf g i<cf g j:=by
 have h:=zY (jG g) u z;rw[(bW (show i<_ by omega)).1,(bW z).1]at h;omega
theorem kV(u:i<(aA g).length)(z:j<(aA g).length)(h:cf g i=cf g j):i=j:=by
 rcases Nat.lt_trichotomy i j with q|q|q
 .have:=D8 q z;omega
 .exact q
 .have:=D8 q u;omega
theorem mM(h:g.av c):∃i,i<(aA g).length/\cf g i=c:=by
 obtain⟨k,z,F⟩:=F9 (p:=aQ g) (n:=g.n) h.1 ((fU h.1).2 h);refine⟨k,z,?_⟩;unfold cf;have u:(aA g).getD k 0=(c:Int):=F;rw[u];simp
theorem bM(u:g.ok):(aA g).length<=256:=Zg (iG _ _) (G.bA u)
def Dn(g:G)(i j:Nat)(x y:Nat):Prop:=∃a b,a<b/\b<(aA g).length/\(a<i\/(a=i/\b<j))/\((x=cf g a/\y=cf g b)\/(x=cf g b/\y=cf g a))
theorem bZ.congr{D P:Nat->Nat->Prop}(h:bZ g D E)(Q:∀c y,g.av c->g.av y->y≠c->(D c y↔P c y)):bZ g P E:=by
 refine⟨h.1,λc L I=>⟨(h.2 c L I).1,λe=>?_⟩⟩;obtain⟨R,U,u⟩:=(h.1 c).1 (by rw[I];simp);obtain rfl:c=R:=om;rw[(h.2 c L I).2 e];constructor
 .rintro⟨y,z,F,J,M,O⟩;exact⟨y,z,F,(Q c y u z F).1 J,M,O⟩
 .rintro⟨y,z,F,J,M,O⟩;exact⟨y,z,F,(Q c y u z F).2 J,M,O⟩
theorem mP(u:i<j)(J:j<(aA g).length):∀x y,vR (Dn g i j) (cf g i) (cf g j) x y↔Dn g i (j+1) x y:=by
 intro x y;constructor
 .rintro(⟨a,b,F,I,M,z⟩|⟨rfl,rfl⟩|⟨rfl,rfl⟩)
  .exact⟨a,b,F,I,om,z⟩
  .exact⟨i,j,u,J,.inr ⟨rfl,om⟩,.inl ⟨rfl,rfl⟩⟩
  .exact⟨i,j,u,J,.inr ⟨rfl,om⟩,.inr ⟨rfl,rfl⟩⟩
 .rintro⟨a,b,F,I,M,z⟩
  by_cases e:a=i/\b=j
  .obtain⟨rfl,rfl⟩:=e
   exact .inr z
  .exact .inl ⟨a,b,F,I,om,z⟩
theorem GR(Q:i<j)(I:j<(aA g).length):¬Dn g i j (cf g i) (cf g j)/\¬Dn g i j (cf g j) (cf g i):=by
 constructor
 .rintro⟨a,b,O,F,P,⟨u,z⟩|⟨u,z⟩⟩
  .have J:=kV om om u
   have M:=kV I F z;omega
  .have J:=kV om F u
   have M:=kV I om z;omega
 .rintro⟨a,b,O,F,P,⟨u,z⟩|⟨u,z⟩⟩
  .have J:=kV I om u
   have M:=kV om F z;omega
  .have J:=kV I F u
   have M:=kV om om z;omega
theorem OJ(J:(aA g).length<=j):∀x y,Dn g i j x y↔Dn g (i+1) (i+2) x y:=by
 intro x y;constructor
 .rintro⟨a,b,u,z,I,F⟩;exact⟨a,b,u,z,om,F⟩
 .rintro⟨a,b,u,z,I,F⟩;exact⟨a,b,u,z,om,F⟩
theorem yE:∀x y,¬Dn g 0 1 x y:=by
 rintro x y ⟨a,b,u,z,F,I⟩;omega
theorem qP(M:(aA g).length<=i){c y:Nat}(F:g.av c)(J:g.av y)(I:y≠c):Dn g i (i+1) c y:=by
 obtain⟨a,u,rfl⟩:=mM F;obtain⟨b,z,rfl⟩:=mM J;rcases Nat.lt_trichotomy a b with q|q|q
 .exact⟨a,b,q,z,om,.inl ⟨rfl,rfl⟩⟩
 .subst q;exact absurd rfl I
 .exact⟨b,a,q,u,om,.inr ⟨rfl,rfl⟩⟩
def vS(g:G)(k:Nat)(E:Int->Option (List Ed)):Prop:=(∀z:Int,E z≠none↔∃i,i<k/\z=(cf g i:Nat))/\∀z L,E z=some L->L=[]
theorem Qc(h:vS g k E):vS g (k+1) (bT E (cf g k:Nat) (some [])):=by
 refine⟨λz=>?_,λz L u=>?_⟩
 .unfold bT
  by_cases e:z=(cf g k:Nat)
  .rw[if_pos e]
   exact⟨λ_=>⟨k,om,e⟩,λ_=>rS⟩
  .rw[if_neg e,h.1 z]
   constructor
   .rintro⟨i,J,F⟩;exact⟨i,om,F⟩
   .rintro⟨i,J,F⟩
    by_cases I:i=k
    .subst I;exact absurd F e
    .exact⟨i,om,F⟩
 .unfold bT at u
  split at u
  .injection u with u;exact u.symm
  .exact h.2 z L u
theorem Qa(h:vS g k E)(z:k<(aA g).length):E (cf g k:Nat)=none:=by
 cases u:E (cf g k:Nat)with
 |none=>rfl
 |some L=>
  obtain⟨i,F,I⟩:=(h.1 _).1 (by rw[u];simp);have:=kV (g:=g) (i:=k) (j:=i) z om om;omega
theorem Qb(h:vS g (aA g).length E):bZ g (Dn g 0 1) E:=by
 refine⟨λz=>?_,λc L I=>?_⟩
 .rw[h.1 z]
  constructor
  .rintro⟨i,u,F⟩;exact⟨_,F,(bW u).2⟩
  .rintro⟨c,rfl,I⟩
   obtain⟨i,u,F⟩:=mM I;exact⟨i,u,by rw[F]⟩
 .have:=h.2 _ _ I
  subst this;refine⟨λi j a b _ M=>by simp at M,λe=>?_⟩;constructor
  .intro h;simp at h
  .rintro⟨y,_,_,J,_⟩;exact absurd J (yE _ _)
theorem Vd(a:Addr)(i j:Nat):(a.add i).add j=a.add (i+j):=by
 unfold Addr.add;by_cases u:i=0
 .subst u;simp
 .by_cases z:j=0
  .subst z;simp
  .rw[if_neg u,if_neg z,if_neg om]
   simp[Nat.add_assoc]
theorem Ints.drop{f:Nat->Int}(h:Ints w A n f)(M:n<=m)(I:i<=n):Ints w (if m=i then A else A.map (·.add i)) (n-i) (λk=>f (i+k)):=by
 intro O;obtain⟨u,rfl,z,F⟩:=h om;rw[if_neg om];refine⟨u.add i,rfl,by rw[add_block];exact z,λk J=>?_⟩;have e:(u.add i).add k=u.add (i+k):=Vd u i k;rw[e];exact F (i+k) om
def Ud(w:World)(g:G)(v:Int)(e:Ending)(w':World):Prop:=
 ∃b p mb S E,e=.returned (vP b)/\aJ w' b p mb S g v E/\bZ g (λ_ _=>True) E/\(∀k,k∈b::p::mb::S->w.heap.size<=k)/\Below w.heap.size w w'
theorem Ez(w:World)(q:Nat)(g:G)(v:Int)(h:aC w q g v):Calls prog 68 #[vP q] w (Ud w g v):=by
 have ax:=h.1;have ci:=G.bA ax;have b7:=@run_makeMap prog;go_enter func68,ntmps68;go_wp2_with fail;(with_reducible refine(EA _ q g v h).mono ?_);rintro e w1 ⟨rfl,ap,aq,ay⟩;go_upto_region 2 with(fail);clear b7;refine aB ?_;intro W hW;have HW:Below w1.heap.size w1 W:=by rw[hW];exact be
 obtain⟨p,hp⟩:=rX w.heap.size;have cj:w.heap.size<=p:=om;rw[hp]at ap hW ay;obtain⟨I,bb⟩:=rX (p+1);rw[bb]at hW ay;obtain⟨b,hb⟩:=rX (I+1);rw[hp,bb,hb];have l1:p<I:=om;have l2:I<b:=om
 have hM:MapAt iK W I (λ_=>none) 0:=by
  rw[hW,<-ay];exact(MapAt.made w1).below (ah br)
 have bv:W.heap[b]? =some (.cells #[vP p,.map (some I)] 165 (0,0)):=by
  rw[hW];exact alloc_at _ _ so
 have bk:cz W [] I (λ_=>none):=⟨_,0,hM,λk=>rS,λk u L hu=>by simp at hu,λk u q hu=>by simp at hu,rS,λk k' u u' q hu=>by simp at hu,λs hs=>by simp at hs⟩;have a1:aJ W b p I [] g v (λ_=>none):=⟨bv,ap.below HW ap.lt,bk,rS,rS,om,om,om⟩;have a4:=ae aq HW;have hq:aC W q g v:=h.below a4 h.lt;have bt:I<W.heap.size:=hM.lt;clear hW HW hM bv bk ap aq ay hp bb hb;go_wp2_with fail;(with_reducible refine(GH _ q g v hq).mono ?_);rintro e B ⟨A,m,rfl,hm,hI,bj,ag⟩;have U:=a1.below ag;have bd:=ae a4 ag;obtain⟨n,hn⟩:=rX ((aA g).length);have bc:=bM ax;rw[hn]at hm hI bc⊢;have Hn:=hid hn;have ce:=hid ax;have O:vS g 0 (λ_=>none):=⟨λz=>rS,λz L hz=>by simp at hz⟩;have HI:=hid hI;clear hn ax a1 a4 hq ag hI h
 have bi:∀ad,A=some ad->ad.block∉[I]:=λad e=>by
  have h1:=(bj ad e).1;have h2:=U.2.2.1.lt;have h3:=bt;simp;omega
 have am:=hid bi;have hstart:∃E,aJ B b p I [] g v E/\vS g 0 E/\Kept [I] B B:=⟨_,U,O,Kept.refl _ _⟩;clear bi bj U O bt;go_wp2_with fail;go_loopw [20] (λkv wr=>∃k:Nat,k<=n/\kv=rI k/\∃E,aJ wr b p I [] g v E/\vS g k E/\Kept [I] B wr) (λkv _=>n-(intOf kv).toNat)
 case atStart=>exact⟨0,om,rfl,hstart⟩
 case round=>
  obtain⟨k,hk,rfl,E,J,O,hK⟩:=hrel;clear hstart;by_cases aw:k<n
  .have M:=HI.out.kept hK am.out
   obtain⟨ad,hA⟩:=M.addr om;rw[hA]at M;have bw:=λwx=>aP (m:=m) hA aw wx;have hE:=M.cell br aw;rw[(bW (by rw[Hn.out];exact aw)).1]at hE;have al:=Qa O (by rw[Hn.out];exact aw);have ab:=Qc O;obtain⟨c,hc⟩:=rX (cf g k);rw[hc]at hE al ab;have bg:=hid ab;have ao:=hid J;obtain⟨g1,g2,g3,g4,g5,g6,g7,g8⟩:=J;obtain⟨V,N,q1,q2,q3,q4,q5,q6,q7⟩:=g3;have cm:wr.cell? ⟨b,1,none⟩=some (.map (some I)):=by simp[World.cell?,g1]
   have Q:=hid (rN q1 (rN q2 (rN q3 (rN q4 (rN q5 (rN q6 q7))))));clear M hA O al ab hc g1 g2 g4 g5 g6 g7 g8 q1 q2 q3 q4 q5 q6 q7;obtain⟨wU,hU,bp,a9⟩:=Q.out.1.store (aF underlying3) underlying124 (c:Int) (.slice none 0 0);have hU:(Instr.mapUpdate 124 (.map (some I)) (rI (c:Nat)) (.slice none 0 0)).run prog wr=.ok () wU:=hU;have bl:=cz.add Q.out.1 Q.out.2.1 Q.out.2.2.1 Q.out.2.2.2.1 Q.out.2.2.2.2.1 Q.out.2.2.2.2.2.1 Q.out.2.2.2.2.2.2 bp a9;have U:=ao.out.put bl (λk hk=>.inl hk) a9;have F:∃E,aJ wU b p I [] g v E/\vS g (k+1) E/\Kept [I] B wU:=⟨_,U,bg.out,hK.trans a9⟩;have F:=hid F;clear bl U bp;go_wp2;go_roundw
   case rel=>exact⟨k+1,om,by go_num,F.out⟩
   case measure=>exact rM
  .obtain rfl:k=n:=om
   have P:bZ g (Dn g 0 (0+1)) E:=Qb (by rw[Hn.out];exact O);have aa:∃S E,aJ wr b p I S g v E/\bZ g (Dn g 0 (0+1)) E/\(∀s∈S,B.heap.size<=s)/\Kept [I] B wr:=⟨[],E,J,P,rS,hK⟩;clear J O P hK;go_wp2_with fail;obtain⟨wo,rfl⟩:∃wo:World,wo=wr:=⟨_,rfl⟩
   go_loopw [32] (λkv wr=>∃i:Nat,i<=k/\kv=rI i/\∃S E,aJ wr b p I S g v E/\bZ g (Dn g i (i+1)) E/\(∀s∈S,B.heap.size<=s)/\Kept [I] B wr) (λkv _=>k-(intOf kv).toNat)
   case atStart=>exact⟨0,om,rfl,aa⟩
   case round=>
    obtain⟨i,hi,rfl,S,E,J,P,Z,hK⟩:=hrel;clear aa;by_cases ac:i<k
    .have M:=HI.out.kept hK am.out
     have T:=Ints.drop HI.out hm (show i+1<=k by omega);obtain⟨ad,hA⟩:=M.addr om;have a8:=M;rw[hA]at a8;have bw:=λwx=>aP (m:=m) hA ac wx;have hE:=a8.cell br ac;rw[(bW (by rw[Hn.out];exact ac)).1]at hE;obtain⟨x,hx⟩:=rX (cf g i);rw[hx]at hE;have Hx:=hid hx;have a5:=hid T;have ao:=hid J;have bh:=hid P;have b9:IntKind.i64.wrap ((i:Int)+1)=(i:Int)+1:=IntWalk.i64_in _ om;have aq:(0:Int)<=(i:Int)+1:=om;have ag:(i:Int)+1<=(k:Int):=om;have b4:i+1<=k:=om;have b5:i+1<=m:=om;have b6:((i:Int)+1).toNat=i+1:=om;clear M a8 hA hx T J P;go_upto_region 11 with(fail);go_cut [40,41,42] (λsv lv zv wx=>∃A' m',sv=.slice A' (k-(i+1)) m'/\Ints B A' (k-(i+1)) (λt=>(aA g).getD (i+1+t) 0)/\(∀ad,A'=some ad->ad.block∉[I])/\lv=rI ((k-(i+1):Nat):Int)/\zv=rI (0:Nat)/\wx=wr)
     case first=>
      by_cases bz:m=i+1
      .have T:=a5.out
       rw[if_pos bz]at T;go_wp2;go_meet
       case rel=>exact⟨_,_,rfl,T,am.out,rfl,rfl,rfl⟩
      .have T:=a5.out
       rw[if_neg bz]at T;go_wp2;go_meet
       case rel=>
        refine⟨_,_,rfl,by simpa[Addr.add]using T,?_,rfl,rfl,rfl⟩;intro cg e;cases A with
        |none=>simp at e
        |some a0=>
         simp at e;rw[<-e];exact am.out a0 rfl
     case rest=>
     obtain⟨A',m',rfl,a7,hA2,rfl,rfl,aE⟩:=hcut;have aE:wc=wr:=aE;rw[aE];obtain⟨r,hr⟩:=rX (k-(i+1));rw[hr]at a7⊢;have b2:=hid a7;have b1:=hid hA2;have R:∃S E,aJ wr b p I S g v E/\bZ g (Dn g i (i+1+0)) E/\(∀s∈S,B.heap.size<=s)/\Kept [I] B wr:=⟨S,E,ao.out,bh.out,Z,hK⟩;have ca:g.av x:=by rw[<-Hx.out];exact(bW (by rw[Hn.out];exact ac)).2
     clear aE hE bw a5 a7 hA2 ao bh Z hK b9 aq ag b4 b5 b6;obtain⟨w0,b0⟩:∃z:World,wr=z:=⟨_,rfl⟩;rw[b0]at R⊢;clear b0;go_wp2_with fail;obtain⟨wp,rfl⟩:∃wp:World,wp=wr:=⟨_,rfl⟩
     go_loopw [42] (λkv wr=>∃j:Nat,j<=r/\kv=rI j/\∃S E,aJ wr b p I S g v E/\bZ g (Dn g i (i+1+j)) E/\(∀s∈S,B.heap.size<=s)/\Kept [I] B wr) (λkv _=>r-(intOf kv).toNat)
     case atStart=>exact⟨0,om,rfl,R⟩
     case round=>
      obtain⟨j,hj,rfl,S,E,J,P,Z,hK⟩:=hrel;clear R;by_cases a2:j<r
      .have M:=b2.out.kept hK b1.out
       obtain⟨ch,hA1⟩:=M.addr om;rw[hA1]at M;have bx:=λwx=>aP (m:=m') hA1 a2 wx;have a6:=M.cell br a2;have ai:i+1+j<(aA g).length:=by rw[Hn.out];omega
       rw[(bW ai).1]at a6;obtain⟨y,hy⟩:=rX (cf g (i+1+j));have cd:g.av y:=by rw[<-hy];exact(bW ai).2
       rw[hy]at a6
       have cb:x≠y:=by
        rw[<-Hx.out,<-hy];have:=D8 (g:=g) (show i<i+1+j by omega) ai;omega
       have ar:=GR (g:=g) (show i<i+1+j by omega) ai;have ba:=mP (g:=g) (show i<i+1+j by omega) ai;rw[Hx.out,hy]at ar ba;have ck:(0:Int)<=(j:Int):=om;have cl:(j:Int)<(r:Int):=om;have cL:=hid (LC wr b p I S g v E _ x y J P ca cd cb ar.1 ar.2);have b3:=hid ba;clear M hA1 hy J P ar ba;go_wp2_with fail
       (refine cL.out.mono ?_)
       rintro e w4 ⟨rfl,S',E',aS,a3,bq,bm⟩;have bo:=Po hK bm Z
       have F:∃S E,aJ w4 b p I S g v E/\bZ g (Dn g i (i+1+(j+1))) E/\(∀s∈S,B.heap.size<=s)/\Kept [I] B w4:=by
        refine⟨S',E',aS,a3.congr (λc y _ _ _=>b3.out c y),λs hs=>?_,bo⟩;rcases bq s hs with q|q
        .exact Z s q
        .have:=hK.size;omega
       have F:=hid F;clear aS a3 bq bm bo cL a6 bx;go_wp2;go_roundw
       case rel=>exact⟨j+1,om,by go_num,F.out⟩
       case measure=>exact rM
      .obtain rfl:j=r:=om
       have F:∃S E,aJ wr b p I S g v E/\bZ g (Dn g (i+1) (i+1+1)) E/\(∀s∈S,B.heap.size<=s)/\Kept [I] B wr:=
        ⟨S,E,J,P.congr (λc y _ _ _=>OJ (by rw[Hn.out];omega) c y),Z,hK⟩
       have F:=hid F;clear J P Z hK;go_wp2;go_roundw
       case rel=>refine rR ?_;exact⟨i+1,om,by go_num,F.out⟩
       case measure=>exact rM
    .obtain rfl:i=k:=om
     have F:Ud w g v (.returned (vP b)) wr:=by
      have b8:=bd.size;refine⟨b,p,I,S,E,rfl,J,P.congr (λc y h1 h2 h3=>⟨λ_=>trivial,λ_=>qP (by rw[Hn.out];omega) h1 h2 h3⟩),?_,Kept.below bd hK b8 so⟩;intro t ht;rcases Zd.1 ht with e|ht
      .omega
      rcases Zd.1 ht with e|ht
      .omega
      rcases Zd.1 ht with e|ht
      .omega
      have:=Z t ht;omega
     have F:=hid F;clear J P Z hK;go_wp2;go_ret;exact F.out
def qa(L:List Ed)(x:Ed):List Ed:=if gU L x.to_=true then L.set (fE L x.to_) x else ng L x
theorem FO(J:rQ L)(x:Ed):rQ (qa L x):=by
 unfold qa;by_cases h:gU L x.to_=true
 .rw[if_pos h]
  obtain⟨e,M,B⟩:=(qV J x.to_).2 h;obtain⟨m,g⟩:=rX (fE L x.to_);rw[g]at M⊢
  have u:∀(k:Nat)(y:Ed),(L.set m x)[k]? =some y->∃z:Ed,L[k]? =some z/\z.to_=y.to_:=λk y F=>by
   rw[List.getElem?_set]at F;split at F
   .rename_i q
    subst q;split at F
    .injection F with F
     exact⟨e,M,by rw[B,F]⟩
    .cases F
   .exact⟨y,F,rfl⟩
  intro i j a b I U Z;obtain⟨O,Q,S⟩:=u i a U;obtain⟨P,R,T⟩:=u j b Z;have:=J i j O P I Q R;omega
 .rw[if_neg h]
  exact oV J (by simpa using h)
theorem yV(O:rQ L):e∈qa L x↔e=x\/(e∈L/\e.to_≠x.to_):=by
 unfold qa;by_cases h:gU L x.to_=true
 .rw[if_pos h]
  obtain⟨y,F,R⟩:=(qV O x.to_).2 h;obtain⟨m,Q⟩:=rX (fE L x.to_);rw[Q]at F⊢;have I:=(Zb.1 F).1;constructor
  .intro J
   obtain⟨k,u⟩:=Zo J;rw[List.getElem?_set]at u;by_cases q:m=k
   .rw[if_pos q,if_pos I]at u
    injection u with u;exact .inl u.symm
   .rw[if_neg q]at u
    refine .inr ⟨Ze u,λP=>?_⟩;rcases Nat.lt_or_gt_of_ne q with r|r
    .have:=O m k y e r F u;omega
    .have:=O k m e y r u F;omega
  .rintro(rfl|⟨J,M⟩)
   .exact Ze (i:=m) (by rw[List.getElem?_set,if_pos rfl,if_pos I])
   .obtain⟨k,u⟩:=Zo J
    have q:m≠k:=λq=>by subst q;rw[u]at F;injection F with F;subst F;exact M R
    exact Ze (i:=k) (by rw[List.getElem?_set,if_neg q];exact u)
 .rw[if_neg h,oK]
  constructor
  .rintro(z|z)
   .exact .inl z
   .exact .inr ⟨z,λP=>h (kF.2 ⟨e,z,P⟩)⟩
  .rintro(z|⟨z,_⟩)
   .exact .inl z
   .exact .inr z
def uk(w:World)(A:Option Addr)(L:List Ed):Prop:=0<L.length->∃g o,A=some ⟨g,o,none⟩/\g<w.heap.size/\∀j v,(dM L)[j]? =some v->w.cell? ⟨g,o+j,none⟩=some v
theorem bP.o(h:bP w A L):uk w A L:=λI=>by
 obtain⟨g,u,z,F⟩:=h I;exact⟨g,0,u,z,λj v J=>by rw[Zx];exact F j v J⟩
theorem uk.kept(h:uk w A L)(I:Kept T w w')(O:0<L.length->∀u,A=some u->u.block∉T):uk w' A L:=λJ=>by
 obtain⟨g,o,z,F,M⟩:=h J;refine⟨g,o,z,Zf F I.size,λj v Q=>?_⟩;have P:=O J _ z;have e:w'.cell? ⟨g,o+j,none⟩=w.cell? ⟨g,o+j,none⟩:=World.cell?_of_block (I.block g F P);rw[e];exact M j v Q
theorem uk.below(h:uk w A L)(u:Below w.heap.size w w'):uk w' A L:=h.kept (T:=[]) (.of_below u) (λ_ _ _=>rS)
theorem uk.get(h:uk w A L)(z:L[j]? =some e):∃g o,A=some ⟨g,o,none⟩/\w.cell? ⟨g,o+j*4,none⟩=some (rI e.to_)/\w.cell? ⟨g,o+j*4+1,none⟩=some (rI e.c.s)/\w.cell? ⟨g,o+j*4+2,none⟩=some (rI e.c.d)/\w.cell? ⟨g,o+j*4+3,none⟩=some (rI e.mid):=by
 have I:0<L.length:=Nat.lt_of_le_of_lt (Zw _) (Zb.1 z).1;obtain⟨g,o,F,_,u⟩:=h I;obtain⟨a,b,c,d⟩:=xE L j e z;exact⟨g,o,F,u _ _ a,u _ _ b,u _ _ c,u _ _ d⟩
theorem Vx{b o n m k:Nat}(h:A=some ⟨b,o,none⟩)(z:k<n)(u:World):(Instr.indexAt 119 (.slice A n m) (rI (k:Nat))).run prog u=.ok (.pointer (some ⟨b,o+k*4,none⟩)) u:=by
 subst h;have q:(k:Int)<(n:Int):=om;go_simp
