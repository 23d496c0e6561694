/- Lemmas of this claim: Edge, Ins, Bin, Graph1, Graph2, Graph3, Graph4, Lv0. -/
import Derived.Lib.AppendZerosOnto
import Derived.Lib.Overlaps
import Derived.Test.YtokhnobcincfjaaGreatDoorKNEd16
set_option linter.unusedVariables false
set_option linter.unusedSimpArgs false
set_option maxHeartbeats 3200000
set_option maxRecDepth 100000
namespace Go.Proofs.YtokhnobcincfjaaGreatDoor
open Go.Lib (hid)
open Go.RowKit Go.Sort FR
variable {Q:Exit->Act->World->Prop}{P:Program}
structure Ed where
 to_:Int
 c:C
 mid:Int
def Ed.cells(e:Ed):List Value:=[.int .i64 e.to_,.int .i64 e.c.s,.int .i64 e.c.d,.int .i64 e.mid]
def dw(L:List Ed):List Value:=L.flatMap Ed.cells
theorem FH:dw []=[]:=rfl
theorem dA(e:Ed)(L:List Ed):dw (e::L)=e.cells++dw L:=by simp[dw]
theorem kW(L M:List Ed):dw (L++M)=dw L++dw M:=by simp[dw]
theorem bz:∀L:List Ed,(dw L).length=L.length*4
 |[]=>rfl
 |e::L=>by rw[dA,List.length_append,bz L,List.length_cons];simp[Ed.cells];omega
theorem qf:∀(L:List Ed)(k:Nat),(dw L).take (k*4)=dw (L.take k)
 |[],k=>by simp[dw]
 |e::L,0=>by simp[dw]
 |e::L,k+1=>by
  rw[dA,List.take_succ_cons,dA,show(k+1)*4=4+k*4 by omega,<-qf L k];rw[show 4+k*4=k*4+4 by omega];simp[Ed.cells]
theorem uS:∀(L:List Ed)(k:Nat),(dw L).drop (k*4)=dw (L.drop k)
 |[],k=>by simp[dw]
 |e::L,0=>by simp[dw]
 |e::L,k+1=>by
  rw[dA,List.drop_succ_cons,show(k+1)*4=4+k*4 by omega,<-uS L k];rw[List.drop_append,List.drop_eq_nil_of_le (by simp[Ed.cells])];simp[Ed.cells]
theorem rD(e:Ed):∀v∈e.cells,v.oneCell'=true:=by
 intro v g;simp[Ed.cells]at g;rcases g with rfl|rfl|rfl|rfl<;>rfl
theorem tZ(L:List Ed):∀v∈dw L,v.oneCell'=true:=by
 intro v g;simp only[dw,List.mem_flatMap]at g;obtain⟨e,_,k⟩:=g;exact rD e v k
def bU(w:World)(B:Nat)(v:Value)(L:List Ed):Prop:=w.ownsRow B 182 4 v L.length (dw L)
theorem bU.nil(w:World)(B:Nat):bU w B (.slice none 0 0) []:=⟨rfl,.inl ⟨rfl,rfl⟩⟩
theorem gX(w:World)(T sT ty z:TypeId)(S g B u I:Nat)(ad:Addr)(F O:Nat)(k:Array Value)(t:TypeId)(cs:List Value)(hu:P.underlying T=some (.slice z))(U:(P.info? z).map (·.size)=some S)(Q:w.heap[g]? =some (.cells k t (0,0)))(hn:cs.length=Nat.min F u*S)(L:∀j v,cs[j]? =some v->w.cell? (ad.add j)=some v)(J:B+cs.length<=k.size)(Z:∀v∈cs,v.oneCell'=true):(Builtin.copy_ #[T,sT] ty #[.slice (some ⟨g,B,none⟩) u I,.slice (some ad) F O]).run P w=.ok (goInt (Nat.min F u)) (w.setRow g (k.toList.take B++cs++k.toList.drop (B+cs.length)).toArray):=by
 have hl:=run_loadCells_list (P:=P) w ad cs L;have M:=run_storeCells_at P g B t cs 0 k w Q (by simpa using J) Z;cases R:P.info? z with
 |none=>simp[R]at U
 |some i=>
  have hi:i.size=S:=by simpa[R]using U
  simp only[Nat.add_zero]at M;simp[Builtin.copy_,run_underlying hu,Builtin.lenOf,Builtin.firstCells,sizeOf,typeInfo,R,hi,<-hn,hl,M]
theorem kL(w:World){k:Array Oper}{g:List Oper}{o:Oper}{a:Act}(z:o.guard=none)(d s:Operand)(t B:TypeId)(L:o.op=.call {callee:=.builtin .copy,args:=#[d,s],argTypes:=#[t,B]})(v u:Value)(J:a.eval d=v)(O:a.eval s=u){F:Value}{w':World}(M:(Builtin.copy_ #[t,B] o.type #[v,u]).run P w=.ok F w')(h:wpList P k Q g (a.put o.dst F) w'):wpList P k Q (o::g) a w:=
 wpList_plain z λ_ I=>by
  unfold Oper.wp execOp;simp only[L,resolve,invoke,builtin,Sem.run_bind,Sem.run_pure,Result.andThen_ok,List.map_toArray,List.map_cons,List.map_nil,J,O,M];exact I _ _ h
theorem mJ{g:Array Oper}{o:Oper}{a:Act}{w:World}{K:Act->World->Prop}{E:Prop}(L:o.guard=none)(d x:Operand)(z B:TypeId)(k:o.op=Op.call {callee:=Callee.builtin Builtin.copy,args:=#[d,x],argTypes:=#[z,B]})(v u:Value)(J:a.eval d=v)(R:a.eval x=u){F:Value}{w':World}(M:(Builtin.copy_ #[z,B] o.type #[v,u]).run P w=.ok F w')(I:K (a.put o.dst F) w'):if Region.wanted o (yielded g a.tmps)=true then Oper.wp P o a w K Q else E:=by
 have O:Region.wanted o (yielded g a.tmps)=true:=by simp[Region.wanted,L]
 rw[if_pos O];unfold Oper.wp;simp[execOp,k,resolve,invoke,builtin,J,R,M,Result.andThen];exact I
open Go.Lib
variable {w:World}
theorem Ii:(Tryz.prog.info? 182).map (λi=>(i.zero.map λz=>z.cells.size,i.size,i.bytes))=some (some 4,4,32):=by kernel_rfl
theorem gM:∃i z,Tryz.prog.info? 182=some i/\i.zero=some z/\i.size=4/\i.bytes=32/\z.cells.size=4:=by
 obtain⟨i,F,h⟩:=Option.map_eq_some_iff.1 Ii;simp only[Prod.mk.injEq]at h;obtain⟨g,k,u⟩:=h;obtain⟨z,I,B⟩:=Option.map_eq_some_iff.1 g;exact⟨i,z,F,I,k,u,B⟩
def CY(w:World)(B:Nat)(v:Value)(L:List Ed)(e:Ending)(w':World):Prop:=
 ∃v',e=.returned v'/\bU w' B v' L/\w.grownBy w' v.ownBlock/\(v'.ownBlock=v.ownBlock\/v'.ownBlock=some w.heap.size)
theorem jg{g:Nat}{x:Ed}(k:w.heap[g]? =some (.cells x.cells.toArray 182 (0,0))):∀j u,x.cells[j]? =some u->w.cell? ⟨g,j,none⟩=some u:=by
 intro j u h;simp[World.cell?,k,h]
theorem D8(w:World)(B:Nat)(A:Option Addr)(L:List Ed)(n g T:Nat)(x:Ed)(h:bU w B (.slice A n g) L)(hn:L.length=n)(hx:w.heap[T]? =some (.cells x.cells.toArray 182 (0,0)))(hB:B<=w.heap.size)(hl:n<=100000):Calls Tryz.prog 218 #[.slice A n g,.int .i64 (n:Nat),.slice (some ⟨T,0,none⟩) 1 1] w (CY w B (.slice A n g) (L++[x])):=by
 obtain⟨i0,z0,hi,P,Q,R,S⟩:=gM;have O:=jg hx;subst hn
 have k:∀z F,F.ownsRow B 182 4 z (L.length+1) (dw L++x.cells)->w.grownBy F (Value.slice A L.length g).ownBlock->(z.ownBlock=(Value.slice A L.length g).ownBlock\/z.ownBlock=some w.heap.size)->CY w B (.slice A L.length g) (L++[x]) (.returned z) F:=by
  intro z F I J h3;refine⟨z,rfl,?_,J,h3⟩;unfold bU;rw[List.length_append,kW,dA,FH,List.append_nil];exact I
 have k:=hid k;by_cases M:g=L.length
 .subst M
  go_enter Tryz.func218,Tryz.ntmps218;go_upto_region 7 with(fail);go_wp2_with (at_builtin;(refine wpList_append_own_at w rfl _ _ 119 rfl B 182 i0 z0 4 32 Tryz.underlying119 hi P Q R S (by decide) _ L.length (dw L) rfl h ⟨T,0,none⟩ 1 1 x.cells rfl rfl (λj u Z=>by rw[Addr.add_lit,Nat.zero_add];exact O j u Z) (rD x) (by unfold maxLen;omega) (by omega) hB ?_);intro z F I J _ U)
  go_ret;exact k.out _ _ I J U
 .go_enter Tryz.func218,Tryz.ntmps218
  go_upto_region 7 with(fail);go_wp2_with (at_builtin;(refine wpList_append_own_at w rfl _ _ 119 rfl B 182 i0 z0 4 32 Tryz.underlying119 hi P Q R S (by decide) _ L.length (dw L) rfl h ⟨T,0,none⟩ 1 1 x.cells rfl rfl (λj u Z=>by rw[Addr.add_lit,Nat.zero_add];exact O j u Z) (rD x) (by unfold maxLen;omega) (by omega) hB ?_);intro z F I J _ U)
  go_ret;exact k.out _ _ I J U
theorem qP{w w':World}{g:Nat}(h:w.grownBy w' (some g))(cs:Array Value):w.grownBy (w'.setRow g cs) (some g):=
 ⟨h.os,h.tape,h.output,by simpa[World.setRow]using h.size,λk z u=>(setRow_other w' g k cs (λe=>u (by rw[e]))).trans (h.block k z u)⟩
theorem Ju(g:List Value)(L:List Ed)(x:Ed)(i:Nat)(M:i<=L.length)(h:g.take (L.length*4)=dw L)(O:(L.length+1)*4<=g.length)(R:List Value):((g.take ((i+1)*4)++dw (L.drop i)++R).toArray.toList.take (i*4)++x.cells++(g.take ((i+1)*4)++dw (L.drop i)++R).toArray.toList.drop (i*4+x.cells.length)).toArray.toList.take ((L.length+1)*4)=dw (L.take i)++(x.cells++dw (L.drop i)):=by
 have F:(g.take ((i+1)*4)).length=(i+1)*4:=by rw[List.length_take];omega
 have I:(dw (L.drop i)).length=(L.length-i)*4:=by rw[bz,List.length_drop]
 have J:(dw (L.take i)).length=i*4:=by rw[bz,List.length_take];omega
 have k:x.cells.length=4:=rfl
 have u:(g.take ((i+1)*4)++dw (L.drop i)++R).take (i*4)=dw (L.take i):=by
  rw[List.append_assoc,List.take_append_of_le_length (by omega),List.take_take,Nat.min_eq_left (by omega),<-qf,<-h,List.take_take,Nat.min_eq_left (by omega)]
 have z:(g.take ((i+1)*4)++dw (L.drop i)++R).drop (i*4+4)=dw (L.drop i)++R:=by
  rw[List.append_assoc,List.drop_append,List.drop_eq_nil_of_le (by omega),F,show i*4+4-(i+1)*4=0 by omega];rfl
 simp only[k,u,z];have B:dw (L.take i)++x.cells++(dw (L.drop i)++R)=(dw (L.take i)++(x.cells++dw (L.drop i)))++R:=by simp
 rw[B];exact List.take_left' (by simp only[List.length_append,I,J,k];omega)
theorem Oz(w:World)(B g:Nat)(L:List Ed)(i n z Z:Nat)(x:Ed)(h:bU w B (.slice (some ⟨g,0,none⟩) n z) L)(hn:L.length=n)(hi:i<n)(am:n+1<=z)(hx:w.heap[Z]? =some (.cells x.cells.toArray 182 (0,0)))(aq:Z≠g)(hl:n<=100000):Calls Tryz.prog 218 #[.slice (some ⟨g,0,none⟩) n z,.int .i64 (i:Nat),.slice (some ⟨Z,0,none⟩) 1 1] w (CY w B (.slice (some ⟨g,0,none⟩) n z) (L.take i++x::L.drop i)):=by
 obtain⟨i0,z0,aS,bg,ac,ax,a4⟩:=gM;have a1:=jg hx;obtain⟨ap,h'⟩:=h;rcases h' with⟨h',_⟩|⟨g',a5,k,h',an,hg,bc,ay,R,J⟩
 .simp at h'
 simp only[Value.slice.injEq,Option.some.injEq,Addr.mk.injEq,and_true,true_and]at h';obtain⟨rfl,_,rfl⟩:=h';subst hn;have ar:(Tryz.prog.info? 182).map (·.size)=some 4:=by rw[aS];simp[ac]
 have ai:(dw (L.drop i)).length=(L.length-i)*4:=by rw[bz,List.length_drop]
 have ad:∀j v,j<L.length*4->(dw L)[j]? =some v->w.cell? ⟨g,j,none⟩=some v:=by
  intro j v hj hv;rw[<-J,List.getElem?_take,if_pos hj,Array.getElem?_toList]at hv;simp[World.cell?,hg,hv]
 have aE:k.size≠0:=by rw[R];omega
 have a0:∀lb cb,(callFunc 250 #[.slice (some ⟨Z,0,none⟩) 1 1,.slice (some ⟨g,(i+1)*4,none⟩) lb cb]).run Tryz.prog w=.ok (.value (.bool false)) w:=λlb cb=>by
  rw[run_callFunc_extern Tryz.func250 (by kernel_rfl) (by kernel_rfl) (by kernel_rfl) (e:=Extern.SlicesOverlaps.overlaps #[119,119] #[4]) (by kernel_rfl),
   Lib.run_overlaps_apart w 119 4 182 Tryz.underlying119 4 Tryz.sizeOf182 ⟨Z,0,none⟩ ⟨g,(i+1)*4,none⟩ 1 1 lb cb aq 182 182 4 k.size
    (by simp[World.shape?,hx,Ed.cells]) (by simp[World.shape?,hg]) aE (by simp[World.frozen?,hx]) (by simp[World.frozen?,hx])]
  rfl
 -- the first copy
 have T:(i+1)*4+(dw (L.drop i)).length<=k.size:=by rw[ai,R];omega
 have O:∀ty dc sc,(Builtin.copy_ #[119,119] ty #[.slice (some ⟨g,(i+1)*4,none⟩) (L.length-i) dc,.slice (some ⟨g,i*4,none⟩) (L.length+1-i) sc]).run Tryz.prog w.drew=
  .ok (goInt ((L.length-i:Nat):Int)) (w.drew.setRow g (k.toList.take ((i+1)*4)++dw (L.drop i)++k.toList.drop ((i+1)*4+(dw (L.drop i)).length)).toArray):=λty dc sc=>by
  have:=gX (P:=Tryz.prog) w.drew 119 119 ty 182 4 g ((i+1)*4) (L.length-i) dc ⟨g,i*4,none⟩ (L.length+1-i) sc k 182 (dw (L.drop i)) Tryz.underlying119 ar hg
   (by rw[ai];simp only[Nat.min_def];split<;>omega)
   (λj v hj=>by
    rw[Addr.add_lit];rw[<-uS,List.getElem?_drop]at hj;refine ad _ v ?_ hj;have:=(List.getElem?_eq_some_iff.1 hj).1;rwa[bz]at this)
   T (tZ _)
  rw[show Nat.min (L.length+1-i) (L.length-i)=L.length-i by simp only[Nat.min_def];split<;>omega]at this;exact this
 obtain⟨u,F⟩:∃c1,(k.toList.take ((i+1)*4)++dw (L.drop i)++k.toList.drop ((i+1)*4+(dw (L.drop i)).length)).toArray=c1:=⟨_,rfl⟩;rw[F]at O;have ac:u.size=k.size:=by rw[<-F];simp;omega
 obtain⟨U,ab⟩:∃U,w.drew.setRow g u=U:=⟨_,rfl⟩;rw[ab]at O;have ao:U.heap[g]? =some (.cells u 182 (0,0)):=by rw[<-ab];exact setRow_heap w.drew g _ _ _ _ hg
 have ag:w.grownBy U (some g):=by rw[<-ab];exact qP (w:=w) (w':=w.drew) ⟨rfl,rfl,rfl,Nat.le_refl _,λ_ _ _=>rfl⟩ _
 have a3:Z<w.heap.size:=(Array.getElem?_eq_some_iff.1 hx).1;have a2:U.heap[Z]? =some (.cells x.cells.toArray 182 (0,0)):=(ag.block Z a3 (by simpa using aq)).trans hx;have aw:=jg a2
 -- the second one
 have Q:∀ty dc,(Builtin.copy_ #[119,119] ty #[.slice (some ⟨g,i*4,none⟩) (L.length+1-i) dc,.slice (some ⟨Z,0,none⟩) 1 1]).run Tryz.prog U=
  .ok (goInt ((1:Nat):Int)) (U.setRow g (u.toList.take (i*4)++x.cells++u.toList.drop (i*4+x.cells.length)).toArray):=λty dc=>by
  have:=gX (P:=Tryz.prog) U 119 119 ty 182 4 g (i*4) (L.length+1-i) dc ⟨Z,0,none⟩ 1 1 u 182 x.cells Tryz.underlying119 ar ao
   (by simp only[Nat.min_def];split<;>simp[Ed.cells]<;>omega)
   (λj v hj=>by rw[Addr.add_lit,Nat.zero_add];exact aw j v hj)
   (by rw[ac,R];simp[Ed.cells];omega) (rD _)
  rw[show Nat.min 1 (L.length+1-i)=1 by simp only[Nat.min_def];split<;>omega]at this;exact this
 obtain⟨M,I⟩:∃c1,(u.toList.take (i*4)++x.cells++u.toList.drop (i*4+x.cells.length)).toArray=c1:=⟨_,rfl⟩;rw[I]at Q;have ax:M.size=k.size:=by rw[<-I,<-ac];simp[Ed.cells];omega
 have S:CY w B (.slice (some ⟨g,0,none⟩) L.length z) (L.take i++x::L.drop i) (.returned (.slice (some ⟨g,0,none⟩) (L.length+1) z)) (U.setRow g M):=by
  have al:(L.take i++x::L.drop i).length=L.length+1:=by simp;omega
  refine⟨_,rfl,⟨?_,.inr ⟨g,z,M,by rw[al],an,setRow_heap U g _ _ _ _ ao,by rw[al];exact am,ay,by rw[ax,R],?_⟩⟩,qP ag _,.inl rfl⟩
  .rw[bz]
  .rw[al,kW,dA,<-I,<-F]
   exact Ju k.toList L x i (by omega) J (by have:k.toList.length=k.size:=Array.length_toList;omega) _
 have S:=hid S;have be:IntKind.i64.wrap ((i:Int)+1)=(i:Int)+1:=by rw[IntKind.wrap_i64];omega
 have a4:¬((i:Int)=(L.length:Int)):=by omega
 have bd:((i:Int)+1).toNat=i+1:=by omega
 have a6:i<=L.length:=by omega
 have a7:i<=L.length+1:=by omega
 have a8:(0:Int)<=(i:Int)+1:=by omega
 have a9:¬(z=i+1):=by omega
 have bb:¬(z=i):=by omega
 have ba:(i:Int)<=(L.length:Int)+1:=by omega
 clear ad F I ai T J ap an R a1 aw;go_enter Tryz.func218,Tryz.ntmps218;go_wp2_with (simp only[a0])
 go_region_law (refine mJ rfl _ _ 119 119 rfl _ _ (by simp[Act.eval,Act.put]) (by simp[Act.eval,Act.put]) (O _ _ _) ?_);go_wp2_with (at_builtin;refine kL _ rfl _ _ 119 119 rfl _ _ rfl rfl (by first|exact Q _ _|(rw[ab];exact Q _ _)) ?_)
 go_ret;exact S.out
theorem KT(R:List Value)(L:List Ed)(x:Ed)(i:Nat)(F:i<=L.length)(h:R.take (i*4)=dw (L.take i))(I:(L.length+1)*4<=R.length):((R.take (i*4)++x.cells++R.drop (i*4+x.cells.length)).toArray.toList.take ((i+1)*4)++dw (L.drop i)++(R.take (i*4)++x.cells++R.drop (i*4+x.cells.length)).toArray.toList.drop ((i+1)*4+(dw (L.drop i)).length)).toArray.toList.take ((L.length+1)*4)=dw (L.take i)++(x.cells++dw (L.drop i)):=by
 have B:(dw (L.drop i)).length=(L.length-i)*4:=by rw[bz,List.length_drop]
 have g:(dw (L.take i)).length=i*4:=by rw[bz,List.length_take];omega
 have k:x.cells.length=4:=rfl;rw[h]
 have u:(dw (L.take i)++x.cells++R.drop (i*4+x.cells.length)).toArray.toList.take ((i+1)*4)=dw (L.take i)++x.cells:=
  List.take_left' (by simp only[List.length_append,g,k];omega)
 rw[u];generalize (dw (L.take i)++x.cells++R.drop (i*4+x.cells.length)).toArray.toList.drop ((i+1)*4+(dw (L.drop i)).length)=T;have z:dw (L.take i)++x.cells++dw (L.drop i)++T=(dw (L.take i)++(x.cells++dw (L.drop i)))++T:=by simp
 rw[z];exact List.take_left' (by simp only[List.length_append,B,g,k];omega)
theorem oC{w w':World}{g H:Nat}(h:w.grownBy w' (some g))(B:w.heap.size<=H)(cs:Array Value):w.grownBy (w'.setRow H cs) (some g):=
 ⟨h.os,h.tape,h.output,by simpa[World.setRow]using h.size,λk u z=>(setRow_other w' H k cs (by omega)).trans (h.block k u z)⟩
theorem Oy(w:World)(B g:Nat)(L:List Ed)(i n u xb:Nat)(x:Ed)(h:bU w B (.slice (some ⟨g,0,none⟩) n u) L)(hn:L.length=n)(hi:i<n)(aw:u<n+1)(hx:w.heap[xb]? =some (.cells x.cells.toArray 182 (0,0)))(hB:B<=w.heap.size)(hl:n<=100000):Calls Tryz.prog 218 #[.slice (some ⟨g,0,none⟩) n u,.int .i64 (i:Nat),.slice (some ⟨xb,0,none⟩) 1 1] w (CY w B (.slice (some ⟨g,0,none⟩) n u) (L.take i++x::L.drop i)):=by
 obtain⟨i0,z0,a6,bk,bb,bc,bm⟩:=gM;have bh:=jg hx;obtain⟨a8,h'⟩:=h;rcases h' with⟨h',_⟩|⟨g',bo,br,h',bd,hg,b4,b2,be,T⟩
 .simp at h'
 simp only[Value.slice.injEq,Option.some.injEq,Addr.mk.injEq,and_true,true_and]at h';obtain⟨rfl,_,rfl⟩:=h';subst hn;have a9:(Tryz.prog.info? 182).map (·.size)=some 4:=by rw[a6];simp[bb]
 have ag:(dw (L.drop i)).length=(L.length-i)*4:=by rw[bz,List.length_drop]
 have al:(dw (L.take i)).length=i*4:=by rw[bz,List.length_take];omega
 have bg:g<w.heap.size:=(Array.getElem?_eq_some_iff.1 hg).1;have bj:xb<w.heap.size:=(Array.getElem?_eq_some_iff.1 hx).1
 have R:∀j v,j<L.length*4->(dw L)[j]? =some v->w.cell? ⟨g,j,none⟩=some v:=by
  intro j v J hv;rw[<-T,List.getElem?_take,if_pos J,Array.getElem?_toList]at hv;simp[World.cell?,hg,hv]
 have a7:(L.length:Int)+1-(i:Int)=((L.length+1-i:Nat):Int):=by omega
 have aq:i+(L.length+1-i)=L.length+1:=by omega
 have ap:(Builtin.firstCells i0.size i (.slice (some ⟨g,0,none⟩) i u)).run Tryz.prog w.drew=.ok (dw (L.take i)).toArray w.drew:=by
  rw[bb]
  exact run_firstCells_some w.drew 4 i ⟨g,0,none⟩ i u (dw (L.take i)) al (λj v J=>by
   rw[Addr.add_lit,Nat.zero_add];have b3:=(List.getElem?_eq_some_iff.1 J).1;rw[<-qf,List.getElem?_take]at J;split at J
   .exact R j v (by omega) J
   .cases J)
 have ai:∀U,(Builtin.append_ #[119,3] U #[.slice (some ⟨g,0,none⟩) i u,.int .i64 ((L.length:Int)+1-(i:Int))]).run Tryz.prog w=
  .ok (.slice (some ⟨w.heap.size,0,none⟩) (L.length+1) (grownCap w (L.length+1) u 182)) (w.drew.alloc (.cells ((dw (L.take i)).toArray++Builtin.zeroCells z0.cells (L.length+1-i)++Builtin.zeroCells z0.cells (grownCap w (L.length+1) u 182-(L.length+1))) 182)):=λU=>by
  have h:=Lib.run_append_grow_zeros w 119 3 U 182 i0 _ .i64 .i64 Tryz.underlying119 Tryz.underlying3 a6 bk (some ⟨g,0,none⟩) i u (dw (L.take i)) ap (L.length+1-i) (by omega) (by omega) (by omega) (by omega) (by rw[bc];omega) (by rw[bc,aq];exact growslice_fits aw (by omega));rw[aq]at h;rw[a7];exact h
 have ay:=grownCap_ge w (L.length+1) u 182;have ax:=grownCap_le_maxLen w (L.length+1) u 182 (by unfold maxLen;omega);obtain⟨G,hG⟩:∃G,grownCap w (L.length+1) u 182=G:=⟨_,rfl⟩;rw[hG]at ai ay ax;obtain⟨z,I⟩:∃z:Array Value,(dw (L.take i)).toArray++Builtin.zeroCells z0.cells (L.length+1-i)++Builtin.zeroCells z0.cells (G-(L.length+1))=z:=⟨_,rfl⟩;rw[I]at ai
 have aS:z.size=G*4:=by
  rw[<-I];simp only[Array.size_append,List.size_toArray,size_zeroCells,bm,al];omega
 have a0:z.toList.take (i*4)=dw (L.take i):=by
  rw[<-I];simp only[Array.toList_append,List.append_assoc];exact List.take_left' al
 obtain⟨H,hH⟩:∃H,w.heap.size=H:=⟨_,rfl⟩;obtain⟨M,ac⟩:∃M,w.drew.alloc (.cells z 182)=M:=⟨_,rfl⟩;have a2:M.heap[H]? =some (.cells z 182 (0,0)):=by rw[<-ac,<-hH];exact heap_alloc_new w.drew _
 have a4:w.grownBy M (some g):=by rw[<-ac];exact⟨rfl,rfl,rfl,by simp,λk hk _=>heap_alloc_old w.drew _ hk⟩
 have a1:Below w.heap.size w M:=by rw[<-ac];exact((Below.refl _ _).drew).alloc (Nat.le_refl _) _
 rw[ac,hH]at ai;have bi:M.heap[xb]? =some (.cells x.cells.toArray 182 (0,0)):=(a1.block xb bj).trans hx;have ba:=jg bi
 have Q:∀U dc,(Builtin.copy_ #[119,119] U #[.slice (some ⟨H,i*4,none⟩) (L.length+1-i) dc,.slice (some ⟨xb,0,none⟩) 1 1]).run Tryz.prog M=
  .ok (goInt ((1:Nat):Int)) (M.setRow H (z.toList.take (i*4)++x.cells++z.toList.drop (i*4+x.cells.length)).toArray):=λU dc=>by
  have:=gX (P:=Tryz.prog) M 119 119 U 182 4 H (i*4) (L.length+1-i) dc ⟨xb,0,none⟩ 1 1 z 182 x.cells Tryz.underlying119 a9 a2
   (by simp only[Nat.min_def];split<;>simp[Ed.cells]<;>omega)
   (λj v J=>by rw[Addr.add_lit,Nat.zero_add];exact ba j v J)
   (by rw[aS];simp[Ed.cells];omega) (rD _)
  rw[show Nat.min 1 (L.length+1-i)=1 by simp only[Nat.min_def];split<;>omega]at this;exact this
 obtain⟨R1,Z⟩:∃c1,(z.toList.take (i*4)++x.cells++z.toList.drop (i*4+x.cells.length)).toArray=c1:=⟨_,rfl⟩;rw[Z]at Q;have am:R1.size=G*4:=by rw[<-Z,<-aS];simp[Ed.cells];omega
 obtain⟨O,ad⟩:∃O,M.setRow H R1=O:=⟨_,rfl⟩;have a3:O.heap[H]? =some (.cells R1 182 (0,0)):=by rw[<-ad];exact setRow_heap M H _ _ _ _ a2
 have F:w.grownBy O (some g):=by rw[<-ad];exact oC a4 (by omega) _
 have ao:∀j v,w.cell? ⟨g,j,none⟩=some v->O.cell? ⟨g,j,none⟩=some v:=λj v hv=>by
  have e1:O.heap[g]? =w.heap[g]?:=by rw[<-ad];exact(setRow_other M H g _ (by omega)).trans (a1.block g bg)
  exact(World.cell?_of_block (a:=⟨g,j,none⟩) e1).trans hv
 rw[ad]at Q
 have an:∀U dc sc,(Builtin.copy_ #[119,119] U #[.slice (some ⟨H,(i+1)*4,none⟩) (L.length-i) dc,.slice (some ⟨g,i*4,none⟩) (L.length-i) sc]).run Tryz.prog O.drew=
  .ok (goInt ((L.length-i:Nat):Int)) (O.drew.setRow H (R1.toList.take ((i+1)*4)++dw (L.drop i)++R1.toList.drop ((i+1)*4+(dw (L.drop i)).length)).toArray):=λU dc sc=>by
  have:=gX (P:=Tryz.prog) O.drew 119 119 U 182 4 H ((i+1)*4) (L.length-i) dc ⟨g,i*4,none⟩ (L.length-i) sc R1 182 (dw (L.drop i)) Tryz.underlying119 a9 a3
   (by rw[ag];simp only[Nat.min_def];split<;>omega)
   (λj v J=>by
    rw[Addr.add_lit];rw[<-uS,List.getElem?_drop]at J;refine ao _ v (R _ v ?_ J);have:=(List.getElem?_eq_some_iff.1 J).1;rwa[bz]at this)
   (by rw[ag,am];omega) (tZ _)
  rw[show Nat.min (L.length-i) (L.length-i)=L.length-i by simp only[Nat.min_def];split<;>omega]at this;exact this
 obtain⟨R2,ab⟩:∃c1,(R1.toList.take ((i+1)*4)++dw (L.drop i)++R1.toList.drop ((i+1)*4+(dw (L.drop i)).length)).toArray=c1:=⟨_,rfl⟩;rw[ab]at an;have aE:R2.size=G*4:=by rw[<-ab,<-am];simp only[List.size_toArray,List.length_append,List.length_take,List.length_drop,Array.length_toList,ag];omega
 have S:CY w B (.slice (some ⟨g,0,none⟩) L.length u) (L.take i++x::L.drop i) (.returned (.slice (some ⟨H,0,none⟩) (L.length+1) G)) (O.drew.setRow H R2):=by
  have ar:(L.take i++x::L.drop i).length=L.length+1:=by simp;omega
  have a5:w.grownBy O.drew (some g):=⟨F.os,F.tape,F.output,F.size,F.block⟩;refine⟨_,rfl,⟨?_,.inr ⟨H,G,R2,by rw[ar],by omega,setRow_heap O.drew H _ _ _ _ a3,by rw[ar];exact ay,ax,aE,?_⟩⟩,oC a5 (by omega) _,.inr (by rw[hH];rfl)⟩
  .rw[bz]
  .rw[ar,kW,dA,<-ab,<-Z]
   exact KT z.toList L x i (by omega) a0 (by have:z.toList.length=z.size:=Array.length_toList;omega)
 have S:=hid S;have b6:IntKind.i64.wrap ((i:Int)+1)=(i:Int)+1:=by rw[IntKind.wrap_i64];omega
 have b7:¬((i:Int)=(L.length:Int)):=by omega
 have b8:(u:Int)<(L.length:Int)+1:=by omega
 have b5:((i:Int)+1).toNat=i+1:=by omega
 have bp:i<=L.length:=by omega
 have bq:i<=L.length+1:=by omega
 have bt:(0:Int)<=(i:Int)+1:=by omega
 have bv:¬(G=i+1):=by omega
 have bx:¬(G=i):=by omega
 have b0:¬(u=i):=by omega
 have bw:(i:Int)<=(L.length:Int):=by omega
 have b1:i<=u:=by omega
 clear R I Z ab ag al T a8 bd be bh ba aq a7 ap a0 ao;go_enter Tryz.func218,Tryz.ntmps218
 go_wp2_with (first
  |(at_builtin;refine Lib.wpList_append_run _ rfl _ _ _ _ rfl _ _ rfl rfl _ _ (ai _) ?_)
  |(at_builtin;refine kL _ rfl _ _ 119 119 rfl _ _ rfl rfl (Q _ _) ?_))
 go_region_law (refine mJ rfl _ _ 119 119 rfl _ _ (by simp[Act.eval,Act.put]) (by simp[Act.eval,Act.put]) (an _ _ _) ?_);go_wp2;go_ret;exact S.out
theorem FW(w:World)(B:Nat)(v:Value)(L:List Ed)(i u:Nat)(x:Ed)(h:bU w B v L)(S:i<=L.length)(I:w.heap[u]? =some (.cells x.cells.toArray 182 (0,0)))(M:v.ownBlock≠some u)(J:B<=w.heap.size)(F:L.length<=100000):Calls Tryz.prog 218 #[v,.int .i64 (i:Nat),.slice (some ⟨u,0,none⟩) 1 1] w (CY w B v (L.take i++x::L.drop i)):=by
 have P:=h;rcases P.2 with⟨rfl,Q⟩|⟨g,k,O,rfl,_⟩
 .obtain rfl:i=L.length:=by omega
  rw[List.take_length,List.drop_length];have z:L.length=0:=Q;have:=D8 w B none L L.length 0 u x (by rw[z];exact h) rfl I J F;rw[z]at this⊢;exact this
 .by_cases e:i=L.length
  .subst e
   rw[List.take_length,List.drop_length];exact D8 w B _ L L.length k u x h rfl I J F
  .by_cases R:L.length+1<=k
   .exact Oz w B g L i L.length k u x h rfl (by omega) R I (λe=>M (by rw[e];rfl)) F
   .exact Oy w B g L i L.length k u x h rfl (by omega) (by omega) I J F
end Go.Proofs.YtokhnobcincfjaaGreatDoor
namespace Go.Proofs.YtokhnobcincfjaaGreatDoor
open Go.Lib (hid)
open Go.RowKit Go.Sort FR
variable {e x:Ed}{g:G}{E:Int->Option (List Ed)}{V:Int->Option Value}{L:List Ed}{S:List Nat}{B b c i j k mb:Nat}{Done:Nat->Nat->Prop}{A:Option Addr}{v:Value}{w w':World}
def bQ(w:World)(A:Option Addr)(L:List Ed):Prop:=0<L.length->∃g,A=some ⟨g,0,none⟩/\g<w.heap.size/\∀j v,(dw L)[j]? =some v->w.cell? ⟨g,j,none⟩=some v
theorem bU.Ag(h:bU w B v L):∃A u,v=.slice A L.length u/\bQ w A L:=by
 rcases h.2 with⟨rfl,M⟩|⟨g,u,J,rfl,_,I,_,_,_,z⟩
 .exact⟨none,0,by rw[M],λh=>by omega⟩
 .refine⟨_,u,rfl,λ_=>⟨g,rfl,(Array.getElem?_eq_some_iff.1 I).1,λj v F=>?_⟩⟩
  rw[<-z,List.getElem?_take]at F;split at F
  .rw[Array.getElem?_toList]at F
   simp[World.cell?,I,F]
  .cases F
theorem bQ.below(h:bQ w A L)(u:Below w.heap.size w w'):bQ w' A L:=λJ=>by
 obtain⟨g,z,F,I⟩:=h J;exact⟨g,z,Nat.lt_of_lt_of_le F u.size,λj v M=>ae u (I j v M)⟩
theorem tY:∀(L:List Ed)(j:Nat)(e:Ed),L[j]? =some e->(dw L)[j*4]? =some (.int .i64 e.to_)/\(dw L)[j*4+1]? =some (.int .i64 e.c.s)/\(dw L)[j*4+2]? =some (.int .i64 e.c.d)/\(dw L)[j*4+3]? =some (.int .i64 e.mid)
 |[],j,e,h=>by simp at h
 |x::L,0,e,h=>by
  simp at h;subst h;rw[dA];simp[Ed.cells]
 |x::L,j+1,e,h=>by
  simp at h;have:=tY L j e h;rw[dA];rw[show(j+1)*4=4+j*4 by omega];have u:x.cells.length=4:=rfl;refine⟨?_,?_,?_,?_⟩<;>rw[List.getElem?_append_right (by omega),u]
  .rw[show 4+j*4-4=j*4 by omega];exact this.1
  .rw[show 4+j*4+1-4=j*4+1 by omega];exact this.2.1
  .rw[show 4+j*4+2-4=j*4+2 by omega];exact this.2.2.1
  .rw[show 4+j*4+3-4=j*4+3 by omega];exact this.2.2.2
theorem bQ.get(h:bQ w A L)(z:L[j]? =some e):∃g,A=some ⟨g,0,none⟩/\w.cell? ⟨g,j*4,none⟩=some (.int .i64 e.to_)/\w.cell? ⟨g,j*4+1,none⟩=some (.int .i64 e.c.s)/\w.cell? ⟨g,j*4+2,none⟩=some (.int .i64 e.c.d)/\w.cell? ⟨g,j*4+3,none⟩=some (.int .i64 e.mid):=by
 obtain⟨g,F,I,u⟩:=h (by have:=(List.getElem?_eq_some_iff.1 z).1;omega);obtain⟨a,b,c,d⟩:=tY L j e z;exact⟨g,F,u _ _ a,u _ _ b,u _ _ c,u _ _ d⟩
def sJ(L:List Ed):Prop:=∀(i j:Nat)(a b:Ed),i<j->L[i]? =some a->L[j]? =some b->a.to_<b.to_
def yO(w:World)(L:List Ed)(t:Int)(r:Ending)(w':World):Prop:=∃(i:Nat)(fd:Bool),r=.returned (.tuple #[.int .i64 (i:Nat),.bool fd])/\i<=L.length/\(∀j e,L[j]? =some e->(j<i↔e.to_<t))/\(fd=true↔∃e,L[i]? =some e/\e.to_=t)/\Below w.heap.size w w'
theorem Qr(w:World)(e:Ed)(t:Int)(u:aV e.to_)(z:aV t):Calls Tryz.prog 217 #[.agg #[.int .i64 e.to_,.int .i64 e.c.s,.int .i64 e.c.d,.int .i64 e.mid],.int .i64 t] w λr F=>r=.returned (.int .i64 (e.to_-t))/\Below w.heap.size w F:=by
 obtain⟨x,⟨s,d⟩,m⟩:=e;simp only at u⊢;unfold aV at u z;have I:IntKind.i64.wrap (x-t)=x-t:=IntWalk.i64_in _ (by omega);go_enter Tryz.func217,Tryz.ntmps217;go_wp2;go_ret;exact⟨rfl,by(repeat' (first|exact Below.refl _ _|assumption|apply aj|apply ah|apply af|(refine aa ?_ (by assumption))))⟩
theorem jy{g n m k:Nat}(h:A=some ⟨g,0,none⟩)(z:k<n)(u:World):(Instr.indexAt 119 (.slice A n m) (.int .i64 (k:Nat))).run Tryz.prog u=.ok (.pointer (some ⟨g,k*4,none⟩)) u:=by
 subst h;have q:(k:Int)<(n:Int):=by omega
 go_simp
theorem NN(w:World)(A:Option Addr)(n ac:Nat)(L:List Ed)(t:Int)(h:bQ w A L)(hn:L.length=n)(hs:sJ L)(hb:∀e∈L,aV e.to_)(ht:aV t)(hl:n<=100000):Calls Tryz.prog 216 #[.slice A n ac,.int .i64 t,.func (.func 217) #[] #[]] w (yO w L t):=by
 have hs:=hid hs;have hb:=hid hb;have Hn:=hid hn;have h:=hid h;clear hn;go_enter Tryz.func216,Tryz.ntmps216;go_wp2_with fail;go_loopw [9,10] (λiv jv wr=>∃i j:Nat,iv=.int .i64 i/\jv=.int .i64 j/\i<=j/\j<=n/\(∀k e,L[k]? =some e->k<i->e.to_<t)/\(∀k e,L[k]? =some e->j<=k->t<=e.to_)/\Below w.heap.size w wr) (λiv jv _=>(intOf jv).toNat-(intOf iv).toNat)
 case atStart=>exact⟨0,n,rfl,rfl,by omega,by omega,λk e _ h=>by omega,λk e hk hj=>by have:=(List.getElem?_eq_some_iff.1 hk).1;have:=Hn.out;omega,Below.refl _ _⟩
 case round=>
  obtain⟨i,j,rfl,rfl,aw,ax,h1,h2,HB⟩:=hrel;have h1:=hid h1;have h2:=hid h2;by_cases ay:i<j
  .have aq:IntKind.i64.wrap ((i:Int)+(j:Int))=(i:Int)+(j:Int):=IntWalk.i64_in _ (by omega)
   go_upto_region 5 with(fail);have am:((i:Int)+(j:Int))/2=(((i+j)/2:Nat):Int):=by omega
   have ao:i<=(i+j)/2:=by omega
   have ap:(i+j)/2<j:=by omega
   rw[am];obtain⟨m,hm⟩:∃m,(i+j)/2=m:=⟨_,rfl⟩;rw[hm]at ao ap⊢;clear hm am aq;have an:m<n:=by omega
   obtain⟨e,u⟩:∃e,L[m]? =some e:=⟨L[m]'(by rw[Hn.out];exact an),List.getElem?_eq_getElem _⟩;have He:=hid u;obtain⟨g,hA,a1,a2,a3,a4⟩:=(h.out.below HB).get u;have ag:=λwx=>jy (m:=ac) hA an wx;have O:=hid (Qr wr e t (hb.out e (List.mem_of_getElem? u)) ht);have R:aV e.to_:=hb.out e (List.mem_of_getElem? u)
   have I:e.to_<t->∀k x,L[k]? =some x->k<m+1->x.to_<t:=λhl k x M hk=>by
    by_cases e1:k=m
    .subst e1;rw[M]at u;injection u with u;rw[u];exact hl
    .exact Int.lt_trans (hs.out k m x e (by omega) M u) hl
   have J:t<=e.to_->∀k x,L[k]? =some x->m<=k->t<=x.to_:=λhl k x M hk=>by
    by_cases e1:k=m
    .subst e1;rw[M]at u;injection u with u;rw[u];exact hl
    .have:=hs.out m k e x (by omega) u M
     omega
   have I:=hid I;have J:=hid J;obtain⟨x,M⟩:∃x,e.to_=x:=⟨_,rfl⟩;rw[M]at a1 O R I J;obtain⟨xs,Z⟩:∃x,e.c.s=x:=⟨_,rfl⟩;obtain⟨xd,T⟩:∃x,e.c.d=x:=⟨_,rfl⟩;obtain⟨xm,U⟩:∃x,e.mid=x:=⟨_,rfl⟩;rw[Z]at a2 O;rw[T]at a3 O;rw[U]at a4 O;clear hA u M Z T U;go_wp2_with fail;(with_reducible refine O.out.mono ?_);rintro r w2 ⟨rfl,S⟩;have B:=aa HB S;clear a1 a2 a3 a4 O ag;unfold aV at R;by_cases ar:x<t
   .have hd:decide (x-t<0)=true:=by simp;omega
    have I:=hid (I.out ar);have aE:IntKind.i64.wrap ((m:Int)+1)=((m+1:Nat):Int):=by rw[IntWalk.i64_in _ (by omega)];omega
    clear J;go_wp2;go_roundw
    case rel=>exact⟨m+1,j,rfl,rfl,by omega,by omega,I.out,h2.out,B⟩
    case measure=>simp[intOf];omega
   .have hd:decide (x-t<0)=false:=by simp;omega
    have J:=hid (J.out (by omega));clear I;go_wp2;go_roundw
    case rel=>exact⟨i,m,rfl,rfl,by omega,by omega,h1.out,J.out,B⟩
    case measure=>simp[intOf];omega
  .obtain rfl:i=j:=by omega
   have hcut:∀k x,L[k]? =some x->(k<i↔x.to_<t):=λk x M=>by
    constructor
    .exactλhk=>h1.out k x M hk
    .intro hl
     by_cases hk:k<i
     .exact hk
     .have:=h2.out k x M (by omega)
      omega
   have ab:=hid hcut;clear hcut;clear h1 h2;by_cases R:i<n
   .obtain⟨e,u⟩:∃e,L[i]? =some e:=⟨L[i]'(by rw[Hn.out];exact R),List.getElem?_eq_getElem _⟩
    obtain⟨g,hA,a1,a2,a3,a4⟩:=(h.out.below HB).get u;have ag:=λwx=>jy (m:=ac) hA R wx;have O:=hid (Qr wr e t (hb.out e (List.mem_of_getElem? u)) ht);have al:aV e.to_:=hb.out e (List.mem_of_getElem? u);obtain⟨fd,ad⟩:∃fd,(e.to_-t==0)=fd:=⟨_,rfl⟩
    have F:fd=true↔∃x,L[i]? =some x/\x.to_=t:=by
     rw[<-ad,u];simp;omega
    have P:=hid F;clear F;have ai:=hid ad;obtain⟨x,M⟩:∃x,e.to_=x:=⟨_,rfl⟩;rw[M]at a1 O ai;obtain⟨xs,Z⟩:∃x,e.c.s=x:=⟨_,rfl⟩;obtain⟨xd,T⟩:∃x,e.c.d=x:=⟨_,rfl⟩;obtain⟨xm,U⟩:∃x,e.mid=x:=⟨_,rfl⟩;rw[Z]at a2 O;rw[T]at a3 O;rw[U]at a4 O;have q:(i:Int)<(n:Int):=by omega
    clear hA u M Z T U ad al;go_wp2_with fail;(with_reducible refine O.out.mono ?_);rintro r w2 ⟨rfl,S⟩;have B:=aa HB S;clear a1 a2 a3 a4 O ag S;have z:yO w L t (.returned (.tuple #[.int .i64 (i:Nat),.bool fd])) w2:=⟨i,fd,rfl,by rw[Hn.out];omega,ab.out,P.out,B⟩;rw[<-ai.out]at z;have Q:=hid z;clear z;go_wp2;go_ret2;exact Q.out
   .obtain rfl:i=n:=by omega
    have F:false=true↔∃x,L[i]? =some x/\x.to_=t:=by
     rw[List.getElem?_eq_none (by rw[Hn.out];omega)];simp
    have P:=hid F;clear F;have z:yO w L t (.returned (.tuple #[.int .i64 (i:Nat),.bool false])) wr:=⟨i,false,rfl,by rw[Hn.out];omega,ab.out,P.out,HB⟩;have Q:=hid z;clear z;go_wp2;go_ret2;exact Q.out
def dV(L:List Ed)(t:Int):Nat:=(L.filter λe=>decide (e.to_<t)).length
def fV(L:List Ed)(t:Int):Bool:=L.any λe=>e.to_==t
def ll(L:List Ed)(x:Ed):List Ed:=L.take (dV L x.to_)++x::L.drop (dV L x.to_)
theorem Ec{t:Int}(O:i<=L.length)(h:∀j e,L[j]? =some e->(j<i↔e.to_<t)):i=dV L t:=by
 unfold dV;have F:L=L.take i++L.drop i:=(List.take_append_drop i L).symm;rw[F,List.filter_append,List.length_append]
 have I:(L.take i).filter (λe=>decide (e.to_<t))=L.take i:=by
  rw[List.filter_eq_self];intro e z;obtain⟨j,u⟩:=List.getElem?_of_mem z;rw[List.getElem?_take]at u;split at u
  .exact decide_eq_true ((h j e u).1 (by assumption))
  .cases u
 have J:(L.drop i).filter (λe=>decide (e.to_<t))=[]:=by
  rw[List.filter_eq_nil_iff];intro e z;obtain⟨j,u⟩:=List.getElem?_of_mem z;rw[List.getElem?_drop]at u;have:=(h (i+j) e u);simp;have:¬e.to_<t:=λM=>by have:=this.2 M;omega
  omega
 rw[I,J,List.length_take];simp;omega
theorem qC(I:sJ L)(t:Int):dV L t<=L.length/\∀j e,L[j]? =some e->(j<dV L t↔e.to_<t):=by
 induction L with
 |nil=>exact⟨by simp[dV],λj e h=>by simp at h⟩
 |cons x L U=>
  have J:sJ L:=λi j a b R P Q=>I (i+1) (j+1) a b (by omega) (by simpa using P) (by simpa using Q);obtain⟨Z,O⟩:=U J;by_cases M:x.to_<t
  .have e:dV (x::L) t=dV L t+1:=by simp[dV,M]
   rw[e];refine⟨by simp;omega,λj z u=>?_⟩;cases j with
   |zero=>simp at u;subst u;simp[M]
   |succ j=>simp at u;rw[<-O j z u];omega
  .have k:dV L t=0:=by
    unfold dV;rw[List.length_eq_zero_iff,List.filter_eq_nil_iff];intro z F;obtain⟨j,T⟩:=List.getElem?_of_mem F;have:=I 0 (j+1) x z (by omega) rfl (by simpa using T);simp;omega
   have e:dV (x::L) t=0:=by
    have:dV (x::L) t=dV L t:=by simp[dV,M]
    omega
   rw[e];refine⟨by omega,λj z u=>?_⟩;constructor
   .omega
   .intro g
    cases j with
    |zero=>simp at u;subst u;omega
    |succ j=>
     have:=I 0 (j+1) x z (by omega) rfl u;omega
theorem jI{t:Int}:fV L t=true↔∃e∈L,e.to_=t:=by simp[fV,List.any_eq_true]
theorem o7(I:sJ L)(t:Int):(∃e,L[dV L t]? =some e/\e.to_=t)↔fV L t=true:=by
 obtain⟨Q,z⟩:=qC I t;rw[jI];constructor
 .rintro⟨e,a,b⟩;exact⟨e,List.mem_of_getElem? a,b⟩
 .rintro⟨e,O,rfl⟩
  obtain⟨j,u⟩:=List.getElem?_of_mem O;have F:¬j<dV L e.to_:=λh=>by have:=(z j e u).1 h;omega
  have P:=(List.getElem?_eq_some_iff.1 u).1;by_cases M:j=dV L e.to_
  .subst M;exact⟨e,u,rfl⟩
  .exfalso
   obtain⟨x,J⟩:∃x,L[dV L e.to_]? =some x:=⟨L[dV L e.to_]'(by omega),List.getElem?_eq_getElem _⟩;have a:=I _ _ _ _ (show dV L e.to_<j by omega) J u;have:=(z _ x J).2 a;omega
theorem mE:e∈ll L x↔e=x\/e∈L:=by
 unfold ll;rw[List.mem_append,List.mem_cons];have:e∈L↔e∈L.take (dV L x.to_)\/e∈L.drop (dV L x.to_):=by rw[<-List.mem_append,List.take_append_drop]
 rw[this];constructor
 .rintro(h|h|h)
  .exact .inr (.inl h)
  .exact .inl h
  .exact .inr (.inr h)
 .rintro(h|h|h)
  .exact .inr (.inl h)
  .exact .inl h
  .exact .inr (.inr h)
theorem mH(I:sJ L)(hn:fV L x.to_=false):sJ (ll L x):=by
 obtain⟨g,J⟩:=qC I x.to_
 have O:∀e∈L,e.to_≠x.to_:=λe S h=>by
  have:=jI.2 ⟨e,S,h⟩;rw[hn]at this;cases this
 have R:(L.take (dV L x.to_)).length=dV L x.to_:=by rw[List.length_take];omega
 obtain⟨m,T⟩:∃m,dV L x.to_=m:=⟨_,rfl⟩;rw[T]at g J R
 have u:∀i a,(ll L x)[i]? =some a->(i<m/\L[i]? =some a)\/(i=m/\a=x)\/(m<i/\L[i-1]? =some a):=by
  intro i a h;unfold ll at h;rw[T]at h;by_cases Q:i<m
  .rw[List.getElem?_append_left (by omega),List.getElem?_take,if_pos Q]at h
   exact .inl ⟨Q,h⟩
  .rw[List.getElem?_append_right (by omega),R]at h
   by_cases Z:i=m
   .subst Z
    simp at h;exact .inr (.inl ⟨rfl,h.symm⟩)
   .obtain⟨j,rfl⟩:∃j,i=m+1+j:=⟨i-m-1,by omega⟩
    rw[show m+1+j-m=j+1 by omega,List.getElem?_cons_succ,List.getElem?_drop]at h;exact .inr (.inr ⟨by omega,by rw[show m+1+j-1=m+j by omega];exact h⟩)
 intro i j a b M k B;rcases u i a k with⟨P,F⟩|⟨P,F⟩|⟨P,F⟩<;>rcases u j b B with⟨U,z⟩|⟨U,z⟩|⟨U,z⟩
 .exact I i j a b M F z
 .rw[z];exact(J i a F).1 P
 .exact I i (j-1) a b (by omega) F z
 .omega
 .omega
 .rw[F]
  have:=O b (List.mem_of_getElem? z);have h3:¬b.to_<x.to_:=λh=>by have:=(J (j-1) b z).2 h;omega
  omega
 .omega
 .omega
 .exact I (i-1) (j-1) a b (by omega) F z
theorem Kk(w:World)(A:Option Addr)(n u:Nat)(L:List Ed)(t:Int)(h:bQ w A L)(U:L.length=n)(F:sJ L)(R:∀e∈L,aV e.to_)(Z:aV t)(T:n<=100000):Calls Tryz.prog 216 #[.slice A n u,.int .i64 t,.func (.func 217) #[] #[]] w λr I=>r=.returned (.tuple #[.int .i64 (dV L t:Nat),.bool (fV L t)])/\Below w.heap.size w I:=by
 refine(NN w A n u L t h U F R Z T).mono ?_;rintro r I ⟨i,M,rfl,O,P,z,Q⟩;have e:=Ec O P;subst e;rw[o7 F]at z;have J:M=fV L t:=Bool.eq_iff_iff.2 z;rw[J];exact⟨rfl,Q⟩
abbrev iK:Int->Value:=λz=>Value.int .i64 z
def dL(w:World)(S:List Nat)(mb:Nat)(E:Int->Option (List Ed)):Prop:=
 ∃V N,MapAt iK w mb V N/\(∀k,E k=none↔V k=none)/\(∀k u L,V k=some u->E k=some L->bU w 0 u L)/\(∀k u q,V k=some u->u.ownBlock=some q->q∈S)/\mb∉S/\
  (∀k k' u u' q,V k=some u->V k'=some u'->u.ownBlock=some q->u'.ownBlock=some q->k=k')/\∀s,s∈S->s<w.heap.size
theorem bU.lt(h:bU w B v L){q:Nat}(u:v.ownBlock=some q):q<w.heap.size:=(World.ownsRow.lt h q u).2
theorem bU.kept{T:List Nat}(h:bU w B v L)(O:Kept T w w')(J:∀q,v.ownBlock=some q->q∉T):bU w' B v L:=by
 refine⟨h.1,?_⟩;rcases h.2 with P|⟨g,z,F,rfl,M,I,u⟩
 .exact .inl P
 .exact .inr ⟨g,z,F,rfl,M,(O.block g (Array.getElem?_eq_some_iff.1 I).1 (J g rfl)).trans I,u⟩
theorem dL.lt(h:dL w S mb E):mb<w.heap.size:=by
 obtain⟨V,N,u,_⟩:=h;exact u.lt
theorem dL.kept{S T:List Nat}(h:dL w S mb E)(z:Kept T w w')(Z:∀s,s∈S->s∉T)(g:mb∉T):dL w' S mb E:=by
 obtain⟨V,N,J,M,O,F,P,Q,R⟩:=h;exact⟨V,N,J.kept z g,M,λk u L I U=>(O k u L I U).kept z (λq B=>Z q (F k u q I B)),F,P,Q,λs hs=>Nat.lt_of_lt_of_le (R s hs) z.size⟩
theorem dL.below(h:dL w S mb E)(u:Below w.heap.size w w'):dL w' S mb E:=h.kept (T:=[]) (.of_below u) (λ_ _=>by simp) (by simp)
def bO(E:Int->Option (List Ed))(k:Int)(L:Option (List Ed)):Int->Option (List Ed):=λj=>if j=k then L else E j
theorem dL.put{w w1 wI wU:World}{mb N N2:Nat}{a:Int}{u J:Value}{L':List Ed}(h1:MapAt iK w mb V N)(h2:∀k,E k=none↔V k=none)(h3:∀k u L,V k=some u->E k=some L->bU w 0 u L)(h4:∀k u q,V k=some u->u.ownBlock=some q->q∈S)(h5:mb∉S)(h6:∀k B u u' q,V k=some u->V B=some u'->u.ownBlock=some q->u'.ownBlock=some q->k=B)(h7:∀s,s∈S->s<w.heap.size)(ha:V a=some u)(Q:Below w.heap.size w w1)(hO:bU wI 0 J L')(R:w1.grownBy wI u.ownBlock)(g:J.ownBlock=u.ownBlock\/J.ownBlock=some w1.heap.size)(hM:MapAt iK wU mb (aL V a (some J)) N2)(hK:Kept [mb] wI wU):∃S',dL wU S' mb (bO E a (some L'))/\(∀k∈S',k∈S\/w.heap.size<=k)/\Kept (mb::S) w wU:=by
 have ac:∀q,J.ownBlock=some q->q≠mb:=λq z e=>by
  subst e;rcases g with e|e
  .exact h5 (h4 a u q ha (by rw[<-e];exact z))
  .rw[e]at z;injection z with z
   have:=h1.lt;have:=Q.size;omega
 have hS:∀q,J.ownBlock=some q->q∈S\/w.heap.size<=q:=λq z=>by
  rcases g with e|e
  .exact .inl (h4 a u q ha (by rw[<-e];exact z))
  .rw[e]at z;injection z with z
   have:=Q.size;exact .inr (by omega)
 have ab:Kept (mb::S) w wI:=⟨R.os.trans Q.os,R.tape.trans Q.tape,R.output.trans Q.output,Nat.le_trans Q.size R.size,λk hk M=>by
  refine(R.block k (Nat.lt_of_lt_of_le hk Q.size) ?_).trans (Q.block k hk);intro e;exact M (List.mem_cons_of_mem _ (h4 a u k ha e.symm))⟩
 refine⟨J.ownBlock.toList++S,⟨aL V a (some J),N2,hM,?_,?_,?_,?_,?_,?_⟩,?_,ab.trans (hK.wid (by simp))⟩
 .intro k
  unfold bO aL;split
  .simp
  .exact h2 k
 .intro k x L F Z
  unfold bO at Z;unfold aL at F;split at F
  .rename_i e
   rw[if_pos e]at Z;injection F with F
   injection Z with Z
   subst F;subst Z;exact hO.kept hK (λq z=>by simpa using ac q z)
  .rename_i e
   rw[if_neg e]at Z;have ad:=h3 k x L F Z;refine((ad.kept (T:=[]) (.of_below Q) (λ_ _=>by simp)).kept (w':=wI) (T:=u.ownBlock.toList) ⟨R.os,R.tape,R.output,R.size,λq z M=>R.block q z (λe=>M (by rw[<-e];simp))⟩ ?_).kept hK ?_
   .intro q z M
    have M:u.ownBlock=some q:=by
     cases hu:u.ownBlock with
     |none=>rw[hu]at M;simp at M
     |some r=>rw[hu]at M;simp at M;rw[M]
    exact e (h6 k a x u q F ha z M)
   .intro q z
    have:=h4 k x q F z;simp;rintro rfl;exact h5 this
 .intro k x q F z
  unfold aL at F;split at F
  .injection F with F
   subst F;exact List.mem_append_left _ (by rw[z];simp)
  .exact List.mem_append_right _ (h4 k x q F z)
 .rw[List.mem_append]
  rintro(h|h)
  .cases P:J.ownBlock with
   |none=>rw[P]at h;simp at h
   |some q=>rw[P]at h;simp at h;exact ac q P h.symm
  .exact h5 h
 .intro k B x x' q F I z O
  have ai:∀j y,j≠a->V j=some y->y.ownBlock=some q->J.ownBlock=some q->False:=by
   intro j y hj hy ag U;rcases g with e|e
   .exact hj (h6 j a y u q hy ha ag (by rw[<-e];exact U))
   .rw[e]at U;injection U with U
    obtain⟨Lj,al⟩:∃Lj,E j=some Lj:=by
     cases hE:E j with
     |none=>rw[(h2 j).1 hE]at hy;cases hy
     |some L=>exact⟨L,rfl⟩
    have:=(h3 j y Lj hy al).lt ag;have:=Q.size;omega
  unfold aL at F I;by_cases e1:k=a
  .by_cases e2:B=a
   .rw[e1,e2]
   .rw[if_pos e1]at F
    rw[if_neg e2]at I;injection F with F
    subst F;exact absurd z (λz=>ai B x' e2 I O z)
  .rw[if_neg e1]at F
   by_cases e2:B=a
   .rw[if_pos e2]at I
    injection I with I
    subst I;exact absurd O (λO=>ai k x e1 F z O)
   .rw[if_neg e2]at I
    exact h6 k B x x' q F I z O
 .intro k hk
  rcases List.mem_append.1 hk with h|h
  .cases P:J.ownBlock with
   |none=>rw[P]at h;simp at h
   |some q=>
    rw[P]at h;simp at h;rw[h];exact Nat.lt_of_lt_of_le (hO.lt P) hK.size
  .exact Nat.lt_of_lt_of_le (h7 k h) (Nat.le_trans ab.size hK.size)
 .intro k hk
  rcases List.mem_append.1 hk with h|h
  .cases P:J.ownBlock with
   |none=>rw[P]at h;simp at h
   |some q=>rw[P]at h;simp at h;rw[h];exact hS q P
  .exact .inl h
theorem zi(w:World)(p:Nat)(g:G)(v:Int)(a b:Nat)(x:C)(h:az w p g v)(L:a<g.n)(u:b<g.n)(hx:g.bV a b=x):Calls Tryz.prog 143 #[.pointer (some ⟨p,0,none⟩),.int .i64 (a:Nat),.int .i64 (b:Nat)] w λe w'=>e=.returned (.agg #[.int .i64 x.s,.int .i64 x.d])/\Below w.heap.size w w':=by
 have F:=h.1;obtain⟨o1,o2,o3,o4⟩:=h.1;have l1:=G.jw F a;have l2:=G.jw F b;have l3:=G.iM L;have l4:=G.iM u;have O:=λw=>oW (g.X a:Nat) (g.Y a:Nat) (g.X b:Nat) (g.Y b:Nat) w (by omega) (by omega) (by omega) (by omega);have J:dh ((g.X a:Nat)-(g.X b:Nat)) ((g.Y a:Nat)-(g.Y b:Nat))=x:=hx;rw[J]at O;have O:=hid O;obtain⟨xs,xd⟩:=x;clear hx J l1 l2 l3 l4 F;go_enter Tryz.func143,Tryz.ntmps143;go_upto_region 1 with(fail);refine au ?_;intro W z;have B:Below w.heap.size w W:=by rw[z];(repeat' (first|exact Below.refl _ _|assumption|apply aj|apply ah|apply af|(refine aa ?_ (by assumption))))
 have P:W.cell? ⟨w.heap.size,0,none⟩=some (.int .i64 0):=by rw[z];go_simp
 have Q:W.cell? ⟨w.heap.size,1,none⟩=some (.int .i64 0):=by rw[z];go_simp
 have R:W.frozen? ⟨w.heap.size,0,none⟩=false:=by rw[z];go_simp
 have T:W.frozen? ⟨w.heap.size,1,none⟩=false:=by rw[z];go_simp
 have S:w.heap.size<W.heap.size:=by rw[z];simp
 have U:=h.below B h.lt;have M:=hid (And.intro P (And.intro Q (And.intro R T)));clear z P Q R T;go_wp2_with fail;(with_reducible refine(aU _ p g v a U L).mono ?_);rintro e w1 ⟨rfl,I⟩;go_wp2_with fail;(with_reducible refine(aU _ p g v b (U.below I U.lt) u).mono ?_);rintro e w2 ⟨rfl,Z⟩;go_wp2_with fail;(with_reducible refine(O.out _).mono ?_);rintro e w3 ⟨rfl,k⟩;have u:=aa (aa I Z) k;have P:=ae u M.out.1;have Q:=ae u M.out.2.1;have R:=(u.frozen (p:=⟨w.heap.size,0,none⟩) S).trans M.out.2.2.1;have T:=(u.frozen (p:=⟨w.heap.size,1,none⟩) S).trans M.out.2.2.2;go_wp2;have e5:=dF (x:=.int .i64 xs) (y:=.int .i64 xd) P Q;refine bodyPost_ret (v:=.agg #[.int .i64 xs,.int .i64 xd]) (by simp[results,Tryz.results143,go_sem,e5]) rfl ?_;exact⟨rfl,((aa B u).setCell (by simp) _).setCell (by simp) _⟩
theorem aJ{p:Addr}(u:Kept S w w')(z:p.block∉S)(h:w.cell? p=some v):w'.cell? p=some v:=
 (World.cell?_of_block (a:=p) (u.block p.block (World.block_lt_of_cell? w _ h) z)).trans h
def ND(w:World)(S:List Nat)(mb:Nat)(E:Int->Option (List Ed))(e:Ending)(w':World):Prop:=
 e=.returned (.tuple #[])/\∃S',dL w' S' mb E/\(∀k∈S',k∈S\/w.heap.size<=k)/\Kept (mb::S) w w'
theorem qp(w:World)(S:List Nat)(b p J:Nat)(E:Int->Option (List Ed))(a:Int)(x:Ed)(L:List Ed)(hb:w.heap[b]? =some (.cells #[.pointer (some ⟨p,0,none⟩),.map (some J)] 185 (0,0)))(hE:dL w S J E)(be:b∉S)(bg:b≠J)(hL:E a=some L)(hs:sJ L)(ax:∀e∈L,aV e.to_)(hx:aV x.to_)(hl:L.length<=1000):Calls Tryz.prog 164 #[.pointer (some ⟨b,0,none⟩),.int .i64 a,.agg #[.int .i64 x.to_,.int .i64 x.c.s,.int .i64 x.c.d,.int .i64 x.mid]] w (ND w S J (bO E a (some (ll L x)))):=by
 have bp:=hE.lt;obtain⟨V,N,h1,h2,h3,h4,h5,h6,h7⟩:=hE
 obtain⟨u,hu⟩:∃u,V a=some u:=by
  cases hV:V a with
  |none=>rw[(h2 a).2 hV]at hL;cases hL
  |some u=>exact⟨u,rfl⟩
 have hO:=h3 a u L hu hL;have a1:∀q,u.ownBlock=some q->q∈S:=λq hq=>h4 a u q hu hq;obtain⟨A,F,rfl,ao⟩:=hO.Ag;have bt:b<w.heap.size:=(Array.getElem?_eq_some_iff.1 hb).1
 have ay:∀O,Below w.heap.size w O->(Instr.lookup 137 (.map (some J)) (.int .i64 a) false).run Tryz.prog O=.ok (.slice A L.length F) O:=λO bh=>by
  have:=((h1.below bh).look (aG Tryz.underlying3) Tryz.underlying137 (z:=.slice none 0 0) (by simp[Tryz.zeroValue119]) a).2;rw[hu]at this;exact this
 obtain⟨Q,⟨xs,xd⟩,xm⟩:=x;simp only at hx⊢;have H1:=hid h1;have H2:=hid h2;have H3:=hid h3;have H4:=hid h4;have H6:=hid h6;have H7:=hid h7;have HO:=hid hO;have Hu:=hid hu;have ai:=hid a1;have ab:=hid ay;obtain⟨i,hi⟩:∃i,dV L Q=i:=⟨_,rfl⟩;obtain⟨fd,al⟩:∃i,fV L Q=i:=⟨_,rfl⟩;have bi:i<=L.length:=by rw[<-hi];exact(qC hs Q).1
 have cB:=hid (λO(bc:Below w.heap.size w O)=>(show Calls Tryz.prog 216 #[.slice A L.length F,.int .i64 Q,.func (.func 217) #[] #[]] O λr w2=>r=.returned (.tuple #[.int .i64 (i:Nat),.bool fd])/\Below O.heap.size O w2 by
  have:=Kk O A L.length F L Q (ao.below bc) rfl hs ax hx (by omega);rw[hi,al]at this;exact this))
 have ad:ll L ⟨Q,⟨xs,xd⟩,xm⟩=L.take i++(⟨Q,⟨xs,xd⟩,xm⟩:Ed)::L.drop i:=by unfold ll;rw[<-hi]
 rw[ad];have br:=hid al;obtain⟨n,hn⟩:∃n,L.length=n:=⟨_,rfl⟩;rw[hn]at hl bi HO ai Hu ab cB;have Hn:=hid hn;have bq:=hid hb;have a4:w.cell? ⟨b,1,none⟩=some (.map (some J)):=by simp[World.cell?,hb]
 have hx:=hid hx;clear h1 h2 h3 h4 h6 h7 hO hu a1 ay ao hi al ad ax hs hL hn hb;go_enter Tryz.func164,Tryz.ntmps164;go_upto_region 1 with(fail);refine au ?_;intro W hW;have HW:Below w.heap.size w W:=by rw[hW];(repeat' (first|exact Below.refl _ _|assumption|apply aj|apply ah|apply af|(refine aa ?_ (by assumption))))
 have c0:W.cell? ⟨w.heap.size,0,none⟩=some (.int .i64 Q):=by rw[hW];go_simp
 have c1:W.cell? ⟨w.heap.size,1,none⟩=some (.int .i64 xs):=by rw[hW];go_simp
 have c2:W.cell? ⟨w.heap.size,2,none⟩=some (.int .i64 xd):=by rw[hW];go_simp
 have c3:W.cell? ⟨w.heap.size,3,none⟩=some (.int .i64 xm):=by rw[hW];go_simp
 obtain⟨M,bd⟩:∃z,w.heap.size=z:=⟨_,rfl⟩;have bo:b≠M:=by omega
 have P:J≠M:=by omega
 have ac:∀q,(Value.slice A n F).ownBlock=some q->q≠M:=λq hq=>by have:=HO.out.lt hq;omega
 have am:=hid ac;rw[bd]at c0 c1 c2 c3⊢;have k1:=ae HW a4;have bj:∀d os,(Instr.lookup 137 (.map (some J)) (.int .i64 a) false).run Tryz.prog (grow (redrawn W d) os)=.ok (.slice A n F) (grow (redrawn W d) os):=λd os=>ab.out _ (aa HW (below_regrown W d os));have a6:=cell_regrown c0;have bm:=cell_regrown k1;have HX:=Below.refl W.heap.size W;clear hW a4 ac;refine wp_region_quiet_below (by kernel_rfl) (by kernel_rfl) ?_;repeat (first|go_big_quiet_step ((with_reducible exact Calls.regrown_of (cB.out _ (aa HW (below_regrown W _ _)))))|quiet_step ((with_reducible exact Calls.regrown_of (cB.out _ (aa HW (below_regrown W _ _))))))
 refine wpQuiet_nil ?_;intro _ bk;obtain⟨⟨dq,osq⟩,a2⟩:=bk;have HY:=aa HX (below_regrown W dq osq);have ar:=below_regrown W dq osq;subst a2;generalize grow (redrawn W dq) osq=k at HY ar⊢;have c0:=ae HY c0;have c1:=ae HY c1;have c2:=ae HY c2;have c3:=ae HY c3;have k1:=ae HY k1;have R:=aa HW HY;clear a6 bm bj HX ar HY;go_upto_region 2 with(fail);obtain⟨o,ho⟩:∃o,Obj.cells #[Value.int .i64 Q,Value.int .i64 xs,Value.int .i64 xd,Value.int .i64 xm] 182 (0,0)=o:=⟨_,rfl⟩;have bv:(Instr.lookup 137 (.map (some J)) (.int .i64 a) false).run Tryz.prog k.drew=.ok (.slice A n F) k.drew:=ab.out _ (ah R);have bw:∀o,(Instr.lookup 137 (.map (some J)) (.int .i64 a) false).run Tryz.prog (k.alloc o).drew=.ok (.slice A n F) (k.alloc o).drew:=λo=>ab.out _ (ah (af R));have aq:bU (k.alloc o).drew 0 (.slice A n F) L:=HO.out.kept (T:=[]) (.of_below (ah (af R))) (λ_ _=>by simp);have ap:MapAt iK (k.alloc o).drew J V N:=H1.out.below (ah (af R))
 have a3:(k.alloc o).drew.heap[k.heap.size]? =some (.cells (Ed.cells ⟨Q,⟨xs,xd⟩,xm⟩).toArray 182 (0,0)):=by rw[<-ho];exact alloc_at k _ rfl
 have ag:(Value.slice A n F).ownBlock≠some k.heap.size:=λe=>by have:=HO.out.lt e;have:=R.size;omega
 have aS:some b≠(Value.slice A n F).ownBlock:=λe=>be (ai.out b e.symm);have aE:some M≠(Value.slice A n F).ownBlock:=λe=>(am.out M e.symm) rfl;have a0:some J≠(Value.slice A n F).ownBlock:=λe=>h5 (ai.out J e.symm);have an:Below w.heap.size w (k.alloc o).drew:=ah (af R);have g:=hid (And.intro aq (And.intro ap (And.intro a3 (And.intro ag (And.intro aS (And.intro aE (And.intro a0 an)))))));have B:L.length<=100000:=by have:=Hn.out;omega
 have a5:i<=L.length:=by have:=Hn.out;omega
 have Ho:=hid ho;clear aq ap a3 ag aS aE a0 an;rw[<-ho]at g;clear ho
 go_region_held3 (λO=>O.cell? ⟨b,1,none⟩=some (.map (some J))/\O.cell? ⟨M,0,none⟩=some (.int .i64 Q)/\O.cell? ⟨M,1,none⟩=some (.int .i64 xs)/\O.cell? ⟨M,2,none⟩=some (.int .i64 xd)/\O.cell? ⟨M,3,none⟩=some (.int .i64 xm))
  (first
   |exact⟨k1,c0,c1,c2,c3⟩
   |exact⟨aC k1,aC c0,aC c1,aC c2,aC c3⟩
   |exact Z
   |exact bb)
  ((first
   |(go_at_call 218
     refine(FW _ 0 (.slice A n F) L i k.heap.size ⟨Q,⟨xs,xd⟩,xm⟩ g.out.1 a5 g.out.2.2.1 g.out.2.2.2.1 (Nat.zero_le _) B).mono ?_;rintro e wI ⟨v',rfl,ba,I,a7⟩
     have Z:wI.cell? ⟨b,1,none⟩=some (.map (some J))/\wI.cell? ⟨M,0,none⟩=some (.int .i64 Q)/\wI.cell? ⟨M,1,none⟩=some (.int .i64 xs)/\wI.cell? ⟨M,2,none⟩=some (.int .i64 xd)/\wI.cell? ⟨M,3,none⟩=some (.int .i64 xm):=
      ⟨I.cell (aC k1) g.out.2.2.2.2.1,I.cell (aC c0) g.out.2.2.2.2.2.1,I.cell (aC c1) g.out.2.2.2.2.2.1,I.cell (aC c2) g.out.2.2.2.2.2.1,I.cell (aC c3) g.out.2.2.2.2.2.1⟩
     have a8:MapAt iK wI J V N:=g.out.2.1.kept (S:=(Value.slice A n F).ownBlock.toList) ⟨I.os,I.tape,I.output,I.size,λq hq hn=>I.block q hq (λe=>hn (by rw[<-e];simp))⟩ (by
      intro hh;have:=g.out.2.2.2.2.2.2.1;cases hv:(Value.slice A n F).ownBlock with
      |none=>rw[hv]at hh;simp at hh
      |some r=>rw[hv]at hh this;simp at hh;exact this (by rw[hh]))
     obtain⟨wU,hU,a9,U⟩:=a8.store (aG Tryz.underlying3) Tryz.underlying137 a v';have hU:(Instr.mapUpdate 137 (.map (some J)) (.int .i64 a) v').run Tryz.prog wI=.ok () wU:=hU
     have bb:wU.cell? ⟨b,1,none⟩=some (.map (some J))/\wU.cell? ⟨M,0,none⟩=some (.int .i64 Q)/\wU.cell? ⟨M,1,none⟩=some (.int .i64 xs)/\wU.cell? ⟨M,2,none⟩=some (.int .i64 xd)/\wU.cell? ⟨M,3,none⟩=some (.int .i64 xm):=
      ⟨aJ U (by simpa using bg) Z.1,aJ U (by simpa using Ne.symm P) Z.2.1,aJ U (by simpa using Ne.symm P) Z.2.2.1,aJ U (by simpa using Ne.symm P) Z.2.2.2.1,aJ U (by simpa using Ne.symm P) Z.2.2.2.2⟩)))
 all_goals
  have aw:=dL.put H1.out H2.out H3.out H4.out h5 H6.out H7.out Hu.out g.out.2.2.2.2.2.2.2 ba I a7 a9 U;go_end0;exact⟨rfl,aw⟩
theorem Kq(P:Prop):∃t:Bool,t=true↔P:=by
 by_cases h:P
 .exact⟨true,by simp[h]⟩
 .exact⟨false,by simp[h]⟩
def aD(w:World)(b p mb:Nat)(S:List Nat)(g:G)(v:Int)(E:Int->Option (List Ed)):Prop:=
 w.heap[b]? =some (.cells #[.pointer (some ⟨p,0,none⟩),.map (some mb)] 185 (0,0))/\az w p g v/\dL w S mb E/\b∉S/\p∉S/\b≠mb/\p≠mb/\b≠p
theorem aD.below{b p mb:Nat}{v:Int}(h:aD w b p mb S g v E)(u:Below w.heap.size w w'):aD w' b p mb S g v E:=
 ⟨(u.block b (Array.getElem?_eq_some_iff.1 h.1).1).trans h.1,h.2.1.below u h.2.1.lt,h.2.2.1.below u,h.2.2.2⟩
theorem aD.put{b p mb:Nat}{S u:List Nat}{v:Int}{E F:Int->Option (List Ed)}(h:aD w b p mb S g v E)(Z:dL w' u mb F)(R:∀k∈u,k∈S\/w.heap.size<=k)(T:Kept (mb::S) w w'):aD w' b p mb u g v F:=by
 obtain⟨I,J,L,M,O,P,Q,U⟩:=h;have B:b<w.heap.size:=(Array.getElem?_eq_some_iff.1 I).1;refine⟨(T.block b B (by simp[P,M])).trans I,J.kept T (by simp[Q,O]),Z,?_,?_,P,Q,U⟩
 .intro z
  rcases R b z with a|a
  .exact M a
  .omega
 .intro z
  rcases R p z with a|a
  .exact O a
  .have:=J.lt;omega
def bI(g:G)(Done:Nat->Nat->Prop)(E:Int->Option (List Ed)):Prop:=
 (∀z:Int,E z≠none↔∃c:Nat,z=c/\g.ak c)/\∀(c:Nat)(L:List Ed),E c=some L->sJ L/\∀e,e∈L↔∃y:Nat,g.ak y/\y≠c/\Done c y/\g.aF c y/\e=⟨y,g.bV c y,-1⟩
theorem ig(u:g.ok)(h:g.ak c):c<g.n/\g.b c=false:=by
 refine⟨h.1,?_⟩;have:=h.2.1;rw[G.lH u h.1]at this;simpa using this
theorem Cz(J:sJ L)(n:Nat)(h:∀e∈L,0<=e.to_/\e.to_<n):L.length<=n:=by
 have F:∀(j:Nat)(e:Ed),L[j]? =some e->(j:Int)<=e.to_:=by
  intro j
  induction j with
  |zero=>intro e z;exact(h e (List.mem_of_getElem? z)).1
  |succ j M=>
   intro e z;have I:=(List.getElem?_eq_some_iff.1 z).1;obtain⟨x,u⟩:∃x,L[j]? =some x:=⟨L[j]'(by omega),List.getElem?_eq_getElem _⟩;have a:=M x u;have b:=J j (j+1) x e (by omega) u z;omega
 cases I:L.length with
 |zero=>omega
 |succ m=>
  obtain⟨x,u⟩:∃x,L[m]? =some x:=⟨L[m]'(by omega),List.getElem?_eq_getElem _⟩;have a:=F m x u;have b:=(h x (List.mem_of_getElem? u)).2;omega
theorem bI.facts(I:g.ok)(h:bI g Done E)(M:g.ak c):∃L,E c=some L/\sJ L/\(∀e∈L,aV e.to_)/\L.length<=1000/\∀e,e∈L↔∃y:Nat,g.ak y/\y≠c/\Done c y/\g.aF c y/\e=⟨y,g.bV c y,-1⟩:=by
 have J:=(h.1 c).2 ⟨c,rfl,M⟩;cases z:E c with
 |none=>exact absurd z J
 |some L=>
  obtain⟨a,b⟩:=h.2 c L z
  have F:∀e∈L,0<=e.to_/\e.to_<g.n:=λe u=>by
   obtain⟨y,O,_,_,_,rfl⟩:=(b e).1 u;have:=(ig I O).1;simp only;omega
  have P:=G.bR I;refine⟨L,rfl,a,λe u=>?_,?_,b⟩
  .have:=F e u
   unfold aV;omega
  .have:=Cz a g.n F
   omega
def sD(Done:Nat->Nat->Prop)(a b:Nat):Nat->Nat->Prop:=λx y=>Done x y\/(x=a/\y=b)\/(x=b/\y=a)
theorem bI.no(h:bI g Done E){a b:Nat}(O:¬g.aF a b):bI g (sD Done a b) E:=by
 refine⟨h.1,λc L M=>⟨(h.2 c L M).1,λe=>?_⟩⟩;rw[(h.2 c L M).2 e];constructor
 .rintro⟨y,z,F,I,u,J⟩
  exact⟨y,z,F,.inl I,u,J⟩
 .rintro⟨y,z,F,I|⟨rfl,rfl⟩|⟨rfl,rfl⟩,u,J⟩
  .exact⟨y,z,F,I,u,J⟩
  .exact absurd u O
  .exact absurd (G.fZ.1 u) O
theorem bI.yes(h:bI g Done E){a b:Nat}(ha:g.ak a)(hb:g.ak b)(Q:a≠b)(hd:g.aF a b)(h1:¬Done a b)(h2:¬Done b a){T U:List Ed}(Z:E a=some T)(k:E b=some U):bI g (sD Done a b) (bO (bO E a (some (ll T ⟨b,g.bV a b,-1⟩))) b (some (ll U ⟨a,g.bV a b,-1⟩)))/\fV T b=false/\fV U a=false:=by
 obtain⟨sa,ma⟩:=h.2 a T Z;obtain⟨sb,mb⟩:=h.2 b U k
 have na:fV T b=false:=by
  cases S:fV T b with
  |false=>rfl
  |true=>
   obtain⟨e,B,I⟩:=jI.1 S;obtain⟨y,_,_,q,_,rfl⟩:=(ma e).1 B;simp only at I;obtain rfl:y=b:=by omega
   exact absurd q h1
 have nb:fV U a=false:=by
  cases S:fV U a with
  |false=>rfl
  |true=>
   obtain⟨e,B,I⟩:=jI.1 S;obtain⟨y,_,_,q,_,rfl⟩:=(mb e).1 B;simp only at I;obtain rfl:y=a:=by omega
   exact absurd q h2
 have ab:¬((b:Int)=(a:Int)):=by omega
 refine⟨⟨λz=>?_,λc L F=>?_⟩,na,nb⟩
 .unfold bO
  by_cases I:z=(b:Int)
  .rw[if_pos I]
   exact⟨λ_=>⟨b,I,hb⟩,λ_=>by simp⟩
  .rw[if_neg I]
   by_cases R:z=(a:Int)
   .rw[if_pos R]
    exact⟨λ_=>⟨a,R,ha⟩,λ_=>by simp⟩
   .rw[if_neg R]
    exact h.1 z
 .unfold bO at F
  by_cases I:(c:Int)=(b:Int)
  .rw[if_pos I]at F
   injection F with F
   obtain rfl:c=b:=by omega
   subst F;refine⟨mH sb nb,λe=>?_⟩;rw[mE,mb e];constructor
   .rintro(rfl|⟨y,J,M,O,P,u⟩)
    .exact⟨a,ha,Q,.inr (.inr ⟨rfl,rfl⟩),G.fZ.1 hd,by rw[G.dW]⟩
    .exact⟨y,J,M,.inl O,P,u⟩
   .rintro⟨y,J,M,O|⟨rfl,rfl⟩|⟨_,rfl⟩,P,u⟩
    .exact .inr ⟨y,J,M,O,P,u⟩
    .exact absurd rfl Q
    .exact .inl (by rw[u,G.dW])
  .rw[if_neg I]at F
   by_cases R:(c:Int)=(a:Int)
   .rw[if_pos R]at F
    injection F with F
    obtain rfl:c=a:=by omega
    subst F;refine⟨mH sa na,λe=>?_⟩;rw[mE,ma e];constructor
    .rintro(rfl|⟨y,J,M,O,P,u⟩)
     .exact⟨b,hb,Ne.symm Q,.inr (.inl ⟨rfl,rfl⟩),hd,rfl⟩
     .exact⟨y,J,M,.inl O,P,u⟩
    .rintro⟨y,J,M,O|⟨_,rfl⟩|⟨rfl,rfl⟩,P,u⟩
     .exact .inr ⟨y,J,M,O,P,u⟩
     .exact .inl u
     .exact absurd rfl Q
   .rw[if_neg R]at F
    obtain⟨s,m⟩:=h.2 c L F;refine⟨s,λe=>?_⟩;rw[m e];constructor
    .rintro⟨y,J,M,O,P,u⟩
     exact⟨y,J,M,.inl O,P,u⟩
    .rintro⟨y,J,M,O|⟨rfl,_⟩|⟨rfl,_⟩,P,u⟩
     .exact⟨y,J,M,O,P,u⟩
     .exact absurd rfl R
     .exact absurd rfl I
def JS(w:World)(b p mb:Nat)(S:List Nat)(g:G)(v:Int)(Done:Nat->Nat->Prop)(e:Ending)(w':World):Prop:=
 e=.returned (.tuple #[])/\∃S' E',aD w' b p mb S' g v E'/\bI g Done E'/\(∀k∈S',k∈S\/w.heap.size<=k)/\Kept (mb::S) w w'
theorem Iq(w:World)(b p U:Nat)(S:List Nat)(g:G)(v:Int)(E:Int->Option (List Ed))(F:Nat->Nat->Prop)(x y:Nat)(h:aD w b p U S g v E)(hS:bI g F E)(hx:g.ak x)(hy:g.ak y)(a3:x≠y)(h1:¬F x y)(h2:¬F y x):Calls Tryz.prog 110 #[.pointer (some ⟨b,0,none⟩),.int .i64 (x:Nat),.int .i64 (y:Nat)] w (JS w b p U S g v (sD F x y)):=by
 have hg:=h.2.1;have P:=hg.1;have a5:=G.bR P;obtain⟨xn,xf⟩:=ig P hx;obtain⟨yn,yf⟩:=ig P hy;have ac:w.cell? ⟨b,0,none⟩=some (.pointer (some ⟨p,0,none⟩)):=by simp[World.cell?,h.1]
 obtain⟨t,ht⟩:=Kq (g.aF x y);have Ht:=hid ht;have cD:=hid (jl w p g v x y t hg xn yn xf yf ht);have H:=hid h;have HS:=hid hS;have Hd:=hid (And.intro h1 h2);clear h hS ht h1 h2 hg;go_enter Tryz.func110,Tryz.ntmps110;go_wp2_with fail;(with_reducible refine cD.out.mono ?_);rintro e w1 ⟨rfl,M⟩;clear cD;cases t with
 |false=>
  have a1:¬g.aF x y:=λhh=>by have:=Ht.out.2 hh;cases this
  have u:JS w b p U S g v (sD F x y) (.returned (.tuple #[])) w1:=⟨rfl,S,E,H.out.below M,HS.out.no a1,λk hk=>.inl hk,Kept.of_below M⟩;have u:=hid u;clear Ht;go_wp2;go_end0;exact u.out
 |true=>
  have aE:g.aF x y:=Ht.out.1 rfl;obtain⟨Lx,ao,sx,ix,lx,_⟩:=HS.out.facts P hx;obtain⟨Ly,ap,sy,iy,ly,_⟩:=HS.out.facts P hy;have R:=H.out.below M;have ax:az w1 p g v:=R.2.1;have ac:=ae M ac;have ay:=hid (HS.out.yes hx hy a3 aE Hd.out.1 Hd.out.2 ao ap);obtain⟨⟨os,od⟩,ho⟩:∃z,g.bV x y=z:=⟨_,rfl⟩;rw[ho]at ay;have a2:aV (x:Int):=by unfold aV;omega
  have a4:aV (y:Int):=by unfold aV;omega
  clear Ht;go_wp2_with fail;(with_reducible refine(zi _ p g v x y ⟨os,od⟩ ax xn yn ho).mono ?_);rintro e w2 ⟨rfl,ab⟩;go_upto_region 3 with(fail);refine au ?_;intro W hW;have HW:Below w2.heap.size w2 W:=by rw[hW];(repeat' (first|exact Below.refl _ _|assumption|apply aj|apply ah|apply af|(refine aa ?_ (by assumption))))
  have o0:W.cell? ⟨w2.heap.size,0,none⟩=some (.int .i64 os):=by rw[hW];go_simp
  have o1:W.cell? ⟨w2.heap.size,1,none⟩=some (.int .i64 od):=by rw[hW];go_simp
  have B:=aa ab HW;have am:=R.below B;have Q:=aa M B
  have T:w2.heap.size∉U::S:=by
   have hE:=R.2.2.1;have a6:=hE.lt;obtain⟨V,N,q1,q2,q3,q4,q5,q6,q7⟩:=hE;have a7:=ab.size;intro hh;rcases List.mem_cons.1 hh with e|e
   .omega
   .have:=q7 _ e;omega
  obtain⟨b8,aw⟩:∃z,w2.heap.size=z:=⟨_,rfl⟩;rw[aw]at o0 o1 T⊢;have a0:=hid am;obtain⟨g1,g2,g3,g4,g5,g6,g7,g8⟩:=am;have c1:=hid (qp W S b p U E (x:Nat) ⟨(y:Nat),⟨os,od⟩,-1⟩ Lx g1 g3 g4 g6 ao sx ix a4 lx);clear hW aw HW B R ab M ac g1 g2 g3 g4 g5 g6 g7 g8;go_wp2_with fail
  (refine c1.out.mono ?_)
  rintro e w3 ⟨rfl,S1,ad,L,O⟩;have ai:=a0.out.put ad L O;have o0:=aJ O T o0;have o1:=aJ O T o1
  have Z:bO E (x:Nat) (some (ll Lx ⟨(y:Nat),⟨os,od⟩,-1⟩)) (y:Nat)=some Ly:=by
   unfold bO;rw[if_neg (by omega)];exact ap
  have aS:=hid ai;obtain⟨g1,g2,g3,g4,g5,g6,g7,g8⟩:=ai;have c2:=hid (qp w3 S1 b p U _ (y:Nat) ⟨(x:Nat),⟨os,od⟩,-1⟩ Ly g1 g3 g4 g6 Z sy iy a2 ly);clear c1 ad g1 g2 g3 g4 g5 g6 g7 g8 Z T;go_wp2_with fail
  (refine c2.out.mono ?_)
  rintro e w4 ⟨rfl,S2,ag,aq,I⟩;have al:=aS.out.put ag aq I
  have an:Kept (U::S) w w4:=by
   have J:Kept (U::S) w w3:=(Kept.of_below Q).trans O;refine⟨I.os.trans J.os,I.tape.trans J.tape,I.output.trans J.output,Nat.le_trans J.size I.size,λk hk hn=>?_⟩;refine(I.block k (Nat.lt_of_lt_of_le hk J.size) ?_).trans (J.block k hk hn);intro hm;rcases List.mem_cons.1 hm with e|e
   .exact hn (by rw[e];simp)
   .rcases L k e with q|q
    .exact hn (List.mem_cons_of_mem _ q)
    .have:=Q.size;omega
  have ar:∀k∈S2,k∈S\/w.heap.size<=k:=λk hk=>by
   rcases aq k hk with q|q
   .rcases L k q with r|r
    .exact .inl r
    .have:=Q.size;exact .inr (by omega)
   .have:=O.size;have:=Q.size;exact .inr (by omega)
  have u:JS w b p U S g v (sD F x y) (.returned (.tuple #[])) w4:=⟨rfl,S2,_,al,ay.out.1,ar,an⟩;have u:=hid u;clear ag al ar an;go_wp2;go_end0;exact u.out
theorem dL.add{w P:World}{mb N Q:Nat}{a:Int}(h1:MapAt iK w mb V N)(g:∀k,E k=none↔V k=none)(B:∀k u L,V k=some u->E k=some L->bU w 0 u L)(R:∀k u q,V k=some u->u.ownBlock=some q->q∈S)(T:mb∉S)(h6:∀k O u Z q,V k=some u->V O=some Z->u.ownBlock=some q->Z.ownBlock=some q->k=O)(h7:∀s,s∈S->s<w.heap.size)(hM:MapAt iK P mb (aL V a (some (.slice none 0 0))) Q)(U:Kept [mb] w P):dL P S mb (bO E a (some [])):=by
 refine⟨_,Q,hM,λk=>?_,λk x L z I=>?_,λk x q z J=>?_,T,λk O x x' q z F J M=>?_,λs hs=>Nat.lt_of_lt_of_le (h7 s hs) U.size⟩
 .unfold bO aL
  split
  .simp
  .exact g k
 .unfold bO at I
  unfold aL at z;split at z
  .rename_i e
   rw[if_pos e]at I;injection z with z
   injection I with I
   subst z;subst I;exact bU.nil _ _
  .rename_i e
   rw[if_neg e]at I
   exact(B k x L z I).kept U (λq J=>by
    have:=R k x q z J;simp;rintro rfl;exact T this)
 .unfold aL at z
  split at z
  .injection z with z
   subst z;simp[Value.ownBlock]at J
  .exact R k x q z J
 .unfold aL at z F
  split at z
  .injection z with z
   subst z;simp[Value.ownBlock]at J
  .split at F
   .injection F with F
    subst F;simp[Value.ownBlock]at M
   .exact h6 k O x x' q z F J M
def pU(w:World)(zs:List Int)(e:Ending)(w':World):Prop:=∃A m,e=.returned (.slice A zs.length m)/\zs.length<=m/\Ints w' A zs.length (λk=>zs.getD k 0)/\(∀ad,A=some ad->w.heap.size<=ad.block/\ad.block<w'.heap.size)/\Below w.heap.size w w'
theorem rY{u:List Int}(h:aI w' w.heap.size v u)(P:Below w.heap.size w w'):pU w u (.returned v) w':=by
 obtain⟨A,m,rfl,Q⟩:=h.ints;refine⟨A,m,rfl,?_,Q,?_,P⟩
 .rcases h.2 with⟨e,R⟩|⟨g,F,I,e,_,_,T,_⟩
  .injection e with J M O;omega
  .injection e with J M O;omega
 .intro z e
  subst e;exact World.ownsRow.lt h z.block rfl
theorem Lm{w2 wr w':World}(h:Kept [mb] w2 wr)(k:Kept (mb::S) wr w')(F:∀q∈S,w2.heap.size<=q):Kept [mb] w2 w':=
 ⟨k.os.trans h.os,k.tape.trans h.tape,k.output.trans h.output,Nat.le_trans h.size k.size,λq z u=>by
  refine(k.block q (Nat.lt_of_lt_of_le z h.size) ?_).trans (h.block q z u);intro I;rcases List.mem_cons.1 I with e|e
  .exact u (by rw[e];simp)
  .have:=F q e;omega⟩
theorem Dt(w:World)(p:Nat)(g:G)(v:Int)(h:az w p g v):Calls Tryz.prog 136 #[.pointer (some ⟨p,0,none⟩)] w (pU w (aA g)):=by
 have U:=hid h.lt;have hn:=G.bR h.1;go_enter Tryz.func136,Tryz.ntmps136;go_wp2_with fail;refine(jc w p g v h).mono ?_;rintro e w1 ⟨rfl,M⟩;have Z:=M.size;go_wp2_with fail;go_loopw [3,9] (λl i wr=>∃k:Nat,k<=g.n/\i=.int .i64 k/\aI wr w.heap.size l (upTo (bT g) k)/\Below w.heap.size w wr) (λ_ i _=>g.n-(intOf i).toNat)
 case atStart=>exact⟨0,by omega,rfl,aI.nil _ _,M⟩
 case round=>
  obtain⟨k,S,rfl,z,Q⟩:=hrel;have hl:=jq (bT g) k;by_cases T:k<g.n
  .go_wp2_with fail
   refine(l7 _ p g v k (h.below Q U.out) T).mono ?_;rintro e L ⟨rfl,O⟩;have F:=aa Q O;have u:=z.below (B':=0) O;have B:=F.size;cases P:bT g k with
   |false=>
    have e:=hid (Aa (p:=bT g) P);clear P;go_wp2;go_roundw
    case rel=>exact⟨k+1,by omega,by go_num,by rw[e.out];exact u,F⟩
    case measure=>simp[intOf];omega
   |true=>
    have e:=hid (wL (p:=bT g) P);clear P;go_wp2_with (at_builtin;refine bK _ rfl _ _ rfl w.heap.size _ _ _ rfl (u.alloc _) ⟨L.heap.size,0,none⟩ rfl (dm _ _ _) (by omega) (by simp;omega) ?_;intro v' w3 J I)
    have R:=below_grown (F.alloc (by omega) _) (by simp;omega) (u.alloc _) I;go_wp2;go_roundw
    case rel=>exact⟨k+1,by omega,by go_num,by rw[e.out];exact J,R⟩
    case measure=>simp[intOf];omega
  .obtain rfl:k=g.n:=by omega
   go_wp2;go_ret;exact rY z Q
def cf(g:G)(i:Nat):Nat:=((aA g).getD i 0).toNat
theorem xx{L:List Int}(h:L.Pairwise (· < ·))(u:i<j)(z:j<L.length):L.getD i 0<L.getD j 0:=by
 have:=(List.pairwise_iff_getElem.1 h) i j (by omega) z u;simpa[List.getD,show i<L.length by omega,z]using this
theorem iX(g:G):(aA g).Pairwise (· < ·):=by
 unfold aA upTo;rw[List.pairwise_map];exact(List.Pairwise.filter _ List.pairwise_lt_range).imp (λh=>by omega)
theorem dS(J:i<(aA g).length):(aA g).getD i 0=(cf g i:Nat)/\g.ak (cf g i):=by
 obtain⟨d,z,F,I⟩:=M5 (p:=bT g) (n:=g.n) J;have u:(aA g).getD i 0=(d:Int):=z;have e:cf g i=d:=by unfold cf;rw[u];simp
 rw[e];exact⟨u,(ik F).1 I⟩
theorem Fq(u:i<j)(z:j<(aA g).length):cf g i<cf g j:=by
 have h:=xx (iX g) u z;rw[(dS (show i<_ by omega)).1,(dS z).1]at h;omega
theorem kU(u:i<(aA g).length)(z:j<(aA g).length)(h:cf g i=cf g j):i=j:=by
 rcases Nat.lt_trichotomy i j with q|q|q
 .have:=Fq q z;omega
 .exact q
 .have:=Fq q u;omega
theorem oU(h:g.ak c):∃i,i<(aA g).length/\cf g i=c:=by
 obtain⟨k,z,F⟩:=M6 (p:=bT g) (n:=g.n) h.1 ((ik h.1).2 h);refine⟨k,z,?_⟩;unfold cf;have u:(aA g).getD k 0=(c:Int):=F;rw[u];simp
theorem eQ(u:g.ok):(aA g).length<=256:=Nat.le_trans (jq _ _) (G.bR u)
def Dn(g:G)(i j:Nat)(x y:Nat):Prop:=∃a b,a<b/\b<(aA g).length/\(a<i\/(a=i/\b<j))/\((x=cf g a/\y=cf g b)\/(x=cf g b/\y=cf g a))
theorem bI.congr{D P:Nat->Nat->Prop}(h:bI g D E)(Q:∀c y,g.ak c->g.ak y->y≠c->(D c y↔P c y)):bI g P E:=by
 refine⟨h.1,λc L I=>⟨(h.2 c L I).1,λe=>?_⟩⟩;obtain⟨R,T,u⟩:=(h.1 c).1 (by rw[I];simp);obtain rfl:c=R:=by omega
 rw[(h.2 c L I).2 e];constructor
 .rintro⟨y,z,F,J,M,O⟩;exact⟨y,z,F,(Q c y u z F).1 J,M,O⟩
 .rintro⟨y,z,F,J,M,O⟩;exact⟨y,z,F,(Q c y u z F).2 J,M,O⟩
theorem kV(u:i<j)(J:j<(aA g).length):∀x y,sD (Dn g i j) (cf g i) (cf g j) x y↔Dn g i (j+1) x y:=by
 intro x y;constructor
 .rintro(⟨a,b,F,I,M,z⟩|⟨rfl,rfl⟩|⟨rfl,rfl⟩)
  .exact⟨a,b,F,I,by omega,z⟩
  .exact⟨i,j,u,J,.inr ⟨rfl,by omega⟩,.inl ⟨rfl,rfl⟩⟩
  .exact⟨i,j,u,J,.inr ⟨rfl,by omega⟩,.inr ⟨rfl,rfl⟩⟩
 .rintro⟨a,b,F,I,M,z⟩
  by_cases e:a=i/\b=j
  .obtain⟨rfl,rfl⟩:=e
   exact .inr z
  .exact .inl ⟨a,b,F,I,by omega,z⟩
theorem DF(Q:i<j)(I:j<(aA g).length):¬Dn g i j (cf g i) (cf g j)/\¬Dn g i j (cf g j) (cf g i):=by
 constructor
 .rintro⟨a,b,O,F,P,⟨u,z⟩|⟨u,z⟩⟩
  .have J:=kU (by omega) (by omega) u
   have M:=kU I F z;omega
  .have J:=kU (by omega) F u
   have M:=kU I (by omega) z;omega
 .rintro⟨a,b,O,F,P,⟨u,z⟩|⟨u,z⟩⟩
  .have J:=kU I (by omega) u
   have M:=kU (by omega) F z;omega
  .have J:=kU I F u
   have M:=kU (by omega) (by omega) z;omega
theorem KI(J:(aA g).length<=j):∀x y,Dn g i j x y↔Dn g (i+1) (i+2) x y:=by
 intro x y;constructor
 .rintro⟨a,b,u,z,I,F⟩;exact⟨a,b,u,z,by omega,F⟩
 .rintro⟨a,b,u,z,I,F⟩;exact⟨a,b,u,z,by omega,F⟩
theorem uR:∀x y,¬Dn g 0 1 x y:=by
 rintro x y ⟨a,b,u,z,F,I⟩;omega
theorem oZ(M:(aA g).length<=i){c y:Nat}(F:g.ak c)(J:g.ak y)(I:y≠c):Dn g i (i+1) c y:=by
 obtain⟨a,u,rfl⟩:=oU F;obtain⟨b,z,rfl⟩:=oU J;rcases Nat.lt_trichotomy a b with q|q|q
 .exact⟨a,b,q,z,by omega,.inl ⟨rfl,rfl⟩⟩
 .subst q;exact absurd rfl I
 .exact⟨b,a,q,u,by omega,.inr ⟨rfl,rfl⟩⟩
def sG(g:G)(k:Nat)(E:Int->Option (List Ed)):Prop:=(∀z:Int,E z≠none↔∃i,i<k/\z=(cf g i:Nat))/\∀z L,E z=some L->L=[]
theorem Ma(h:sG g k E):sG g (k+1) (bO E (cf g k:Nat) (some [])):=by
 refine⟨λz=>?_,λz L u=>?_⟩
 .unfold bO
  by_cases e:z=(cf g k:Nat)
  .rw[if_pos e]
   exact⟨λ_=>⟨k,by omega,e⟩,λ_=>by simp⟩
  .rw[if_neg e,h.1 z]
   constructor
   .rintro⟨i,J,F⟩;exact⟨i,by omega,F⟩
   .rintro⟨i,J,F⟩
    by_cases I:i=k
    .subst I;exact absurd F e
    .exact⟨i,by omega,F⟩
 .unfold bO at u
  split at u
  .injection u with u;exact u.symm
  .exact h.2 z L u
theorem L8(h:sG g k E)(z:k<(aA g).length):E (cf g k:Nat)=none:=by
 cases u:E (cf g k:Nat)with
 |none=>rfl
 |some L=>
  obtain⟨i,F,I⟩:=(h.1 _).1 (by rw[u];simp);have:=kU (g:=g) (i:=k) (j:=i) z (by omega) (by omega);omega
theorem L9(h:sG g (aA g).length E):bI g (Dn g 0 1) E:=by
 refine⟨λz=>?_,λc L I=>?_⟩
 .rw[h.1 z]
  constructor
  .rintro⟨i,u,F⟩;exact⟨_,F,(dS u).2⟩
  .rintro⟨c,rfl,I⟩
   obtain⟨i,u,F⟩:=oU I;exact⟨i,u,by rw[F]⟩
 .have:=h.2 _ _ I
  subst this;refine⟨λi j a b _ M=>by simp at M,λe=>?_⟩;constructor
  .intro h;simp at h
  .rintro⟨y,_,_,J,_⟩;exact absurd J (uR _ _)
theorem QR(a:Addr)(i j:Nat):(a.add i).add j=a.add (i+j):=by
 unfold Addr.add;by_cases u:i=0
 .subst u;simp
 .by_cases z:j=0
  .subst z;simp
  .rw[if_neg u,if_neg z,if_neg (by omega)]
   simp[Nat.add_assoc]
theorem Ints.drop{n m i:Nat}{f:Nat->Int}(h:Ints w A n f)(M:n<=m)(I:i<=n):Ints w (if m=i then A else A.map (·.add i)) (n-i) (λk=>f (i+k)):=by
 intro O;obtain⟨u,rfl,z,F⟩:=h (by omega);rw[if_neg (by omega)];refine⟨u.add i,rfl,by rw[add_block];exact z,λk J=>?_⟩;have e:(u.add i).add k=u.add (i+k):=QR u i k;rw[e];exact F (i+k) (by omega)
def PZ(w:World)(g:G)(v:Int)(e:Ending)(w':World):Prop:=
 ∃b p mb S E,e=.returned (.pointer (some ⟨b,0,none⟩))/\aD w' b p mb S g v E/\bI g (λ_ _=>True) E/\(∀k,k∈b::p::mb::S->w.heap.size<=k)/\Below w.heap.size w w'
theorem Bu(w:World)(q:Nat)(g:G)(v:Int)(h:az w q g v):Calls Tryz.prog 82 #[.pointer (some ⟨q,0,none⟩)] w (PZ w g v):=by
 have ax:=h.1;have ci:=G.bR ax;have b7:=@run_makeMap Tryz.prog;go_enter Tryz.func82,Tryz.ntmps82;go_wp2_with fail;(with_reducible refine(Bv _ q g v h).mono ?_);rintro e w1 ⟨rfl,ap,aq,ay⟩;go_upto_region 2 with(fail);clear b7;refine au ?_;intro W hW;have HW:Below w1.heap.size w1 W:=by rw[hW];(repeat' (first|exact Below.refl _ _|assumption|apply aj|apply ah|apply af|(refine aa ?_ (by assumption))))
 obtain⟨p,hp⟩:∃z,w.heap.size=z:=⟨_,rfl⟩;have cj:w.heap.size<=p:=by omega
 rw[hp]at ap hW ay;obtain⟨I,bb⟩:∃z,p+1=z:=⟨_,rfl⟩;rw[bb]at hW ay;obtain⟨b,hb⟩:∃z,I+1=z:=⟨_,rfl⟩;rw[hp,bb,hb];have l1:p<I:=by omega
 have l2:I<b:=by omega
 have hM:MapAt iK W I (λ_=>none) 0:=by
  rw[hW,<-ay];exact(MapAt.made w1).below (af (Below.refl _ _))
 have bt:W.heap[b]? =some (.cells #[.pointer (some ⟨p,0,none⟩),.map (some I)] 185 (0,0)):=by
  rw[hW];exact alloc_at _ _ (by simp;omega)
 have bj:dL W [] I (λ_=>none):=⟨_,0,hM,λk=>by simp,λk u L hu=>by simp at hu,λk u q hu=>by simp at hu,by simp,λk k' u u' q hu=>by simp at hu,λs hs=>by simp at hs⟩;have a1:aD W b p I [] g v (λ_=>none):=⟨bt,ap.below HW ap.lt,bj,by simp,by simp,by omega,by omega,by omega⟩;have a4:=aa aq HW;have hq:az W q g v:=h.below a4 h.lt;have br:I<W.heap.size:=hM.lt;clear hW HW hM bt bj ap aq ay hp bb hb;go_wp2_with fail;(with_reducible refine(Dt _ q g v hq).mono ?_);rintro e Z ⟨A,m,rfl,hm,hI,bi,ai⟩;have T:=a1.below ai;have bd:=aa a4 ai;obtain⟨n,hn⟩:∃n,(aA g).length=n:=⟨_,rfl⟩;have bc:=eQ ax;rw[hn]at hm hI bc⊢;have Hn:=hid hn;have ce:=hid ax;have O:sG g 0 (λ_=>none):=⟨λz=>by simp,λz L hz=>by simp at hz⟩;have HI:=hid hI;clear hn ax a1 a4 hq ai hI h
 have bh:∀ad,A=some ad->ad.block∉[I]:=λad e=>by
  have h1:=(bi ad e).1;have h2:=T.2.2.1.lt;have h3:=br;simp;omega
 have an:=hid bh;have hstart:∃E,aD Z b p I [] g v E/\sG g 0 E/\Kept [I] Z Z:=⟨_,T,O,Kept.refl _ _⟩;clear bh bi T O br;go_wp2_with fail;go_loopw [20] (λkv wr=>∃k:Nat,k<=n/\kv=.int .i64 k/\∃E,aD wr b p I [] g v E/\sG g k E/\Kept [I] Z wr) (λkv _=>n-(intOf kv).toNat)
 case atStart=>exact⟨0,by omega,rfl,hstart⟩
 case round=>
  obtain⟨k,hk,rfl,E,J,O,hK⟩:=hrel;clear hstart;by_cases aw:k<n
  .have M:=HI.out.kept hK an.out
   obtain⟨ad,hA⟩:=M.addr (by omega);rw[hA]at M;have bv:=λwx=>aX (m:=m) hA aw wx;have hE:=M.cell (Below.refl _ _) aw;rw[(dS (by rw[Hn.out];exact aw)).1]at hE;have am:=L8 O (by rw[Hn.out];exact aw);have ac:=Ma O;obtain⟨c,hc⟩:∃c,cf g k=c:=⟨_,rfl⟩;rw[hc]at hE am ac;have be:=hid ac;have ao:=hid J;obtain⟨g1,g2,g3,g4,g5,g6,g7,g8⟩:=J;obtain⟨V,N,q1,q2,q3,q4,q5,q6,q7⟩:=g3;have cm:wr.cell? ⟨b,1,none⟩=some (.map (some I)):=by simp[World.cell?,g1]
   have Q:=hid (And.intro q1 (And.intro q2 (And.intro q3 (And.intro q4 (And.intro q5 (And.intro q6 q7))))));clear M hA O am ac hc g1 g2 g4 g5 g6 g7 g8 q1 q2 q3 q4 q5 q6 q7;obtain⟨wU,hU,bp,a9⟩:=Q.out.1.store (aG Tryz.underlying3) Tryz.underlying137 (c:Int) (.slice none 0 0);have hU:(Instr.mapUpdate 137 (.map (some I)) (.int .i64 (c:Nat)) (.slice none 0 0)).run Tryz.prog wr=.ok () wU:=hU;have bk:=dL.add Q.out.1 Q.out.2.1 Q.out.2.2.1 Q.out.2.2.2.1 Q.out.2.2.2.2.1 Q.out.2.2.2.2.2.1 Q.out.2.2.2.2.2.2 bp a9;have T:=ao.out.put bk (λk hk=>.inl hk) a9;have F:∃E,aD wU b p I [] g v E/\sG g (k+1) E/\Kept [I] Z wU:=⟨_,T,be.out,hK.trans a9⟩;have F:=hid F;clear bk T bp;go_wp2;go_roundw
   case rel=>exact⟨k+1,by omega,by go_num,F.out⟩
   case measure=>simp[intOf];omega
  .obtain rfl:k=n:=by omega
   have P:bI g (Dn g 0 (0+1)) E:=L9 (by rw[Hn.out];exact O);have ab:∃S E,aD wr b p I S g v E/\bI g (Dn g 0 (0+1)) E/\(∀s∈S,Z.heap.size<=s)/\Kept [I] Z wr:=⟨[],E,J,P,by simp,hK⟩;clear J O P hK;go_wp2_with fail;obtain⟨wo,rfl⟩:∃wo:World,wo=wr:=⟨_,rfl⟩
   go_loopw [32] (λkv wr=>∃i:Nat,i<=k/\kv=.int .i64 i/\∃S E,aD wr b p I S g v E/\bI g (Dn g i (i+1)) E/\(∀s∈S,Z.heap.size<=s)/\Kept [I] Z wr) (λkv _=>k-(intOf kv).toNat)
   case atStart=>exact⟨0,by omega,rfl,ab⟩
   case round=>
    obtain⟨i,hi,rfl,S,E,J,P,U,hK⟩:=hrel;clear ab;by_cases ag:i<k
    .have M:=HI.out.kept hK an.out
     have B:=Ints.drop HI.out hm (show i+1<=k by omega);obtain⟨ad,hA⟩:=M.addr (by omega);have a8:=M;rw[hA]at a8;have bv:=λwx=>aX (m:=m) hA ag wx;have hE:=a8.cell (Below.refl _ _) ag;rw[(dS (by rw[Hn.out];exact ag)).1]at hE;obtain⟨x,hx⟩:∃x,cf g i=x:=⟨_,rfl⟩;rw[hx]at hE;have Hx:=hid hx;have a5:=hid B;have ao:=hid J;have bg:=hid P;have b9:IntKind.i64.wrap ((i:Int)+1)=(i:Int)+1:=IntWalk.i64_in _ (by omega);have aq:(0:Int)<=(i:Int)+1:=by omega
     have ai:(i:Int)+1<=(k:Int):=by omega
     have b4:i+1<=k:=by omega
     have b5:i+1<=m:=by omega
     have b6:((i:Int)+1).toNat=i+1:=by omega
     clear M a8 hA hx B J P;go_upto_region 11 with(fail);go_cut [40,41,42] (λsv lv zv wx=>∃A' m',sv=.slice A' (k-(i+1)) m'/\Ints Z A' (k-(i+1)) (λt=>(aA g).getD (i+1+t) 0)/\(∀ad,A'=some ad->ad.block∉[I])/\lv=.int .i64 ((k-(i+1):Nat):Int)/\zv=.int .i64 (0:Nat)/\wx=wr)
     case first=>
      by_cases bx:m=i+1
      .have B:=a5.out
       rw[if_pos bx]at B;go_wp2;go_meet
       case rel=>exact⟨_,_,rfl,B,an.out,rfl,rfl,rfl⟩
      .have B:=a5.out
       rw[if_neg bx]at B;go_wp2;go_meet
       case rel=>
        refine⟨_,_,rfl,by simpa[Addr.add]using B,?_,rfl,rfl,rfl⟩;intro cg e;cases A with
        |none=>simp at e
        |some a0=>
         simp at e;rw[<-e];exact an.out a0 rfl
     case rest=>
     obtain⟨A',m',rfl,a7,hA2,rfl,rfl,aE⟩:=hcut;have aE:wc=wr:=aE;rw[aE];obtain⟨r,hr⟩:∃r,k-(i+1)=r:=⟨_,rfl⟩;rw[hr]at a7⊢;have b2:=hid a7;have b1:=hid hA2;have R:∃S E,aD wr b p I S g v E/\bI g (Dn g i (i+1+0)) E/\(∀s∈S,Z.heap.size<=s)/\Kept [I] Z wr:=⟨S,E,ao.out,bg.out,U,hK⟩;have ca:g.ak x:=by rw[<-Hx.out];exact(dS (by rw[Hn.out];exact ag)).2
     clear aE hE bv a5 a7 hA2 ao bg U hK b9 aq ai b4 b5 b6;obtain⟨w0,b0⟩:∃z:World,wr=z:=⟨_,rfl⟩;rw[b0]at R⊢;clear b0;go_wp2_with fail;obtain⟨wp,rfl⟩:∃wp:World,wp=wr:=⟨_,rfl⟩
     go_loopw [42] (λkv wr=>∃j:Nat,j<=r/\kv=.int .i64 j/\∃S E,aD wr b p I S g v E/\bI g (Dn g i (i+1+j)) E/\(∀s∈S,Z.heap.size<=s)/\Kept [I] Z wr) (λkv _=>r-(intOf kv).toNat)
     case atStart=>exact⟨0,by omega,rfl,R⟩
     case round=>
      obtain⟨j,hj,rfl,S,E,J,P,U,hK⟩:=hrel;clear R;by_cases a2:j<r
      .have M:=b2.out.kept hK b1.out
       obtain⟨ch,hA1⟩:=M.addr (by omega);rw[hA1]at M;have bw:=λwx=>aX (m:=m') hA1 a2 wx;have a6:=M.cell (Below.refl _ _) a2;have al:i+1+j<(aA g).length:=by rw[Hn.out];omega
       rw[(dS al).1]at a6;obtain⟨y,hy⟩:∃y,cf g (i+1+j)=y:=⟨_,rfl⟩;have cd:g.ak y:=by rw[<-hy];exact(dS al).2
       rw[hy]at a6
       have cb:x≠y:=by
        rw[<-Hx.out,<-hy];have:=Fq (g:=g) (show i<i+1+j by omega) al;omega
       have ar:=DF (g:=g) (show i<i+1+j by omega) al;have ba:=kV (g:=g) (show i<i+1+j by omega) al;rw[Hx.out,hy]at ar ba;have ck:(0:Int)<=(j:Int):=by omega
       have cl:(j:Int)<(r:Int):=by omega
       have cL:=hid (Iq wr b p I S g v E _ x y J P ca cd cb ar.1 ar.2);have b3:=hid ba;clear M hA1 hy J P ar ba;go_wp2_with fail
       (refine cL.out.mono ?_)
       rintro e w4 ⟨rfl,S',E',aS,a3,bq,bm⟩;have bo:=Lm hK bm U
       have F:∃S E,aD w4 b p I S g v E/\bI g (Dn g i (i+1+(j+1))) E/\(∀s∈S,Z.heap.size<=s)/\Kept [I] Z w4:=by
        refine⟨S',E',aS,a3.congr (λc y _ _ _=>b3.out c y),λs hs=>?_,bo⟩;rcases bq s hs with q|q
        .exact U s q
        .have:=hK.size;omega
       have F:=hid F;clear aS a3 bq bm bo cL a6 bw;go_wp2;go_roundw
       case rel=>exact⟨j+1,by omega,by go_num,F.out⟩
       case measure=>simp[intOf];omega
      .obtain rfl:j=r:=by omega
       have F:∃S E,aD wr b p I S g v E/\bI g (Dn g (i+1) (i+1+1)) E/\(∀s∈S,Z.heap.size<=s)/\Kept [I] Z wr:=
        ⟨S,E,J,P.congr (λc y _ _ _=>KI (by rw[Hn.out];omega) c y),U,hK⟩
       have F:=hid F;clear J P U hK;go_wp2;go_roundw
       case rel=>first|exact⟨i+1,by omega,by go_num,F.out⟩|((repeat apply Exists.intro);exact⟨⟨i+1,by omega,by go_num,F.out⟩,rfl⟩)
       case measure=>simp[intOf];omega
    .obtain rfl:i=k:=by omega
     have F:PZ w g v (.returned (.pointer (some ⟨b,0,none⟩))) wr:=by
      have b8:=bd.size;refine⟨b,p,I,S,E,rfl,J,P.congr (λc y h1 h2 h3=>⟨λ_=>trivial,λ_=>oZ (by rw[Hn.out];omega) h1 h2 h3⟩),?_,Kept.below bd hK b8 (by simp;omega)⟩;intro t ht;rcases List.mem_cons.1 ht with e|ht
      .omega
      rcases List.mem_cons.1 ht with e|ht
      .omega
      rcases List.mem_cons.1 ht with e|ht
      .omega
      have:=U t ht;omega
     have F:=hid F;clear J P U hK;go_wp2;go_ret;exact F.out
def vL(L:List Ed)(x:Ed):List Ed:=if fV L x.to_=true then L.set (dV L x.to_) x else ll L x
theorem MQ(J:sJ L)(x:Ed):sJ (vL L x):=by
 unfold vL;by_cases h:fV L x.to_=true
 .rw[if_pos h]
  obtain⟨e,M,g⟩:=(o7 J x.to_).2 h;obtain⟨m,Z⟩:∃m,dV L x.to_=m:=⟨_,rfl⟩;rw[Z]at M⊢
  have u:∀(k:Nat)(y:Ed),(L.set m x)[k]? =some y->∃z:Ed,L[k]? =some z/\z.to_=y.to_:=λk y F=>by
   rw[List.getElem?_set]at F;split at F
   .rename_i q
    subst q;split at F
    .injection F with F
     exact⟨e,M,by rw[g,F]⟩
    .cases F
   .exact⟨y,F,rfl⟩
  intro i j a b I T U;obtain⟨O,Q,B⟩:=u i a T;obtain⟨P,R,S⟩:=u j b U;have:=J i j O P I Q R;omega
 .rw[if_neg h]
  exact mH J (by simpa using h)
theorem LP(O:sJ L):e∈vL L x↔e=x\/(e∈L/\e.to_≠x.to_):=by
 unfold vL;by_cases h:fV L x.to_=true
 .rw[if_pos h]
  obtain⟨y,F,R⟩:=(o7 O x.to_).2 h;obtain⟨m,Q⟩:∃m,dV L x.to_=m:=⟨_,rfl⟩;rw[Q]at F⊢;have I:=(List.getElem?_eq_some_iff.1 F).1;constructor
  .intro J
   obtain⟨k,u⟩:=List.getElem?_of_mem J;rw[List.getElem?_set]at u;by_cases q:m=k
   .rw[if_pos q,if_pos I]at u
    injection u with u;exact .inl u.symm
   .rw[if_neg q]at u
    refine .inr ⟨List.mem_of_getElem? u,λP=>?_⟩;rcases Nat.lt_or_gt_of_ne q with r|r
    .have:=O m k y e r F u;omega
    .have:=O k m e y r u F;omega
  .rintro(rfl|⟨J,M⟩)
   .exact List.mem_of_getElem? (i:=m) (by rw[List.getElem?_set,if_pos rfl,if_pos I])
   .obtain⟨k,u⟩:=List.getElem?_of_mem J
    have q:m≠k:=λq=>by subst q;rw[u]at F;injection F with F;subst F;exact M R
    exact List.mem_of_getElem? (i:=k) (by rw[List.getElem?_set,if_neg q];exact u)
 .rw[if_neg h,mE]
  constructor
  .rintro(z|z)
   .exact .inl z
   .exact .inr ⟨z,λP=>h (jI.2 ⟨e,z,P⟩)⟩
  .rintro(z|⟨z,_⟩)
   .exact .inl z
   .exact .inr z
