/- Lemmas of this claim: Edge, Ins, Bin, Graph1, Graph2, Graph3, Graph4, Lv0. -/
import Derived.Lib.AppendZerosOnto
import Derived.Lib.Overlaps
import Derived.Laws.CopyRow
import Derived.Deep.RegionLaw
import Derived.Test.YtokhnobcincfjaaGreatDoorKNFr15
import Derived.Deep.RegionHeld3
set_option linter.unusedVariables false
set_option linter.unusedSimpArgs false
set_option maxHeartbeats 3200000
set_option maxRecDepth 100000
namespace Go.Proofs.YtokhnobcincfjaaGreatDoor
open Go.RowKit Go.Sort FR
structure Ed where
 to_:Int
 c:C
 mid:Int
def Ed.cells (e:Ed):List Value:=[.int .i64 e.to_,.int .i64 e.c.s,.int .i64 e.c.d,.int .i64 e.mid]
def edL (L:List Ed):List Value:=L.flatMap Ed.cells
theorem edL_nil:edL []=[]:=rfl
theorem edL_cons (e:Ed) (L:List Ed):edL (e :: L)=e.cells ++ edL L:=by simp [edL]
theorem edL_append (L M:List Ed):edL (L ++ M)=edL L ++ edL M:=by simp [edL]
theorem edL_length:∀L:List Ed,(edL L).length=L.length*4
 | []=>rfl
 | e :: L=>by rw [edL_cons,List.length_append,edL_length L,List.length_cons];simp [Ed.cells];omega
theorem edL_take:∀(L:List Ed) (k:Nat),(edL L).take (k*4)=edL (L.take k)
 | [],k=>by simp [edL]
 | e :: L,0=>by simp [edL]
 | e :: L,k+1=>by
  rw [edL_cons,List.take_succ_cons,edL_cons,show (k+1)*4=4+k*4 by omega,←edL_take L k]
  rw [show 4+k*4=k*4+4 by omega]
  simp [Ed.cells]
theorem edL_drop:∀(L:List Ed) (k:Nat),(edL L).drop (k*4)=edL (L.drop k)
 | [],k=>by simp [edL]
 | e :: L,0=>by simp [edL]
 | e :: L,k+1=>by
  rw [edL_cons,List.drop_succ_cons,show (k+1)*4=4+k*4 by omega,←edL_drop L k]
  rw [List.drop_append,List.drop_eq_nil_of_le (by simp [Ed.cells])]
  simp [Ed.cells]
theorem ed_one (e:Ed):∀v∈e.cells,v.oneCell'=true:=by
 intro v hv;simp [Ed.cells] at hv
 rcases hv with rfl | rfl | rfl | rfl <;> rfl
theorem edL_one (L:List Ed):∀v∈edL L,v.oneCell'=true:=by
 intro v hv;simp only [edL,List.mem_flatMap] at hv;obtain ⟨e,_,he⟩:=hv;exact ed_one e v he
def OwnE (w:World) (B:Nat) (v:Value) (L:List Ed):Prop:=w.ownsRow B 182 4 v L.length (edL L)
theorem OwnE.nil (w:World) (B:Nat):OwnE w B (.slice none 0 0) []:=⟨rfl,.inl ⟨rfl,rfl⟩⟩
theorem run_copy_rowK {P : Program} (w : World) (dT sT ty elem : TypeId) (sz g off dLen dCap : Nat) (ad : Addr) (sLen sCap : Nat) (cur : Array Value) (t : TypeId) (cs : List Value)
    (hu:P.underlying dT=some (.slice elem)) (hs:(P.info? elem).map (·.size)=some sz) (hg:w.heap[g]? = some (.cells cur t (0,0))) (hn:cs.length=Nat.min sLen dLen*sz)
    (hsrc:∀j v,cs[j]? = some v→w.cell? (ad.add j)=some v) (hfit:off+cs.length≤cur.size) (h1:∀v∈cs,v.oneCell'=true) :
    (Builtin.copy_ #[dT,sT] ty #[.slice (some ⟨g,off,none⟩) dLen dCap,.slice (some ad) sLen sCap]).run P w=.ok (goInt (Nat.min sLen dLen)) (w.setRow g (cur.toList.take off ++ cs ++ cur.toList.drop (off+cs.length)).toArray):=by
 have hl:=run_loadCells_list (P:=P) w ad cs hsrc
 have hst:=run_storeCells_at P g off t cs 0 cur w hg (by simpa using hfit) h1
 cases hq:P.info? elem with
 | none=>simp [hq] at hs
 | some i=>
  have hi:i.size=sz:=by simpa [hq] using hs
  simp only [Nat.add_zero] at hst;simp [Builtin.copy_,run_underlying hu,Builtin.lenOf,Builtin.firstCells,sizeOf,typeInfo,hq,hi,←hn,hl,hst]
theorem wpList_copy_runE {P : Program} (w : World) {ops : Array Oper} {rest : List Oper} {o : Oper} {a : Act} {Q : Exit → Act → World → Prop} (hgd : o.guard = none) (d s : Operand) (t t' : TypeId)
    (ho:o.op=.call { callee:=.builtin .copy,args:=#[d,s],argTypes:=#[t,t'] }) (v u:Value) (hd:a.eval d=v) (hs:a.eval s=u) {v':Value} {w':World}
    (hr:(Builtin.copy_ #[t,t'] o.type #[v,u]).run P w=.ok v' w') (h:wpList P ops Q rest (a.put o.dst v') w'):wpList P ops Q (o :: rest) a w:=
 wpList_plain hgd fun _ hK=>by
  unfold Oper.wp execOp;simp only [ho,resolve,invoke,builtin,Sem.run_bind,Sem.run_pure,Result.andThen_ok,List.map_toArray,List.map_cons,List.map_nil,hd,hs,hr];exact hK _ _ h
theorem step_copy_runE {P : Program} {ops : Array Oper} {o : Oper} {a : Act} {w : World} {K : Act → World → Prop} {Q : Exit → Act → World → Prop} {E : Prop}
    (hg:o.guard=none) (d x:Operand) (dT sT:TypeId) (hop:o.op=Op.call { callee:=Callee.builtin Builtin.copy,args:=#[d,x],argTypes:=#[dT,sT] })
    (v u:Value) (hd:a.eval d=v) (hx:a.eval x=u) {v':Value} {w':World} (hr:(Builtin.copy_ #[dT,sT] o.type #[v,u]).run P w=.ok v' w') (hK:K (a.put o.dst v') w') :
    if Region.wanted o (yielded ops a.tmps)=true then Oper.wp P o a w K Q else E:=by
 have hw:Region.wanted o (yielded ops a.tmps)=true:=by simp [Region.wanted,hg]
 rw [if_pos hw];unfold Oper.wp;simp [execOp,hop,resolve,invoke,builtin,hd,hx,hr,Result.andThen];exact hK
end Go.Proofs.YtokhnobcincfjaaGreatDoor
namespace Go.Proofs.YtokhnobcincfjaaGreatDoor
open Go.RowKit Go.Sort FR Go.Lib
theorem edge_info:(Tryz.prog.info? 182).map (fun i=>(i.zero.map fun z=>z.cells.size,i.size,i.bytes))=some (some 4,4,32):=by kernel_rfl
theorem edge_parts:∃i z,Tryz.prog.info? 182=some i∧i.zero=some z∧i.size=4∧i.bytes=32∧z.cells.size=4:=by
 obtain ⟨i,hi,h⟩:=Option.map_eq_some_iff.1 edge_info;simp only [Prod.mk.injEq] at h;obtain ⟨h1,h2,h3⟩:=h;obtain ⟨z,hz,h4⟩:=Option.map_eq_some_iff.1 h1;exact ⟨i,z,hi,hz,h2,h3,h4⟩
def InsD (w:World) (B:Nat) (v:Value) (L:List Ed) (e:Ending) (w':World):Prop:=
 ∃v',e=.returned v'∧OwnE w' B v' L∧w.grownBy w' v.ownBlock∧(v'.ownBlock=v.ownBlock∨v'.ownBlock=some w.heap.size)
theorem new_edge {w:World} {xb:Nat} {x:Ed} (hx:w.heap[xb]? = some (.cells x.cells.toArray 182 (0,0))):∀j u,x.cells[j]? = some u→w.cell? ⟨xb,j,none⟩=some u:=by
 intro j u h;simp [World.cell?,hx,h]
theorem insEnd (w : World) (B : Nat) (A : Option Addr) (L : List Ed) (n cap xb : Nat) (x : Ed) (h : OwnE w B (.slice A n cap) L) (hn : L.length = n) (hx : w.heap[xb]? = some (.cells x.cells.toArray 182 (0, 0))) (hB : B ≤ w.heap.size) (hl : n ≤ 100000) :
    Calls Tryz.prog 218 #[.slice A n cap,.int .i64 (n:Nat),.slice (some ⟨xb,0,none⟩) 1 1] w (InsD w B (.slice A n cap) (L ++ [x])):=by
 obtain ⟨i0,z0,hi,hz0,hz1,hz2,hz3⟩:=edge_parts;have hx1:=new_edge hx;subst hn
 have hfin:∀v' w',w'.ownsRow B 182 4 v' (L.length+1) (edL L ++ x.cells)→w.grownBy w' (Value.slice A L.length cap).ownBlock→(v'.ownBlock=(Value.slice A L.length cap).ownBlock∨v'.ownBlock=some w.heap.size)→InsD w B (.slice A L.length cap) (L ++ [x]) (.returned v') w':=by
  intro v' w' h1 h2 h3;refine ⟨v',rfl,?_,h2,h3⟩;unfold OwnE;rw [List.length_append,edL_append,edL_cons,edL_nil,List.append_nil];exact h1
 have hfin:=Lib.hid hfin
 by_cases hcap:cap=L.length
 ·subst hcap
  go_enter Tryz.func218,Tryz.ntmps218
  go_upto_region 7 with (fail)
  go_wp2_with (at_builtin;(refine wpList_append_own_at w rfl _ _ 119 rfl B 182 i0 z0 4 32 Tryz.underlying119 hi hz0 hz1 hz2 hz3 (by decide) _ L.length (edL L) rfl h ⟨xb,0,none⟩ 1 1 x.cells rfl rfl (fun j u hu=>by rw [Addr.add_lit,Nat.zero_add];exact hx1 j u hu) (ed_one x) (by unfold maxLen;omega) (by omega) hB ?_);intro v' w' h1 h2 _ h4)
  go_ret;exact hfin.out _ _ h1 h2 h4
 ·go_enter Tryz.func218,Tryz.ntmps218
  go_upto_region 7 with (fail)
  go_wp2_with (at_builtin;(refine wpList_append_own_at w rfl _ _ 119 rfl B 182 i0 z0 4 32 Tryz.underlying119 hi hz0 hz1 hz2 hz3 (by decide) _ L.length (edL L) rfl h ⟨xb,0,none⟩ 1 1 x.cells rfl rfl (fun j u hu=>by rw [Addr.add_lit,Nat.zero_add];exact hx1 j u hu) (ed_one x) (by unfold maxLen;omega) (by omega) hB ?_);intro v' w' h1 h2 _ h4)
  go_ret;exact hfin.out _ _ h1 h2 h4
theorem setRow_grown {w w':World} {g:Nat} (h:w.grownBy w' (some g)) (cs:Array Value):w.grownBy (w'.setRow g cs) (some g):=
 ⟨h.os,h.tape,h.output,by simpa [World.setRow] using h.size,fun k hk hn=>(setRow_other w' g k cs (fun e=>hn (by rw [e]))).trans (h.block k hk hn)⟩
theorem shift_row (cur : List Value) (L : List Ed) (x : Ed) (i : Nat) (hi : i ≤ L.length) (h : cur.take (L.length * 4) = edL L) (hl : (L.length + 1) * 4 ≤ cur.length) (R : List Value) :
    ((cur.take ((i+1)*4) ++ edL (L.drop i) ++ R).toArray.toList.take (i*4) ++ x.cells ++ (cur.take ((i+1)*4) ++ edL (L.drop i) ++ R).toArray.toList.drop (i*4+x.cells.length)).toArray.toList.take ((L.length+1)*4)=edL (L.take i) ++ (x.cells ++ edL (L.drop i)):=by
 have l1:(cur.take ((i+1)*4)).length=(i+1)*4:=by rw [List.length_take];omega
 have l2:(edL (L.drop i)).length=(L.length-i)*4:=by rw [edL_length,List.length_drop]
 have l3:(edL (L.take i)).length=i*4:=by rw [edL_length,List.length_take];omega
 have lx:x.cells.length=4:=rfl
 have e1:(cur.take ((i+1)*4) ++ edL (L.drop i) ++ R).take (i*4)=edL (L.take i):=by
  rw [List.append_assoc,List.take_append_of_le_length (by omega),List.take_take,Nat.min_eq_left (by omega),←edL_take,←h,List.take_take,Nat.min_eq_left (by omega)]
 have e2:(cur.take ((i+1)*4) ++ edL (L.drop i) ++ R).drop (i*4+4)=edL (L.drop i) ++ R:=by
  rw [List.append_assoc,List.drop_append,List.drop_eq_nil_of_le (by omega),l1,show i*4+4-(i+1)*4=0 by omega]
  rfl
 simp only [lx,e1,e2]
 have e3:edL (L.take i) ++ x.cells ++ (edL (L.drop i) ++ R)=(edL (L.take i) ++ (x.cells ++ edL (L.drop i))) ++ R:=by simp
 rw [e3]
 exact List.take_left' (by simp only [List.length_append,l2,l3,lx];omega)
theorem insRoom (w : World) (B g : Nat) (L : List Ed) (i n cap xb : Nat) (x : Ed) (h : OwnE w B (.slice (some ⟨g, 0, none⟩) n cap) L) (hn : L.length = n) (hi : i < n) (hroom : n + 1 ≤ cap) (hx : w.heap[xb]? = some (.cells x.cells.toArray 182 (0, 0))) (hne : xb ≠ g) (hl : n ≤ 100000) :
    Calls Tryz.prog 218 #[.slice (some ⟨g,0,none⟩) n cap,.int .i64 (i:Nat),.slice (some ⟨xb,0,none⟩) 1 1] w (InsD w B (.slice (some ⟨g,0,none⟩) n cap) (L.take i ++ x :: L.drop i)):=by
 obtain ⟨i0,z0,hin,hz0,hz1,hz2,hz3⟩:=edge_parts;have hx1:=new_edge hx;obtain ⟨hlen,h'⟩:=h
 rcases h' with ⟨h',_⟩ | ⟨g',cap',cur,h',hbg,hg,hnc,hcm,hcs,htake⟩
 ·simp at h'
 simp only [Value.slice.injEq,Option.some.injEq,Addr.mk.injEq,and_true,true_and] at h';obtain ⟨rfl,_,rfl⟩:=h';subst hn
 have hsz:(Tryz.prog.info? 182).map (·.size)=some 4:=by rw [hin];simp [hz1]
 have hdl:(edL (L.drop i)).length=(L.length-i)*4:=by rw [edL_length,List.length_drop]
 have hcur:∀j v,j<L.length*4→(edL L)[j]? = some v→w.cell? ⟨g,j,none⟩=some v:=by
  intro j v hj hv;rw [←htake,List.getElem?_take,if_pos hj,Array.getElem?_toList] at hv;simp [World.cell?,hg,hv]
 have hcz:cur.size≠0:=by rw [hcs];omega
 have hov:∀lb cb,(callFunc 250 #[.slice (some ⟨xb,0,none⟩) 1 1,.slice (some ⟨g,(i+1)*4,none⟩) lb cb]).run Tryz.prog w=.ok (.value (.bool false)) w:=fun lb cb=>by
  rw [run_callFunc_extern Tryz.func250 (by kernel_rfl) (by kernel_rfl) (by kernel_rfl) (e:=Extern.SlicesOverlaps.overlaps #[119,119] #[4]) (by kernel_rfl),
   Lib.run_overlaps_apart w 119 4 182 Tryz.underlying119 4 Tryz.sizeOf182 ⟨xb,0,none⟩ ⟨g,(i+1)*4,none⟩ 1 1 lb cb hne 182 182 4 cur.size
    (by simp [World.shape?,hx,Ed.cells]) (by simp [World.shape?,hg]) hcz (by simp [World.frozen?,hx]) (by simp [World.frozen?,hx])]
  rfl
 -- the first copy
 have hfit1:(i+1)*4+(edL (L.drop i)).length≤cur.size:=by rw [hdl,hcs];omega
 have hcp1 : ∀ ty dc sc, (Builtin.copy_ #[119, 119] ty #[.slice (some ⟨g, (i + 1) * 4, none⟩) (L.length - i) dc, .slice (some ⟨g, i * 4, none⟩) (L.length + 1 - i) sc]).run Tryz.prog w.drew =
     .ok (goInt ((L.length-i:Nat):Int)) (w.drew.setRow g (cur.toList.take ((i+1)*4) ++ edL (L.drop i) ++ cur.toList.drop ((i+1)*4+(edL (L.drop i)).length)).toArray):=fun ty dc sc=>by
  have:=run_copy_rowK (P:=Tryz.prog) w.drew 119 119 ty 182 4 g ((i+1)*4) (L.length-i) dc ⟨g,i*4,none⟩ (L.length+1-i) sc cur 182 (edL (L.drop i)) Tryz.underlying119 hsz hg
   (by rw [hdl];simp only [Nat.min_def];split <;> omega)
   (fun j v hj=>by
    rw [Addr.add_lit];rw [←edL_drop,List.getElem?_drop] at hj;refine hcur _ v ?_ hj;have:=(List.getElem?_eq_some_iff.1 hj).1
    rwa [edL_length] at this)
   hfit1 (edL_one _)
  rw [show Nat.min (L.length+1-i) (L.length-i)=L.length-i by simp only [Nat.min_def];split <;> omega] at this
  exact this
 obtain ⟨cur1,hcur1⟩:∃c1,(cur.toList.take ((i+1)*4) ++ edL (L.drop i) ++ cur.toList.drop ((i+1)*4+(edL (L.drop i)).length)).toArray=c1:=⟨_,rfl⟩;rw [hcur1] at hcp1
 have hz1:cur1.size=cur.size:=by rw [←hcur1];simp;omega
 obtain ⟨W1,hW1⟩:∃W1,w.drew.setRow g cur1=W1:=⟨_,rfl⟩;rw [hW1] at hcp1
 have hg1:W1.heap[g]? = some (.cells cur1 182 (0,0)):=by rw [←hW1];exact setRow_heap w.drew g _ _ _ _ hg
 have hgr1:w.grownBy W1 (some g):=by rw [←hW1];exact setRow_grown (w:=w) (w':=w.drew) ⟨rfl,rfl,rfl,Nat.le_refl _,fun _ _ _=>rfl⟩ _
 have hxw:xb<w.heap.size:=(Array.getElem?_eq_some_iff.1 hx).1
 have hxW:W1.heap[xb]? = some (.cells x.cells.toArray 182 (0,0)):=(hgr1.block xb hxw (by simpa using hne)).trans hx
 have hx2:=new_edge hxW
 -- the second one
 have hcp2 : ∀ ty dc, (Builtin.copy_ #[119, 119] ty #[.slice (some ⟨g, i * 4, none⟩) (L.length + 1 - i) dc, .slice (some ⟨xb, 0, none⟩) 1 1]).run Tryz.prog W1 =
     .ok (goInt ((1:Nat):Int)) (W1.setRow g (cur1.toList.take (i*4) ++ x.cells ++ cur1.toList.drop (i*4+x.cells.length)).toArray):=fun ty dc=>by
  have:=run_copy_rowK (P:=Tryz.prog) W1 119 119 ty 182 4 g (i*4) (L.length+1-i) dc ⟨xb,0,none⟩ 1 1 cur1 182 x.cells Tryz.underlying119 hsz hg1
   (by simp only [Nat.min_def];split <;> simp [Ed.cells] <;> omega)
   (fun j v hj=>by rw [Addr.add_lit,Nat.zero_add];exact hx2 j v hj)
   (by rw [hz1,hcs];simp [Ed.cells];omega) (ed_one _)
  rw [show Nat.min 1 (L.length+1-i)=1 by simp only [Nat.min_def];split <;> omega] at this
  exact this
 obtain ⟨cur2,hcur2⟩:∃c1,(cur1.toList.take (i*4) ++ x.cells ++ cur1.toList.drop (i*4+x.cells.length)).toArray=c1:=⟨_,rfl⟩;rw [hcur2] at hcp2
 have hz2:cur2.size=cur.size:=by rw [←hcur2,←hz1];simp [Ed.cells];omega
 have hfin:InsD w B (.slice (some ⟨g,0,none⟩) L.length cap) (L.take i ++ x :: L.drop i) (.returned (.slice (some ⟨g,0,none⟩) (L.length+1) cap)) (W1.setRow g cur2):=by
  have hl2:(L.take i ++ x :: L.drop i).length=L.length+1:=by simp;omega
  refine ⟨_,rfl,⟨?_,.inr ⟨g,cap,cur2,by rw [hl2],hbg,setRow_heap W1 g _ _ _ _ hg1,by rw [hl2];exact hroom,hcm,by rw [hz2,hcs],?_⟩⟩,setRow_grown hgr1 _,.inl rfl⟩
  ·rw [edL_length]
  ·rw [hl2,edL_append,edL_cons,←hcur2,←hcur1]
   exact shift_row cur.toList L x i (by omega) htake (by have:cur.toList.length=cur.size:=Array.length_toList;omega) _
 have hfin:=Lib.hid hfin
 have hw1:IntKind.i64.wrap ((i:Int)+1)=(i:Int)+1:=by rw [IntKind.wrap_i64];omega
 have hz3:¬((i:Int)=(L.length:Int)):=by omega
 have htn:((i:Int)+1).toNat=i+1:=by omega
 have hin2:i≤L.length:=by omega
 have hin3:i≤L.length+1:=by omega
 have hb1:(0:Int)≤(i:Int)+1:=by omega
 have hb2:¬(cap=i+1):=by omega
 have hb4:¬(cap=i):=by omega
 have hb3:(i:Int)≤(L.length:Int)+1:=by omega
 clear hcur hcur1 hcur2 hdl hfit1 htake hlen hbg hcs hx1 hx2;go_enter Tryz.func218,Tryz.ntmps218;go_wp2_with (simp only [hov])
 go_region_law (refine step_copy_runE rfl _ _ 119 119 rfl _ _ (by simp [Act.eval,Act.put]) (by simp [Act.eval,Act.put]) (hcp1 _ _ _) ?_)
 go_wp2_with (at_builtin;refine wpList_copy_runE _ rfl _ _ 119 119 rfl _ _ rfl rfl (by first | exact hcp2 _ _ | (rw [hW1];exact hcp2 _ _)) ?_)
 go_ret;exact hfin.out
theorem fill_row (R : List Value) (L : List Ed) (x : Ed) (i : Nat) (hi : i ≤ L.length) (h : R.take (i * 4) = edL (L.take i)) (hl : (L.length + 1) * 4 ≤ R.length) :
    ((R.take (i*4) ++ x.cells ++ R.drop (i*4+x.cells.length)).toArray.toList.take ((i+1)*4) ++ edL (L.drop i) ++ (R.take (i*4) ++ x.cells ++ R.drop (i*4+x.cells.length)).toArray.toList.drop ((i+1)*4+(edL (L.drop i)).length)).toArray.toList.take ((L.length+1)*4)=edL (L.take i) ++ (x.cells ++ edL (L.drop i)):=by
 have l2:(edL (L.drop i)).length=(L.length-i)*4:=by rw [edL_length,List.length_drop]
 have l3:(edL (L.take i)).length=i*4:=by rw [edL_length,List.length_take];omega
 have lx:x.cells.length=4:=rfl;rw [h]
 have e1:(edL (L.take i) ++ x.cells ++ R.drop (i*4+x.cells.length)).toArray.toList.take ((i+1)*4)=edL (L.take i) ++ x.cells:=
  List.take_left' (by simp only [List.length_append,l3,lx];omega)
 rw [e1]
 generalize (edL (L.take i) ++ x.cells ++ R.drop (i*4+x.cells.length)).toArray.toList.drop ((i+1)*4+(edL (L.drop i)).length)=T
 have e2:edL (L.take i) ++ x.cells ++ edL (L.drop i) ++ T=(edL (L.take i) ++ (x.cells ++ edL (L.drop i))) ++ T:=by simp
 rw [e2]
 exact List.take_left' (by simp only [List.length_append,l2,l3,lx];omega)
theorem setRow_grown2 {w w':World} {g H:Nat} (h:w.grownBy w' (some g)) (hH:w.heap.size≤H) (cs:Array Value):w.grownBy (w'.setRow H cs) (some g):=
 ⟨h.os,h.tape,h.output,by simpa [World.setRow] using h.size,fun k hk hn=>(setRow_other w' H k cs (by omega)).trans (h.block k hk hn)⟩
theorem insGrow (w : World) (B g : Nat) (L : List Ed) (i n cap xb : Nat) (x : Ed) (h : OwnE w B (.slice (some ⟨g, 0, none⟩) n cap) L) (hn : L.length = n) (hi : i < n) (hroom : cap < n + 1) (hx : w.heap[xb]? = some (.cells x.cells.toArray 182 (0, 0))) (hB : B ≤ w.heap.size) (hl : n ≤ 100000) :
    Calls Tryz.prog 218 #[.slice (some ⟨g,0,none⟩) n cap,.int .i64 (i:Nat),.slice (some ⟨xb,0,none⟩) 1 1] w (InsD w B (.slice (some ⟨g,0,none⟩) n cap) (L.take i ++ x :: L.drop i)):=by
 obtain ⟨i0,z0,hin,hz0,hz1,hz2,hz3⟩:=edge_parts;have hx1:=new_edge hx;obtain ⟨hlen,h'⟩:=h
 rcases h' with ⟨h',_⟩ | ⟨g',cap',cur,h',hbg,hg,hnc,hcm,hcs,htake⟩
 ·simp at h'
 simp only [Value.slice.injEq,Option.some.injEq,Addr.mk.injEq,and_true,true_and] at h';obtain ⟨rfl,_,rfl⟩:=h';subst hn
 have hsz:(Tryz.prog.info? 182).map (·.size)=some 4:=by rw [hin];simp [hz1]
 have hdl:(edL (L.drop i)).length=(L.length-i)*4:=by rw [edL_length,List.length_drop]
 have htl:(edL (L.take i)).length=i*4:=by rw [edL_length,List.length_take];omega
 have hgw:g<w.heap.size:=(Array.getElem?_eq_some_iff.1 hg).1;have hxw:xb<w.heap.size:=(Array.getElem?_eq_some_iff.1 hx).1
 have hcur:∀j v,j<L.length*4→(edL L)[j]? = some v→w.cell? ⟨g,j,none⟩=some v:=by
  intro j v hj hv;rw [←htake,List.getElem?_take,if_pos hj,Array.getElem?_toList] at hv;simp [World.cell?,hg,hv]
 have hkk:(L.length:Int)+1-(i:Int)=((L.length+1-i:Nat):Int):=by omega
 have hik:i+(L.length+1-i)=L.length+1:=by omega
 have hold:(Builtin.firstCells i0.size i (.slice (some ⟨g,0,none⟩) i cap)).run Tryz.prog w.drew=.ok (edL (L.take i)).toArray w.drew:=by
  rw [hz1]
  exact run_firstCells_some w.drew 4 i ⟨g,0,none⟩ i cap (edL (L.take i)) htl (fun j v hj=>by
   rw [Addr.add_lit,Nat.zero_add];have hj2:=(List.getElem?_eq_some_iff.1 hj).1;rw [←edL_take,List.getElem?_take] at hj
   split at hj
   ·exact hcur j v (by omega) hj
   ·cases hj)
 have hrz : ∀ ty, (Builtin.append_ #[119, 3] ty #[.slice (some ⟨g, 0, none⟩) i cap, .int .i64 ((L.length : Int) + 1 - (i : Int))]).run Tryz.prog w =
     .ok (.slice (some ⟨w.heap.size,0,none⟩) (L.length+1) (grownCap w (L.length+1) cap 182)) (w.drew.alloc (.cells ((edL (L.take i)).toArray ++ Builtin.zeroCells z0.cells (L.length+1-i) ++ Builtin.zeroCells z0.cells (grownCap w (L.length+1) cap 182-(L.length+1))) 182)):=fun ty=>by
  have h:=Lib.run_append_grow_zeros w 119 3 ty 182 i0 _ .i64 .i64 Tryz.underlying119 Tryz.underlying3 hin hz0 (some ⟨g,0,none⟩) i cap (edL (L.take i)) hold (L.length+1-i) (by omega) (by omega) (by omega) (by omega) (by rw [hz2];omega) (by rw [hz2,hik];exact growslice_fits hroom (by omega))
  rw [hik] at h;rw [hkk];exact h
 have hGn:=grownCap_ge w (L.length+1) cap 182
 have hGm:=grownCap_le_maxLen w (L.length+1) cap 182 (by unfold maxLen;omega)
 obtain ⟨G,hG⟩:∃G,grownCap w (L.length+1) cap 182=G:=⟨_,rfl⟩;rw [hG] at hrz hGn hGm;obtain ⟨ROW,hROW⟩:∃ROW:Array Value,(edL (L.take i)).toArray ++ Builtin.zeroCells z0.cells (L.length+1-i) ++ Builtin.zeroCells z0.cells (G-(L.length+1))=ROW:=⟨_,rfl⟩;rw [hROW] at hrz
 have hRs:ROW.size=G*4:=by
  rw [←hROW];simp only [Array.size_append,List.size_toArray,size_zeroCells,hz3,htl];omega
 have hRt:ROW.toList.take (i*4)=edL (L.take i):=by
  rw [←hROW];simp only [Array.toList_append,List.append_assoc];exact List.take_left' htl
 obtain ⟨H,hH⟩:∃H,w.heap.size=H:=⟨_,rfl⟩;obtain ⟨W1,hW1⟩:∃W1,w.drew.alloc (.cells ROW 182)=W1:=⟨_,rfl⟩
 have hg1:W1.heap[H]? = some (.cells ROW 182 (0,0)):=by rw [←hW1,←hH];exact heap_alloc_new w.drew _
 have hgr1:w.grownBy W1 (some g):=by rw [←hW1];exact ⟨rfl,rfl,rfl,by simp,fun k hk _=>heap_alloc_old w.drew _ hk⟩
 have hbW:Below w.heap.size w W1:=by rw [←hW1];exact ((Below.refl _ _).drew).alloc (Nat.le_refl _) _
 rw [hW1,hH] at hrz;have hxW:W1.heap[xb]? = some (.cells x.cells.toArray 182 (0,0)):=(hbW.block xb hxw).trans hx;have hx2:=new_edge hxW
 have hcp1 : ∀ ty dc, (Builtin.copy_ #[119, 119] ty #[.slice (some ⟨H, i * 4, none⟩) (L.length + 1 - i) dc, .slice (some ⟨xb, 0, none⟩) 1 1]).run Tryz.prog W1 =
     .ok (goInt ((1:Nat):Int)) (W1.setRow H (ROW.toList.take (i*4) ++ x.cells ++ ROW.toList.drop (i*4+x.cells.length)).toArray):=fun ty dc=>by
  have:=run_copy_rowK (P:=Tryz.prog) W1 119 119 ty 182 4 H (i*4) (L.length+1-i) dc ⟨xb,0,none⟩ 1 1 ROW 182 x.cells Tryz.underlying119 hsz hg1
   (by simp only [Nat.min_def];split <;> simp [Ed.cells] <;> omega)
   (fun j v hj=>by rw [Addr.add_lit,Nat.zero_add];exact hx2 j v hj)
   (by rw [hRs];simp [Ed.cells];omega) (ed_one _)
  rw [show Nat.min 1 (L.length+1-i)=1 by simp only [Nat.min_def];split <;> omega] at this
  exact this
 obtain ⟨R1,hR1⟩:∃c1,(ROW.toList.take (i*4) ++ x.cells ++ ROW.toList.drop (i*4+x.cells.length)).toArray=c1:=⟨_,rfl⟩;rw [hR1] at hcp1
 have hR1s:R1.size=G*4:=by rw [←hR1,←hRs];simp [Ed.cells];omega
 obtain ⟨W2,hW2⟩:∃W2,W1.setRow H R1=W2:=⟨_,rfl⟩
 have hg2:W2.heap[H]? = some (.cells R1 182 (0,0)):=by rw [←hW2];exact setRow_heap W1 H _ _ _ _ hg1
 have hgr2:w.grownBy W2 (some g):=by rw [←hW2];exact setRow_grown2 hgr1 (by omega) _
 have hgW2:∀j v,w.cell? ⟨g,j,none⟩=some v→W2.cell? ⟨g,j,none⟩=some v:=fun j v hv=>by
  have e1:W2.heap[g]? = w.heap[g]?:=by rw [←hW2];exact (setRow_other W1 H g _ (by omega)).trans (hbW.block g hgw)
  exact (World.cell?_of_block (a:=⟨g,j,none⟩) e1).trans hv
 rw [hW2] at hcp1
 have hcp2 : ∀ ty dc sc, (Builtin.copy_ #[119, 119] ty #[.slice (some ⟨H, (i + 1) * 4, none⟩) (L.length - i) dc, .slice (some ⟨g, i * 4, none⟩) (L.length - i) sc]).run Tryz.prog W2.drew =
     .ok (goInt ((L.length-i:Nat):Int)) (W2.drew.setRow H (R1.toList.take ((i+1)*4) ++ edL (L.drop i) ++ R1.toList.drop ((i+1)*4+(edL (L.drop i)).length)).toArray):=fun ty dc sc=>by
  have:=run_copy_rowK (P:=Tryz.prog) W2.drew 119 119 ty 182 4 H ((i+1)*4) (L.length-i) dc ⟨g,i*4,none⟩ (L.length-i) sc R1 182 (edL (L.drop i)) Tryz.underlying119 hsz hg2
   (by rw [hdl];simp only [Nat.min_def];split <;> omega)
   (fun j v hj=>by
    rw [Addr.add_lit];rw [←edL_drop,List.getElem?_drop] at hj;refine hgW2 _ v (hcur _ v ?_ hj);have:=(List.getElem?_eq_some_iff.1 hj).1
    rwa [edL_length] at this)
   (by rw [hdl,hR1s];omega) (edL_one _)
  rw [show Nat.min (L.length-i) (L.length-i)=L.length-i by simp only [Nat.min_def];split <;> omega] at this
  exact this
 obtain ⟨R2,hR2⟩:∃c1,(R1.toList.take ((i+1)*4) ++ edL (L.drop i) ++ R1.toList.drop ((i+1)*4+(edL (L.drop i)).length)).toArray=c1:=⟨_,rfl⟩;rw [hR2] at hcp2
 have hR2s:R2.size=G*4:=by rw [←hR2,←hR1s];simp only [List.size_toArray,List.length_append,List.length_take,List.length_drop,Array.length_toList,hdl];omega
 have hfin:InsD w B (.slice (some ⟨g,0,none⟩) L.length cap) (L.take i ++ x :: L.drop i) (.returned (.slice (some ⟨H,0,none⟩) (L.length+1) G)) (W2.drew.setRow H R2):=by
  have hl2:(L.take i ++ x :: L.drop i).length=L.length+1:=by simp;omega
  have hgr3:w.grownBy W2.drew (some g):=⟨hgr2.os,hgr2.tape,hgr2.output,hgr2.size,hgr2.block⟩
  refine ⟨_,rfl,⟨?_,.inr ⟨H,G,R2,by rw [hl2],by omega,setRow_heap W2.drew H _ _ _ _ hg2,by rw [hl2];exact hGn,hGm,hR2s,?_⟩⟩,setRow_grown2 hgr3 (by omega) _,.inr (by rw [hH];rfl)⟩
  ·rw [edL_length]
  ·rw [hl2,edL_append,edL_cons,←hR2,←hR1]
   exact fill_row ROW.toList L x i (by omega) hRt (by have:ROW.toList.length=ROW.size:=Array.length_toList;omega)
 have hfin:=Lib.hid hfin
 have hw1:IntKind.i64.wrap ((i:Int)+1)=(i:Int)+1:=by rw [IntKind.wrap_i64];omega
 have hz4:¬((i:Int)=(L.length:Int)):=by omega
 have hz5:(cap:Int)<(L.length:Int)+1:=by omega
 have htn:((i:Int)+1).toNat=i+1:=by omega
 have hin2:i≤L.length:=by omega
 have hin3:i≤L.length+1:=by omega
 have hb1:(0:Int)≤(i:Int)+1:=by omega
 have hb2:¬(G=i+1):=by omega
 have hb4:¬(G=i):=by omega
 have hb5:¬(cap=i):=by omega
 have hb3:(i:Int)≤(L.length:Int):=by omega
 have hb6:i≤cap:=by omega
 clear hcur hROW hR1 hR2 hdl htl htake hlen hbg hcs hx1 hx2 hik hkk hold hRt hgW2;go_enter Tryz.func218,Tryz.ntmps218
 go_wp2_with (first
  | (at_builtin;refine Lib.wpList_append_run _ rfl _ _ _ _ rfl _ _ rfl rfl _ _ (hrz _) ?_)
  | (at_builtin;refine wpList_copy_runE _ rfl _ _ 119 119 rfl _ _ rfl rfl (hcp1 _ _) ?_))
 go_region_law (refine step_copy_runE rfl _ _ 119 119 rfl _ _ (by simp [Act.eval,Act.put]) (by simp [Act.eval,Act.put]) (hcp2 _ _ _) ?_)
 go_wp2;go_ret;exact hfin.out
theorem insEdge (w : World) (B : Nat) (v : Value) (L : List Ed) (i xb : Nat) (x : Ed) (h : OwnE w B v L) (hi : i ≤ L.length) (hx : w.heap[xb]? = some (.cells x.cells.toArray 182 (0, 0))) (hne : v.ownBlock ≠ some xb) (hB : B ≤ w.heap.size) (hl : L.length ≤ 100000) :
    Calls Tryz.prog 218 #[v,.int .i64 (i:Nat),.slice (some ⟨xb,0,none⟩) 1 1] w (InsD w B v (L.take i ++ x :: L.drop i)):=by
 have h':=h
 rcases h'.2 with ⟨rfl,h0⟩ | ⟨g,cap,cur,rfl,_⟩
 ·obtain rfl:i=L.length:=by omega
  rw [List.take_length,List.drop_length];have hl0:L.length=0:=h0
  have:=insEnd w B none L L.length 0 xb x (by rw [hl0];exact h) rfl hx hB hl
  rw [hl0] at this ⊢
  exact this
 ·by_cases e:i=L.length
  ·subst e
   rw [List.take_length,List.drop_length];exact insEnd w B _ L L.length cap xb x h rfl hx hB hl
  ·by_cases hr:L.length+1≤cap
   ·exact insRoom w B g L i L.length cap xb x h rfl (by omega) hr hx (fun e=>hne (by rw [e];rfl)) hl
   ·exact insGrow w B g L i L.length cap xb x h rfl (by omega) (by omega) hx hB hl
end Go.Proofs.YtokhnobcincfjaaGreatDoor
namespace Go.Proofs.YtokhnobcincfjaaGreatDoor
open Go.RowKit Go.Sort FR
def EdsAt (w:World) (A:Option Addr) (L:List Ed):Prop:=0<L.length→∃g,A=some ⟨g,0,none⟩∧g<w.heap.size∧∀j v,(edL L)[j]? = some v→w.cell? ⟨g,j,none⟩=some v
theorem OwnE.eds {w:World} {B:Nat} {v:Value} {L:List Ed} (h:OwnE w B v L):∃A cap,v=.slice A L.length cap∧EdsAt w A L:=by
 rcases h.2 with ⟨rfl,h0⟩ | ⟨g,cap,cur,rfl,_,hg,_,_,_,htake⟩
 ·exact ⟨none,0,by rw [h0],fun h=>by omega⟩
 ·refine ⟨_,cap,rfl,fun _=>⟨g,rfl,(Array.getElem?_eq_some_iff.1 hg).1,fun j v hv=>?_⟩⟩
  rw [←htake,List.getElem?_take] at hv
  split at hv
  ·rw [Array.getElem?_toList] at hv
   simp [World.cell?,hg,hv]
  ·cases hv
theorem EdsAt.below {w w':World} {A:Option Addr} {L:List Ed} (h:EdsAt w A L) (hb:Below w.heap.size w w'):EdsAt w' A L:=fun hl=>by
 obtain ⟨g,h1,h2,h3⟩:=h hl
 exact ⟨g,h1,Nat.lt_of_lt_of_le h2 hb.size,fun j v hv=>bel_cell hb (h3 j v hv)⟩
theorem edL_get:∀(L:List Ed) (j:Nat) (e:Ed),L[j]? = some e→(edL L)[j*4]? = some (.int .i64 e.to_)∧(edL L)[j*4+1]? = some (.int .i64 e.c.s)∧(edL L)[j*4+2]? = some (.int .i64 e.c.d)∧(edL L)[j*4+3]? = some (.int .i64 e.mid)
 | [],j,e,h=>by simp at h
 | x :: L,0,e,h=>by
  simp at h;subst h;rw [edL_cons];simp [Ed.cells]
 | x :: L,j+1,e,h=>by
  simp at h;have:=edL_get L j e h;rw [edL_cons]
  rw [show (j+1)*4=4+j*4 by omega]
  have l4:x.cells.length=4:=rfl
  refine ⟨?_,?_,?_,?_⟩ <;> rw [List.getElem?_append_right (by omega),l4]
  ·rw [show 4+j*4-4=j*4 by omega];exact this.1
  ·rw [show 4+j*4+1-4=j*4+1 by omega];exact this.2.1
  ·rw [show 4+j*4+2-4=j*4+2 by omega];exact this.2.2.1
  ·rw [show 4+j*4+3-4=j*4+3 by omega];exact this.2.2.2
theorem EdsAt.get {w:World} {A:Option Addr} {L:List Ed} (h:EdsAt w A L) {j:Nat} {e:Ed} (he:L[j]? = some e):∃g,A=some ⟨g,0,none⟩∧w.cell? ⟨g,j*4,none⟩=some (.int .i64 e.to_)∧w.cell? ⟨g,j*4+1,none⟩=some (.int .i64 e.c.s)∧w.cell? ⟨g,j*4+2,none⟩=some (.int .i64 e.c.d)∧w.cell? ⟨g,j*4+3,none⟩=some (.int .i64 e.mid):=by
 obtain ⟨g,h1,h2,h3⟩:=h (by have:=(List.getElem?_eq_some_iff.1 he).1;omega)
 obtain ⟨a,b,c,d⟩:=edL_get L j e he;exact ⟨g,h1,h3 _ _ a,h3 _ _ b,h3 _ _ c,h3 _ _ d⟩
def Srt (L:List Ed):Prop:=∀(i j:Nat) (a b:Ed),i<j→L[i]? = some a→L[j]? = some b→a.to_<b.to_
def BinD (w:World) (L:List Ed) (t:Int) (r:Ending) (w':World):Prop:=∃(i:Nat) (fd:Bool),r=.returned (.tuple #[.int .i64 (i:Nat),.bool fd])∧i≤L.length∧(∀j e,L[j]? = some e→(j<i↔e.to_<t))∧(fd=true↔∃e,L[i]? = some e∧e.to_=t)∧Below w.heap.size w w'
theorem putCl (w : World) (e : Ed) (t : Int) (h1 : inC e.to_) (h2 : inC t) :
    Calls Tryz.prog 217 #[.agg #[.int .i64 e.to_,.int .i64 e.c.s,.int .i64 e.c.d,.int .i64 e.mid],.int .i64 t] w fun r w'=>r=.returned (.int .i64 (e.to_-t))∧Below w.heap.size w w':=by
 obtain ⟨x,⟨s,d⟩,m⟩:=e
 simp only at h1 ⊢
 unfold inC at h1 h2
 have hw:IntKind.i64.wrap (x-t)=x-t:=IntWalk.i64_in _ (by omega)
 go_enter Tryz.func217,Tryz.ntmps217;go_wp2;go_ret
 exact ⟨rfl,by (repeat' (first | exact Below.refl _ _ | assumption | apply bel_drewN | apply bel_drew | apply bel_alloc | (refine bel_trans ?_ (by assumption))))⟩
theorem idxE {A:Option Addr} {g n m k:Nat} (h:A=some ⟨g,0,none⟩) (hk:k<n) (wx:World):(Instr.indexAt 119 (.slice A n m) (.int .i64 (k:Nat))).run Tryz.prog wx=.ok (.pointer (some ⟨g,k*4,none⟩)) wx:=by
 subst h
 have q:(k:Int)<(n:Int):=by omega
 go_simp
theorem binEdge (w : World) (A : Option Addr) (n cap : Nat) (L : List Ed) (t : Int)
    (h:EdsAt w A L) (hn:L.length=n) (hs:Srt L) (hb:∀e∈L,inC e.to_) (ht:inC t) (hl:n≤100000) :
    Calls Tryz.prog 216 #[.slice A n cap,.int .i64 t,.func (.func 217) #[] #[]] w (BinD w L t):=by
 have hs:=Lib.hid hs;have hb:=Lib.hid hb;have Hn:=Lib.hid hn;have h:=Lib.hid h;clear hn;go_enter Tryz.func216,Tryz.ntmps216;go_wp2_with fail
 go_loopw [9,10] (fun iv jv wr=>∃i j:Nat,iv=.int .i64 i∧jv=.int .i64 j∧i≤j∧j≤n∧(∀k e,L[k]? = some e→k<i→e.to_<t)∧(∀k e,L[k]? = some e→j≤k→t≤e.to_)∧Below w.heap.size w wr) (fun iv jv _=>(intOf jv).toNat-(intOf iv).toNat)
 case atStart=>exact ⟨0,n,rfl,rfl,by omega,by omega,fun k e _ h=>by omega,fun k e hk hj=>by have:=(List.getElem?_eq_some_iff.1 hk).1;have:=Hn.out;omega,Below.refl _ _⟩
 case round=>
  obtain ⟨i,j,rfl,rfl,hij,hjn,h1,h2,HB⟩:=hrel;have h1:=Lib.hid h1;have h2:=Lib.hid h2
  by_cases hlt:i<j
  ·have hw1:IntKind.i64.wrap ((i:Int)+(j:Int))=(i:Int)+(j:Int):=IntWalk.i64_in _ (by omega)
   go_upto_region 5 with (fail)
   have hmm:((i:Int)+(j:Int)) / 2=(((i+j) / 2:Nat):Int):=by omega
   have hm1:i≤(i+j) / 2:=by omega
   have hm2:(i+j) / 2<j:=by omega
   rw [hmm];obtain ⟨m,hm⟩:∃m,(i+j) / 2=m:=⟨_,rfl⟩
   rw [hm] at hm1 hm2 ⊢
   clear hm hmm hw1
   have hmn:m<n:=by omega
   obtain ⟨e,he⟩:∃e,L[m]? = some e:=⟨L[m]'(by rw [Hn.out];exact hmn),List.getElem?_eq_getElem _⟩
   have He:=Lib.hid he;obtain ⟨g,hA,a1,a2,a3,a4⟩:=(h.out.below HB).get he
   have hix:=fun wx=>idxE (m:=cap) hA hmn wx
   have cF:=Lib.hid (putCl wr e t (hb.out e (List.mem_of_getElem? he)) ht);have hin:inC e.to_:=hb.out e (List.mem_of_getElem? he)
   have hk1:e.to_<t→∀k x,L[k]? = some x→k<m+1→x.to_<t:=fun hl k x hx hk=>by
    by_cases e1:k=m
    ·subst e1;rw [hx] at he;injection he with he;rw [he];exact hl
    ·exact Int.lt_trans (hs.out k m x e (by omega) hx he) hl
   have hk2:t≤e.to_→∀k x,L[k]? = some x→m≤k→t≤x.to_:=fun hl k x hx hk=>by
    by_cases e1:k=m
    ·subst e1;rw [hx] at he;injection he with he;rw [he];exact hl
    ·have:=hs.out m k e x (by omega) he hx
     omega
   have hk1:=Lib.hid hk1;have hk2:=Lib.hid hk2;obtain ⟨x,hx⟩:∃x,e.to_=x:=⟨_,rfl⟩;rw [hx] at a1 cF hin hk1 hk2;obtain ⟨xs,hxs⟩:∃x,e.c.s=x:=⟨_,rfl⟩;obtain ⟨xd,hxd⟩:∃x,e.c.d=x:=⟨_,rfl⟩;obtain ⟨xm,hxm⟩:∃x,e.mid=x:=⟨_,rfl⟩;rw [hxs] at a2 cF;rw [hxd] at a3 cF;rw [hxm] at a4 cF;clear hA he hx hxs hxd hxm;go_wp2_with fail
   (with_reducible refine cF.out.mono ?_)
   rintro r w2 ⟨rfl,hb2⟩;have HB2:=bel_trans HB hb2;clear a1 a2 a3 a4 cF hix;unfold inC at hin
   by_cases hxt:x<t
   ·have hd:decide (x-t<0)=true:=by simp;omega
    have hk1:=Lib.hid (hk1.out hxt)
    have hwm:IntKind.i64.wrap ((m:Int)+1)=((m+1:Nat):Int):=by rw [IntWalk.i64_in _ (by omega)];omega
    clear hk2;go_wp2;go_roundw
    case rel=>exact ⟨m+1,j,rfl,rfl,by omega,by omega,hk1.out,h2.out,HB2⟩
    case measure=>simp [intOf];omega
   ·have hd:decide (x-t<0)=false:=by simp;omega
    have hk2:=Lib.hid (hk2.out (by omega))
    clear hk1;go_wp2;go_roundw
    case rel=>exact ⟨i,m,rfl,rfl,by omega,by omega,h1.out,hk2.out,HB2⟩
    case measure=>simp [intOf];omega
  ·obtain rfl:i=j:=by omega
   have hcut:∀k x,L[k]? = some x→(k<i↔x.to_<t):=fun k x hx=>by
    constructor
    ·exact fun hk=>h1.out k x hx hk
    ·intro hl
     by_cases hk:k<i
     ·exact hk
     ·have:=h2.out k x hx (by omega)
      omega
   have Hcut:=Lib.hid hcut;clear hcut;clear h1 h2
   by_cases hin:i<n
   ·obtain ⟨e,he⟩:∃e,L[i]? = some e:=⟨L[i]'(by rw [Hn.out];exact hin),List.getElem?_eq_getElem _⟩
    obtain ⟨g,hA,a1,a2,a3,a4⟩:=(h.out.below HB).get he
    have hix:=fun wx=>idxE (m:=cap) hA hin wx
    have cF:=Lib.hid (putCl wr e t (hb.out e (List.mem_of_getElem? he)) ht);have hinx:inC e.to_:=hb.out e (List.mem_of_getElem? he);obtain ⟨fd,hfd⟩:∃fd,(e.to_-t == 0)=fd:=⟨_,rfl⟩
    have hfin:fd=true↔∃x,L[i]? = some x∧x.to_=t:=by
     rw [←hfd,he];simp;omega
    have Hfin:=Lib.hid hfin;clear hfin;have Hfd:=Lib.hid hfd;obtain ⟨x,hx⟩:∃x,e.to_=x:=⟨_,rfl⟩;rw [hx] at a1 cF Hfd;obtain ⟨xs,hxs⟩:∃x,e.c.s=x:=⟨_,rfl⟩;obtain ⟨xd,hxd⟩:∃x,e.c.d=x:=⟨_,rfl⟩;obtain ⟨xm,hxm⟩:∃x,e.mid=x:=⟨_,rfl⟩;rw [hxs] at a2 cF;rw [hxd] at a3 cF;rw [hxm] at a4 cF
    have q:(i:Int)<(n:Int):=by omega
    clear hA he hx hxs hxd hxm hfd hinx;go_wp2_with fail
    (with_reducible refine cF.out.mono ?_)
    rintro r w2 ⟨rfl,hb2⟩;have HB2:=bel_trans HB hb2;clear a1 a2 a3 a4 cF hix hb2
    have hret:BinD w L t (.returned (.tuple #[.int .i64 (i:Nat),.bool fd])) w2:=⟨i,fd,rfl,by rw [Hn.out];omega,Hcut.out,Hfin.out,HB2⟩
    rw [←Hfd.out] at hret;have Hret:=Lib.hid hret;clear hret;go_wp2;go_ret2;exact Hret.out
   ·obtain rfl:i=n:=by omega
    have hfin:false=true↔∃x,L[i]? = some x∧x.to_=t:=by
     rw [List.getElem?_eq_none (by rw [Hn.out];omega)]
     simp
    have Hfin:=Lib.hid hfin;clear hfin
    have hret:BinD w L t (.returned (.tuple #[.int .i64 (i:Nat),.bool false])) wr:=⟨i,false,rfl,by rw [Hn.out];omega,Hcut.out,Hfin.out,HB⟩
    have Hret:=Lib.hid hret;clear hret;go_wp2;go_ret2;exact Hret.out
def lowN (L:List Ed) (t:Int):Nat:=(L.filter fun e=>decide (e.to_<t)).length
def hasE (L:List Ed) (t:Int):Bool:=L.any fun e=>e.to_ == t
def insS (L:List Ed) (x:Ed):List Ed:=L.take (lowN L x.to_) ++ x :: L.drop (lowN L x.to_)
theorem low_of {L:List Ed} {t:Int} {i:Nat} (hi:i≤L.length) (h:∀j e,L[j]? = some e→(j<i↔e.to_<t)):i=lowN L t:=by
 unfold lowN;have e1:L=L.take i ++ L.drop i:=(List.take_append_drop i L).symm;rw [e1,List.filter_append,List.length_append]
 have e2:(L.take i).filter (fun e=>decide (e.to_<t))=L.take i:=by
  rw [List.filter_eq_self];intro e he;obtain ⟨j,hj⟩:=List.getElem?_of_mem he;rw [List.getElem?_take] at hj
  split at hj
  ·exact decide_eq_true ((h j e hj).1 (by assumption))
  ·cases hj
 have e3:(L.drop i).filter (fun e=>decide (e.to_<t))=[]:=by
  rw [List.filter_eq_nil_iff];intro e he;obtain ⟨j,hj⟩:=List.getElem?_of_mem he;rw [List.getElem?_drop] at hj;have:=(h (i+j) e hj);simp
  have:¬e.to_<t:=fun hl=>by have:=this.2 hl;omega
  omega
 rw [e2,e3,List.length_take];simp;omega
theorem low_spec {L:List Ed} (hs:Srt L) (t:Int):lowN L t≤L.length∧∀j e,L[j]? = some e→(j<lowN L t↔e.to_<t):=by
 induction L with
 | nil=>exact ⟨by simp [lowN],fun j e h=>by simp at h⟩
 | cons x L ih=>
  have hs':Srt L:=fun i j a b hij ha hb=>hs (i+1) (j+1) a b (by omega) (by simpa using ha) (by simpa using hb)
  obtain ⟨h1,h2⟩:=ih hs'
  by_cases hx:x.to_<t
  ·have e:lowN (x :: L) t=lowN L t+1:=by simp [lowN,hx]
   rw [e]
   refine ⟨by simp;omega,fun j e' he=>?_⟩
   cases j with
   | zero=>simp at he;subst he;simp [hx]
   | succ j=>simp at he;rw [←h2 j e' he];omega
  ·have hz : lowN L t = 0 := by
     unfold lowN;rw [List.length_eq_zero_iff,List.filter_eq_nil_iff];intro e' he';obtain ⟨j,hj⟩:=List.getElem?_of_mem he'
     have:=hs 0 (j+1) x e' (by omega) rfl (by simpa using hj)
     simp;omega
   have e:lowN (x :: L) t=0:=by
    have:lowN (x :: L) t=lowN L t:=by simp [lowN,hx]
    omega
   rw [e]
   refine ⟨by omega,fun j e' he=>?_⟩
   constructor
   ·omega
   ·intro hl
    cases j with
    | zero=>simp at he;subst he;omega
    | succ j=>
     have:=hs 0 (j+1) x e' (by omega) rfl he
     omega
theorem has_iff {L:List Ed} {t:Int}:hasE L t=true↔∃e∈L,e.to_=t:=by simp [hasE,List.any_eq_true]
theorem has_at {L:List Ed} (hs:Srt L) (t:Int):(∃e,L[lowN L t]? = some e∧e.to_=t)↔hasE L t=true:=by
 obtain ⟨h1,h2⟩:=low_spec hs t;rw [has_iff]
 constructor
 ·rintro ⟨e,a,b⟩;exact ⟨e,List.mem_of_getElem? a,b⟩
 ·rintro ⟨e,he,rfl⟩
  obtain ⟨j,hj⟩:=List.getElem?_of_mem he
  have hnot:¬j<lowN L e.to_:=fun h=>by have:=(h2 j e hj).1 h;omega
  have hjl:=(List.getElem?_eq_some_iff.1 hj).1
  by_cases e1:j=lowN L e.to_
  ·subst e1;exact ⟨e,hj,rfl⟩
  ·exfalso
   obtain ⟨x,hx⟩:∃x,L[lowN L e.to_]? = some x:=⟨L[lowN L e.to_]'(by omega),List.getElem?_eq_getElem _⟩
   have a:=hs _ _ _ _ (show lowN L e.to_<j by omega) hx hj
   have:=(h2 _ x hx).2 a;omega
theorem mem_insS {L:List Ed} {x e:Ed}:e∈insS L x↔e=x∨e∈L:=by
 unfold insS;rw [List.mem_append,List.mem_cons]
 have:e∈L↔e∈L.take (lowN L x.to_)∨e∈L.drop (lowN L x.to_):=by rw [←List.mem_append,List.take_append_drop]
 rw [this]
 constructor
 ·rintro (h | h | h)
  ·exact .inr (.inl h)
  ·exact .inl h
  ·exact .inr (.inr h)
 ·rintro (h | h | h)
  ·exact .inr (.inl h)
  ·exact .inl h
  ·exact .inr (.inr h)
theorem srt_insS {L:List Ed} (hs:Srt L) {x:Ed} (hn:hasE L x.to_=false):Srt (insS L x):=by
 obtain ⟨h1,h2⟩:=low_spec hs x.to_
 have hne:∀e∈L,e.to_≠x.to_:=fun e he h=>by
  have:=has_iff.2 ⟨e,he,h⟩;rw [hn] at this;cases this
 have hl:(L.take (lowN L x.to_)).length=lowN L x.to_:=by rw [List.length_take];omega
 obtain ⟨m,hm⟩:∃m,lowN L x.to_=m:=⟨_,rfl⟩;rw [hm] at h1 h2 hl
 have hget:∀i a,(insS L x)[i]? = some a→(i<m∧L[i]? = some a)∨(i=m∧a=x)∨(m<i∧L[i-1]? = some a):=by
  intro i a h;unfold insS at h;rw [hm] at h
  by_cases e1:i<m
  ·rw [List.getElem?_append_left (by omega),List.getElem?_take,if_pos e1] at h
   exact .inl ⟨e1,h⟩
  ·rw [List.getElem?_append_right (by omega),hl] at h
   by_cases e2:i=m
   ·subst e2
    simp at h;exact .inr (.inl ⟨rfl,h.symm⟩)
   ·obtain ⟨j,rfl⟩:∃j,i=m+1+j:=⟨i-m-1,by omega⟩
    rw [show m+1+j-m=j+1 by omega,List.getElem?_cons_succ,List.getElem?_drop] at h
    exact .inr (.inr ⟨by omega,by rw [show m+1+j-1=m+j by omega];exact h⟩)
 intro i j a b hij ha hb
 rcases hget i a ha with ⟨q1,q2⟩ | ⟨q1,q2⟩ | ⟨q1,q2⟩ <;> rcases hget j b hb with ⟨r1,r2⟩ | ⟨r1,r2⟩ | ⟨r1,r2⟩
 ·exact hs i j a b hij q2 r2
 ·rw [r2];exact (h2 i a q2).1 q1
 ·exact hs i (j-1) a b (by omega) q2 r2
 ·omega
 ·omega
 ·rw [q2]
  have:=hne b (List.mem_of_getElem? r2)
  have h3:¬b.to_<x.to_:=fun h=>by have:=(h2 (j-1) b r2).2 h;omega
  omega
 ·omega
 ·omega
 ·exact hs (i-1) (j-1) a b (by omega) q2 r2
theorem binEdge2 (w : World) (A : Option Addr) (n cap : Nat) (L : List Ed) (t : Int) (h : EdsAt w A L) (hn : L.length = n) (hs : Srt L) (hb : ∀ e ∈ L, inC e.to_) (ht : inC t) (hl : n ≤ 100000) :
    Calls Tryz.prog 216 #[.slice A n cap,.int .i64 t,.func (.func 217) #[] #[]] w fun r w'=>r=.returned (.tuple #[.int .i64 (lowN L t:Nat),.bool (hasE L t)])∧Below w.heap.size w w':=by
 refine (binEdge w A n cap L t h hn hs hb ht hl).mono ?_;rintro r w' ⟨i,fd,rfl,h1,h2,h3,h4⟩;have e:=low_of h1 h2;subst e;rw [has_at hs] at h3;have e2:fd=hasE L t:=Bool.eq_iff_iff.2 h3;rw [e2];exact ⟨rfl,h4⟩
abbrev iK:Int→Value:=fun z=>Value.int .i64 z
def EMap (w:World) (S:List Nat) (mb:Nat) (E:Int→Option (List Ed)):Prop:=
 ∃V N,MapAt iK w mb V N∧(∀k,E k=none↔V k=none)∧(∀k u L,V k=some u→E k=some L→OwnE w 0 u L)∧(∀k u q,V k=some u→u.ownBlock=some q→q∈S)∧mb∉S ∧
  (∀k k' u u' q,V k=some u→V k'=some u'→u.ownBlock=some q→u'.ownBlock=some q→k=k')∧∀s,s∈S→s<w.heap.size
theorem OwnE.lt {w:World} {B:Nat} {v:Value} {L:List Ed} (h:OwnE w B v L) {q:Nat} (hq:v.ownBlock=some q):q<w.heap.size:=(World.ownsRow.lt h q hq).2
theorem OwnE.kept {w w':World} {B:Nat} {v:Value} {L:List Ed} {T:List Nat} (h:OwnE w B v L) (hk:Kept T w w') (hT:∀q,v.ownBlock=some q→q∉T):OwnE w' B v L:=by
 refine ⟨h.1,?_⟩
 rcases h.2 with hn | ⟨g,cap,cur,rfl,hb,hg,rest⟩
 ·exact .inl hn
 ·exact .inr ⟨g,cap,cur,rfl,hb,(hk.block g (Array.getElem?_eq_some_iff.1 hg).1 (hT g rfl)).trans hg,rest⟩
theorem EMap.lt {w:World} {S:List Nat} {mb:Nat} {E:Int→Option (List Ed)} (h:EMap w S mb E):mb<w.heap.size:=by
 obtain ⟨V,N,hm,_⟩:=h;exact hm.lt
theorem EMap.kept {w w':World} {S T:List Nat} {mb:Nat} {E:Int→Option (List Ed)} (h:EMap w S mb E) (hk:Kept T w w') (hT:∀s,s∈S→s∉T) (hm:mb∉T):EMap w' S mb E:=by
 obtain ⟨V,N,h1,h2,h3,h4,h5,h6,h7⟩:=h
 exact ⟨V,N,h1.kept hk hm,h2,fun k u L hu hL=>(h3 k u L hu hL).kept hk (fun q hq=>hT q (h4 k u q hu hq)),h4,h5,h6,fun s hs=>Nat.lt_of_lt_of_le (h7 s hs) hk.size⟩
theorem EMap.below {w w':World} {S:List Nat} {mb:Nat} {E:Int→Option (List Ed)} (h:EMap w S mb E) (hb:Below w.heap.size w w'):EMap w' S mb E:=h.kept (T:=[]) (.of_below hb) (fun _ _=>by simp) (by simp)
def updE (E:Int→Option (List Ed)) (k:Int) (L:Option (List Ed)):Int→Option (List Ed):=fun j=>if j=k then L else E j
theorem EMap.put {w w1 wI wU : World} {S : List Nat} {mb N N2 : Nat} {E : Int → Option (List Ed)} {V : Int → Option Value} {a : Int} {u v' : Value} {L' : List Ed}
    (h1:MapAt iK w mb V N) (h2:∀k,E k=none↔V k=none) (h3:∀k u L,V k=some u→E k=some L→OwnE w 0 u L) (h4:∀k u q,V k=some u→u.ownBlock=some q→q∈S) (h5:mb∉S)
    (h6:∀k k' u u' q,V k=some u→V k'=some u'→u.ownBlock=some q→u'.ownBlock=some q→k=k') (h7:∀s,s∈S→s<w.heap.size) (ha:V a=some u) (hb:Below w.heap.size w w1)
    (hO:OwnE wI 0 v' L') (hg:w1.grownBy wI u.ownBlock) (hat:v'.ownBlock=u.ownBlock∨v'.ownBlock=some w1.heap.size) (hM:MapAt iK wU mb (updK V a (some v')) N2) (hK:Kept [mb] wI wU) :
    ∃S',EMap wU S' mb (updE E a (some L'))∧(∀k∈S',k∈S∨w.heap.size≤k)∧Kept (mb :: S) w wU:=by
 have hne:∀q,v'.ownBlock=some q→q≠mb:=fun q hq e=>by
  subst e
  rcases hat with e | e
  ·exact h5 (h4 a u q ha (by rw [←e];exact hq))
  ·rw [e] at hq;injection hq with hq
   have:=h1.lt;have:=hb.size;omega
 have hS:∀q,v'.ownBlock=some q→q∈S∨w.heap.size≤q:=fun q hq=>by
  rcases hat with e | e
  ·exact .inl (h4 a u q ha (by rw [←e];exact hq))
  ·rw [e] at hq;injection hq with hq
   have:=hb.size
   exact .inr (by omega)
 have hKw:Kept (mb :: S) w wI:=⟨hg.os.trans hb.os,hg.tape.trans hb.tape,hg.output.trans hb.output,Nat.le_trans hb.size hg.size,fun k hk hn=>by
  refine (hg.block k (Nat.lt_of_lt_of_le hk hb.size) ?_).trans (hb.block k hk);intro e;exact hn (List.mem_cons_of_mem _ (h4 a u k ha e.symm))⟩
 refine ⟨v'.ownBlock.toList ++ S,⟨updK V a (some v'),N2,hM,?_,?_,?_,?_,?_,?_⟩,?_,hKw.trans (hK.wid (by simp))⟩
 ·intro k
  unfold updE updK
  split
  ·simp
  ·exact h2 k
 ·intro k x L hx hL
  unfold updE at hL;unfold updK at hx
  split at hx
  ·rename_i e
   rw [if_pos e] at hL
   injection hx with hx
   injection hL with hL
   subst hx;subst hL
   exact hO.kept hK (fun q hq=>by simpa using hne q hq)
  ·rename_i e
   rw [if_neg e] at hL;have hold:=h3 k x L hx hL
   refine ((hold.kept (T:=[]) (.of_below hb) (fun _ _=>by simp)).kept (w':=wI) (T:=u.ownBlock.toList) ⟨hg.os,hg.tape,hg.output,hg.size,fun q hq hn=>hg.block q hq (fun e=>hn (by rw [←e];simp))⟩ ?_).kept hK ?_
   ·intro q hq hn
    have hn:u.ownBlock=some q:=by
     cases hu:u.ownBlock with
     | none=>rw [hu] at hn;simp at hn
     | some r=>rw [hu] at hn;simp at hn;rw [hn]
    exact e (h6 k a x u q hx ha hq hn)
   ·intro q hq
    have:=h4 k x q hx hq;simp;rintro rfl;exact h5 this
 ·intro k x q hx hq
  unfold updK at hx
  split at hx
  ·injection hx with hx
   subst hx
   exact List.mem_append_left _ (by rw [hq];simp)
  ·exact List.mem_append_right _ (h4 k x q hx hq)
 ·rw [List.mem_append]
  rintro (h | h)
  ·cases hv:v'.ownBlock with
   | none=>rw [hv] at h;simp at h
   | some q=>rw [hv] at h;simp at h;exact hne q hv h.symm
  ·exact h5 h
 ·intro k k' x x' q hx hx' hq hq'
  have key:∀j y,j≠a→V j=some y→y.ownBlock=some q→v'.ownBlock=some q→False:=by
   intro j y hj hy hyq hvq
   rcases hat with e | e
   ·exact hj (h6 j a y u q hy ha hyq (by rw [←e];exact hvq))
   ·rw [e] at hvq;injection hvq with hvq
    obtain ⟨Lj,hLj⟩:∃Lj,E j=some Lj:=by
     cases hE:E j with
     | none=>rw [(h2 j).1 hE] at hy;cases hy
     | some L=>exact ⟨L,rfl⟩
    have:=(h3 j y Lj hy hLj).lt hyq;have:=hb.size;omega
  unfold updK at hx hx'
  by_cases e1:k=a
  ·by_cases e2:k'=a
   ·rw [e1,e2]
   ·rw [if_pos e1] at hx
    rw [if_neg e2] at hx'
    injection hx with hx
    subst hx
    exact absurd hq (fun hq=>key k' x' e2 hx' hq' hq)
  ·rw [if_neg e1] at hx
   by_cases e2:k'=a
   ·rw [if_pos e2] at hx'
    injection hx' with hx'
    subst hx'
    exact absurd hq' (fun hq'=>key k x e1 hx hq hq')
   ·rw [if_neg e2] at hx'
    exact h6 k k' x x' q hx hx' hq hq'
 ·intro k hk
  rcases List.mem_append.1 hk with h | h
  ·cases hv:v'.ownBlock with
   | none=>rw [hv] at h;simp at h
   | some q=>
    rw [hv] at h;simp at h;rw [h];exact Nat.lt_of_lt_of_le (hO.lt hv) hK.size
  ·exact Nat.lt_of_lt_of_le (h7 k h) (Nat.le_trans hKw.size hK.size)
 ·intro k hk
  rcases List.mem_append.1 hk with h | h
  ·cases hv:v'.ownBlock with
   | none=>rw [hv] at h;simp at h
   | some q=>rw [hv] at h;simp at h;rw [h];exact hS q hv
  ·exact .inl h
theorem gOctile (w : World) (p : Nat) (g : G) (v : Int) (a b : Nat) (x : C) (h : GridAt w p g v) (ha : a < g.n) (hb : b < g.n) (hx : g.oct a b = x) :
    Calls Tryz.prog 143 #[.pointer (some ⟨p,0,none⟩),.int .i64 (a:Nat),.int .i64 (b:Nat)] w fun e w'=>e=.returned (.agg #[.int .i64 x.s,.int .i64 x.d])∧Below w.heap.size w w':=by
 have hok:=h.1;obtain ⟨o1,o2,o3,o4⟩:=h.1;have l1:=G.X_lt hok a;have l2:=G.X_lt hok b;have l3:=G.Y_lt ha;have l4:=G.Y_lt hb
 have cO:=fun w=>costOctile (g.X a:Nat) (g.Y a:Nat) (g.X b:Nat) (g.Y b:Nat) w (by omega) (by omega) (by omega) (by omega)
 have hx2:octI ((g.X a:Nat)-(g.X b:Nat)) ((g.Y a:Nat)-(g.Y b:Nat))=x:=hx;rw [hx2] at cO;have cO:=Lib.hid cO;obtain ⟨xs,xd⟩:=x;clear hx hx2 l1 l2 l3 l4 hok;go_enter Tryz.func143,Tryz.ntmps143
 go_upto_region 1 with (fail)
 refine wp_name ?_;intro W hW
 have HW:Below w.heap.size w W:=by rw [hW];(repeat' (first | exact Below.refl _ _ | assumption | apply bel_drewN | apply bel_drew | apply bel_alloc | (refine bel_trans ?_ (by assumption))))
 have q0:W.cell? ⟨w.heap.size,0,none⟩=some (.int .i64 0):=by rw [hW];go_simp
 have q1:W.cell? ⟨w.heap.size,1,none⟩=some (.int .i64 0):=by rw [hW];go_simp
 have f0:W.frozen? ⟨w.heap.size,0,none⟩=false:=by rw [hW];go_simp
 have f1:W.frozen? ⟨w.heap.size,1,none⟩=false:=by rw [hW];go_simp
 have hs:w.heap.size<W.heap.size:=by rw [hW];simp
 have hG:=h.below HW h.lt;have H2:=Lib.hid (And.intro q0 (And.intro q1 (And.intro f0 f1)));clear hW q0 q1 f0 f1;go_wp2_with fail
 (with_reducible refine (gridPlace_in _ p g v a hG ha).mono ?_)
 rintro e w1 ⟨rfl,hb1⟩;go_wp2_with fail
 (with_reducible refine (gridPlace_in _ p g v b (hG.below hb1 hG.lt) hb).mono ?_)
 rintro e w2 ⟨rfl,hb2⟩;go_wp2_with fail
 (with_reducible refine (cO.out _).mono ?_)
 rintro e w3 ⟨rfl,hb3⟩;have hb:=bel_trans (bel_trans hb1 hb2) hb3;have q0:=bel_cell hb H2.out.1;have q1:=bel_cell hb H2.out.2.1;have f0:=(hb.frozen (p:=⟨w.heap.size,0,none⟩) hs).trans H2.out.2.2.1;have f1:=(hb.frozen (p:=⟨w.heap.size,1,none⟩) hs).trans H2.out.2.2.2;go_wp2;have e5:=set_two (x:=.int .i64 xs) (y:=.int .i64 xd) q0 q1
 refine bodyPost_ret (v:=.agg #[.int .i64 xs,.int .i64 xd]) (by simp [results,Tryz.results143,go_sem,e5]) rfl ?_
 exact ⟨rfl,((bel_trans HW hb).setCell (by simp) _).setCell (by simp) _⟩
theorem keptc {S:List Nat} {w w':World} {p:Addr} {v:Value} (hk:Kept S w w') (hn:p.block∉S) (h:w.cell? p=some v):w'.cell? p=some v:=
 (World.cell?_of_block (a:=p) (hk.block p.block (World.block_lt_of_cell? w _ h) hn)).trans h
def PutD (w:World) (S:List Nat) (mb:Nat) (E:Int→Option (List Ed)) (e:Ending) (w':World):Prop:=
 e=.returned (.tuple #[])∧∃S',EMap w' S' mb E∧(∀k∈S',k∈S∨w.heap.size≤k)∧Kept (mb :: S) w w'
theorem graphPut (w : World) (S : List Nat) (b p mb : Nat) (E : Int → Option (List Ed)) (a : Int) (x : Ed) (L : List Ed) (hb : w.heap[b]? = some (.cells #[.pointer (some ⟨p, 0, none⟩), .map (some mb)] 185 (0, 0))) (hE : EMap w S mb E) (hbS : b ∉ S) (hbm : b ≠ mb)
    (hL:E a=some L) (hs:Srt L) (hin:∀e∈L,inC e.to_) (hx:inC x.to_) (hl:L.length≤1000) :
    Calls Tryz.prog 164 #[.pointer (some ⟨b,0,none⟩),.int .i64 a,.agg #[.int .i64 x.to_,.int .i64 x.c.s,.int .i64 x.c.d,.int .i64 x.mid]] w (PutD w S mb (updE E a (some (insS L x)))):=by
 have hmlt:=hE.lt;obtain ⟨V,N,h1,h2,h3,h4,h5,h6,h7⟩:=hE
 obtain ⟨u,hu⟩:∃u,V a=some u:=by
  cases hV:V a with
  | none=>rw [(h2 a).2 hV] at hL;cases hL
  | some u=>exact ⟨u,rfl⟩
 have hO:=h3 a u L hu hL
 have hqS:∀q,u.ownBlock=some q→q∈S:=fun q hq=>h4 a u q hu hq
 obtain ⟨A,cap,rfl,hEd⟩:=hO.eds;have hbl:b<w.heap.size:=(Array.getElem?_eq_some_iff.1 hb).1
 have hlk:∀w',Below w.heap.size w w'→(Instr.lookup 137 (.map (some mb)) (.int .i64 a) false).run Tryz.prog w'=.ok (.slice A L.length cap) w':=fun w' hbw=>by
  have:=((h1.below hbw).look (int_fit Tryz.underlying3) Tryz.underlying137 (z:=.slice none 0 0) (by simp [Tryz.zeroValue119]) a).2
  rw [hu] at this;exact this
 obtain ⟨xt,⟨xs,xd⟩,xm⟩:=x
 simp only at hx ⊢
 have H1:=Lib.hid h1;have H2:=Lib.hid h2;have H3:=Lib.hid h3;have H4:=Lib.hid h4;have H6:=Lib.hid h6;have H7:=Lib.hid h7;have HO:=Lib.hid hO;have Hu:=Lib.hid hu;have HqS:=Lib.hid hqS;have Hlk:=Lib.hid hlk;obtain ⟨i,hi⟩:∃i,lowN L xt=i:=⟨_,rfl⟩;obtain ⟨fd,hfd⟩:∃i,hasE L xt=i:=⟨_,rfl⟩
 have hil:i≤L.length:=by rw [←hi];exact (low_spec hs xt).1
 have cB:=Lib.hid (fun w' (hb':Below w.heap.size w w')=>(show Calls Tryz.prog 216 #[.slice A L.length cap,.int .i64 xt,.func (.func 217) #[] #[]] w' fun r w2=>r=.returned (.tuple #[.int .i64 (i:Nat),.bool fd])∧Below w'.heap.size w' w2 by
  have:=binEdge2 w' A L.length cap L xt (hEd.below hb') rfl hs hin hx (by omega)
  rw [hi,hfd] at this;exact this))
 have hins:insS L ⟨xt,⟨xs,xd⟩,xm⟩=L.take i ++ (⟨xt,⟨xs,xd⟩,xm⟩:Ed) :: L.drop i:=by unfold insS;rw [←hi]
 rw [hins];have Hfd:=Lib.hid hfd;obtain ⟨n,hn⟩:∃n,L.length=n:=⟨_,rfl⟩;rw [hn] at hl hil HO HqS Hu Hlk cB;have Hn:=Lib.hid hn;have HB0:=Lib.hid hb
 have kb1:w.cell? ⟨b,1,none⟩=some (.map (some mb)):=by simp [World.cell?,hb]
 have hx:=Lib.hid hx;clear h1 h2 h3 h4 h6 h7 hO hu hqS hlk hEd hi hfd hins hin hs hL hn hb;go_enter Tryz.func164,Tryz.ntmps164
 go_upto_region 1 with (fail)
 refine wp_name ?_;intro W hW
 have HW:Below w.heap.size w W:=by rw [hW];(repeat' (first | exact Below.refl _ _ | assumption | apply bel_drewN | apply bel_drew | apply bel_alloc | (refine bel_trans ?_ (by assumption))))
 have c0:W.cell? ⟨w.heap.size,0,none⟩=some (.int .i64 xt):=by rw [hW];go_simp
 have c1:W.cell? ⟨w.heap.size,1,none⟩=some (.int .i64 xs):=by rw [hW];go_simp
 have c2:W.cell? ⟨w.heap.size,2,none⟩=some (.int .i64 xd):=by rw [hW];go_simp
 have c3:W.cell? ⟨w.heap.size,3,none⟩=some (.int .i64 xm):=by rw [hW];go_simp
 obtain ⟨b5,hb5⟩:∃z,w.heap.size=z:=⟨_,rfl⟩
 have hbb5:b≠b5:=by omega
 have hmb5:mb≠b5:=by omega
 have hSb5:∀q,(Value.slice A n cap).ownBlock=some q→q≠b5:=fun q hq=>by have:=HO.out.lt hq;omega
 have HSb5:=Lib.hid hSb5
 rw [hb5] at c0 c1 c2 c3 ⊢
 have k1:=bel_cell HW kb1
 have hlq:∀d os,(Instr.lookup 137 (.map (some mb)) (.int .i64 a) false).run Tryz.prog (grow (redrawn W d) os)=.ok (.slice A n cap) (grow (redrawn W d) os):=fun d os=>Hlk.out _ (bel_trans HW (below_regrown W d os))
 have c0q:=cell_regrown c0;have k1q:=cell_regrown k1;have HX:=Below.refl W.heap.size W;clear hW kb1 hSb5
 refine wp_region_quiet_below (by kernel_rfl) (by kernel_rfl) ?_
 repeat (first | go_big_quiet_step ((with_reducible exact Calls.regrown_of (cB.out _ (bel_trans HW (below_regrown W _ _))))) | quiet_step ((with_reducible exact Calls.regrown_of (cB.out _ (bel_trans HW (below_regrown W _ _))))))
 refine wpQuiet_nil ?_;intro _ hw';obtain ⟨⟨dq,osq⟩,hw''⟩:=hw';have HY:=bel_trans HX (below_regrown W dq osq);have hb2:=below_regrown W dq osq;subst hw''
 generalize grow (redrawn W dq) osq=W2 at HY hb2 ⊢
 have c0:=bel_cell HY c0;have c1:=bel_cell HY c1;have c2:=bel_cell HY c2;have c3:=bel_cell HY c3;have k1:=bel_cell HY k1;have HB2:=bel_trans HW HY;clear c0q k1q hlq HX hb2 HY
 go_upto_region 2 with (fail)
 obtain ⟨o,ho⟩:∃o,Obj.cells #[Value.int .i64 xt,Value.int .i64 xs,Value.int .i64 xd,Value.int .i64 xm] 182 (0,0)=o:=⟨_,rfl⟩;have hl1:(Instr.lookup 137 (.map (some mb)) (.int .i64 a) false).run Tryz.prog W2.drew=.ok (.slice A n cap) W2.drew:=Hlk.out _ (bel_drew HB2)
 have hl2:∀o,(Instr.lookup 137 (.map (some mb)) (.int .i64 a) false).run Tryz.prog (W2.alloc o).drew=.ok (.slice A n cap) (W2.alloc o).drew:=fun o=>Hlk.out _ (bel_drew (bel_alloc HB2))
 have hOA:OwnE (W2.alloc o).drew 0 (.slice A n cap) L:=HO.out.kept (T:=[]) (.of_below (bel_drew (bel_alloc HB2))) (fun _ _=>by simp)
 have hMA:MapAt iK (W2.alloc o).drew mb V N:=H1.out.below (bel_drew (bel_alloc HB2))
 have hxA:(W2.alloc o).drew.heap[W2.heap.size]? = some (.cells (Ed.cells ⟨xt,⟨xs,xd⟩,xm⟩).toArray 182 (0,0)):=by rw [←ho];exact alloc_at W2 _ rfl
 have hneA:(Value.slice A n cap).ownBlock≠some W2.heap.size:=fun e=>by have:=HO.out.lt e;have:=HB2.size;omega
 have hnb:some b≠(Value.slice A n cap).ownBlock:=fun e=>hbS (HqS.out b e.symm)
 have hn5:some b5≠(Value.slice A n cap).ownBlock:=fun e=>(HSb5.out b5 e.symm) rfl
 have hnm:some mb≠(Value.slice A n cap).ownBlock:=fun e=>h5 (HqS.out mb e.symm)
 have hBA:Below w.heap.size w (W2.alloc o).drew:=bel_drew (bel_alloc HB2);have HA:=Lib.hid (And.intro hOA (And.intro hMA (And.intro hxA (And.intro hneA (And.intro hnb (And.intro hn5 (And.intro hnm hBA)))))))
 have HL1000:L.length≤100000:=by have:=Hn.out;omega
 have HiL:i≤L.length:=by have:=Hn.out;omega
 have Ho:=Lib.hid ho;clear hOA hMA hxA hneA hnb hn5 hnm hBA;rw [←ho] at HA;clear ho
 go_region_held3 (fun w'=>w'.cell? ⟨b,1,none⟩=some (.map (some mb))∧w'.cell? ⟨b5,0,none⟩=some (.int .i64 xt)∧w'.cell? ⟨b5,1,none⟩=some (.int .i64 xs)∧w'.cell? ⟨b5,2,none⟩=some (.int .i64 xd)∧w'.cell? ⟨b5,3,none⟩=some (.int .i64 xm))
  (first
   | exact ⟨k1,c0,c1,c2,c3⟩
   | exact ⟨alloc_some k1,alloc_some c0,alloc_some c1,alloc_some c2,alloc_some c3⟩
   | exact hSI
   | exact hSU)
  ((first
   | (go_at_call 218
      refine (insEdge _ 0 (.slice A n cap) L i W2.heap.size ⟨xt,⟨xs,xd⟩,xm⟩ HA.out.1 HiL HA.out.2.2.1 HA.out.2.2.2.1 (Nat.zero_le _) HL1000).mono ?_;rintro e wI ⟨v',rfl,hOI,hGI,hAt⟩
      have hSI:wI.cell? ⟨b,1,none⟩=some (.map (some mb))∧wI.cell? ⟨b5,0,none⟩=some (.int .i64 xt)∧wI.cell? ⟨b5,1,none⟩=some (.int .i64 xs)∧wI.cell? ⟨b5,2,none⟩=some (.int .i64 xd)∧wI.cell? ⟨b5,3,none⟩=some (.int .i64 xm):=
       ⟨hGI.cell (alloc_some k1) HA.out.2.2.2.2.1,hGI.cell (alloc_some c0) HA.out.2.2.2.2.2.1,hGI.cell (alloc_some c1) HA.out.2.2.2.2.2.1,hGI.cell (alloc_some c2) HA.out.2.2.2.2.2.1,hGI.cell (alloc_some c3) HA.out.2.2.2.2.2.1⟩
      have hMI:MapAt iK wI mb V N:=HA.out.2.1.kept (S:=(Value.slice A n cap).ownBlock.toList) ⟨hGI.os,hGI.tape,hGI.output,hGI.size,fun q hq hn=>hGI.block q hq (fun e=>hn (by rw [←e];simp))⟩ (by
       intro hh;have:=HA.out.2.2.2.2.2.2.1
       cases hv:(Value.slice A n cap).ownBlock with
       | none=>rw [hv] at hh;simp at hh
       | some r=>rw [hv] at hh this;simp at hh;exact this (by rw [hh]))
      obtain ⟨wU,hU,hMU,hKU⟩:=hMI.store (int_fit Tryz.underlying3) Tryz.underlying137 a v';have hU:(Instr.mapUpdate 137 (.map (some mb)) (.int .i64 a) v').run Tryz.prog wI=.ok () wU:=hU
      have hSU:wU.cell? ⟨b,1,none⟩=some (.map (some mb))∧wU.cell? ⟨b5,0,none⟩=some (.int .i64 xt)∧wU.cell? ⟨b5,1,none⟩=some (.int .i64 xs)∧wU.cell? ⟨b5,2,none⟩=some (.int .i64 xd)∧wU.cell? ⟨b5,3,none⟩=some (.int .i64 xm):=
       ⟨keptc hKU (by simpa using hbm) hSI.1,keptc hKU (by simpa using Ne.symm hmb5) hSI.2.1,keptc hKU (by simpa using Ne.symm hmb5) hSI.2.2.1,keptc hKU (by simpa using Ne.symm hmb5) hSI.2.2.2.1,keptc hKU (by simpa using Ne.symm hmb5) hSI.2.2.2.2⟩)))
 all_goals
  have hfin:=EMap.put H1.out H2.out H3.out H4.out h5 H6.out H7.out Hu.out HA.out.2.2.2.2.2.2.2 hOI hGI hAt hMU hKU;go_end0;exact ⟨rfl,hfin⟩
theorem boolQ (P:Prop):∃t:Bool,t=true↔P:=by
 by_cases h:P
 ·exact ⟨true,by simp [h]⟩
 ·exact ⟨false,by simp [h]⟩
def GraphOf (w:World) (b p mb:Nat) (S:List Nat) (g:G) (v:Int) (E:Int→Option (List Ed)):Prop:=
 w.heap[b]? = some (.cells #[.pointer (some ⟨p,0,none⟩),.map (some mb)] 185 (0,0))∧GridAt w p g v∧EMap w S mb E∧b∉S∧p∉S∧b≠mb∧p≠mb∧b≠p
theorem GraphOf.below {w w':World} {b p mb:Nat} {S:List Nat} {g:G} {v:Int} {E:Int→Option (List Ed)} (h:GraphOf w b p mb S g v E) (hb:Below w.heap.size w w'):GraphOf w' b p mb S g v E:=
 ⟨(hb.block b (Array.getElem?_eq_some_iff.1 h.1).1).trans h.1,h.2.1.below hb h.2.1.lt,h.2.2.1.below hb,h.2.2.2⟩
theorem GraphOf.put {w w':World} {b p mb:Nat} {S S':List Nat} {g:G} {v:Int} {E E':Int→Option (List Ed)} (h:GraphOf w b p mb S g v E) (hE:EMap w' S' mb E') (hS:∀k∈S',k∈S∨w.heap.size≤k) (hk:Kept (mb :: S) w w'):GraphOf w' b p mb S' g v E':=by
 obtain ⟨h1,h2,h3,h4,h5,h6,h7,h8⟩:=h;have hb:b<w.heap.size:=(Array.getElem?_eq_some_iff.1 h1).1
 refine ⟨(hk.block b hb (by simp [h6,h4])).trans h1,h2.kept hk (by simp [h7,h5]),hE,?_,?_,h6,h7,h8⟩
 ·intro hh
  rcases hS b hh with a | a
  ·exact h4 a
  ·omega
 ·intro hh
  rcases hS p hh with a | a
  ·exact h5 a
  ·have:=h2.lt;omega
def GSpec (g:G) (Done:Nat→Nat→Prop) (E:Int→Option (List Ed)):Prop:=
 (∀z:Int,E z≠none↔∃c:Nat,z=c∧g.Corner c)∧∀(c:Nat) (L:List Ed),E c=some L→Srt L∧∀e,e∈L↔∃y:Nat,g.Corner y∧y≠c∧Done c y∧g.Direct c y∧e=⟨y,g.oct c y,-1⟩
theorem corner_free {g:G} (hg:g.ok) {c:Nat} (h:g.Corner c):c<g.n∧g.b c=false:=by
 refine ⟨h.1,?_⟩;have:=h.2.1;rw [G.op_cell hg h.1] at this
 simpa using this
theorem srt_long {L:List Ed} (hs:Srt L) (n:Nat) (h:∀e∈L,0≤e.to_∧e.to_<n):L.length≤n:=by
 have key:∀(j:Nat) (e:Ed),L[j]? = some e→(j:Int)≤e.to_:=by
  intro j
  induction j with
  | zero=>intro e he;exact (h e (List.mem_of_getElem? he)).1
  | succ j ih=>
   intro e he;have hl:=(List.getElem?_eq_some_iff.1 he).1
   obtain ⟨x,hx⟩:∃x,L[j]? = some x:=⟨L[j]'(by omega),List.getElem?_eq_getElem _⟩
   have a:=ih x hx
   have b:=hs j (j+1) x e (by omega) hx he
   omega
 cases hl:L.length with
 | zero=>omega
 | succ m=>
  obtain ⟨x,hx⟩:∃x,L[m]? = some x:=⟨L[m]'(by omega),List.getElem?_eq_getElem _⟩
  have a:=key m x hx;have b:=(h x (List.mem_of_getElem? hx)).2;omega
theorem GSpec.facts {g:G} (hg:g.ok) {Done:Nat→Nat→Prop} {E:Int→Option (List Ed)} (h:GSpec g Done E) {c:Nat} (hc:g.Corner c):∃L,E c=some L∧Srt L∧(∀e∈L,inC e.to_)∧L.length≤1000∧∀e,e∈L↔∃y:Nat,g.Corner y∧y≠c∧Done c y∧g.Direct c y∧e=⟨y,g.oct c y,-1⟩:=by
 have h1:=(h.1 c).2 ⟨c,rfl,hc⟩
 cases hE:E c with
 | none=>exact absurd hE h1
 | some L=>
  obtain ⟨a,b⟩:=h.2 c L hE
  have hb:∀e∈L,0≤e.to_∧e.to_<g.n:=fun e he=>by
   obtain ⟨y,hy,_,_,_,rfl⟩:=(b e).1 he;have:=(corner_free hg hy).1;simp only;omega
  have hn:=G.n_le hg
  refine ⟨L,rfl,a,fun e he=>?_,?_,b⟩
  ·have:=hb e he
   unfold inC;omega
  ·have:=srt_long a g.n hb
   omega
def DoneP (Done:Nat→Nat→Prop) (a b:Nat):Nat→Nat→Prop:=fun x y=>Done x y∨(x=a∧y=b)∨(x=b∧y=a)
theorem GSpec.no {g:G} {Done:Nat→Nat→Prop} {E:Int→Option (List Ed)} (h:GSpec g Done E) {a b:Nat} (hd:¬g.Direct a b):GSpec g (DoneP Done a b) E:=by
 refine ⟨h.1,fun c L hc=>⟨(h.2 c L hc).1,fun e=>?_⟩⟩
 rw [(h.2 c L hc).2 e]
 constructor
 ·rintro ⟨y,h1,h2,h3,h4,h5⟩
  exact ⟨y,h1,h2,.inl h3,h4,h5⟩
 ·rintro ⟨y,h1,h2,h3 | ⟨rfl,rfl⟩ | ⟨rfl,rfl⟩,h4,h5⟩
  ·exact ⟨y,h1,h2,h3,h4,h5⟩
  ·exact absurd h4 hd
  ·exact absurd (G.direct_symm.1 h4) hd
theorem GSpec.yes {g : G} {Done : Nat → Nat → Prop} {E : Int → Option (List Ed)} (h : GSpec g Done E) {a b : Nat} (ha : g.Corner a) (hb : g.Corner b) (hab : a ≠ b) (hd : g.Direct a b) (h1 : ¬ Done a b) (h2 : ¬ Done b a) {La Lb : List Ed} (hLa : E a = some La) (hLb : E b = some Lb) :
    GSpec g (DoneP Done a b) (updE (updE E a (some (insS La ⟨b,g.oct a b,-1⟩))) b (some (insS Lb ⟨a,g.oct a b,-1⟩)))∧hasE La b=false∧hasE Lb a=false:=by
 obtain ⟨sa,ma⟩:=h.2 a La hLa;obtain ⟨sb,mb⟩:=h.2 b Lb hLb
 have na:hasE La b=false:=by
  cases hh:hasE La b with
  | false=>rfl
  | true=>
   obtain ⟨e,he,e1⟩:=has_iff.1 hh;obtain ⟨y,_,_,q,_,rfl⟩:=(ma e).1 he;simp only at e1
   obtain rfl:y=b:=by omega
   exact absurd q h1
 have nb:hasE Lb a=false:=by
  cases hh:hasE Lb a with
  | false=>rfl
  | true=>
   obtain ⟨e,he,e1⟩:=has_iff.1 hh;obtain ⟨y,_,_,q,_,rfl⟩:=(mb e).1 he;simp only at e1
   obtain rfl:y=a:=by omega
   exact absurd q h2
 have hba:¬((b:Int)=(a:Int)):=by omega
 refine ⟨⟨fun z=>?_,fun c L hc=>?_⟩,na,nb⟩
 ·unfold updE
  by_cases e1:z=(b:Int)
  ·rw [if_pos e1]
   exact ⟨fun _=>⟨b,e1,hb⟩,fun _=>by simp⟩
  ·rw [if_neg e1]
   by_cases e2:z=(a:Int)
   ·rw [if_pos e2]
    exact ⟨fun _=>⟨a,e2,ha⟩,fun _=>by simp⟩
   ·rw [if_neg e2]
    exact h.1 z
 ·unfold updE at hc
  by_cases e1:(c:Int)=(b:Int)
  ·rw [if_pos e1] at hc
   injection hc with hc
   obtain rfl:c=b:=by omega
   subst hc
   refine ⟨srt_insS sb nb,fun e=>?_⟩
   rw [mem_insS,mb e]
   constructor
   ·rintro (rfl | ⟨y,q1,q2,q3,q4,q5⟩)
    ·exact ⟨a,ha,hab,.inr (.inr ⟨rfl,rfl⟩),G.direct_symm.1 hd,by rw [G.oct_symm]⟩
    ·exact ⟨y,q1,q2,.inl q3,q4,q5⟩
   ·rintro ⟨y,q1,q2,q3 | ⟨rfl,rfl⟩ | ⟨_,rfl⟩,q4,q5⟩
    ·exact .inr ⟨y,q1,q2,q3,q4,q5⟩
    ·exact absurd rfl hab
    ·exact .inl (by rw [q5,G.oct_symm])
  ·rw [if_neg e1] at hc
   by_cases e2:(c:Int)=(a:Int)
   ·rw [if_pos e2] at hc
    injection hc with hc
    obtain rfl:c=a:=by omega
    subst hc
    refine ⟨srt_insS sa na,fun e=>?_⟩
    rw [mem_insS,ma e]
    constructor
    ·rintro (rfl | ⟨y,q1,q2,q3,q4,q5⟩)
     ·exact ⟨b,hb,Ne.symm hab,.inr (.inl ⟨rfl,rfl⟩),hd,rfl⟩
     ·exact ⟨y,q1,q2,.inl q3,q4,q5⟩
    ·rintro ⟨y,q1,q2,q3 | ⟨_,rfl⟩ | ⟨rfl,rfl⟩,q4,q5⟩
     ·exact .inr ⟨y,q1,q2,q3,q4,q5⟩
     ·exact .inl q5
     ·exact absurd rfl hab
   ·rw [if_neg e2] at hc
    obtain ⟨s,m⟩:=h.2 c L hc
    refine ⟨s,fun e=>?_⟩
    rw [m e]
    constructor
    ·rintro ⟨y,q1,q2,q3,q4,q5⟩
     exact ⟨y,q1,q2,.inl q3,q4,q5⟩
    ·rintro ⟨y,q1,q2,q3 | ⟨rfl,_⟩ | ⟨rfl,_⟩,q4,q5⟩
     ·exact ⟨y,q1,q2,q3,q4,q5⟩
     ·exact absurd rfl e2
     ·exact absurd rfl e1
def LookD (w:World) (b p mb:Nat) (S:List Nat) (g:G) (v:Int) (Done:Nat→Nat→Prop) (e:Ending) (w':World):Prop:=
 e=.returned (.tuple #[])∧∃S' E',GraphOf w' b p mb S' g v E'∧GSpec g Done E'∧(∀k∈S',k∈S∨w.heap.size≤k)∧Kept (mb :: S) w w'
theorem graphLook (w : World) (b p mb : Nat) (S : List Nat) (g : G) (v : Int) (E : Int → Option (List Ed)) (Done : Nat → Nat → Prop) (x y : Nat) (h : GraphOf w b p mb S g v E) (hS : GSpec g Done E) (hx : g.Corner x) (hy : g.Corner y) (hxy : x ≠ y) (h1 : ¬ Done x y) (h2 : ¬ Done y x) :
    Calls Tryz.prog 110 #[.pointer (some ⟨b,0,none⟩),.int .i64 (x:Nat),.int .i64 (y:Nat)] w (LookD w b p mb S g v (DoneP Done x y)):=by
 have hg:=h.2.1;have hok:=hg.1;have hNn:=G.n_le hok;obtain ⟨xn,xf⟩:=corner_free hok hx;obtain ⟨yn,yf⟩:=corner_free hok hy
 have kb0:w.cell? ⟨b,0,none⟩=some (.pointer (some ⟨p,0,none⟩)):=by simp [World.cell?,h.1]
 obtain ⟨t,ht⟩:=boolQ (g.Direct x y);have Ht:=Lib.hid ht;have cD:=Lib.hid (reachDirect_ok w p g v x y t hg xn yn xf yf ht);have H:=Lib.hid h;have HS:=Lib.hid hS;have Hd:=Lib.hid (And.intro h1 h2);clear h hS ht h1 h2 hg;go_enter Tryz.func110,Tryz.ntmps110;go_wp2_with fail
 (with_reducible refine cD.out.mono ?_)
 rintro e w1 ⟨rfl,hb1⟩;clear cD
 cases t with
 | false=>
  have hno:¬g.Direct x y:=fun hh=>by have:=Ht.out.2 hh;cases this
  have hfin:LookD w b p mb S g v (DoneP Done x y) (.returned (.tuple #[])) w1:=⟨rfl,S,E,H.out.below hb1,HS.out.no hno,fun k hk=>.inl hk,Kept.of_below hb1⟩
  have hfin:=Lib.hid hfin;clear Ht;go_wp2;go_end0;exact hfin.out
 | true=>
  have hyes:g.Direct x y:=Ht.out.1 rfl;obtain ⟨Lx,hLx,sx,ix,lx,_⟩:=HS.out.facts hok hx;obtain ⟨Ly,hLy,sy,iy,ly,_⟩:=HS.out.facts hok hy;have hG1:=H.out.below hb1;have hgr1:GridAt w1 p g v:=hG1.2.1;have kb0:=bel_cell hb1 kb0;have hsp:=Lib.hid (HS.out.yes hx hy hxy hyes Hd.out.1 Hd.out.2 hLx hLy);obtain ⟨⟨os,od⟩,ho⟩:∃z,g.oct x y=z:=⟨_,rfl⟩;rw [ho] at hsp
  have hx0:inC (x:Int):=by unfold inC;omega
  have hy0:inC (y:Int):=by unfold inC;omega
  clear Ht;go_wp2_with fail
  (with_reducible refine (gOctile _ p g v x y ⟨os,od⟩ hgr1 xn yn ho).mono ?_)
  rintro e w2 ⟨rfl,hb2⟩
  go_upto_region 3 with (fail)
  refine wp_name ?_;intro W hW
  have HW:Below w2.heap.size w2 W:=by rw [hW];(repeat' (first | exact Below.refl _ _ | assumption | apply bel_drewN | apply bel_drew | apply bel_alloc | (refine bel_trans ?_ (by assumption))))
  have o0:W.cell? ⟨w2.heap.size,0,none⟩=some (.int .i64 os):=by rw [hW];go_simp
  have o1:W.cell? ⟨w2.heap.size,1,none⟩=some (.int .i64 od):=by rw [hW];go_simp
  have hB1:=bel_trans hb2 HW;have hGW:=hG1.below hB1;have hBW:=bel_trans hb1 hB1
  have hnS:w2.heap.size∉mb :: S:=by
   have hE:=hG1.2.2.1;have hml:=hE.lt;obtain ⟨V,N,q1,q2,q3,q4,q5,q6,q7⟩:=hE;have hsz:=hb2.size;intro hh
   rcases List.mem_cons.1 hh with e | e
   ·omega
   ·have:=q7 _ e;omega
  obtain ⟨b8,hb8⟩:∃z,w2.heap.size=z:=⟨_,rfl⟩
  rw [hb8] at o0 o1 hnS ⊢
  have HGW:=Lib.hid hGW;obtain ⟨g1,g2,g3,g4,g5,g6,g7,g8⟩:=hGW;have c1:=Lib.hid (graphPut W S b p mb E (x:Nat) ⟨(y:Nat),⟨os,od⟩,-1⟩ Lx g1 g3 g4 g6 hLx sx ix hy0 lx);clear hW hb8 HW hB1 hG1 hb2 hb1 kb0 g1 g2 g3 g4 g5 g6 g7 g8;go_wp2_with fail
  (refine c1.out.mono ?_)
  rintro e w3 ⟨rfl,S1,hE1,hS1,hK1⟩;have hG3:=HGW.out.put hE1 hS1 hK1;have o0:=keptc hK1 hnS o0;have o1:=keptc hK1 hnS o1
  have hLy2:updE E (x:Nat) (some (insS Lx ⟨(y:Nat),⟨os,od⟩,-1⟩)) (y:Nat)=some Ly:=by
   unfold updE
   rw [if_neg (by omega)]
   exact hLy
  have HG3:=Lib.hid hG3;obtain ⟨g1,g2,g3,g4,g5,g6,g7,g8⟩:=hG3;have c2:=Lib.hid (graphPut w3 S1 b p mb _ (y:Nat) ⟨(x:Nat),⟨os,od⟩,-1⟩ Ly g1 g3 g4 g6 hLy2 sy iy hx0 ly);clear c1 hE1 g1 g2 g3 g4 g5 g6 g7 g8 hLy2 hnS;go_wp2_with fail
  (refine c2.out.mono ?_)
  rintro e w4 ⟨rfl,S2,hE2,hS2,hK2⟩;have hG4:=HG3.out.put hE2 hS2 hK2
  have hKS:Kept (mb :: S) w w4:=by
   have hKw:Kept (mb :: S) w w3:=(Kept.of_below hBW).trans hK1
   refine ⟨hK2.os.trans hKw.os,hK2.tape.trans hKw.tape,hK2.output.trans hKw.output,Nat.le_trans hKw.size hK2.size,fun k hk hn=>?_⟩
   refine (hK2.block k (Nat.lt_of_lt_of_le hk hKw.size) ?_).trans (hKw.block k hk hn);intro hm
   rcases List.mem_cons.1 hm with e | e
   ·exact hn (by rw [e];simp)
   ·rcases hS1 k e with q | q
    ·exact hn (List.mem_cons_of_mem _ q)
    ·have:=hBW.size;omega
  have hSS:∀k∈S2,k∈S∨w.heap.size≤k:=fun k hk=>by
   rcases hS2 k hk with q | q
   ·rcases hS1 k q with r | r
    ·exact .inl r
    ·have:=hBW.size;exact .inr (by omega)
   ·have:=hK1.size;have:=hBW.size;exact .inr (by omega)
  have hfin:LookD w b p mb S g v (DoneP Done x y) (.returned (.tuple #[])) w4:=⟨rfl,S2,_,hG4,hsp.out.1,hSS,hKS⟩;have hfin:=Lib.hid hfin;clear hE2 hG4 hSS hKS;go_wp2;go_end0;exact hfin.out
theorem EMap.add {w wU : World} {S : List Nat} {mb N N2 : Nat} {E : Int → Option (List Ed)} {V : Int → Option Value} {a : Int}
    (h1:MapAt iK w mb V N) (h2:∀k,E k=none↔V k=none) (h3:∀k u L,V k=some u→E k=some L→OwnE w 0 u L) (h4:∀k u q,V k=some u→u.ownBlock=some q→q∈S) (h5:mb∉S)
    (h6:∀k k' u u' q,V k=some u→V k'=some u'→u.ownBlock=some q→u'.ownBlock=some q→k=k') (h7:∀s,s∈S→s<w.heap.size)
    (hM:MapAt iK wU mb (updK V a (some (.slice none 0 0))) N2) (hK:Kept [mb] w wU):EMap wU S mb (updE E a (some [])):=by
 refine ⟨_,N2,hM,fun k=>?_,fun k x L hx hL=>?_,fun k x q hx hq=>?_,h5,fun k k' x x' q hx hx' hq hq'=>?_,fun s hs=>Nat.lt_of_lt_of_le (h7 s hs) hK.size⟩
 ·unfold updE updK
  split
  ·simp
  ·exact h2 k
 ·unfold updE at hL
  unfold updK at hx
  split at hx
  ·rename_i e
   rw [if_pos e] at hL
   injection hx with hx
   injection hL with hL
   subst hx;subst hL;exact OwnE.nil _ _
  ·rename_i e
   rw [if_neg e] at hL
   exact (h3 k x L hx hL).kept hK (fun q hq=>by
    have:=h4 k x q hx hq;simp;rintro rfl;exact h5 this)
 ·unfold updK at hx
  split at hx
  ·injection hx with hx
   subst hx;simp [Value.ownBlock] at hq
  ·exact h4 k x q hx hq
 ·unfold updK at hx hx'
  split at hx
  ·injection hx with hx
   subst hx;simp [Value.ownBlock] at hq
  ·split at hx'
   ·injection hx' with hx'
    subst hx';simp [Value.ownBlock] at hq'
   ·exact h6 k k' x x' q hx hx' hq hq'
def RetIntsC (w:World) (zs:List Int) (e:Ending) (w':World):Prop:=∃A m,e=.returned (.slice A zs.length m)∧zs.length≤m∧Ints w' A zs.length (fun k=>zs.getD k 0)∧(∀ad,A=some ad→w.heap.size≤ad.block∧ad.block<w'.heap.size)∧Below w.heap.size w w'
theorem ret_intsC {w w':World} {v:Value} {zs:List Int} (h:OwnI w' w.heap.size v zs) (hb:Below w.heap.size w w'):RetIntsC w zs (.returned v) w':=by
 obtain ⟨A,m,rfl,hi⟩:=h.ints;refine ⟨A,m,rfl,?_,hi,?_,hb⟩
 ·rcases h.2 with ⟨e,h0⟩ | ⟨g,cap,cur,e,_,_,hc,_⟩
  ·injection e with e1 e2 e3;omega
  ·injection e with e1 e2 e3;omega
 ·intro ad e
  subst e;exact World.ownsRow.lt h ad.block rfl
theorem kept_new {w2 wr w':World} {mb:Nat} {S:List Nat} (h:Kept [mb] w2 wr) (k:Kept (mb :: S) wr w') (hS:∀q∈S,w2.heap.size≤q):Kept [mb] w2 w':=
 ⟨k.os.trans h.os,k.tape.trans h.tape,k.output.trans h.output,Nat.le_trans h.size k.size,fun q hq hn=>by
  refine (k.block q (Nat.lt_of_lt_of_le hq h.size) ?_).trans (h.block q hq hn);intro hm
  rcases List.mem_cons.1 hm with e | e
  ·exact hn (by rw [e];simp)
  ·have:=hS q e;omega⟩
theorem cornerAllC (w : World) (p : Nat) (g : G) (v : Int) (h : GridAt w p g v) :
    Calls Tryz.prog 136 #[.pointer (some ⟨p,0,none⟩)] w (RetIntsC w (cornersI g)):=by
 have hp:=Lib.hid h.lt;have hn:=G.n_le h.1;go_enter Tryz.func136,Tryz.ntmps136;go_wp2_with fail;refine (gridCellsN w p g v h).mono ?_;rintro e w1 ⟨rfl,hb1⟩;have hs1:=hb1.size;go_wp2_with fail
 go_loopw [3,9] (fun l i wr=>∃k:Nat,k≤g.n∧i=.int .i64 k∧OwnI wr w.heap.size l (upTo (cornerB g) k)∧Below w.heap.size w wr) (fun _ i _=>g.n-(intOf i).toNat)
 case atStart=>exact ⟨0,by omega,rfl,OwnI.nil _ _,hb1⟩
 case round=>
  obtain ⟨k,hk,rfl,hown,HB⟩:=hrel;have hl:=upTo_len (cornerB g) k
  by_cases hlt:k<g.n
  ·go_wp2_with fail
   refine (cornerIs_in _ p g v k (h.below HB hp.out) hlt).mono ?_;rintro e w2 ⟨rfl,hb2⟩;have HB2:=bel_trans HB hb2;have hown2:=hown.below (B':=0) hb2;have hz2:=HB2.size
   cases hm:cornerB g k with
   | false=>
    have e:=Lib.hid (upTo_no (p:=cornerB g) hm);clear hm;go_wp2;go_roundw
    case rel=>exact ⟨k+1,by omega,by go_num,by rw [e.out];exact hown2,HB2⟩
    case measure=>simp [intOf];omega
   | true=>
    have e:=Lib.hid (upTo_yes (p:=cornerB g) hm);clear hm
    go_wp2_with (at_builtin;refine wpList_append_int _ rfl _ _ rfl w.heap.size _ _ _ rfl (hown2.alloc _) ⟨w2.heap.size,0,none⟩ rfl (cell1_new _ _ _) (by omega) (by simp;omega) ?_;intro v' w3 hown3 hgrow)
    have HB3:=below_grown (HB2.alloc (by omega) _) (by simp;omega) (hown2.alloc _) hgrow
    go_wp2;go_roundw
    case rel=>exact ⟨k+1,by omega,by go_num,by rw [e.out];exact hown3,HB3⟩
    case measure=>simp [intOf];omega
  ·obtain rfl:k=g.n:=by omega
   go_wp2;go_ret;exact ret_intsC hown HB
def cf (g:G) (i:Nat):Nat:=((cornersI g).getD i 0).toNat
theorem pairwise_getD {L:List Int} (h:L.Pairwise (· < ·)) {i j:Nat} (hij:i<j) (hj:j<L.length):L.getD i 0<L.getD j 0:=by
 have:=(List.pairwise_iff_getElem.1 h) i j (by omega) hj hij
 simpa [List.getD,show i<L.length by omega,hj] using this
theorem corners_sorted (g:G):(cornersI g).Pairwise (· < ·):=by
 unfold cornersI upTo;rw [List.pairwise_map]
 exact (List.Pairwise.filter _ List.pairwise_lt_range).imp (fun h=>by omega)
theorem cf_at {g:G} {i:Nat} (hi:i<(cornersI g).length):(cornersI g).getD i 0=(cf g i:Nat)∧g.Corner (cf g i):=by
 obtain ⟨d,h1,h2,h3⟩:=upTo_get (p:=cornerB g) (n:=g.n) hi;have h1':(cornersI g).getD i 0=(d:Int):=h1
 have e:cf g i=d:=by unfold cf;rw [h1'];simp
 rw [e];exact ⟨h1',(corner_iff' h2).1 h3⟩
theorem cf_lt {g:G} {i j:Nat} (hij:i<j) (hj:j<(cornersI g).length):cf g i<cf g j:=by
 have h:=pairwise_getD (corners_sorted g) hij hj
 rw [(cf_at (show i<_ by omega)).1,(cf_at hj).1] at h
 omega
theorem cf_inj {g:G} {i j:Nat} (hi:i<(cornersI g).length) (hj:j<(cornersI g).length) (h:cf g i=cf g j):i=j:=by
 rcases Nat.lt_trichotomy i j with q | q | q
 ·have:=cf_lt q hj;omega
 ·exact q
 ·have:=cf_lt q hi;omega
theorem cf_has {g:G} {c:Nat} (h:g.Corner c):∃i,i<(cornersI g).length∧cf g i=c:=by
 obtain ⟨k,h1,h2⟩:=upTo_has (p:=cornerB g) (n:=g.n) h.1 ((corner_iff' h.1).2 h);refine ⟨k,h1,?_⟩;unfold cf;have h2':(cornersI g).getD k 0=(c:Int):=h2;rw [h2'];simp
theorem corners_le {g:G} (hg:g.ok):(cornersI g).length≤256:=Nat.le_trans (upTo_len _ _) (G.n_le hg)
def Dn (g:G) (i j:Nat) (x y:Nat):Prop:=∃a b,a<b∧b<(cornersI g).length∧(a<i∨(a=i∧b<j))∧((x=cf g a∧y=cf g b)∨(x=cf g b∧y=cf g a))
theorem GSpec.congr {g:G} {D D':Nat→Nat→Prop} {E:Int→Option (List Ed)} (h:GSpec g D E) (hD:∀c y,g.Corner c→g.Corner y→y≠c→(D c y↔D' c y)):GSpec g D' E:=by
 refine ⟨h.1,fun c L hc=>⟨(h.2 c L hc).1,fun e=>?_⟩⟩
 obtain ⟨c',e1,hcc⟩:=(h.1 c).1 (by rw [hc];simp)
 obtain rfl:c=c':=by omega
 rw [(h.2 c L hc).2 e]
 constructor
 ·rintro ⟨y,q1,q2,q3,q4,q5⟩;exact ⟨y,q1,q2,(hD c y hcc q1 q2).1 q3,q4,q5⟩
 ·rintro ⟨y,q1,q2,q3,q4,q5⟩;exact ⟨y,q1,q2,(hD c y hcc q1 q2).2 q3,q4,q5⟩
theorem dn_step {g:G} {i j:Nat} (hij:i<j) (hj:j<(cornersI g).length):∀x y,DoneP (Dn g i j) (cf g i) (cf g j) x y↔Dn g i (j+1) x y:=by
 intro x y
 constructor
 ·rintro (⟨a,b,h1,h2,h3,h4⟩ | ⟨rfl,rfl⟩ | ⟨rfl,rfl⟩)
  ·exact ⟨a,b,h1,h2,by omega,h4⟩
  ·exact ⟨i,j,hij,hj,.inr ⟨rfl,by omega⟩,.inl ⟨rfl,rfl⟩⟩
  ·exact ⟨i,j,hij,hj,.inr ⟨rfl,by omega⟩,.inr ⟨rfl,rfl⟩⟩
 ·rintro ⟨a,b,h1,h2,h3,h4⟩
  by_cases e:a=i∧b=j
  ·obtain ⟨rfl,rfl⟩:=e
   exact .inr h4
  ·exact .inl ⟨a,b,h1,h2,by omega,h4⟩
theorem dn_not {g:G} {i j:Nat} (hij:i<j) (hj:j<(cornersI g).length):¬Dn g i j (cf g i) (cf g j)∧¬Dn g i j (cf g j) (cf g i):=by
 constructor
 ·rintro ⟨a,b,h1,h2,h3,⟨h4,h5⟩ | ⟨h4,h5⟩⟩
  ·have e1:=cf_inj (by omega) (by omega) h4
   have e2:=cf_inj hj h2 h5;omega
  ·have e1:=cf_inj (by omega) h2 h4
   have e2:=cf_inj hj (by omega) h5
   omega
 ·rintro ⟨a,b,h1,h2,h3,⟨h4,h5⟩ | ⟨h4,h5⟩⟩
  ·have e1:=cf_inj hj (by omega) h4
   have e2:=cf_inj (by omega) h2 h5
   omega
  ·have e1:=cf_inj hj h2 h4
   have e2:=cf_inj (by omega) (by omega) h5
   omega
theorem dn_row {g:G} {i j:Nat} (hj:(cornersI g).length≤j):∀x y,Dn g i j x y↔Dn g (i+1) (i+2) x y:=by
 intro x y
 constructor
 ·rintro ⟨a,b,h1,h2,h3,h4⟩;exact ⟨a,b,h1,h2,by omega,h4⟩
 ·rintro ⟨a,b,h1,h2,h3,h4⟩;exact ⟨a,b,h1,h2,by omega,h4⟩
theorem dn_start {g:G}:∀x y,¬Dn g 0 1 x y:=by
 rintro x y ⟨a,b,h1,h2,h3,h4⟩;omega
theorem dn_end {g:G} {i:Nat} (hi:(cornersI g).length≤i) {c y:Nat} (hc:g.Corner c) (hy:g.Corner y) (hn:y≠c):Dn g i (i+1) c y:=by
 obtain ⟨a,ha,rfl⟩:=cf_has hc;obtain ⟨b,hb,rfl⟩:=cf_has hy
 rcases Nat.lt_trichotomy a b with q | q | q
 ·exact ⟨a,b,q,hb,by omega,.inl ⟨rfl,rfl⟩⟩
 ·subst q;exact absurd rfl hn
 ·exact ⟨b,a,q,ha,by omega,.inr ⟨rfl,rfl⟩⟩
def NilTo (g:G) (k:Nat) (E:Int→Option (List Ed)):Prop:=(∀z:Int,E z≠none↔∃i,i<k∧z=(cf g i:Nat))∧∀z L,E z=some L→L=[]
theorem nil_step {g:G} {k:Nat} {E:Int→Option (List Ed)} (h:NilTo g k E):NilTo g (k+1) (updE E (cf g k:Nat) (some [])):=by
 refine ⟨fun z=>?_,fun z L hz=>?_⟩
 ·unfold updE
  by_cases e:z=(cf g k:Nat)
  ·rw [if_pos e]
   exact ⟨fun _=>⟨k,by omega,e⟩,fun _=>by simp⟩
  ·rw [if_neg e,h.1 z]
   constructor
   ·rintro ⟨i,h1,h2⟩;exact ⟨i,by omega,h2⟩
   ·rintro ⟨i,h1,h2⟩
    by_cases e2:i=k
    ·subst e2;exact absurd h2 e
    ·exact ⟨i,by omega,h2⟩
 ·unfold updE at hz
  split at hz
  ·injection hz with hz;exact hz.symm
  ·exact h.2 z L hz
theorem nil_none {g:G} {k:Nat} {E:Int→Option (List Ed)} (h:NilTo g k E) (hk:k<(cornersI g).length):E (cf g k:Nat)=none:=by
 cases he:E (cf g k:Nat) with
 | none=>rfl
 | some L=>
  obtain ⟨i,h1,h2⟩:=(h.1 _).1 (by rw [he];simp)
  have:=cf_inj (g:=g) (i:=k) (j:=i) hk (by omega) (by omega)
  omega
theorem nil_spec {g:G} {E:Int→Option (List Ed)} (h:NilTo g (cornersI g).length E):GSpec g (Dn g 0 1) E:=by
 refine ⟨fun z=>?_,fun c L hc=>?_⟩
 ·rw [h.1 z]
  constructor
  ·rintro ⟨i,h1,h2⟩;exact ⟨_,h2,(cf_at h1).2⟩
  ·rintro ⟨c,rfl,hc⟩
   obtain ⟨i,h1,h2⟩:=cf_has hc
   exact ⟨i,h1,by rw [h2]⟩
 ·have:=h.2 _ _ hc
  subst this
  refine ⟨fun i j a b _ ha=>by simp at ha,fun e=>?_⟩
  constructor
  ·intro h;simp at h
  ·rintro ⟨y,_,_,h3,_⟩;exact absurd h3 (dn_start _ _)
theorem addAdd (a:Addr) (i j:Nat):(a.add i).add j=a.add (i+j):=by
 unfold Addr.add
 by_cases h1:i=0
 ·subst h1;simp
 ·by_cases h2:j=0
  ·subst h2;simp
  ·rw [if_neg h1,if_neg h2,if_neg (by omega)]
   simp [Nat.add_assoc]
theorem Ints.drop {w:World} {A:Option Addr} {n m i:Nat} {f:Nat→Int} (h:Ints w A n f) (hm:n≤m) (hi:i≤n):Ints w (if m=i then A else A.map (·.add i)) (n-i) (fun k=>f (i+k)):=by
 intro hn
 obtain ⟨ad,rfl,h2,h3⟩:=h (by omega)
 rw [if_neg (by omega)]
 refine ⟨ad.add i,rfl,by rw [add_block];exact h2,fun k hk=>?_⟩
 have e:(ad.add i).add k=ad.add (i+k):=addAdd ad i k;rw [e]
 exact h3 (i+k) (by omega)
def NewGD (w:World) (g:G) (v:Int) (e:Ending) (w':World):Prop:=
 ∃b p mb S E,e=.returned (.pointer (some ⟨b,0,none⟩))∧GraphOf w' b p mb S g v E∧GSpec g (fun _ _=>True) E∧(∀k,k∈b :: p :: mb :: S→w.heap.size≤k)∧Below w.heap.size w w'
theorem graphNew (w : World) (q : Nat) (g : G) (v : Int) (h : GridAt w q g v) :
    Calls Tryz.prog 82 #[.pointer (some ⟨q,0,none⟩)] w (NewGD w g v):=by
 have hok:=h.1;have hNn:=G.n_le hok;have hmm:=@run_makeMap Tryz.prog;go_enter Tryz.func82,Tryz.ntmps82;go_wp2_with fail
 (with_reducible refine (gridCopy _ q g v h).mono ?_)
 rintro e w1 ⟨rfl,hG1,hb1,hs1⟩
 go_upto_region 2 with (fail)
 clear hmm;refine wp_name ?_;intro W hW
 have HW:Below w1.heap.size w1 W:=by rw [hW];(repeat' (first | exact Below.refl _ _ | assumption | apply bel_drewN | apply bel_drew | apply bel_alloc | (refine bel_trans ?_ (by assumption))))
 obtain ⟨p,hp⟩:∃z,w.heap.size=z:=⟨_,rfl⟩
 have hpw:w.heap.size≤p:=by omega
 rw [hp] at hG1 hW hs1;obtain ⟨mb,hmb⟩:∃z,p+1=z:=⟨_,rfl⟩;rw [hmb] at hW hs1;obtain ⟨b,hb⟩:∃z,mb+1=z:=⟨_,rfl⟩;rw [hp,hmb,hb]
 have l1:p<mb:=by omega
 have l2:mb<b:=by omega
 have hM:MapAt iK W mb (fun _=>none) 0:=by
  rw [hW,←hs1];exact (MapAt.made w1).below (bel_alloc (Below.refl _ _))
 have hbk:W.heap[b]? = some (.cells #[.pointer (some ⟨p,0,none⟩),.map (some mb)] 185 (0,0)):=by
  rw [hW];exact alloc_at _ _ (by simp;omega)
 have hE0:EMap W [] mb (fun _=>none):=⟨_,0,hM,fun k=>by simp,fun k u L hu=>by simp at hu,fun k u q hu=>by simp at hu,by simp,fun k k' u u' q hu=>by simp at hu,fun s hs=>by simp at hs⟩
 have hGr0:GraphOf W b p mb [] g v (fun _=>none):=⟨hbk,hG1.below HW hG1.lt,hE0,by simp,by simp,by omega,by omega,by omega⟩
 have HBW:=bel_trans hb1 HW;have hq:GridAt W q g v:=h.below HBW h.lt;have hWs:mb<W.heap.size:=hM.lt;clear hW HW hM hbk hE0 hG1 hb1 hs1 hp hmb hb;go_wp2_with fail
 (with_reducible refine (cornerAllC _ q g v hq).mono ?_)
 rintro e w2 ⟨A,m,rfl,hm,hI,hAn,hb2⟩;have hGr2:=hGr0.below hb2;have HB2:=bel_trans HBW hb2;obtain ⟨n,hn⟩:∃n,(cornersI g).length=n:=⟨_,rfl⟩;have hn256:=corners_le hok
 rw [hn] at hm hI hn256 ⊢
 have Hn:=Lib.hid hn;have Hok:=Lib.hid hok
 have hnil:NilTo g 0 (fun _=>none):=⟨fun z=>by simp,fun z L hz=>by simp at hz⟩
 have HI:=Lib.hid hI;clear hn hok hGr0 HBW hq hb2 hI h
 have hAm:∀ad,A=some ad→ad.block∉[mb]:=fun ad e=>by
  have h1:=(hAn ad e).1;have h2:=hGr2.2.2.1.lt;have h3:=hWs;simp;omega
 have HAm:=Lib.hid hAm;have hstart:∃E,GraphOf w2 b p mb [] g v E∧NilTo g 0 E∧Kept [mb] w2 w2:=⟨_,hGr2,hnil,Kept.refl _ _⟩;clear hAm hAn hGr2 hnil hWs;go_wp2_with fail
 go_loopw [20] (fun kv wr=>∃k:Nat,k≤n∧kv=.int .i64 k∧∃E,GraphOf wr b p mb [] g v E∧NilTo g k E∧Kept [mb] w2 wr) (fun kv _=>n-(intOf kv).toNat)
 case atStart=>exact ⟨0,by omega,rfl,hstart⟩
 case round=>
  obtain ⟨k,hk,rfl,E,hGr,hnil,hK⟩:=hrel;clear hstart
  by_cases hlt:k<n
  ·have hIr:=HI.out.kept hK HAm.out
   obtain ⟨ad,hA⟩:=hIr.addr (by omega)
   rw [hA] at hIr
   have hix:=fun wx=>idx_run (m:=m) hA hlt wx
   have hE:=hIr.cell (Below.refl _ _) hlt
   rw [(cf_at (by rw [Hn.out];exact hlt)).1] at hE
   have hnone:=nil_none hnil (by rw [Hn.out];exact hlt)
   have hnil2:=nil_step hnil;obtain ⟨c,hc⟩:∃c,cf g k=c:=⟨_,rfl⟩;rw [hc] at hE hnone hnil2;have Hnil:=Lib.hid hnil2;have HGr:=Lib.hid hGr;obtain ⟨g1,g2,g3,g4,g5,g6,g7,g8⟩:=hGr;obtain ⟨V,N,q1,q2,q3,q4,q5,q6,q7⟩:=g3
   have kb1:wr.cell? ⟨b,1,none⟩=some (.map (some mb)):=by simp [World.cell?,g1]
   have Q:=Lib.hid (And.intro q1 (And.intro q2 (And.intro q3 (And.intro q4 (And.intro q5 (And.intro q6 q7))))));clear hIr hA hnil hnone hnil2 hc g1 g2 g4 g5 g6 g7 g8 q1 q2 q3 q4 q5 q6 q7;obtain ⟨wU,hU,hMU,hKU⟩:=Q.out.1.store (int_fit Tryz.underlying3) Tryz.underlying137 (c:Int) (.slice none 0 0);have hU:(Instr.mapUpdate 137 (.map (some mb)) (.int .i64 (c:Nat)) (.slice none 0 0)).run Tryz.prog wr=.ok () wU:=hU
   have hE2:=EMap.add Q.out.1 Q.out.2.1 Q.out.2.2.1 Q.out.2.2.2.1 Q.out.2.2.2.2.1 Q.out.2.2.2.2.2.1 Q.out.2.2.2.2.2.2 hMU hKU
   have hGr2:=HGr.out.put hE2 (fun k hk=>.inl hk) hKU
   have hfin:∃E,GraphOf wU b p mb [] g v E∧NilTo g (k+1) E∧Kept [mb] w2 wU:=⟨_,hGr2,Hnil.out,hK.trans hKU⟩;have hfin:=Lib.hid hfin;clear hE2 hGr2 hMU;go_wp2;go_roundw
   case rel=>exact ⟨k+1,by omega,by go_num,hfin.out⟩
   case measure=>simp [intOf];omega
  ·obtain rfl:k=n:=by omega
   have hsp:GSpec g (Dn g 0 (0+1)) E:=nil_spec (by rw [Hn.out];exact hnil)
   have hstart2:∃S E,GraphOf wr b p mb S g v E∧GSpec g (Dn g 0 (0+1)) E∧(∀s∈S,w2.heap.size≤s)∧Kept [mb] w2 wr:=⟨[],E,hGr,hsp,by simp,hK⟩
   clear hGr hnil hsp hK;go_wp2_with fail;obtain ⟨wo,rfl⟩:∃wo:World,wo=wr:=⟨_,rfl⟩
   go_loopw [32] (fun kv wr=>∃i:Nat,i≤k∧kv=.int .i64 i∧∃S E,GraphOf wr b p mb S g v E∧GSpec g (Dn g i (i+1)) E∧(∀s∈S,w2.heap.size≤s)∧Kept [mb] w2 wr) (fun kv _=>k-(intOf kv).toNat)
   case atStart=>exact ⟨0,by omega,rfl,hstart2⟩
   case round=>
    obtain ⟨i,hi,rfl,S,E,hGr,hsp,hSn,hK⟩:=hrel;clear hstart2
    by_cases hlt2:i<k
    ·have hIr:=HI.out.kept hK HAm.out
     have hId:=Ints.drop HI.out hm (show i+1≤k by omega)
     obtain ⟨ad,hA⟩:=hIr.addr (by omega)
     have hIa:=hIr;rw [hA] at hIa
     have hix:=fun wx=>idx_run (m:=m) hA hlt2 wx
     have hE:=hIa.cell (Below.refl _ _) hlt2
     rw [(cf_at (by rw [Hn.out];exact hlt2)).1] at hE
     obtain ⟨x,hx⟩:∃x,cf g i=x:=⟨_,rfl⟩;rw [hx] at hE;have Hx:=Lib.hid hx;have HId:=Lib.hid hId;have HGr:=Lib.hid hGr;have Hsp:=Lib.hid hsp
     have hw1:IntKind.i64.wrap ((i:Int)+1)=(i:Int)+1:=IntWalk.i64_in _ (by omega)
     have hb1:(0:Int)≤(i:Int)+1:=by omega
     have hb2:(i:Int)+1≤(k:Int):=by omega
     have hb3:i+1≤k:=by omega
     have hb4:i+1≤m:=by omega
     have hb5:((i:Int)+1).toNat=i+1:=by omega
     clear hIr hIa hA hx hId hGr hsp
     go_upto_region 11 with (fail)
     go_cut [40,41,42] (fun sv lv zv wx=>∃A' m',sv=.slice A' (k-(i+1)) m'∧Ints w2 A' (k-(i+1)) (fun t=>(cornersI g).getD (i+1+t) 0)∧(∀ad,A'=some ad→ad.block∉[mb])∧lv=.int .i64 ((k-(i+1):Nat):Int)∧zv=.int .i64 (0:Nat)∧wx=wr)
     case first=>
      by_cases hmi:m=i+1
      ·have hId:=HId.out
       rw [if_pos hmi] at hId;go_wp2;go_meet
       case rel=>exact ⟨_,_,rfl,hId,HAm.out,rfl,rfl,rfl⟩
      ·have hId:=HId.out
       rw [if_neg hmi] at hId;go_wp2;go_meet
       case rel=>
        refine ⟨_,_,rfl,by simpa [Addr.add] using hId,?_,rfl,rfl,rfl⟩
        intro ad0 e
        cases A with
        | none=>simp at e
        | some a0=>
         simp at e;rw [←e];exact HAm.out a0 rfl
     case rest=>
     obtain ⟨A',m',rfl,hI2,hA2,rfl,rfl,hwc⟩:=hcut;have hwc:wc=wr:=hwc;rw [hwc];obtain ⟨r,hr⟩:∃r,k-(i+1)=r:=⟨_,rfl⟩
     rw [hr] at hI2 ⊢
     have HI2:=Lib.hid hI2;have HA2:=Lib.hid hA2;have hstart3:∃S E,GraphOf wr b p mb S g v E∧GSpec g (Dn g i (i+1+0)) E∧(∀s∈S,w2.heap.size≤s)∧Kept [mb] w2 wr:=⟨S,E,HGr.out,Hsp.out,hSn,hK⟩
     have hxc:g.Corner x:=by rw [←Hx.out];exact (cf_at (by rw [Hn.out];exact hlt2)).2
     clear hwc hE hix HId hI2 hA2 HGr Hsp hSn hK hw1 hb1 hb2 hb3 hb4 hb5;obtain ⟨w0,hw0⟩:∃z:World,wr=z:=⟨_,rfl⟩
     rw [hw0] at hstart3 ⊢
     clear hw0;go_wp2_with fail;obtain ⟨wp,rfl⟩:∃wp:World,wp=wr:=⟨_,rfl⟩
     go_loopw [42] (fun kv wr=>∃j:Nat,j≤r∧kv=.int .i64 j∧∃S E,GraphOf wr b p mb S g v E∧GSpec g (Dn g i (i+1+j)) E∧(∀s∈S,w2.heap.size≤s)∧Kept [mb] w2 wr) (fun kv _=>r-(intOf kv).toNat)
     case atStart=>exact ⟨0,by omega,rfl,hstart3⟩
     case round=>
      obtain ⟨j,hj,rfl,S,E,hGr,hsp,hSn,hK⟩:=hrel;clear hstart3
      by_cases hlt3:j<r
      ·have hIr:=HI2.out.kept hK HA2.out
       obtain ⟨ad1,hA1⟩:=hIr.addr (by omega)
       rw [hA1] at hIr
       have hix1:=fun wx=>idx_run (m:=m') hA1 hlt3 wx
       have hE1:=hIr.cell (Below.refl _ _) hlt3
       have hjn:i+1+j<(cornersI g).length:=by rw [Hn.out];omega
       rw [(cf_at hjn).1] at hE1;obtain ⟨y,hy⟩:∃y,cf g (i+1+j)=y:=⟨_,rfl⟩
       have hyc:g.Corner y:=by rw [←hy];exact (cf_at hjn).2
       rw [hy] at hE1
       have hxy:x≠y:=by
        rw [←Hx.out,←hy]
        have:=cf_lt (g:=g) (show i<i+1+j by omega) hjn
        omega
       have hdn:=dn_not (g:=g) (show i<i+1+j by omega) hjn
       have hds:=dn_step (g:=g) (show i<i+1+j by omega) hjn
       rw [Hx.out,hy] at hdn hds
       have hq0:(0:Int)≤(j:Int):=by omega
       have hq1:(j:Int)<(r:Int):=by omega
       have cL:=Lib.hid (graphLook wr b p mb S g v E _ x y hGr hsp hxc hyc hxy hdn.1 hdn.2);have Hds:=Lib.hid hds;clear hIr hA1 hy hGr hsp hdn hds;go_wp2_with fail
       (refine cL.out.mono ?_)
       rintro e w4 ⟨rfl,S',E',hGr',hsp',hS',hK'⟩;have hKn:=kept_new hK hK' hSn
       have hfin:∃S E,GraphOf w4 b p mb S g v E∧GSpec g (Dn g i (i+1+(j+1))) E∧(∀s∈S,w2.heap.size≤s)∧Kept [mb] w2 w4:=by
        refine ⟨S',E',hGr',hsp'.congr (fun c y _ _ _=>Hds.out c y),fun s hs=>?_,hKn⟩
        rcases hS' s hs with q | q
        ·exact hSn s q
        ·have:=hK.size;omega
       have hfin:=Lib.hid hfin;clear hGr' hsp' hS' hK' hKn cL hE1 hix1;go_wp2;go_roundw
       case rel=>exact ⟨j+1,by omega,by go_num,hfin.out⟩
       case measure=>simp [intOf];omega
      ·obtain rfl:j=r:=by omega
       have hfin:∃S E,GraphOf wr b p mb S g v E∧GSpec g (Dn g (i+1) (i+1+1)) E∧(∀s∈S,w2.heap.size≤s)∧Kept [mb] w2 wr:=
        ⟨S,E,hGr,hsp.congr (fun c y _ _ _=>dn_row (by rw [Hn.out];omega) c y),hSn,hK⟩
       have hfin:=Lib.hid hfin;clear hGr hsp hSn hK;go_wp2;go_roundw
       case rel=>first | exact ⟨i+1,by omega,by go_num,hfin.out⟩ | ((repeat apply Exists.intro);exact ⟨⟨i+1,by omega,by go_num,hfin.out⟩,rfl⟩)
       case measure=>simp [intOf];omega
    ·obtain rfl:i=k:=by omega
     have hfin:NewGD w g v (.returned (.pointer (some ⟨b,0,none⟩))) wr:=by
      have hs2:=HB2.size
      refine ⟨b,p,mb,S,E,rfl,hGr,hsp.congr (fun c y h1 h2 h3=>⟨fun _=>trivial,fun _=>dn_end (by rw [Hn.out];omega) h1 h2 h3⟩),?_,Kept.below HB2 hK hs2 (by simp;omega)⟩
      intro t ht
      rcases List.mem_cons.1 ht with e | ht
      ·omega
      rcases List.mem_cons.1 ht with e | ht
      ·omega
      rcases List.mem_cons.1 ht with e | ht
      ·omega
      have:=hSn t ht;omega
     have hfin:=Lib.hid hfin;clear hGr hsp hSn hK;go_wp2;go_ret;exact hfin.out
def putS (L:List Ed) (x:Ed):List Ed:=if hasE L x.to_=true then L.set (lowN L x.to_) x else insS L x
theorem srt_putS {L:List Ed} (hs:Srt L) (x:Ed):Srt (putS L x):=by
 unfold putS
 by_cases h:hasE L x.to_=true
 ·rw [if_pos h]
  obtain ⟨e,he,ht⟩:=(has_at hs x.to_).2 h;obtain ⟨m,hm⟩:∃m,lowN L x.to_=m:=⟨_,rfl⟩
  rw [hm] at he ⊢
  have hget:∀(k:Nat) (y:Ed),(L.set m x)[k]? = some y→∃z:Ed,L[k]? = some z∧z.to_=y.to_:=fun k y hy=>by
   rw [List.getElem?_set] at hy
   split at hy
   ·rename_i q
    subst q
    split at hy
    ·injection hy with hy
     exact ⟨e,he,by rw [ht,hy]⟩
    ·cases hy
   ·exact ⟨y,hy,rfl⟩
  intro i j a b hij ha hb;obtain ⟨a',h1,h2⟩:=hget i a ha;obtain ⟨b',h3,h4⟩:=hget j b hb;have:=hs i j a' b' hij h1 h3;omega
 ·rw [if_neg h]
  exact srt_insS hs (by simpa using h)
theorem mem_putS {L:List Ed} (hs:Srt L) {x e:Ed}:e∈putS L x↔e=x∨(e∈L∧e.to_≠x.to_):=by
 unfold putS
 by_cases h:hasE L x.to_=true
 ·rw [if_pos h]
  obtain ⟨y,hy,ht⟩:=(has_at hs x.to_).2 h;obtain ⟨m,hm⟩:∃m,lowN L x.to_=m:=⟨_,rfl⟩
  rw [hm] at hy ⊢
  have hml:=(List.getElem?_eq_some_iff.1 hy).1
  constructor
  ·intro he
   obtain ⟨k,hk⟩:=List.getElem?_of_mem he;rw [List.getElem?_set] at hk
   by_cases q:m=k
   ·rw [if_pos q,if_pos hml] at hk
    injection hk with hk;exact .inl hk.symm
   ·rw [if_neg q] at hk
    refine .inr ⟨List.mem_of_getElem? hk,fun e1=>?_⟩
    rcases Nat.lt_or_gt_of_ne q with r | r
    ·have:=hs m k y e r hy hk;omega
    ·have:=hs k m e y r hk hy;omega
  ·rintro (rfl | ⟨he,hne⟩)
   ·exact List.mem_of_getElem? (i:=m) (by rw [List.getElem?_set,if_pos rfl,if_pos hml])
   ·obtain ⟨k,hk⟩:=List.getElem?_of_mem he
    have q:m≠k:=fun q=>by subst q;rw [hk] at hy;injection hy with hy;subst hy;exact hne ht
    exact List.mem_of_getElem? (i:=k) (by rw [List.getElem?_set,if_neg q];exact hk)
 ·rw [if_neg h,mem_insS]
  constructor
  ·rintro (h1 | h1)
   ·exact .inl h1
   ·exact .inr ⟨h1,fun e1=>h (has_iff.2 ⟨e,h1,e1⟩)⟩
  ·rintro (h1 | ⟨h1,_⟩)
   ·exact .inl h1
   ·exact .inr h1
end Go.Proofs.YtokhnobcincfjaaGreatDoor
