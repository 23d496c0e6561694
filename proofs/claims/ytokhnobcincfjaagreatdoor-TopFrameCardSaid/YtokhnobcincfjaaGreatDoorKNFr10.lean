/- Lemmas of this claim: RangePut, MapEnt. -/
import Derived.Test.YtokhnobcincfjaaGreatDoorKNFr8
import Derived.Test.YtokhnobcincfjaaGreatDoorKNFr9
set_option linter.unusedVariables false
set_option linter.unusedSimpArgs false
set_option linter.unusedSectionVars false
namespace Go.Proofs.YtokhnobcincfjaaGreatDoor
open Go.RowKit Go.Sort
open Go.ChangeMaps (setBlock)
theorem filter_modify {α:Type} (p:α→Bool) (f:α→α) (h:∀x,p (f x)=p x):∀(l:List α) (i:Nat),((l.modify i f).filter p).length=(l.filter p).length
 | [],i=>by simp
 | x :: l,0=>by
  simp only [List.modify_zero_cons,List.filter_cons,h]
  split <;> rfl
 | x :: l,i+1=>by
  simp only [List.modify_succ_cons,List.filter_cons];have ih:=filter_modify p f h l i
  split <;> simp [ih]
section
variable {P:Program} {kt et mt:TypeId} {K:Type} [DecidableEq K] {kf:K→Value} {w:World} {b r cnt:Nat} {m:K→Option Value} {left:K→Prop}
theorem RangeAt.store (F : KeyFit P kt kf) (ht : P.underlying mt = some (.map kt et)) (h : RangeAt kf w b r m left cnt) (k : K) (v : Value) (hk : m k ≠ none) :
    ∃w',(Instr.mapUpdate mt (.map (some b)) (kf k) v).run P w=.ok () w'∧RangeAt kf w' b r (updK m k (some v)) left cnt∧Kept [b] w w':=by
 have hlt:=h.lt;obtain ⟨es,clk,since,seen,c0,hb,hS,h1,h2,hr,hold,hcnt,hl1,hl2,hsc,hsk⟩:=h
 have hne:r≠b:=by intro e;rw [e,hb] at hr;cases hr
 have hks:∀e∈es.toList,∃j,e.key=kf j:=fun e he=>let ⟨k,a,_⟩:=h1 e he;⟨k,a⟩
 rcases F.find es.toList k w hks with ⟨hf,hno⟩ | ⟨i,e,hf,hi,he⟩
 ·exfalso
  cases hmk:m k with
  | none=>exact hk hmk
  | some u=>
   obtain ⟨e,he,he2,_⟩:=h2 k u hmk;exact absurd he2 (hno e he)
 ·have hmem:e∈es.toList:=List.mem_of_getElem? hi
  obtain ⟨k',a,a2⟩:=h1 e hmem;obtain rfl:k=k':=F.inj _ _ (he.symm.trans a)
  have hi':es[i]? = some e:=by rw [←Array.getElem?_toList];exact hi
  have hget:∀j,(es.modify i fun e=>{ e with key:=kf k,val:=v }).toList[j]? = if i=j then (es.toList[j]?).map (fun e=>{ e with key:=kf k,val:=v }) else es.toList[j]?:=by
   intro j;simp only [Array.getElem?_toList,Array.getElem?_modify]
  have hback:∀x∈(es.modify i fun e=>{ e with key:=kf k,val:=v }).toList,∃y∈es.toList,x.born=y.born∧x.key=y.key∧((x.key=kf k∧x.val=v)∨(x.val=y.val∧y.key≠kf k)):=by
   intro x hx;obtain ⟨j,hj⟩:=List.getElem?_of_mem hx;rw [hget] at hj
   by_cases e1:i=j
   ·subst e1
    rw [if_pos rfl,hi] at hj;simp at hj;subst hj;exact ⟨e,hmem,rfl,he.symm,.inl ⟨rfl,rfl⟩⟩
   ·rw [if_neg e1] at hj
    exact ⟨x,List.mem_of_getElem? hj,rfl,rfl,.inr ⟨rfl,fun q=>e1 (key_one hS hi hj (he.trans q.symm))⟩⟩
  refine ⟨mapSet w b (es.modify i fun e=>{ e with key:=kf k,val:=v }) clk,?_,⟨_,clk,since,seen,c0,mapSet_at hlt.1 _ _,MapKept.stamped_modify hS i _ (fun _ _=>rfl) (fun x _ hx=>?_),?_,?_,?_,?_,?_,?_,?_,hsc,hsk⟩,mapSet_kept _ _ _ _⟩
  ·simp [Instr.mapUpdate,run_underlying ht,MapKept.run_getObj_map hb,F.check,hf,hi',he,F.stays,MapKept.run_setObj_map _ hb,Result.andThen,mapSet]
  ·rw [hi'] at hx;injection hx with hx;subst hx;exact he.symm
  ·intro x hx
   obtain ⟨y,hy,e1,e2,q | ⟨q1,q2⟩⟩:=hback x hx
   ·exact ⟨k,q.1,by unfold updK;rw [if_pos rfl,q.2]⟩
   ·obtain ⟨k2,c1,c2⟩:=h1 y hy
    refine ⟨k2,e2.trans c1,?_⟩;unfold updK;rw [if_neg,c2,q1];rintro rfl;exact q2 c1
  ·intro j u hj
   unfold updK at hj
   by_cases e1:j=k
   ·subst e1
    rw [if_pos rfl] at hj
    injection hj with hj
    refine ⟨{ e with key:=kf j,val:=v },List.mem_of_getElem? (i:=i) ?_,rfl,hj⟩
    rw [hget,if_pos rfl,hi];rfl
   ·rw [if_neg e1] at hj
    obtain ⟨x,hx,c1,c2⟩:=h2 j u hj;obtain ⟨l,hl⟩:=List.getElem?_of_mem hx;refine ⟨x,List.mem_of_getElem? (i:=l) ?_,c1,c2⟩;rw [hget,if_neg,hl];rintro rfl;rw [hi] at hl
    injection hl with hl
    subst hl;exact e1 (F.inj _ _ (c1.symm.trans he))
  ·exact ((mapSet_kept w b _ clk).block r hlt.2 (by simpa using hne)).trans hr
  ·intro x hx
   obtain ⟨y,hy,e1,_⟩:=hback x hx;rw [e1];exact hold y hy
  ·rw [←hcnt]
   have e1:∀a:Array MapEntry,(leftOf a seen).size=(a.toList.filter fun e=>!seen.contains e.born).length:=fun a=>by
    unfold leftOf;rw [←Array.length_toList,Array.toList_filter]
   rw [e1,e1,Array.toList_modify]
   exact filter_modify (fun e:MapEntry=>!seen.contains e.born) (fun e:MapEntry=>{ e with key:=kf k,val:=v }) (fun _=>rfl) _ _
  ·intro x hx k2 hx2
   obtain ⟨y,hy,e1,e2,_⟩:=hback x hx;rw [hl1 y hy k2 (e2.symm.trans hx2),e1]
  ·intro k2 hk2
   unfold updK
   split
   ·simp
   ·exact hl2 k2 hk2
end
end Go.Proofs.YtokhnobcincfjaaGreatDoor
namespace Go.Proofs.YtokhnobcincfjaaGreatDoor
open Go.RowKit Go.Sort
def EntAt {K:Type} (kf:K→Value) (w:World) (b:Nat) (k:K) (st:Nat):Prop:=∃(es:Array MapEntry) (clk i:Nat) (e:MapEntry),w.heap[b]? = some (.map es clk)∧es.toList[i]? = some e∧e.key=kf k∧e.born=st
section
variable {P:Program} {kt et mt:TypeId} {K:Type} [DecidableEq K] {kf:K→Value} {w:World} {b n:Nat} {m:K→Option Value}
theorem EntAt.kept {S:List Nat} {w':World} {k:K} {st:Nat} (h:EntAt kf w b k st) (hk:Kept S w w') (hb:b∉S):EntAt kf w' b k st:=by
 obtain ⟨es,clk,i,e,h1,h2⟩:=h;exact ⟨es,clk,i,e,(hk.block b (Array.getElem?_eq_some_iff.1 h1).1 hb).trans h1,h2⟩
theorem bornIdx {es:Array MapEntry} {clk i:Nat} {e:MapEntry} (hS:MapKept.Stamped es clk) (hi:es[i]? = some e):es.findIdx? (fun x=>((x.born:Int) == ((e.born:Nat):Int)))=some i:=by
 have h3:=hS.2.1;obtain ⟨q1,q2⟩:=Array.getElem?_eq_some_iff.1 hi;rw [Array.findIdx?_eq_some_iff_getElem]
 refine ⟨q1,by rw [q2];simp,fun j hji hp=>?_⟩
 simp only [beq_iff_eq] at hp
 have hb:es[j].born=e.born:=by omega
 have hj':(es.toList.map (·.born))[j]? = some e.born:=by
  rw [List.getElem?_map,Array.getElem?_toList,Array.getElem?_eq_getElem (by omega),Option.map_some,hb]
 have hi':(es.toList.map (·.born))[i]? = some e.born:=by
  rw [List.getElem?_map,Array.getElem?_toList,hi,Option.map_some]
 have:=(List.getElem?_inj (List.getElem?_eq_some_iff.1 hj').1 h3).1 (hj'.trans hi'.symm);omega
theorem MapAt.entry (F : KeyFit P kt kf) (ht : P.underlying mt = some (.map kt et)) (h : MapAt kf w b m n) {z : Value} (hz : ∀ w, (zeroValue et).run P w = .ok z w) (k : K) :
    ∃w' u st,(Instr.mapEntry mt (.map (some b)) (kf k)).run P w=.ok (.tuple #[u,.int .i64 ((st:Nat):Int)]) w'∧MapAt kf w' b (updK m k (some u)) (if (m k).isSome then n else n+1)∧EntAt kf w' b k st∧Kept [b] w w':=by
 have hlt:=h.lt;obtain ⟨es,clk,hb,hS,hn,h1,h2⟩:=h
 have hks:∀e∈es.toList,∃j,e.key=kf j:=fun e he=>let ⟨k,a,_⟩:=h1 e he;⟨k,a⟩
 rcases F.find es.toList k w hks with ⟨hf,hno⟩ | ⟨i,e,hf,hi,he⟩
 ·have hm : m k = none := by
    cases hmk:m k with
    | none=>rfl
    | some v=>
     obtain ⟨e,he,he2,_⟩:=h2 k v hmk;exact absurd he2 (hno e he)
  refine ⟨mapSet w b (es.push { key:=kf k,val:=z,born:=clk }) (clk+1),z,clk,?_,⟨_,_,mapSet_at hlt _ _,MapKept.stamped_push hS hno,by simp [hm,hn],?_,?_⟩,⟨_,_,es.size,{ key:=kf k,val:=z,born:=clk },mapSet_at hlt _ _,by simp,rfl,rfl⟩,mapSet_kept _ _ _ _⟩
  ·simp [Instr.mapEntry,run_underlying ht,MapKept.run_getObj_map hb,F.check,hf,hz,MapKept.run_setObj_map _ hb,Result.andThen,mapSet,goInt]
  ·intro x hx
   simp only [Array.toList_push,List.mem_append,List.mem_singleton] at hx
   rcases hx with hx | rfl
   ·obtain ⟨j,a,a2⟩:=h1 x hx
    refine ⟨j,a,?_⟩;unfold updK;rw [if_neg,a2];rintro rfl;exact hno x hx a
   ·exact ⟨k,rfl,by unfold updK;rw [if_pos rfl]⟩
  ·intro j u hj
   simp only [Array.toList_push,List.mem_append,List.mem_singleton];unfold updK at hj
   by_cases e:j=k
   ·subst e
    rw [if_pos rfl] at hj
    injection hj with hj
    exact ⟨_,.inr rfl,rfl,hj⟩
   ·rw [if_neg e] at hj
    obtain ⟨x,hx,a,a2⟩:=h2 j u hj;exact ⟨x,.inl hx,a,a2⟩
 ·have hmem:e∈es.toList:=List.mem_of_getElem? hi
  obtain ⟨k',a,a2⟩:=h1 e hmem;obtain rfl:k=k':=F.inj _ _ (he.symm.trans a)
  have hi':es[i]? = some e:=by rw [←Array.getElem?_toList];exact hi
  have hmod:es.modify i (fun e=>{ e with key:=kf k })=es:=by
   apply Array.ext'
   apply List.ext_getElem?
   intro j;simp only [Array.getElem?_toList,Array.getElem?_modify]
   split
   ·rename_i e1;subst e1;rw [hi'];simp only [Option.map_some];rw [←he]
   ·rfl
  have hup:updK m k (some e.val)=m:=by
   funext j;unfold updK;split
   ·rename_i e1;rw [e1,a2]
   ·rfl
  refine ⟨mapSet w b es clk,e.val,e.born,?_,?_,⟨es,clk,i,e,mapSet_at hlt _ _,hi,he,rfl⟩,mapSet_kept _ _ _ _⟩
  ·simp [Instr.mapEntry,run_underlying ht,MapKept.run_getObj_map hb,F.check,hf,hi',he,F.stays,MapKept.run_setObj_map _ hb,Result.andThen,mapSet,hmod,goInt]
  ·rw [hup,a2]
   exact ⟨es,clk,mapSet_at hlt _ _,hS,by simp [hn],h1,h2⟩
theorem MapAt.lay (F : KeyFit P kt kf) (h : MapAt kf w b m n) {k : K} {st : Nat} (hE : EntAt kf w b k st) (v : Value) :
    ∃w',(Instr.entryStore mt (.map (some b)) (.int .i64 ((st:Nat):Int)) v).run P w=.ok () w'∧MapAt kf w' b (updK m k (some v)) n∧Kept [b] w w':=by
 have hlt:=h.lt;obtain ⟨es,clk,hb,hS,hn,h1,h2⟩:=h;obtain ⟨es',clk',i,e,hb',hi,he,hst⟩:=hE;rw [hb] at hb'
 injection hb' with hb'
 injection hb' with e1 e2
 subst e1;subst e2
 have hi':es[i]? = some e:=by rw [←Array.getElem?_toList];exact hi
 obtain ⟨k',a,a2⟩:=h1 e (List.mem_of_getElem? hi);obtain rfl:k=k':=F.inj _ _ (he.symm.trans a)
 have hfind:es.findIdx? (fun x=>((x.born:Int) == ((st:Nat):Int)))=some i:=by
  rw [←hst];exact bornIdx hS hi'
 have hget:∀j,(es.modify i fun e=>{ e with val:=v }).toList[j]? = if i=j then (es.toList[j]?).map (fun e=>{ e with val:=v }) else es.toList[j]?:=by
  intro j;simp only [Array.getElem?_toList,Array.getElem?_modify]
 refine ⟨mapSet w b (es.modify i fun e=>{ e with val:=v }) clk,?_,⟨_,_,mapSet_at hlt _ _,MapKept.stamped_modify hS i _ (fun _ _=>rfl) (fun x _ hx=>rfl),by simp [hn],?_,?_⟩,mapSet_kept _ _ _ _⟩
 ·simp [Instr.entryStore,MapKept.run_getObj_map hb,asInt,asIntOf,hfind,MapKept.run_setObj_map _ hb,Result.andThen,mapSet]
 ·intro x hx
  obtain ⟨j,hj⟩:=List.getElem?_of_mem hx;rw [hget] at hj
  by_cases e1:i=j
  ·subst e1
   rw [if_pos rfl,hi] at hj;simp at hj;subst hj
   exact ⟨k,he,by unfold updK;rw [if_pos rfl]⟩
  ·rw [if_neg e1] at hj
   obtain ⟨k2,c1,c2⟩:=h1 x (List.mem_of_getElem? hj);refine ⟨k2,c1,?_⟩;unfold updK;rw [if_neg,c2];rintro rfl;exact e1 (key_one hS hi hj (he.trans c1.symm))
 ·intro j u hj
  unfold updK at hj
  by_cases e1:j=k
  ·subst e1
   rw [if_pos rfl] at hj
   injection hj with hj
   refine ⟨{ e with val:=v },List.mem_of_getElem? (i:=i) ?_,he,hj⟩
   rw [hget,if_pos rfl,hi];rfl
  ·rw [if_neg e1] at hj
   obtain ⟨x,hx,c1,c2⟩:=h2 j u hj;obtain ⟨l,hl⟩:=List.getElem?_of_mem hx;refine ⟨x,List.mem_of_getElem? (i:=l) ?_,c1,c2⟩;rw [hget,if_neg,hl];rintro rfl;rw [hi] at hl
   injection hl with hl
   subst hl;exact e1 (F.inj _ _ (c1.symm.trans he))
end
theorem updK_two {K:Type} [DecidableEq K] (m:K→Option Value) (k:K) (u v:Option Value):updK (updK m k u) k v=updK m k v:=by
 funext j;unfold updK;split <;> rfl
end Go.Proofs.YtokhnobcincfjaaGreatDoor
