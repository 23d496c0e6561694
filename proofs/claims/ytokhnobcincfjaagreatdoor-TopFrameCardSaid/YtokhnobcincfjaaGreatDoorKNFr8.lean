/- Lemmas of this claim: Maps, MapPair, Heap, Heap2, Heap3, Heap4, Heap5, Heap6, Heap7. -/
import Derived.Test.YtokhnobcincfjaaGreatDoorKNFr4
import Derived.MapKept
import Derived.WideKeyRuns
import Derived.Test.YtokhnobcincfjaaGreatDoorKNFr1
import Derived.Test.YtokhnobcincfjaaGreatDoorKNFr6
import Derived.Deep.DeepCutAuto
import Derived.Laws.OwnMore
import Derived.StillTailTactics
import Derived.Deep.AppendLies
import Derived.Deep.RegionLaw
import Derived.WalkSpells
import Derived.Deep.RegionHeld3
set_option linter.unusedVariables false
set_option linter.unusedSimpArgs false
set_option maxHeartbeats 3200000
set_option maxRecDepth 100000
namespace Go.Proofs.YtokhnobcincfjaaGreatDoor
open Go.RowKit Go.Sort
structure KeyFit (P:Program) (kt:TypeId) {K:Type} (kf:K→Value):Prop where
 inj:∀a b,kf a=kf b→a=b
 check:∀(em:Bool) (k:K) (w:World),(Instr.checkKey em 10000 kt (kf k)).run P w=.ok () w
 find:∀(es:List MapEntry) (k:K) (w:World),(∀e∈es,∃j,e.key=kf j)→
  ((Instr.findKey kt (kf k) es).run P w=.ok none w∧∀e∈es,e.key≠kf k)∨∃i e,(Instr.findKey kt (kf k) es).run P w=.ok (some (i,e.val)) w∧es[i]? = some e∧e.key=kf k
 stays:∀(k:K) (w:World),(Instr.keyThatStays (kf k) (kf k)).run P w=.ok (kf k) w
theorem int_fit {P:Program} {kt:TypeId} (hk:P.underlying kt=some (.int .i64)):KeyFit P kt (fun z:Int=>Value.int .i64 z) where
 inj:=fun a b h=>by injection h
 check:=fun em k w=>MapKept.run_checkKey hk (by simp [MapKept.IsKey]) em 9999
 find:=fun es k w h=>by
  have hK:∀x∈es,MapKept.IsKey (.int .i64) x.key:=fun x hx=>by
   obtain ⟨j,e⟩:=h x hx;rw [e];simp [MapKept.IsKey]
  rcases MapKept.findNow_spec (d:=.int .i64) (k:=.int .i64 k) (by simp [MapKept.IsKey]) es 0 hK with ⟨h1,h2⟩ | ⟨j,e,h1,h2,h3⟩
  ·exact .inl ⟨MapKept.run_findKey hk h1,h2⟩
  ·exact .inr ⟨j,e,by rw [MapKept.run_findKey hk h1];simp,h2,h3⟩
 stays:=fun k w=>by simp [Instr.keyThatStays,Instr.sameBits]
def MapAt {K:Type} (kf:K→Value) (w:World) (b:Nat) (m:K→Option Value) (n:Nat):Prop:=
 ∃es clk,w.heap[b]? = some (.map es clk)∧MapKept.Stamped es clk∧es.size=n∧(∀e∈es.toList,∃k,e.key=kf k∧m k=some e.val)∧(∀k v,m k=some v→∃e∈es.toList,e.key=kf k∧e.val=v)
def updK {K:Type} [DecidableEq K] (m:K→Option Value) (k:K) (v:Option Value):K→Option Value:=fun j=>if j=k then v else m j
section
variable {P:Program} {kt et mt:TypeId} {K:Type} {kf:K→Value} {w:World} {b n:Nat} {m:K→Option Value}
theorem MapAt.lt (h:MapAt kf w b m n):b<w.heap.size:=by
 obtain ⟨es,clk,hb,_⟩:=h;exact (Array.getElem?_eq_some_iff.1 hb).1
theorem MapAt.kept {S:List Nat} {w':World} (h:MapAt kf w b m n) (hk:Kept S w w') (hb:b∉S):MapAt kf w' b m n:=by
 have hl:=h.lt;obtain ⟨es,clk,h1,h2⟩:=h;exact ⟨es,clk,(hk.block b hl hb).trans h1,h2⟩
theorem MapAt.below {w':World} (h:MapAt kf w b m n) (hb:Below w.heap.size w w'):MapAt kf w' b m n:=h.kept (S:=[]) (.of_below hb) (by simp)
theorem MapAt.made (w:World):MapAt kf (w.alloc (.map #[] 0)) w.heap.size (fun _=>none) 0:=
 ⟨#[],0,by rw [heap_alloc_new],MapKept.stamped_empty 0,rfl,by simp,by simp⟩
theorem MapAt.look (F : KeyFit P kt kf) (ht : P.underlying mt = some (.map kt et)) (h : MapAt kf w b m n) {z : Value} (hz : (zeroValue et).run P w = .ok z w) (k : K) :
    (Instr.lookup mt (.map (some b)) (kf k) true).run P w=.ok (.tuple #[(m k).getD z,.bool (m k).isSome]) w∧(Instr.lookup mt (.map (some b)) (kf k) false).run P w=.ok ((m k).getD z) w:=by
 obtain ⟨es,clk,hb,hS,hn,h1,h2⟩:=h
 have hks:∀e∈es.toList,∃j,e.key=kf j:=fun e he=>let ⟨k,a,_⟩:=h1 e he;⟨k,a⟩
 rcases F.find es.toList k w hks with ⟨hf,hno⟩ | ⟨i,e,hf,hi,he⟩
 ·have hm : m k = none := by
    cases hmk:m k with
    | none=>rfl
    | some v=>
     obtain ⟨e,he,he2,_⟩:=h2 k v hmk;exact absurd he2 (hno e he)
  rw [hm];simp [Instr.lookup,run_underlying ht,MapKept.run_getObj_map hb,F.check,hf,hz,Result.andThen]
 ·have hmem:e∈es.toList:=List.mem_of_getElem? hi
  obtain ⟨k',a,a2⟩:=h1 e hmem;obtain rfl:k=k':=F.inj _ _ (he.symm.trans a);rw [a2];simp [Instr.lookup,run_underlying ht,MapKept.run_getObj_map hb,F.check,hf,hz,Result.andThen]
theorem key_one {es:Array MapEntry} {clk:Nat} (hS:MapKept.Stamped es clk) {i j:Nat} {x y:MapEntry} (hi:es.toList[i]? = some x) (hj:es.toList[j]? = some y) (hk:x.key=y.key):i=j:=by
 have h3:=hS.2.2
 have hi':(es.toList.map (·.key))[i]? = some x.key:=by simp only [List.getElem?_map,hi,Option.map_some]
 have hj':(es.toList.map (·.key))[j]? = some x.key:=by simp only [List.getElem?_map,hj,Option.map_some,hk]
 have hil:i<(es.toList.map (·.key)).length:=(List.getElem?_eq_some_iff.1 hi').1;exact (List.getElem?_inj hil h3).1 (hi'.trans hj'.symm)
theorem MapAt.len (ht:P.underlying mt=some (.map kt et)) (h:MapAt kf w b m n) (ty:TypeId):(Builtin.len_ #[mt] ty #[.map (some b)]).run P w=.ok (.int .i64 n) w:=by
 obtain ⟨es,clk,hb,hS,hn,h1,h2⟩:=h;subst hn;simp [Builtin.len_,Builtin.lenOf,run_underlying ht,MapKept.run_getObj_map hb,Result.andThen]
 rfl
variable [DecidableEq K]
def mapSet (w:World) (b:Nat) (es:Array MapEntry) (clk:Nat):World:={ w with heap:=w.heap.setIfInBounds b (.map es clk) }
theorem mapSet_kept (w:World) (b:Nat) (es:Array MapEntry) (clk:Nat):Kept [b] w (mapSet w b es clk):=
 ⟨rfl,rfl,rfl,by simp [mapSet],fun k _ hn=>by simp only [List.mem_singleton] at hn;simp [mapSet,Ne.symm hn]⟩
theorem mapSet_at {w:World} {b:Nat} (hb:b<w.heap.size) (es:Array MapEntry) (clk:Nat):(mapSet w b es clk).heap[b]? = some (.map es clk):=by simp [mapSet,hb]
theorem MapAt.store (F : KeyFit P kt kf) (ht : P.underlying mt = some (.map kt et)) (h : MapAt kf w b m n) (k : K) (v : Value) :
    ∃w',(Instr.mapUpdate mt (.map (some b)) (kf k) v).run P w=.ok () w'∧MapAt kf w' b (updK m k (some v)) (if (m k).isSome then n else n+1)∧Kept [b] w w':=by
 have hlt:=h.lt;obtain ⟨es,clk,hb,hS,hn,h1,h2⟩:=h
 have hks:∀e∈es.toList,∃j,e.key=kf j:=fun e he=>let ⟨k,a,_⟩:=h1 e he;⟨k,a⟩
 rcases F.find es.toList k w hks with ⟨hf,hno⟩ | ⟨i,e,hf,hi,he⟩
 ·have hm : m k = none := by
    cases hmk:m k with
    | none=>rfl
    | some v=>
     obtain ⟨e,he,he2,_⟩:=h2 k v hmk;exact absurd he2 (hno e he)
  refine ⟨mapSet w b (es.push { key:=kf k,val:=v,born:=clk }) (clk+1),?_,⟨_,_,mapSet_at hlt _ _,MapKept.stamped_push hS hno,by simp [hm,hn],?_,?_⟩,mapSet_kept _ _ _ _⟩
  ·simp [Instr.mapUpdate,run_underlying ht,MapKept.run_getObj_map hb,F.check,hf,MapKept.run_setObj_map _ hb,Result.andThen,mapSet]
  ·intro x hx
   simp only [Array.toList_push,List.mem_append,List.mem_singleton] at hx
   rcases hx with hx | rfl
   ·obtain ⟨j,a,a2⟩:=h1 x hx
    refine ⟨j,a,?_⟩;unfold updK;rw [if_neg,a2];rintro rfl;exact hno x hx a
   ·exact ⟨k,rfl,by unfold updK;rw [if_pos rfl]⟩
  ·intro j u hj
   simp only [Array.toList_push,List.mem_append,List.mem_singleton];unfold updK at hj
   by_cases e:j=k
   ·subst e
    rw [if_pos rfl] at hj
    injection hj with hj
    exact ⟨_,.inr rfl,rfl,hj⟩
   ·rw [if_neg e] at hj
    obtain ⟨x,hx,a,a2⟩:=h2 j u hj;exact ⟨x,.inl hx,a,a2⟩
 ·have hmem:e∈es.toList:=List.mem_of_getElem? hi
  obtain ⟨k',a,a2⟩:=h1 e hmem;obtain rfl:k=k':=F.inj _ _ (he.symm.trans a)
  have hi':es[i]? = some e:=by rw [←Array.getElem?_toList];exact hi
  have hget:∀j,(es.modify i fun e=>{ e with key:=kf k,val:=v }).toList[j]? = if i=j then (es.toList[j]?).map (fun e=>{ e with key:=kf k,val:=v }) else es.toList[j]?:=by
   intro j;simp only [Array.getElem?_toList,Array.getElem?_modify]
  refine ⟨mapSet w b (es.modify i fun e=>{ e with key:=kf k,val:=v }) clk,?_,⟨_,_,mapSet_at hlt _ _,MapKept.stamped_modify hS i _ (fun _ _=>rfl) (fun x _ hx=>?_),by simp [a2,hn],?_,?_⟩,mapSet_kept _ _ _ _⟩
  ·simp [Instr.mapUpdate,run_underlying ht,MapKept.run_getObj_map hb,F.check,hf,hi',he,F.stays,MapKept.run_setObj_map _ hb,Result.andThen,mapSet]
  ·rw [hi'] at hx;injection hx with hx;subst hx;exact he.symm
  ·intro x hx
   obtain ⟨j,hj⟩:=List.getElem?_of_mem hx;rw [hget] at hj
   by_cases e1:i=j
   ·subst e1
    rw [if_pos rfl,hi] at hj;simp at hj;subst hj
    exact ⟨k,rfl,by unfold updK;rw [if_pos rfl]⟩
   ·rw [if_neg e1] at hj
    obtain ⟨k2,c1,c2⟩:=h1 x (List.mem_of_getElem? hj);refine ⟨k2,c1,?_⟩;unfold updK;rw [if_neg,c2];rintro rfl;exact e1 (key_one hS hi hj (he.trans c1.symm))
  ·intro j u hj
   unfold updK at hj
   by_cases e1:j=k
   ·subst e1
    rw [if_pos rfl] at hj
    injection hj with hj
    refine ⟨{ e with key:=kf j,val:=v },List.mem_of_getElem? (i:=i) ?_,rfl,hj⟩
    rw [hget,if_pos rfl,hi];rfl
   ·rw [if_neg e1] at hj
    obtain ⟨x,hx,c1,c2⟩:=h2 j u hj;obtain ⟨l,hl⟩:=List.getElem?_of_mem hx;refine ⟨x,List.mem_of_getElem? (i:=l) ?_,c1,c2⟩;rw [hget,if_neg,hl];rintro rfl;rw [hi] at hl
    injection hl with hl
    subst hl;exact e1 (F.inj _ _ (c1.symm.trans he))
theorem MapAt.drop (F : KeyFit P kt kf) (ht : P.underlying mt = some (.map kt et)) (h : MapAt kf w b m n) (k : K) (ty : TypeId) :
    ∃w',(Builtin.delete_ #[mt,kt] ty #[.map (some b),kf k]).run P w=.ok (.tuple #[]) w'∧MapAt kf w' b (updK m k none) (if (m k).isSome then n-1 else n)∧Kept [b] w w':=by
 have hlt:=h.lt;obtain ⟨es,clk,hb,hS,hn,h1,h2⟩:=h
 have hks:∀e∈es.toList,∃j,e.key=kf j:=fun e he=>let ⟨k,a,_⟩:=h1 e he;⟨k,a⟩
 rcases F.find es.toList k w hks with ⟨hf,hno⟩ | ⟨i,e,hf,hi,he⟩
 ·have hm : m k = none := by
    cases hmk:m k with
    | none=>rfl
    | some v=>
     obtain ⟨e,he,he2,_⟩:=h2 k v hmk;exact absurd he2 (hno e he)
  have hmm:updK m k none=m:=by
   funext j;unfold updK;split
   ·rename_i e;rw [e,hm]
   ·rfl
  refine ⟨mapSet w b es clk,?_,⟨_,_,mapSet_at hlt _ _,hS,by simp [hm,hn],by rw [hmm];exact h1,by rw [hmm];exact h2⟩,mapSet_kept _ _ _ _⟩
  simp [Builtin.delete_,run_underlying ht,MapKept.run_getObj_map hb,F.check,hf,MapKept.run_setObj_map _ hb,Result.andThen,mapSet]
 ·have hmem:e∈es.toList:=List.mem_of_getElem? hi
  obtain ⟨k',a,a2⟩:=h1 e hmem;obtain rfl:k=k':=F.inj _ _ (he.symm.trans a)
  have hil:i<es.size:=by simpa using (List.getElem?_eq_some_iff.1 hi).1
  have hto:(es.eraseIdxIfInBounds i).toList=es.toList.eraseIdx i:=by
   unfold Array.eraseIdxIfInBounds;rw [dif_pos hil,Array.toList_eraseIdx]
  refine ⟨mapSet w b (es.eraseIdxIfInBounds i) clk,?_,⟨_,_,mapSet_at hlt _ _,MapKept.stamped_erase hS i,?_,?_,?_⟩,mapSet_kept _ _ _ _⟩
  ·simp [Builtin.delete_,run_underlying ht,MapKept.run_getObj_map hb,F.check,hf,MapKept.run_setObj_map _ hb,Result.andThen,mapSet]
  ·rw [a2,←Array.length_toList,hto,List.length_eraseIdx,Array.length_toList,if_pos hil,hn];rfl
  ·intro x hx
   rw [hto] at hx;obtain ⟨j,hne,hj⟩:=List.mem_eraseIdx_iff_getElem?.1 hx;obtain ⟨k2,c1,c2⟩:=h1 x (List.mem_of_getElem? hj);refine ⟨k2,c1,?_⟩;unfold updK;rw [if_neg,c2];rintro rfl;exact hne (key_one hS hj hi (c1.trans he.symm))
  ·intro j u hj
   unfold updK at hj
   by_cases e1:j=k
   ·rw [if_pos e1] at hj;cases hj
   ·rw [if_neg e1] at hj
    obtain ⟨x,hx,c1,c2⟩:=h2 j u hj;obtain ⟨l,hl⟩:=List.getElem?_of_mem hx;refine ⟨x,?_,c1,c2⟩;rw [hto];refine List.mem_eraseIdx_iff_getElem?.2 ⟨l,?_,hl⟩;rintro rfl;rw [hi] at hl
    injection hl with hl
    subst hl;exact e1 (F.inj _ _ (c1.symm.trans he))
theorem wpList_storeM {ops : Array Oper} {rest : List Oper} {o : Oper} {a : Act} {Q : Exit → Act → World → Prop} (hg : o.guard = none) (mo ko vo : Operand) (hop : o.op = Op.mapUpdate mt mo ko vo)
    (F:KeyFit P kt kf) (ht:P.underlying mt=some (.map kt et)) (h:MapAt kf w b m n) (hm:a.eval mo=.map (some b)) (k:K) (hk:a.eval ko=kf k) (v:Value) (hv:a.eval vo=v)
    (hK:∀w',MapAt kf w' b (updK m k (some v)) (if (m k).isSome then n else n+1)→Kept [b] w w'→wpList P ops Q rest (a.put o.dst undef) w'):wpList P ops Q (o :: rest) a w:=by
 refine wpList_plain hg fun K' hK'=>?_
 obtain ⟨w',hrun,r1,r2⟩:=h.store F ht k v;unfold Oper.wp;simp [execOp,hop,hm,hk,hv,hrun,Result.andThen];exact hK' _ _ (hK w' r1 r2)
theorem wpList_dropM {ops : Array Oper} {rest : List Oper} {o : Oper} {a : Act} {Q : Exit → Act → World → Prop} (hg : o.guard = none) (mo ko : Operand) (hop : o.op = Op.call { callee := Callee.builtin Builtin.delete, args := #[mo, ko], argTypes := #[mt, kt] })
    (F:KeyFit P kt kf) (ht:P.underlying mt=some (.map kt et)) (h:MapAt kf w b m n) (hm:a.eval mo=.map (some b)) (k:K) (hk:a.eval ko=kf k)
    (hK:∀w',MapAt kf w' b (updK m k none) (if (m k).isSome then n-1 else n)→Kept [b] w w'→wpList P ops Q rest (a.put o.dst (.tuple #[])) w'):wpList P ops Q (o :: rest) a w:=by
 refine wpList_plain hg fun K' hK'=>?_
 obtain ⟨w',hrun,r1,r2⟩:=h.drop F ht k o.type;unfold Oper.wp;simp [execOp,hop,resolve,invoke,builtin,hm,hk,hrun,Result.andThen];exact hK' _ _ (hK w' r1 r2)
end
def kP (p:Int×Int):Value:=.agg #[.int .i64 p.1,.int .i64 p.2]
theorem pair_equal (a b c d:Int) (w:World):(Op.equal 239 (.agg #[.int .i64 a,.int .i64 b]) (.agg #[.int .i64 c,.int .i64 d])).run Tryz.prog w=.ok (a == c && b == d) w:=by
 have h3:∀(x y:Int) (w':World),(Op.equalIn (9998+1) 3 (.int .i64 x) (.int .i64 y)).run Tryz.prog w'=.ok (x == y) w':=fun x y w'=>by unfold Op.equalIn;go_simp
 show (Op.equalIn (9998+1+1) 239 (.agg #[.int .i64 a,.int .i64 b]) (.agg #[.int .i64 c,.int .i64 d])).run Tryz.prog w=.ok (a == c && b == d) w
 unfold Op.equalIn;go_simp;simp only [List.range',List.forIn_cons,List.forIn_nil,Nat.zero_mul,Nat.one_mul]
 cases h1:(a == c) <;> cases h2:(b == d) <;> go_simp
theorem pair_check (em:Bool) (a b:Int) (w:World):(Instr.checkKey em 10000 239 (.agg #[.int .i64 a,.int .i64 b])).run Tryz.prog w=.ok () w:=by
 show (Instr.checkKey em (9998+1+1) 239 (.agg #[.int .i64 a,.int .i64 b])).run Tryz.prog w=.ok () w
 have h3:∀(x:Int) (w':World),(Instr.checkKey em (9998+1) 3 (.int .i64 x)).run Tryz.prog w'=.ok () w':=fun x w'=>by unfold Instr.checkKey;go_simp
 unfold Instr.checkKey;go_simp;simp only [List.range',List.forIn_cons,List.forIn_nil,Nat.zero_mul,Nat.one_mul];go_simp
theorem pair_stays (a b:Int) (w:World):(Instr.keyThatStays (.agg #[.int .i64 a,.int .i64 b]) (.agg #[.int .i64 a,.int .i64 b])).run Tryz.prog w=.ok (.agg #[.int .i64 a,.int .i64 b]) w:=by
 have hs:Instr.sameBits 10000 (.agg #[.int .i64 a,.int .i64 b]) (.agg #[.int .i64 a,.int .i64 b])=true:=by
  show Instr.sameBits (9998+1+1) (.agg #[.int .i64 a,.int .i64 b]) (.agg #[.int .i64 a,.int .i64 b])=true
  simp [Instr.sameBits]
 simp [Instr.keyThatStays,hs]
theorem kP_inj (p q:Int×Int) (h:kP p=kP q):p=q:=by
 obtain ⟨a,b⟩:=p;obtain ⟨c,d⟩:=q;simp [kP] at h;exact Prod.ext h.1 h.2
theorem pair_eq (p q:Int×Int) (w:World):(Op.equal 239 (kP p) (kP q)).run Tryz.prog w=.ok (decide (p=q)) w:=by
 rw [kP,kP,pair_equal]
 congr 1
 obtain ⟨a,b⟩:=p;obtain ⟨c,d⟩:=q;simp [Prod.ext_iff,Bool.decide_and]
 rfl
theorem pair_ask (k : Int × Int) (w : World) : ∀ (es : List MapEntry) (i : Nat), (∀ e ∈ es, ∃ j, e.key = kP j) →
    ((Instr.findAsking 239 (kP k) es i).run Tryz.prog w=.ok none w∧∀e∈es,e.key≠kP k)∨∃j e,(Instr.findAsking 239 (kP k) es i).run Tryz.prog w=.ok (some (i+j,e.val)) w∧es[j]? = some e∧e.key=kP k
 | [],i,_=>.inl ⟨by simp [Instr.findAsking],by simp⟩
 | e :: es,i,h=>by
  obtain ⟨j,hj⟩:=h e (by simp)
  have heq:=pair_eq k j w;rw [←hj] at heq
  by_cases hk:k=j
  ·rw [decide_eq_true hk] at heq
   exact .inr ⟨0,e,by simp [Instr.findAsking,heq],rfl,by rw [hj,hk]⟩
  ·rw [decide_eq_false hk] at heq
   rcases pair_ask k w es (i+1) (fun x hx=>h x (by simp [hx])) with ⟨h1,h2⟩ | ⟨j',e',h1,h2,h3⟩
   ·refine .inl ⟨by simp [Instr.findAsking,heq,h1],fun x hx=>?_⟩
    rcases List.mem_cons.1 hx with rfl | hx
    ·intro e2;rw [hj] at e2;exact hk (kP_inj _ _ e2).symm
    ·exact h2 x hx
   ·exact .inr ⟨j'+1,e',by simp [Instr.findAsking,heq,h1,Nat.add_assoc,Nat.add_comm 1 j'],by simpa using h2,h3⟩
theorem pair_fit:KeyFit Tryz.prog 239 kP where
 inj:=kP_inj
 check:=fun em k w=>pair_check em k.1 k.2 w
 find:=fun es k w h=>by
  rw [run_findKey_eq (P:=Tryz.prog) (k:=239) w (by kernel_rfl)]
  rcases pair_ask k w es 0 h with ⟨h1,h2⟩ | ⟨j,e,h1,h2,h3⟩
  ·exact .inl ⟨h1,h2⟩
  ·exact .inr ⟨j,e,by simpa using h1,h2,h3⟩
 stays:=fun k w=>pair_stays k.1 k.2 w
theorem bool_zero (w:World):(zeroValue 4).run Tryz.prog w=.ok (.bool false) w:=by kernel_rfl
def SetAt (w:World) (b:Nat) (S:Int×Int→Prop):Prop:=∃m n,MapAt kP w b m n∧∀k,(m k=some (.bool true)∧S k)∨(m k=none∧¬S k)
theorem SetAt.lt {w:World} {b:Nat} {S:Int×Int→Prop} (h:SetAt w b S):b<w.heap.size:=by
 obtain ⟨m,n,h1,_⟩:=h;exact h1.lt
theorem SetAt.kept {T:List Nat} {w w':World} {b:Nat} {S:Int×Int→Prop} (h:SetAt w b S) (hk:Kept T w w') (hb:b∉T):SetAt w' b S:=by
 obtain ⟨m,n,h1,h2⟩:=h;exact ⟨m,n,h1.kept hk hb,h2⟩
theorem SetAt.below {w w':World} {b:Nat} {S:Int×Int→Prop} (h:SetAt w b S) (hb:Below w.heap.size w w'):SetAt w' b S:=h.kept (T:=[]) (.of_below hb) (by simp)
theorem SetAt.iff {w:World} {b:Nat} {S S':Int×Int→Prop} (h:SetAt w b S) (hs:∀k,S k↔S' k):SetAt w b S':=by
 obtain ⟨m,n,h1,h2⟩:=h
 exact ⟨m,n,h1,fun k=>(h2 k).imp (And.imp_right (hs k).1) (And.imp_right fun x y=>x ((hs k).2 y))⟩
theorem SetAt.look {w:World} {b:Nat} {S:Int×Int→Prop} (h:SetAt w b S) (i j:Int):∃t:Bool,(t=true↔S (i,j))∧∀w',Below w.heap.size w w'→(Instr.lookup 234 (.map (some b)) (.agg #[.int .i64 i,.int .i64 j]) false).run Tryz.prog w'=.ok (.bool t) w':=by
 obtain ⟨m,n,h1,h2⟩:=h
 rcases h2 (i,j) with ⟨x,y⟩ | ⟨x,y⟩
 ·refine ⟨true,by simp [y],fun w' hb=>?_⟩
  have:=((h1.below hb).look pair_fit Tryz.underlying234 (bool_zero w') (i,j)).2;rw [x] at this;exact this
 ·refine ⟨false,by simp [y],fun w' hb=>?_⟩
  have:=((h1.below hb).look pair_fit Tryz.underlying234 (bool_zero w') (i,j)).2;rw [x] at this;exact this
theorem SetAt.put {w:World} {b:Nat} {S:Int×Int→Prop} (h:SetAt w b S) (i j:Int):∃w',(Instr.mapUpdate 234 (.map (some b)) (.agg #[.int .i64 i,.int .i64 j]) (.bool true)).run Tryz.prog w=.ok () w'∧SetAt w' b (fun k=>S k∨k=(i,j))∧Kept [b] w w':=by
 obtain ⟨m,n,h1,h2⟩:=h;obtain ⟨w',r1,r2,r3⟩:=h1.store pair_fit Tryz.underlying234 (i,j) (.bool true)
 refine ⟨w',r1,⟨_,_,r2,fun k=>?_⟩,r3⟩
 unfold updK
 by_cases e:k=(i,j)
 ·rw [if_pos e];exact .inl ⟨rfl,.inr e⟩
 ·rw [if_neg e]
  rcases h2 k with ⟨x,y⟩ | ⟨x,y⟩
  ·exact .inl ⟨x,.inl y⟩
  ·exact .inr ⟨x,fun z=>z.elim y e⟩
end Go.Proofs.YtokhnobcincfjaaGreatDoor
namespace Go.Proofs.YtokhnobcincfjaaGreatDoor
open Go.RowKit Go.Sort FR
instance (a b:It):Decidable (It.lt a b):=by unfold It.lt;infer_instance
def inCC (c:C):Prop:=inC c.s∧inC c.d
theorem lt_cases (a b:It) (k:Int) (hk:C.cmp a.c b.c=k):It.lt a b↔k<0∨(k=0∧a.id<b.id):=by
 subst hk;unfold It.lt;rw [C.cmp_neg,C.cmp_zero]
theorem heapLess (a b : It) (t : Bool) (ht : decide (It.lt a b) = t) (h1 : inCC a.c) (h2 : inCC b.c) (w : World) :
    Calls Tryz.prog 238 #[.agg #[.int .i64 a.c.s,.int .i64 a.c.d,.int .i64 a.id],.agg #[.int .i64 b.c.s,.int .i64 b.c.d,.int .i64 b.id]] w fun e w'=>e=.returned (.bool t)∧Below w.heap.size w w':=by
 obtain ⟨⟨a1,a2⟩,ai⟩:=a;obtain ⟨⟨b1,b2⟩,bi⟩:=b;obtain ⟨k,hk⟩:∃k,C.cmp ⟨a1,a2⟩ ⟨b1,b2⟩=k:=⟨_,rfl⟩;have hlt:=lt_cases ⟨⟨a1,a2⟩,ai⟩ ⟨⟨b1,b2⟩,bi⟩ k hk;obtain ⟨g1,g2⟩:=h1;obtain ⟨g3,g4⟩:=h2;simp only at *;have cC:=costCompare a1 a2 b1 b2;rw [hk] at cC
 have cC:=Lib.hid (fun w=>cC w g1 g2 g3 g4)
 have ht':t=decide (k<0∨(k=0∧ai<bi)):=by rw [←ht];exact decide_eq_decide.2 hlt
 have Ht:=Lib.hid ht';clear hlt ht ht' hk g1 g2 g3 g4;go_enter Tryz.func238,Tryz.ntmps238
 go_upto_region 1 with (fail)
 refine wp_name ?_;intro W hW
 have HW:Below w.heap.size w W:=by rw [hW];(repeat' (first | exact Below.refl _ _ | assumption | apply bel_drewN | apply bel_drew | apply bel_alloc | (refine bel_trans ?_ (by assumption))))
 have k1:∀w',Below W.heap.size W w'→w'.cell? ⟨w.heap.size,0,none⟩=some (.int .i64 a1:Value):=fun w' hbw=>(hbw.cell (p:=⟨w.heap.size,0,none⟩) (by rw [hW];simp <;> omega)).trans (by rw [hW];go_simp)
 have k2:∀w',Below W.heap.size W w'→w'.cell? ⟨w.heap.size,1,none⟩=some (.int .i64 a2:Value):=fun w' hbw=>(hbw.cell (p:=⟨w.heap.size,1,none⟩) (by rw [hW];simp <;> omega)).trans (by rw [hW];go_simp)
 have k3:∀w',Below W.heap.size W w'→w'.cell? ⟨w.heap.size,2,none⟩=some (.int .i64 ai:Value):=fun w' hbw=>(hbw.cell (p:=⟨w.heap.size,2,none⟩) (by rw [hW];simp <;> omega)).trans (by rw [hW];go_simp)
 have k4:∀w',Below W.heap.size W w'→w'.cell? ⟨w.heap.size+1,0,none⟩=some (.int .i64 b1:Value):=fun w' hbw=>(hbw.cell (p:=⟨w.heap.size+1,0,none⟩) (by rw [hW];simp <;> omega)).trans (by rw [hW];go_simp)
 have k5:∀w',Below W.heap.size W w'→w'.cell? ⟨w.heap.size+1,1,none⟩=some (.int .i64 b2:Value):=fun w' hbw=>(hbw.cell (p:=⟨w.heap.size+1,1,none⟩) (by rw [hW];simp <;> omega)).trans (by rw [hW];go_simp)
 have k6:∀w',Below W.heap.size W w'→w'.cell? ⟨w.heap.size+1,2,none⟩=some (.int .i64 bi:Value):=fun w' hbw=>(hbw.cell (p:=⟨w.heap.size+1,2,none⟩) (by rw [hW];simp <;> omega)).trans (by rw [hW];go_simp)
 clear hW;have HB:=Below.refl W.heap.size W;go_wp2_with fail
 (with_reducible refine (cC.out _).mono ?_)
 rintro e w1 ⟨rfl,HB⟩;go_wp2
 all_goals
  go_ret;refine ⟨ret_b ?_,bel_trans HW HB⟩;rw [Ht.out]
  first
  | exact (decide_eq_true (by omega)).symm
  | exact (decide_eq_false (by omega)).symm
  | exact decide_eq_decide.2 (by omega)
def ItemsIn (w:World) (b cap n:Nat) (c:Nat→It):Prop:=
 n≤cap∧cap≤maxLen∧∃cur,w.heap[b]? = some (.cells cur 289 (0,0))∧cur.size=cap*3∧∀k,k<n→cur[k*3]? = some (.int .i64 (c k).c.s)∧cur[k*3+1]? = some (.int .i64 (c k).c.d)∧cur[k*3+2]? = some (.int .i64 (c k).id)
theorem ItemsIn.lt {w:World} {b cap n:Nat} {c:Nat→It} (h:ItemsIn w b cap n c):b<w.heap.size:=by
 obtain ⟨_,_,cur,hb,_⟩:=h;exact (Array.getElem?_eq_some_iff.1 hb).1
theorem ItemsIn.kept {S:List Nat} {w w':World} {b cap n:Nat} {c:Nat→It} (h:ItemsIn w b cap n c) (hk:Kept S w w') (hb:b∉S):ItemsIn w' b cap n c:=by
 have hl:=h.lt;obtain ⟨h1,h2,cur,h3,h4⟩:=h;exact ⟨h1,h2,cur,(hk.block b hl hb).trans h3,h4⟩
theorem ItemsIn.below {w w':World} {b cap n:Nat} {c:Nat→It} (h:ItemsIn w b cap n c) (hb:Below w.heap.size w w'):ItemsIn w' b cap n c:=h.kept (S:=[]) (.of_below hb) (by simp)
theorem ItemsIn.cells {w : World} {b cap n : Nat} {c : Nat → It} (h : ItemsIn w b cap n c) {k : Nat} (hk : k < n) :
    w.cell? ⟨b,k*3,none⟩=some (.int .i64 (c k).c.s)∧w.cell? ⟨b,k*3+1,none⟩=some (.int .i64 (c k).c.d)∧w.cell? ⟨b,k*3+2,none⟩=some (.int .i64 (c k).id):=by
 obtain ⟨h1,h2,cur,h3,h4,h5⟩:=h;obtain ⟨a1,a2,a3⟩:=h5 k hk
 refine ⟨?_,?_,?_⟩ <;> simp only [World.cell?,h3] <;> simpa using by assumption
theorem ItemsIn.frozen {w:World} {b cap n:Nat} {c:Nat→It} (h:ItemsIn w b cap n c) (k:Nat):w.frozen? ⟨b,k,none⟩=false:=by
 obtain ⟨h1,h2,cur,h3,h4,h5⟩:=h;simp [World.frozen?,h3]
theorem set_heapH (w:World) (p k:Nat) (cs:Array Value) (T:TypeId) (x:Value) (h:w.heap[p]? = some (.cells cs T (0,0))):(w.setCell ⟨p,k,none⟩ x).heap[p]? = some (.cells (cs.setIfInBounds k x) T (0,0)):=by
 simp [World.setCell,Array.getElem?_modify,h]
theorem ItemsIn.set {w : World} {b cap n : Nat} {c : Nat → It} (h : ItemsIn w b cap n c) {i : Nat} (hi : i < n) (x : It) :
    ItemsIn (((w.setCell ⟨b,i*3,none⟩ (.int .i64 x.c.s)).setCell ⟨b,i*3+1,none⟩ (.int .i64 x.c.d)).setCell ⟨b,i*3+2,none⟩ (.int .i64 x.id)) b cap n (upd c i x):=by
 obtain ⟨h1,h2,cur,h3,h4,h5⟩:=h
 refine ⟨h1,h2,_,set_heapH _ _ _ _ _ _ (set_heapH _ _ _ _ _ _ (set_heapH _ _ _ _ _ _ h3)),by simp [h4],?_⟩
 intro k hk;obtain ⟨a1,a2,a3⟩:=h5 k hk
 by_cases e:k=i
 ·subst e
  simp only [Array.getElem?_setIfInBounds,Array.size_setIfInBounds,upd];simp;omega
 ·simp only [Array.getElem?_setIfInBounds,upd,if_neg e]
  rw [if_neg (by omega),if_neg (by omega),if_neg (by omega),if_neg (by omega),if_neg (by omega),if_neg (by omega),if_neg (by omega),if_neg (by omega),if_neg (by omega)]
  exact ⟨a1,a2,a3⟩
def HeapIn (w:World) (b rb cap n mb:Nat) (c:Nat→It):Prop:=w.heap[b]? = some (.cells #[.slice (some ⟨rb,0,none⟩) n cap,.map (some mb)] 286 (0,0))∧ItemsIn w rb cap n c
theorem Kept.wid {S T:List Nat} {a b:World} (h:Kept S a b) (hs:∀k∈S,k∈T):Kept T a b:=⟨h.os,h.tape,h.output,h.size,fun k hk hn=>h.block k hk fun hm=>hn (hs k hm)⟩
theorem keptBelow {S:List Nat} {a b:World} (h:Below a.heap.size a b):Kept S a b:=Kept.of_below h
theorem Kept.trans2 {S:List Nat} {a b c:World} (h:Kept S a b) (k:Kept S b c):Kept S a c:=h.trans k
theorem heapPut (w : World) (b rb cap n mb N : Nat) (c : Nat → It) (m : Int → Option Value) (i : Nat) (x : It) (h : HeapIn w b rb cap n mb c) (hm : MapAt (fun z : Int => Value.int .i64 z) w mb m N) (hi : i < n) (h1 : b ≠ rb) (h2 : b ≠ mb) (h3 : rb ≠ mb) :
    Calls Tryz.prog 198 #[.pointer (some ⟨b,0,none⟩),.int .i64 i,.agg #[.int .i64 x.c.s,.int .i64 x.c.d,.int .i64 x.id]] w fun e w'=>e=.returned (.tuple #[])∧HeapIn w' b rb cap n mb (upd c i x)∧(∃N,MapAt (fun z:Int=>Value.int .i64 z) w' mb (updK m x.id (some (.int .i64 i))) N)∧Kept [rb,mb] w w':=by
 obtain ⟨⟨xs,xd⟩,xi⟩:=x;simp only at *;obtain ⟨hb,hR⟩:=h;have kl0:=hR.lt;have kl1:=hm.lt;have kl2:b<w.heap.size:=(Array.getElem?_eq_some_iff.1 hb).1;go_enter Tryz.func198,Tryz.ntmps198
 go_upto_region 1 with (fail)
 refine wp_name ?_;intro W hW
 have HW:Below w.heap.size w W:=by rw [hW];(repeat' (first | exact Below.refl _ _ | assumption | apply bel_drewN | apply bel_drew | apply bel_alloc | (refine bel_trans ?_ (by assumption))))
 have hW0:w.heap.size<W.heap.size:=by rw [hW];simp
 have k1:W.cell? ⟨w.heap.size,0,none⟩=some (.int .i64 xs):=by rw [hW];go_simp
 have k2:W.cell? ⟨w.heap.size,1,none⟩=some (.int .i64 xd):=by rw [hW];go_simp
 have k3:W.cell? ⟨w.heap.size,2,none⟩=some (.int .i64 xi):=by rw [hW];go_simp
 clear hW;have hR1:=hR.below HW;have hm1:=hm.below HW;have hb1:=(HW.block b kl2).trans hb
 have kb0:W.cell? ⟨b,0,none⟩=some (.slice (some ⟨rb,0,none⟩) n cap):=by simp [World.cell?,hb1]
 have kb1:W.cell? ⟨b,1,none⟩=some (.map (some mb)):=by simp [World.cell?,hb1]
 have hcap:=hR1.1;have kf0:=hR1.frozen (i*3);have kf1:=hR1.frozen (i*3+1);have kf2:=hR1.frozen (i*3+2);obtain ⟨c1,c2,c3⟩:=hR1.cells hi;go_wp2
 go_still_tail 7,(by kernel_rfl)
 change wpList _ _ _ _ _ W.drew
 have Hd:Below w.heap.size w W.drew:=bel_drew HW;have hR2:ItemsIn W.drew rb cap n c:=hR1
 have hm2:MapAt (fun z:Int=>Value.int .i64 z) W.drew mb m N:=hm1
 have hb2:W.drew.heap[b]? = some (.cells #[.slice (some ⟨rb,0,none⟩) n cap,.map (some mb)] 286 (0,0)):=hb1;have k4:W.drew.cell? ⟨w.heap.size,2,none⟩=some (.int .i64 xi):=k3;have kf0:=hR2.frozen (i*3);have kf1:=hR2.frozen (i*3+1);have kf2:=hR2.frozen (i*3+2);obtain ⟨c1,c2,c3⟩:=hR2.cells hi
 have hlt2:w.heap.size<W.drew.heap.size:=by have:=hW0;simpa using this
 clear k1 k2 k3 kb0 kb1
 generalize W.drew=w2 at *
 go_wp2;have hR3:=hR2.set hi ⟨⟨xs,xd⟩,xi⟩
 have hK3:Kept [rb] w2 (((w2.setCell ⟨rb,i*3,none⟩ (.int .i64 xs)).setCell ⟨rb,i*3+1,none⟩ (.int .i64 xd)).setCell ⟨rb,i*3+2,none⟩ (.int .i64 xi)):=(((Kept.refl _ _).setCell (.inl (by simp))).setCell (.inl (by simp))).setCell (.inl (by simp))
 simp only at hR3
 generalize ((w2.setCell ⟨rb,i*3,none⟩ (.int .i64 xs)).setCell ⟨rb,i*3+1,none⟩ (.int .i64 xd)).setCell ⟨rb,i*3+2,none⟩ (.int .i64 xi)=w3 at *
 have hs2:w.heap.size<w2.heap.size:=hlt2
 have hb3:=(hK3.block b (by omega) (by simpa using h1)).trans hb2
 have hm3:=hm2.kept hK3 (by simpa using Ne.symm h3)
 have kb0:w3.cell? ⟨b,0,none⟩=some (.slice (some ⟨rb,0,none⟩) n cap):=by simp [World.cell?,hb3]
 have kb1:w3.cell? ⟨b,1,none⟩=some (.map (some mb)):=by simp [World.cell?,hb3]
 have k5:w3.cell? ⟨w.heap.size,2,none⟩=some (.int .i64 xi):=by
  have:=hK3.block w.heap.size hs2 (by simp;omega)
  simpa [World.cell?,this] using k4
 clear hR2 hm2 hb2 k4 kf0 kf1 kf2 c1 c2 c3
 go_still_tail 7,(by kernel_rfl)
 change wpList _ _ _ _ _ w3.drew
 have hm4:MapAt (fun z:Int=>Value.int .i64 z) w3.drew mb m N:=hm3
 have hb4:w3.drew.heap[b]? = some (.cells #[.slice (some ⟨rb,0,none⟩) n cap,.map (some mb)] 286 (0,0)):=hb3;have hR4:ItemsIn w3.drew rb cap n (upd c i ⟨⟨xs,xd⟩,xi⟩):=hR3;have hd4:Below w3.heap.size w3 w3.drew:=(Below.refl _ _).drew;clear hm3 hb3 hR3 kb0 kb1 k5
 generalize w3.drew=w4 at *
 refine wpList_storeM rfl _ _ _ rfl (int_fit Tryz.underlying3) Tryz.underlying142 hm4 rfl xi rfl (.int .i64 i) rfl ?_;intro w5 hm5 hk5;go_wp2;go_end0;refine ⟨rfl,⟨?_,?_⟩,⟨_,hm5⟩,?_⟩
 ·exact (hk5.block b (Array.getElem?_eq_some_iff.1 hb4).1 (by simpa using h2)).trans hb4
 ·exact hR4.kept hk5 (by simpa using h3)
 ·exact (keptBelow Hd).trans2 ((hK3.wid (by simp)).trans ((Kept.of_below hd4).trans (hk5.wid (by simp))))
def PosMap (n:Nat) (c:Nat→It) (m:Int→Option Value):Prop:=∀z v,m z=some v↔∃k,k<n∧v=.int .i64 (k:Nat)∧(c k).id=z
def RowOk (w:World) (b mb:Nat) (sl:Value) (n:Nat) (c:Nat→It) (S:List Nat):Prop:=
 (sl=.slice none 0 0∧n=0∧S=[b,mb])∨∃rb cap,sl=.slice (some ⟨rb,0,none⟩) n cap∧ItemsIn w rb cap n c∧b≠rb∧rb≠mb∧S=[b,rb,mb]
def HeapOf (w:World) (S:List Nat) (b n:Nat) (hp:Int→Option C):Prop:=
 ∃mb m N c sl,w.heap[b]? = some (.cells #[sl,.map (some mb)] 286 (0,0))∧MapAt (fun z:Int=>Value.int .i64 z) w mb m N∧b≠mb∧RowOk w b mb sl n c S∧PosMap n c m∧Holds n c hp∧Dst n c∧HeapL n c∧∀z d,hp z=some d→inCC d
def PosBut (n:Nat) (g:Nat→It) (m:Int→Option Value) (i:Int):Prop:=∀z v,z≠i→(m z=some v↔∃k,k<n∧v=.int .i64 (k:Nat)∧(g k).id=z)
structure HoleAt (w0 w:World) (b rb cap n mb:Nat) (x:It) (j:Nat) (c0:Nat→It) (c:Nat→It) (m:Int→Option Value) (N:Nat):Prop where
 lt:j<n
 here:HeapIn w b rb cap n mb c
 map:MapAt (fun z:Int=>Value.int .i64 z) w mb m N
 cc:∀k,k<n→inCC (upd c j x k).c
 dst:Dst n (upd c j x)
 pos:PosBut n (upd c j x) m x.id
 same:∀y,(∃k,k<n∧upd c j x k=y)↔∃k,k<n∧c0 k=y
 kept:Kept [rb,mb] w0 w
theorem upd_self (c:Nat→It) (i:Nat):upd c i (c i)=c:=by
 funext k;unfold upd;split <;> simp_all
theorem PosBut.fill {n:Nat} {g:Nat→It} {m:Int→Option Value} {x:It} {j:Nat} (h:PosBut n g m x.id) (hj:j<n) (hg:g j=x) (hD:Dst n g):PosMap n g (updK m x.id (some (.int .i64 (j:Nat)))):=by
 intro z v;unfold updK
 by_cases e:z=x.id
 ·rw [if_pos e]
  constructor
  ·intro h';injection h' with h';exact ⟨j,hj,h'.symm,by rw [hg,e]⟩
  ·rintro ⟨k,hk,rfl,hk'⟩
   rw [hD k j hk hj (by rw [hk',hg,e])]
 ·rw [if_neg e];exact h z v e
theorem move_row {c:Nat→It} {x:It} {j k:Nat} (hjk:j≠k):upd (upd c j (c k)) k x=swp (upd c j x) j k:=by
 funext i
 rw [swp_at];unfold upd
 by_cases h1:i=k
 ·subst h1;simp
 ·by_cases h2:i=j
  ·subst h2;simp [h1,Ne.symm hjk]
  ·simp [h1,h2]
theorem PosBut.move {n : Nat} {g : Nat → It} {m : Int → Option Value} {x y : It} {j k : Nat} (h : PosBut n g m x.id) (hj : j < n) (hk : k < n) (hjk : j ≠ k) (hg : g j = x) (hy : g k = y) (hD : Dst n g) :
    PosBut n (swp g j k) (updK m y.id (some (.int .i64 (j:Nat)))) x.id:=by
 intro z v hz;unfold updK;have hD':=swp_dst hj hk hD
 have e1:swp g j k j=y:=by rw [swp_at,if_neg hjk,if_pos rfl,hy]
 have e2:swp g j k k=x:=by rw [swp_at,if_pos rfl,hg]
 by_cases e:z=y.id
 ·rw [if_pos e]
  constructor
  ·intro h';injection h' with h';exact ⟨j,hj,h'.symm,by rw [e1,e]⟩
  ·rintro ⟨k',hk',rfl,hk2⟩
   rw [hD' k' j hk' hj (by rw [hk2,e1,e])]
 ·rw [if_neg e,h z v hz]
  constructor
  ·rintro ⟨k',hk',rfl,hk2⟩
   refine ⟨k',hk',rfl,?_⟩
   rw [swp_at,if_neg (by rintro rfl;rw [hy] at hk2;exact e hk2.symm),if_neg (by rintro rfl;rw [hg] at hk2;exact hz hk2.symm)]
   exact hk2
  ·rintro ⟨k',hk',rfl,hk2⟩
   have n1:k'≠k:=by rintro rfl;rw [e2] at hk2;exact hz hk2.symm
   have n2:k'≠j:=by rintro rfl;rw [e1] at hk2;exact e hk2.symm
   rw [swp_at,if_neg n1,if_neg n2] at hk2;exact ⟨k',hk',rfl,hk2⟩
theorem HoleAt.move {w0 w w' : World} {b rb cap n mb : Nat} {x : It} {j k : Nat} {c0 c : Nat → It} {m : Int → Option Value} {N N' : Nat} (h : HoleAt w0 w b rb cap n mb x j c0 c m N) (hk : k < n) (hjk : j ≠ k)
    (h1:HeapIn w' b rb cap n mb (upd c j (c k))) (h2:MapAt (fun z:Int=>Value.int .i64 z) w' mb (updK m (c k).id (some (.int .i64 (j:Nat)))) N') (h3:Kept [rb,mb] w w') :
    HoleAt w0 w' b rb cap n mb x k c0 (upd c j (c k)) (updK m (c k).id (some (.int .i64 (j:Nat)))) N':=by
 have hj:=h.lt
 have e1:upd c j x k=c k:=by unfold upd;rw [if_neg (Ne.symm hjk)]
 have e2:upd c j x j=x:=by unfold upd;rw [if_pos rfl]
 refine ⟨hk,h1,h2,?_,?_,?_,?_,h.kept.trans h3⟩
 ·intro i hi
  rw [move_row hjk,swp_at]
  split
  ·exact h.cc j hj
  ·split
   ·exact h.cc k hk
   ·exact h.cc i hi
 ·rw [move_row hjk];exact swp_dst hj hk h.dst
 ·rw [move_row hjk];exact h.pos.move hj hk hjk e2 e1 h.dst
 ·intro y;rw [move_row hjk,swp_inv hj hk];exact h.same y
theorem HoleAt.start {w0 : World} {b rb cap n mb : Nat} {j : Nat} {c : Nat → It} {m : Int → Option Value} {N : Nat} (hj : j < n) (h1 : HeapIn w0 b rb cap n mb c) (h2 : MapAt (fun z : Int => Value.int .i64 z) w0 mb m N)
    (hC:∀k,k<n→inCC (c k).c) (hD:Dst n c) (hP:PosBut n c m (c j).id):HoleAt w0 w0 b rb cap n mb (c j) j c c m N:=
 ⟨hj,h1,h2,by rw [upd_self];exact hC,by rw [upd_self];exact hD,by rw [upd_self];exact hP,by rw [upd_self];exact fun _=>Iff.rfl,Kept.refl _ _⟩
def Filled (w0 w:World) (b rb cap n mb:Nat) (c0:Nat→It):Prop:=∃c m N,HeapIn w b rb cap n mb c∧MapAt (fun z:Int=>Value.int .i64 z) w mb m N∧HeapL n c∧Dst n c∧PosMap n c m∧(∀y,(∃k,k<n∧c k=y)↔∃k,k<n∧c0 k=y)∧Kept [rb,mb] w0 w
theorem HoleAt.fill {w0 w w' : World} {b rb cap n mb : Nat} {x : It} {j : Nat} {c0 c : Nat → It} {m : Int → Option Value} {N N' : Nat} (h : HoleAt w0 w b rb cap n mb x j c0 c m N) (hL : HeapL n (upd c j x))
    (h1:HeapIn w' b rb cap n mb (upd c j x)) (h2:MapAt (fun z:Int=>Value.int .i64 z) w' mb (updK m x.id (some (.int .i64 (j:Nat)))) N') (h3:Kept [rb,mb] w w'):Filled w0 w' b rb cap n mb c0:=
 ⟨_,_,_,h1,h2,hL,h.dst,h.pos.fill h.lt (by unfold upd;rw [if_pos rfl]) h.dst,h.same,h.kept.trans h3⟩
theorem HeapIn.below {w w':World} {b rb cap n mb:Nat} {c:Nat→It} (h:HeapIn w b rb cap n mb c) (hb:Below w.heap.size w w'):HeapIn w' b rb cap n mb c:=
 ⟨(hb.block b (Array.getElem?_eq_some_iff.1 h.1).1).trans h.1,h.2.below hb⟩
theorem HoleAt.on {w0 w w':World} {b rb cap n mb:Nat} {x:It} {j:Nat} {c0 c:Nat→It} {m:Int→Option Value} {N:Nat} (h:HoleAt w0 w b rb cap n mb x j c0 c m N) (hb:Below w.heap.size w w'):HoleAt w0 w' b rb cap n mb x j c0 c m N:=
 ⟨h.lt,h.here.below hb,h.map.below hb,h.cc,h.dst,h.pos,h.same,h.kept.trans (Kept.of_below hb)⟩
theorem par_int (j:Nat) (h:0<j):((j:Int)-1).tdiv 2=(par j:Nat):=by
 rw [Int.tdiv_eq_ediv_of_nonneg (by omega)];unfold par;omega
theorem heapUp (w : World) (b rb cap n mb N : Nat) (c : Nat → It) (m : Int → Option Value) (i : Nat) (h : HeapIn w b rb cap n mb c) (hm : MapAt (fun z : Int => Value.int .i64 z) w mb m N) (hi : i < n) (h1 : b ≠ rb) (h2 : b ≠ mb) (h3 : rb ≠ mb)
    (hC:∀k,k<n→inCC (c k).c) (hU:HeapUp n c i) (hD:Dst n c) (hP:PosBut n c m (c i).id) :
    Calls Tryz.prog 237 #[.pointer (some ⟨b,0,none⟩),.int .i64 i] w fun e w'=>e=.returned (.tuple #[])∧Filled w w' b rb cap n mb c:=by
 have hS:=HoleAt.start hi h hm hC hD hP;obtain ⟨hb,hR⟩:=h;have hcap:=hR.1;have kl2:b<w.heap.size:=(Array.getElem?_eq_some_iff.1 hb).1;have kl1:=hm.lt;have kl0:=hR.lt
 have kb0:w.cell? ⟨b,0,none⟩=some (.slice (some ⟨rb,0,none⟩) n cap):=by simp [World.cell?,hb]
 obtain ⟨⟨⟨xs,xd⟩,xi⟩,hx⟩:∃x,c i=x:=⟨_,rfl⟩;obtain ⟨c1,c2,c3⟩:=hR.cells hi
 have hU':HeapUp n (upd c i (c i)) i:=by rw [upd_self];exact hU
 rw [hx] at c1 c2 c3 hS hU';simp only at c1 c2 c3;have hS:=Lib.hid hS;have hU':=Lib.hid hU';clear hx hb hR hC hU hD hP hm;go_enter Tryz.func237,Tryz.ntmps237
 go_upto_region 1 with (fail)
 refine wp_name ?_;intro W hW
 have HW:Below w.heap.size w W:=by rw [hW];(repeat' (first | exact Below.refl _ _ | assumption | apply bel_drewN | apply bel_drew | apply bel_alloc | (refine bel_trans ?_ (by assumption))))
 have hbox:W.heap[w.heap.size]? = some (.cells #[.int .i64 xs,.int .i64 xd,.int .i64 xi] 289 (0,0)):=by rw [hW];exact heap_alloc_new _ _
 clear hW c1 c2 c3 kb0
 go_loopw [1] (fun iv wr=>∃(j:Nat) (c':Nat→It) (m':Int→Option Value) (N':Nat),iv=.int .i64 j∧HoleAt w wr b rb cap n mb ⟨⟨xs,xd⟩,xi⟩ j c c' m' N'∧HeapUp n (upd c' j ⟨⟨xs,xd⟩,xi⟩) j∧wr.heap[w.heap.size]? = some (.cells #[.int .i64 xs,.int .i64 xd,.int .i64 xi] 289 (0,0))) (fun iv _=>(intOf iv).toNat)
 case atStart=>exact ⟨i,c,m,N,rfl,hS.out.on HW,hU'.out,hbox⟩
 case round=>
  obtain ⟨j,c',m',N',rfl,hH,hUp,hbx⟩:=hrel;have hbr:=hH.here.1
  have kb0:wr.cell? ⟨b,0,none⟩=some (.slice (some ⟨rb,0,none⟩) n cap):=by simp [World.cell?,hbr]
  have x1:wr.cell? ⟨w.heap.size,0,none⟩=some (.int .i64 xs):=by simp [World.cell?,hbx]
  have x2:wr.cell? ⟨w.heap.size,1,none⟩=some (.int .i64 xd):=by simp [World.cell?,hbx]
  have x3:wr.cell? ⟨w.heap.size,2,none⟩=some (.int .i64 xi):=by simp [World.cell?,hbx]
  have hjn:=hH.lt;have HB:=Below.refl wr.heap.size wr;have hH':=Lib.hid hH;have hUp':=Lib.hid hUp;clear hH hUp hbr
  by_cases hj0:j=0
  ·subst hj0
   go_upto_region 1 with (fail)
   refine wp_region_quiet_below (by kernel_rfl) (by kernel_rfl) ?_
   repeat (first | go_big_quiet_step (fail) | quiet_step (fail))
   refine wpQuiet_nil ?_;intro _ hw';obtain ⟨⟨dq,osq⟩,hw''⟩:=hw';have HB2:=bel_trans HB (below_regrown wr dq osq);have hb2:=below_regrown wr dq osq;subst hw''
   generalize grow (redrawn wr dq) osq=w2 at HB2 hb2 ⊢
   have kx1:=(HB2.cell (by exact (Array.getElem?_eq_some_iff.1 hbx).1)).trans x1
   have kx2:=(HB2.cell (by exact (Array.getElem?_eq_some_iff.1 hbx).1)).trans x2
   have kx3:=(HB2.cell (by exact (Array.getElem?_eq_some_iff.1 hbx).1)).trans x3
   go_wp2_with fail;refine (heapPut w2 b rb cap n mb N' c' m' 0 ⟨⟨xs,xd⟩,xi⟩ (hH'.out.here.below HB2) (hH'.out.map.below HB2) hjn h1 h2 h3).mono ?_;rintro e w3 ⟨rfl,hI,⟨N2,hM⟩,hK⟩;have hF:=(hH'.out.on HB2).fill (up_end hUp'.out (.inl rfl)) hI hM hK;clear hI hM hK;go_wp2;go_end0;exact ⟨rfl,hF⟩
  ·obtain ⟨p,hp⟩:∃p,par j=p:=⟨_,rfl⟩
   have hpj:p<j:=by rw [←hp];exact par_lt (by omega)
   have hq:((j:Int)-1).tdiv 2=(p:Nat):=by rw [←hp];exact par_int j (by omega)
   have hpn:p<n:=by omega
   obtain ⟨r1,r2,r3⟩:=hH'.out.here.2.cells hpn;obtain ⟨⟨⟨ys,yd⟩,yi⟩,hy⟩:∃y,c' p=y:=⟨_,rfl⟩;have icc:=hH'.out.cc p hpn;have jcc:=hH'.out.cc j hjn
   have e1:upd c' j ⟨⟨xs,xd⟩,xi⟩ p=⟨⟨ys,yd⟩,yi⟩:=by unfold upd;rw [if_neg (by omega),hy]
   have e2:upd c' j ⟨⟨xs,xd⟩,xi⟩ j=⟨⟨xs,xd⟩,xi⟩:=by unfold upd;rw [if_pos rfl]
   rw [e1] at icc;rw [e2] at jcc;rw [hy] at r1 r2 r3;simp only at r1 r2 r3;obtain ⟨t,ht⟩:∃t,decide (It.lt ⟨⟨xs,xd⟩,xi⟩ ⟨⟨ys,yd⟩,yi⟩)=t:=⟨_,rfl⟩;have cL:=Lib.hid (heapLess ⟨⟨xs,xd⟩,xi⟩ ⟨⟨ys,yd⟩,yi⟩ t ht jcc icc);have Ht:=Lib.hid ht;have He:=Lib.hid (And.intro e1 e2);have Hy:=Lib.hid hy;have Hp:=Lib.hid hp
   have hj1:decide ((0:Int)<(j:Int))=true:=by simp;omega
   have hj2:decide (0<j)=true:=by simp;omega
   have hj3:0<j:=by omega
   have hjb:(j:Int)≤9223372036854775807:=by have:=hcap;have hm:=hH'.out.here.2.2.1;unfold maxLen at hm;omega
   clear ht e1 e2 hy icc jcc hp;have x1q:=cell_regrown x1;have x2q:=cell_regrown x2;have x3q:=cell_regrown x3;have kb0q:=cell_regrown kb0;have r1q:=cell_regrown r1;have r2q:=cell_regrown r2;have r3q:=cell_regrown r3
   go_upto_region 1 with (fail)
   refine wp_region_quiet_below (by kernel_rfl) (by kernel_rfl) ?_
   repeat (first | go_big_quiet_step (with_reducible exact Calls.regrown_of (cL.out _)) | quiet_step (with_reducible exact Calls.regrown_of (cL.out _)))
   refine wpQuiet_nil ?_;intro _ hw';obtain ⟨⟨dq,osq⟩,hw''⟩:=hw';have HB2:=bel_trans HB (below_regrown wr dq osq);have hb2:=below_regrown wr dq osq;subst hw''
   generalize grow (redrawn wr dq) osq=w2 at HB2 hb2 ⊢
   have l1:w.heap.size<wr.heap.size:=(Array.getElem?_eq_some_iff.1 hbx).1;have l2:b<wr.heap.size:=(Array.getElem?_eq_some_iff.1 hH'.out.here.1).1;have l3:rb<wr.heap.size:=hH'.out.here.2.lt
   have kx1:=(HB2.cell (by exact l1)).trans x1
   have kx2:=(HB2.cell (by exact l1)).trans x2
   have kx3:=(HB2.cell (by exact l1)).trans x3
   have kbb:=(HB2.cell (by exact l2)).trans kb0
   have kr1:=(HB2.cell (by exact l3)).trans r1
   have kr2:=(HB2.cell (by exact l3)).trans r2
   have kr3:=(HB2.cell (by exact l3)).trans r3
   have hH2:=Lib.hid (hH'.out.on HB2);have hbx2:=(HB2.block _ l1).trans hbx;clear x1 x2 x3 kb0 r1 r2 r3 x1q x2q x3q kb0q r1q r2q r3q hb2 hbx
   cases t with
   | false=>
    go_wp2_with fail;refine (heapPut w2 b rb cap n mb N' c' m' j ⟨⟨xs,xd⟩,xi⟩ hH2.out.here hH2.out.map hjn h1 h2 h3).mono ?_;rintro e w3 ⟨rfl,hI,⟨N2,hM⟩,hK⟩
    have hF:=hH2.out.fill (up_end hUp'.out (.inr (by rw [Hp.out,He.out.1,He.out.2];exact of_decide_eq_false Ht.out))) hI hM hK
    clear hI hM hK;go_wp2;go_end0;exact ⟨rfl,hF⟩
   | true=>
    go_wp2_with fail;refine (heapPut w2 b rb cap n mb N' c' m' j ⟨⟨ys,yd⟩,yi⟩ hH2.out.here hH2.out.map hjn h1 h2 h3).mono ?_;rintro e w3 ⟨rfl,hI,⟨N2,hM⟩,hK⟩
    have hI':HeapIn w3 b rb cap n mb (upd c' j (c' p)):=by rw [Hy.out];exact hI
    have hM':MapAt (fun z:Int=>Value.int .i64 z) w3 mb (updK m' (c' p).id (some (.int .i64 (j:Nat)))) N2:=by rw [Hy.out];exact hM
    have hN:=Lib.hid (hH2.out.move hpn (by omega) hI' hM' hK)
    have hV:HeapUp n (upd (upd c' j (c' p)) p ⟨⟨xs,xd⟩,xi⟩) p:=by
     rw [move_row (by omega)]
     have:=up_step hjn (by omega) hUp'.out (by rw [Hp.out,He.out.1,He.out.2];exact of_decide_eq_true Ht.out)
     rw [Hp.out] at this;exact this
    have hV:=Lib.hid hV
    have hbx3:=(hK.block w.heap.size (by have:=HB2.size;omega) (by simp;omega)).trans hbx2
    clear hI hM hK hI' hM' kx1 kx2 kx3 kbb kr1 kr2 kr3 hbx2;go_wp2;go_roundw
    case rel=>exact ⟨p,_,_,_,rfl,hN.out,hV.out,hbx3⟩
    case measure=>simp [intOf];omega
theorem heapDown (w : World) (b rb cap n mb N : Nat) (c : Nat → It) (m : Int → Option Value) (i : Nat) (h : HeapIn w b rb cap n mb c) (hm : MapAt (fun z : Int => Value.int .i64 z) w mb m N) (hi : i < n) (hn : n ≤ 1099511627776) (h1 : b ≠ rb) (h2 : b ≠ mb) (h3 : rb ≠ mb)
    (hC:∀k,k<n→inCC (c k).c) (hU:HeapDn n c i) (hD:Dst n c) (hP:PosBut n c m (c i).id) :
    Calls Tryz.prog 199 #[.pointer (some ⟨b,0,none⟩),.int .i64 i] w fun e w'=>e=.returned (.tuple #[])∧Filled w w' b rb cap n mb c:=by
 have hS:=HoleAt.start hi h hm hC hD hP;obtain ⟨hb,hR⟩:=h;have hcap:=hR.1;have kl2:b<w.heap.size:=(Array.getElem?_eq_some_iff.1 hb).1;have kl1:=hm.lt;have kl0:=hR.lt
 have kb0:w.cell? ⟨b,0,none⟩=some (.slice (some ⟨rb,0,none⟩) n cap):=by simp [World.cell?,hb]
 obtain ⟨⟨⟨xs,xd⟩,xi⟩,hx⟩:∃x,c i=x:=⟨_,rfl⟩;obtain ⟨c1,c2,c3⟩:=hR.cells hi
 have hU':HeapDn n (upd c i (c i)) i:=by rw [upd_self];exact hU
 rw [hx] at c1 c2 c3 hS hU';simp only at c1 c2 c3;have hS:=Lib.hid hS;have hU':=Lib.hid hU';clear hx hb hR hC hU hD hP hm;go_enter Tryz.func199,Tryz.ntmps199
 go_upto_region 1 with (fail)
 refine wp_name ?_;intro W hW
 have HW:Below w.heap.size w W:=by rw [hW];(repeat' (first | exact Below.refl _ _ | assumption | apply bel_drewN | apply bel_drew | apply bel_alloc | (refine bel_trans ?_ (by assumption))))
 have hbox:W.heap[w.heap.size]? = some (.cells #[.int .i64 xs,.int .i64 xd,.int .i64 xi] 289 (0,0)):=by rw [hW];exact heap_alloc_new _ _
 clear hW c1 c2 c3 kb0
 go_loopw [1,5] (fun iv kv wr=>∃(j:Nat) (c':Nat→It) (m':Int→Option Value) (N':Nat),iv=.int .i64 j∧HoleAt w wr b rb cap n mb ⟨⟨xs,xd⟩,xi⟩ j c c' m' N'∧HeapDn n (upd c' j ⟨⟨xs,xd⟩,xi⟩) j∧wr.heap[w.heap.size]? = some (.cells #[.int .i64 xs,.int .i64 xd,.int .i64 xi] 289 (0,0))) (fun iv _ _=>n-(intOf iv).toNat)
 case atStart=>exact ⟨i,c,m,N,rfl,hS.out.on HW,hU'.out,hbox⟩
 case round=>
  obtain ⟨j,c',m',N',rfl,hH,hUp,hbx⟩:=hrel;have hbr:=hH.here.1
  have kb0:wr.cell? ⟨b,0,none⟩=some (.slice (some ⟨rb,0,none⟩) n cap):=by simp [World.cell?,hbr]
  have x1:wr.cell? ⟨w.heap.size,0,none⟩=some (.int .i64 xs):=by simp [World.cell?,hbx]
  have x2:wr.cell? ⟨w.heap.size,1,none⟩=some (.int .i64 xd):=by simp [World.cell?,hbx]
  have x3:wr.cell? ⟨w.heap.size,2,none⟩=some (.int .i64 xi):=by simp [World.cell?,hbx]
  have hjn:=hH.lt;have HB:=Below.refl wr.heap.size wr;have hH':=Lib.hid hH;have hUp':=Lib.hid hUp;clear hH hUp hbr
  by_cases hlt:2*j+1<n
  ·obtain ⟨k1,hk1⟩:∃k1,2*j+1=k1:=⟨_,rfl⟩
   have hk1n:k1<n:=by omega
   have hz:2*(j:Int)+1=(k1:Nat):=by omega
   by_cases hs:k1+1<n
   ·obtain ⟨k2,hk2⟩:∃k2,k1+1=k2:=⟨_,rfl⟩
    have hk2n:k2<n:=by omega
    have hz2:(k1:Int)+1=(k2:Nat):=by omega
    have hd':decide ((k2:Int)<(n:Int))=true:=by simp;omega
    have hd2:(k2:Int)<(n:Int):=by omega
    obtain ⟨a1,a2,a3⟩:=hH'.out.here.2.cells hk1n;obtain ⟨b1,b2,b3⟩:=hH'.out.here.2.cells hk2n;obtain ⟨⟨⟨us,ud⟩,ui⟩,hu⟩:∃y,c' k1=y:=⟨_,rfl⟩;obtain ⟨⟨⟨vs,vd⟩,vi⟩,hv⟩:∃y,c' k2=y:=⟨_,rfl⟩;rw [hu] at a1 a2 a3;rw [hv] at b1 b2 b3;simp only at a1 a2 a3 b1 b2 b3;have icc:=hH'.out.cc k1 hk1n;have jcc:=hH'.out.cc k2 hk2n
    have e1:upd c' j ⟨⟨xs,xd⟩,xi⟩ k1=⟨⟨us,ud⟩,ui⟩:=by unfold upd;rw [if_neg (by omega),hu]
    have e2:upd c' j ⟨⟨xs,xd⟩,xi⟩ k2=⟨⟨vs,vd⟩,vi⟩:=by unfold upd;rw [if_neg (by omega),hv]
    rw [e1] at icc;rw [e2] at jcc;obtain ⟨s,hs2⟩:∃s,decide (It.lt ⟨⟨vs,vd⟩,vi⟩ ⟨⟨us,ud⟩,ui⟩)=s:=⟨_,rfl⟩;have cM:=Lib.hid (heapLess ⟨⟨vs,vd⟩,vi⟩ ⟨⟨us,ud⟩,ui⟩ s hs2 jcc icc);have Hs:=Lib.hid hs2;have hE:=Lib.hid (And.intro e1 e2);have a1q:=cell_regrown a1;have a2q:=cell_regrown a2;have a3q:=cell_regrown a3;have b1q:=cell_regrown b1;have b2q:=cell_regrown b2;have b3q:=cell_regrown b3;have kb0q:=cell_regrown kb0
    clear hs2 e1 e2 hu hv icc jcc
    go_upto_region 3 with (fail)
    refine wp_region_quiet_below (by kernel_rfl) (by kernel_rfl) ?_
    repeat (first | go_big_quiet_step (with_reducible exact Calls.regrown_of (cM.out _)) | quiet_step (with_reducible exact Calls.regrown_of (cM.out _)))
    refine wpQuiet_nil ?_;intro _ hw';obtain ⟨⟨dq,osq⟩,hw''⟩:=hw';have HB2:=bel_trans HB (below_regrown wr dq osq);have hb2:=below_regrown wr dq osq;subst hw''
    generalize grow (redrawn wr dq) osq=w2 at HB2 hb2 ⊢
    clear a1 a2 a3 b1 b2 b3 a1q a2q a3q b1q b2q b3q kb0q
    cases s with
    | true=>
     have hkj:par k2=j:=by unfold par;omega
     have hmin:∀k,k<n→0<k→par k=j→It.le (upd c' j ⟨⟨xs,xd⟩,xi⟩ k2) (upd c' j ⟨⟨xs,xd⟩,xi⟩ k):=by
      intro k hk _ hp
      rcases (show k=k1∨k=k2 by unfold par at hp;omega) with rfl | rfl
      ·rw [hE.out.1,hE.out.2];exact It.le_of_lt (of_decide_eq_true Hs.out)
      ·exact It.le_refl _
     obtain ⟨⟨⟨ys,yd⟩,yi⟩,hy⟩:∃y,c' k2=y:=⟨_,rfl⟩;have Hkj:=Lib.hid hkj
     have hjk:j<k2:=by have:=hkj;unfold par at this;omega
     have l1:w.heap.size<wr.heap.size:=(Array.getElem?_eq_some_iff.1 hbx).1;have l2:b<wr.heap.size:=(Array.getElem?_eq_some_iff.1 hH'.out.here.1).1;have hH2:=Lib.hid (hH'.out.on HB2);obtain ⟨r1,r2,r3⟩:=hH2.out.here.2.cells hk2n;rw [hy] at r1 r2 r3;simp only at r1 r2 r3;have icc:=hH'.out.cc k2 hk2n;have jcc:=hH'.out.cc j hjn
     have e1:upd c' j ⟨⟨xs,xd⟩,xi⟩ k2=⟨⟨ys,yd⟩,yi⟩:=by unfold upd;rw [if_neg (by omega),hy]
     have e2:upd c' j ⟨⟨xs,xd⟩,xi⟩ j=⟨⟨xs,xd⟩,xi⟩:=by unfold upd;rw [if_pos rfl]
     rw [e1] at icc;rw [e2] at jcc;have Hmin:=Lib.hid hmin;obtain ⟨t,ht⟩:∃t,decide (It.lt ⟨⟨ys,yd⟩,yi⟩ ⟨⟨xs,xd⟩,xi⟩)=t:=⟨_,rfl⟩;have cL:=Lib.hid (heapLess ⟨⟨ys,yd⟩,yi⟩ ⟨⟨xs,xd⟩,xi⟩ t ht icc jcc);have Ht:=Lib.hid ht;have He:=Lib.hid (And.intro e1 e2);have Hy:=Lib.hid hy
     have y1:=(HB2.cell (by exact l1)).trans x1
     have y2:=(HB2.cell (by exact l1)).trans x2
     have y3:=(HB2.cell (by exact l1)).trans x3
     have yb:=(HB2.cell (by exact l2)).trans kb0
     have hbx2:=(HB2.block _ l1).trans hbx;have y1q:=cell_regrown y1;have y2q:=cell_regrown y2;have y3q:=cell_regrown y3;have ybq:=cell_regrown yb;have r1q:=cell_regrown r1;have r2q:=cell_regrown r2;have r3q:=cell_regrown r3;have HC:=Below.refl w2.heap.size w2;clear ht e1 e2 hy icc jcc hmin x1 x2 x3 kb0 hbx hb2
     go_upto_region 5 with (fail)
     refine wp_region_quiet_below (by kernel_rfl) (by kernel_rfl) ?_
     repeat (first | go_big_quiet_step (with_reducible exact Calls.regrown_of (cL.out _)) | quiet_step (with_reducible exact Calls.regrown_of (cL.out _)))
     refine wpQuiet_nil ?_;intro _ hw';obtain ⟨⟨dq,osq⟩,hw''⟩:=hw';have HC4:=bel_trans HC (below_regrown w2 dq osq);have hb2:=below_regrown w2 dq osq;subst hw''
     generalize grow (redrawn w2 dq) osq=w4 at HC4 hb2 ⊢
     have hH4:=Lib.hid (hH2.out.on HC4);have l1:w.heap.size<w2.heap.size:=(Array.getElem?_eq_some_iff.1 hbx2).1;have l2:b<w2.heap.size:=(Array.getElem?_eq_some_iff.1 hH2.out.here.1).1;have l3:rb<w2.heap.size:=hH2.out.here.2.lt
     have z1:=(HC4.cell (by exact l1)).trans y1
     have z2:=(HC4.cell (by exact l1)).trans y2
     have z3:=(HC4.cell (by exact l1)).trans y3
     have zb:=(HC4.cell (by exact l2)).trans yb
     have q1:=(HC4.cell (by exact l3)).trans r1
     have q2:=(HC4.cell (by exact l3)).trans r2
     have q3:=(HC4.cell (by exact l3)).trans r3
     have hbx4:=(HC4.block _ l1).trans hbx2;clear y1 y2 y3 yb r1 r2 r3 y1q y2q y3q ybq r1q r2q r3q hbx2 hb2 l1 l2 l3
     cases t with
     | false=>
      have hfin:=Lib.hid (dn_end hUp'.out (fun k' a1 a2 a3=>It.le_trans (by rw [He.out.1,He.out.2];exact of_decide_eq_false Ht.out) (Hmin.out k' a1 a2 a3)))
      go_wp2_with fail;refine (heapPut w4 b rb cap n mb N' c' m' j ⟨⟨xs,xd⟩,xi⟩ hH4.out.here hH4.out.map hjn h1 h2 h3).mono ?_;rintro e w3 ⟨rfl,hI,⟨N2,hM⟩,hK⟩;have hF:=hH4.out.fill hfin.out hI hM hK;clear hI hM hK;go_wp2;go_end0;exact ⟨rfl,hF⟩
     | true=>
      go_wp2_with fail;refine (heapPut w4 b rb cap n mb N' c' m' j ⟨⟨ys,yd⟩,yi⟩ hH4.out.here hH4.out.map hjn h1 h2 h3).mono ?_;rintro e w3 ⟨rfl,hI,⟨N2,hM⟩,hK⟩
      have hI':HeapIn w3 b rb cap n mb (upd c' j (c' k2)):=by rw [Hy.out];exact hI
      have hM':MapAt (fun z:Int=>Value.int .i64 z) w3 mb (updK m' (c' k2).id (some (.int .i64 (j:Nat)))) N2:=by rw [Hy.out];exact hM
      have hN:=Lib.hid (hH4.out.move hk2n (by omega) hI' hM' hK)
      have hV:HeapDn n (upd (upd c' j (c' k2)) k2 ⟨⟨xs,xd⟩,xi⟩) k2:=by
       rw [move_row (by omega)]
       exact dn_step hk2n (by omega) Hkj.out hUp'.out (by rw [He.out.1,He.out.2];exact of_decide_eq_true Ht.out) Hmin.out
      have hV:=Lib.hid hV
      have hbx3:=(hK.block w.heap.size (Array.getElem?_eq_some_iff.1 hbx4).1 (by simp;omega)).trans hbx4
      clear hI hM hK hI' hM' z1 z2 z3 zb q1 q2 q3 hbx4;go_wp2;go_roundw
      case rel=>exact ⟨k2,_,_,_,rfl,hN.out,hV.out,hbx3⟩
      case measure=>simp [intOf];omega
    | false=>
     have hkj:par k1=j:=by unfold par;omega
     have hmin:∀k,k<n→0<k→par k=j→It.le (upd c' j ⟨⟨xs,xd⟩,xi⟩ k1) (upd c' j ⟨⟨xs,xd⟩,xi⟩ k):=by
      intro k hk _ hp
      rcases (show k=k1∨k=k2 by unfold par at hp;omega) with rfl | rfl
      ·exact It.le_refl _
      ·rw [hE.out.1,hE.out.2];exact of_decide_eq_false Hs.out
     obtain ⟨⟨⟨ys,yd⟩,yi⟩,hy⟩:∃y,c' k1=y:=⟨_,rfl⟩;have Hkj:=Lib.hid hkj
     have hjk:j<k1:=by have:=hkj;unfold par at this;omega
     have l1:w.heap.size<wr.heap.size:=(Array.getElem?_eq_some_iff.1 hbx).1;have l2:b<wr.heap.size:=(Array.getElem?_eq_some_iff.1 hH'.out.here.1).1;have hH2:=Lib.hid (hH'.out.on HB2);obtain ⟨r1,r2,r3⟩:=hH2.out.here.2.cells hk1n;rw [hy] at r1 r2 r3;simp only at r1 r2 r3;have icc:=hH'.out.cc k1 hk1n;have jcc:=hH'.out.cc j hjn
     have e1:upd c' j ⟨⟨xs,xd⟩,xi⟩ k1=⟨⟨ys,yd⟩,yi⟩:=by unfold upd;rw [if_neg (by omega),hy]
     have e2:upd c' j ⟨⟨xs,xd⟩,xi⟩ j=⟨⟨xs,xd⟩,xi⟩:=by unfold upd;rw [if_pos rfl]
     rw [e1] at icc;rw [e2] at jcc;have Hmin:=Lib.hid hmin;obtain ⟨t,ht⟩:∃t,decide (It.lt ⟨⟨ys,yd⟩,yi⟩ ⟨⟨xs,xd⟩,xi⟩)=t:=⟨_,rfl⟩;have cL:=Lib.hid (heapLess ⟨⟨ys,yd⟩,yi⟩ ⟨⟨xs,xd⟩,xi⟩ t ht icc jcc);have Ht:=Lib.hid ht;have He:=Lib.hid (And.intro e1 e2);have Hy:=Lib.hid hy
     have y1:=(HB2.cell (by exact l1)).trans x1
     have y2:=(HB2.cell (by exact l1)).trans x2
     have y3:=(HB2.cell (by exact l1)).trans x3
     have yb:=(HB2.cell (by exact l2)).trans kb0
     have hbx2:=(HB2.block _ l1).trans hbx;have y1q:=cell_regrown y1;have y2q:=cell_regrown y2;have y3q:=cell_regrown y3;have ybq:=cell_regrown yb;have r1q:=cell_regrown r1;have r2q:=cell_regrown r2;have r3q:=cell_regrown r3;have HC:=Below.refl w2.heap.size w2;clear ht e1 e2 hy icc jcc hmin x1 x2 x3 kb0 hbx hb2
     go_upto_region 5 with (fail)
     refine wp_region_quiet_below (by kernel_rfl) (by kernel_rfl) ?_
     repeat (first | go_big_quiet_step (with_reducible exact Calls.regrown_of (cL.out _)) | quiet_step (with_reducible exact Calls.regrown_of (cL.out _)))
     refine wpQuiet_nil ?_;intro _ hw';obtain ⟨⟨dq,osq⟩,hw''⟩:=hw';have HC4:=bel_trans HC (below_regrown w2 dq osq);have hb2:=below_regrown w2 dq osq;subst hw''
     generalize grow (redrawn w2 dq) osq=w4 at HC4 hb2 ⊢
     have hH4:=Lib.hid (hH2.out.on HC4);have l1:w.heap.size<w2.heap.size:=(Array.getElem?_eq_some_iff.1 hbx2).1;have l2:b<w2.heap.size:=(Array.getElem?_eq_some_iff.1 hH2.out.here.1).1;have l3:rb<w2.heap.size:=hH2.out.here.2.lt
     have z1:=(HC4.cell (by exact l1)).trans y1
     have z2:=(HC4.cell (by exact l1)).trans y2
     have z3:=(HC4.cell (by exact l1)).trans y3
     have zb:=(HC4.cell (by exact l2)).trans yb
     have q1:=(HC4.cell (by exact l3)).trans r1
     have q2:=(HC4.cell (by exact l3)).trans r2
     have q3:=(HC4.cell (by exact l3)).trans r3
     have hbx4:=(HC4.block _ l1).trans hbx2;clear y1 y2 y3 yb r1 r2 r3 y1q y2q y3q ybq r1q r2q r3q hbx2 hb2 l1 l2 l3
     cases t with
     | false=>
      have hfin:=Lib.hid (dn_end hUp'.out (fun k' a1 a2 a3=>It.le_trans (by rw [He.out.1,He.out.2];exact of_decide_eq_false Ht.out) (Hmin.out k' a1 a2 a3)))
      go_wp2_with fail;refine (heapPut w4 b rb cap n mb N' c' m' j ⟨⟨xs,xd⟩,xi⟩ hH4.out.here hH4.out.map hjn h1 h2 h3).mono ?_;rintro e w3 ⟨rfl,hI,⟨N2,hM⟩,hK⟩;have hF:=hH4.out.fill hfin.out hI hM hK;clear hI hM hK;go_wp2;go_end0;exact ⟨rfl,hF⟩
     | true=>
      go_wp2_with fail;refine (heapPut w4 b rb cap n mb N' c' m' j ⟨⟨ys,yd⟩,yi⟩ hH4.out.here hH4.out.map hjn h1 h2 h3).mono ?_;rintro e w3 ⟨rfl,hI,⟨N2,hM⟩,hK⟩
      have hI':HeapIn w3 b rb cap n mb (upd c' j (c' k1)):=by rw [Hy.out];exact hI
      have hM':MapAt (fun z:Int=>Value.int .i64 z) w3 mb (updK m' (c' k1).id (some (.int .i64 (j:Nat)))) N2:=by rw [Hy.out];exact hM
      have hN:=Lib.hid (hH4.out.move hk1n (by omega) hI' hM' hK)
      have hV:HeapDn n (upd (upd c' j (c' k1)) k1 ⟨⟨xs,xd⟩,xi⟩) k1:=by
       rw [move_row (by omega)]
       exact dn_step hk1n (by omega) Hkj.out hUp'.out (by rw [He.out.1,He.out.2];exact of_decide_eq_true Ht.out) Hmin.out
      have hV:=Lib.hid hV
      have hbx3:=(hK.block w.heap.size (Array.getElem?_eq_some_iff.1 hbx4).1 (by simp;omega)).trans hbx4
      clear hI hM hK hI' hM' z1 z2 z3 zb q1 q2 q3 hbx4;go_wp2;go_roundw
      case rel=>exact ⟨k1,_,_,_,rfl,hN.out,hV.out,hbx3⟩
      case measure=>simp [intOf];omega
   ·go_upto_region 3 with (fail)
    have hs':¬((k1:Int)+1<(n:Int)):=by omega
    have hd':decide ((k1:Int)+1<(n:Int))=false:=decide_eq_false hs';have kb0q:=cell_regrown kb0
    refine wp_region_quiet_below (by kernel_rfl) (by kernel_rfl) ?_
    repeat (first | go_big_quiet_step (fail) | quiet_step (fail))
    refine wpQuiet_nil ?_;intro _ hw';obtain ⟨⟨dq,osq⟩,hw''⟩:=hw';have HB2:=bel_trans HB (below_regrown wr dq osq);have hb2:=below_regrown wr dq osq;subst hw''
    generalize grow (redrawn wr dq) osq=w2 at HB2 hb2 ⊢
    have hkj:par k1=j:=by unfold par;omega
    have hmin:∀k,k<n→0<k→par k=j→It.le (upd c' j ⟨⟨xs,xd⟩,xi⟩ k1) (upd c' j ⟨⟨xs,xd⟩,xi⟩ k):=by
     intro k hk _ hp
     obtain rfl:k=k1:=by unfold par at hp;omega
     exact It.le_refl _
    clear kb0q;obtain ⟨⟨⟨ys,yd⟩,yi⟩,hy⟩:∃y,c' k1=y:=⟨_,rfl⟩;have Hkj:=Lib.hid hkj
    have hjk:j<k1:=by have:=hkj;unfold par at this;omega
    have l1:w.heap.size<wr.heap.size:=(Array.getElem?_eq_some_iff.1 hbx).1;have l2:b<wr.heap.size:=(Array.getElem?_eq_some_iff.1 hH'.out.here.1).1;have hH2:=Lib.hid (hH'.out.on HB2);obtain ⟨r1,r2,r3⟩:=hH2.out.here.2.cells hk1n;rw [hy] at r1 r2 r3;simp only at r1 r2 r3;have icc:=hH'.out.cc k1 hk1n;have jcc:=hH'.out.cc j hjn
    have e1:upd c' j ⟨⟨xs,xd⟩,xi⟩ k1=⟨⟨ys,yd⟩,yi⟩:=by unfold upd;rw [if_neg (by omega),hy]
    have e2:upd c' j ⟨⟨xs,xd⟩,xi⟩ j=⟨⟨xs,xd⟩,xi⟩:=by unfold upd;rw [if_pos rfl]
    rw [e1] at icc;rw [e2] at jcc;have Hmin:=Lib.hid hmin;obtain ⟨t,ht⟩:∃t,decide (It.lt ⟨⟨ys,yd⟩,yi⟩ ⟨⟨xs,xd⟩,xi⟩)=t:=⟨_,rfl⟩;have cL:=Lib.hid (heapLess ⟨⟨ys,yd⟩,yi⟩ ⟨⟨xs,xd⟩,xi⟩ t ht icc jcc);have Ht:=Lib.hid ht;have He:=Lib.hid (And.intro e1 e2);have Hy:=Lib.hid hy
    have y1:=(HB2.cell (by exact l1)).trans x1
    have y2:=(HB2.cell (by exact l1)).trans x2
    have y3:=(HB2.cell (by exact l1)).trans x3
    have yb:=(HB2.cell (by exact l2)).trans kb0
    have hbx2:=(HB2.block _ l1).trans hbx;have y1q:=cell_regrown y1;have y2q:=cell_regrown y2;have y3q:=cell_regrown y3;have ybq:=cell_regrown yb;have r1q:=cell_regrown r1;have r2q:=cell_regrown r2;have r3q:=cell_regrown r3;have HC:=Below.refl w2.heap.size w2;clear ht e1 e2 hy icc jcc hmin x1 x2 x3 kb0 hbx hb2
    go_upto_region 5 with (fail)
    refine wp_region_quiet_below (by kernel_rfl) (by kernel_rfl) ?_
    repeat (first | go_big_quiet_step (with_reducible exact Calls.regrown_of (cL.out _)) | quiet_step (with_reducible exact Calls.regrown_of (cL.out _)))
    refine wpQuiet_nil ?_;intro _ hw';obtain ⟨⟨dq,osq⟩,hw''⟩:=hw';have HC4:=bel_trans HC (below_regrown w2 dq osq);have hb2:=below_regrown w2 dq osq;subst hw''
    generalize grow (redrawn w2 dq) osq=w4 at HC4 hb2 ⊢
    have hH4:=Lib.hid (hH2.out.on HC4);have l1:w.heap.size<w2.heap.size:=(Array.getElem?_eq_some_iff.1 hbx2).1;have l2:b<w2.heap.size:=(Array.getElem?_eq_some_iff.1 hH2.out.here.1).1;have l3:rb<w2.heap.size:=hH2.out.here.2.lt
    have z1:=(HC4.cell (by exact l1)).trans y1
    have z2:=(HC4.cell (by exact l1)).trans y2
    have z3:=(HC4.cell (by exact l1)).trans y3
    have zb:=(HC4.cell (by exact l2)).trans yb
    have q1:=(HC4.cell (by exact l3)).trans r1
    have q2:=(HC4.cell (by exact l3)).trans r2
    have q3:=(HC4.cell (by exact l3)).trans r3
    have hbx4:=(HC4.block _ l1).trans hbx2;clear y1 y2 y3 yb r1 r2 r3 y1q y2q y3q ybq r1q r2q r3q hbx2 hb2 l1 l2 l3
    cases t with
    | false=>
     have hfin:=Lib.hid (dn_end hUp'.out (fun k' a1 a2 a3=>It.le_trans (by rw [He.out.1,He.out.2];exact of_decide_eq_false Ht.out) (Hmin.out k' a1 a2 a3)))
     go_wp2_with fail;refine (heapPut w4 b rb cap n mb N' c' m' j ⟨⟨xs,xd⟩,xi⟩ hH4.out.here hH4.out.map hjn h1 h2 h3).mono ?_;rintro e w3 ⟨rfl,hI,⟨N2,hM⟩,hK⟩;have hF:=hH4.out.fill hfin.out hI hM hK;clear hI hM hK;go_wp2;go_end0;exact ⟨rfl,hF⟩
    | true=>
     go_wp2_with fail;refine (heapPut w4 b rb cap n mb N' c' m' j ⟨⟨ys,yd⟩,yi⟩ hH4.out.here hH4.out.map hjn h1 h2 h3).mono ?_;rintro e w3 ⟨rfl,hI,⟨N2,hM⟩,hK⟩
     have hI':HeapIn w3 b rb cap n mb (upd c' j (c' k1)):=by rw [Hy.out];exact hI
     have hM':MapAt (fun z:Int=>Value.int .i64 z) w3 mb (updK m' (c' k1).id (some (.int .i64 (j:Nat)))) N2:=by rw [Hy.out];exact hM
     have hN:=Lib.hid (hH4.out.move hk1n (by omega) hI' hM' hK)
     have hV:HeapDn n (upd (upd c' j (c' k1)) k1 ⟨⟨xs,xd⟩,xi⟩) k1:=by
      rw [move_row (by omega)]
      exact dn_step hk1n (by omega) Hkj.out hUp'.out (by rw [He.out.1,He.out.2];exact of_decide_eq_true Ht.out) Hmin.out
     have hV:=Lib.hid hV
     have hbx3:=(hK.block w.heap.size (Array.getElem?_eq_some_iff.1 hbx4).1 (by simp;omega)).trans hbx4
     clear hI hM hK hI' hM' z1 z2 z3 zb q1 q2 q3 hbx4;go_wp2;go_roundw
     case rel=>exact ⟨k1,_,_,_,rfl,hN.out,hV.out,hbx3⟩
     case measure=>simp [intOf];omega
  ·have hlt':¬(2*(j:Int)+1<(n:Int)):=by omega
   have hvac:∀k,k<n→0<k→par k=j→It.le (upd c' j ⟨⟨xs,xd⟩,xi⟩ j) (upd c' j ⟨⟨xs,xd⟩,xi⟩ k):=by intro k hk _ hp;unfold par at hp;omega
   have hfin:=Lib.hid (dn_end hUp'.out hvac);clear hvac;go_wp2_with fail;refine (heapPut wr b rb cap n mb N' c' m' j ⟨⟨xs,xd⟩,xi⟩ hH'.out.here hH'.out.map hjn h1 h2 h3).mono ?_;rintro e w3 ⟨rfl,hI,⟨N2,hM⟩,hK⟩;have hF:=hH'.out.fill hfin.out hI hM hK;clear hI hM hK;go_wp2;go_end0;exact ⟨rfl,hF⟩
def Lies (xs:List Value) (n:Nat) (c:Nat→It):Prop:=∀k,k<n→xs[k*3]? = some (.int .i64 (c k).c.s)∧xs[k*3+1]? = some (.int .i64 (c k).c.d)∧xs[k*3+2]? = some (.int .i64 (c k).id)
theorem ItemsIn.owns {w:World} {b cap n:Nat} {c:Nat→It} (h:ItemsIn w b cap n c):∃xs,w.ownsRow 0 289 3 (.slice (some ⟨b,0,none⟩) n cap) n xs∧Lies xs n c:=by
 obtain ⟨h1,h2,cur,h3,h4,h5⟩:=h;refine ⟨cur.toList.take (n*3),⟨?_,.inr ⟨b,cap,cur,rfl,Nat.zero_le _,h3,h1,h2,h4,rfl⟩⟩,?_⟩
 ·rw [List.length_take,Array.length_toList,h4];omega
 ·intro k hk
  obtain ⟨a1,a2,a3⟩:=h5 k hk
  rw [List.getElem?_take,if_pos (by omega),List.getElem?_take,if_pos (by omega),List.getElem?_take,if_pos (by omega)]
  simpa using ⟨a1,a2,a3⟩
theorem ItemsIn.of_owns {w:World} {B b cap n:Nat} {xs:List Value} {c:Nat→It} (h:w.ownsRow B 289 3 (.slice (some ⟨b,0,none⟩) n cap) n xs) (hl:Lies xs n c):ItemsIn w b cap n c:=by
 rcases h.2 with ⟨h',_⟩ | ⟨g',cap',cur,h',_,hg,hnc,hcm,hcs,htake⟩
 ·simp at h'
 ·simp only [Value.slice.injEq,Option.some.injEq,Addr.mk.injEq,and_true,true_and] at h'
  obtain ⟨rfl,rfl⟩:=h';refine ⟨hnc,hcm,cur,hg,hcs,?_⟩;intro k hk;obtain ⟨a1,a2,a3⟩:=hl k hk
  rw [←htake,List.getElem?_take,if_pos (by omega)] at a1
  rw [←htake,List.getElem?_take,if_pos (by omega)] at a2
  rw [←htake,List.getElem?_take,if_pos (by omega)] at a3
  rw [Array.getElem?_toList] at a1 a2 a3;exact ⟨a1,a2,a3⟩
theorem Lies.push {xs:List Value} {n:Nat} {c:Nat→It} (h:Lies xs n c) (hn:xs.length=n*3) (x:It):Lies (xs ++ [.int .i64 x.c.s,.int .i64 x.c.d,.int .i64 x.id]) (n+1) (upd c n x):=by
 intro k hk
 by_cases e:k=n
 ·subst e
  unfold upd
  rw [if_pos rfl,List.getElem?_append_right (by omega),List.getElem?_append_right (by omega),List.getElem?_append_right (by omega),hn]
  simp
 ·obtain ⟨a1,a2,a3⟩:=h k (by omega)
  unfold upd
  rw [if_neg e,List.getElem?_append_left (by omega),List.getElem?_append_left (by omega),List.getElem?_append_left (by omega)]
  exact ⟨a1,a2,a3⟩
theorem RowOk.owns {w:World} {b mb n:Nat} {sl:Value} {c:Nat→It} {S:List Nat} (h:RowOk w b mb sl n c S):∃xs,w.ownsRow 0 289 3 sl n xs∧Lies xs n c:=by
 rcases h with ⟨rfl,rfl,_⟩ | ⟨rb,cap,rfl,hI,_⟩
 ·exact ⟨[],⟨rfl,.inl ⟨rfl,rfl⟩⟩,fun k hk=>absurd hk (by omega)⟩
 ·exact hI.owns
def hset (hp:Int→Option C) (i:Int) (c:Option C):Int→Option C:=fun z=>if z=i then c else hp z
theorem Holds.push {n:Nat} {c:Nat→It} {hp:Int→Option C} (h:Holds n c hp) (x:It) (hx:hp x.id=none):Holds (n+1) (upd c n x) (hset hp x.id (some x.c)):=by
 intro id d;unfold hset
 constructor
 ·intro he
  by_cases e:id=x.id
  ·rw [if_pos e] at he
   injection he with he
   exact ⟨n,by omega,by rw [upd_same,e,←he]⟩
  ·rw [if_neg e] at he
   obtain ⟨k,hk,hk2⟩:=(h id d).1 he
   exact ⟨k,by omega,by rw [upd_ne _ _ (by omega),hk2]⟩
 ·rintro ⟨k,hk,he⟩
  by_cases e:k=n
  ·subst e
   rw [upd_same] at he;subst he;rw [if_pos rfl]
  ·rw [upd_ne _ _ e] at he
   have:=(h id d).2 ⟨k,by omega,he⟩
   rw [if_neg,this];rintro rfl;rw [hx] at this;cases this
theorem Dst.push {n:Nat} {c:Nat→It} {hp:Int→Option C} (h:Dst n c) (hh:Holds n c hp) (x:It) (hx:hp x.id=none):Dst (n+1) (upd c n x):=by
 have key:∀k,k<n→(c k).id≠x.id:=by
  intro k hk e;have:=(hh (c k).id (c k).c).2 ⟨k,hk,rfl⟩;rw [e,hx] at this;cases this
 intro i j hi hj e
 by_cases e1:i=n
 ·by_cases e2:j=n
  ·omega
  ·subst e1
   rw [upd_same,upd_ne _ _ e2] at e
   exact absurd e.symm (key j (by omega))
 ·by_cases e2:j=n
  ·subst e2
   rw [upd_same,upd_ne _ _ e1] at e
   exact absurd e (key i (by omega))
  ·rw [upd_ne _ _ e1,upd_ne _ _ e2] at e
   exact h i j (by omega) (by omega) e
theorem PosMap.push {n:Nat} {c:Nat→It} {m:Int→Option Value} (h:PosMap n c m) (x:It):PosBut (n+1) (upd c n x) m x.id:=by
 intro z v hz;rw [h z v]
 constructor
 ·rintro ⟨k,hk,hv,he⟩
  exact ⟨k,by omega,hv,by rw [upd_ne _ _ (by omega)];exact he⟩
 ·rintro ⟨k,hk,hv,he⟩
  by_cases e:k=n
  ·subst e;rw [upd_same] at he;exact absurd he.symm hz
  ·rw [upd_ne _ _ e] at he;exact ⟨k,by omega,hv,he⟩
theorem PosMap.turn {n:Nat} {c:Nat→It} {m:Int→Option Value} (h:PosMap n c m) {k:Nat} (hk:k<n) (x:It) (hx:x.id=(c k).id):PosBut n (upd c k x) m x.id:=by
 intro z v hz;rw [h z v]
 constructor
 ·rintro ⟨j,hj,hv,he⟩
  exact ⟨j,hj,hv,by rw [upd_ne _ _ (by rintro rfl;rw [hx] at hz;exact hz he.symm)];exact he⟩
 ·rintro ⟨j,hj,hv,he⟩
  by_cases e:j=k
  ·subst e;rw [upd_same] at he;exact absurd he.symm hz
  ·rw [upd_ne _ _ e] at he;exact ⟨j,hj,hv,he⟩
theorem Dst.turn {n:Nat} {c:Nat→It} (h:Dst n c) {k:Nat} (hk:k<n) (x:It) (hx:x.id=(c k).id):Dst n (upd c k x):=by
 have e:∀j,(upd c k x j).id=(c j).id:=by
  intro j
  by_cases e:j=k
  ·subst e;rw [upd_same,hx]
  ·rw [upd_ne _ _ e]
 intro i j hi hj he;rw [e,e] at he;exact h i j hi hj he
theorem Holds.turn {n:Nat} {c:Nat→It} {hp:Int→Option C} (h:Holds n c hp) (hD:Dst n c) {k:Nat} (hk:k<n) (x:It) (hx:x.id=(c k).id):Holds n (upd c k x) (hset hp x.id (some x.c)):=by
 intro id d;unfold hset
 constructor
 ·intro he
  by_cases e:id=x.id
  ·rw [if_pos e] at he
   injection he with he
   exact ⟨k,hk,by rw [upd_same,e,←he]⟩
  ·rw [if_neg e] at he
   obtain ⟨j,hj,hj2⟩:=(h id d).1 he;refine ⟨j,hj,?_⟩;rw [upd_ne,hj2];rintro rfl;rw [hj2] at hx;exact e hx.symm
 ·rintro ⟨j,hj,he⟩
  by_cases e:j=k
  ·subst e
   rw [upd_same] at he;subst he;rw [if_pos rfl]
  ·rw [upd_ne _ _ e] at he
   rw [if_neg,(h id d).2 ⟨j,hj,he⟩];rintro rfl
   apply e
   exact hD j k hj hk (by rw [he,←hx])
theorem Holds.same {n:Nat} {c c':Nat→It} {hp:Int→Option C} (h:Holds n c hp) (hs:∀y,(∃k,k<n∧c' k=y)↔∃k,k<n∧c k=y):Holds n c' hp:=by
 intro id d;rw [h id d];exact (hs ⟨d,id⟩).symm
theorem Holds.pop {n:Nat} {c:Nat→It} {hp:Int→Option C} (h:Holds (n+1) c hp) (hD:Dst (n+1) c):Holds n (upd c 0 (c n)) (hset hp (c 0).id none):=by
 intro id d;unfold hset
 constructor
 ·intro he
  by_cases e:id=(c 0).id
  ·rw [if_pos e] at he;cases he
  ·rw [if_neg e] at he
   obtain ⟨k,hk,hk2⟩:=(h id d).1 he
   have k0:k≠0:=by rintro rfl;rw [hk2] at e;exact e rfl
   by_cases e2:k=n
   ·subst e2;exact ⟨0,by omega,by rw [upd_same,hk2]⟩
   ·exact ⟨k,by omega,by rw [upd_ne _ _ k0,hk2]⟩
 ·rintro ⟨k,hk,he⟩
  have key:∀j,j<n+1→j≠0→c j=⟨d,id⟩→(if id=(c 0).id then none else hp id)=some d:=by
   intro j hj j0 hj2;rw [if_neg,(h id d).2 ⟨j,hj,hj2⟩];intro e
   exact j0 (hD j 0 hj (by omega) (by rw [hj2,←e]))
  by_cases e:k=0
  ·subst e
   rw [upd_same] at he
   exact key n (by omega) (by omega) he
  ·rw [upd_ne _ _ e] at he
   exact key k (by omega) e he
theorem Dst.pop {n:Nat} {c:Nat→It} (hD:Dst (n+1) c):Dst n (upd c 0 (c n)):=by
 intro i j hi hj e
 by_cases e1:i=0 <;> by_cases e2:j=0
 ·omega
 ·subst e1
  rw [upd_same,upd_ne _ _ e2] at e
  have:=hD n j (by omega) (by omega) e;omega
 ·subst e2
  rw [upd_same,upd_ne _ _ e1] at e
  have:=hD i n (by omega) (by omega) e;omega
 ·rw [upd_ne _ _ e1,upd_ne _ _ e2] at e
  exact hD i j (by omega) (by omega) e
theorem PosMap.pop {n:Nat} {c:Nat→It} {m:Int→Option Value} (h:PosMap (n+1) c m) (hD:Dst (n+1) c) (x:Value):PosBut n (upd c 0 (c n)) (updK (updK m (c 0).id none) (c n).id (some x)) (c n).id:=by
 intro z v hz;unfold updK;rw [if_neg hz]
 by_cases e0:z=(c 0).id
 ·rw [if_pos e0]
  constructor
  ·intro h';cases h'
  ·rintro ⟨k,hk,hv,he⟩
   by_cases e1:k=0
   ·subst e1;rw [upd_same] at he;exact absurd he.symm hz
   ·rw [upd_ne _ _ e1] at he
    exact absurd (hD k 0 (by omega) (by omega) (by rw [he,e0])) e1
 ·rw [if_neg e0,h z v]
  constructor
  ·rintro ⟨k,hk,hv,he⟩
   have k0:k≠0:=by rintro rfl;exact e0 he.symm
   have k1:k≠n:=by rintro rfl;exact hz he.symm
   exact ⟨k,by omega,hv,by rw [upd_ne _ _ k0];exact he⟩
  ·rintro ⟨k,hk,hv,he⟩
   by_cases e1:k=0
   ·subst e1;rw [upd_same] at he;exact absurd he.symm hz
   ·rw [upd_ne _ _ e1] at he
    exact ⟨k,by omega,hv,he⟩
theorem PosMap.pop0 {c:Nat→It} {m:Int→Option Value} (h:PosMap 1 c m):PosMap 0 c (updK m (c 0).id none):=by
 intro z v;unfold updK
 constructor
 ·intro h'
  by_cases e:z=(c 0).id
  ·rw [if_pos e] at h';cases h'
  ·rw [if_neg e,h z v] at h'
   obtain ⟨k,hk,_,he⟩:=h'
   obtain rfl:k=0:=by omega
   exact absurd he.symm e
 ·rintro ⟨k,hk,_⟩;omega
theorem Holds.pop0 {c:Nat→It} {hp:Int→Option C} (h:Holds 1 c hp):Holds 0 c (hset hp (c 0).id none):=by
 intro z d;unfold hset
 constructor
 ·intro h'
  by_cases e:z=(c 0).id
  ·rw [if_pos e] at h';cases h'
  ·rw [if_neg e] at h'
   obtain ⟨k,hk,he⟩:=(h z d).1 h'
   obtain rfl:k=0:=by omega
   rw [he] at e;exact absurd rfl e
 ·rintro ⟨k,hk,_⟩;omega
theorem Holds.cc {n:Nat} {c:Nat→It} {hp:Int→Option C} (h:Holds n c hp) (hc:∀z d,hp z=some d→inCC d):∀k,k<n→inCC (c k).c:=
 fun k hk=>hc _ _ ((h (c k).id (c k).c).2 ⟨k,hk,rfl⟩)
theorem HeapOf.lt {w:World} {S:List Nat} {b n:Nat} {hp:Int→Option C} (h:HeapOf w S b n hp):∀k∈S,k<w.heap.size:=by
 obtain ⟨mb,m,N,c,sl,hb,hM,_,hR,_⟩:=h;have l1:=(Array.getElem?_eq_some_iff.1 hb).1;have l2:=hM.lt
 rcases hR with ⟨_,_,rfl⟩ | ⟨rb,cap,_,hI,_,_,rfl⟩
 ·intro k hk;simp at hk;rcases hk with rfl | rfl <;> assumption
 ·have l3:=hI.lt
  intro k hk;simp at hk;rcases hk with rfl | rfl | rfl <;> assumption
theorem HeapOf.self {w:World} {S:List Nat} {b n:Nat} {hp:Int→Option C} (h:HeapOf w S b n hp):b∈S:=by
 obtain ⟨mb,m,N,c,sl,hb,hM,_,hR,_⟩:=h
 rcases hR with ⟨_,_,rfl⟩ | ⟨rb,cap,_,hI,_,_,rfl⟩ <;> simp
theorem RowOk.kept {S T:List Nat} {w w':World} {b mb n:Nat} {sl:Value} {c:Nat→It} (h:RowOk w b mb sl n c S) (hk:Kept T w w') (hd:∀k∈S,k∉T):RowOk w' b mb sl n c S:=by
 rcases h with h | ⟨rb,cap,h1,h2,h3,h4,h5⟩
 ·exact .inl h
 ·exact .inr ⟨rb,cap,h1,h2.kept hk (hd rb (by rw [h5];simp)),h3,h4,h5⟩
theorem HeapOf.kept {S T:List Nat} {w w':World} {b n:Nat} {hp:Int→Option C} (h:HeapOf w S b n hp) (hk:Kept T w w') (hd:∀k∈S,k∉T):HeapOf w' S b n hp:=by
 have hl:=h.lt;have hs:=h.self;obtain ⟨mb,m,N,c,sl,h1,h2,h3,h4,h5⟩:=h
 have hm:mb∈S:=by rcases h4 with ⟨_,_,rfl⟩ | ⟨rb,cap,_,hI,_,_,rfl⟩ <;> simp
 exact ⟨mb,m,N,c,sl,(hk.block b (hl b hs) (hd b hs)).trans h1,h2.kept hk (hd mb hm),h3,h4.kept hk hd,h5⟩
theorem HeapOf.below {S:List Nat} {w w':World} {b n:Nat} {hp:Int→Option C} (h:HeapOf w S b n hp) (hb:Below w.heap.size w w'):HeapOf w' S b n hp:=h.kept (T:=[]) (.of_below hb) (by simp)
def HeapMade (w:World) (e:Ending) (w':World):Prop:=∃b S,e=.returned (.pointer (some ⟨b,0,none⟩))∧HeapOf w' S b 0 (fun _=>none)∧(∀k∈S,w.heap.size≤k)∧Below w.heap.size w w'
theorem heapNew (w:World):Calls Tryz.prog 145 #[] w (HeapMade w):=by
 have hmm:=@run_makeMap Tryz.prog;go_enter Tryz.func145,Tryz.ntmps145;go_wp2;go_ret
 have hM:MapAt (fun z:Int=>Value.int .i64 z) (w.alloc (.map #[] 0)) w.heap.size (fun _=>none) 0:=MapAt.made w
 refine ⟨w.heap.size+1,[w.heap.size+1,w.heap.size],rfl,⟨w.heap.size,fun _=>none,0,fun _=>⟨⟨0,0⟩,0⟩,.slice none 0 0,?_,hM.below ?_,by omega,.inl ⟨rfl,rfl,rfl⟩,?_,?_,?_,?_,?_⟩,?_,?_⟩
 ·have:=heap_alloc_new (w.alloc (.map #[] 0)) (.cells #[.slice none 0 0,.map (some w.heap.size)] 286 (0,0))
  simpa using this
 ·exact bel_alloc (Below.refl _ _)
 ·intro z v;constructor
  ·intro h;cases h
  ·rintro ⟨k,hk,_⟩;omega
 ·intro z v;constructor
  ·intro h;cases h
  ·rintro ⟨k,hk,_⟩;omega
 ·intro i j hi;omega
 ·intro j hj;omega
 ·intro z d h;cases h
 ·intro k hk;simp at hk;omega
 ·(repeat' (first | exact Below.refl _ _ | assumption | apply bel_drewN | apply bel_drew | apply bel_alloc | (refine bel_trans ?_ (by assumption))))
theorem int_zero (w:World):(zeroValue 3).run Tryz.prog w=.ok (.int .i64 0) w:=by kernel_rfl
theorem mapLook_in {w : World} {b N : Nat} {m : Int → Option Value} (h : MapAt (fun z : Int => Value.int .i64 z) w b m N) {z : Int} {v : Value} (hz : m z = some v) :
    (Instr.lookup 142 (.map (some b)) (.int .i64 z) true).run Tryz.prog w=.ok (.tuple #[v,.bool true]) w:=by
 have:=(h.look (int_fit Tryz.underlying3) Tryz.underlying142 (int_zero w) z).1;rw [hz] at this;exact this
theorem mapLook_out {w : World} {b N : Nat} {m : Int → Option Value} (h : MapAt (fun z : Int => Value.int .i64 z) w b m N) {z : Int} (hz : m z = none) :
    (Instr.lookup 142 (.map (some b)) (.int .i64 z) true).run Tryz.prog w=.ok (.tuple #[.int .i64 0,.bool false]) w:=by
 have:=(h.look (int_fit Tryz.underlying3) Tryz.underlying142 (int_zero w) z).1;rw [hz] at this;exact this
theorem PosMap.none {n:Nat} {c:Nat→It} {m:Int→Option Value} {hp:Int→Option C} (h:PosMap n c m) (hh:Holds n c hp) {z:Int} (hz:hp z=none):m z=none:=by
 cases hm:m z with
 | none=>rfl
 | some v=>
  obtain ⟨k,hk,_,he⟩:=(h z v).1 hm;have:=(hh (c k).id (c k).c).2 ⟨k,hk,rfl⟩;rw [he,hz] at this;cases this
theorem PosMap.some {n:Nat} {c:Nat→It} {m:Int→Option Value} {hp:Int→Option C} (h:PosMap n c m) (hh:Holds n c hp) {z:Int} {d:C} (hz:hp z=some d):∃k,k<n∧c k=⟨d,z⟩∧m z=Option.some (.int .i64 (k:Nat)):=by
 obtain ⟨k,hk,he⟩:=(hh z d).1 hz
 exact ⟨k,hk,he,(h z _).2 ⟨k,hk,rfl,by rw [he]⟩⟩
def HeapD (w:World) (S:List Nat) (b n:Nat) (hp:Int→Option C) (v:Value) (e:Ending) (w':World):Prop:=
 e=.returned v∧∃S',HeapOf w' S' b n hp∧(∀k∈S',k∈S∨w.heap.size≤k)∧Kept S w w'
theorem Filled.heapOf {w0 w : World} {b rb cap n mb : Nat} {c0 : Nat → It} {hp : Int → Option C} (h : Filled w0 w b rb cap n mb c0) (h1 : b ≠ rb) (h2 : b ≠ mb) (h3 : rb ≠ mb) (hh : Holds n c0 hp) (hc : ∀ z d, hp z = some d → inCC d) :
    HeapOf w [b,rb,mb] b n hp∧Kept [rb,mb] w0 w:=by
 obtain ⟨c,m,N,⟨f1,f2⟩,f3,f4,f5,f6,f7,f8⟩:=h;exact ⟨⟨mb,m,N,c,_,f1,f3,h2,.inr ⟨rb,cap,rfl,f2,h1,h3,rfl⟩,f6,Holds.same hh f7,f5,f4,hc⟩,f8⟩
theorem hset_cc {hp:Int→Option C} {i:Int} {c:C} (h:∀z d,hp z=some d→inCC d) (hc:inCC c):∀z d,hset hp i (some c) z=some d→inCC d:=by
 intro z d hz;unfold hset at hz
 by_cases e:z=i
 ·rw [if_pos e] at hz;injection hz with hz;rwa [←hz]
 ·rw [if_neg e] at hz;exact h z d hz
theorem item_zero:(Tryz.prog.info? 289).map (fun i=>(i.zero,i.size,i.bytes))=some (some (.agg #[.int .i64 0,.int .i64 0,.int .i64 0]),3,24):=by kernel_rfl
theorem RowOk.own {w:World} {b mb n:Nat} {sl:Value} {c:Nat→It} {S:List Nat} (h:RowOk w b mb sl n c S) (hb:b≠mb):sl.ownBlock≠some b∧sl.ownBlock≠some mb∧(∀k,sl.ownBlock=some k→k∈S)∧b∈S∧mb∈S:=by
 rcases h with ⟨rfl,rfl,rfl⟩ | ⟨rb,cap,rfl,hI,h1,h2,rfl⟩
 ·refine ⟨by simp [Value.ownBlock],by simp [Value.ownBlock],by simp [Value.ownBlock],by simp,by simp⟩
 ·refine ⟨?_,?_,?_,by simp,by simp⟩ <;> simp [Value.ownBlock]
  ·exact fun e=>h1 e.symm
  ·exact h2
theorem MapAt.grown {w w':World} {b N:Nat} {m:Int→Option Value} {row:Option Nat} (h:MapAt (fun z:Int=>Value.int .i64 z) w b m N) (hg:w.grownBy w' row) (hb:row≠some b):MapAt (fun z:Int=>Value.int .i64 z) w' b m N:=by
 have hl:=h.lt;obtain ⟨es,clk,h1,h2⟩:=h;exact ⟨es,clk,(hg.block b hl (Ne.symm hb)).trans h1,h2⟩
theorem Kept.grown {S:List Nat} {a w w':World} {row:Option Nat} (h:Kept S a w) (hg:w.grownBy w' row) (hr:∀k,row=some k→k∈S∨a.heap.size≤k):Kept S a w':=by
 refine ⟨hg.os.trans h.os,hg.tape.trans h.tape,hg.output.trans h.output,Nat.le_trans h.size hg.size,fun k hk hn=>?_⟩
 refine (hg.block k (Nat.lt_of_lt_of_le hk h.size) ?_).trans (h.block k hk hn);intro e
 rcases hr k e.symm with h' | h'
 ·exact hn h'
 ·omega
theorem push_lay {w W1 w1 : World} {S : List Nat} {b mb n N g cap : Nat} {c : Nat → It} {m : Int → Option Value} {sl : Value} {xs : List Value} {x : It}
    (hb:w.heap[b]? = some (.cells #[sl,.map (some mb)] 286 (0,0))) (hM:MapAt (fun z:Int=>Value.int .i64 z) w mb m N) (hne:b≠mb) (ag:sl.ownBlock≠some b) (am:sl.ownBlock≠some mb)
    (aS:∀k,sl.ownBlock=some k→k∈S) (ab:b∈S) (hW:Below w.heap.size w W1)
    (hown:w1.ownsRow 0 289 3 (.slice (some ⟨g,0,none⟩) (n+1) cap) (n+1) xs) (hl:Lies xs (n+1) (upd c n x)) (hg:W1.grownBy w1 sl.ownBlock) (hat:sl.ownBlock=some g∨w.heap.size≤g) :
    HeapIn (w1.setCell ⟨b,0,none⟩ (.slice (some ⟨g,0,none⟩) (n+1) cap)) b g cap (n+1) mb (upd c n x)∧MapAt (fun z:Int=>Value.int .i64 z) (w1.setCell ⟨b,0,none⟩ (.slice (some ⟨g,0,none⟩) (n+1) cap)) mb m N∧b≠g∧g≠mb ∧
     Kept S w (w1.setCell ⟨b,0,none⟩ (.slice (some ⟨g,0,none⟩) (n+1) cap))∧(g∈S∨w.heap.size≤g):=by
 have lb:=(Array.getElem?_eq_some_iff.1 hb).1;have lm:=hM.lt
 have bg:b≠g:=by
  rintro rfl
  rcases hat with h | h
  ·exact ag h
  ·omega
 have gm:g≠mb:=by
  rintro rfl
  rcases hat with h | h
  ·exact am h
  ·omega
 have hb1:w1.heap[b]? = some (.cells #[sl,.map (some mb)] 286 (0,0)):=(hg.block b (Nat.lt_of_lt_of_le lb hW.size) (Ne.symm ag)).trans ((hW.block b lb).trans hb);have hM1:=(hM.below hW).grown hg am;have hI:=ItemsIn.of_owns hown hl
 have hK1:Kept S w w1:=(Kept.of_below hW).grown hg (fun k e=>.inl (aS k e))
 have hK3:Kept [b] w1 (w1.setCell ⟨b,0,none⟩ (.slice (some ⟨g,0,none⟩) (n+1) cap)):=(Kept.refl _ _).setCell (.inl (by simp))
 refine ⟨⟨?_,hI.kept hK3 (by simpa using Ne.symm bg)⟩,hM1.kept hK3 (by simpa using Ne.symm hne),bg,gm,hK1.setCell (.inl ab),?_⟩
 ·rw [set_heapH _ _ _ _ _ _ hb1];rfl
 ·rcases hat with h | h
  ·exact .inl (aS g h)
  ·exact .inr h
theorem heapOf_end {w w3 w4 : World} {S : List Nat} {b n g cap mb : Nat} {c : Nat → It} {hp : Int → Option C} (hF : Filled w3 w4 b g cap n mb c) (h1 : b ≠ g) (h2 : b ≠ mb) (h3 : g ≠ mb) (hH : Holds n c hp) (hC : ∀ z d, hp z = some d → inCC d)
    (hK:Kept S w w3) (ab:b∈S) (amS:mb∈S) (hg:g∈S∨w.heap.size≤g) (t:Value):HeapD w S b n hp t (.returned t) w4:=by
 obtain ⟨q1,q2⟩:=hF.heapOf h1 h2 h3 hH hC;refine ⟨rfl,_,q1,?_,?_⟩
 ·intro k hk
  simp at hk
  rcases hk with rfl | rfl | rfl
  ·exact .inl ab
  ·exact hg
  ·exact .inl amS
 ·refine ⟨q2.os.trans hK.os,q2.tape.trans hK.tape,q2.output.trans hK.output,Nat.le_trans hK.size q2.size,fun k hk hn=>?_⟩
  refine (q2.block k (Nat.lt_of_lt_of_le hk hK.size) ?_).trans (hK.block k hk hn);simp
  constructor
  ·rintro rfl
   rcases hg with hg | hg
   ·exact hn hg
   ·omega
  ·rintro rfl;exact hn amS
theorem heapPush_new (w : World) (S : List Nat) (b n : Nat) (hp : Int → Option C) (id ds dd : Int) (h : HeapOf w S b n hp) (hz : hp id = none) (hc : inCC ⟨ds, dd⟩) (hn : n ≤ 1000000) :
    Calls Tryz.prog 197 #[.pointer (some ⟨b,0,none⟩),.int .i64 id,.agg #[.int .i64 ds,.int .i64 dd]] w (HeapD w S b (n+1) (hset hp id (some ⟨ds,dd⟩)) (.bool true)):=by
 have hSl:=h.lt;obtain ⟨mb,m,N,c,sl,hb,hM,hne,hR,hP,hH,hD,hL,hC⟩:=h;have lb:=(Array.getElem?_eq_some_iff.1 hb).1;have lm:=hM.lt;have hHp:=Lib.hid (Holds.push hH ⟨⟨ds,dd⟩,id⟩ hz);have hDp:=Lib.hid (Dst.push hD hH ⟨⟨ds,dd⟩,id⟩ hz);have hPp:=Lib.hid (hP.push ⟨⟨ds,dd⟩,id⟩);have hLp:=Lib.hid (heap_push (x:=⟨⟨ds,dd⟩,id⟩) hL);have hCp:=Lib.hid (hset_cc (i:=id) hC hc);obtain ⟨ag,am,aS,ab,amS⟩:=hR.own hne;have aS:=Lib.hid aS
 obtain ⟨xs,hown,hlies⟩:=hR.owns;have hl:=mapLook_out (hM.below (w':=w.alloc (.cells #[.int .i64 ds,.int .i64 dd] 44)) (bel_alloc (Below.refl _ _))) (hP.none hH hz);have hlies:=Lib.hid (hlies.push hown.1 ⟨⟨ds,dd⟩,id⟩);obtain ⟨i0,hi0,hz0,hz1,hz2⟩:=info_parts item_zero
 have k0:w.cell? ⟨b,0,none⟩=some sl:=by simp [World.cell?,hb]
 have k1:w.cell? ⟨b,1,none⟩=some (.map (some mb)):=by simp [World.cell?,hb]
 have kf:w.frozen? ⟨b,0,none⟩=false:=by simp [World.frozen?,hb]
 have Hb:=Lib.hid hb;have HM:=Lib.hid hM;clear hb hM hR hP hH hD hL hC hz;go_enter Tryz.func197,Tryz.ntmps197
 go_upto_region 1 with (fail)
 refine wp_name ?_;intro W hW
 have HW:Below w.heap.size w W:=by rw [hW];(repeat' (first | exact Below.refl _ _ | assumption | apply bel_drewN | apply bel_drew | apply bel_alloc | (refine bel_trans ?_ (by assumption))))
 have hW0:w.heap.size<W.heap.size:=by rw [hW];simp
 have d1:W.cell? ⟨w.heap.size,0,none⟩=some (.int .i64 ds):=by rw [hW];go_simp
 have d2:W.cell? ⟨w.heap.size,1,none⟩=some (.int .i64 dd):=by rw [hW];go_simp
 rw [←hW] at hl
 have hown1:W.ownsRow 0 289 3 sl n xs:=by rw [hW];exact hown.alloc _
 clear hW
 have an:sl.ownBlock≠some w.heap.size:=by
  intro e;have:=aS.out _ e;have:=hSl _ this;omega
 have w0:=(HW.cell (p:=⟨b,0,none⟩) lb).trans k0;have w1:=(HW.cell (p:=⟨b,1,none⟩) lb).trans k1;have wf:=(HW.frozen (p:=⟨b,0,none⟩) lb).trans kf
 have wfa:∀o,(W.alloc o).drew.frozen? ⟨b,0,none⟩=false:=fun o=>by
  have:=((bel_alloc (Below.refl _ W) (o:=o)).drew.frozen (p:=⟨b,0,none⟩) (by simp;omega)).trans wf
  exact this
 have wca:∀o,(W.alloc o).drew.cell? ⟨b,0,none⟩=some sl:=fun o=>by
  have:=((bel_alloc (Below.refl _ W) (o:=o)).drew.cell (p:=⟨b,0,none⟩) (by simp;omega)).trans w0
  exact this
 clear k0 k1 kf hown
 go_upto_region 3 with (fail)
 go_region_law
  ((refine step_append_lies _ (by rfl) _ _ _ (by rfl) 0 289 i0 _ 3 24 Tryz.underlying284 hi0 hz0 hz1 hz2 rfl (by omega) sl n xs (by rfl) ((hown1.alloc _).drew)
      ⟨W.heap.size,0,none⟩ 1 1 [.int .i64 ds,.int .i64 dd,.int .i64 id] (by rfl) (by rfl) (World.news_of_block (cs:=#[.int .i64 ds,.int .i64 dd,.int .i64 id]) (t:=289) (fr:=(0,0)) (heap_alloc_new W _)) (by simp [Value.oneCell'])
      (by omega) (by unfold maxLen;omega) (by omega) (by simp) (W.heap.size+1) (by simp) ?_;intro g cap w1 hown2 hgrow hat hlt;have u0:=(hgrow.cell_far ⟨b,0,none⟩ (by simp;omega) (Ne.symm ag)).trans (wca _);have u1:=(hgrow.frozen_far ⟨b,0,none⟩ (by simp;omega) (Ne.symm ag)).trans (wfa _)))
 all_goals
  obtain ⟨hI,hM3,bg,gm,hK,hgS⟩:=push_lay (x:=⟨⟨ds,dd⟩,id⟩) (S:=S) Hb.out HM.out hne ag am aS.out ab (bel_trans HW (bel_drew (bel_alloc (Below.refl _ _)))) hown2 hlies.out hgrow (hat.imp_right fun e=>by omega)
  clear hown2 hgrow hat hlt u0 u1
  generalize (w1.setCell ⟨b,0,none⟩ (.slice (some ⟨g,0,none⟩) (n+1) cap))=w3 at *
  have kb:=hI.1
  have x0:w3.cell? ⟨b,0,none⟩=some (.slice (some ⟨g,0,none⟩) (n+1) cap):=by simp [World.cell?,kb]
  have cU:=Lib.hid (heapUp w3 b g cap (n+1) mb N (upd c n ⟨⟨ds,dd⟩,id⟩) m n hI hM3 (by omega) bg hne gm (Holds.cc hHp.out hCp.out) hLp.out hDp.out (by rw [upd_same];exact hPp.out))
  clear kb hI hM3;go_wp2_with fail
  (with_reducible refine (cU.out).mono ?_)
  rintro e w4 ⟨rfl,hF⟩;have hE:=heapOf_end hF bg hne gm hHp.out hCp.out hK ab amS hgS (.bool true);clear hF hK;go_wp2;go_ret;exact hE
theorem ItemsIn.set2 {w : World} {b cap n : Nat} {c : Nat → It} (h : ItemsIn w b cap n c) {i : Nat} (hi : i < n) (x : It) (hx : x.id = (c i).id) :
    ItemsIn ((w.setCell ⟨b,i*3,none⟩ (.int .i64 x.c.s)).setCell ⟨b,i*3+1,none⟩ (.int .i64 x.c.d)) b cap n (upd c i x):=by
 obtain ⟨h1,h2,cur,h3,h4,h5⟩:=h
 refine ⟨h1,h2,_,set_heapH _ _ _ _ _ _ (set_heapH _ _ _ _ _ _ h3),by simp [h4],?_⟩
 intro k hk;obtain ⟨a1,a2,a3⟩:=h5 k hk
 by_cases e:k=i
 ·subst e
  simp only [Array.getElem?_setIfInBounds,Array.size_setIfInBounds,upd];simp [a3,hx];omega
 ·simp only [Array.getElem?_setIfInBounds,upd,if_neg e]
  rw [if_neg (by omega),if_neg (by omega),if_neg (by omega),if_neg (by omega),if_neg (by omega),if_neg (by omega)]
  exact ⟨a1,a2,a3⟩
theorem heapPush_old (w : World) (S : List Nat) (b n : Nat) (hp : Int → Option C) (id ds dd es ed : Int) (t : Bool) (h : HeapOf w S b n hp) (hz : hp id = some ⟨es, ed⟩) (hc : inCC ⟨ds, dd⟩) (ht : decide (C.cmp ⟨ds, dd⟩ ⟨es, ed⟩ < 0) = t) :
    Calls Tryz.prog 197 #[.pointer (some ⟨b,0,none⟩),.int .i64 id,.agg #[.int .i64 ds,.int .i64 dd]] w (HeapD w S b n (if t=true then hset hp id (some ⟨ds,dd⟩) else hp) (.bool t)):=by
 have h0:=h;have H0:=Lib.hid h0;obtain ⟨mb,m,N,c,sl,hb,hM,hne,hR,hP,hH,hD,hL,hC⟩:=h;have lb:=(Array.getElem?_eq_some_iff.1 hb).1;have lm:=hM.lt;obtain ⟨k,hk,hck,hmk⟩:=hP.some hH hz;have hl:=mapLook_in (hM.below (w':=w.alloc (.cells #[.int .i64 ds,.int .i64 dd] 44)) (bel_alloc (Below.refl _ _))) hmk;obtain ⟨ag,am,aS,ab,amS⟩:=hR.own hne
 rcases hR with ⟨_,hn0,_⟩ | ⟨rb,cap,rfl,hI,hbr,hrm,hS⟩
 ·omega
 have lr:=hI.lt;have hcap:=hI.1
 have hrS:rb∈S:=by rw [hS];simp
 have hCe:=hC _ _ hz
 have hHp:=Lib.hid (Holds.turn hH hD hk ⟨⟨ds,dd⟩,id⟩ (by rw [hck]))
 have hDp:=Lib.hid (Dst.turn hD hk ⟨⟨ds,dd⟩,id⟩ (by rw [hck]))
 have hPp:=Lib.hid (hP.turn hk ⟨⟨ds,dd⟩,id⟩ (by rw [hck]))
 have hCp:=Lib.hid (hset_cc (i:=id) hC hc)
 have hLp:t=true→HeapUp n (upd c k ⟨⟨ds,dd⟩,id⟩) k:=by
  intro e;refine heap_less hk hL (It.le_of_lt ?_);rw [hck];rw [e] at ht;exact .inl (C.cmp_neg.1 (of_decide_eq_true ht))
 have hLp:=Lib.hid hLp
 have hck':=Lib.hid (show (⟨⟨ds,dd⟩,id⟩:It).id=(c k).id by rw [hck])
 obtain ⟨c1,c2,c3⟩:=hI.cells hk;rw [hck] at c1 c2 c3;simp only at c1 c2 c3
 have k0:w.cell? ⟨b,0,none⟩=some (.slice (some ⟨rb,0,none⟩) n cap):=by simp [World.cell?,hb]
 have k1:w.cell? ⟨b,1,none⟩=some (.map (some mb)):=by simp [World.cell?,hb]
 have cL:=costLess ds dd es ed;rw [ht] at cL
 have cL:=Lib.hid (fun w=>cL w hc.1 hc.2 hCe.1 hCe.2)
 have Hb:=Lib.hid hb;have HM:=Lib.hid hM;have HI:=Lib.hid hI;clear hb hM hP hH hD hL hC hz hck hmk ht hI hS hCe aS c3 h0;go_enter Tryz.func197,Tryz.ntmps197
 go_upto_region 1 with (fail)
 refine wp_name ?_;intro W hW
 have HW:Below w.heap.size w W:=by rw [hW];(repeat' (first | exact Below.refl _ _ | assumption | apply bel_drewN | apply bel_drew | apply bel_alloc | (refine bel_trans ?_ (by assumption))))
 have hW0:w.heap.size<W.heap.size:=by rw [hW];simp
 have d1:W.cell? ⟨w.heap.size,0,none⟩=some (.int .i64 ds):=by rw [hW];go_simp
 have d2:W.cell? ⟨w.heap.size,1,none⟩=some (.int .i64 dd):=by rw [hW];go_simp
 rw [←hW] at hl;clear hW;have w0:=(HW.cell (p:=⟨b,0,none⟩) lb).trans k0;have w1:=(HW.cell (p:=⟨b,1,none⟩) lb).trans k1;have e1:=(HW.cell (p:=⟨rb,k*3,none⟩) lr).trans c1;have e2:=(HW.cell (p:=⟨rb,k*3+1,none⟩) lr).trans c2;clear k0 k1 c1 c2;have d1q:=cell_regrown d1;have d2q:=cell_regrown d2;have w0q:=cell_regrown w0;have e1q:=cell_regrown e1;have e2q:=cell_regrown e2;have HB:=Below.refl W.heap.size W
 go_upto_region 6 with (fail)
 refine wp_region_quiet_below (by kernel_rfl) (by kernel_rfl) ?_
 repeat (first | go_big_quiet_step (with_reducible exact Calls.regrown_of (cL.out _)) | quiet_step (with_reducible exact Calls.regrown_of (cL.out _)))
 refine wpQuiet_nil ?_;intro _ hw';obtain ⟨⟨dq,osq⟩,hw''⟩:=hw';have HB2:=bel_trans HB (below_regrown W dq osq);have hb2:=below_regrown W dq osq;subst hw''
 generalize grow (redrawn W dq) osq=w2 at HB2 hb2 ⊢
 have HW2:=bel_trans HW HB2
 have d1:=(HB2.cell (by exact hW0)).trans d1
 have d2:=(HB2.cell (by exact hW0)).trans d2
 have w0:=(HW2.cell (p:=⟨b,0,none⟩) lb).trans (by simp [World.cell?,Hb.out]:w.cell? ⟨b,0,none⟩=some (.slice (some ⟨rb,0,none⟩) n cap))
 clear d1q d2q w0q e1q e2q e1 e2 w1 hl hb2
 cases t with
 | false=>
  go_wp2;go_ret
  exact ⟨rfl,S,H0.out.below HW2,fun k hk=>.inl hk,.of_below HW2⟩
 | true=>
  have hI2:=HI.out.below HW2;have hM2:=HM.out.below HW2;have hb2:=(HW2.block b lb).trans Hb.out;have kf0:=hI2.frozen (k*3);have kf1:=hI2.frozen (k*3+1);obtain ⟨c1,c2,c3⟩:=hI2.cells hk;clear c3;go_wp2_with fail
  go_still_tail 8,(by kernel_rfl)
  change wpList _ _ _ _ _ w2.drew
  have HW3:Below w.heap.size w w2.drew:=bel_drew HW2;clear hI2 hM2 hb2 kf0 kf1 c1 c2 d1 d2 w0 HB2
  generalize w2.drew=w3 at *
  have hI3:=HI.out.below HW3;have hM3:=HM.out.below HW3;have hb3:=(HW3.block b lb).trans Hb.out;have kf0:=hI3.frozen (k*3);have kf1:=hI3.frozen (k*3+1);obtain ⟨c1,c2,c3⟩:=hI3.cells hk;clear c3;have hI4:=hI3.set2 hk ⟨⟨ds,dd⟩,id⟩ hck'.out
  have hK4:Kept [rb] w3 ((w3.setCell ⟨rb,k*3,none⟩ (.int .i64 ds)).setCell ⟨rb,k*3+1,none⟩ (.int .i64 dd)):=(((Kept.refl _ _).setCell (.inl (by simp))).setCell (.inl (by simp)))
  have hK5:Kept S w ((w3.setCell ⟨rb,k*3,none⟩ (.int .i64 ds)).setCell ⟨rb,k*3+1,none⟩ (.int .i64 dd)):=((Kept.of_below HW3).setCell (.inl hrS)).setCell (.inl hrS)
  have hM4:=hM3.kept hK4 (by simpa using Ne.symm hrm)
  have hb4:=(hK4.block b (by have:=HW3.size;omega) (by simpa using hbr)).trans hb3
  have H4:=Lib.hid (show HeapIn _ b rb cap n mb (upd c k ⟨⟨ds,dd⟩,id⟩)∧MapAt (fun z:Int=>Value.int .i64 z) _ mb m N∧Kept S w _ from ⟨⟨hb4,hI4⟩,hM4,hK5⟩)
  clear hI3 hM3 hb3 hI4 hK4 hM4 hb4 hK5;go_wp2_with fail
  generalize ((w3.setCell ⟨rb,k*3,none⟩ (.int .i64 ds)).setCell ⟨rb,k*3+1,none⟩ (.int .i64 dd))=w4 at *
  have cU:=Lib.hid (heapUp w4 b rb cap n mb N (upd c k ⟨⟨ds,dd⟩,id⟩) m k H4.out.1 H4.out.2.1 hk hbr hne hrm (Holds.cc hHp.out hCp.out) (hLp.out (by simp)) hDp.out (by rw [upd_same];exact hPp.out))
  have hK:=H4.out.2.2;clear H4
  (with_reducible refine (cU.out).mono ?_)
  rintro e w5 ⟨rfl,hF⟩;have hE:=heapOf_end hF hbr hne hrm hHp.out hCp.out hK ab amS (.inl hrS) (.bool true);clear hF hK;go_wp2;go_ret;exact hE
end Go.Proofs.YtokhnobcincfjaaGreatDoor
