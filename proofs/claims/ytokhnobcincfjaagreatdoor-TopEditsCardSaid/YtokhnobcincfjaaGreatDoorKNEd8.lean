/- Lemmas of this claim: Maps, MapPair, Heap, Heap2, Heap3, Heap4, Heap5, Heap6, Heap7. -/
import Derived.Test.YtokhnobcincfjaaGreatDoorKNEd6
import Derived.StillTailTactics
import Derived.Deep.AppendLies
import Derived.Deep.RegionHeld3
set_option linter.unusedVariables false
set_option linter.unusedSimpArgs false
set_option maxHeartbeats 3200000
set_option maxRecDepth 100000
namespace Go.Proofs.YtokhnobcincfjaaGreatDoor
open Go.Lib (hid)
open Go.RowKit Go.Sort
structure jP (P:Program) (kt:TypeId) {K:Type} (kf:K->Value):Prop where
 inj:∀a b,kf a=kf b->a=b
 check:∀(em:Bool)(k:K)(w:World),(Instr.checkKey em 10000 kt (kf k)).run P w=.ok () w
 find:∀(es:List MapEntry)(k:K)(w:World),(∀e∈es,∃j,e.key=kf j)->
  ((Instr.findKey kt (kf k) es).run P w=.ok none w/\∀e∈es,e.key≠kf k)\/∃i e,(Instr.findKey kt (kf k) es).run P w=.ok (some (i,e.val)) w/\es[i]? =some e/\e.key=kf k
 stays:∀(k:K)(w:World),(Instr.keyThatStays (kf k) (kf k)).run P w=.ok (kf k) w
theorem aG{P:Program}{kt:TypeId}(B:P.underlying kt=some (.int .i64)):jP P kt (λz:Int=>Value.int .i64 z) where
 inj:=λa b h=>by injection h
 check:=λI k w=>MapKept.run_checkKey B (by simp[MapKept.IsKey]) I 9999
 find:=λF k w h=>by
  have L:∀x∈F,MapKept.IsKey (.int .i64) x.key:=λx M=>by
   obtain⟨j,e⟩:=h x M;rw[e];simp[MapKept.IsKey]
  rcases MapKept.findNow_spec (d:=.int .i64) (k:=.int .i64 k) (by simp[MapKept.IsKey]) F 0 L with⟨g,u⟩|⟨j,e,g,u,J⟩
  .exact .inl ⟨MapKept.run_findKey B g,u⟩
  .exact .inr ⟨j,e,by rw[MapKept.run_findKey B g];simp,u,J⟩
 stays:=λk w=>by simp[Instr.keyThatStays,Instr.sameBits]
def MapAt{K:Type}(kf:K->Value)(w:World)(b:Nat)(m:K->Option Value)(n:Nat):Prop:=
 ∃es clk,w.heap[b]? =some (.map es clk)/\MapKept.Stamped es clk/\es.size=n/\(∀e∈es.toList,∃k,e.key=kf k/\m k=some e.val)/\(∀k v,m k=some v->∃e∈es.toList,e.key=kf k/\e.val=v)
def aL{K:Type}[DecidableEq K](m:K->Option Value)(k:K)(v:Option Value):K->Option Value:=λj=>if j=k then v else m j
section
variable {Q:Exit->Act->World->Prop}
variable {P:Program} {kt et mt:TypeId} {K:Type} {kf:K->Value} {w:World} {b n:Nat} {m:K->Option Value}
theorem MapAt.lt(h:MapAt kf w b m n):b<w.heap.size:=by
 obtain⟨u,g,k,_⟩:=h;exact(Array.getElem?_eq_some_iff.1 k).1
theorem MapAt.kept{S:List Nat}{w':World}(h:MapAt kf w b m n)(F:Kept S w w')(B:b∉S):MapAt kf w' b m n:=by
 have I:=h.lt;obtain⟨k,g,u,z⟩:=h;exact⟨k,g,(F.block b I B).trans u,z⟩
theorem MapAt.below{w':World}(h:MapAt kf w b m n)(g:Below w.heap.size w w'):MapAt kf w' b m n:=h.kept (S:=[]) (.of_below g) (by simp)
theorem MapAt.made(w:World):MapAt kf (w.alloc (.map #[] 0)) w.heap.size (λ_=>none) 0:=
 ⟨#[],0,by rw[heap_alloc_new],MapKept.stamped_empty 0,rfl,by simp,by simp⟩
theorem MapAt.look(F:jP P kt kf)(T:P.underlying mt=some (.map kt et))(h:MapAt kf w b m n){z:Value}(U:(zeroValue et).run P w=.ok z w)(k:K):(Instr.lookup mt (.map (some b)) (kf k) true).run P w=.ok (.tuple #[(m k).getD z,.bool (m k).isSome]) w/\(Instr.lookup mt (.map (some b)) (kf k) false).run P w=.ok ((m k).getD z) w:=by
 obtain⟨B,Q,S,hS,hn,R,h2⟩:=h;have L:∀e∈B.toList,∃j,e.key=kf j:=λe g=>let ⟨k,a,_⟩:=R e g;⟨k,a⟩
 rcases F.find B.toList k w L with⟨J,O⟩|⟨i,e,J,hi,g⟩
 .have hm:m k=none:=by
   cases M:m k with
   |none=>rfl
   |some v=>
    obtain⟨e,g,I,_⟩:=h2 k v M;exact absurd I (O e g)
  rw[hm];simp[Instr.lookup,run_underlying T,MapKept.run_getObj_map S,F.check,J,U,Result.andThen]
 .have u:e∈B.toList:=List.mem_of_getElem? hi
  obtain⟨k',a,Z⟩:=R e u;obtain rfl:k=k':=F.inj _ _ (g.symm.trans a);rw[Z];simp[Instr.lookup,run_underlying T,MapKept.run_getObj_map S,F.check,J,U,Result.andThen]
theorem uj{g:Array MapEntry}{u:Nat}(I:MapKept.Stamped g u){i j:Nat}{x y:MapEntry}(J:g.toList[i]? =some x)(L:g.toList[j]? =some y)(M:x.key=y.key):i=j:=by
 have F:=I.2.2;have k:(g.toList.map (·.key))[i]? =some x.key:=by simp only[List.getElem?_map,J,Option.map_some]
 have B:(g.toList.map (·.key))[j]? =some x.key:=by simp only[List.getElem?_map,L,Option.map_some,M]
 have z:i<(g.toList.map (·.key)).length:=(List.getElem?_eq_some_iff.1 k).1;exact(List.getElem?_inj z F).1 (k.trans B.symm)
theorem MapAt.len(z:P.underlying mt=some (.map kt et))(h:MapAt kf w b m n)(B:TypeId):(Builtin.len_ #[mt] B #[.map (some b)]).run P w=.ok (.int .i64 n) w:=by
 obtain⟨F,g,k,L,u,I,J⟩:=h;subst u;simp[Builtin.len_,Builtin.lenOf,run_underlying z,MapKept.run_getObj_map k,Result.andThen];rfl
variable [DecidableEq K]
def dH(w:World)(b:Nat)(es:Array MapEntry)(clk:Nat):World:={w with heap:=w.heap.setIfInBounds b (.map es clk)}
theorem dE(w:World)(b:Nat)(z:Array MapEntry)(g:Nat):Kept [b] w (dH w b z g):=
 ⟨rfl,rfl,rfl,by simp[dH],λk _ u=>by simp only[List.mem_singleton]at u;simp[dH,Ne.symm u]⟩
theorem dY{w:World}{b:Nat}(u:b<w.heap.size)(k:Array MapEntry)(g:Nat):(dH w b k g).heap[b]? =some (.map k g):=by simp[dH,u]
theorem MapAt.store(F:jP P kt kf)(ht:P.underlying mt=some (.map kt et))(h:MapAt kf w b m n)(k:K)(v:Value):∃w',(Instr.mapUpdate mt (.map (some b)) (kf k) v).run P w=.ok () w'/\MapAt kf w' b (aL m k (some v)) (if(m k).isSome then n else n+1)/\Kept [b] w w':=by
 have Q:=h.lt;obtain⟨I,L,hb,hS,hn,h1,h2⟩:=h;have ad:∀e∈I.toList,∃j,e.key=kf j:=λe J=>let ⟨k,a,_⟩:=h1 e J;⟨k,a⟩
 rcases F.find I.toList k w ad with⟨hf,O⟩|⟨i,e,hf,R,J⟩
 .have hm:m k=none:=by
   cases ag:m k with
   |none=>rfl
   |some v=>
    obtain⟨e,J,ac,_⟩:=h2 k v ag;exact absurd ac (O e J)
  refine⟨dH w b (I.push {key:=kf k,val:=v,born:=L}) (L+1),?_,⟨_,_,dY Q _ _,MapKept.stamped_push hS O,by simp[hm,hn],?_,?_⟩,dE _ _ _ _⟩
  .simp[Instr.mapUpdate,run_underlying ht,MapKept.run_getObj_map hb,F.check,hf,MapKept.run_setObj_map _ hb,Result.andThen,dH]
  .intro x z
   simp only[Array.toList_push,List.mem_append,List.mem_singleton]at z;rcases z with z|rfl
   .obtain⟨j,a,S⟩:=h1 x z
    refine⟨j,a,?_⟩;unfold aL;rw[if_neg,S];rintro rfl;exact O x z a
   .exact⟨k,rfl,by unfold aL;rw[if_pos rfl]⟩
  .intro j u g
   simp only[Array.toList_push,List.mem_append,List.mem_singleton];unfold aL at g;by_cases e:j=k
   .subst e
    rw[if_pos rfl]at g;injection g with g
    exact⟨_,.inr rfl,rfl,g⟩
   .rw[if_neg e]at g
    obtain⟨x,z,a,S⟩:=h2 j u g;exact⟨x,.inl z,a,S⟩
 .have ab:e∈I.toList:=List.mem_of_getElem? R
  obtain⟨k',a,S⟩:=h1 e ab;obtain rfl:k=k':=F.inj _ _ (J.symm.trans a);have U:I[i]? =some e:=by rw[<-Array.getElem?_toList];exact R
  have B:∀j,(I.modify i λe=>{e with key:=kf k,val:=v}).toList[j]? =if i=j then(I.toList[j]?).map (λe=>{e with key:=kf k,val:=v})else I.toList[j]?:=by
   intro j;simp only[Array.getElem?_toList,Array.getElem?_modify]
  refine⟨dH w b (I.modify i λe=>{e with key:=kf k,val:=v}) L,?_,⟨_,_,dY Q _ _,MapKept.stamped_modify hS i _ (λ_ _=>rfl) (λx _ z=>?_),by simp[S,hn],?_,?_⟩,dE _ _ _ _⟩
  .simp[Instr.mapUpdate,run_underlying ht,MapKept.run_getObj_map hb,F.check,hf,U,J,F.stays,MapKept.run_setObj_map _ hb,Result.andThen,dH]
  .rw[U]at z;injection z with z;subst z;exact J.symm
  .intro x z
   obtain⟨j,g⟩:=List.getElem?_of_mem z;rw[B]at g;by_cases M:i=j
   .subst M
    rw[if_pos rfl,R]at g;simp at g;subst g;exact⟨k,rfl,by unfold aL;rw[if_pos rfl]⟩
   .rw[if_neg M]at g
    obtain⟨k2,T,c2⟩:=h1 x (List.mem_of_getElem? g);refine⟨k2,T,?_⟩;unfold aL;rw[if_neg,c2];rintro rfl;exact M (uj hS R g (J.trans T.symm))
  .intro j u g
   unfold aL at g;by_cases M:j=k
   .subst M
    rw[if_pos rfl]at g;injection g with g
    refine⟨{e with key:=kf j,val:=v},List.mem_of_getElem? (i:=i) ?_,rfl,g⟩;rw[B,if_pos rfl,R];rfl
   .rw[if_neg M]at g
    obtain⟨x,z,T,c2⟩:=h2 j u g;obtain⟨l,Z⟩:=List.getElem?_of_mem z;refine⟨x,List.mem_of_getElem? (i:=l) ?_,T,c2⟩;rw[B,if_neg,Z];rintro rfl;rw[R]at Z;injection Z with Z
    subst Z;exact M (F.inj _ _ (T.symm.trans J))
theorem MapAt.drop(F:jP P kt kf)(ht:P.underlying mt=some (.map kt et))(h:MapAt kf w b m n)(k:K)(ty:TypeId):∃w',(Builtin.delete_ #[mt,kt] ty #[.map (some b),kf k]).run P w=.ok (.tuple #[]) w'/\MapAt kf w' b (aL m k none) (if(m k).isSome then n-1 else n)/\Kept [b] w w':=by
 have R:=h.lt;obtain⟨g,L,Z,hS,hn,U,h2⟩:=h;have ac:∀e∈g.toList,∃j,e.key=kf j:=λe B=>let ⟨k,a,_⟩:=U e B;⟨k,a⟩
 rcases F.find g.toList k w ac with⟨hf,ai⟩|⟨i,e,hf,Q,B⟩
 .have hm:m k=none:=by
   cases ad:m k with
   |none=>rfl
   |some v=>
    obtain⟨e,B,ab,_⟩:=h2 k v ad;exact absurd ab (ai e B)
  have T:aL m k none=m:=by
   funext j;unfold aL;split
   .rename_i e;rw[e,hm]
   .rfl
  refine⟨dH w b g L,?_,⟨_,_,dY R _ _,hS,by simp[hm,hn],by rw[T];exact U,by rw[T];exact h2⟩,dE _ _ _ _⟩;simp[Builtin.delete_,run_underlying ht,MapKept.run_getObj_map Z,F.check,hf,MapKept.run_setObj_map _ Z,Result.andThen,dH]
 .have S:e∈g.toList:=List.mem_of_getElem? Q
  obtain⟨k',a,a2⟩:=U e S;obtain rfl:k=k':=F.inj _ _ (B.symm.trans a);have M:i<g.size:=by simpa using(List.getElem?_eq_some_iff.1 Q).1
  have I:(g.eraseIdxIfInBounds i).toList=g.toList.eraseIdx i:=by
   unfold Array.eraseIdxIfInBounds;rw[dif_pos M,Array.toList_eraseIdx]
  refine⟨dH w b (g.eraseIdxIfInBounds i) L,?_,⟨_,_,dY R _ _,MapKept.stamped_erase hS i,?_,?_,?_⟩,dE _ _ _ _⟩
  .simp[Builtin.delete_,run_underlying ht,MapKept.run_getObj_map Z,F.check,hf,MapKept.run_setObj_map _ Z,Result.andThen,dH]
  .rw[a2,<-Array.length_toList,I,List.length_eraseIdx,Array.length_toList,if_pos M,hn];rfl
  .intro x hx
   rw[I]at hx;obtain⟨j,ag,z⟩:=List.mem_eraseIdx_iff_getElem?.1 hx;obtain⟨k2,J,c2⟩:=U x (List.mem_of_getElem? z);refine⟨k2,J,?_⟩;unfold aL;rw[if_neg,c2];rintro rfl;exact ag (uj hS z Q (J.trans B.symm))
  .intro j u z
   unfold aL at z;by_cases e1:j=k
   .rw[if_pos e1]at z;cases z
   .rw[if_neg e1]at z
    obtain⟨x,hx,J,c2⟩:=h2 j u z;obtain⟨l,O⟩:=List.getElem?_of_mem hx;refine⟨x,?_,J,c2⟩;rw[I];refine List.mem_eraseIdx_iff_getElem?.2 ⟨l,?_,O⟩;rintro rfl;rw[Q]at O;injection O with O
    subst O;exact e1 (F.inj _ _ (J.symm.trans B))
theorem dJ{z:Array Oper}{g:List Oper}{o:Oper}{a:Act}(S:o.guard=none)(M L O:Operand)(J:o.op=Op.mapUpdate mt M L O)(F:jP P kt kf)(Z:P.underlying mt=some (.map kt et))(h:MapAt kf w b m n)(U:a.eval M=.map (some b))(k:K)(T:a.eval L=kf k)(v:Value)(hv:a.eval O=v)(R:∀B,MapAt kf B b (aL m k (some v)) (if(m k).isSome then n else n+1)->Kept [b] w B->wpList P z Q g (a.put o.dst undef) B):wpList P z Q (o::g) a w:=by
 refine wpList_plain S λK' I=>?_;obtain⟨B,u,r1,r2⟩:=h.store F Z k v;unfold Oper.wp;simp[execOp,J,U,T,hv,u,Result.andThen];exact I _ _ (R B r1 r2)
theorem qZ{z:Array Oper}{g:List Oper}{o:Oper}{a:Act}(R:o.guard=none)(M L:Operand)(J:o.op=Op.call {callee:=Callee.builtin Builtin.delete,args:=#[M,L],argTypes:=#[mt,kt]})(F:jP P kt kf)(U:P.underlying mt=some (.map kt et))(h:MapAt kf w b m n)(T:a.eval M=.map (some b))(k:K)(S:a.eval L=kf k)(O:∀B,MapAt kf B b (aL m k none) (if(m k).isSome then n-1 else n)->Kept [b] w B->wpList P z Q g (a.put o.dst (.tuple #[])) B):wpList P z Q (o::g) a w:=by
 refine wpList_plain R λK' I=>?_;obtain⟨B,u,Z,r2⟩:=h.drop F U k o.type;unfold Oper.wp;simp[execOp,J,resolve,invoke,builtin,T,S,u,Result.andThen];exact I _ _ (O B Z r2)
end
variable {S:Int×Int->Prop}{b:Nat}{w:World}
def kP(p:Int×Int):Value:=.agg #[.int .i64 p.1,.int .i64 p.2]
theorem Ev(a b c d:Int)(w:World):(Op.equal 239 (.agg #[.int .i64 a,.int .i64 b]) (.agg #[.int .i64 c,.int .i64 d])).run Tryz.prog w=.ok (a==c&&b==d) w:=by
 have z:∀(x y:Int)(g:World),(Op.equalIn (9998+1) 3 (.int .i64 x) (.int .i64 y)).run Tryz.prog g=.ok (x==y) g:=λx y g=>by unfold Op.equalIn;go_simp
 show(Op.equalIn (9998+1+1) 239 (.agg #[.int .i64 a,.int .i64 b]) (.agg #[.int .i64 c,.int .i64 d])).run Tryz.prog w=.ok (a==c&&b==d) w;unfold Op.equalIn;go_simp;simp only[List.range',List.forIn_cons,List.forIn_nil,Nat.zero_mul,Nat.one_mul];cases k:(a==c)<;>cases u:(b==d)<;>go_simp
theorem Eu(g:Bool)(a b:Int)(w:World):(Instr.checkKey g 10000 239 (.agg #[.int .i64 a,.int .i64 b])).run Tryz.prog w=.ok () w:=by
 show(Instr.checkKey g (9998+1+1) 239 (.agg #[.int .i64 a,.int .i64 b])).run Tryz.prog w=.ok () w;have u:∀(x:Int)(k:World),(Instr.checkKey g (9998+1) 3 (.int .i64 x)).run Tryz.prog k=.ok () k:=λx k=>by unfold Instr.checkKey;go_simp
 unfold Instr.checkKey;go_simp;simp only[List.range',List.forIn_cons,List.forIn_nil,Nat.zero_mul,Nat.one_mul];go_simp
theorem Ew(a b:Int)(w:World):(Instr.keyThatStays (.agg #[.int .i64 a,.int .i64 b]) (.agg #[.int .i64 a,.int .i64 b])).run Tryz.prog w=.ok (.agg #[.int .i64 a,.int .i64 b]) w:=by
 have g:Instr.sameBits 10000 (.agg #[.int .i64 a,.int .i64 b]) (.agg #[.int .i64 a,.int .i64 b])=true:=by
  show Instr.sameBits (9998+1+1) (.agg #[.int .i64 a,.int .i64 b]) (.agg #[.int .i64 a,.int .i64 b])=true;simp[Instr.sameBits]
 simp[Instr.keyThatStays,g]
theorem rQ(p q:Int×Int)(h:kP p=kP q):p=q:=by
 obtain⟨a,b⟩:=p;obtain⟨c,d⟩:=q;simp[kP]at h;exact Prod.ext h.1 h.2
theorem Pf(p q:Int×Int)(w:World):(Op.equal 239 (kP p) (kP q)).run Tryz.prog w=.ok (decide (p=q)) w:=by
 rw[kP,kP,Ev];congr 1;obtain⟨a,b⟩:=p;obtain⟨c,d⟩:=q;simp[Prod.ext_iff,Bool.decide_and];rfl
theorem Ch(k:Int×Int)(w:World):∀(u:List MapEntry)(i:Nat),(∀e∈u,∃j,e.key=kP j)->
 ((Instr.findAsking 239 (kP k) u i).run Tryz.prog w=.ok none w/\∀e∈u,e.key≠kP k)\/∃j e,(Instr.findAsking 239 (kP k) u i).run Tryz.prog w=.ok (some (i+j,e.val)) w/\u[j]? =some e/\e.key=kP k
 |[],i,_=>.inl ⟨by simp[Instr.findAsking],by simp⟩
 |e::u,i,h=>by
  obtain⟨j,J⟩:=h e (by simp);have g:=Pf k j w;rw[<-J]at g;by_cases B:k=j
  .rw[decide_eq_true B]at g
   exact .inr ⟨0,e,by simp[Instr.findAsking,g],rfl,by rw[J,B]⟩
  .rw[decide_eq_false B]at g
   rcases Ch k w u (i+1) (λx z=>h x (by simp[z]))with⟨F,I⟩|⟨M,O,F,I,P⟩
   .refine .inl ⟨by simp[Instr.findAsking,g,F],λx z=>?_⟩
    rcases List.mem_cons.1 z with rfl|z
    .intro L;rw[J]at L;exact B (rQ _ _ L).symm
    .exact I x z
   .exact .inr ⟨M+1,O,by simp[Instr.findAsking,g,F,Nat.add_assoc,Nat.add_comm 1 M],by simpa using I,P⟩
theorem jh:jP Tryz.prog 239 kP where
 inj:=rQ
 check:=λz k w=>Eu z k.1 k.2 w
 find:=λB k w h=>by
  rw[run_findKey_eq (P:=Tryz.prog) (k:=239) w (by kernel_rfl)];rcases Ch k w B 0 h with⟨g,u⟩|⟨j,e,g,u,F⟩
  .exact .inl ⟨g,u⟩
  .exact .inr ⟨j,e,by simpa using g,u,F⟩
 stays:=λk w=>Ew k.1 k.2 w
theorem rA(w:World):(zeroValue 4).run Tryz.prog w=.ok (.bool false) w:=by kernel_rfl
def dK(w:World)(b:Nat)(S:Int×Int->Prop):Prop:=∃m n,MapAt kP w b m n/\∀k,(m k=some (.bool true)/\S k)\/(m k=none/\¬S k)
theorem dK.lt(h:dK w b S):b<w.heap.size:=by
 obtain⟨m,n,g,_⟩:=h;exact g.lt
theorem dK.kept{T:List Nat}{w w':World}(h:dK w b S)(z:Kept T w w')(u:b∉T):dK w' b S:=by
 obtain⟨m,n,g,k⟩:=h;exact⟨m,n,g.kept z u,k⟩
theorem dK.below{w w':World}(h:dK w b S)(g:Below w.heap.size w w'):dK w' b S:=h.kept (T:=[]) (.of_below g) (by simp)
theorem dK.iff{S g:Int×Int->Prop}(h:dK w b S)(u:∀k,S k↔g k):dK w b g:=by
 obtain⟨m,n,z,B⟩:=h;exact⟨m,n,z,λk=>(B k).imp (And.imp_right (u k).1) (And.imp_right λx y=>x ((u k).2 y))⟩
theorem dK.look(h:dK w b S)(i j:Int):∃t:Bool,(t=true↔S (i,j))/\∀g,Below w.heap.size w g->(Instr.lookup 234 (.map (some b)) (.agg #[.int .i64 i,.int .i64 j]) false).run Tryz.prog g=.ok (.bool t) g:=by
 obtain⟨m,n,u,z⟩:=h;rcases z (i,j)with⟨x,y⟩|⟨x,y⟩
 .refine⟨true,by simp[y],λg k=>?_⟩
  have:=((u.below k).look jh Tryz.underlying234 (rA g) (i,j)).2;rw[x]at this;exact this
 .refine⟨false,by simp[y],λg k=>?_⟩
  have:=((u.below k).look jh Tryz.underlying234 (rA g) (i,j)).2;rw[x]at this;exact this
theorem dK.put(h:dK w b S)(i j:Int):∃g,(Instr.mapUpdate 234 (.map (some b)) (.agg #[.int .i64 i,.int .i64 j]) (.bool true)).run Tryz.prog w=.ok () g/\dK g b (λk=>S k\/k=(i,j))/\Kept [b] w g:=by
 obtain⟨m,n,u,B⟩:=h;obtain⟨g,F,I,J⟩:=u.store jh Tryz.underlying234 (i,j) (.bool true);refine⟨g,F,⟨_,_,I,λk=>?_⟩,J⟩;unfold aL;by_cases e:k=(i,j)
 .rw[if_pos e];exact .inl ⟨rfl,.inr e⟩
 .rw[if_neg e]
  rcases B k with⟨x,y⟩|⟨x,y⟩
  .exact .inl ⟨x,.inl y⟩
  .exact .inr ⟨x,λz=>z.elim y e⟩
end Go.Proofs.YtokhnobcincfjaaGreatDoor
namespace Go.Proofs.YtokhnobcincfjaaGreatDoor
open Go.Lib (hid)
open Go.RowKit Go.Sort FR
variable {hp:Int->Option C}{m:Int->Option Value}{x:It}{S T:List Nat}{xs:List Value}{N b cap j k mb n rb:Nat}{c c0:Nat->It}{sl:Value}{a w w' w0:World}
instance (a b:It):Decidable (It.lt a b):=by unfold It.lt;infer_instance
def jA(c:C):Prop:=aV c.s/\aV c.d
theorem LF(a b:It)(k:Int)(g:C.cmp a.c b.c=k):It.lt a b↔k<0\/(k=0/\a.id<b.id):=by
 subst g;unfold It.lt;rw[C.fo,C.uM]
theorem mi(a b:It)(t:Bool)(ht:decide (It.lt a b)=t)(h1:jA a.c)(h2:jA b.c)(w:World):Calls Tryz.prog 238 #[.agg #[.int .i64 a.c.s,.int .i64 a.c.d,.int .i64 a.id],.agg #[.int .i64 b.c.s,.int .i64 b.c.d,.int .i64 b.id]] w λe g=>e=.returned (.bool t)/\Below w.heap.size w g:=by
 obtain⟨⟨I,J⟩,P⟩:=a;obtain⟨⟨L,M⟩,Q⟩:=b;obtain⟨k,R⟩:∃k,C.cmp ⟨I,J⟩ ⟨L,M⟩=k:=⟨_,rfl⟩;have B:=LF ⟨⟨I,J⟩,P⟩ ⟨⟨L,M⟩,Q⟩ k R;obtain⟨Z,S⟩:=h1;obtain⟨T,g4⟩:=h2;simp only at*;have O:=sP I J L M;rw[R]at O;have O:=hid (λw=>O w Z S T g4);have F:t=decide (k<0\/(k=0/\P<Q)):=by rw[<-ht];exact decide_eq_decide.2 B
 have Ht:=hid F;clear B ht F R Z S T g4;go_enter Tryz.func238,Tryz.ntmps238;go_upto_region 1 with(fail);refine au ?_;intro W z;have HW:Below w.heap.size w W:=by rw[z];(repeat' (first|exact Below.refl _ _|assumption|apply aj|apply ah|apply af|(refine aa ?_ (by assumption))))
 have k1:∀g,Below W.heap.size W g->g.cell? ⟨w.heap.size,0,none⟩=some (.int .i64 I:Value):=λg u=>(u.cell (p:=⟨w.heap.size,0,none⟩) (by rw[z];simp<;>omega)).trans (by rw[z];go_simp);have k2:∀g,Below W.heap.size W g->g.cell? ⟨w.heap.size,1,none⟩=some (.int .i64 J:Value):=λg u=>(u.cell (p:=⟨w.heap.size,1,none⟩) (by rw[z];simp<;>omega)).trans (by rw[z];go_simp);have k3:∀g,Below W.heap.size W g->g.cell? ⟨w.heap.size,2,none⟩=some (.int .i64 P:Value):=λg u=>(u.cell (p:=⟨w.heap.size,2,none⟩) (by rw[z];simp<;>omega)).trans (by rw[z];go_simp);have k4:∀g,Below W.heap.size W g->g.cell? ⟨w.heap.size+1,0,none⟩=some (.int .i64 L:Value):=λg u=>(u.cell (p:=⟨w.heap.size+1,0,none⟩) (by rw[z];simp<;>omega)).trans (by rw[z];go_simp);have k5:∀g,Below W.heap.size W g->g.cell? ⟨w.heap.size+1,1,none⟩=some (.int .i64 M:Value):=λg u=>(u.cell (p:=⟨w.heap.size+1,1,none⟩) (by rw[z];simp<;>omega)).trans (by rw[z];go_simp)
 have k6:∀g,Below W.heap.size W g->g.cell? ⟨w.heap.size+1,2,none⟩=some (.int .i64 Q:Value):=λg u=>(u.cell (p:=⟨w.heap.size+1,2,none⟩) (by rw[z];simp<;>omega)).trans (by rw[z];go_simp);clear z;have U:=Below.refl W.heap.size W;go_wp2_with fail;(with_reducible refine(O.out _).mono ?_);rintro e w1 ⟨rfl,U⟩;go_wp2
 all_goals
  go_ret;refine⟨Qt ?_,aa HW U⟩;rw[Ht.out];first
  |exact(decide_eq_true (by omega)).symm
  |exact(decide_eq_false (by omega)).symm
  |exact decide_eq_decide.2 (by omega)
def aR(w:World)(b cap n:Nat)(c:Nat->It):Prop:=
 n<=cap/\cap<=maxLen/\∃cur,w.heap[b]? =some (.cells cur 289 (0,0))/\cur.size=cap*3/\∀k,k<n->cur[k*3]? =some (.int .i64 (c k).c.s)/\cur[k*3+1]? =some (.int .i64 (c k).c.d)/\cur[k*3+2]? =some (.int .i64 (c k).id)
theorem aR.lt(h:aR w b cap n c):b<w.heap.size:=by
 obtain⟨_,_,g,u,_⟩:=h;exact(Array.getElem?_eq_some_iff.1 u).1
theorem aR.kept(h:aR w b cap n c)(J:Kept S w w')(I:b∉S):aR w' b cap n c:=by
 have L:=h.lt;obtain⟨u,z,g,B,F⟩:=h;exact⟨u,z,g,(J.block b L I).trans B,F⟩
theorem aR.below(h:aR w b cap n c)(g:Below w.heap.size w w'):aR w' b cap n c:=h.kept (S:=[]) (.of_below g) (by simp)
theorem aR.cells(h:aR w b cap n c)(B:k<n):w.cell? ⟨b,k*3,none⟩=some (.int .i64 (c k).c.s)/\w.cell? ⟨b,k*3+1,none⟩=some (.int .i64 (c k).c.d)/\w.cell? ⟨b,k*3+2,none⟩=some (.int .i64 (c k).id):=by
 obtain⟨L,M,g,u,O,z⟩:=h;obtain⟨F,I,J⟩:=z k B;refine⟨?_,?_,?_⟩<;>simp only[World.cell?,u]<;>simpa using by assumption
theorem aR.frozen(h:aR w b cap n c)(k:Nat):w.frozen? ⟨b,k,none⟩=false:=by
 obtain⟨z,B,g,u,F,I⟩:=h;simp[World.frozen?,u]
theorem fA(w:World)(p k:Nat)(cs:Array Value)(T:TypeId)(x:Value)(h:w.heap[p]? =some (.cells cs T (0,0))):(w.setCell ⟨p,k,none⟩ x).heap[p]? =some (.cells (cs.setIfInBounds k x) T (0,0)):=by
 simp[World.setCell,Array.getElem?_modify,h]
theorem aR.set(h:aR w b cap n c){i:Nat}(P:i<n)(x:It):aR (((w.setCell ⟨b,i*3,none⟩ (.int .i64 x.c.s)).setCell ⟨b,i*3+1,none⟩ (.int .i64 x.c.d)).setCell ⟨b,i*3+2,none⟩ (.int .i64 x.id)) b cap n (upd c i x):=by
 obtain⟨F,I,B,J,L,M⟩:=h;refine⟨F,I,_,fA _ _ _ _ _ _ (fA _ _ _ _ _ _ (fA _ _ _ _ _ _ J)),by simp[L],?_⟩;intro k O;obtain⟨g,u,z⟩:=M k O;by_cases e:k=i
 .subst e
  simp only[Array.getElem?_setIfInBounds,Array.size_setIfInBounds,upd];simp;omega
 .simp only[Array.getElem?_setIfInBounds,upd,if_neg e]
  rw[if_neg (by omega),if_neg (by omega),if_neg (by omega),if_neg (by omega),if_neg (by omega),if_neg (by omega),if_neg (by omega),if_neg (by omega),if_neg (by omega)];exact⟨g,u,z⟩
def dO(w:World)(b rb cap n mb:Nat)(c:Nat->It):Prop:=w.heap[b]? =some (.cells #[.slice (some ⟨rb,0,none⟩) n cap,.map (some mb)] 286 (0,0))/\aR w rb cap n c
theorem Kept.wid{a b:World}(h:Kept S a b)(B:∀k∈S,k∈T):Kept T a b:=⟨h.os,h.tape,h.output,h.size,λk g z=>h.block k g λu=>z (B k u)⟩
theorem IG{a b:World}(h:Below a.heap.size a b):Kept S a b:=Kept.of_below h
theorem Kept.RU{a b c:World}(h:Kept S a b)(k:Kept S b c):Kept S a c:=h.trans k
theorem gH(w:World)(b g u n I N:Nat)(c:Nat->It)(m:Int->Option Value)(i:Nat)(x:It)(h:dO w b g u n I c)(hm:MapAt (λz:Int=>Value.int .i64 z) w I m N)(hi:i<n)(h1:b≠g)(h2:b≠I)(h3:g≠I):Calls Tryz.prog 198 #[.pointer (some ⟨b,0,none⟩),.int .i64 i,.agg #[.int .i64 x.c.s,.int .i64 x.c.d,.int .i64 x.id]] w λe w'=>e=.returned (.tuple #[])/\dO w' b g u n I (upd c i x)/\(∃N,MapAt (λz:Int=>Value.int .i64 z) w' I (aL m x.id (some (.int .i64 i))) N)/\Kept [g,I] w w':=by
 obtain⟨⟨xs,xd⟩,O⟩:=x;simp only at*;obtain⟨hb,hR⟩:=h;have aE:=hR.lt;have aS:=hm.lt;have ax:b<w.heap.size:=(Array.getElem?_eq_some_iff.1 hb).1;go_enter Tryz.func198,Tryz.ntmps198;go_upto_region 1 with(fail);refine au ?_;intro W k;have HW:Below w.heap.size w W:=by rw[k];(repeat' (first|exact Below.refl _ _|assumption|apply aj|apply ah|apply af|(refine aa ?_ (by assumption))))
 have an:w.heap.size<W.heap.size:=by rw[k];simp
 have k1:W.cell? ⟨w.heap.size,0,none⟩=some (.int .i64 xs):=by rw[k];go_simp
 have k2:W.cell? ⟨w.heap.size,1,none⟩=some (.int .i64 xd):=by rw[k];go_simp
 have k3:W.cell? ⟨w.heap.size,2,none⟩=some (.int .i64 O):=by rw[k];go_simp
 clear k;have B:=hR.below HW;have ap:=hm.below HW;have Q:=(HW.block b ax).trans hb;have U:W.cell? ⟨b,0,none⟩=some (.slice (some ⟨g,0,none⟩) n u):=by simp[World.cell?,Q]
 have Z:W.cell? ⟨b,1,none⟩=some (.map (some I)):=by simp[World.cell?,Q]
 have ay:=B.1;have ag:=B.frozen (i*3);have ai:=B.frozen (i*3+1);have al:=B.frozen (i*3+2);obtain⟨c1,c2,c3⟩:=B.cells hi;go_wp2;go_still_tail 7,(by kernel_rfl);change wpList _ _ _ _ _ W.drew;have Hd:Below w.heap.size w W.drew:=ah HW;have F:aR W.drew g u n c:=B;have ac:MapAt (λz:Int=>Value.int .i64 z) W.drew I m N:=ap;have S:W.drew.heap[b]? =some (.cells #[.slice (some ⟨g,0,none⟩) n u,.map (some I)] 286 (0,0)):=Q;have k4:W.drew.cell? ⟨w.heap.size,2,none⟩=some (.int .i64 O):=k3;have ag:=F.frozen (i*3);have ai:=F.frozen (i*3+1);have al:=F.frozen (i*3+2);obtain⟨c1,c2,c3⟩:=F.cells hi;have ab:w.heap.size<W.drew.heap.size:=by have:=an;simpa using this
 clear k1 k2 k3 U Z;generalize W.drew=w2 at*;go_wp2;have P:=F.set hi ⟨⟨xs,xd⟩,O⟩;have L:Kept [g] w2 (((w2.setCell ⟨g,i*3,none⟩ (.int .i64 xs)).setCell ⟨g,i*3+1,none⟩ (.int .i64 xd)).setCell ⟨g,i*3+2,none⟩ (.int .i64 O)):=(((Kept.refl _ _).setCell (.inl (by simp))).setCell (.inl (by simp))).setCell (.inl (by simp));simp only at P;generalize ((w2.setCell ⟨g,i*3,none⟩ (.int .i64 xs)).setCell ⟨g,i*3+1,none⟩ (.int .i64 xd)).setCell ⟨g,i*3+2,none⟩ (.int .i64 O)=J at*;have aw:w.heap.size<w2.heap.size:=ab;have M:=(L.block b (by omega) (by simpa using h1)).trans S;have ad:=ac.kept L (by simpa using Ne.symm h3);have U:J.cell? ⟨b,0,none⟩=some (.slice (some ⟨g,0,none⟩) n u):=by simp[World.cell?,M]
 have Z:J.cell? ⟨b,1,none⟩=some (.map (some I)):=by simp[World.cell?,M]
 have k5:J.cell? ⟨w.heap.size,2,none⟩=some (.int .i64 O):=by
  have:=L.block w.heap.size aw (by simp;omega);simpa[World.cell?,this]using k4
 clear F ac S k4 ag ai al c1 c2 c3;go_still_tail 7,(by kernel_rfl);change wpList _ _ _ _ _ J.drew;have aq:MapAt (λz:Int=>Value.int .i64 z) J.drew I m N:=ad;have T:J.drew.heap[b]? =some (.cells #[.slice (some ⟨g,0,none⟩) n u,.map (some I)] 286 (0,0)):=M;have am:aR J.drew g u n (upd c i ⟨⟨xs,xd⟩,O⟩):=P;have ao:Below J.heap.size J J.drew:=(Below.refl _ _).drew;clear ad M P U Z k5;generalize J.drew=w4 at*;refine dJ rfl _ _ _ rfl (aG Tryz.underlying3) Tryz.underlying142 aq rfl O rfl (.int .i64 i) rfl ?_;intro w5 ar R;go_wp2;go_end0;refine⟨rfl,⟨?_,?_⟩,⟨_,ar⟩,?_⟩
 .exact(R.block b (Array.getElem?_eq_some_iff.1 T).1 (by simpa using h2)).trans T
 .exact am.kept R (by simpa using h3)
 .exact(IG Hd).RU ((L.wid (by simp)).trans ((Kept.of_below ao).trans (R.wid (by simp))))
def PosMap(n:Nat)(c:Nat->It)(m:Int->Option Value):Prop:=∀z v,m z=some v↔∃k,k<n/\v=.int .i64 (k:Nat)/\(c k).id=z
def sI(w:World)(b mb:Nat)(sl:Value)(n:Nat)(c:Nat->It)(S:List Nat):Prop:=
 (sl=.slice none 0 0/\n=0/\S=[b,mb])\/∃rb cap,sl=.slice (some ⟨rb,0,none⟩) n cap/\aR w rb cap n c/\b≠rb/\rb≠mb/\S=[b,rb,mb]
def bf(w:World)(S:List Nat)(b n:Nat)(hp:Int->Option C):Prop:=
 ∃mb m N c sl,w.heap[b]? =some (.cells #[sl,.map (some mb)] 286 (0,0))/\MapAt (λz:Int=>Value.int .i64 z) w mb m N/\b≠mb/\sI w b mb sl n c S/\PosMap n c m/\Holds n c hp/\sF n c/\og n c/\∀z d,hp z=some d->jA d
def iD(n:Nat)(g:Nat->It)(m:Int->Option Value)(i:Int):Prop:=∀z v,z≠i->(m z=some v↔∃k,k<n/\v=.int .i64 (k:Nat)/\(g k).id=z)
structure gD (w0 w:World) (b rb cap n mb:Nat) (x:It) (j:Nat) (c0:Nat->It) (c:Nat->It) (m:Int->Option Value) (N:Nat):Prop where
 lt:j<n
 here:dO w b rb cap n mb c
 map:MapAt (λz:Int=>Value.int .i64 z) w mb m N
 cc:∀k,k<n->jA (upd c j x k).c
 dst:sF n (upd c j x)
 pos:iD n (upd c j x) m x.id
 same:∀y,(∃k,k<n/\upd c j x k=y)↔∃k,k<n/\c0 k=y
 kept:Kept [rb,mb] w0 w
theorem kI(c:Nat->It)(i:Nat):upd c i (c i)=c:=by
 funext k;unfold upd;split<;>simp_all
theorem iD.fill{g:Nat->It}(h:iD n g m x.id)(I:j<n)(F:g j=x)(J:sF n g):PosMap n g (aL m x.id (some (.int .i64 (j:Nat)))):=by
 intro z v;unfold aL;by_cases e:z=x.id
 .rw[if_pos e]
  constructor
  .intro u;injection u with u;exact⟨j,I,u.symm,by rw[F,e]⟩
  .rintro⟨k,L,rfl,B⟩
   rw[J k j L I (by rw[B,F,e])]
 .rw[if_neg e];exact h z v e
theorem iB(u:j≠k):upd (upd c j (c k)) k x=swp (upd c j x) j k:=by
 funext i;rw[dM];unfold upd;by_cases g:i=k
 .subst g;simp
 .by_cases z:i=j
  .subst z;simp[g,Ne.symm u]
  .simp[g,z]
theorem iD.move{g:Nat->It}{x y:It}(h:iD n g m x.id)(M:j<n)(S:k<n)(O:j≠k)(Q:g j=x)(R:g k=y)(Z:sF n g):iD n (swp g j k) (aL m y.id (some (.int .i64 (j:Nat)))) x.id:=by
 intro z v P;unfold aL;have L:=GH M S Z;have I:swp g j k j=y:=by rw[dM,if_neg O,if_pos rfl,R]
 have U:swp g j k k=x:=by rw[dM,if_pos rfl,Q]
 by_cases e:z=y.id
 .rw[if_pos e]
  constructor
  .intro J;injection J with J;exact⟨j,M,J.symm,by rw[I,e]⟩
  .rintro⟨F,B,rfl,u⟩
   rw[L F j B M (by rw[u,I,e])]
 .rw[if_neg e,h z v P]
  constructor
  .rintro⟨F,B,rfl,u⟩
   refine⟨F,B,rfl,?_⟩;rw[dM,if_neg (by rintro rfl;rw[R]at u;exact e u.symm),if_neg (by rintro rfl;rw[Q]at u;exact P u.symm)];exact u
  .rintro⟨F,B,rfl,u⟩
   have T:F≠k:=by rintro rfl;rw[U]at u;exact P u.symm
   have n2:F≠j:=by rintro rfl;rw[I]at u;exact e u.symm
   rw[dM,if_neg T,if_neg n2]at u;exact⟨F,B,rfl,u⟩
theorem gD.move{N F:Nat}(h:gD w0 w b rb cap n mb x j c0 c m N)(u:k<n)(g:j≠k)(L:dO w' b rb cap n mb (upd c j (c k)))(M:MapAt (λz:Int=>Value.int .i64 z) w' mb (aL m (c k).id (some (.int .i64 (j:Nat)))) F)(O:Kept [rb,mb] w w'):gD w0 w' b rb cap n mb x k c0 (upd c j (c k)) (aL m (c k).id (some (.int .i64 (j:Nat)))) F:=by
 have B:=h.lt;have I:upd c j x k=c k:=by unfold upd;rw[if_neg (Ne.symm g)]
 have J:upd c j x j=x:=by unfold upd;rw[if_pos rfl]
 refine⟨u,L,M,?_,?_,?_,?_,h.kept.trans O⟩
 .intro i P
  rw[iB g,dM];split
  .exact h.cc j B
  .split
   .exact h.cc k u
   .exact h.cc i P
 .rw[iB g];exact GH B u h.dst
 .rw[iB g];exact h.pos.move B u g J I h.dst
 .intro y;rw[iB g,PK B u];exact h.same y
theorem gD.start(J:j<n)(g:dO w0 b rb cap n mb c)(u:MapAt (λz:Int=>Value.int .i64 z) w0 mb m N)(B:∀k,k<n->jA (c k).c)(F:sF n c)(I:iD n c m (c j).id):gD w0 w0 b rb cap n mb (c j) j c c m N:=
 ⟨J,g,u,by rw[kI];exact B,by rw[kI];exact F,by rw[kI];exact I,by rw[kI];exactλ_=>Iff.rfl,Kept.refl _ _⟩
def rf(w0 w:World)(b rb cap n mb:Nat)(c0:Nat->It):Prop:=∃c m N,dO w b rb cap n mb c/\MapAt (λz:Int=>Value.int .i64 z) w mb m N/\og n c/\sF n c/\PosMap n c m/\(∀y,(∃k,k<n/\c k=y)↔∃k,k<n/\c0 k=y)/\Kept [rb,mb] w0 w
theorem gD.fill{N g:Nat}(h:gD w0 w b rb cap n mb x j c0 c m N)(I:og n (upd c j x))(u:dO w' b rb cap n mb (upd c j x))(B:MapAt (λz:Int=>Value.int .i64 z) w' mb (aL m x.id (some (.int .i64 (j:Nat)))) g)(F:Kept [rb,mb] w w'):rf w0 w' b rb cap n mb c0:=
 ⟨_,_,_,u,B,I,h.dst,h.pos.fill h.lt (by unfold upd;rw[if_pos rfl]) h.dst,h.same,h.kept.trans F⟩
theorem dO.below(h:dO w b rb cap n mb c)(g:Below w.heap.size w w'):dO w' b rb cap n mb c:=
 ⟨(g.block b (Array.getElem?_eq_some_iff.1 h.1).1).trans h.1,h.2.below g⟩
theorem gD.on(h:gD w0 w b rb cap n mb x j c0 c m N)(g:Below w.heap.size w w'):gD w0 w' b rb cap n mb x j c0 c m N:=
 ⟨h.lt,h.here.below g,h.map.below g,h.cc,h.dst,h.pos,h.same,h.kept.trans (Kept.of_below g)⟩
theorem Pg(j:Nat)(h:0<j):((j:Int)-1).tdiv 2=(par j:Nat):=by
 rw[Int.tdiv_eq_ediv_of_nonneg (by omega)];unfold par;omega
theorem K9(w:World)(b P B n S N:Nat)(c:Nat->It)(m:Int->Option Value)(i:Nat)(h:dO w b P B n S c)(hm:MapAt (λz:Int=>Value.int .i64 z) w S m N)(hi:i<n)(h1:b≠P)(h2:b≠S)(h3:P≠S)(hC:∀k,k<n->jA (c k).c)(hU:jO n c i)(hD:sF n c)(hP:iD n c m (c i).id):Calls Tryz.prog 237 #[.pointer (some ⟨b,0,none⟩),.int .i64 i] w λe w'=>e=.returned (.tuple #[])/\rf w w' b P B n S c:=by
 have hS:=gD.start hi h hm hC hD hP;obtain⟨hb,hR⟩:=h;have ax:=hR.1;have bk:b<w.heap.size:=(Array.getElem?_eq_some_iff.1 hb).1;have bj:=hm.lt;have bi:=hR.lt;have Z:w.cell? ⟨b,0,none⟩=some (.slice (some ⟨P,0,none⟩) n B):=by simp[World.cell?,hb]
 obtain⟨⟨⟨O,L⟩,M⟩,hx⟩:∃x,c i=x:=⟨_,rfl⟩;obtain⟨c1,c2,c3⟩:=hR.cells hi;have ab:jO n (upd c i (c i)) i:=by rw[kI];exact hU
 rw[hx]at c1 c2 c3 hS ab;simp only at c1 c2 c3;have hS:=hid hS;have ab:=hid ab;clear hx hb hR hC hU hD hP hm;go_enter Tryz.func237,Tryz.ntmps237;go_upto_region 1 with(fail);refine au ?_;intro W hW;have HW:Below w.heap.size w W:=by rw[hW];(repeat' (first|exact Below.refl _ _|assumption|apply aj|apply ah|apply af|(refine aa ?_ (by assumption))))
 have aq:W.heap[w.heap.size]? =some (.cells #[.int .i64 O,.int .i64 L,.int .i64 M] 289 (0,0)):=by rw[hW];exact heap_alloc_new _ _
 clear hW c1 c2 c3 Z;go_loopw [1] (λiv wr=>∃(j:Nat)(I:Nat->It)(m':Int->Option Value)(N':Nat),iv=.int .i64 j/\gD w wr b P B n S ⟨⟨O,L⟩,M⟩ j c I m' N'/\jO n (upd I j ⟨⟨O,L⟩,M⟩) j/\wr.heap[w.heap.size]? =some (.cells #[.int .i64 O,.int .i64 L,.int .i64 M] 289 (0,0))) (λiv _=>(intOf iv).toNat)
 case atStart=>exact⟨i,c,m,N,rfl,hS.out.on HW,ab.out,aq⟩
 case round=>
  obtain⟨j,I,m',N',rfl,hH,ap,F⟩:=hrel;have ar:=hH.here.1;have Z:wr.cell? ⟨b,0,none⟩=some (.slice (some ⟨P,0,none⟩) n B):=by simp[World.cell?,ar]
  have x1:wr.cell? ⟨w.heap.size,0,none⟩=some (.int .i64 O):=by simp[World.cell?,F]
  have x2:wr.cell? ⟨w.heap.size,1,none⟩=some (.int .i64 L):=by simp[World.cell?,F]
  have x3:wr.cell? ⟨w.heap.size,2,none⟩=some (.int .i64 M):=by simp[World.cell?,F]
  have R:=hH.lt;have HB:=Below.refl wr.heap.size wr;have u:=hid hH;have Q:=hid ap;clear hH ap ar;by_cases a1:j=0
  .subst a1
   go_upto_region 1 with(fail);refine wp_region_quiet_below (by kernel_rfl) (by kernel_rfl) ?_;repeat (first|go_big_quiet_step (fail)|quiet_step (fail))
   refine wpQuiet_nil ?_;intro _ ai;obtain⟨⟨dq,osq⟩,U⟩:=ai;have g:=aa HB (below_regrown wr dq osq);have ac:=below_regrown wr dq osq;subst U;generalize grow (redrawn wr dq) osq=w2 at g ac⊢;have aE:=(g.cell (by exact(Array.getElem?_eq_some_iff.1 F).1)).trans x1;have aS:=(g.cell (by exact(Array.getElem?_eq_some_iff.1 F).1)).trans x2;have a0:=(g.cell (by exact(Array.getElem?_eq_some_iff.1 F).1)).trans x3;go_wp2_with fail;refine(gH w2 b P B n S N' I m' 0 ⟨⟨O,L⟩,M⟩ (u.out.here.below g) (u.out.map.below g) R h1 h2 h3).mono ?_;rintro e w3 ⟨rfl,hI,⟨N2,hM⟩,T⟩;have hF:=(u.out.on g).fill (M7 Q.out (.inl rfl)) hI hM T;clear hI hM T;go_wp2;go_end0;exact⟨rfl,hF⟩
  .obtain⟨p,hp⟩:∃p,par j=p:=⟨_,rfl⟩
   have bh:p<j:=by rw[<-hp];exact ji (by omega)
   have hq:((j:Int)-1).tdiv 2=(p:Nat):=by rw[<-hp];exact Pg j (by omega)
   have ag:p<n:=by omega
   obtain⟨r1,r2,r3⟩:=u.out.here.2.cells ag;obtain⟨⟨⟨ys,yd⟩,yi⟩,hy⟩:∃y,I p=y:=⟨_,rfl⟩;have al:=u.out.cc p ag;have am:=u.out.cc j R;have e1:upd I j ⟨⟨O,L⟩,M⟩ p=⟨⟨ys,yd⟩,yi⟩:=by unfold upd;rw[if_neg (by omega),hy]
   have e2:upd I j ⟨⟨O,L⟩,M⟩ j=⟨⟨O,L⟩,M⟩:=by unfold upd;rw[if_pos rfl]
   rw[e1]at al;rw[e2]at am;rw[hy]at r1 r2 r3;simp only at r1 r2 r3;obtain⟨t,ht⟩:∃t,decide (It.lt ⟨⟨O,L⟩,M⟩ ⟨⟨ys,yd⟩,yi⟩)=t:=⟨_,rfl⟩;have cL:=hid (mi ⟨⟨O,L⟩,M⟩ ⟨⟨ys,yd⟩,yi⟩ t ht am al);have Ht:=hid ht;have He:=hid (And.intro e1 e2);have Hy:=hid hy;have Hp:=hid hp;have bc:decide ((0:Int)<(j:Int))=true:=by simp;omega
   have bd:decide (0<j)=true:=by simp;omega
   have be:0<j:=by omega
   have bg:(j:Int)<=9223372036854775807:=by have:=ax;have hm:=u.out.here.2.2.1;unfold maxLen at hm;omega
   clear ht e1 e2 hy al am hp;have a9:=cell_regrown x1;have ba:=cell_regrown x2;have bb:=cell_regrown x3;have ay:=cell_regrown Z;have a6:=cell_regrown r1;have a7:=cell_regrown r2;have a8:=cell_regrown r3;go_upto_region 1 with(fail);refine wp_region_quiet_below (by kernel_rfl) (by kernel_rfl) ?_;repeat (first|go_big_quiet_step (with_reducible exact Calls.regrown_of (cL.out _))|quiet_step (with_reducible exact Calls.regrown_of (cL.out _)))
   refine wpQuiet_nil ?_;intro _ ai;obtain⟨⟨dq,osq⟩,U⟩:=ai;have g:=aa HB (below_regrown wr dq osq);have ac:=below_regrown wr dq osq;subst U;generalize grow (redrawn wr dq) osq=w2 at g ac⊢;have l1:w.heap.size<wr.heap.size:=(Array.getElem?_eq_some_iff.1 F).1;have l2:b<wr.heap.size:=(Array.getElem?_eq_some_iff.1 u.out.here.1).1;have l3:P<wr.heap.size:=u.out.here.2.lt;have aE:=(g.cell (by exact l1)).trans x1;have aS:=(g.cell (by exact l1)).trans x2;have a0:=(g.cell (by exact l1)).trans x3;have a2:=(g.cell (by exact l2)).trans Z;have a3:=(g.cell (by exact l3)).trans r1;have a4:=(g.cell (by exact l3)).trans r2;have a5:=(g.cell (by exact l3)).trans r3;have J:=hid (u.out.on g);have ad:=(g.block _ l1).trans F;clear x1 x2 x3 Z r1 r2 r3 a9 ba bb ay a6 a7 a8 ac F;cases t with
   |false=>
    go_wp2_with fail;refine(gH w2 b P B n S N' I m' j ⟨⟨O,L⟩,M⟩ J.out.here J.out.map R h1 h2 h3).mono ?_;rintro e w3 ⟨rfl,hI,⟨N2,hM⟩,T⟩
    have hF:=J.out.fill (M7 Q.out (.inr (by rw[Hp.out,He.out.1,He.out.2];exact of_decide_eq_false Ht.out))) hI hM T;clear hI hM T;go_wp2;go_end0;exact⟨rfl,hF⟩
   |true=>
    go_wp2_with fail;refine(gH w2 b P B n S N' I m' j ⟨⟨ys,yd⟩,yi⟩ J.out.here J.out.map R h1 h2 h3).mono ?_;rintro e w3 ⟨rfl,hI,⟨N2,hM⟩,T⟩
    have an:dO w3 b P B n S (upd I j (I p)):=by rw[Hy.out];exact hI
    have ao:MapAt (λz:Int=>Value.int .i64 z) w3 S (aL m' (I p).id (some (.int .i64 (j:Nat)))) N2:=by rw[Hy.out];exact hM
    have hN:=hid (J.out.move ag (by omega) an ao T)
    have hV:jO n (upd (upd I j (I p)) p ⟨⟨O,L⟩,M⟩) p:=by
     rw[iB (by omega)];have:=PM R (by omega) Q.out (by rw[Hp.out,He.out.1,He.out.2];exact of_decide_eq_true Ht.out);rw[Hp.out]at this;exact this
    have hV:=hid hV;have aw:=(T.block w.heap.size (by have:=g.size;omega) (by simp;omega)).trans ad;clear hI hM T an ao aE aS a0 a2 a3 a4 a5 ad;go_wp2;go_roundw
    case rel=>exact⟨p,_,_,_,rfl,hN.out,hV.out,aw⟩
    case measure=>simp[intOf];omega
theorem K6(w:World)(b rb Z n mb N:Nat)(c:Nat->It)(m:Int->Option Value)(i:Nat)(h:dO w b rb Z n mb c)(hm:MapAt (λz:Int=>Value.int .i64 z) w mb m N)(hi:i<n)(hn:n<=1099511627776)(h1:b≠rb)(h2:b≠mb)(h3:rb≠mb)(hC:∀k,k<n->jA (c k).c)(hU:jN n c i)(hD:sF n c)(hP:iD n c m (c i).id):Calls Tryz.prog 199 #[.pointer (some ⟨b,0,none⟩),.int .i64 i] w λe w'=>e=.returned (.tuple #[])/\rf w w' b rb Z n mb c:=by
 have hS:=gD.start hi h hm hC hD hP;obtain⟨hb,hR⟩:=h;have bv:=hR.1;have b9:b<w.heap.size:=(Array.getElem?_eq_some_iff.1 hb).1;have b8:=hm.lt;have b7:=hR.lt;have ap:w.cell? ⟨b,0,none⟩=some (.slice (some ⟨rb,0,none⟩) n Z):=by simp[World.cell?,hb]
 obtain⟨⟨⟨O,L⟩,M⟩,hx⟩:∃x,c i=x:=⟨_,rfl⟩;obtain⟨c1,c2,c3⟩:=hR.cells hi;have bb:jN n (upd c i (c i)) i:=by rw[kI];exact hU
 rw[hx]at c1 c2 c3 hS bb;simp only at c1 c2 c3;have hS:=hid hS;have bb:=hid bb;clear hx hb hR hC hU hD hP hm;go_enter Tryz.func199,Tryz.ntmps199;go_upto_region 1 with(fail);refine au ?_;intro W hW;have HW:Below w.heap.size w W:=by rw[hW];(repeat' (first|exact Below.refl _ _|assumption|apply aj|apply ah|apply af|(refine aa ?_ (by assumption))))
 have bg:W.heap[w.heap.size]? =some (.cells #[.int .i64 O,.int .i64 L,.int .i64 M] 289 (0,0)):=by rw[hW];exact heap_alloc_new _ _
 clear hW c1 c2 c3 ap;go_loopw [1,5] (λiv kv wr=>∃(j:Nat)(u:Nat->It)(m':Int->Option Value)(N':Nat),iv=.int .i64 j/\gD w wr b rb Z n mb ⟨⟨O,L⟩,M⟩ j c u m' N'/\jN n (upd u j ⟨⟨O,L⟩,M⟩) j/\wr.heap[w.heap.size]? =some (.cells #[.int .i64 O,.int .i64 L,.int .i64 M] 289 (0,0))) (λiv _ _=>n-(intOf iv).toNat)
 case atStart=>exact⟨i,c,m,N,rfl,hS.out.on HW,bb.out,bg⟩
 case round=>
  obtain⟨j,u,m',N',rfl,hH,be,al⟩:=hrel;have bh:=hH.here.1;have ap:wr.cell? ⟨b,0,none⟩=some (.slice (some ⟨rb,0,none⟩) n Z):=by simp[World.cell?,bh]
  have x1:wr.cell? ⟨w.heap.size,0,none⟩=some (.int .i64 O):=by simp[World.cell?,al]
  have x2:wr.cell? ⟨w.heap.size,1,none⟩=some (.int .i64 L):=by simp[World.cell?,al]
  have x3:wr.cell? ⟨w.heap.size,2,none⟩=some (.int .i64 M):=by simp[World.cell?,al]
  have ao:=hH.lt;have HB:=Below.refl wr.heap.size wr;have I:=hid hH;have am:=hid be;clear hH be bh;by_cases b5:2*j+1<n
  .obtain⟨J,b0⟩:∃J,2*j+1=J:=⟨_,rfl⟩
   have R:J<n:=by omega
   have hz:2*(j:Int)+1=(J:Nat):=by omega
   by_cases hs:J+1<n
   .obtain⟨k2,b4⟩:∃k2,J+1=k2:=⟨_,rfl⟩
    have aq:k2<n:=by omega
    have b6:(J:Int)+1=(k2:Nat):=by omega
    have br:decide ((k2:Int)<(n:Int))=true:=by simp;omega
    have bx:(k2:Int)<(n:Int):=by omega
    obtain⟨a1,a2,a3⟩:=I.out.here.2.cells R;obtain⟨b1,b2,b3⟩:=I.out.here.2.cells aq;obtain⟨⟨⟨us,ud⟩,ui⟩,hu⟩:∃y,u J=y:=⟨_,rfl⟩;obtain⟨⟨⟨vs,vd⟩,vi⟩,hv⟩:∃y,u k2=y:=⟨_,rfl⟩;rw[hu]at a1 a2 a3;rw[hv]at b1 b2 b3;simp only at a1 a2 a3 b1 b2 b3;have T:=I.out.cc J R;have ab:=I.out.cc k2 aq;have e1:upd u j ⟨⟨O,L⟩,M⟩ J=⟨⟨us,ud⟩,ui⟩:=by unfold upd;rw[if_neg (by omega),hu]
    have e2:upd u j ⟨⟨O,L⟩,M⟩ k2=⟨⟨vs,vd⟩,vi⟩:=by unfold upd;rw[if_neg (by omega),hv]
    rw[e1]at T;rw[e2]at ab;obtain⟨s,bd⟩:∃s,decide (It.lt ⟨⟨vs,vd⟩,vi⟩ ⟨⟨us,ud⟩,ui⟩)=s:=⟨_,rfl⟩;have cM:=hid (mi ⟨⟨vs,vd⟩,vi⟩ ⟨⟨us,ud⟩,ui⟩ s bd ab T);have Hs:=hid bd;have hE:=hid (And.intro e1 e2);have bj:=cell_regrown a1;have bk:=cell_regrown a2;have bm:=cell_regrown a3;have bo:=cell_regrown b1;have bp:=cell_regrown b2;have bq:=cell_regrown b3;have a0:=cell_regrown ap;clear bd e1 e2 hu hv T ab;go_upto_region 3 with(fail);refine wp_region_quiet_below (by kernel_rfl) (by kernel_rfl) ?_;repeat (first|go_big_quiet_step (with_reducible exact Calls.regrown_of (cM.out _))|quiet_step (with_reducible exact Calls.regrown_of (cM.out _)))
    refine wpQuiet_nil ?_;intro _ ar;obtain⟨⟨dq,osq⟩,ad⟩:=ar;have B:=aa HB (below_regrown wr dq osq);have S:=below_regrown wr dq osq;subst ad;generalize grow (redrawn wr dq) osq=w2 at B S⊢;clear a1 a2 a3 b1 b2 b3 bj bk bm bo bp bq a0;cases s with
    |true=>
     have aE:par k2=j:=by unfold par;omega
     have ai:∀k,k<n->0<k->par k=j->It.le (upd u j ⟨⟨O,L⟩,M⟩ k2) (upd u j ⟨⟨O,L⟩,M⟩ k):=by
      intro k hk _ hp;rcases(show k=J\/k=k2 by unfold par at hp;omega)with rfl|rfl
      .rw[hE.out.1,hE.out.2];exact It.le_of_lt (of_decide_eq_true Hs.out)
      .exact It.le_refl _
     obtain⟨⟨⟨ys,yd⟩,yi⟩,hy⟩:∃y,u k2=y:=⟨_,rfl⟩;have aS:=hid aE;have bi:j<k2:=by have:=aE;unfold par at this;omega
     have U:w.heap.size<wr.heap.size:=(Array.getElem?_eq_some_iff.1 al).1;have l2:b<wr.heap.size:=(Array.getElem?_eq_some_iff.1 I.out.here.1).1;have ac:=hid (I.out.on B);obtain⟨r1,r2,r3⟩:=ac.out.here.2.cells aq;rw[hy]at r1 r2 r3;simp only at r1 r2 r3;have T:=I.out.cc k2 aq;have ab:=I.out.cc j ao;have e1:upd u j ⟨⟨O,L⟩,M⟩ k2=⟨⟨ys,yd⟩,yi⟩:=by unfold upd;rw[if_neg (by omega),hy]
     have e2:upd u j ⟨⟨O,L⟩,M⟩ j=⟨⟨O,L⟩,M⟩:=by unfold upd;rw[if_pos rfl]
     rw[e1]at T;rw[e2]at ab;have ag:=hid ai;obtain⟨t,ht⟩:∃t,decide (It.lt ⟨⟨ys,yd⟩,yi⟩ ⟨⟨O,L⟩,M⟩)=t:=⟨_,rfl⟩;have cL:=hid (mi ⟨⟨ys,yd⟩,yi⟩ ⟨⟨O,L⟩,M⟩ t ht T ab);have Ht:=hid ht;have He:=hid (And.intro e1 e2);have Hy:=hid hy;have y1:=(B.cell (by exact U)).trans x1;have y2:=(B.cell (by exact U)).trans x2;have y3:=(B.cell (by exact U)).trans x3;have yb:=(B.cell (by exact l2)).trans ap;have P:=(B.block _ U).trans al;have a7:=cell_regrown y1;have a8:=cell_regrown y2;have a9:=cell_regrown y3;have ba:=cell_regrown yb;have a4:=cell_regrown r1;have a5:=cell_regrown r2;have a6:=cell_regrown r3;have HC:=Below.refl w2.heap.size w2;clear ht e1 e2 hy T ab ai x1 x2 x3 ap al S;go_upto_region 5 with(fail);refine wp_region_quiet_below (by kernel_rfl) (by kernel_rfl) ?_;repeat (first|go_big_quiet_step (with_reducible exact Calls.regrown_of (cL.out _))|quiet_step (with_reducible exact Calls.regrown_of (cL.out _)))
     refine wpQuiet_nil ?_;intro _ ar;obtain⟨⟨dq,osq⟩,ad⟩:=ar;have g:=aa HC (below_regrown w2 dq osq);have S:=below_regrown w2 dq osq;subst ad;generalize grow (redrawn w2 dq) osq=w4 at g S⊢;have F:=hid (ac.out.on g);have U:w.heap.size<w2.heap.size:=(Array.getElem?_eq_some_iff.1 P).1;have l2:b<w2.heap.size:=(Array.getElem?_eq_some_iff.1 ac.out.here.1).1;have l3:rb<w2.heap.size:=ac.out.here.2.lt;have z1:=(g.cell (by exact U)).trans y1;have z2:=(g.cell (by exact U)).trans y2;have z3:=(g.cell (by exact U)).trans y3;have zb:=(g.cell (by exact l2)).trans yb;have q1:=(g.cell (by exact l3)).trans r1;have q2:=(g.cell (by exact l3)).trans r2;have q3:=(g.cell (by exact l3)).trans r3;have Q:=(g.block _ U).trans P;clear y1 y2 y3 yb r1 r2 r3 a7 a8 a9 ba a4 a5 a6 P S U l2 l3;cases t with
     |false=>
      have an:=hid (oZ am.out (λk' a1 a2 a3=>It.le_trans (by rw[He.out.1,He.out.2];exact of_decide_eq_false Ht.out) (ag.out k' a1 a2 a3)));go_wp2_with fail;refine(gH w4 b rb Z n mb N' u m' j ⟨⟨O,L⟩,M⟩ F.out.here F.out.map ao h1 h2 h3).mono ?_;rintro e w3 ⟨rfl,hI,⟨N2,hM⟩,hK⟩;have hF:=F.out.fill an.out hI hM hK;clear hI hM hK;go_wp2;go_end0;exact⟨rfl,hF⟩
     |true=>
      go_wp2_with fail;refine(gH w4 b rb Z n mb N' u m' j ⟨⟨ys,yd⟩,yi⟩ F.out.here F.out.map ao h1 h2 h3).mono ?_;rintro e w3 ⟨rfl,hI,⟨N2,hM⟩,hK⟩
      have aw:dO w3 b rb Z n mb (upd u j (u k2)):=by rw[Hy.out];exact hI
      have ax:MapAt (λz:Int=>Value.int .i64 z) w3 mb (aL m' (u k2).id (some (.int .i64 (j:Nat)))) N2:=by rw[Hy.out];exact hM
      have hN:=hid (F.out.move aq (by omega) aw ax hK)
      have hV:jN n (upd (upd u j (u k2)) k2 ⟨⟨O,L⟩,M⟩) k2:=by
       rw[iB (by omega)];exact kV aq (by omega) aS.out am.out (by rw[He.out.1,He.out.2];exact of_decide_eq_true Ht.out) ag.out
      have hV:=hid hV;have ay:=(hK.block w.heap.size (Array.getElem?_eq_some_iff.1 Q).1 (by simp;omega)).trans Q;clear hI hM hK aw ax z1 z2 z3 zb q1 q2 q3 Q;go_wp2;go_roundw
      case rel=>exact⟨k2,_,_,_,rfl,hN.out,hV.out,ay⟩
      case measure=>simp[intOf];omega
    |false=>
     have aE:par J=j:=by unfold par;omega
     have ai:∀k,k<n->0<k->par k=j->It.le (upd u j ⟨⟨O,L⟩,M⟩ J) (upd u j ⟨⟨O,L⟩,M⟩ k):=by
      intro k hk _ hp;rcases(show k=J\/k=k2 by unfold par at hp;omega)with rfl|rfl
      .exact It.le_refl _
      .rw[hE.out.1,hE.out.2];exact of_decide_eq_false Hs.out
     obtain⟨⟨⟨ys,yd⟩,yi⟩,hy⟩:∃y,u J=y:=⟨_,rfl⟩;have aS:=hid aE;have bi:j<J:=by have:=aE;unfold par at this;omega
     have U:w.heap.size<wr.heap.size:=(Array.getElem?_eq_some_iff.1 al).1;have l2:b<wr.heap.size:=(Array.getElem?_eq_some_iff.1 I.out.here.1).1;have ac:=hid (I.out.on B);obtain⟨r1,r2,r3⟩:=ac.out.here.2.cells R;rw[hy]at r1 r2 r3;simp only at r1 r2 r3;have T:=I.out.cc J R;have ab:=I.out.cc j ao;have e1:upd u j ⟨⟨O,L⟩,M⟩ J=⟨⟨ys,yd⟩,yi⟩:=by unfold upd;rw[if_neg (by omega),hy]
     have e2:upd u j ⟨⟨O,L⟩,M⟩ j=⟨⟨O,L⟩,M⟩:=by unfold upd;rw[if_pos rfl]
     rw[e1]at T;rw[e2]at ab;have ag:=hid ai;obtain⟨t,ht⟩:∃t,decide (It.lt ⟨⟨ys,yd⟩,yi⟩ ⟨⟨O,L⟩,M⟩)=t:=⟨_,rfl⟩;have cL:=hid (mi ⟨⟨ys,yd⟩,yi⟩ ⟨⟨O,L⟩,M⟩ t ht T ab);have Ht:=hid ht;have He:=hid (And.intro e1 e2);have Hy:=hid hy;have y1:=(B.cell (by exact U)).trans x1;have y2:=(B.cell (by exact U)).trans x2;have y3:=(B.cell (by exact U)).trans x3;have yb:=(B.cell (by exact l2)).trans ap;have P:=(B.block _ U).trans al;have a7:=cell_regrown y1;have a8:=cell_regrown y2;have a9:=cell_regrown y3;have ba:=cell_regrown yb;have a4:=cell_regrown r1;have a5:=cell_regrown r2;have a6:=cell_regrown r3;have HC:=Below.refl w2.heap.size w2;clear ht e1 e2 hy T ab ai x1 x2 x3 ap al S;go_upto_region 5 with(fail);refine wp_region_quiet_below (by kernel_rfl) (by kernel_rfl) ?_;repeat (first|go_big_quiet_step (with_reducible exact Calls.regrown_of (cL.out _))|quiet_step (with_reducible exact Calls.regrown_of (cL.out _)))
     refine wpQuiet_nil ?_;intro _ ar;obtain⟨⟨dq,osq⟩,ad⟩:=ar;have g:=aa HC (below_regrown w2 dq osq);have S:=below_regrown w2 dq osq;subst ad;generalize grow (redrawn w2 dq) osq=w4 at g S⊢;have F:=hid (ac.out.on g);have U:w.heap.size<w2.heap.size:=(Array.getElem?_eq_some_iff.1 P).1;have l2:b<w2.heap.size:=(Array.getElem?_eq_some_iff.1 ac.out.here.1).1;have l3:rb<w2.heap.size:=ac.out.here.2.lt;have z1:=(g.cell (by exact U)).trans y1;have z2:=(g.cell (by exact U)).trans y2;have z3:=(g.cell (by exact U)).trans y3;have zb:=(g.cell (by exact l2)).trans yb;have q1:=(g.cell (by exact l3)).trans r1;have q2:=(g.cell (by exact l3)).trans r2;have q3:=(g.cell (by exact l3)).trans r3;have Q:=(g.block _ U).trans P;clear y1 y2 y3 yb r1 r2 r3 a7 a8 a9 ba a4 a5 a6 P S U l2 l3;cases t with
     |false=>
      have an:=hid (oZ am.out (λk' a1 a2 a3=>It.le_trans (by rw[He.out.1,He.out.2];exact of_decide_eq_false Ht.out) (ag.out k' a1 a2 a3)));go_wp2_with fail;refine(gH w4 b rb Z n mb N' u m' j ⟨⟨O,L⟩,M⟩ F.out.here F.out.map ao h1 h2 h3).mono ?_;rintro e w3 ⟨rfl,hI,⟨N2,hM⟩,hK⟩;have hF:=F.out.fill an.out hI hM hK;clear hI hM hK;go_wp2;go_end0;exact⟨rfl,hF⟩
     |true=>
      go_wp2_with fail;refine(gH w4 b rb Z n mb N' u m' j ⟨⟨ys,yd⟩,yi⟩ F.out.here F.out.map ao h1 h2 h3).mono ?_;rintro e w3 ⟨rfl,hI,⟨N2,hM⟩,hK⟩
      have aw:dO w3 b rb Z n mb (upd u j (u J)):=by rw[Hy.out];exact hI
      have ax:MapAt (λz:Int=>Value.int .i64 z) w3 mb (aL m' (u J).id (some (.int .i64 (j:Nat)))) N2:=by rw[Hy.out];exact hM
      have hN:=hid (F.out.move R (by omega) aw ax hK)
      have hV:jN n (upd (upd u j (u J)) J ⟨⟨O,L⟩,M⟩) J:=by
       rw[iB (by omega)];exact kV R (by omega) aS.out am.out (by rw[He.out.1,He.out.2];exact of_decide_eq_true Ht.out) ag.out
      have hV:=hid hV;have ay:=(hK.block w.heap.size (Array.getElem?_eq_some_iff.1 Q).1 (by simp;omega)).trans Q;clear hI hM hK aw ax z1 z2 z3 zb q1 q2 q3 Q;go_wp2;go_roundw
      case rel=>exact⟨J,_,_,_,rfl,hN.out,hV.out,ay⟩
      case measure=>simp[intOf];omega
   .go_upto_region 3 with(fail)
    have bt:¬((J:Int)+1<(n:Int)):=by omega
    have br:decide ((J:Int)+1<(n:Int))=false:=decide_eq_false bt;have a0:=cell_regrown ap;refine wp_region_quiet_below (by kernel_rfl) (by kernel_rfl) ?_;repeat (first|go_big_quiet_step (fail)|quiet_step (fail))
    refine wpQuiet_nil ?_;intro _ ar;obtain⟨⟨dq,osq⟩,ad⟩:=ar;have B:=aa HB (below_regrown wr dq osq);have S:=below_regrown wr dq osq;subst ad;generalize grow (redrawn wr dq) osq=w2 at B S⊢;have aE:par J=j:=by unfold par;omega
    have ai:∀k,k<n->0<k->par k=j->It.le (upd u j ⟨⟨O,L⟩,M⟩ J) (upd u j ⟨⟨O,L⟩,M⟩ k):=by
     intro k hk _ hp;obtain rfl:k=J:=by unfold par at hp;omega
     exact It.le_refl _
    clear a0;obtain⟨⟨⟨ys,yd⟩,yi⟩,hy⟩:∃y,u J=y:=⟨_,rfl⟩;have aS:=hid aE;have bi:j<J:=by have:=aE;unfold par at this;omega
    have U:w.heap.size<wr.heap.size:=(Array.getElem?_eq_some_iff.1 al).1;have l2:b<wr.heap.size:=(Array.getElem?_eq_some_iff.1 I.out.here.1).1;have ac:=hid (I.out.on B);obtain⟨r1,r2,r3⟩:=ac.out.here.2.cells R;rw[hy]at r1 r2 r3;simp only at r1 r2 r3;have T:=I.out.cc J R;have ab:=I.out.cc j ao;have e1:upd u j ⟨⟨O,L⟩,M⟩ J=⟨⟨ys,yd⟩,yi⟩:=by unfold upd;rw[if_neg (by omega),hy]
    have e2:upd u j ⟨⟨O,L⟩,M⟩ j=⟨⟨O,L⟩,M⟩:=by unfold upd;rw[if_pos rfl]
    rw[e1]at T;rw[e2]at ab;have ag:=hid ai;obtain⟨t,ht⟩:∃t,decide (It.lt ⟨⟨ys,yd⟩,yi⟩ ⟨⟨O,L⟩,M⟩)=t:=⟨_,rfl⟩;have cL:=hid (mi ⟨⟨ys,yd⟩,yi⟩ ⟨⟨O,L⟩,M⟩ t ht T ab);have Ht:=hid ht;have He:=hid (And.intro e1 e2);have Hy:=hid hy;have y1:=(B.cell (by exact U)).trans x1;have y2:=(B.cell (by exact U)).trans x2;have y3:=(B.cell (by exact U)).trans x3;have yb:=(B.cell (by exact l2)).trans ap;have P:=(B.block _ U).trans al;have a7:=cell_regrown y1;have a8:=cell_regrown y2;have a9:=cell_regrown y3;have ba:=cell_regrown yb;have a4:=cell_regrown r1;have a5:=cell_regrown r2;have a6:=cell_regrown r3;have HC:=Below.refl w2.heap.size w2;clear ht e1 e2 hy T ab ai x1 x2 x3 ap al S;go_upto_region 5 with(fail);refine wp_region_quiet_below (by kernel_rfl) (by kernel_rfl) ?_;repeat (first|go_big_quiet_step (with_reducible exact Calls.regrown_of (cL.out _))|quiet_step (with_reducible exact Calls.regrown_of (cL.out _)))
    refine wpQuiet_nil ?_;intro _ ar;obtain⟨⟨dq,osq⟩,ad⟩:=ar;have g:=aa HC (below_regrown w2 dq osq);have S:=below_regrown w2 dq osq;subst ad;generalize grow (redrawn w2 dq) osq=w4 at g S⊢;have F:=hid (ac.out.on g);have U:w.heap.size<w2.heap.size:=(Array.getElem?_eq_some_iff.1 P).1;have l2:b<w2.heap.size:=(Array.getElem?_eq_some_iff.1 ac.out.here.1).1;have l3:rb<w2.heap.size:=ac.out.here.2.lt;have z1:=(g.cell (by exact U)).trans y1;have z2:=(g.cell (by exact U)).trans y2;have z3:=(g.cell (by exact U)).trans y3;have zb:=(g.cell (by exact l2)).trans yb;have q1:=(g.cell (by exact l3)).trans r1;have q2:=(g.cell (by exact l3)).trans r2;have q3:=(g.cell (by exact l3)).trans r3;have Q:=(g.block _ U).trans P;clear y1 y2 y3 yb r1 r2 r3 a7 a8 a9 ba a4 a5 a6 P S U l2 l3;cases t with
    |false=>
     have an:=hid (oZ am.out (λk' a1 a2 a3=>It.le_trans (by rw[He.out.1,He.out.2];exact of_decide_eq_false Ht.out) (ag.out k' a1 a2 a3)));go_wp2_with fail;refine(gH w4 b rb Z n mb N' u m' j ⟨⟨O,L⟩,M⟩ F.out.here F.out.map ao h1 h2 h3).mono ?_;rintro e w3 ⟨rfl,hI,⟨N2,hM⟩,hK⟩;have hF:=F.out.fill an.out hI hM hK;clear hI hM hK;go_wp2;go_end0;exact⟨rfl,hF⟩
    |true=>
     go_wp2_with fail;refine(gH w4 b rb Z n mb N' u m' j ⟨⟨ys,yd⟩,yi⟩ F.out.here F.out.map ao h1 h2 h3).mono ?_;rintro e w3 ⟨rfl,hI,⟨N2,hM⟩,hK⟩
     have aw:dO w3 b rb Z n mb (upd u j (u J)):=by rw[Hy.out];exact hI
     have ax:MapAt (λz:Int=>Value.int .i64 z) w3 mb (aL m' (u J).id (some (.int .i64 (j:Nat)))) N2:=by rw[Hy.out];exact hM
     have hN:=hid (F.out.move R (by omega) aw ax hK)
     have hV:jN n (upd (upd u j (u J)) J ⟨⟨O,L⟩,M⟩) J:=by
      rw[iB (by omega)];exact kV R (by omega) aS.out am.out (by rw[He.out.1,He.out.2];exact of_decide_eq_true Ht.out) ag.out
     have hV:=hid hV;have ay:=(hK.block w.heap.size (Array.getElem?_eq_some_iff.1 Q).1 (by simp;omega)).trans Q;clear hI hM hK aw ax z1 z2 z3 zb q1 q2 q3 Q;go_wp2;go_roundw
     case rel=>exact⟨J,_,_,_,rfl,hN.out,hV.out,ay⟩
     case measure=>simp[intOf];omega
  .have bw:¬(2*(j:Int)+1<(n:Int)):=by omega
   have bc:∀k,k<n->0<k->par k=j->It.le (upd u j ⟨⟨O,L⟩,M⟩ j) (upd u j ⟨⟨O,L⟩,M⟩ k):=by intro k hk _ hp;unfold par at hp;omega
   have an:=hid (oZ am.out bc);clear bc;go_wp2_with fail;refine(gH wr b rb Z n mb N' u m' j ⟨⟨O,L⟩,M⟩ I.out.here I.out.map ao h1 h2 h3).mono ?_;rintro e w3 ⟨rfl,hI,⟨N2,hM⟩,hK⟩;have hF:=I.out.fill an.out hI hM hK;clear hI hM hK;go_wp2;go_end0;exact⟨rfl,hF⟩
def CZ(xs:List Value)(n:Nat)(c:Nat->It):Prop:=∀k,k<n->xs[k*3]? =some (.int .i64 (c k).c.s)/\xs[k*3+1]? =some (.int .i64 (c k).c.d)/\xs[k*3+2]? =some (.int .i64 (c k).id)
theorem aR.owns(h:aR w b cap n c):∃z,w.ownsRow 0 289 3 (.slice (some ⟨b,0,none⟩) n cap) n z/\CZ z n c:=by
 obtain⟨J,L,g,M,u,O⟩:=h;refine⟨g.toList.take (n*3),⟨?_,.inr ⟨b,cap,g,rfl,Nat.zero_le _,M,J,L,u,rfl⟩⟩,?_⟩
 .rw[List.length_take,Array.length_toList,u];omega
 .intro k P
  obtain⟨B,F,I⟩:=O k P;rw[List.getElem?_take,if_pos (by omega),List.getElem?_take,if_pos (by omega),List.getElem?_take,if_pos (by omega)];simpa using⟨B,F,I⟩
theorem aR.O6{B b cap n:Nat}(h:w.ownsRow B 289 3 (.slice (some ⟨b,0,none⟩) n cap) n xs)(U:CZ xs n c):aR w b cap n c:=by
 rcases h.2 with⟨u,_⟩|⟨Z,P,J,u,_,Q,O,L,M,g⟩
 .simp at u
 .simp only[Value.slice.injEq,Option.some.injEq,Addr.mk.injEq,and_true,true_and]at u
  obtain⟨rfl,rfl⟩:=u;refine⟨O,L,J,Q,M,?_⟩;intro k R;obtain⟨z,F,I⟩:=U k R;rw[<-g,List.getElem?_take,if_pos (by omega)]at z;rw[<-g,List.getElem?_take,if_pos (by omega)]at F;rw[<-g,List.getElem?_take,if_pos (by omega)]at I;rw[Array.getElem?_toList]at z F I;exact⟨z,F,I⟩
theorem CZ.push(h:CZ xs n c)(B:xs.length=n*3)(x:It):CZ (xs++[.int .i64 x.c.s,.int .i64 x.c.d,.int .i64 x.id]) (n+1) (upd c n x):=by
 intro k F;by_cases e:k=n
 .subst e
  unfold upd;rw[if_pos rfl,List.getElem?_append_right (by omega),List.getElem?_append_right (by omega),List.getElem?_append_right (by omega),B];simp
 .obtain⟨g,u,z⟩:=h k (by omega)
  unfold upd;rw[if_neg e,List.getElem?_append_left (by omega),List.getElem?_append_left (by omega),List.getElem?_append_left (by omega)];exact⟨g,u,z⟩
theorem sI.owns(h:sI w b mb sl n c S):∃g,w.ownsRow 0 289 3 sl n g/\CZ g n c:=by
 rcases h with⟨rfl,rfl,_⟩|⟨F,u,rfl,z,_⟩
 .exact⟨[],⟨rfl,.inl ⟨rfl,rfl⟩⟩,λk B=>absurd B (by omega)⟩
 .exact z.owns
def hset(hp:Int->Option C)(i:Int)(c:Option C):Int->Option C:=λz=>if z=i then c else hp z
theorem Holds.push{n:Nat}{c:Nat->It}{z:Int->Option C}(h:Holds n c z)(x:It)(I:z x.id=none):Holds (n+1) (upd c n x) (hset z x.id (some x.c)):=by
 intro B d;unfold hset;constructor
 .intro g
  by_cases e:B=x.id
  .rw[if_pos e]at g
   injection g with g
   exact⟨n,by omega,by rw[upd_same,e,<-g]⟩
  .rw[if_neg e]at g
   obtain⟨k,F,u⟩:=(h B d).1 g;exact⟨k,by omega,by rw[upd_ne _ _ (by omega),u]⟩
 .rintro⟨k,F,g⟩
  by_cases e:k=n
  .subst e
   rw[upd_same]at g;subst g;rw[if_pos rfl]
  .rw[upd_ne _ _ e]at g
   have:=(h B d).2 ⟨k,by omega,g⟩;rw[if_neg,this];rintro rfl;rw[I]at this;cases this
theorem sF.push(h:sF n c)(B:Holds n c hp)(x:It)(I:hp x.id=none):sF (n+1) (upd c n x):=by
 have g:∀k,k<n->(c k).id≠x.id:=by
  intro k F e;have:=(B (c k).id (c k).c).2 ⟨k,F,rfl⟩;rw[e,I]at this;cases this
 intro i j J L e;by_cases z:i=n
 .by_cases u:j=n
  .omega
  .subst z
   rw[upd_same,upd_ne _ _ u]at e;exact absurd e.symm (g j (by omega))
 .by_cases u:j=n
  .subst u
   rw[upd_same,upd_ne _ _ z]at e;exact absurd e (g i (by omega))
  .rw[upd_ne _ _ z,upd_ne _ _ u]at e
   exact h i j (by omega) (by omega) e
theorem PosMap.push{n:Nat}{c:Nat->It}{m:Int->Option Value}(h:PosMap n c m)(x:It):iD (n+1) (upd c n x) m x.id:=by
 intro z v F;rw[h z v];constructor
 .rintro⟨k,B,u,g⟩
  exact⟨k,by omega,u,by rw[upd_ne _ _ (by omega)];exact g⟩
 .rintro⟨k,B,u,g⟩
  by_cases e:k=n
  .subst e;rw[upd_same]at g;exact absurd g.symm F
  .rw[upd_ne _ _ e]at g;exact⟨k,by omega,u,g⟩
theorem PosMap.turn{n:Nat}{c:Nat->It}{m:Int->Option Value}(h:PosMap n c m){k:Nat}(J:k<n)(x:It)(I:x.id=(c k).id):iD n (upd c k x) m x.id:=by
 intro z v F;rw[h z v];constructor
 .rintro⟨j,u,B,g⟩
  exact⟨j,u,B,by rw[upd_ne _ _ (by rintro rfl;rw[I]at F;exact F g.symm)];exact g⟩
 .rintro⟨j,u,B,g⟩
  by_cases e:j=k
  .subst e;rw[upd_same]at g;exact absurd g.symm F
  .rw[upd_ne _ _ e]at g;exact⟨j,u,B,g⟩
theorem sF.turn(h:sF n c)(F:k<n)(x:It)(B:x.id=(c k).id):sF n (upd c k x):=by
 have e:∀j,(upd c k x j).id=(c j).id:=by
  intro j;by_cases e:j=k
  .subst e;rw[upd_same,B]
  .rw[upd_ne _ _ e]
 intro i j u z g;rw[e,e]at g;exact h i j u z g
theorem Holds.turn{n:Nat}{c:Nat->It}{J:Int->Option C}(h:Holds n c J)(L:sF n c){k:Nat}(I:k<n)(x:It)(B:x.id=(c k).id):Holds n (upd c k x) (hset J x.id (some x.c)):=by
 intro F d;unfold hset;constructor
 .intro g
  by_cases e:F=x.id
  .rw[if_pos e]at g
   injection g with g
   exact⟨k,I,by rw[upd_same,e,<-g]⟩
  .rw[if_neg e]at g
   obtain⟨j,z,u⟩:=(h F d).1 g;refine⟨j,z,?_⟩;rw[upd_ne,u];rintro rfl;rw[u]at B;exact e B.symm
 .rintro⟨j,z,g⟩
  by_cases e:j=k
  .subst e
   rw[upd_same]at g;subst g;rw[if_pos rfl]
  .rw[upd_ne _ _ e]at g
   rw[if_neg,(h F d).2 ⟨j,z,g⟩];rintro rfl;apply e;exact L j k z I (by rw[g,<-B])
theorem Holds.same{n:Nat}{c g:Nat->It}{u:Int->Option C}(h:Holds n c u)(B:∀y,(∃k,k<n/\g k=y)↔∃k,k<n/\c k=y):Holds n g u:=by
 intro z d;rw[h z d];exact(B ⟨d,z⟩).symm
theorem Holds.pop{n:Nat}{c:Nat->It}{I:Int->Option C}(h:Holds (n+1) c I)(M:sF (n+1) c):Holds n (upd c 0 (c n)) (hset I (c 0).id none):=by
 intro z d;unfold hset;constructor
 .intro g
  by_cases e:z=(c 0).id
  .rw[if_pos e]at g;cases g
  .rw[if_neg e]at g
   obtain⟨k,O,u⟩:=(h z d).1 g;have Q:k≠0:=by rintro rfl;rw[u]at e;exact e rfl
   by_cases L:k=n
   .subst L;exact⟨0,by omega,by rw[upd_same,u]⟩
   .exact⟨k,by omega,by rw[upd_ne _ _ Q,u]⟩
 .rintro⟨k,O,g⟩
  have F:∀j,j<n+1->j≠0->c j=⟨d,z⟩->(if z=(c 0).id then none else I z)=some d:=by
   intro j J P B;rw[if_neg,(h z d).2 ⟨j,J,B⟩];intro e;exact P (M j 0 J (by omega) (by rw[B,<-e]))
  by_cases e:k=0
  .subst e
   rw[upd_same]at g;exact F n (by omega) (by omega) g
  .rw[upd_ne _ _ e]at g
   exact F k (by omega) e g
theorem sF.pop(z:sF (n+1) c):sF n (upd c 0 (c n)):=by
 intro i j B F e;by_cases g:i=0<;>by_cases u:j=0
 .omega
 .subst g
  rw[upd_same,upd_ne _ _ u]at e;have:=z n j (by omega) (by omega) e;omega
 .subst u
  rw[upd_same,upd_ne _ _ g]at e;have:=z i n (by omega) (by omega) e;omega
 .rw[upd_ne _ _ g,upd_ne _ _ u]at e
  exact z i j (by omega) (by omega) e
theorem PosMap.pop{n:Nat}{c:Nat->It}{m:Int->Option Value}(h:PosMap (n+1) c m)(M:sF (n+1) c)(x:Value):iD n (upd c 0 (c n)) (aL (aL m (c 0).id none) (c n).id (some x)) (c n).id:=by
 intro z v I;unfold aL;rw[if_neg I];by_cases B:z=(c 0).id
 .rw[if_pos B]
  constructor
  .intro L;cases L
  .rintro⟨k,J,F,g⟩
   by_cases u:k=0
   .subst u;rw[upd_same]at g;exact absurd g.symm I
   .rw[upd_ne _ _ u]at g
    exact absurd (M k 0 (by omega) (by omega) (by rw[g,B])) u
 .rw[if_neg B,h z v]
  constructor
  .rintro⟨k,J,F,g⟩
   have O:k≠0:=by rintro rfl;exact B g.symm
   have P:k≠n:=by rintro rfl;exact I g.symm
   exact⟨k,by omega,F,by rw[upd_ne _ _ O];exact g⟩
  .rintro⟨k,J,F,g⟩
   by_cases u:k=0
   .subst u;rw[upd_same]at g;exact absurd g.symm I
   .rw[upd_ne _ _ u]at g
    exact⟨k,by omega,F,g⟩
theorem PosMap.RB{c:Nat->It}{m:Int->Option Value}(h:PosMap 1 c m):PosMap 0 c (aL m (c 0).id none):=by
 intro z v;unfold aL;constructor
 .intro g
  by_cases e:z=(c 0).id
  .rw[if_pos e]at g;cases g
  .rw[if_neg e,h z v]at g
   obtain⟨k,B,_,u⟩:=g;obtain rfl:k=0:=by omega
   exact absurd u.symm e
 .rintro⟨k,B,_⟩;omega
theorem Holds.RB{c:Nat->It}{u:Int->Option C}(h:Holds 1 c u):Holds 0 c (hset u (c 0).id none):=by
 intro z d;unfold hset;constructor
 .intro g
  by_cases e:z=(c 0).id
  .rw[if_pos e]at g;cases g
  .rw[if_neg e]at g
   obtain⟨k,F,B⟩:=(h z d).1 g;obtain rfl:k=0:=by omega
   rw[B]at e;exact absurd rfl e
 .rintro⟨k,F,_⟩;omega
theorem Holds.cc{n:Nat}{c:Nat->It}{g:Int->Option C}(h:Holds n c g)(u:∀z d,g z=some d->jA d):∀k,k<n->jA (c k).c:=
 λk B=>u _ _ ((h (c k).id (c k).c).2 ⟨k,B,rfl⟩)
theorem bf.lt(h:bf w S b n hp):∀k∈S,k<w.heap.size:=by
 obtain⟨O,m,N,c,Q,I,B,_,F,_⟩:=h;have J:=(Array.getElem?_eq_some_iff.1 I).1;have L:=B.lt;rcases F with⟨_,_,rfl⟩|⟨P,u,_,z,_,_,rfl⟩
 .intro k g;simp at g;rcases g with rfl|rfl<;>assumption
 .have M:=z.lt
  intro k g;simp at g;rcases g with rfl|rfl|rfl<;>assumption
theorem bf.self(h:bf w S b n hp):b∈S:=by
 obtain⟨I,m,N,c,L,F,B,_,u,_⟩:=h;rcases u with⟨_,_,rfl⟩|⟨J,g,_,z,_,_,rfl⟩<;>simp
theorem sI.kept(h:sI w b mb sl n c S)(M:Kept T w w')(L:∀k∈S,k∉T):sI w' b mb sl n c S:=by
 rcases h with h|⟨z,g,B,F,I,J,u⟩
 .exact .inl h
 .exact .inr ⟨z,g,B,F.kept M (L z (by rw[u];simp)),I,J,u⟩
theorem bf.kept(h:bf w S b n hp)(u:Kept T w w')(g:∀k∈S,k∉T):bf w' S b n hp:=by
 have P:=h.lt;have F:=h.self;obtain⟨z,m,N,c,R,J,L,M,B,O⟩:=h;have Q:z∈S:=by rcases B with⟨_,_,rfl⟩|⟨Z,I,_,U,_,_,rfl⟩<;>simp
 exact⟨z,m,N,c,R,(u.block b (P b F) (g b F)).trans J,L.kept u (g z Q),M,B.kept u g,O⟩
theorem bf.below(h:bf w S b n hp)(g:Below w.heap.size w w'):bf w' S b n hp:=h.kept (T:=[]) (.of_below g) (by simp)
def JP(w:World)(e:Ending)(w':World):Prop:=∃b S,e=.returned (.pointer (some ⟨b,0,none⟩))/\bf w' S b 0 (λ_=>none)/\(∀k∈S,w.heap.size<=k)/\Below w.heap.size w w'
theorem FU(w:World):Calls Tryz.prog 145 #[] w (JP w):=by
 have B:=@run_makeMap Tryz.prog;go_enter Tryz.func145,Tryz.ntmps145;go_wp2;go_ret;have u:MapAt (λz:Int=>Value.int .i64 z) (w.alloc (.map #[] 0)) w.heap.size (λ_=>none) 0:=MapAt.made w;refine⟨w.heap.size+1,[w.heap.size+1,w.heap.size],rfl,⟨w.heap.size,λ_=>none,0,λ_=>⟨⟨0,0⟩,0⟩,.slice none 0 0,?_,u.below ?_,by omega,.inl ⟨rfl,rfl,rfl⟩,?_,?_,?_,?_,?_⟩,?_,?_⟩
 .have:=heap_alloc_new (w.alloc (.map #[] 0)) (.cells #[.slice none 0 0,.map (some w.heap.size)] 286 (0,0))
  simpa using this
 .exact af (Below.refl _ _)
 .intro z v;constructor
  .intro h;cases h
  .rintro⟨k,g,_⟩;omega
 .intro z v;constructor
  .intro h;cases h
  .rintro⟨k,g,_⟩;omega
 .intro i j F;omega
 .intro j I;omega
 .intro z d h;cases h
 .intro k g;simp at g;omega
 ·(repeat' (first|exact Below.refl _ _|assumption|apply aj|apply ah|apply af|(refine aa ?_ (by assumption))))
theorem qy(w:World):(zeroValue 3).run Tryz.prog w=.ok (.int .i64 0) w:=by kernel_rfl
theorem Eg(h:MapAt (λz:Int=>Value.int .i64 z) w b m N){z:Int}{v:Value}(g:m z=some v):(Instr.lookup 142 (.map (some b)) (.int .i64 z) true).run Tryz.prog w=.ok (.tuple #[v,.bool true]) w:=by
 have:=(h.look (aG Tryz.underlying3) Tryz.underlying142 (qy w) z).1;rw[g]at this;exact this
theorem BR(h:MapAt (λz:Int=>Value.int .i64 z) w b m N){z:Int}(g:m z=none):(Instr.lookup 142 (.map (some b)) (.int .i64 z) true).run Tryz.prog w=.ok (.tuple #[.int .i64 0,.bool false]) w:=by
 have:=(h.look (aG Tryz.underlying3) Tryz.underlying142 (qy w) z).1;rw[g]at this;exact this
theorem PosMap.none{n:Nat}{c:Nat->It}{m:Int->Option Value}{g:Int->Option C}(h:PosMap n c m)(B:Holds n c g){z:Int}(J:g z=none):m z=none:=by
 cases I:m z with
 |none=>rfl
 |some v=>
  obtain⟨k,F,_,u⟩:=(h z v).1 I;have:=(B (c k).id (c k).c).2 ⟨k,F,rfl⟩;rw[u,J]at this;cases this
theorem PosMap.some{n:Nat}{c:Nat->It}{m:Int->Option Value}{B:Int->Option C}(h:PosMap n c m)(F:Holds n c B){z:Int}{d:C}(I:B z=some d):∃k,k<n/\c k=⟨d,z⟩/\m z=Option.some (.int .i64 (k:Nat)):=by
 obtain⟨k,u,g⟩:=(F z d).1 I;exact⟨k,u,g,(h z _).2 ⟨k,u,rfl,by rw[g]⟩⟩
def pO(w:World)(S:List Nat)(b n:Nat)(hp:Int->Option C)(v:Value)(e:Ending)(w':World):Prop:=
 e=.returned v/\∃S',bf w' S' b n hp/\(∀k∈S',k∈S\/w.heap.size<=k)/\Kept S w w'
theorem rf.K7(h:rf w0 w b rb cap n mb c0)(O:b≠rb)(P:b≠mb)(Q:rb≠mb)(U:Holds n c0 hp)(R:∀z d,hp z=some d->jA d):bf w [b,rb,mb] b n hp/\Kept [rb,mb] w0 w:=by
 obtain⟨c,m,N,⟨g,u⟩,B,F,I,J,L,M⟩:=h;exact⟨⟨mb,m,N,c,_,g,B,P,.inr ⟨rb,cap,rfl,u,O,Q,rfl⟩,J,Holds.same U L,I,F,R⟩,M⟩
theorem FV{i:Int}{c:C}(h:∀z d,hp z=some d->jA d)(u:jA c):∀z d,hset hp i (some c) z=some d->jA d:=by
 intro z d g;unfold hset at g;by_cases e:z=i
 .rw[if_pos e]at g;injection g with g;rwa[<-g]
 .rw[if_neg e]at g;exact h z d g
theorem IE:(Tryz.prog.info? 289).map (λi=>(i.zero,i.size,i.bytes))=some (some (.agg #[.int .i64 0,.int .i64 0,.int .i64 0]),3,24):=by kernel_rfl
theorem sI.own(h:sI w b mb sl n c S)(F:b≠mb):sl.ownBlock≠some b/\sl.ownBlock≠some mb/\(∀k,sl.ownBlock=some k->k∈S)/\b∈S/\mb∈S:=by
 rcases h with⟨rfl,rfl,rfl⟩|⟨I,g,rfl,B,u,z,rfl⟩
 .refine⟨by simp[Value.ownBlock],by simp[Value.ownBlock],by simp[Value.ownBlock],by simp,by simp⟩
 .refine⟨?_,?_,?_,by simp,by simp⟩<;>simp[Value.ownBlock]
  .exactλe=>u e.symm
  .exact z
theorem MapAt.grown{row:Option Nat}(h:MapAt (λz:Int=>Value.int .i64 z) w b m N)(J:w.grownBy w' row)(I:row≠some b):MapAt (λz:Int=>Value.int .i64 z) w' b m N:=by
 have L:=h.lt;obtain⟨u,g,B,F⟩:=h;exact⟨u,g,(J.block b L (Ne.symm I)).trans B,F⟩
theorem Kept.grown{row:Option Nat}(h:Kept S a w)(g:w.grownBy w' row)(F:∀k,row=some k->k∈S\/a.heap.size<=k):Kept S a w':=by
 refine⟨g.os.trans h.os,g.tape.trans h.tape,g.output.trans h.output,Nat.le_trans h.size g.size,λk z B=>?_⟩;refine(g.block k (Nat.lt_of_lt_of_le z h.size) ?_).trans (h.block k z B);intro e;rcases F k e.symm with u|u
 .exact B u
 .omega
theorem Mw{w Q w1:World}{b mb n N g cap:Nat}(hb:w.heap[b]? =some (.cells #[sl,.map (some mb)] 286 (0,0)))(hM:MapAt (λz:Int=>Value.int .i64 z) w mb m N)(P:b≠mb)(U:sl.ownBlock≠some b)(Z:sl.ownBlock≠some mb)(R:∀k,sl.ownBlock=some k->k∈S)(ab:b∈S)(I:Below w.heap.size w Q)(F:w1.ownsRow 0 289 3 (.slice (some ⟨g,0,none⟩) (n+1) cap) (n+1) xs)(hl:CZ xs (n+1) (upd c n x))(O:Q.grownBy w1 sl.ownBlock)(u:sl.ownBlock=some g\/w.heap.size<=g):dO (w1.setCell ⟨b,0,none⟩ (.slice (some ⟨g,0,none⟩) (n+1) cap)) b g cap (n+1) mb (upd c n x)/\MapAt (λz:Int=>Value.int .i64 z) (w1.setCell ⟨b,0,none⟩ (.slice (some ⟨g,0,none⟩) (n+1) cap)) mb m N/\b≠g/\g≠mb/\Kept S w (w1.setCell ⟨b,0,none⟩ (.slice (some ⟨g,0,none⟩) (n+1) cap))/\(g∈S\/w.heap.size<=g):=by
 have lb:=(Array.getElem?_eq_some_iff.1 hb).1;have lm:=hM.lt
 have T:b≠g:=by
  rintro rfl;rcases u with h|h
  .exact U h
  .omega
 have gm:g≠mb:=by
  rintro rfl;rcases u with h|h
  .exact Z h
  .omega
 have M:w1.heap[b]? =some (.cells #[sl,.map (some mb)] 286 (0,0)):=(O.block b (Nat.lt_of_lt_of_le lb I.size) (Ne.symm U)).trans ((I.block b lb).trans hb);have L:=(hM.below I).grown O Z;have hI:=aR.O6 F hl;have J:Kept S w w1:=(Kept.of_below I).grown O (λk e=>.inl (R k e));have B:Kept [b] w1 (w1.setCell ⟨b,0,none⟩ (.slice (some ⟨g,0,none⟩) (n+1) cap)):=(Kept.refl _ _).setCell (.inl (by simp));refine⟨⟨?_,hI.kept B (by simpa using Ne.symm T)⟩,L.kept B (by simpa using Ne.symm P),T,gm,J.setCell (.inl ab),?_⟩
 .rw[fA _ _ _ _ _ _ M];rfl
 .rcases u with h|h
  .exact .inl (R g h)
  .exact .inr h
theorem vg{w M O:World}{b n g cap mb:Nat}(T:rf M O b g cap n mb c)(Q:b≠g)(R:b≠mb)(U:g≠mb)(hH:Holds n c hp)(Z:∀z d,hp z=some d->jA d)(u:Kept S w M)(P:b∈S)(B:mb∈S)(F:g∈S\/w.heap.size<=g)(t:Value):pO w S b n hp t (.returned t) O:=by
 obtain⟨q1,J⟩:=T.K7 Q R U hH Z;refine⟨rfl,_,q1,?_,?_⟩
 .intro k I
  simp at I;rcases I with rfl|rfl|rfl
  .exact .inl P
  .exact F
  .exact .inl B
 .refine⟨J.os.trans u.os,J.tape.trans u.tape,J.output.trans u.output,Nat.le_trans u.size J.size,λk I L=>?_⟩
  refine(J.block k (Nat.lt_of_lt_of_le I u.size) ?_).trans (u.block k I L);simp;constructor
  .rintro rfl
   rcases F with F|F
   .exact L F
   .omega
  .rintro rfl;exact L B
theorem zu(w:World)(S:List Nat)(b n:Nat)(hp:Int->Option C)(I F B:Int)(h:bf w S b n hp)(hz:hp I=none)(hc:jA ⟨F,B⟩)(hn:n<=1000000):Calls Tryz.prog 197 #[.pointer (some ⟨b,0,none⟩),.int .i64 I,.agg #[.int .i64 F,.int .i64 B]] w (pO w S b (n+1) (hset hp I (some ⟨F,B⟩)) (.bool true)):=by
 have ao:=h.lt;obtain⟨mb,m,N,c,sl,R,hM,M,hR,hP,hH,hD,hL,hC⟩:=h;have lb:=(Array.getElem?_eq_some_iff.1 R).1;have lm:=hM.lt;have Z:=hid (Holds.push hH ⟨⟨F,B⟩,I⟩ hz);have ad:=hid (sF.push hD hH ⟨⟨F,B⟩,I⟩ hz);have al:=hid (hP.push ⟨⟨F,B⟩,I⟩);have ai:=hid (IA (x:=⟨⟨F,B⟩,I⟩) hL);have U:=hid (FV (i:=I) hC hc);obtain⟨ag,am,aS,ab,ac⟩:=hR.own M;have aS:=hid aS;obtain⟨xs,J,z⟩:=hR.owns;have hl:=BR (hM.below (w':=w.alloc (.cells #[.int .i64 F,.int .i64 B] 44)) (af (Below.refl _ _))) (hP.none hH hz);have z:=hid (z.push J.1 ⟨⟨F,B⟩,I⟩);obtain⟨i0,aq,aw,ax,ay⟩:=info_parts IE;have k0:w.cell? ⟨b,0,none⟩=some sl:=by simp[World.cell?,R]
 have k1:w.cell? ⟨b,1,none⟩=some (.map (some mb)):=by simp[World.cell?,R]
 have kf:w.frozen? ⟨b,0,none⟩=false:=by simp[World.frozen?,R]
 have Hb:=hid R;have HM:=hid hM;clear R hM hR hP hH hD hL hC hz;go_enter Tryz.func197,Tryz.ntmps197;go_upto_region 1 with(fail);refine au ?_;intro W P;have HW:Below w.heap.size w W:=by rw[P];(repeat' (first|exact Below.refl _ _|assumption|apply aj|apply ah|apply af|(refine aa ?_ (by assumption))))
 have a1:w.heap.size<W.heap.size:=by rw[P];simp
 have d1:W.cell? ⟨w.heap.size,0,none⟩=some (.int .i64 F):=by rw[P];go_simp
 have d2:W.cell? ⟨w.heap.size,1,none⟩=some (.int .i64 B):=by rw[P];go_simp
 rw[<-P]at hl;have Q:W.ownsRow 0 289 3 sl n xs:=by rw[P];exact J.alloc _
 clear P
 have an:sl.ownBlock≠some w.heap.size:=by
  intro e;have:=aS.out _ e;have:=ao _ this;omega
 have w0:=(HW.cell (p:=⟨b,0,none⟩) lb).trans k0;have w1:=(HW.cell (p:=⟨b,1,none⟩) lb).trans k1;have wf:=(HW.frozen (p:=⟨b,0,none⟩) lb).trans kf
 have a0:∀o,(W.alloc o).drew.frozen? ⟨b,0,none⟩=false:=λo=>by
  have:=((af (Below.refl _ W) (o:=o)).drew.frozen (p:=⟨b,0,none⟩) (by simp;omega)).trans wf;exact this
 have aE:∀o,(W.alloc o).drew.cell? ⟨b,0,none⟩=some sl:=λo=>by
  have:=((af (Below.refl _ W) (o:=o)).drew.cell (p:=⟨b,0,none⟩) (by simp;omega)).trans w0;exact this
 clear k0 k1 kf J;go_upto_region 3 with(fail)
 go_region_law
  ((refine step_append_lies _ (by rfl) _ _ _ (by rfl) 0 289 i0 _ 3 24 Tryz.underlying284 aq aw ax ay rfl (by omega) sl n xs (by rfl) ((Q.alloc _).drew)
     ⟨W.heap.size,0,none⟩ 1 1 [.int .i64 F,.int .i64 B,.int .i64 I] (by rfl) (by rfl) (World.news_of_block (cs:=#[.int .i64 F,.int .i64 B,.int .i64 I]) (t:=289) (fr:=(0,0)) (heap_alloc_new W _)) (by simp[Value.oneCell'])
     (by omega) (by unfold maxLen;omega) (by omega) (by simp) (W.heap.size+1) (by simp) ?_;intro g O w1 L u T ar;have u0:=(u.cell_far ⟨b,0,none⟩ (by simp;omega) (Ne.symm ag)).trans (aE _);have u1:=(u.frozen_far ⟨b,0,none⟩ (by simp;omega) (Ne.symm ag)).trans (a0 _)))
 all_goals
  obtain⟨hI,k,bg,gm,hK,ap⟩:=Mw (x:=⟨⟨F,B⟩,I⟩) (S:=S) Hb.out HM.out M ag am aS.out ab (aa HW (ah (af (Below.refl _ _)))) L z.out u (T.imp_right λe=>by omega);clear L u T ar u0 u1;generalize (w1.setCell ⟨b,0,none⟩ (.slice (some ⟨g,0,none⟩) (n+1) O))=w3 at*;have kb:=hI.1;have x0:w3.cell? ⟨b,0,none⟩=some (.slice (some ⟨g,0,none⟩) (n+1) O):=by simp[World.cell?,kb]
  have cU:=hid (K9 w3 b g O (n+1) mb N (upd c n ⟨⟨F,B⟩,I⟩) m n hI k (by omega) bg M gm (Holds.cc Z.out U.out) ai.out ad.out (by rw[upd_same];exact al.out));clear kb hI k;go_wp2_with fail;(with_reducible refine(cU.out).mono ?_);rintro e w4 ⟨rfl,hF⟩;have hE:=vg hF bg M gm Z.out U.out hK ab ac ap (.bool true);clear hF hK;go_wp2;go_ret;exact hE
theorem aR.set2(h:aR w b cap n c){i:Nat}(Q:i<n)(x:It)(P:x.id=(c i).id):aR ((w.setCell ⟨b,i*3,none⟩ (.int .i64 x.c.s)).setCell ⟨b,i*3+1,none⟩ (.int .i64 x.c.d)) b cap n (upd c i x):=by
 obtain⟨F,I,B,J,L,M⟩:=h;refine⟨F,I,_,fA _ _ _ _ _ _ (fA _ _ _ _ _ _ J),by simp[L],?_⟩;intro k O;obtain⟨u,z,g⟩:=M k O;by_cases e:k=i
 .subst e
  simp only[Array.getElem?_setIfInBounds,Array.size_setIfInBounds,upd];simp[g,P];omega
 .simp only[Array.getElem?_setIfInBounds,upd,if_neg e]
  rw[if_neg (by omega),if_neg (by omega),if_neg (by omega),if_neg (by omega),if_neg (by omega),if_neg (by omega)];exact⟨u,z,g⟩
theorem zw(w:World)(S:List Nat)(b n:Nat)(hp:Int->Option C)(J u g es ed:Int)(t:Bool)(h:bf w S b n hp)(hz:hp J=some ⟨es,ed⟩)(hc:jA ⟨u,g⟩)(ht:decide (C.cmp ⟨u,g⟩ ⟨es,ed⟩<0)=t):Calls Tryz.prog 197 #[.pointer (some ⟨b,0,none⟩),.int .i64 J,.agg #[.int .i64 u,.int .i64 g]] w (pO w S b n (if t=true then hset hp J (some ⟨u,g⟩)else hp) (.bool t)):=by
 have h0:=h;have H0:=hid h0;obtain⟨mb,m,N,c,sl,hb,hM,an,hR,hP,hH,hD,hL,hC⟩:=h;have lb:=(Array.getElem?_eq_some_iff.1 hb).1;have lm:=hM.lt;obtain⟨k,P,F,a4⟩:=hP.some hH hz;have hl:=Eg (hM.below (w':=w.alloc (.cells #[.int .i64 u,.int .i64 g] 44)) (af (Below.refl _ _))) a4;obtain⟨ag,am,aS,ab,a8⟩:=hR.own an;rcases hR with⟨_,bk,_⟩|⟨I,Q,rfl,hI,al,ap,hS⟩
 .omega
 have lr:=hI.lt;have bj:=hI.1;have ao:I∈S:=by rw[hS];simp
 have ac:=hC _ _ hz;have ar:=hid (Holds.turn hH hD P ⟨⟨u,g⟩,J⟩ (by rw[F]));have bd:=hid (sF.turn hD P ⟨⟨u,g⟩,J⟩ (by rw[F]));have bg:=hid (hP.turn P ⟨⟨u,g⟩,J⟩ (by rw[F]));have aq:=hid (FV (i:=J) hC hc)
 have ai:t=true->jO n (upd c k ⟨⟨u,g⟩,J⟩) k:=by
  intro e;refine Iz P hL (It.le_of_lt ?_);rw[F];rw[e]at ht;exact .inl (C.fo.1 (of_decide_eq_true ht))
 have ai:=hid ai;have a3:=hid (show(⟨⟨u,g⟩,J⟩:It).id=(c k).id by rw[F]);obtain⟨Z,T,c3⟩:=hI.cells P;rw[F]at Z T c3;simp only at Z T c3;have k0:w.cell? ⟨b,0,none⟩=some (.slice (some ⟨I,0,none⟩) n Q):=by simp[World.cell?,hb]
 have k1:w.cell? ⟨b,1,none⟩=some (.map (some mb)):=by simp[World.cell?,hb]
 have cL:=qa u g es ed;rw[ht]at cL;have cL:=hid (λw=>cL w hc.1 hc.2 ac.1 ac.2);have Hb:=hid hb;have HM:=hid hM;have HI:=hid hI;clear hb hM hP hH hD hL hC hz F a4 ht hI hS ac aS c3 h0;go_enter Tryz.func197,Tryz.ntmps197;go_upto_region 1 with(fail);refine au ?_;intro W hW;have HW:Below w.heap.size w W:=by rw[hW];(repeat' (first|exact Below.refl _ _|assumption|apply aj|apply ah|apply af|(refine aa ?_ (by assumption))))
 have a0:w.heap.size<W.heap.size:=by rw[hW];simp
 have d1:W.cell? ⟨w.heap.size,0,none⟩=some (.int .i64 u):=by rw[hW];go_simp
 have d2:W.cell? ⟨w.heap.size,1,none⟩=some (.int .i64 g):=by rw[hW];go_simp
 rw[<-hW]at hl;clear hW;have w0:=(HW.cell (p:=⟨b,0,none⟩) lb).trans k0;have w1:=(HW.cell (p:=⟨b,1,none⟩) lb).trans k1;have e1:=(HW.cell (p:=⟨I,k*3,none⟩) lr).trans Z;have e2:=(HW.cell (p:=⟨I,k*3+1,none⟩) lr).trans T;clear k0 k1 Z T;have a9:=cell_regrown d1;have ba:=cell_regrown d2;have bi:=cell_regrown w0;have bb:=cell_regrown e1;have bc:=cell_regrown e2;have HB:=Below.refl W.heap.size W;go_upto_region 6 with(fail);refine wp_region_quiet_below (by kernel_rfl) (by kernel_rfl) ?_;repeat (first|go_big_quiet_step (with_reducible exact Calls.regrown_of (cL.out _))|quiet_step (with_reducible exact Calls.regrown_of (cL.out _)))
 refine wpQuiet_nil ?_;intro _ bh;obtain⟨⟨dq,osq⟩,a5⟩:=bh;have L:=aa HB (below_regrown W dq osq);have U:=below_regrown W dq osq;subst a5;generalize grow (redrawn W dq) osq=w2 at L U⊢;have B:=aa HW L;have d1:=(L.cell (by exact a0)).trans d1;have d2:=(L.cell (by exact a0)).trans d2;have w0:=(B.cell (p:=⟨b,0,none⟩) lb).trans (by simp[World.cell?,Hb.out]:w.cell? ⟨b,0,none⟩=some (.slice (some ⟨I,0,none⟩) n Q));clear a9 ba bi bb bc e1 e2 w1 hl U;cases t with
 |false=>
  go_wp2;go_ret;exact⟨rfl,S,H0.out.below B,λk P=>.inl P,.of_below B⟩
 |true=>
  have R:=HI.out.below B;have be:=HM.out.below B;have U:=(B.block b lb).trans Hb.out;have a6:=R.frozen (k*3);have a7:=R.frozen (k*3+1);obtain⟨Z,T,c3⟩:=R.cells P;clear c3;go_wp2_with fail;go_still_tail 8,(by kernel_rfl);change wpList _ _ _ _ _ w2.drew;have M:Below w.heap.size w w2.drew:=ah B;clear R be U a6 a7 Z T d1 d2 w0 L;generalize w2.drew=w3 at*;have O:=HI.out.below M;have ay:=HM.out.below M;have a1:=(M.block b lb).trans Hb.out;have a6:=O.frozen (k*3);have a7:=O.frozen (k*3+1);obtain⟨Z,T,c3⟩:=O.cells P;clear c3;have aw:=O.set2 P ⟨⟨u,g⟩,J⟩ a3.out;have ad:Kept [I] w3 ((w3.setCell ⟨I,k*3,none⟩ (.int .i64 u)).setCell ⟨I,k*3+1,none⟩ (.int .i64 g)):=(((Kept.refl _ _).setCell (.inl (by simp))).setCell (.inl (by simp)));have ax:Kept S w ((w3.setCell ⟨I,k*3,none⟩ (.int .i64 u)).setCell ⟨I,k*3+1,none⟩ (.int .i64 g)):=((Kept.of_below M).setCell (.inl ao)).setCell (.inl ao);have aE:=ay.kept ad (by simpa using Ne.symm ap)
  have a2:=(ad.block b (by have:=M.size;omega) (by simpa using al)).trans a1;have H4:=hid (show dO _ b I Q n mb (upd c k ⟨⟨u,g⟩,J⟩)/\MapAt (λz:Int=>Value.int .i64 z) _ mb m N/\Kept S w _ from⟨⟨a2,aw⟩,aE,ax⟩);clear O ay a1 aw ad aE a2 ax;go_wp2_with fail;generalize ((w3.setCell ⟨I,k*3,none⟩ (.int .i64 u)).setCell ⟨I,k*3+1,none⟩ (.int .i64 g))=w4 at*;have cU:=hid (K9 w4 b I Q n mb N (upd c k ⟨⟨u,g⟩,J⟩) m k H4.out.1 H4.out.2.1 P al an ap (Holds.cc ar.out aq.out) (ai.out (by simp)) bd.out (by rw[upd_same];exact bg.out));have hK:=H4.out.2.2;clear H4;(with_reducible refine(cU.out).mono ?_);rintro e w5 ⟨rfl,hF⟩;have hE:=vg hF al an ap ar.out aq.out hK ab a8 (.inl ao) (.bool true);clear hF hK;go_wp2;go_ret;exact hE
end Go.Proofs.YtokhnobcincfjaaGreatDoor
