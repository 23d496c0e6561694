/- Lemmas of this claim: Maps, MapPair, MapRange. -/
import Derived.Test.YtnifggkjieemeaaGreatDoorKNNs4
set_option linter.unusedVariables false
set_option linter.unusedSimpArgs false
open Go.Proofs.Tryz
namespace Go.Proofs.YtnifggkjieemeaaGreatDoor
section
open Go.RowKit Go.Sort
structure jC (P:Program) (kt:TypeId) {K:Type} (kf:K->Value):Prop where
 inj:∀a b,kf a=kf b->a=b
 check:∀(em:Bool)(k:K)(w:World),(Instr.checkKey em 10000 kt (kf k)).run P w=.ok () w
 find:∀(es:List MapEntry)(k:K)(w:World),(∀e∈es,∃j,e.key=kf j)->
  ((Instr.findKey kt (kf k) es).run P w=.ok none w/\∀e∈es,e.key≠kf k)\/∃i e,(Instr.findKey kt (kf k) es).run P w=.ok (some (i,e.val)) w/\es[i]? =some e/\e.key=kf k
 stays:∀(k:K)(w:World),(Instr.keyThatStays (kf k) (kf k)).run P w=.ok (kf k) w
theorem aF{P:Program}{kt:TypeId}(u:P.underlying kt=some (.int .i64)):jC P kt (λz:Int=>Value.int .i64 z) where
 inj:=λa b h=>by injection h
 check:=λF k w=>MapKept.run_checkKey u (by simp[MapKept.IsKey]) F 9999
 find:=λB k w h=>by
  have J:∀x∈B,MapKept.IsKey (.int .i64) x.key:=λx L=>by
   obtain⟨j,e⟩:=h x L;rw[e];simp[MapKept.IsKey]
  rcases MapKept.findNow_spec (d:=.int .i64) (k:=rI k) (by simp[MapKept.IsKey]) B 0 J with⟨g,m⟩|⟨j,e,g,m,I⟩
  .exact .inl ⟨MapKept.run_findKey u g,m⟩
  .exact .inr ⟨j,e,by rw[MapKept.run_findKey u g];simp,m,I⟩
 stays:=λk w=>by simp[Instr.keyThatStays,Instr.sameBits]
def MapAt{K:Type}(kf:K->Value)(w:World)(b:Nat)(m:K->Option Value)(n:Nat):Prop:=
 ∃es clk,w.heap[b]? =some (.map es clk)/\MapKept.Stamped es clk/\es.size=n/\(∀e∈es.toList,∃k,e.key=kf k/\m k=some e.val)/\(∀k v,m k=some v->∃e∈es.toList,e.key=kf k/\e.val=v)
def aN{K:Type}[DecidableEq K](m:K->Option Value)(k:K)(v:Option Value):K->Option Value:=λj=>if j=k then v else m j
section
variable {Q:Exit->Act->World->Prop}
variable {P:Program} {kt et mt:TypeId} {K:Type} {kf:K->Value} {w:World} {b n:Nat} {m:K->Option Value}
theorem MapAt.lt(h:MapAt kf w b m n):b<w.heap.size:=by
 obtain⟨u,g,k,_⟩:=h;exact(Za.1 k).1
theorem MapAt.kept{S:List Nat}{w':World}(h:MapAt kf w b m n)(F:Kept S w w')(B:b∉S):MapAt kf w' b m n:=by
 have I:=h.lt;obtain⟨k,g,u,z⟩:=h;exact⟨k,g,(F.block b I B).trans u,z⟩
theorem MapAt.below{w':World}(h:MapAt kf w b m n)(g:Below w.heap.size w w'):MapAt kf w' b m n:=h.kept (S:=[]) (.of_below g) rS
theorem MapAt.made(w:World):MapAt kf (w.alloc (.map #[] 0)) w.heap.size (λ_=>none) 0:=
 ⟨#[],0,by rw[heap_alloc_new],MapKept.stamped_empty 0,rfl,rS,rS⟩
theorem MapAt.look(F:jC P kt kf)(T:P.underlying mt=some (.map kt et))(h:MapAt kf w b m n){z:Value}(U:(zeroValue et).run P w=.ok z w)(k:K):(Instr.lookup mt (.map (some b)) (kf k) true).run P w=.ok (.tuple #[(m k).getD z,.bool (m k).isSome]) w/\(Instr.lookup mt (.map (some b)) (kf k) false).run P w=.ok ((m k).getD z) w:=by
 obtain⟨B,Q,S,hS,hn,R,h2⟩:=h;have L:∀e∈B.toList,∃j,e.key=kf j:=λe g=>let ⟨k,a,_⟩:=R e g;⟨k,a⟩
 rcases F.find B.toList k w L with⟨J,O⟩|⟨i,e,J,hi,g⟩
 .have hm:m k=none:=by
   cases M:m k with
   |none=>rfl
   |some v=>
    obtain⟨e,g,I,_⟩:=h2 k v M;exact absurd I (O e g)
  rw[hm];simp[Instr.lookup,run_underlying T,MapKept.run_getObj_map S,F.check,J,U,Result.andThen]
 .have u:e∈B.toList:=Ze hi
  obtain⟨k',a,Z⟩:=R e u;obtain rfl:k=k':=F.inj _ _ (g.symm.trans a);rw[Z];simp[Instr.lookup,run_underlying T,MapKept.run_getObj_map S,F.check,J,U,Result.andThen]
theorem xJ{es:Array MapEntry}{k:Nat}(B:MapKept.Stamped es k){i j:Nat}{x y:MapEntry}(F:es.toList[i]? =some x)(I:es.toList[j]? =some y)(J:x.key=y.key):i=j:=by
 have z:=B.2.2;have g:(es.toList.map (·.key))[i]? =some x.key:=by simp only[Zy,F,Option.map_some]
 have u:(es.toList.map (·.key))[j]? =some x.key:=by simp only[Zy,I,Option.map_some,J]
 have m:i<(es.toList.map (·.key)).length:=(Zb.1 g).1;exact(List.getElem?_inj m z).1 (g.trans u.symm)
theorem MapAt.len(z:P.underlying mt=some (.map kt et))(h:MapAt kf w b m n)(B:TypeId):(Builtin.len_ #[mt] B #[.map (some b)]).run P w=.ok (rI n) w:=by
 obtain⟨F,g,k,L,u,I,J⟩:=h;subst u;simp[Builtin.len_,Builtin.lenOf,run_underlying z,MapKept.run_getObj_map k,Result.andThen];rfl
variable [DecidableEq K]
def dW(w:World)(b:Nat)(es:Array MapEntry)(clk:Nat):World:={w with heap:=w.heap.setIfInBounds b (.map es clk)}
theorem dU(w:World)(b:Nat)(es:Array MapEntry)(g:Nat):Kept [b] w (dW w b es g):=
 ⟨rfl,rfl,rfl,by simp[dW],λk _ m=>by simp only[List.mem_singleton]at m;simp[dW,Ne.symm m]⟩
theorem fK{w:World}{b:Nat}(k:b<w.heap.size)(es:Array MapEntry)(g:Nat):(dW w b es g).heap[b]? =some (.map es g):=by simp[dW,k]
theorem MapAt.store(F:jC P kt kf)(ht:P.underlying mt=some (.map kt et))(h:MapAt kf w b m n)(k:K)(v:Value):∃w',(Instr.mapUpdate mt (.map (some b)) (kf k) v).run P w=.ok () w'/\MapAt kf w' b (aN m k (some v)) (if(m k).isSome then n else n+1)/\Kept [b] w w':=by
 have Q:=h.lt;obtain⟨I,L,hb,hS,hn,h1,h2⟩:=h;have ac:∀e∈I.toList,∃j,e.key=kf j:=λe J=>let ⟨k,a,_⟩:=h1 e J;⟨k,a⟩
 rcases F.find I.toList k w ac with⟨hf,O⟩|⟨i,e,hf,R,J⟩
 .have hm:m k=none:=by
   cases ad:m k with
   |none=>rfl
   |some v=>
    obtain⟨e,J,ab,_⟩:=h2 k v ad;exact absurd ab (O e J)
  refine⟨dW w b (I.push {key:=kf k,val:=v,born:=L}) (L+1),?_,⟨_,_,fK Q _ _,MapKept.stamped_push hS O,by simp[hm,hn],?_,?_⟩,dU _ _ _ _⟩
  .simp[Instr.mapUpdate,run_underlying ht,MapKept.run_getObj_map hb,F.check,hf,MapKept.run_setObj_map _ hb,Result.andThen,dW]
  .intro x z
   simp only[Array.toList_push,Zl,List.mem_singleton]at z;rcases z with z|rfl
   .obtain⟨j,a,S⟩:=h1 x z
    refine⟨j,a,?_⟩;unfold aN;rw[if_neg,S];rintro rfl;exact O x z a
   .exact⟨k,rfl,by unfold aN;rw[if_pos rfl]⟩
  .intro j u g
   simp only[Array.toList_push,Zl,List.mem_singleton];unfold aN at g;by_cases e:j=k
   .subst e
    rw[if_pos rfl]at g;injection g with g
    exact⟨_,.inr rfl,rfl,g⟩
   .rw[if_neg e]at g
    obtain⟨x,z,a,S⟩:=h2 j u g;exact⟨x,.inl z,a,S⟩
 .have aa:e∈I.toList:=Ze R
  obtain⟨k',a,S⟩:=h1 e aa;obtain rfl:k=k':=F.inj _ _ (J.symm.trans a);have U:I[i]? =some e:=by rw[<-ZB];exact R
  have B:∀j,(I.modify i λe=>{e with key:=kf k,val:=v}).toList[j]? =if i=j then(I.toList[j]?).map (λe=>{e with key:=kf k,val:=v})else I.toList[j]?:=by
   intro j;simp only[ZB,Array.getElem?_modify]
  refine⟨dW w b (I.modify i λe=>{e with key:=kf k,val:=v}) L,?_,⟨_,_,fK Q _ _,MapKept.stamped_modify hS i _ (λ_ _=>rfl) (λx _ z=>?_),by simp[S,hn],?_,?_⟩,dU _ _ _ _⟩
  .simp[Instr.mapUpdate,run_underlying ht,MapKept.run_getObj_map hb,F.check,hf,U,J,F.stays,MapKept.run_setObj_map _ hb,Result.andThen,dW]
  .rw[U]at z;injection z with z;subst z;exact J.symm
  .intro x z
   obtain⟨j,g⟩:=Zo z;rw[B]at g;by_cases M:i=j
   .subst M
    rw[if_pos rfl,R]at g;simp at g;subst g;exact⟨k,rfl,by unfold aN;rw[if_pos rfl]⟩
   .rw[if_neg M]at g
    obtain⟨k2,T,c2⟩:=h1 x (Ze g);refine⟨k2,T,?_⟩;unfold aN;rw[if_neg,c2];rintro rfl;exact M (xJ hS R g (J.trans T.symm))
  .intro j u g
   unfold aN at g;by_cases M:j=k
   .subst M
    rw[if_pos rfl]at g;injection g with g
    refine⟨{e with key:=kf j,val:=v},Ze (i:=i) ?_,rfl,g⟩;rw[B,if_pos rfl,R];rfl
   .rw[if_neg M]at g
    obtain⟨x,z,T,c2⟩:=h2 j u g;obtain⟨l,Z⟩:=Zo z;refine⟨x,Ze (i:=l) ?_,T,c2⟩;rw[B,if_neg,Z];rintro rfl;rw[R]at Z;injection Z with Z
    subst Z;exact M (F.inj _ _ (T.symm.trans J))
theorem MapAt.drop(F:jC P kt kf)(ht:P.underlying mt=some (.map kt et))(h:MapAt kf w b m n)(k:K)(ty:TypeId):∃w',(Builtin.delete_ #[mt,kt] ty #[.map (some b),kf k]).run P w=.ok (.tuple #[]) w'/\MapAt kf w' b (aN m k none) (if(m k).isSome then n-1 else n)/\Kept [b] w w':=by
 have R:=h.lt;obtain⟨g,L,Z,hS,hn,U,h2⟩:=h;have ab:∀e∈g.toList,∃j,e.key=kf j:=λe B=>let ⟨k,a,_⟩:=U e B;⟨k,a⟩
 rcases F.find g.toList k w ab with⟨hf,ag⟩|⟨i,e,hf,Q,B⟩
 .have hm:m k=none:=by
   cases ac:m k with
   |none=>rfl
   |some v=>
    obtain⟨e,B,aa,_⟩:=h2 k v ac;exact absurd aa (ag e B)
  have T:aN m k none=m:=by
   funext j;unfold aN;split
   .rename_i e;rw[e,hm]
   .rfl
  refine⟨dW w b g L,?_,⟨_,_,fK R _ _,hS,by simp[hm,hn],by rw[T];exact U,by rw[T];exact h2⟩,dU _ _ _ _⟩;simp[Builtin.delete_,run_underlying ht,MapKept.run_getObj_map Z,F.check,hf,MapKept.run_setObj_map _ Z,Result.andThen,dW]
 .have S:e∈g.toList:=Ze Q
  obtain⟨k',a,a2⟩:=U e S;obtain rfl:k=k':=F.inj _ _ (B.symm.trans a);have M:i<g.size:=by simpa using(Zb.1 Q).1
  have I:(g.eraseIdxIfInBounds i).toList=g.toList.eraseIdx i:=by
   unfold Array.eraseIdxIfInBounds;rw[dif_pos M,Array.toList_eraseIdx]
  refine⟨dW w b (g.eraseIdxIfInBounds i) L,?_,⟨_,_,fK R _ _,MapKept.stamped_erase hS i,?_,?_,?_⟩,dU _ _ _ _⟩
  .simp[Builtin.delete_,run_underlying ht,MapKept.run_getObj_map Z,F.check,hf,MapKept.run_setObj_map _ Z,Result.andThen,dW]
  .rw[a2,<-Array.length_toList,I,List.length_eraseIdx,Array.length_toList,if_pos M,hn];rfl
  .intro x hx
   rw[I]at hx;obtain⟨j,ad,z⟩:=List.mem_eraseIdx_iff_getElem?.1 hx;obtain⟨k2,J,c2⟩:=U x (Ze z);refine⟨k2,J,?_⟩;unfold aN;rw[if_neg,c2];rintro rfl;exact ad (xJ hS z Q (J.trans B.symm))
  .intro j u z
   unfold aN at z;by_cases e1:j=k
   .rw[if_pos e1]at z;cases z
   .rw[if_neg e1]at z
    obtain⟨x,hx,J,c2⟩:=h2 j u z;obtain⟨l,O⟩:=Zo hx;refine⟨x,?_,J,c2⟩;rw[I];refine List.mem_eraseIdx_iff_getElem?.2 ⟨l,?_,O⟩;rintro rfl;rw[Q]at O;injection O with O
    subst O;exact e1 (F.inj _ _ (J.symm.trans B))
theorem bV{z:Array Oper}{g:List Oper}{o:Oper}{a:Act}(S:o.guard=none)(M L O:Operand)(J:o.op=Op.mapUpdate mt M L O)(F:jC P kt kf)(Z:P.underlying mt=some (.map kt et))(h:MapAt kf w b m n)(U:a.eval M=.map (some b))(k:K)(T:a.eval L=kf k)(v:Value)(hv:a.eval O=v)(R:∀B,MapAt kf B b (aN m k (some v)) (if(m k).isSome then n else n+1)->Kept [b] w B->wpList P z Q g (a.put o.dst undef) B):wpList P z Q (o::g) a w:=by
 refine wpList_plain S λK' I=>?_;obtain⟨B,u,r1,r2⟩:=h.store F Z k v;unfold Oper.wp;simp[execOp,J,U,T,hv,u,Result.andThen];exact I _ _ (R B r1 r2)
theorem ug{z:Array Oper}{g:List Oper}{o:Oper}{a:Act}(R:o.guard=none)(M L:Operand)(J:o.op=Op.call {callee:=Callee.builtin Builtin.delete,args:=#[M,L],argTypes:=#[mt,kt]})(F:jC P kt kf)(U:P.underlying mt=some (.map kt et))(h:MapAt kf w b m n)(T:a.eval M=.map (some b))(k:K)(S:a.eval L=kf k)(O:∀B,MapAt kf B b (aN m k none) (if(m k).isSome then n-1 else n)->Kept [b] w B->wpList P z Q g (a.put o.dst (.tuple #[])) B):wpList P z Q (o::g) a w:=by
 refine wpList_plain R λK' I=>?_;obtain⟨B,u,Z,r2⟩:=h.drop F U k o.type;unfold Oper.wp;simp[execOp,J,resolve,invoke,builtin,T,S,u,Result.andThen];exact I _ _ (O B Z r2)
end
variable {S:Int×Int->Prop}{b:Nat}{w:World}
def kP(p:Int×Int):Value:=.agg #[rI p.1,rI p.2]
theorem Iu(a b c d:Int)(w:World):(Op.equal 229 (.agg #[rI a,rI b]) (.agg #[rI c,rI d])).run prog w=.ok (a==c&&b==d) w:=by
 have u:∀(x y:Int)(g:World),(Op.equalIn (9998+1) 3 (rI x) (rI y)).run prog g=.ok (x==y) g:=λx y g=>by unfold Op.equalIn;go_simp
 show(Op.equalIn (9998+1+1) 229 (.agg #[rI a,rI b]) (.agg #[rI c,rI d])).run prog w=.ok (a==c&&b==d) w;unfold Op.equalIn;go_simp;simp only[List.range',List.forIn_cons,List.forIn_nil,Nat.zero_mul,Nat.one_mul];cases k:(a==c)<;>cases m:(b==d)<;>go_simp
theorem Ir(g:Bool)(a b:Int)(w:World):(Instr.checkKey g 10000 229 (.agg #[rI a,rI b])).run prog w=.ok () w:=by
 show(Instr.checkKey g (9998+1+1) 229 (.agg #[rI a,rI b])).run prog w=.ok () w;have m:∀(x:Int)(k:World),(Instr.checkKey g (9998+1) 3 (rI x)).run prog k=.ok () k:=λx k=>by unfold Instr.checkKey;go_simp
 unfold Instr.checkKey;go_simp;simp only[List.range',List.forIn_cons,List.forIn_nil,Nat.zero_mul,Nat.one_mul];go_simp
theorem Iw(a b:Int)(w:World):(Instr.keyThatStays (.agg #[rI a,rI b]) (.agg #[rI a,rI b])).run prog w=.ok (.agg #[rI a,rI b]) w:=by
 have g:Instr.sameBits 10000 (.agg #[rI a,rI b]) (.agg #[rI a,rI b])=true:=by
  show Instr.sameBits (9998+1+1) (.agg #[rI a,rI b]) (.agg #[rI a,rI b])=true;simp[Instr.sameBits]
 simp[Instr.keyThatStays,g]
theorem uO(p q:Int×Int)(h:kP p=kP q):p=q:=by
 obtain⟨a,b⟩:=p;obtain⟨c,d⟩:=q;simp[kP]at h;exact Prod.ext h.1 h.2
theorem Tk(p q:Int×Int)(w:World):(Op.equal 229 (kP p) (kP q)).run prog w=.ok (decide (p=q)) w:=by
 rw[kP,kP,Iu];congr 1;obtain⟨a,b⟩:=p;obtain⟨c,d⟩:=q;simp[Prod.ext_iff,Bool.decide_and];rfl
theorem Fj(k:Int×Int)(w:World):∀(m:List MapEntry)(i:Nat),(∀e∈m,∃j,e.key=kP j)->
 ((Instr.findAsking 229 (kP k) m i).run prog w=.ok none w/\∀e∈m,e.key≠kP k)\/∃j e,(Instr.findAsking 229 (kP k) m i).run prog w=.ok (some (i+j,e.val)) w/\m[j]? =some e/\e.key=kP k
 |[],i,_=>.inl ⟨by simp[Instr.findAsking],rS⟩
 |e::m,i,h=>by
  obtain⟨j,I⟩:=h e rS;have g:=Tk k j w;rw[<-I]at g;by_cases z:k=j
  .rw[decide_eq_true z]at g
   exact .inr ⟨0,e,by simp[Instr.findAsking,g],rfl,by rw[I,z]⟩
  .rw[decide_eq_false z]at g
   rcases Fj k w m (i+1) (λx u=>h x (by simp[u]))with⟨B,F⟩|⟨L,M,B,F,O⟩
   .refine .inl ⟨by simp[Instr.findAsking,g,B],λx u=>?_⟩
    rcases Zd.1 u with rfl|u
    .intro J;rw[I]at J;exact z (uO _ _ J).symm
    .exact F x u
   .exact .inr ⟨L+1,M,by simp[Instr.findAsking,g,B,Nat.add_assoc,Nat.add_comm 1 L],by simpa using F,O⟩
theorem jP:jC prog 229 kP where
 inj:=uO
 check:=λu k w=>Ir u k.1 k.2 w
 find:=λz k w h=>by
  rw[run_findKey_eq (P:=prog) (k:=229) w kr];rcases Fj k w z 0 h with⟨g,m⟩|⟨j,e,g,m,B⟩
  .exact .inl ⟨g,m⟩
  .exact .inr ⟨j,e,by simpa using g,m,B⟩
 stays:=λk w=>Iw k.1 k.2 w
theorem uB(w:World):(zeroValue 4).run prog w=.ok (.bool false) w:=kr
def fe(w:World)(b:Nat)(S:Int×Int->Prop):Prop:=∃m n,MapAt kP w b m n/\∀k,(m k=some (.bool true)/\S k)\/(m k=none/\¬S k)
theorem fe.kept{T:List Nat}{w w':World}(h:fe w b S)(z:Kept T w w')(u:b∉T):fe w' b S:=by
 obtain⟨m,n,g,k⟩:=h;exact⟨m,n,g.kept z u,k⟩
theorem fe.below{w w':World}(h:fe w b S)(g:Below w.heap.size w w'):fe w' b S:=h.kept (T:=[]) (.of_below g) rS
theorem fe.iff{S g:Int×Int->Prop}(h:fe w b S)(u:∀k,S k↔g k):fe w b g:=by
 obtain⟨m,n,z,B⟩:=h;exact⟨m,n,z,λk=>(B k).imp (And.imp_right (u k).1) (And.imp_right λx y=>x ((u k).2 y))⟩
theorem fe.look(h:fe w b S)(i j:Int):∃t:Bool,(t=true↔S (i,j))/\∀g,Below w.heap.size w g->(Instr.lookup 233 (.map (some b)) (.agg #[rI i,rI j]) false).run prog g=.ok (.bool t) g:=by
 obtain⟨m,n,u,z⟩:=h;rcases z (i,j)with⟨x,y⟩|⟨x,y⟩
 .refine⟨true,by simp[y],λg k=>?_⟩
  have:=((u.below k).look jP underlying233 (uB g) (i,j)).2;rw[x]at this;exact this
 .refine⟨false,by simp[y],λg k=>?_⟩
  have:=((u.below k).look jP underlying233 (uB g) (i,j)).2;rw[x]at this;exact this
theorem fe.put(h:fe w b S)(i j:Int):∃g,(Instr.mapUpdate 233 (.map (some b)) (.agg #[rI i,rI j]) (.bool true)).run prog w=.ok () g/\fe g b (λk=>S k\/k=(i,j))/\Kept [b] w g:=by
 obtain⟨m,n,u,B⟩:=h;obtain⟨g,F,I,J⟩:=u.store jP underlying233 (i,j) (.bool true);refine⟨g,F,⟨_,_,I,λk=>?_⟩,J⟩;unfold aN;by_cases e:k=(i,j)
 .rw[if_pos e];exact .inl ⟨rfl,.inr e⟩
 .rw[if_neg e]
  rcases B k with⟨x,y⟩|⟨x,y⟩
  .exact .inl ⟨x,.inl y⟩
  .exact .inr ⟨x,λz=>z.elim y e⟩
end
section
open Go.RowKit Go.Sort
open Go.ChangeMaps (setBlock)
def aO{K:Type}(kf:K->Value)(w:World)(b r:Nat)(m:K->Option Value)(left:K->Prop)(cnt:Nat):Prop:=
 ∃es clk since seen c0,w.heap[b]? =some (.map es clk)/\MapKept.Stamped es clk/\(∀e∈es.toList,∃k,e.key=kf k/\m k=some e.val)/\(∀k v,m k=some v->∃e∈es.toList,e.key=kf k/\e.val=v)/\
  w.heap[r]? =some (.mapIter (some b) since seen c0)/\(∀x∈es.toList,x.born<since)/\(leftOf es seen).size=cnt/\(∀x∈es.toList,∀k,x.key=kf k->(left k↔seen.contains x.born=false))/\(∀k,left k->m k≠none)/\since<=c0/\since<=clk
section
variable {Q:Exit->Act->World->Prop}
variable {P:Program} {kt et mt:TypeId} {K:Type} {kf:K->Value} {w:World} {b r n cnt:Nat} {m:K->Option Value} {left:K->Prop}
theorem aO.map(h:aO kf w b r m left cnt):∃n,MapAt kf w b m n:=by
 obtain⟨z,g,k,u,L,B,F,I,J,_⟩:=h;exact⟨_,z,g,B,F,rfl,I,J⟩
theorem aO.lt(h:aO kf w b r m left cnt):b<w.heap.size/\r<w.heap.size:=by
 obtain⟨I,u,g,k,F,z,J,L,M,B,_⟩:=h;exact⟨(Za.1 z).1,(Za.1 B).1⟩
theorem aO.kept{S:List Nat}{w':World}(h:aO kf w b r m left cnt)(z:Kept S w w')(R:b∉S)(T:r∉S):aO kf w' b r m left cnt:=by
 obtain⟨U,Z⟩:=h.lt;obtain⟨F,u,g,k,B,I,J,L,M,O,P⟩:=h;exact⟨F,u,g,k,B,(z.block b U R).trans I,J,L,M,(z.block r Z T).trans O,P⟩
theorem aO.below{w':World}(h:aO kf w b r m left cnt)(g:Below w.heap.size w w'):aO kf w' b r m left cnt:=h.kept (S:=[]) (.of_below g) rS rS
theorem aO.left_eq(h:aO kf w b r m left cnt):w.rangeLeft b r=cnt:=by
 obtain⟨J,u,g,k,I,z,_,_,_,B,_,F,_⟩:=h;simp only[World.rangeLeft,z,B];exact F
theorem aO.iff{g:K->Prop}(h:aO kf w b r m left cnt)(J:∀k,left k↔g k):aO kf w b r m g cnt:=by
 obtain⟨M,B,u,z,L,O,P,R,S,T,U,Z,Q,h9,F⟩:=h;exact⟨M,B,u,z,L,O,P,R,S,T,U,Z,λx hx k I=>(J k).symm.trans (Q x hx k I),λk I=>h9 k ((J k).2 I),F⟩
theorem MapAt.range(inj:∀a b,kf a=kf b->a=b)(S:P.underlying mt=some (.map kt et))(h:MapAt kf w b m n):∃o,(Instr.range mt (.map (some b))).run P w=.ok (.pointer (some ⟨w.heap.size,0,none⟩)) (w.alloc o)/\aO kf (w.alloc o) b w.heap.size m (λk=>m k≠none) n:=by
 have z:=h.lt;obtain⟨B,g,J,I,R,F,O⟩:=h;refine⟨_,run_range_map w mt kt et b B g S J,B,g,g,#[],g,((MapKept.heap_alloc w _).2 b z).trans J,I,F,O,(MapKept.heap_alloc w _).1,I.1,by subst R;simp[leftOf],λx T k u=>?_,λk u=>u,Zi _,Zi _⟩;obtain⟨U,L,M⟩:=F x T;obtain rfl:=inj _ _ (u.symm.trans L);simp[M]
theorem aO.next(inj:∀a b,kf a=kf b->a=b)(h:aO kf w b r m left cnt)(ty:TypeId):(cnt=0/\(∀k,¬left k)/\(Instr.next (vP r) false ty).run P w=.ok (.tuple #[.bool false]) w)\/∃k v T J,m k=some v/\left k/\(Instr.next (vP r) false ty).run P w=.ok (.tuple #[.bool true,kf k,v]) T/\aO kf T b r m (λj=>left j/\j≠k) J/\J<cnt/\Kept [r] w T/\T.heap.size=w.heap.size/\(Instr.entry (vP r)).run P T=.ok (.tuple #[kf k,v]) T:=by
 obtain⟨L,z,g,u,c0,hb,hS,h3,h4,hr,M,rfl,R,ab,ao,ac⟩:=h
 have al:r≠b:=by
  intro e;rw[e,hb]at hr;cases hr
 rcases run_next_at (P:=P) w ty r b g c0 u L z hr hb M ao with⟨h0,B⟩|⟨e,he,w1,I,B⟩
 .refine .inl ⟨h0,λk hk=>?_,B⟩
  cases hm:m k with
  |none=>exact ab k hk hm
  |some v=>
   obtain⟨e,he,U,e2⟩:=h4 k v hm;have:=(R e he k U).1 hk;rw[all_seen L u h0 e he]at this;cases this
 .obtain⟨F,ai⟩:=mem_left he
  obtain⟨k,Z,hv⟩:=h3 e F;have am:w1.heap[r]? =some (.mapIter (some b) g u c0):=by rcases I with rfl|rfl<;>exact hr
  have ad:w1.heap[b]? =some (.map L z):=by rcases I with rfl|rfl<;>exact hb
  have hset:=MapKept.heap_set (o':=.mapIter (some b) g (u.push e.born) z) am;have Q:(setBlock w1 r (.mapIter (some b) g (u.push e.born) z)).heap[b]? =some (.map L z):=(hset.2 b (λU=>al U.symm)).trans ad;have S:=(MapKept.stamped_iff L z).1 hS;rw[Z]at B;have aa:=run_entry_at (P:=P) _ r b g u L z e hset.1 Q F S.2.1;rw[Z]at aa;refine .inr ⟨k,e.val,_,_,hv,(R e F k Z).2 ai,B,⟨L,z,g,u.push e.born,z,Q,hS,h3,h4,hset.1,M,rfl,λx hx k' O=>?_,λj hj=>ab j hj.1,ac,ac⟩,left_shrinks L u e he,?_,?_,aa⟩
  .show(left k'/\k'≠k)↔_
   rw[R x hx k' O,contains_push,Bool.or_eq_false_iff]
   have:x.born=e.born↔k'=k:=by
    constructor
    .intro ag
     obtain rfl:=born_inj S.2.1 hx F ag;exact inj _ _ (O.symm.trans Z)
    .rintro rfl
     exact congrArg MapEntry.born (entry_eq_of_key S.2.2 hx F (O.trans Z.symm))
   constructor
   .rintro⟨a1,a2⟩
    exact⟨a1,by rw[Zq];exactλhh=>a2 (this.1 hh)⟩
   .rintro⟨a1,a2⟩
    exact⟨a1,λhh=>by rw[Zq]at a2;exact a2 (this.2 hh)⟩
  .rcases I with rfl|rfl<;>exact⟨rfl,rfl,rfl,by simp[setBlock],λi _ hi=>hset.2 i (λU=>hi (by rw[U];simp))⟩
  .rcases I with rfl|rfl<;>simp[setBlock]
theorem dY{z:Array Oper}{g:List Oper}{o:Oper}{a:Act}(M:o.guard=none)(J:Operand)(I:o.op=Op.range mt J)(inj:∀a b,kf a=kf b->a=b)(R:P.underlying mt=some (.map kt et))(h:MapAt kf w b m n)(O:a.eval J=.map (some b))(L:∀B,aO kf B b w.heap.size m (λk=>m k≠none) n->Below w.heap.size w B->B.heap.size=w.heap.size+1->wpList P z Q g (a.put o.dst (.pointer (some ⟨w.heap.size,0,none⟩))) B):wpList P z Q (o::g) a w:=by
 refine wpList_plain M λT F=>?_;obtain⟨U,u,S⟩:=h.range inj R;unfold Oper.wp;simp[execOp,I,O,u,Result.andThen];exact F _ _ (L _ S ((Below.refl _ _).alloc (Zi _) _) rS)
theorem fD{J:Array Oper}{z:List Oper}{o:Oper}{a:Act}(hg:o.guard=none)(R:Operand)(O:o.op=Op.next R false)(inj:∀a b,kf a=kf b->a=b)(h:aO kf w b r m left cnt)(M:a.eval R=vP r)(F:cnt=0->(∀k,¬left k)->wpList P J Q z (a.put o.dst (.tuple #[.bool false])) w)(I:∀(k:K)(v:Value)(B:World)(g:Nat),m k=some v->left k->aO kf B b r m (λj=>left j/\j≠k) g->g<cnt->Kept [r] w B->B.heap.size=w.heap.size->(Instr.entry (vP r)).run P B=.ok (.tuple #[kf k,v]) B->wpList P J Q z (a.put o.dst (.tuple #[.bool true,kf k,v])) B):wpList P J Q (o::z) a w:=by
 refine wpList_plain hg λK' L=>?_;unfold Oper.wp;rcases h.next (P:=P) inj o.type with⟨S,hl,u⟩|⟨k,v,B,g,T,U,u,Z,h4,h5,h6,h7⟩
 .simp[execOp,O,M,u,Result.andThen]
  exact L _ _ (F S hl)
 .simp[execOp,O,M,u,Result.andThen]
  exact L _ _ (I k v B g T U Z h4 h5 h6 h7)
end
