/- Lemmas of this claim: RangePut, MapEnt. -/
import Derived.Test.YtnifggkjieemeaaGreatDoorKNNs7
set_option linter.unusedVariables false
set_option linter.unusedSimpArgs false
set_option linter.unusedSectionVars false
namespace Go.Proofs.YtnifggkjieemeaaGreatDoor
section
open Go.RowKit Go.Sort
open Go.ChangeMaps (setBlock)
theorem qi{α:Type}(p:α->Bool)(f:α->α)(h:∀x,p (f x)=p x):∀(l:List α)(i:Nat),((l.modify i f).filter p).length=(l.filter p).length
 |[],i=>rS
 |x::l,0=>by
  simp only[List.modify_zero_cons,List.filter_cons,h];split<;>rfl
 |x::l,i+1=>by
  simp only[List.modify_succ_cons,List.filter_cons];have g:=qi p f h l i;split<;>simp[g]
section
variable {P:Program} {kt et mt:TypeId} {K:Type} [DecidableEq K] {kf:K->Value} {w:World} {b r cnt:Nat} {m:K->Option Value} {left:K->Prop}
theorem aO.store(F:jC P kt kf)(ht:P.underlying mt=some (.map kt et))(h:aO kf w b r m left cnt)(k:K)(v:Value)(hk:m k≠none):∃w',(Instr.mapUpdate mt (.map (some b)) (kf k) v).run P w=.ok () w'/\aO kf w' b r (aN m k (some v)) left cnt/\Kept [b] w w':=by
 have ab:=h.lt;obtain⟨M,R,S,J,c0,hb,hS,h1,h2,hr,ad,Z,am,ao,ar,aw⟩:=h;have ap:r≠b:=by intro e;rw[e,hb]at hr;cases hr
 have al:∀e∈M.toList,∃j,e.key=kf j:=λe O=>let ⟨k,a,_⟩:=h1 e O;⟨k,a⟩
 rcases F.find M.toList k w al with⟨hf,aq⟩|⟨i,e,hf,T,O⟩
 .exfalso
  cases ac:m k with
  |none=>exact hk ac
  |some u=>
   obtain⟨e,O,ag,_⟩:=h2 k u ac;exact absurd ag (aq e O)
 .have Q:e∈M.toList:=Ze T
  obtain⟨k',a,a2⟩:=h1 e Q;obtain rfl:k=k':=F.inj _ _ (O.symm.trans a);have aa:M[i]? =some e:=by rw[<-ZB];exact T
  have L:∀j,(M.modify i λe=>{e with key:=kf k,val:=v}).toList[j]? =if i=j then(M.toList[j]?).map (λe=>{e with key:=kf k,val:=v})else M.toList[j]?:=by
   intro j;simp only[ZB,Array.getElem?_modify]
  have z:∀x∈(M.modify i λe=>{e with key:=kf k,val:=v}).toList,∃y∈M.toList,x.born=y.born/\x.key=y.key/\((x.key=kf k/\x.val=v)\/(x.val=y.val/\y.key≠kf k)):=by
   intro x I;obtain⟨j,B⟩:=Zo I;rw[L]at B;by_cases g:i=j
   .subst g
    rw[if_pos rfl,T]at B;simp at B;subst B;exact⟨e,Q,rfl,O.symm,.inl ⟨rfl,rfl⟩⟩
   .rw[if_neg g]at B
    exact⟨x,Ze B,rfl,rfl,.inr ⟨rfl,λq=>g (xJ hS T B (O.trans q.symm))⟩⟩
  refine⟨dW w b (M.modify i λe=>{e with key:=kf k,val:=v}) R,?_,⟨_,R,S,J,c0,fK ab.1 _ _,MapKept.stamped_modify hS i _ (λ_ _=>rfl) (λx _ I=>?_),?_,?_,?_,?_,?_,?_,?_,ar,aw⟩,dU _ _ _ _⟩
  .simp[Instr.mapUpdate,run_underlying ht,MapKept.run_getObj_map hb,F.check,hf,aa,O,F.stays,MapKept.run_setObj_map _ hb,Result.andThen,dW]
  .rw[aa]at I;injection I with I;subst I;exact O.symm
  .intro x I
   obtain⟨y,hy,g,e2,q|⟨q1,q2⟩⟩:=z x I
   .exact⟨k,q.1,by unfold aN;rw[if_pos rfl,q.2]⟩
   .obtain⟨k2,U,c2⟩:=h1 y hy
    refine⟨k2,e2.trans U,?_⟩;unfold aN;rw[if_neg,c2,q1];rintro rfl;exact q2 U
  .intro j u B
   unfold aN at B;by_cases g:j=k
   .subst g
    rw[if_pos rfl]at B;injection B with B
    refine⟨{e with key:=kf j,val:=v},Ze (i:=i) ?_,rfl,B⟩;rw[L,if_pos rfl,T];rfl
   .rw[if_neg g]at B
    obtain⟨x,I,U,c2⟩:=h2 j u B;obtain⟨l,hl⟩:=Zo I;refine⟨x,Ze (i:=l) ?_,U,c2⟩;rw[L,if_neg,hl];rintro rfl;rw[T]at hl;injection hl with hl
    subst hl;exact g (F.inj _ _ (U.symm.trans O))
  .exact((dU w b _ R).block r ab.2 (by simpa using ap)).trans hr
  .intro x I
   obtain⟨y,hy,g,_⟩:=z x I;rw[g];exact ad y hy
  .rw[<-Z]
   have g:∀a:Array MapEntry,(leftOf a J).size=(a.toList.filter λe=>!J.contains e.born).length:=λa=>by
    unfold leftOf;rw[<-Array.length_toList,Array.toList_filter]
   rw[g,g,Array.toList_modify];exact qi (λe:MapEntry=>!J.contains e.born) (λe:MapEntry=>{e with key:=kf k,val:=v}) (λ_=>rfl) _ _
  .intro x I k2 ax
   obtain⟨y,hy,g,e2,_⟩:=z x I;rw[am y hy k2 (e2.symm.trans ax),g]
  .intro k2 ai
   unfold aN;split
   .simp
   .exact ao k2 ai
end
end
section
open Go.RowKit Go.Sort
def TZ{K:Type}(kf:K->Value)(w:World)(b:Nat)(k:K)(st:Nat):Prop:=∃(es:Array MapEntry)(clk i:Nat)(e:MapEntry),w.heap[b]? =some (.map es clk)/\es.toList[i]? =some e/\e.key=kf k/\e.born=st
section
variable {P:Program} {kt et mt:TypeId} {K:Type} [DecidableEq K] {kf:K->Value} {w:World} {b n:Nat} {m:K->Option Value}
theorem RL{es:Array MapEntry}{k i:Nat}{e:MapEntry}(B:MapKept.Stamped es k)(u:es[i]? =some e):es.findIdx? (λx=>((x.born:Int)==((e.born:Nat):Int)))=some i:=by
 have z:=B.2.1;obtain⟨L,M⟩:=Za.1 u;rw[Array.findIdx?_eq_some_iff_getElem];refine⟨L,by rw[M];simp,λj I J=>?_⟩;simp only[beq_iff_eq]at J;have F:es[j].born=e.born:=om
 have g:(es.toList.map (·.born))[j]? =some e.born:=by
  rw[Zy,ZB,Array.getElem?_eq_getElem om,Option.map_some,F]
 have m:(es.toList.map (·.born))[i]? =some e.born:=by
  rw[Zy,ZB,u,Option.map_some]
 have:=(List.getElem?_inj (Zb.1 g).1 z).1 (g.trans m.symm);omega
theorem MapAt.entry(F:jC P kt kf)(ht:P.underlying mt=some (.map kt et))(h:MapAt kf w b m n){z:Value}(hz:∀w,(zeroValue et).run P w=.ok z w)(k:K):∃w' u st,(Instr.mapEntry mt (.map (some b)) (kf k)).run P w=.ok (.tuple #[u,rI ((st:Nat):Int)]) w'/\MapAt kf w' b (aN m k (some u)) (if(m k).isSome then n else n+1)/\TZ kf w' b k st/\Kept [b] w w':=by
 have I:=h.lt;obtain⟨B,g,Z,hS,hn,U,h2⟩:=h;have ab:∀e∈B.toList,∃j,e.key=kf j:=λe J=>let ⟨k,a,_⟩:=U e J;⟨k,a⟩
 rcases F.find B.toList k w ab with⟨hf,M⟩|⟨i,e,hf,hi,J⟩
 .have hm:m k=none:=by
   cases ac:m k with
   |none=>rfl
   |some v=>
    obtain⟨e,J,aa,_⟩:=h2 k v ac;exact absurd aa (M e J)
  refine⟨dW w b (B.push {key:=kf k,val:=z,born:=g}) (g+1),z,g,?_,⟨_,_,fK I _ _,MapKept.stamped_push hS M,by simp[hm,hn],?_,?_⟩,⟨_,_,B.size,{key:=kf k,val:=z,born:=g},fK I _ _,rS,rfl,rfl⟩,dU _ _ _ _⟩
  .simp[Instr.mapEntry,run_underlying ht,MapKept.run_getObj_map Z,F.check,hf,hz,MapKept.run_setObj_map _ Z,Result.andThen,dW,goInt]
  .intro x O
   simp only[Array.toList_push,Zl,List.mem_singleton]at O;rcases O with O|rfl
   .obtain⟨j,a,Q⟩:=U x O
    refine⟨j,a,?_⟩;unfold aN;rw[if_neg,Q];rintro rfl;exact M x O a
   .exact⟨k,rfl,by unfold aN;rw[if_pos rfl]⟩
  .intro j u L
   simp only[Array.toList_push,Zl,List.mem_singleton];unfold aN at L;by_cases e:j=k
   .subst e
    rw[if_pos rfl]at L;injection L with L
    exact⟨_,.inr rfl,rfl,L⟩
   .rw[if_neg e]at L
    obtain⟨x,O,a,Q⟩:=h2 j u L;exact⟨x,.inl O,a,Q⟩
 .have S:e∈B.toList:=Ze hi
  obtain⟨k',a,Q⟩:=U e S;obtain rfl:k=k':=F.inj _ _ (J.symm.trans a);have R:B[i]? =some e:=by rw[<-ZB];exact hi
  have T:B.modify i (λe=>{e with key:=kf k})=B:=by
   apply Array.ext';apply List.ext_getElem?;intro j;simp only[ZB,Array.getElem?_modify];split
   .rename_i e1;subst e1;rw[R];simp only[Option.map_some];rw[<-J]
   .rfl
  have ad:aN m k (some e.val)=m:=by
   funext j;unfold aN;split
   .rename_i e1;rw[e1,Q]
   .rfl
  refine⟨dW w b B g,e.val,e.born,?_,?_,⟨B,g,i,e,fK I _ _,hi,J,rfl⟩,dU _ _ _ _⟩
  .simp[Instr.mapEntry,run_underlying ht,MapKept.run_getObj_map Z,F.check,hf,R,J,F.stays,MapKept.run_setObj_map _ Z,Result.andThen,dW,T,goInt]
  .rw[ad,Q]
   exact⟨B,g,fK I _ _,hS,by simp[hn],U,h2⟩
theorem MapAt.lay(F:jC P kt kf)(h:MapAt kf w b m n){k:K}{st:Nat}(hE:TZ kf w b k st)(v:Value):∃w',(Instr.entryStore mt (.map (some b)) (rI ((st:Nat):Int)) v).run P w=.ok () w'/\MapAt kf w' b (aN m k (some v)) n/\Kept [b] w w':=by
 have ab:=h.lt;obtain⟨L,U,hb,Z,hn,h1,h2⟩:=h;obtain⟨ag,ad,i,e,I,M,Q,ac⟩:=hE;rw[hb]at I;injection I with I
 injection I with B e2
 subst B;subst e2;have aa:L[i]? =some e:=by rw[<-ZB];exact M
 obtain⟨k',a,a2⟩:=h1 e (Ze M);obtain rfl:k=k':=F.inj _ _ (Q.symm.trans a)
 have J:L.findIdx? (λx=>((x.born:Int)==((st:Nat):Int)))=some i:=by
  rw[<-ac];exact RL Z aa
 have z:∀j,(L.modify i λe=>{e with val:=v}).toList[j]? =if i=j then(L.toList[j]?).map (λe=>{e with val:=v})else L.toList[j]?:=by
  intro j;simp only[ZB,Array.getElem?_modify]
 refine⟨dW w b (L.modify i λe=>{e with val:=v}) U,?_,⟨_,_,fK ab _ _,MapKept.stamped_modify Z i _ (λ_ _=>rfl) (λx _ S=>rfl),by simp[hn],?_,?_⟩,dU _ _ _ _⟩
 .simp[Instr.entryStore,MapKept.run_getObj_map hb,asInt,asIntOf,J,MapKept.run_setObj_map _ hb,Result.andThen,dW]
 .intro x S
  obtain⟨j,g⟩:=Zo S;rw[z]at g;by_cases B:i=j
  .subst B
   rw[if_pos rfl,M]at g;simp at g;subst g;exact⟨k,Q,by unfold aN;rw[if_pos rfl]⟩
  .rw[if_neg B]at g
   obtain⟨k2,O,T⟩:=h1 x (Ze g);refine⟨k2,O,?_⟩;unfold aN;rw[if_neg,T];rintro rfl;exact B (xJ Z M g (Q.trans O.symm))
 .intro j u g
  unfold aN at g;by_cases B:j=k
  .subst B
   rw[if_pos rfl]at g;injection g with g
   refine⟨{e with val:=v},Ze (i:=i) ?_,Q,g⟩;rw[z,if_pos rfl,M];rfl
  .rw[if_neg B]at g
   obtain⟨x,S,O,T⟩:=h2 j u g;obtain⟨l,R⟩:=Zo S;refine⟨x,Ze (i:=l) ?_,O,T⟩;rw[z,if_neg,R];rintro rfl;rw[M]at R;injection R with R
   subst R;exact B (F.inj _ _ (O.symm.trans Q))
end
theorem Q0{K:Type}[DecidableEq K](m:K->Option Value)(k:K)(u v:Option Value):aN (aN m k u) k v=aN m k v:=by
 funext j;unfold aN;split<;>rfl
