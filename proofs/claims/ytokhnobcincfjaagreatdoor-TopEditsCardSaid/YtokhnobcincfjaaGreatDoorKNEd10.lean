/- Lemmas of this claim: RangePut, MapEnt. -/
import Derived.Test.YtokhnobcincfjaaGreatDoorKNEd9
set_option linter.unusedVariables false
set_option linter.unusedSimpArgs false
set_option linter.unusedSectionVars false
namespace Go.Proofs.YtokhnobcincfjaaGreatDoor
open Go.RowKit Go.Sort
open Go.ChangeMaps (setBlock)
theorem oq{α:Type}(p:α->Bool)(f:α->α)(h:∀x,p (f x)=p x):∀(l:List α)(i:Nat),((l.modify i f).filter p).length=(l.filter p).length
 |[],i=>by simp
 |x::l,0=>by
  simp only[List.modify_zero_cons,List.filter_cons,h];split<;>rfl
 |x::l,i+1=>by
  simp only[List.modify_succ_cons,List.filter_cons];have g:=oq p f h l i;split<;>simp[g]
section
variable {P:Program} {kt et mt:TypeId} {K:Type} [DecidableEq K] {kf:K->Value} {w:World} {b r cnt:Nat} {m:K->Option Value} {left:K->Prop}
theorem aO.store(F:jP P kt kf)(ht:P.underlying mt=some (.map kt et))(h:aO kf w b r m left cnt)(k:K)(v:Value)(hk:m k≠none):∃w',(Instr.mapUpdate mt (.map (some b)) (kf k) v).run P w=.ok () w'/\aO kf w' b r (aL m k (some v)) left cnt/\Kept [b] w w':=by
 have ac:=h.lt;obtain⟨M,R,S,J,c0,hb,hS,h1,h2,hr,ag,Z,an,ao,ar,aw⟩:=h;have ap:r≠b:=by intro e;rw[e,hb]at hr;cases hr
 have am:∀e∈M.toList,∃j,e.key=kf j:=λe O=>let ⟨k,a,_⟩:=h1 e O;⟨k,a⟩
 rcases F.find M.toList k w am with⟨hf,aq⟩|⟨i,e,hf,T,O⟩
 .exfalso
  cases ad:m k with
  |none=>exact hk ad
  |some u=>
   obtain⟨e,O,ai,_⟩:=h2 k u ad;exact absurd ai (aq e O)
 .have Q:e∈M.toList:=List.mem_of_getElem? T
  obtain⟨k',a,a2⟩:=h1 e Q;obtain rfl:k=k':=F.inj _ _ (O.symm.trans a);have ab:M[i]? =some e:=by rw[<-Array.getElem?_toList];exact T
  have L:∀j,(M.modify i λe=>{e with key:=kf k,val:=v}).toList[j]? =if i=j then(M.toList[j]?).map (λe=>{e with key:=kf k,val:=v})else M.toList[j]?:=by
   intro j;simp only[Array.getElem?_toList,Array.getElem?_modify]
  have z:∀x∈(M.modify i λe=>{e with key:=kf k,val:=v}).toList,∃y∈M.toList,x.born=y.born/\x.key=y.key/\((x.key=kf k/\x.val=v)\/(x.val=y.val/\y.key≠kf k)):=by
   intro x I;obtain⟨j,B⟩:=List.getElem?_of_mem I;rw[L]at B;by_cases g:i=j
   .subst g
    rw[if_pos rfl,T]at B;simp at B;subst B;exact⟨e,Q,rfl,O.symm,.inl ⟨rfl,rfl⟩⟩
   .rw[if_neg g]at B
    exact⟨x,List.mem_of_getElem? B,rfl,rfl,.inr ⟨rfl,λq=>g (uj hS T B (O.trans q.symm))⟩⟩
  refine⟨dH w b (M.modify i λe=>{e with key:=kf k,val:=v}) R,?_,⟨_,R,S,J,c0,dY ac.1 _ _,MapKept.stamped_modify hS i _ (λ_ _=>rfl) (λx _ I=>?_),?_,?_,?_,?_,?_,?_,?_,ar,aw⟩,dE _ _ _ _⟩
  .simp[Instr.mapUpdate,run_underlying ht,MapKept.run_getObj_map hb,F.check,hf,ab,O,F.stays,MapKept.run_setObj_map _ hb,Result.andThen,dH]
  .rw[ab]at I;injection I with I;subst I;exact O.symm
  .intro x I
   obtain⟨y,hy,g,e2,q|⟨q1,q2⟩⟩:=z x I
   .exact⟨k,q.1,by unfold aL;rw[if_pos rfl,q.2]⟩
   .obtain⟨k2,U,c2⟩:=h1 y hy
    refine⟨k2,e2.trans U,?_⟩;unfold aL;rw[if_neg,c2,q1];rintro rfl;exact q2 U
  .intro j u B
   unfold aL at B;by_cases g:j=k
   .subst g
    rw[if_pos rfl]at B;injection B with B
    refine⟨{e with key:=kf j,val:=v},List.mem_of_getElem? (i:=i) ?_,rfl,B⟩;rw[L,if_pos rfl,T];rfl
   .rw[if_neg g]at B
    obtain⟨x,I,U,c2⟩:=h2 j u B;obtain⟨l,hl⟩:=List.getElem?_of_mem I;refine⟨x,List.mem_of_getElem? (i:=l) ?_,U,c2⟩;rw[L,if_neg,hl];rintro rfl;rw[T]at hl;injection hl with hl
    subst hl;exact g (F.inj _ _ (U.symm.trans O))
  .exact((dE w b _ R).block r ac.2 (by simpa using ap)).trans hr
  .intro x I
   obtain⟨y,hy,g,_⟩:=z x I;rw[g];exact ag y hy
  .rw[<-Z]
   have g:∀a:Array MapEntry,(leftOf a J).size=(a.toList.filter λe=>!J.contains e.born).length:=λa=>by
    unfold leftOf;rw[<-Array.length_toList,Array.toList_filter]
   rw[g,g,Array.toList_modify];exact oq (λe:MapEntry=>!J.contains e.born) (λe:MapEntry=>{e with key:=kf k,val:=v}) (λ_=>rfl) _ _
  .intro x I k2 ax
   obtain⟨y,hy,g,e2,_⟩:=z x I;rw[an y hy k2 (e2.symm.trans ax),g]
  .intro k2 al
   unfold aL;split
   .simp
   .exact ao k2 al
end
end Go.Proofs.YtokhnobcincfjaaGreatDoor
namespace Go.Proofs.YtokhnobcincfjaaGreatDoor
open Go.RowKit Go.Sort
def Ao{K:Type}(kf:K->Value)(w:World)(b:Nat)(k:K)(st:Nat):Prop:=∃(es:Array MapEntry)(clk i:Nat)(e:MapEntry),w.heap[b]? =some (.map es clk)/\es.toList[i]? =some e/\e.key=kf k/\e.born=st
section
variable {P:Program} {kt et mt:TypeId} {K:Type} [DecidableEq K] {kf:K->Value} {w:World} {b n:Nat} {m:K->Option Value}
theorem Ao.kept{S:List Nat}{w':World}{k:K}{z:Nat}(h:Ao kf w b k z)(J:Kept S w w')(I:b∉S):Ao kf w' b k z:=by
 obtain⟨B,g,i,e,u,F⟩:=h;exact⟨B,g,i,e,(J.block b (Array.getElem?_eq_some_iff.1 u).1 I).trans u,F⟩
theorem NS{g:Array MapEntry}{u i:Nat}{e:MapEntry}(I:MapKept.Stamped g u)(B:g[i]? =some e):g.findIdx? (λx=>((x.born:Int)==((e.born:Nat):Int)))=some i:=by
 have F:=I.2.1;obtain⟨O,P⟩:=Array.getElem?_eq_some_iff.1 B;rw[Array.findIdx?_eq_some_iff_getElem];refine⟨O,by rw[P];simp,λj L M=>?_⟩;simp only[beq_iff_eq]at M;have J:g[j].born=e.born:=by omega
 have k:(g.toList.map (·.born))[j]? =some e.born:=by
  rw[List.getElem?_map,Array.getElem?_toList,Array.getElem?_eq_getElem (by omega),Option.map_some,J]
 have z:(g.toList.map (·.born))[i]? =some e.born:=by
  rw[List.getElem?_map,Array.getElem?_toList,B,Option.map_some]
 have:=(List.getElem?_inj (List.getElem?_eq_some_iff.1 k).1 F).1 (k.trans z.symm);omega
theorem MapAt.entry(F:jP P kt kf)(ht:P.underlying mt=some (.map kt et))(h:MapAt kf w b m n){z:Value}(hz:∀w,(zeroValue et).run P w=.ok z w)(k:K):∃w' u st,(Instr.mapEntry mt (.map (some b)) (kf k)).run P w=.ok (.tuple #[u,.int .i64 ((st:Nat):Int)]) w'/\MapAt kf w' b (aL m k (some u)) (if(m k).isSome then n else n+1)/\Ao kf w' b k st/\Kept [b] w w':=by
 have I:=h.lt;obtain⟨B,g,Z,hS,hn,U,h2⟩:=h;have ac:∀e∈B.toList,∃j,e.key=kf j:=λe J=>let ⟨k,a,_⟩:=U e J;⟨k,a⟩
 rcases F.find B.toList k w ac with⟨hf,M⟩|⟨i,e,hf,hi,J⟩
 .have hm:m k=none:=by
   cases ad:m k with
   |none=>rfl
   |some v=>
    obtain⟨e,J,ab,_⟩:=h2 k v ad;exact absurd ab (M e J)
  refine⟨dH w b (B.push {key:=kf k,val:=z,born:=g}) (g+1),z,g,?_,⟨_,_,dY I _ _,MapKept.stamped_push hS M,by simp[hm,hn],?_,?_⟩,⟨_,_,B.size,{key:=kf k,val:=z,born:=g},dY I _ _,by simp,rfl,rfl⟩,dE _ _ _ _⟩
  .simp[Instr.mapEntry,run_underlying ht,MapKept.run_getObj_map Z,F.check,hf,hz,MapKept.run_setObj_map _ Z,Result.andThen,dH,goInt]
  .intro x O
   simp only[Array.toList_push,List.mem_append,List.mem_singleton]at O;rcases O with O|rfl
   .obtain⟨j,a,Q⟩:=U x O
    refine⟨j,a,?_⟩;unfold aL;rw[if_neg,Q];rintro rfl;exact M x O a
   .exact⟨k,rfl,by unfold aL;rw[if_pos rfl]⟩
  .intro j u L
   simp only[Array.toList_push,List.mem_append,List.mem_singleton];unfold aL at L;by_cases e:j=k
   .subst e
    rw[if_pos rfl]at L;injection L with L
    exact⟨_,.inr rfl,rfl,L⟩
   .rw[if_neg e]at L
    obtain⟨x,O,a,Q⟩:=h2 j u L;exact⟨x,.inl O,a,Q⟩
 .have S:e∈B.toList:=List.mem_of_getElem? hi
  obtain⟨k',a,Q⟩:=U e S;obtain rfl:k=k':=F.inj _ _ (J.symm.trans a);have R:B[i]? =some e:=by rw[<-Array.getElem?_toList];exact hi
  have T:B.modify i (λe=>{e with key:=kf k})=B:=by
   apply Array.ext';apply List.ext_getElem?;intro j;simp only[Array.getElem?_toList,Array.getElem?_modify];split
   .rename_i e1;subst e1;rw[R];simp only[Option.map_some];rw[<-J]
   .rfl
  have ag:aL m k (some e.val)=m:=by
   funext j;unfold aL;split
   .rename_i e1;rw[e1,Q]
   .rfl
  refine⟨dH w b B g,e.val,e.born,?_,?_,⟨B,g,i,e,dY I _ _,hi,J,rfl⟩,dE _ _ _ _⟩
  .simp[Instr.mapEntry,run_underlying ht,MapKept.run_getObj_map Z,F.check,hf,R,J,F.stays,MapKept.run_setObj_map _ Z,Result.andThen,dH,T,goInt]
  .rw[ag,Q]
   exact⟨B,g,dY I _ _,hS,by simp[hn],U,h2⟩
theorem MapAt.lay(F:jP P kt kf)(h:MapAt kf w b m n){k:K}{st:Nat}(hE:Ao kf w b k st)(v:Value):∃w',(Instr.entryStore mt (.map (some b)) (.int .i64 ((st:Nat):Int)) v).run P w=.ok () w'/\MapAt kf w' b (aL m k (some v)) n/\Kept [b] w w':=by
 have ac:=h.lt;obtain⟨L,U,hb,Z,hn,h1,h2⟩:=h;obtain⟨ai,ag,i,e,I,M,Q,ad⟩:=hE;rw[hb]at I;injection I with I
 injection I with B e2
 subst B;subst e2;have ab:L[i]? =some e:=by rw[<-Array.getElem?_toList];exact M
 obtain⟨k',a,a2⟩:=h1 e (List.mem_of_getElem? M);obtain rfl:k=k':=F.inj _ _ (Q.symm.trans a)
 have J:L.findIdx? (λx=>((x.born:Int)==((st:Nat):Int)))=some i:=by
  rw[<-ad];exact NS Z ab
 have z:∀j,(L.modify i λe=>{e with val:=v}).toList[j]? =if i=j then(L.toList[j]?).map (λe=>{e with val:=v})else L.toList[j]?:=by
  intro j;simp only[Array.getElem?_toList,Array.getElem?_modify]
 refine⟨dH w b (L.modify i λe=>{e with val:=v}) U,?_,⟨_,_,dY ac _ _,MapKept.stamped_modify Z i _ (λ_ _=>rfl) (λx _ S=>rfl),by simp[hn],?_,?_⟩,dE _ _ _ _⟩
 .simp[Instr.entryStore,MapKept.run_getObj_map hb,asInt,asIntOf,J,MapKept.run_setObj_map _ hb,Result.andThen,dH]
 .intro x S
  obtain⟨j,g⟩:=List.getElem?_of_mem S;rw[z]at g;by_cases B:i=j
  .subst B
   rw[if_pos rfl,M]at g;simp at g;subst g;exact⟨k,Q,by unfold aL;rw[if_pos rfl]⟩
  .rw[if_neg B]at g
   obtain⟨k2,O,T⟩:=h1 x (List.mem_of_getElem? g);refine⟨k2,O,?_⟩;unfold aL;rw[if_neg,T];rintro rfl;exact B (uj Z M g (Q.trans O.symm))
 .intro j u g
  unfold aL at g;by_cases B:j=k
  .subst B
   rw[if_pos rfl]at g;injection g with g
   refine⟨{e with val:=v},List.mem_of_getElem? (i:=i) ?_,Q,g⟩;rw[z,if_pos rfl,M];rfl
  .rw[if_neg B]at g
   obtain⟨x,S,O,T⟩:=h2 j u g;obtain⟨l,R⟩:=List.getElem?_of_mem S;refine⟨x,List.mem_of_getElem? (i:=l) ?_,O,T⟩;rw[z,if_neg,R];rintro rfl;rw[M]at R;injection R with R
   subst R;exact B (F.inj _ _ (O.symm.trans Q))
end
theorem M9{K:Type}[DecidableEq K](m:K->Option Value)(k:K)(u v:Option Value):aL (aL m k u) k v=aL m k v:=by
 funext j;unfold aL;split<;>rfl
end Go.Proofs.YtokhnobcincfjaaGreatDoor
