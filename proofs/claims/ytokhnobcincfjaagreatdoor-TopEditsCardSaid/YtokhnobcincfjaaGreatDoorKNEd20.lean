/- Lemmas of this claim: FloodSays, RRay, RRay2, RRay3. -/
import Derived.Test.YtokhnobcincfjaaGreatDoorRWalk
import Derived.Laws.CopyOwn
set_option linter.unusedVariables false
set_option linter.unusedSimpArgs false
namespace Go.Proofs.YtokhnobcincfjaaGreatDoor
open Go.RowKit Go.Sort FR
theorem jo{P:Program}(w:World)(g:Nat)(t z:TypeId)(old cells:Array Value)(F:w.heap[g]? =some (.cells old t (0,0)))(k:(P.info? z).map (·.size)=some cells.size)(I:old.size=cells.size)(B:cells.all (·.oneCell')=true):(storeCells ⟨g,0,none⟩ cells.toList).run P w=.ok () (w.setRow g cells):=by
 have:=run_storeVar_row (P:=P) w g t z old cells F k I B;cases u:P.info? z with
 |none=>simp[u]at k
 |some i=>
  have J:cells.size=i.size:=by simp[u]at k;omega
  simpa[storeVar,sizeOf,typeInfo,u,Value.cells,J]using this
theorem tC(w:World)(g k:Nat)(cs:Array Value)(h:k≠g):(w.setRow g cs).heap[k]? =w.heap[k]?:=by
 simp[World.setRow,Array.getElem?_modify,Ne.symm h]
theorem ER(w:World)(g k:Array Value)(I:g.size=512)(J:k.size=256)(O:g.all (·.oneCell')=true)(P:k.all (·.oneCell')=true):∃z u,(storeCells ⟨w.heap.size,0,none⟩ g.toList).run Tryz.prog ((w.alloc (.cells Tryz.zeroCells127 127)).alloc (.cells Tryz.zeroCells31 31))=.ok () z/\(storeCells ⟨w.heap.size+1,0,none⟩ k.toList).run Tryz.prog z=.ok () u/\u.heap[w.heap.size]? =some (.cells g 127 (0,0))/\u.heap[w.heap.size+1]? =some (.cells k 31 (0,0))/\Below w.heap.size w u:=by
 have S:(Tryz.prog.info? 127).map (·.size)=some g.size:=by rw[I];kernel_rfl
 have T:(Tryz.prog.info? 31).map (·.size)=some k.size:=by rw[J];kernel_rfl
 have Q:(Tryz.zeroCells127).size=g.size:=by rw[pK,dI,I]
 have R:(Tryz.zeroCells31).size=k.size:=by rw[pJ,dI,J]
 have M:Below w.heap.size w ((w.alloc (.cells Tryz.zeroCells127 127)).alloc (.cells Tryz.zeroCells31 31)):=by(repeat' (first|exact Below.refl _ _|assumption|apply aj|apply ah|apply af|(refine aa ?_ (by assumption))))
 have B:((w.alloc (.cells Tryz.zeroCells127 127)).alloc (.cells Tryz.zeroCells31 31)).heap[w.heap.size]? =some (.cells Tryz.zeroCells127 127 (0,0)):=alloc_old _ _ (by simp) (alloc_at _ _ rfl);have L:((w.alloc (.cells Tryz.zeroCells127 127)).alloc (.cells Tryz.zeroCells31 31)).heap[w.heap.size+1]? =some (.cells Tryz.zeroCells31 31 (0,0)):=alloc_at _ _ (by simp);generalize (w.alloc (.cells Tryz.zeroCells127 127)).alloc (.cells Tryz.zeroCells31 31)=W at*;have F:(W.setRow w.heap.size g).heap[w.heap.size+1]? =some (.cells Tryz.zeroCells31 31 (0,0)):=by rw[tC _ _ _ _ (by omega)];exact L
 refine⟨_,_,jo W w.heap.size _ _ _ g B S Q O,jo _ (w.heap.size+1) _ _ _ k F T R P,?_,setRow_heap _ _ _ _ _ _ F,?_⟩
 .rw[tC _ _ _ _ (by omega)];exact setRow_heap _ _ _ _ _ _ B
 .exact below_setRow (below_setRow M (Nat.le_refl _) _) (by omega) _
theorem add_zero'(a:Addr):a.add 0=a:=by
 obtain⟨b,o,s⟩:=a;cases s<;>simp[Addr.add]
def Pt(a:Nat)(c:Nat->C)(is:Nat->Bool)(k:Nat):Value:=if k=0 then .int .i64 (a:Nat)else if k<513 then eO c (k-1)else eT is (k-513)
def MH(a:Nat)(c:Nat->C)(is:Nat->Bool):Array Value:=rowOf (Pt a c is) 769
theorem QS{w w':World}{b:Nat}{is:Nat->Bool}{t:Nat}(h:w.heap[b]? =some (.cells (rowOf (eT is) 256) 31 (0,0)))(g:Below w.heap.size w w')(k:t<256):w'.cell? ⟨b,t,none⟩=some (.bool (is t)):=
 (World.cell?_of_block (w:=w) (w':=w') (a:=⟨b,t,none⟩) (g.block b (Array.getElem?_eq_some_iff.1 h).1)).trans (by simp[World.cell?,h,bM _ _ _ k,eT])
theorem QT{w w':World}{b:Nat}{c:Nat->C}{t:Nat}(h:w.heap[b]? =some (.cells (rowOf (eO c) 512) 127 (0,0)))(g:Below w.heap.size w w')(z:t<256):w'.cell? ⟨b,t*2,none⟩=some (.int .i64 (c t).s)/\w'.cell? ⟨b,t*2+1,none⟩=some (.int .i64 (c t).d):=by
 have k:(t*2+1)%2=1:=by omega
 have u:(t*2+1)/2=t:=by omega
 exact⟨(World.cell?_of_block (w:=w) (w':=w') (a:=⟨b,t*2,none⟩) (g.block b (Array.getElem?_eq_some_iff.1 h).1)).trans (by simp[World.cell?,h,bM _ _ _ (show t*2<512 by omega),eO]),
  (World.cell?_of_block (w:=w) (w':=w') (a:=⟨b,t*2+1,none⟩) (g.block b (Array.getElem?_eq_some_iff.1 h).1)).trans (by simp[World.cell?,h,bM _ _ _ (show t*2+1<512 by omega),eO,k,u])⟩
