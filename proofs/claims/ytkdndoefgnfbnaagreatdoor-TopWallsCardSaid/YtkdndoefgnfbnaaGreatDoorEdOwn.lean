/- Lemmas of this claim: EdOwn. -/
import Derived.Test.YtkdndoefgnfbnaaGreatDoorNavEd
import Derived.Test.YtkdndoefgnfbnaaGreatDoorBase
import Derived.Test.YtkdndoefgnfbnaaGreatDoorKNavC2
import Derived.Test.YtkdndoefgnfbnaaGreatDoorKNavC3
import Derived.Test.YtkdndoefgnfbnaaGreatDoorKNavC5
set_option linter.unusedVariables false
set_option linter.unusedSimpArgs false
namespace Go.Proofs.YtkdndoefgnfbnaaGreatDoor
open Go.RowKit Go.Sort FR Go.Lib
def edtC (e:Int×Bool):List Value:=[.int .i64 e.1,.bool e.2]
def edtL (L:List (Int×Bool)):List Value:=L.flatMap edtC
theorem edtL_get (L:List (Int×Bool)):∀(k:Nat) (e:Int×Bool),L[k]? = some e→(edtL L)[k*2]? = some (.int .i64 e.1)∧(edtL L)[k*2+1]? = some (.bool e.2):=by
 induction L with
 | nil=>intro k e h;simp at h
 | cons x L ih=>
  intro k e h
  cases k with
  | zero=>simp at h;subst h;simp [edtL,edtC]
  | succ k=>
   obtain ⟨h1,h2⟩:=ih k e (by simpa using h)
   have e1:(k+1)*2=k*2+1+1:=by omega
   rw [e1]
   simp only [edtL,List.flatMap_cons,edtC,List.cons_append,List.nil_append,List.getElem?_cons_succ] at h1 h2 ⊢
   exact ⟨h1,h2⟩
def OwnEd (w:World) (B:Nat) (v:Value) (L:List (Int×Bool)):Prop:=w.ownsRow B 74 2 v L.length (edtL L)
theorem OwnEd.nil (w:World) (B:Nat):OwnEd w B (.slice none 0 0) []:=⟨rfl,.inl ⟨rfl,rfl⟩⟩
theorem OwnEd.below {w w':World} {B:Nat} {v:Value} {L:List (Int×Bool)} (h:OwnEd w B v L) (hb:Below w.heap.size w w'):OwnEd w' B v L:=
 World.ownsRow.kept (row:=none) h ⟨hb.os,hb.tape,hb.output,hb.size,fun k hk _=>hb.block k hk⟩ (by cases hv:v.ownBlock <;> simp)
theorem OwnEd.edits {w:World} {B:Nat} {v:Value} {L:List (Int×Bool)} (h:OwnEd w B v L):∃A m,v=.slice A L.length m∧EditsAt w A L.length (fun k=>L.getD k (0,false))∧∀ad,A=some ad→B≤ad.block∧ad.block<w.heap.size:=by
 have hl:=fun k (hk:v.ownBlock=some k)=>World.ownsRow.lt h k hk
 rcases h.2 with ⟨rfl,hn⟩ | ⟨g,cap,cur,rfl,hg,hh,hc,hm,hs,ht⟩
 ·rw [hn];exact ⟨none,0,rfl,fun h=>absurd h (by omega),fun ad e=>by cases e⟩
 ·refine ⟨_,cap,rfl,fun _=>⟨g,0,rfl,(Array.getElem?_eq_some_iff.1 hh).1,fun k hk=>?_⟩,fun ad e=>by cases e;exact hl g rfl⟩
  obtain ⟨h1,h2⟩:=edtL_get L k _ (List.getElem?_eq_getElem hk)
  have e1:L.getD k (0,false)=L[k]:=by simp [List.getD,hk]
  simp only [e1];have q1:=World.ownsRow.cells h (g:=g) rfl (k*2) _ h1;have q2:=World.ownsRow.cells h (g:=g) rfl (k*2+1) _ h2;rw [Addr.add_lit,Nat.zero_add] at q1 q2;rw [Nat.zero_add];exact ⟨q1,q2⟩
theorem edt_info:(Tryz.prog.info? 74).map (fun i=>(i.zero.map fun z=>z.cells.size,i.size,i.bytes))=some (some 2,2,16):=by kernel_rfl
theorem edt_parts:∃i z,Tryz.prog.info? 74=some i∧i.zero=some z∧i.size=2∧i.bytes=16∧z.cells.size=2:=by
 obtain ⟨i,hi,h⟩:=Option.map_eq_some_iff.1 edt_info;simp only [Prod.mk.injEq] at h;obtain ⟨h1,h2,h3⟩:=h;obtain ⟨z,hz,h4⟩:=Option.map_eq_some_iff.1 h1;exact ⟨i,z,hi,hz,h2,h3,h4⟩
theorem wpList_append_Ed {ops : Array Oper} {rest : List Oper} {o : Oper} {a : Act} {Q : Exit → Act → World → Prop} (w : World) (hgd : o.guard = none) (s x : Operand)
    (ho:o.op=.call { callee:=.builtin .append,args:=#[s,x],argTypes:=#[72,72] })
    (B:Nat) (v:Value) (L:List (Int×Bool)) (e:Int×Bool) (hs:a.eval s=v) (hown:OwnEd w B v L) (ad:Addr) (hx:a.eval x=.slice (some ad) 1 1)
    (hc0:w.cell? ad=some (.int .i64 e.1)) (hc1:w.cell? (ad.add 1)=some (.bool e.2)) (hl:L.length≤100000) (hB:B≤w.heap.size)
    (h:∀v' w',OwnEd w' B v' (L ++ [e])→w.grownBy w' v.ownBlock→wpList Tryz.prog ops Q rest (a.put o.dst v') w'):wpList Tryz.prog ops Q (o :: rest) a w:=by
 obtain ⟨i0,z0,hi,hz0,hz1,hz2,hz3⟩:=edt_parts
 refine wpList_append_own_at w hgd s x 72 ho B 74 i0 z0 2 16 Tryz.underlying72 hi hz0 hz1 hz2 hz3 (by decide) v L.length (edtL L) hs hown ad 1 1 (edtC e) hx rfl ?_ ?_ ?_ ?_ hB ?_
 ·intro j u hu
  match j with
  | 0=>simp [edtC] at hu;subst hu;simpa [Addr.add] using hc0
  | 1=>simp [edtC] at hu;subst hu;exact hc1
  | j+2=>simp [edtC] at hu
 ·intro u hu
  simp [edtC] at hu
  rcases hu with rfl | rfl <;> rfl
 ·unfold maxLen;omega
 ·omega
 ·intro v' w' h1 h2 _ _
  refine h v' w' ?_ h2;unfold OwnEd;rw [List.length_append]
  have:edtL (L ++ [e])=edtL L ++ edtC e:=by simp [edtL]
  rw [this];exact h1
theorem below_grownEd {B:Nat} {W w w':World} {v:Value} {L:List (Int×Bool)} (hB:Below B W w) (hs:B≤w.heap.size) (h:OwnEd w B v L) (hg:w.grownBy w' v.ownBlock):Below B W w':=
 hB.grown hg hs (fun k hk=>(World.ownsRow.lt h k hk).1)
def wallL (g:G) (x y:Int) (f:Nat→Int):Nat→List (Int×Bool)
 | 0=>[]
 | k+1=>wallL g x y f k ++ (if (0≤f k∧f k<(g.n:Nat))∧f k≠x∧f k≠y then [(f k,true)] else [])
theorem wallL_len (g:G) (x y:Int) (f:Nat→Int):∀k,(wallL g x y f k).length≤k
 | 0=>by simp [wallL]
 | k+1=>by
  have:=wallL_len g x y f k;unfold wallL;rw [List.length_append]
  split <;> simp <;> omega
theorem wallL_mem {g:G} {x y:Int} {f:Nat→Int}:∀ {k:Nat} {e:Int×Bool},e∈wallL g x y f k→(0≤e.1∧e.1<(g.n:Nat))∧e.1≠x∧e.1≠y∧e.2=true
 | 0,e,h=>by simp [wallL] at h
 | k+1,e,h=>by
  unfold wallL at h
  rcases List.mem_append.1 h with h | h
  ·exact wallL_mem h
  ·split at h
   ·rename_i q
    simp at h;subst h;exact ⟨q.1,q.2.1,q.2.2,rfl⟩
   ·simp at h
end Go.Proofs.YtkdndoefgnfbnaaGreatDoor
