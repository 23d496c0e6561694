/- Lemmas of this claim: RHeap, RHeap2, HeapBoth, HeapSays. -/
import Derived.Test.YtokhnobcincfjaaGreatDoorKNEd9
import Derived.Test.YtokhnobcincfjaaGreatDoorKNEd3
set_option linter.unusedVariables false
set_option linter.unusedSimpArgs false
namespace Go.Proofs.YtokhnobcincfjaaGreatDoor
open Go.RowKit Go.Sort FR
variable {hp:Int->Option C}{l:List It}{S:List Nat}{r:Nat}{w:World}
def UI:It:=⟨⟨0,0⟩,0⟩
def qG(l:List It)(k:Nat):It:=l.getD k UI
theorem qH{k:Nat}(h:k<l.length):qG l k=l[k]:=by simp[qG,List.getD,h]
def lX(w:World)(A:Option Addr)(r:Nat)(l:List It):Prop:=0<l.length->∃o,A=some ⟨r,o,none⟩/\r<w.heap.size/\∀k,k<l.length->
 w.cell? ⟨r,o+k*3,none⟩=some (.int .i64 (qG l k).id)/\w.cell? ⟨r,o+k*3+1,none⟩=some (.int .i64 (qG l k).c.s)/\w.cell? ⟨r,o+k*3+2,none⟩=some (.int .i64 (qG l k).c.d)
theorem lX.kept{w w':World}{A:Option Addr}(h:lX w A r l)(g:Kept S w w')(I:r∉S):lX w' A r l:=by
 intro F;obtain⟨o,z,u,B⟩:=h F;have e:∀x,w'.cell? ⟨r,x,none⟩=w.cell? ⟨r,x,none⟩:=λx=>World.cell?_of_block (g.block r u I);refine⟨o,z,Nat.lt_of_lt_of_le u g.size,λk g=>?_⟩;rw[e,e,e];exact B k g
theorem lX.one{A:Option Addr}(h:lX w A r l){k:Nat}(B:k<l.length){x:It}(F:qG l k=x):∃o,A=some ⟨r,o,none⟩/\r<w.heap.size/\w.cell? ⟨r,o+k*3,none⟩=some (.int .i64 x.id)/\w.cell? ⟨r,o+k*3+1,none⟩=some (.int .i64 x.c.s)/\w.cell? ⟨r,o+k*3+2,none⟩=some (.int .i64 x.c.d):=by
 subst F;obtain⟨o,g,u,z⟩:=h (by omega);exact⟨o,g,u,z k B⟩
theorem lX.tail{r o m:Nat}{x:It}(h:lX w (some ⟨r,o,none⟩) r (x::l)):lX w (if m=1 then some ⟨r,o,none⟩else(some (⟨r,o,none⟩:Addr)).map (·.add (1*3))) r l\/m=1:=by
 by_cases e:m=1
 .exact .inr e
 .left
  rw[if_neg e];intro J;obtain⟨L,g,B,F⟩:=h (by simp);simp only[Option.some.injEq,Addr.mk.injEq,true_and,and_true]at g;subst g;refine⟨o+3,by simp[Addr.add],B,λk I=>?_⟩;have:=F (k+1) (by simp;omega);have u:qG (x::l) (k+1)=qG l k:=by simp[qG,List.getD]
  rw[u]at this;have z:o+3+k*3=o+(k+1)*3:=by omega
  rw[z];exact this
theorem bf.cc{b n:Nat}(h:bf w S b n hp):∀z d,hp z=some d->jA d:=by
 obtain⟨O,m,N,c,P,M,I,k,L,J,B,u,F,g⟩:=h;exact g
theorem bf.len{b n:Nat}(h:bf w S b n hp)(z:RL l hp):n=l.length:=by
 obtain⟨O,m,N,c,P,M,I,u,L,J,k,g,F,B⟩:=h;exact(z.len k g).symm
def hp0:Int->Option C:=λ_=>none
def hp1:Int->Option C:=hset hp0 5 (some ⟨3,0⟩)
def hp2:Int->Option C:=hset hp1 7 (some ⟨0,2⟩)
structure J3 where
 id:Int
 s:Int
 d:Int
 pop:Bool
def QK(w:World)(A:Option Addr)(n:Nat)(f:Nat->J3):Prop:=0<n->∃b o,A=some ⟨b,o,none⟩/\b<w.heap.size/\∀k,k<n->
 w.cell? ⟨b,o+k*4,none⟩=some (.int .i64 (f k).id)/\w.cell? ⟨b,o+k*4+1,none⟩=some (.int .i64 (f k).s)/\w.cell? ⟨b,o+k*4+2,none⟩=some (.int .i64 (f k).d)/\w.cell? ⟨b,o+k*4+3,none⟩=some (.bool (f k).pop)
structure UN (W:World) (A:Option Addr) (n:Nat) (f:Nat->J3):Prop where
 ps:QK W A n f
 len:n<=9223372036854775807
def Nu(l:List It)(id:Int)(j:Nat)(z:Int):Prop:=(z= -1/\∀i,i<j->(qG l i).id≠id)\/∃i:Nat,i<j/\z=i/\(qG l i).id=id
theorem Nu.out{k z:Int}(h:Nu l k l.length z)(B:RL l hp)(F:hp k=none):z= -1:=by
 rcases h with⟨h,_⟩|⟨i,g,_,u⟩
 .exact h
 .have:=(B.2 (qG l i).id (qG l i).c).2 (by rw[qH g];exact List.getElem_mem g)
  rw[u,F]at this;cases this
theorem Nu.at{B z:Int}{d:C}(h:Nu l B l.length z)(J:RL l hp)(M:hp B=some d):∃i:Nat,i<l.length/\z=i/\qG l i=⟨d,B⟩:=by
 obtain⟨k,F,g⟩:=List.getElem_of_mem ((J.2 B d).1 M);rcases h with⟨_,h⟩|⟨i,u,I,L⟩
 .exact absurd (by rw[qH F,g]) (h k F)
 .refine⟨i,u,I,?_⟩
  have:=J.ids (i:=i) (j:=k) u F (by rw[<-qH u,L,g]);subst this;rw[qH u,g]
