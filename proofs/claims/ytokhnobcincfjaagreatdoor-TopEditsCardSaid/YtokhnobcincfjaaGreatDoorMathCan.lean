/- Lemmas of this claim: MathCan. -/
import Derived.Test.YtokhnobcincfjaaGreatDoorKNEd48
import Derived.Test.YtokhnobcincfjaaGreatDoorKNEd51
set_option linter.unusedVariables false
set_option linter.unusedSimpArgs false
namespace Go.Proofs.YtokhnobcincfjaaGreatDoor
open Go.RowKit Go.Sort FR Go.Lib
variable {g:G}
def y7(g:G):G:=⟨g.w,g.h,λc=>decide (c<g.n)&&g.b c⟩
theorem F3(k:g.ok):R6 g=y7 g:=by
 obtain⟨R,B,_,z⟩:=mG g k;unfold R6;rw[B];unfold eU y7;simp only;congr 1;funext c;rw[show g.h*g.w=g.n from Nat.mul_comm _ _];by_cases u:c<g.n
 .rw[z c u]
 .rw[decide_eq_false u];rfl
theorem Kr{c:Nat}(u:c<g.n)(t:Bool):y7 (bS g c t)=bS (y7 g) c t:=by
 unfold y7 bS;congr 1;funext x;simp only[upd];by_cases k:x=c
 .subst k
  rw[if_pos rfl,if_pos rfl];show(decide (x<g.w*g.h)&&t)=t;rw[decide_eq_true (show x<g.w*g.h from u),Bool.true_and]
 .rw[if_neg k,if_neg k]
  rfl
theorem xK{f:Nat->Int×Bool}:∀{n:Nat},(∀j,j<n->0<=(f j).1/\(f j).1<(g.n:Nat))->y7 (aM f g n)=aM f (y7 g) n
 |0,_=>rfl
 |n+1,h=>by
  have u:=h n (by omega);show y7 (bS (aM f g n) (f n).1.toNat (f n).2)=bS (aM f (y7 g) n) (f n).1.toNat (f n).2;rw[Kr (by rw[uf];omega),xK (λj k=>h j (by omega))]
theorem DN(w2:World)(s q:Nat)(g M:G)(v P:Int)(m:Nat)(T:List Nat)(J:g.ok)(F:TH M g)(hT:fU w2 s M P m T)(A:Option Addr)(n Q:Nat)(f:Nat->Int×Bool)(hE:eZ w2 A n f)(hn:n<=60)(hA:∀I,A=some I->I.block∉T/\I.block≠q)(hv:0<=v/\v<=1000000)(ab:0<=P/\P<=1000000):∃(gE:G)(nE kE:Nat)(ev:Value)(vE vR:Int),gE.ok/\(Calls Tryz.prog 24 #[.pointer (some ⟨s,0,none⟩),.slice A n Q] w2 λe u=>e=.returned (.tuple #[.int .i64 (nE:Nat),ev])/\(∃T',fU u s (R6 gE) vE m T'/\∀k∈T',k∈T\/w2.heap.size<=k)/\Kept T w2 u)/\(∀u,Calls Tryz.prog 26 #[ev] u λe B=>e=.returned (.int .i64 (kE:Nat))/\Below u.heap.size u B)/\∀u x,aB u q g v->u.cell? ⟨x,0,none⟩=some (.pointer (some ⟨q,0,none⟩))->x≠q->eZ u A n f->Calls Tryz.prog 25 #[.pointer (some ⟨x,0,none⟩),.slice A n Q] u λe B=>e=.returned (.tuple #[.int .i64 (nE:Nat),.int .i64 (kE:Nat)])/\aB B q gE vR/\Kept [q] u B:=by
 by_cases z:∀j,j<n->0<=(f j).1/\(f j).1<(g.n:Nat)
 .have Z:∀j,j<n->0<=(f j).1/\(f j).1<(M.n:Nat):=λj hj=>by rw[F.2.n];exact z j hj
  refine⟨aM f g n,aP f g n,0,.nilIface,P+(aP f M n:Nat),v+(aP f g n:Nat),Bg J n,?_,λu=>Eo u,λu x R S h3 h4=>?_⟩
  .refine(Ei w2 s M P m T hT A n Q f hE hn (λI e=>(hA I e).1) ab Z).mono ?_
   rintro e u ⟨rfl,T',L,h6,h7⟩;refine⟨by rw[(bX.edit F.2 z).2],⟨T',?_,h6⟩,h7⟩;rw[F3 (Bg J n),xK z,<-F3 J,<-F.1];exact L
  .refine(Qs u x q g v R S h3 A n Q f h4 (λI e=>(hA I e).2) hn hv).mono ?_
   rintro e B (⟨rfl,_,L,h6⟩|⟨_,⟨j,hj,hb⟩,_⟩)
   .exact⟨rfl,L,h6⟩
   .exact absurd (z j hj) hb
 .have U:∃j,j<n/\¬(0<=(f j).1/\(f j).1<(g.n:Nat)):=by
   apply Classical.byContradiction;intro h;exact z λj hj=>Classical.byContradiction λS=>h ⟨j,hj,S⟩
  have O:∃j,j<n/\¬(0<=(f j).1/\(f j).1<(M.n:Nat)):=by rw[F.2.n];exact U
  refine⟨g,0,1,.iface 45 (.int .i64 1),P,v,J,?_,λu=>En u 1,λu x R S h3 h4=>?_⟩
  .refine(BZ w2 s M P m ⟨T,hT⟩ A n Q f hE hn O).mono ?_
   rintro e u ⟨rfl,hb⟩;exact⟨rfl,⟨T,by rw[<-F.1];exact hT.below hb,λk hk=>.inl hk⟩,.of_below hb⟩
  .refine(Qs u x q g v R S h3 A n Q f h4 (λI e=>(hA I e).2) hn hv).mono ?_
   rintro e B (⟨_,L,_⟩|⟨rfl,_,L⟩)
   .exact absurd L z
   .exact⟨rfl,R.below L R.lt,.of_below L⟩
