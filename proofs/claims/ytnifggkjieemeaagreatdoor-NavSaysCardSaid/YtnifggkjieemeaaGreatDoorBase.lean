/- Lemmas of this claim: Base. -/
import Derived.Test.YtnifggkjieemeaaGreatDoorOm
import Derived.Test.YtnifggkjieemeaaGreatDoorProg
import Derived.WalkSmall
import Derived.BigQuiet
import Derived.Lib.QuietBelow
import Derived.Lib.Hide
set_option linter.unusedVariables false
set_option linter.unusedSimpArgs false
namespace Go.Proofs.YtnifggkjieemeaaGreatDoor
open Go.Lib (hid)
open Go.RowKit Go.Sort
variable {Q:Exit->Act->World->Prop}{w w':World}
theorem ak(h:Below w.heap.size w w'){n:Nat}:Below w.heap.size w (w'.drewN n):=below_drewN h n
theorem aj(h:Below w.heap.size w w'):Below w.heap.size w w'.drew:=h.drew
theorem ah(h:Below w.heap.size w w'){o:Obj}:Below w.heap.size w (w'.alloc o):=h.alloc h.size o
theorem ae{w w1 w2:World}(h:Below w.heap.size w w1)(k:Below w1.heap.size w1 w2):Below w.heap.size w w2:=h.trans (k.mono h.size)
theorem qb{P:Program}{I:Nat}{a b:Act}{u w:World}{l:List Oper}{C:Prop}(z:Below u.heap.size u w)(c:C)(k:∀x,Below u.heap.size u x->Below w.heap.size w x->Q .normal b x)(B:P.follows .mixedOrders=true:=by kernel_rfl)(g:Region.lexB .any l.toArray=true:=by kernel_rfl)(F:C->∀K:Act->Prop,Hid (K b)->wpQuiet P l.toArray (λJ=>∃p:Regrown,J=grow (redrawn w p.d) p.os) K l a:=by intro cc K m;(repeat (first|go_big_quiet_step (with_reducible (first|exact Calls.regrown_of (cc _)|exact Calls.regrown_of (cc _ _)|exact Calls.regrown_of (cc _ (below_regrown _ _ _))|exact Calls.regrown_of (cc.1 _)|exact Calls.regrown_of (cc.2 _)|exact Calls.regrown_of (cc.1 _ _)|exact Calls.regrown_of (cc.2 _ _)|exact Calls.regrown_of (cc.1 _ (below_regrown _ _ _))|exact Calls.regrown_of (cc.2 _ (below_regrown _ _ _))|exact Calls.regrown_of (cc.2.1 _)|exact Calls.regrown_of (cc.2.2 _)))|quiet_step (with_reducible (first|exact Calls.regrown_of (cc _)|exact Calls.regrown_of (cc _ _)|exact Calls.regrown_of (cc _ (below_regrown _ _ _))|exact Calls.regrown_of (cc.1 _)|exact Calls.regrown_of (cc.2 _)|exact Calls.regrown_of (cc.1 _ _)|exact Calls.regrown_of (cc.2 _ _)|exact Calls.regrown_of (cc.1 _ (below_regrown _ _ _))|exact Calls.regrown_of (cc.2 _ (below_regrown _ _ _))|exact Calls.regrown_of (cc.2.1 _)|exact Calls.regrown_of (cc.2.2 _)))));exact wpQuiet_nil m.out):(Code.region I l.toArray true).wp P Q a w:=
 wp_region_quiet_below B g (F c _ (hid λ_⟨_,e⟩=>e▸k _ (ae z (below_regrown w _ _)) (below_regrown w _ _)))
theorem aB{P:Program}{c:Code}{a:Act}{g:World}(h:∀W,W=g->c.wp P Q a W):c.wp P Q a g:=h g rfl
theorem br{B:Nat}{w:World}:RowKit.Below B w w:=.refl _ _
abbrev rI(x:Int):Value:=.int .i64 x
abbrev vP(b:Nat):Value:=.pointer (some ⟨b,0,none⟩)
abbrev Rt(w:World)(v:Value):Ending->World->Prop:=λe w'=>e=.returned v/\Below w.heap.size w w'
abbrev ZC:=@below_regrown
abbrev ZE:=@cell_regrown
abbrev ZF:=@World.block_lt_of_cell?
abbrev ZG:=@Calls.regrown_of
abbrev ZH:=@wp_region_quiet_below
theorem be{P:Prop}(h:P:=by (repeat' (first|exact br|assumption|apply ak|apply aj|apply ah|(refine ae ?_ au)))):P:=h
theorem rM{P:Prop}(h:P:=by simp[intOf];omega):P:=h
theorem rR{P Q:Prop}(h:P)(f:P->Q:=by first|(intro h;(repeat apply Exists.intro);exact⟨h,rfl⟩)|exact id):Q:=f h
