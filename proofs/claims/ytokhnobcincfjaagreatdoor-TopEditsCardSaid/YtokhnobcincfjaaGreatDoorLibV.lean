/- Lemmas of this claim: LibV. -/
import Derived.Test.YtokhnobcincfjaaGreatDoorKNEd4
import Derived.Test.YtokhnobcincfjaaGreatDoorRows
import Derived.Lib.LaidTab
import Derived.Lib.ItoaNum
import Derived.Stop.LaidErr
import Derived.Shelf.Vars
set_option linter.unusedVariables false
set_option linter.unusedSimpArgs false
namespace Go.Proofs.YtokhnobcincfjaaGreatDoor
open Go.RowKit Go.Sort
section
variable {H:Type} {enc:TypeId×Value->H}
theorem zV{a:Assume}{C:Checked}{os:Os}{f:FuncId}{L:Func}{s:ChangeSpec}{F:List PathCond}{apart fresh z B:Bool}{X:World->Array Value->Prop}(hX:∀(w w':World)(g:Array Value),w.heap=w'.heap->X w g->X w' g)(own:ownKnob C.prog.godebug=none)(I:os.Started)(P:C.prog.inits.idxOf? f=none)(U:C.prog.funcs[f]? =some L)(J:∃(w:World)(k:Tape)(i:Input),w.os=os/\(w.forCall k i).Shaped C.prog/\i.vars=[]/\Input.okWide C.prog (w.forCall k i) .any w.heap.size f i/\((s.pre enc C.prog L F apart (w.forCall k i).memory i.args/\X (w.forCall k i).memory i.args)/\sizedMet enc C.prog L (OpenSpec.ofChange s) apart (w.forCall k i).memory i.args)/\a.holds C.prog (lone (Frame.enter C.prog f i.args .normal) [] (w.forCall k i)))(go:∀(W:World)(base:Nat)(g:Array Value)(S T:List (DataW H))(u:List MemPlace),(∀(j:Nat)t v,L.params[j]? =some t->g[j]? =some v->Value.okWide C.prog W .any base t v)->DataW.Whole enc C.prog L.params.toList s.vars apart W g.toList S T u->W.ShapedOpen C.prog->X W g->Calls C.prog f g W λe Z=>∃v,e=.returned v/\s.post enc C.prog L apart fresh z B W g v Z):ReturnsInHanded a C os f .any (λw g=>(s.pre enc C.prog L F apart w g/\X w g)/\sizedMet enc C.prog L (OpenSpec.ofChange s) apart w g) (s.post enc C.prog L apart fresh z B):=by
 refine returnsInHanded_of_calls own I P J ?_;rintro w k i-M- ⟨-,-,-,ab,R,-,-,-,-,Q⟩ ⟨⟨⟨S,T,u,O,-⟩,hx⟩,-⟩ -;cases Option.some.inj (R.symm.trans U);refine(go (w.forCall k i) w.heap.size i.args S T u Q (O.of_heap (by rfl)) M (hX _ _ _ (by rfl) hx)).mono ?_;rintro e Z ⟨v,rfl,hp⟩;exact ChangeSpec.post_blind hp
end
variable {w w':World}
theorem si{P:Program}{n:String}{cs:Array Value}(h:w.var? P n=some cs)(z:Below w.heap.size w w'):w'.var? P n=some cs:=by
 unfold World.var? at h⊢;cases u:P.globalNamed n with
 |none=>rw[u]at h;cases h
 |some g=>
  rw[u]at h;simp only[Option.bind_some]at h⊢
  have k:g<w.heap.size:=by
   apply Classical.byContradiction;intro B;rw[Array.getElem?_eq_none (by omega)]at h;cases h
  rw[z.block g k];exact h
def JR(w:World):Prop:=Lib.TabIs Tryz.prog w "internal/strconv.uint64pow10" .u64 Lib.pow10Tab
theorem T9:Tryz.prog.globalNamed "internal/strconv.uint64pow10"=some 3:=by kernel_rfl
theorem JR.below(h:JR w)(g:Below w.heap.size w w'):JR w':=si h g
theorem OH:Rows.laid_internal_strconv_uint64pow10 (H:=Unit)=Lib.tabData .u64 Lib.pow10Tab:=by kernel_rfl
theorem OJ{r:List (String×DataW Unit)}{W:World}(h:laidMet Tryz.prog (("math/bits.deBruijn32tab",Rows.laid_math_bits_deBruijn32tab)::("math/bits.deBruijn64tab",Rows.laid_math_bits_deBruijn64tab)::("internal/strconv.uint64pow10",Rows.laid_internal_strconv_uint64pow10)::r) W):JR W:=by
 have g:=h.tail.tail;rw[OH]at g;exact Lib.tabIs_of_head T9 (t:=344) (e:=175) (n:=20) (by kernel_rfl) Tryz.underlying344 Tryz.underlying175 (by kernel_rfl) (by kernel_rfl) g
def pQ(w:World):Prop:=JR w/\(∃m,w.cell? ⟨0,0,none⟩=some (.int .i64 m))/\(∃tp p,w.var? Tryz.prog "strconv.ErrSyntax"=some #[.iface tp p])/\∃tp p,w.var? Tryz.prog "strconv.ErrRange"=some #[.iface tp p]
theorem pQ.below(h:pQ w)(g:Below w.heap.size w w'):pQ w':=by
 obtain⟨u,⟨m,k⟩,⟨F,p,z⟩,I,q,B⟩:=h;refine⟨u.below g,⟨m,(g.cell (p:=⟨0,0,none⟩) ?_).trans k⟩,⟨F,p,si z g⟩,I,q,si B g⟩;show 0<w.heap.size;apply Classical.byContradiction;intro J;simp[World.cell?,Array.getElem?_eq_none (show w.heap.size<=0 by omega)]at k
theorem AY:Tryz.prog.cellsOf 352=1:=by kernel_rfl
theorem AZ:Tryz.prog.cellsOf 9=1:=by kernel_rfl
theorem CB: "*"++ "errors.errorString"= "*errors.errorString":=by decide
theorem MJ(u:TypeId)(h:Tryz.prog.typeName? 3 u=some "*errors.errorString"):u=350:=
 typeName_ptr_named (nm:= "errors.errorString") (by rw[CB];kernel_rfl) (by kernel_rfl) (by decide) u (by rw[CB];exact h)
theorem Ub:Tryz.prog.globalNamed "strconv.ErrSyntax"=some 1:=by kernel_rfl
theorem SV:(Tryz.prog.globals[1]?).map (·.type)=some 39:=by kernel_rfl
theorem Ua:Tryz.prog.globalNamed "strconv.ErrRange"=some 2:=by kernel_rfl
theorem SS:(Tryz.prog.globals[2]?).map (·.type)=some 39:=by kernel_rfl
theorem OI{W:World}(h:laidMet Tryz.prog [("math/bits.deBruijn32tab",Rows.laid_math_bits_deBruijn32tab),("math/bits.deBruijn64tab",Rows.laid_math_bits_deBruijn64tab),("internal/strconv.uint64pow10",Rows.laid_internal_strconv_uint64pow10),("strconv.ErrRange",Rows.laid_strconv_ErrRange),("strconv.ErrSyntax",Rows.laid_strconv_ErrSyntax)] W)(k:W.ShapedOpen Tryz.prog):pQ W:=by
 obtain⟨B,I,u,-,-,-⟩:=laid_sentinel h.tail.tail.tail Ua SS Tryz.underlying39 MJ Tryz.underlying350 Tryz.underlying352 rfl rfl Tryz.underlying9 AY AZ;obtain⟨F,J,z,-,-,-⟩:=laid_sentinel h.tail.tail.tail.tail Ub SV Tryz.underlying39 MJ Tryz.underlying350 Tryz.underlying352 rfl rfl Tryz.underlying9 AY AZ;exact⟨OJ h,cell_of_shapedOpen_int (P:=Tryz.prog) (g:=0) (t:=3) (zero:=#[.int .i64 0]) k (of_decide_eq_true (by kernel_rfl)) (by kernel_rfl) rfl (by kernel_rfl) (by kernel_rfl) Tryz.underlying3,⟨_,_,z⟩,_,_,u⟩
end Go.Proofs.YtokhnobcincfjaaGreatDoor
