/- Lemmas of this claim: LibV. -/
import Derived.Test.YtokhnobcincfjaaGreatDoorBase
import Derived.Test.YtokhnobcincfjaaGreatDoorKNFr4
import Derived.Test.YtokhnobcincfjaaGreatDoorRows
import Derived.Lib.LaidTab
import Derived.Lib.ItoaNum
import Derived.Stop.LaidErr
import Derived.Shelf.Vars
import Derived.SizedLaws
import Derived.ChangeShapes
set_option linter.unusedVariables false
set_option linter.unusedSimpArgs false
namespace Go.Proofs.YtokhnobcincfjaaGreatDoor
open Go.RowKit Go.Sort
section
variable {H:Type} {enc:TypeId×Value→H}
theorem returns_laid {a : Assume} {C : Checked} {os : Os} {f : FuncId} {fn : Func} {s : ChangeSpec} {conds : List PathCond} {apart fresh handsOn again : Bool} {X : World → Array Value → Prop}
    (hX:∀(w w':World) (args:Array Value),w.heap=w'.heap→X w args→X w' args)
    (own:ownKnob C.prog.godebug=none) (started:os.Started) (noInit:C.prog.inits.idxOf? f=none) (hfn:C.prog.funcs[f]? = some fn)
    (witness:∃(w:World) (tape:Tape) (i:Input),w.os=os∧(w.forCall tape i).Shaped C.prog∧i.vars=[]∧Input.okWide C.prog (w.forCall tape i) .any w.heap.size f i ∧
     ((s.pre enc C.prog fn conds apart (w.forCall tape i).memory i.args∧X (w.forCall tape i).memory i.args)∧sizedMet enc C.prog fn (OpenSpec.ofChange s) apart (w.forCall tape i).memory i.args)∧a.holds C.prog (lone (Frame.enter C.prog f i.args .normal) [] (w.forCall tape i)))
    (go:∀(W:World) (base:Nat) (args:Array Value) (ds gs:List (DataW H)) (before:List MemPlace),
     (∀(j:Nat) t v,fn.params[j]? = some t→args[j]? = some v→Value.okWide C.prog W .any base t v)→
     DataW.Whole enc C.prog fn.params.toList s.vars apart W args.toList ds gs before→W.ShapedOpen C.prog→X W args→
     Calls C.prog f args W fun e W'=>∃v,e=.returned v∧s.post enc C.prog fn apart fresh handsOn again W args v W') :
    ReturnsInHanded a C os f .any (fun w args=>(s.pre enc C.prog fn conds apart w args∧X w args)∧sizedMet enc C.prog fn (OpenSpec.ofChange s) apart w args) (s.post enc C.prog fn apart fresh handsOn again):=by
 refine returnsInHanded_of_calls own started noInit witness ?_;rintro w tape i-hshape - ⟨-,-,-,fn',hfn',-,-,-,-,hvals⟩ ⟨⟨⟨ds,gs,before,hwhole,-⟩,hx⟩,-⟩ -
 cases Option.some.inj (hfn'.symm.trans hfn)
 refine (go (w.forCall tape i) w.heap.size i.args ds gs before hvals (hwhole.of_heap (by rfl)) hshape (hX _ _ _ (by rfl) hx)).mono ?_
 rintro e W' ⟨v,rfl,hp⟩;exact ChangeSpec.post_blind hp
end
theorem var_below {P:Program} {n:String} {cs:Array Value} {w w':World} (h:w.var? P n=some cs) (hb:Below w.heap.size w w'):w'.var? P n=some cs:=by
 unfold World.var? at h ⊢
 cases hg:P.globalNamed n with
 | none=>rw [hg] at h;cases h
 | some g=>
  rw [hg] at h
  simp only [Option.bind_some] at h ⊢
  have hlt:g<w.heap.size:=by
   apply Classical.byContradiction
   intro hn
   rw [Array.getElem?_eq_none (by omega)] at h
   cases h
  rw [hb.block g hlt];exact h
def LibT (w:World):Prop:=Lib.TabIs Tryz.prog w "internal/strconv.uint64pow10" .u64 Lib.pow10Tab
theorem gPow:Tryz.prog.globalNamed "internal/strconv.uint64pow10" = some 3:=by kernel_rfl
theorem LibT.below {w w':World} (h:LibT w) (hb:Below w.heap.size w w'):LibT w':=var_below h hb
theorem laidPow:Rows.laid_internal_strconv_uint64pow10 (H:=Unit)=Lib.tabData .u64 Lib.pow10Tab:=by kernel_rfl
theorem libT_of {r:List (String×DataW Unit)} {W:World} (h:laidMet Tryz.prog (("math/bits.deBruijn32tab",Rows.laid_math_bits_deBruijn32tab) :: ("math/bits.deBruijn64tab",Rows.laid_math_bits_deBruijn64tab) :: ("internal/strconv.uint64pow10",Rows.laid_internal_strconv_uint64pow10) :: r) W):LibT W:=by
 have h2:=h.tail.tail;rw [laidPow] at h2
 exact Lib.tabIs_of_head gPow (t:=344) (e:=175) (n:=20) (by kernel_rfl) Tryz.underlying344 Tryz.underlying175 (by kernel_rfl) (by kernel_rfl) h2
def LibS (w:World):Prop:=LibT w∧(∃m,w.cell? ⟨0,0,none⟩=some (.int .i64 m))∧(∃tp p,w.var? Tryz.prog "strconv.ErrSyntax" = some #[.iface tp p])∧∃tp p,w.var? Tryz.prog "strconv.ErrRange" = some #[.iface tp p]
theorem LibS.below {w w':World} (h:LibS w) (hb:Below w.heap.size w w'):LibS w':=by
 obtain ⟨h1,⟨m,h2⟩,⟨tp,p,h3⟩,tq,q,h4⟩:=h;refine ⟨h1.below hb,⟨m,(hb.cell (p:=⟨0,0,none⟩) ?_).trans h2⟩,⟨tp,p,var_below h3 hb⟩,tq,q,var_below h4 hb⟩
 show 0<w.heap.size
 apply Classical.byContradiction
 intro hn
 simp [World.cell?,Array.getElem?_eq_none (show w.heap.size≤0 by omega)] at h2
theorem cellsErr:Tryz.prog.cellsOf 352=1:=by kernel_rfl
theorem cellsStr:Tryz.prog.cellsOf 9=1:=by kernel_rfl
theorem star_err : "*" ++ "errors.errorString" = "*errors.errorString":=by decide
theorem rowErr (u:TypeId) (h:Tryz.prog.typeName? 3 u=some "*errors.errorString"):u=350:=
 typeName_ptr_named (nm := "errors.errorString") (by rw [star_err];kernel_rfl) (by kernel_rfl) (by decide) u (by rw [star_err];exact h)
theorem gSyn:Tryz.prog.globalNamed "strconv.ErrSyntax" = some 1:=by kernel_rfl
theorem gSynT:(Tryz.prog.globals[1]?).map (·.type)=some 39:=by kernel_rfl
theorem gRng:Tryz.prog.globalNamed "strconv.ErrRange" = some 2:=by kernel_rfl
theorem gRngT:(Tryz.prog.globals[2]?).map (·.type)=some 39:=by kernel_rfl
theorem libS_of {W:World} (h:laidMet Tryz.prog [("math/bits.deBruijn32tab",Rows.laid_math_bits_deBruijn32tab),("math/bits.deBruijn64tab",Rows.laid_math_bits_deBruijn64tab),("internal/strconv.uint64pow10",Rows.laid_internal_strconv_uint64pow10),("strconv.ErrRange",Rows.laid_strconv_ErrRange),("strconv.ErrSyntax",Rows.laid_strconv_ErrSyntax)] W) (hsh:W.ShapedOpen Tryz.prog):LibS W:=by
 obtain ⟨a0,s0,hv0,-,-,-⟩:=laid_sentinel h.tail.tail.tail gRng gRngT Tryz.underlying39 rowErr Tryz.underlying350 Tryz.underlying352 rfl rfl Tryz.underlying9 cellsErr cellsStr;obtain ⟨a1,s1,hv1,-,-,-⟩:=laid_sentinel h.tail.tail.tail.tail gSyn gSynT Tryz.underlying39 rowErr Tryz.underlying350 Tryz.underlying352 rfl rfl Tryz.underlying9 cellsErr cellsStr
 exact ⟨libT_of h,cell_of_shapedOpen_int (P:=Tryz.prog) (g:=0) (t:=3) (zero:=#[.int .i64 0]) hsh (of_decide_eq_true (by kernel_rfl)) (by kernel_rfl) rfl (by kernel_rfl) (by kernel_rfl) Tryz.underlying3,⟨_,_,hv1⟩,_,_,hv0⟩
end Go.Proofs.YtokhnobcincfjaaGreatDoor
