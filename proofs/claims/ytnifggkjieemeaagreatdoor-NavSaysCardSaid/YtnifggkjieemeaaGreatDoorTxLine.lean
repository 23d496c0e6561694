/- Lemmas of this claim: LibV, TxLine. -/
import Derived.Test.YtnifggkjieemeaaGreatDoorKNNs4
import Derived.Test.YtnifggkjieemeaaGreatDoorRows
import Derived.Stop.LaidErr
import Derived.Test.YtnifggkjieemeaaGreatDoorShStr
import Derived.Test.YtnifggkjieemeaaGreatDoorKNNs28
import Derived.Lib.AppendIntMem
set_option linter.unusedVariables false
set_option linter.unusedSimpArgs false
set_option maxRecDepth 100000
open Go.Proofs.Tryz
namespace Go.Proofs.YtnifggkjieemeaaGreatDoor
open Go.Lib (hid)
open Go.RowKit Go.Sort
section
variable {H:Type} {enc:TypeId×Value->H}
theorem Db{a:Assume}{C:Checked}{os:Os}{f:FuncId}{L:Func}{s:ChangeSpec}{F:List PathCond}{k fresh z B:Bool}{X:World->Array Value->Prop}(hX:∀(w w':World)(g:Array Value),w.heap=w'.heap->X w g->X w' g)(own:ownKnob C.prog.godebug=none)(I:os.Started)(P:C.prog.inits.idxOf? f=none)(U:C.prog.funcs[f]? =some L)(J:∃(w:World)(m:Tape)(i:Input),w.os=os/\(w.forCall m i).Shaped C.prog/\i.vars=[]/\Input.okWide C.prog (w.forCall m i) .any w.heap.size f i/\((s.pre enc C.prog L F k (w.forCall m i).memory i.args/\X (w.forCall m i).memory i.args)/\sizedMet enc C.prog L (OpenSpec.ofChange s) k (w.forCall m i).memory i.args)/\a.holds C.prog (lone (Frame.enter C.prog f i.args .normal) [] (w.forCall m i)))(go:∀(W:World)(base:Nat)(g:Array Value)(S T:List (DataW H))(u:List MemPlace),(∀(j:Nat)t v,L.params[j]? =some t->g[j]? =some v->Value.okWide C.prog W .any base t v)->DataW.Whole enc C.prog L.params.toList s.vars k W g.toList S T u->W.ShapedOpen C.prog->X W g->Calls C.prog f g W λe Z=>∃v,e=.returned v/\s.post enc C.prog L k fresh z B W g v Z):ReturnsInHanded a C os f .any (λw g=>(s.pre enc C.prog L F k w g/\X w g)/\sizedMet enc C.prog L (OpenSpec.ofChange s) k w g) (s.post enc C.prog L k fresh z B):=by
 refine returnsInHanded_of_calls own I P J ?_;rintro w m i-M- ⟨-,-,-,aa,R,-,-,-,-,Q⟩ ⟨⟨⟨S,T,u,O,-⟩,hx⟩,-⟩ -;cases Option.some.inj (R.symm.trans U);refine(go (w.forCall m i) w.heap.size i.args S T u Q (O.of_heap (by rfl)) M (hX _ _ _ (by rfl) hx)).mono ?_;rintro e Z ⟨v,rfl,hp⟩;exact ChangeSpec.post_blind hp
end
variable {w w':World}
theorem vH{P:Program}{n:String}{cs:Array Value}(h:w.var? P n=some cs)(u:Below w.heap.size w w'):w'.var? P n=some cs:=by
 unfold World.var? at h⊢;cases m:P.globalNamed n with
 |none=>rw[m]at h;cases h
 |some g=>
  rw[m]at h;simp only[Option.bind_some]at h⊢
  have k:g<w.heap.size:=by
   apply Zu;intro z;rw[Array.getElem?_eq_none om]at h;cases h
  rw[u.block g k];exact h
def NB(w:World):Prop:=Lib.TabIs prog w "internal/strconv.uint64pow10" .u64 Lib.pow10Tab
theorem XW:prog.globalNamed "internal/strconv.uint64pow10"=some 3:=kr
theorem NB.below(h:NB w)(g:Below w.heap.size w w'):NB w':=vH h g
theorem Sy:Rows.laid_internal_strconv_uint64pow10 (H:=Unit)=Lib.tabData .u64 Lib.pow10Tab:=kr
theorem SF{r:List (String×DataW Unit)}{W:World}(h:laidMet prog (("math/bits.deBruijn32tab",Rows.laid_math_bits_deBruijn32tab)::("math/bits.deBruijn64tab",Rows.laid_math_bits_deBruijn64tab)::("internal/strconv.uint64pow10",Rows.laid_internal_strconv_uint64pow10)::r) W):NB W:=by
 have g:=h.tail.tail;rw[Sy]at g;exact Lib.tabIs_of_head XW (t:=329) (e:=143) (n:=20) kr underlying329 underlying143 kr kr g
def xu(w:World):Prop:=NB w/\(∃m,w.cell? ⟨0,0,none⟩=some (rI m))/\(∃tp p,w.var? prog "strconv.ErrSyntax"=some #[.iface tp p])/\∃tp p,w.var? prog "strconv.ErrRange"=some #[.iface tp p]
theorem xu.below(h:xu w)(g:Below w.heap.size w w'):xu w':=by
 obtain⟨u,⟨m,k⟩,⟨F,p,z⟩,I,q,B⟩:=h;refine⟨u.below g,⟨m,(g.cell (p:=⟨0,0,none⟩) ?_).trans k⟩,⟨F,p,vH z g⟩,I,q,vH B g⟩;show 0<w.heap.size;apply Zu;intro J;simp[World.cell?,Array.getElem?_eq_none (show w.heap.size<=0 by omega)]at k
theorem D5:prog.cellsOf 339=1:=kr
theorem D7:prog.cellsOf 9=1:=kr
theorem FP: "*"++ "errors.errorString"= "*errors.errorString":=rD
theorem Qz(u:TypeId)(h:prog.typeName? 3 u=some "*errors.errorString"):u=337:=
 typeName_ptr_named (nm:= "errors.errorString") (by rw[FP];kernel_rfl) kr rD u (by rw[FP];exact h)
theorem XZ:prog.globalNamed "strconv.ErrSyntax"=some 1:=kr
theorem WV:(prog.globals[1]?).map (·.type)=some 27:=kr
theorem XX:prog.globalNamed "strconv.ErrRange"=some 2:=kr
theorem WU:(prog.globals[2]?).map (·.type)=some 27:=kr
theorem SC{W:World}(h:laidMet prog [("math/bits.deBruijn32tab",Rows.laid_math_bits_deBruijn32tab),("math/bits.deBruijn64tab",Rows.laid_math_bits_deBruijn64tab),("internal/strconv.uint64pow10",Rows.laid_internal_strconv_uint64pow10),("strconv.ErrRange",Rows.laid_strconv_ErrRange),("strconv.ErrSyntax",Rows.laid_strconv_ErrSyntax)] W)(k:W.ShapedOpen prog):xu W:=by
 obtain⟨z,F,m,-,-,-⟩:=laid_sentinel h.tail.tail.tail XX WU underlying27 Qz underlying337 underlying339 rfl rfl underlying9 D5 D7;obtain⟨B,I,u,-,-,-⟩:=laid_sentinel h.tail.tail.tail.tail XZ WV underlying27 Qz underlying337 underlying339 rfl rfl underlying9 D5 D7;exact⟨SF h,cell_of_shapedOpen_int (P:=prog) (g:=0) (t:=3) (zero:=#[rI 0]) k (of_decide_eq_true kr) kr rfl kr kr underlying3,⟨_,_,u⟩,_,_,m⟩
abbrev bs(l:List UInt8):ByteArray:=⟨l.toArray⟩
theorem fw(l:List UInt8):(bs l).size=l.length:=by simp[bs,ByteArray.size]
theorem mH(l:List UInt8):(bs l).data.toList=l:=rS
theorem qK(a b:List UInt8):bs a++bs b=bs (a++b):=ByteArray.mk_append_mk a b
theorem Ul(s:ByteArray):∃l,s=bs l:=⟨s.data.toList,(Lib.mk_data s).symm⟩
theorem FZ(l:List UInt8)(w:World)(z:l.length<=1000000)(k:xu w):Calls prog 69 #[.string (bs l)] w (Rt w (.tuple #[.string (bs (Lib.cut l [10]).1),.string (bs (Lib.cut l [10]).2.1),.bool (Lib.cut l [10]).2.2])):=by
 obtain⟨_,⟨m,u⟩,_⟩:=k;go_enter func69,ntmps69;go_wp2_with fail;refine(Tryz.strings_Cut (bs l) (bs [10]) m _ (by rw[fw];omega) u).mono ?_;rw[mH,mH];rintro e g ⟨rfl,n,rfl⟩;go_wp2_with fail;go_ret3
 exact⟨rfl,be⟩
theorem qy{l:List UInt8}(w:World)(k:l.length<=1000000)(g:xu w)(h:Lib.cut l [10]=(l,[],false)):Calls prog 69 #[.string (bs l)] w (Rt w (.tuple #[.string (bs l),.string (bs []),.bool false])):=by
 have:=FZ l w k g;rwa[h]at this
theorem tV{l a b:List UInt8}(w:World)(k:l.length<=1000000)(g:xu w)(h:Lib.cut l [10]=(a,b,true)):Calls prog 69 #[.string (bs l)] w (Rt w (.tuple #[.string (bs a),.string (bs b),.bool true])):=by
 have:=FZ l w k g;rwa[h]at this
theorem RZ(l g t:List UInt8)(m:Bool)(w:World)(B:Lib.trimPrefix l (g++[32])=t)(k:Lib.hasPrefix l (g++[32])=m):Calls prog 113 #[.string (bs l),.string (bs g++bs [32])] w λe F=>e=.returned (.tuple #[.string (bs t),.bool m])/\w=F:=by
 have:=Tryz.strings_CutPrefix (bs l) (bs g++bs [32]) w;rw[qK,mH,mH,B,k]at this;rw[qK];exact this.mono λ_ _⟨u,z⟩=>⟨u,z.symm⟩
def Rn(o:Option Int)(e:Ending):Prop:=∃n b,e=.returned (.tuple #[rI n,.bool b])/\b=o.isSome/\(∀v,o=some v->n=v)/\-9223372036854775808<=n/\n<=9223372036854775807
theorem zO(l I:List UInt8)(w:World)(hs:l.length<=1000000)(hw:I.length<=1000)(hV:xu w):Calls prog 70 #[.string (bs l),.string (bs I)] w λe w'=>Rn (numOf (I++[32]) l) e/\Below w.heap.size w w':=by
 have aa:¬(bs I).size+(bs [32]).size>9223372036854775807:=by rw[fw,fw];simp;omega
 have M:=rX (numOf (I++[32]) l);obtain⟨o,T⟩:=M;rw[T];obtain⟨t,Q⟩:=rX (Lib.trimPrefix l (I++[32]));obtain⟨O,J⟩:=rX (Lib.hasPrefix l (I++[32]));have ab:t.length<=1000000:=by rw[<-Q];exact Zg (Lib.trimPrefix_le _ _) hs
 have u:o=if O=true then oN t else none:=by
  rw[<-T,<-Q,<-J];unfold numOf Lib.trimPrefix;split<;>rfl
 have C:=hid (λ(wx:World)=>RZ l I t O wx Q J);clear T Q J hs hw;obtain⟨R,-,⟨ts,ps,B⟩,tr,pr,z⟩:=hV;have R:=hid R;have B:=hid B;have z:=hid z;go_enter func70,ntmps70;go_wp2_with fail;refine(C.out _).mono ?_;rintro e w' ⟨rfl,rfl⟩
 cases F:Lib.atoiAll t with
 |ok v=>
  obtain⟨U,Z⟩:=Lib.atoiAll_bounds F;go_wp2_with fail;refine(Tryz.strconv_Atoi_ok (bs t) (by rw[fw];omega) v (by rw[mH];exact F) _).mono ?_;rintro e w1 ⟨rfl,P⟩
  have m:Below w.heap.size w w1:=by
   rcases P with rfl|⟨x,rfl⟩
   .exact br
   .exact Lib.bytesWorld_below _ _ _
  clear P;have S:=hid (R.out.below m);cases O with
  |false=>
   go_wp2_with fail;go_ret2;refine⟨⟨v,false,rfl,?_,?_,U,Z⟩,m⟩
   .rw[u];rfl
   .intro x g;rw[u]at g;cases g
  |true=>
   go_wp2_with fail;refine(Tryz.strconv_Itoa v U Z _ S.out).mono ?_;rintro e w2 ⟨rfl,k,os,rfl⟩;go_wp2_with fail;go_ret2;refine⟨⟨v,_,rfl,?_,?_,U,Z⟩,ae m (Lib.below_grow _ _ (Zi _) _ _)⟩
   .rw[u,if_pos trivial]
    unfold oN;rw[F];by_cases e:Lib.itoa v=t<;>simp[e]
   .intro x g
    rw[u,if_pos trivial]at g;unfold oN at g;rw[F]at g;simp only at g;split at g
    .exact Option.some.inj g
    .cases g
 |range=>
  go_wp2_with fail;refine(Tryz.strconv_Atoi_range_var (bs t) (by rw[fw];omega) (by rw[mH];exact F) _ _ _ z.out).mono ?_;rintro e w1 ⟨N,rfl,-,-,m⟩
  have L:o=none:=by
   rw[u];split
   .unfold oN;rw[F]
   .rfl
  cases O<;>
  .go_wp2_with fail
   go_ret2;refine⟨⟨_,false,rfl,by rw[L];rfl,(λx g=>by rw[L]at g;cases g),?_,?_⟩,m⟩<;>(unfold Lib.atoiSat;split<;>decide)
 |_=>
  go_wp2_with fail;refine(Tryz.strconv_Atoi_syntax_var (bs t) (by rw[fw];omega) (by rw[mH];exact F) _ _ _ B.out).mono ?_;rintro e w1 ⟨N,rfl,-,-,m⟩
  have L:o=none:=by
   rw[u];split
   .unfold oN;rw[F]
   .rfl
  cases O<;>
  .go_wp2_with fail
   go_ret2;refine⟨⟨_,false,rfl,by rw[L];rfl,(λx g=>by rw[L]at g;cases g),?_,?_⟩,m⟩<;>decide
end Go.Proofs.YtnifggkjieemeaaGreatDoor
