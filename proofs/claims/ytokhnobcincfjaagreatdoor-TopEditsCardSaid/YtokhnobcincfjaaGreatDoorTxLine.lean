/- Lemmas of this claim: TxLine. -/
import Derived.Test.YtokhnobcincfjaaGreatDoorLibV
import Derived.Test.YtokhnobcincfjaaGreatDoorShStr
import Derived.Test.YtokhnobcincfjaaGreatDoorKNEd28
import Derived.Lib.AppendIntMem
set_option linter.unusedVariables false
set_option linter.unusedSimpArgs false
set_option maxRecDepth 100000
namespace Go.Proofs.YtokhnobcincfjaaGreatDoor
open Go.Lib (hid)
open Go.RowKit Go.Sort
abbrev bs(l:List UInt8):ByteArray:=⟨l.toArray⟩
theorem gG(l:List UInt8):(bs l).size=l.length:=by simp[bs,ByteArray.size]
theorem kT(l:List UInt8):(bs l).data.toList=l:=by simp
theorem oQ(a b:List UInt8):bs a++bs b=bs (a++b):=ByteArray.mk_append_mk a b
theorem CK(l:List UInt8)(w:World)(z:l.length<=1000000)(k:pQ w):Calls Tryz.prog 79 #[.string (bs l)] w λe g=>e=.returned (.tuple #[.string (bs (Lib.cut l [10]).1),.string (bs (Lib.cut l [10]).2.1),.bool (Lib.cut l [10]).2.2])/\Below w.heap.size w g:=by
 obtain⟨_,⟨m,u⟩,_⟩:=k;go_enter Tryz.func79,Tryz.ntmps79;go_wp2_with fail;refine(Tryz.strings_Cut (bs l) (bs [10]) m _ (by rw[gG];omega) u).mono ?_;rw[kT,kT];rintro e g ⟨rfl,n,rfl⟩;go_wp2_with fail;go_ret3
 exact⟨rfl,by(repeat' (first|exact Below.refl _ _|assumption|apply aj|apply ah|apply af|(refine aa ?_ (by assumption))))⟩
theorem oD{l:List UInt8}(w:World)(k:l.length<=1000000)(g:pQ w)(h:Lib.cut l [10]=(l,[],false)):Calls Tryz.prog 79 #[.string (bs l)] w λe u=>e=.returned (.tuple #[.string (bs l),.string (bs []),.bool false])/\Below w.heap.size w u:=by
 have:=CK l w k g;rwa[h]at this
theorem qV{l a b:List UInt8}(w:World)(k:l.length<=1000000)(g:pQ w)(h:Lib.cut l [10]=(a,b,true)):Calls Tryz.prog 79 #[.string (bs l)] w λe u=>e=.returned (.tuple #[.string (bs a),.string (bs b),.bool true])/\Below w.heap.size w u:=by
 have:=CK l w k g;rwa[h]at this
theorem Oc(l g t:List UInt8)(u:Bool)(w:World)(F:Lib.trimPrefix l (g++[32])=t)(k:Lib.hasPrefix l (g++[32])=u):Calls Tryz.prog 125 #[.string (bs l),.string (bs g++bs [32])] w λe I=>e=.returned (.tuple #[.string (bs t),.bool u])/\w=I:=by
 have:=Tryz.strings_CutPrefix (bs l) (bs g++bs [32]) w;rw[oQ,kT,kT,F,k]at this;rw[oQ];exact this.mono λ_ _⟨z,B⟩=>⟨z,B.symm⟩
def NA(o:Option Int)(e:Ending):Prop:=∃n b,e=.returned (.tuple #[.int .i64 n,.bool b])/\b=o.isSome/\(∀v,o=some v->n=v)/\-9223372036854775808<=n/\n<=9223372036854775807
theorem wK(l J:List UInt8)(w:World)(hs:l.length<=1000000)(hw:J.length<=1000)(hV:pQ w):Calls Tryz.prog 80 #[.string (bs l),.string (bs J)] w λe w'=>NA (numOf (J++[32]) l) e/\Below w.heap.size w w':=by
 have ab:¬(bs J).size+(bs [32]).size>9223372036854775807:=by rw[gG,gG];simp;omega
 have O:∃o,numOf (J++[32]) l=o:=⟨_,rfl⟩;obtain⟨o,U⟩:=O;rw[U];obtain⟨t,R⟩:∃t,Lib.trimPrefix l (J++[32])=t:=⟨_,rfl⟩;obtain⟨P,L⟩:∃b,Lib.hasPrefix l (J++[32])=b:=⟨_,rfl⟩;have ac:t.length<=1000000:=by rw[<-R];exact Nat.le_trans (Lib.trimPrefix_le _ _) hs
 have z:o=if P=true then vF t else none:=by
  rw[<-U,<-R,<-L];unfold numOf Lib.trimPrefix;split<;>rfl
 have C:=hid (λ(wx:World)=>Oc l J t P wx R L);clear U R L hs hw;obtain⟨S,-,⟨ts,ps,F⟩,tr,pr,B⟩:=hV;have S:=hid S;have F:=hid F;have B:=hid B;go_enter Tryz.func80,Tryz.ntmps80;go_wp2_with fail;refine(C.out _).mono ?_;rintro e w' ⟨rfl,rfl⟩
 cases I:Lib.atoiAll t with
 |ok v=>
  obtain⟨Z,v1⟩:=Lib.atoiAll_bounds I;go_wp2_with fail;refine(Tryz.strconv_Atoi_ok (bs t) (by rw[gG];omega) v (by rw[kT];exact I) _).mono ?_;rintro e w1 ⟨rfl,Q⟩
  have u:Below w.heap.size w w1:=by
   rcases Q with rfl|⟨x,rfl⟩
   .exact Below.refl _ _
   .exact Lib.bytesWorld_below _ _ _
  clear Q;have T:=hid (S.out.below u);cases P with
  |false=>
   go_wp2_with fail;go_ret2;refine⟨⟨v,false,rfl,?_,?_,Z,v1⟩,u⟩
   .rw[z];rfl
   .intro x g;rw[z]at g;cases g
  |true=>
   go_wp2_with fail;refine(Tryz.strconv_Itoa v Z v1 _ T.out).mono ?_;rintro e w2 ⟨rfl,k,os,rfl⟩;go_wp2_with fail;go_ret2;refine⟨⟨v,_,rfl,?_,?_,Z,v1⟩,aa u (Lib.below_grow _ _ (Nat.le_refl _) _ _)⟩
   .rw[z,if_pos trivial]
    unfold vF;rw[I];by_cases e:Lib.itoa v=t<;>simp[e]
   .intro x g
    rw[z,if_pos trivial]at g;unfold vF at g;rw[I]at g;simp only at g;split at g
    .exact Option.some.inj g
    .cases g
 |range=>
  go_wp2_with fail;refine(Tryz.strconv_Atoi_range_var (bs t) (by rw[gG];omega) (by rw[kT];exact I) _ _ _ B.out).mono ?_;rintro e w1 ⟨N,rfl,-,-,u⟩
  have M:o=none:=by
   rw[z];split
   .unfold vF;rw[I]
   .rfl
  cases P<;>
  .go_wp2_with fail
   go_ret2;refine⟨⟨_,false,rfl,by rw[M];rfl,(λx g=>by rw[M]at g;cases g),?_,?_⟩,u⟩<;>(unfold Lib.atoiSat;split<;>decide)
 |_=>
  go_wp2_with fail;refine(Tryz.strconv_Atoi_syntax_var (bs t) (by rw[gG];omega) (by rw[kT];exact I) _ _ _ F.out).mono ?_;rintro e w1 ⟨N,rfl,-,-,u⟩
  have M:o=none:=by
   rw[z];split
   .unfold vF;rw[I]
   .rfl
  cases P<;>
  .go_wp2_with fail
   go_ret2;refine⟨⟨_,false,rfl,by rw[M];rfl,(λx g=>by rw[M]at g;cases g),?_,?_⟩,u⟩<;>decide
