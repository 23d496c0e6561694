/- Lemmas of this claim: TxLine. -/
import Derived.Test.YtokhnobcincfjaaGreatDoorLibV
import Derived.Test.YtokhnobcincfjaaGreatDoorShStr
import Derived.Test.YtokhnobcincfjaaGreatDoorKNFr27
import Derived.Laws.Concat
import Derived.Lib.AppendIntMem
set_option linter.unusedVariables false
set_option linter.unusedSimpArgs false
set_option maxRecDepth 100000
namespace Go.Proofs.YtokhnobcincfjaaGreatDoor
open Go.RowKit Go.Sort
abbrev bs (l:List UInt8):ByteArray:=⟨l.toArray⟩
theorem bs_size (l:List UInt8):(bs l).size=l.length:=by simp [bs,ByteArray.size]
theorem bs_data (l:List UInt8):(bs l).data.toList=l:=by simp
theorem bs_add (a b:List UInt8):bs a ++ bs b=bs (a ++ b):=ByteArray.mk_append_mk a b
theorem textLine (l : List UInt8) (w : World) (hs : l.length ≤ 1000000) (hV : LibS w) :
    Calls Tryz.prog 79 #[.string (bs l)] w fun e w'=>e=.returned (.tuple #[.string (bs (Lib.cut l [10]).1),.string (bs (Lib.cut l [10]).2.1),.bool (Lib.cut l [10]).2.2])∧Below w.heap.size w w':=by
 obtain ⟨_,⟨m,hm⟩,_⟩:=hV;go_enter Tryz.func79,Tryz.ntmps79;go_wp2_with fail
 refine (Tryz.strings_Cut (bs l) (bs [10]) m _ (by rw [bs_size];omega) hm).mono ?_
 rw [bs_data,bs_data];rintro e w' ⟨rfl,n,rfl⟩;go_wp2_with fail;go_ret3
 exact ⟨rfl,by (repeat' (first | exact Below.refl _ _ | assumption | apply bel_drewN | apply bel_drew | apply bel_alloc | (refine bel_trans ?_ (by assumption))))⟩
theorem textLine_miss {l : List UInt8} (w : World) (hs : l.length ≤ 1000000) (hV : LibS w) (h : Lib.cut l [10] = (l, [], false)) :
    Calls Tryz.prog 79 #[.string (bs l)] w fun e w'=>e=.returned (.tuple #[.string (bs l),.string (bs []),.bool false])∧Below w.heap.size w w':=by
 have:=textLine l w hs hV
 rwa [h] at this
theorem textLine_hit {l a b : List UInt8} (w : World) (hs : l.length ≤ 1000000) (hV : LibS w) (h : Lib.cut l [10] = (a, b, true)) :
    Calls Tryz.prog 79 #[.string (bs l)] w fun e w'=>e=.returned (.tuple #[.string (bs a),.string (bs b),.bool true])∧Below w.heap.size w w':=by
 have:=textLine l w hs hV
 rwa [h] at this
theorem cutWord (l wd t : List UInt8) (hp : Bool) (w : World) (ht : Lib.trimPrefix l (wd ++ [32]) = t) (hhp : Lib.hasPrefix l (wd ++ [32]) = hp) :
    Calls Tryz.prog 125 #[.string (bs l),.string (bs wd ++ bs [32])] w fun e w'=>e=.returned (.tuple #[.string (bs t),.bool hp])∧w=w':=by
 have:=Tryz.strings_CutPrefix (bs l) (bs wd ++ bs [32]) w;rw [bs_add,bs_data,bs_data,ht,hhp] at this;rw [bs_add]
 exact this.mono fun _ _ ⟨h1,h2⟩=>⟨h1,h2.symm⟩
def NumPost (o:Option Int) (e:Ending):Prop:=∃n b,e=.returned (.tuple #[.int .i64 n,.bool b])∧b=o.isSome∧(∀v,o=some v→n=v)∧-9223372036854775808≤n∧n≤9223372036854775807
theorem textNumber (l wd : List UInt8) (w : World) (hs : l.length ≤ 1000000) (hw : wd.length ≤ 1000) (hV : LibS w) :
    Calls Tryz.prog 80 #[.string (bs l),.string (bs wd)] w fun e w'=>NumPost (numOf (wd ++ [32]) l) e∧Below w.heap.size w w':=by
 have hsum:¬(bs wd).size+(bs [32]).size > 9223372036854775807:=by rw [bs_size,bs_size];simp;omega
 have hnum:∃o,numOf (wd ++ [32]) l=o:=⟨_,rfl⟩;obtain ⟨o,ho⟩:=hnum;rw [ho];obtain ⟨t,ht⟩:∃t,Lib.trimPrefix l (wd ++ [32])=t:=⟨_,rfl⟩;obtain ⟨hp,hhp⟩:∃b,Lib.hasPrefix l (wd ++ [32])=b:=⟨_,rfl⟩
 have htl:t.length≤1000000:=by rw [←ht];exact Nat.le_trans (Lib.trimPrefix_le _ _) hs
 have hot:o=if hp=true then numT t else none:=by
  rw [←ho,←ht,←hhp];unfold numOf Lib.trimPrefix
  split <;> rfl
 have C:=Lib.hid (fun (wx:World)=>cutWord l wd t hp wx ht hhp)
 clear ho ht hhp hs hw;obtain ⟨hT,-,⟨ts,ps,hsyn⟩,tr,pr,hrng⟩:=hV;have hT:=Lib.hid hT;have hsyn:=Lib.hid hsyn;have hrng:=Lib.hid hrng;go_enter Tryz.func80,Tryz.ntmps80;go_wp2_with fail;refine (C.out _).mono ?_;rintro e w' ⟨rfl,rfl⟩
 cases ha:Lib.atoiAll t with
 | ok v=>
  obtain ⟨v0,v1⟩:=Lib.atoiAll_bounds ha;go_wp2_with fail
  refine (Tryz.strconv_Atoi_ok (bs t) (by rw [bs_size];omega) v (by rw [bs_data];exact ha) _).mono ?_
  rintro e w1 ⟨rfl,hw1⟩
  have hb1:Below w.heap.size w w1:=by
   rcases hw1 with rfl | ⟨x,rfl⟩
   ·exact Below.refl _ _
   ·exact Lib.bytesWorld_below _ _ _
  clear hw1;have hT1:=Lib.hid (hT.out.below hb1)
  cases hp with
  | false=>
   go_wp2_with fail;go_ret2;refine ⟨⟨v,false,rfl,?_,?_,v0,v1⟩,hb1⟩
   ·rw [hot];rfl
   ·intro x hx;rw [hot] at hx;cases hx
  | true=>
   go_wp2_with fail;refine (Tryz.strconv_Itoa v v0 v1 _ hT1.out).mono ?_;rintro e w2 ⟨rfl,k,os,rfl⟩;go_wp2_with fail;go_ret2;refine ⟨⟨v,_,rfl,?_,?_,v0,v1⟩,bel_trans hb1 (Lib.below_grow _ _ (Nat.le_refl _) _ _)⟩
   ·rw [hot,if_pos trivial]
    unfold numT;rw [ha]
    by_cases e:Lib.itoa v=t <;> simp [e]
   ·intro x hx
    rw [hot,if_pos trivial] at hx;unfold numT at hx;rw [ha] at hx;simp only at hx
    split at hx
    ·exact Option.some.inj hx
    ·cases hx
 | range=>
  go_wp2_with fail
  refine (Tryz.strconv_Atoi_range_var (bs t) (by rw [bs_size];omega) (by rw [bs_data];exact ha) _ _ _ hrng.out).mono ?_
  rintro e w1 ⟨N,rfl,-,-,hb1⟩
  have hn:o=none:=by
   rw [hot]
   split
   ·unfold numT;rw [ha]
   ·rfl
  cases hp <;>
  ·go_wp2_with fail
   go_ret2
   refine ⟨⟨_,false,rfl,by rw [hn];rfl,(fun x hx=>by rw [hn] at hx;cases hx),?_,?_⟩,hb1⟩ <;> (unfold Lib.atoiSat;split <;> decide)
 | _=>
  go_wp2_with fail
  refine (Tryz.strconv_Atoi_syntax_var (bs t) (by rw [bs_size];omega) (by rw [bs_data];exact ha) _ _ _ hsyn.out).mono ?_
  rintro e w1 ⟨N,rfl,-,-,hb1⟩
  have hn:o=none:=by
   rw [hot]
   split
   ·unfold numT;rw [ha]
   ·rfl
  cases hp <;>
  ·go_wp2_with fail
   go_ret2
   refine ⟨⟨_,false,rfl,by rw [hn];rfl,(fun x hx=>by rw [hn] at hx;cases hx),?_,?_⟩,hb1⟩ <;> decide
end Go.Proofs.YtokhnobcincfjaaGreatDoor
