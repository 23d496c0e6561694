/- Lemmas of this claim: RTx1. -/
import Derived.Test.YtokhnobcincfjaaGreatDoorTxLine
import Derived.Test.YtokhnobcincfjaaGreatDoorBase
import Derived.Test.YtokhnobcincfjaaGreatDoorKNFr4
import Derived.Deep.RegionWith
import Derived.Laws.IdiomStrings
set_option linter.unusedVariables false
set_option linter.unusedSimpArgs false
set_option maxHeartbeats 1000000
set_option maxRecDepth 100000
namespace Go.Proofs.YtokhnobcincfjaaGreatDoor
open Go.RowKit Go.Sort FR
theorem conv_one {wx : World} {b d : Nat} {c : UInt8} (hd : d < 10) (hc : UInt8.ofNat (48 + d) = c) (h : wx.cell? ⟨b, 0, none⟩ = some (.int .u8 (48 + (d : Nat)))) :
    (convert 162 9 (.slice (some ⟨b,0,none⟩) 1 1)).run Tryz.prog wx=.ok (.string (bs [c])) wx:=by
 refine run_convert_bytes_back wx _ _ 5 ⟨b,0,none⟩ 1 [c] Tryz.underlying162 Tryz.underlying5 Tryz.underlying9 fun j hj=>?_
 obtain rfl:j=0:=by simpa using hj
 simp only [Addr.add,List.getElem_cons_zero];have e:=ofNat_toNat d hd
 show wx.cell? ⟨b,0,none⟩=_
 rw [h,←hc,e];simp
theorem rDec_one (n : Nat) (hn : n < 10) (w : World) :
    Calls Tryz.prog 45 #[.int .i64 (n:Nat)] w fun e w'=>e=.returned (.string (bs (Lib.decDigits n)))∧Below w.heap.size w w':=by
 have q1:¬((n:Int)<0):=by omega
 have q2:(n:Int)<10:=by omega
 rw [Lib.decDigits_one hn];obtain ⟨c,hc⟩:∃c,UInt8.ofNat (48+n)=c:=⟨_,rfl⟩;rw [hc];replace hc:=Lib.hid hc;go_enter Tryz.func45,Tryz.ntmps45;go_wp2_with fail
 rw [conv_one hn hc.out (by go_simp)]
 simp only [Result.andThen];rw [Oper.upon_value];go_wp2_with fail;go_ret
 exact ⟨rfl,by (repeat' (first | exact Below.refl _ _ | assumption | apply bel_drewN | apply bel_drew | apply bel_alloc | (refine bel_trans ?_ (by assumption))))⟩
theorem rDecimal:∀(n:Nat) (_:n<1000000000000) (w:World),Calls Tryz.prog 45 #[.int .i64 (n:Nat)] w fun e w'=>e=.returned (.string (bs (Lib.decDigits n)))∧Below w.heap.size w w':=by
 intro n
 induction n using Nat.strongRecOn with
 | ind n ih=>
 intro hn w
 by_cases h10:n<10
 ·exact rDec_one n h10 w
 have q1:¬((n:Int)<0):=by omega
 have q2:¬((n:Int)<10):=by omega
 obtain ⟨m,hm⟩:∃m,n / 10=m:=⟨_,rfl⟩;obtain ⟨d,hd⟩:∃d,n % 10=d:=⟨_,rfl⟩
 have ih:=ih m (by omega) (by omega)
 have em:(n:Int).tdiv 10=(m:Nat):=by rw [Int.tdiv_eq_ediv_of_nonneg (by omega)];omega
 have ed:(n:Int).tmod 10=(d:Nat):=by rw [Int.tmod_eq_emod_of_nonneg (by omega)];omega
 have hd10:d<10:=by omega
 rw [dec_rec n (by omega),hm,hd]
 have hl:=dec_len m (by omega)
 obtain ⟨c,hc⟩:∃c,UInt8.ofNat (48+d)=c:=⟨_,rfl⟩;rw [hc];replace hc:=Lib.hid hc
 have hmb:m<100000000000:=by omega
 clear hm hd h10
 have wm:IntKind.i64.wrap (m:Int)=(m:Nat):=IntWalk.i64_in _ (by omega)
 have wd:IntKind.i64.wrap (48+(d:Int))=48+(d:Nat):=IntWalk.i64_in _ (by omega)
 have wu:IntKind.u8.wrap (48+(d:Int))=48+(d:Nat):=IntWalk.u8_in _ (by omega)
 replace ih:=Lib.hid ih
 have hcv:∀wx:World,(convert 162 9 (.slice (some ⟨wx.heap.size,0,none⟩) 1 1)).run Tryz.prog (wx.alloc (.cells #[.int .u8 (48+(d:Nat))] 5))=.ok (.string (bs [c])) (wx.alloc (.cells #[.int .u8 (48+(d:Nat))] 5)):=fun wx=>conv_one hd10 hc.out (by go_simp)
 have hnl:¬((bs (Lib.decDigits m)).size+(bs [c]).size > 9223372036854775807):=by rw [bs_size,bs_size];simp;omega
 have hadd:=bs_add (Lib.decDigits m) [c]
 have hB2:∀w1:World,Below (w.drew.alloc (.cells #[.int .u8 (48+(d:Nat))] 5)).heap.size (w.drew.alloc (.cells #[.int .u8 (48+(d:Nat))] 5)) w1→(convert 162 9 (.slice (some ⟨w.heap.size,0,none⟩) 1 1)).run Tryz.prog w1=.ok (.string (bs [c])) w1:=
  fun w1 hb1=>conv_one hd10 hc.out ((hb1.cell (p:=⟨w.heap.size,0,none⟩) (by simp)).trans (by show (w.drew.alloc _).cell? ⟨w.drew.heap.size,0,none⟩=_;go_simp))
 replace hB2:=Lib.hid hB2
 have hcv3:(convert 162 9 (.slice (some ⟨w.heap.size,0,none⟩) 1 1)).run Tryz.prog (w.alloc (.cells #[.int .u8 (48+(d:Nat))] 5)).drew=.ok (.string (bs [c])) (w.alloc (.cells #[.int .u8 (48+(d:Nat))] 5)).drew:=conv_one hd10 hc.out (by go_simp)
 go_enter Tryz.func45,Tryz.ntmps45;go_wp2_with fail
 go_region_with
  (first
   | (go_at_call 45
      (with_reducible refine (ih.out _).mono ?_)
      rintro e w1 ⟨rfl,hb1⟩
      first
       | have hcv2:=hB2.out _ hb1
       | skip))
 all_goals
  go_wp2;go_ret
  first
   | exact ⟨rfl,bel_alloc (bel_trans (bel_drew (Below.refl _ _)) hb1)⟩
   | exact ⟨rfl,bel_trans (bel_drew (bel_alloc (Below.refl _ _))) hb1⟩
end Go.Proofs.YtokhnobcincfjaaGreatDoor
