/- Lemmas of this claim: RTx1. -/
import Derived.Test.YtokhnobcincfjaaGreatDoorTxLine
set_option linter.unusedVariables false
set_option linter.unusedSimpArgs false
set_option maxHeartbeats 1000000
set_option maxRecDepth 100000
namespace Go.Proofs.YtokhnobcincfjaaGreatDoor
open Go.Lib (hid)
open Go.RowKit Go.Sort FR
theorem p9{g:World}{b d:Nat}{c:UInt8}(u:d<10)(k:UInt8.ofNat (48+d)=c)(h:g.cell? ⟨b,0,none⟩=some (.int .u8 (48+(d:Nat)))):(convert 162 9 (.slice (some ⟨b,0,none⟩) 1 1)).run Tryz.prog g=.ok (.string (bs [c])) g:=by
 refine run_convert_bytes_back g _ _ 5 ⟨b,0,none⟩ 1 [c] Tryz.underlying162 Tryz.underlying5 Tryz.underlying9 λj z=>?_;obtain rfl:j=0:=by simpa using z
 simp only[Addr.add,List.getElem_cons_zero];have e:=ofNat_toNat d u;show g.cell? ⟨b,0,none⟩=_;rw[h,<-k,e];simp
theorem MB(n:Nat)(k:n<10)(w:World):Calls Tryz.prog 45 #[.int .i64 (n:Nat)] w λe u=>e=.returned (.string (bs (Lib.decDigits n)))/\Below w.heap.size w u:=by
 have z:¬((n:Int)<0):=by omega
 have B:(n:Int)<10:=by omega
 rw[Lib.decDigits_one k];obtain⟨c,g⟩:∃c,UInt8.ofNat (48+n)=c:=⟨_,rfl⟩;rw[g];replace g:=hid g;go_enter Tryz.func45,Tryz.ntmps45;go_wp2_with fail;rw[p9 k g.out (by go_simp)];simp only[Result.andThen];rw[Oper.upon_value];go_wp2_with fail;go_ret
 exact⟨rfl,by(repeat' (first|exact Below.refl _ _|assumption|apply aj|apply ah|apply af|(refine aa ?_ (by assumption))))⟩
theorem Ck:∀(n:Nat)(_:n<1000000000000)(w:World),Calls Tryz.prog 45 #[.int .i64 (n:Nat)] w λe U=>e=.returned (.string (bs (Lib.decDigits n)))/\Below w.heap.size w U:=by
 intro n
 induction n using Nat.strongRecOn with
 |ind n F=>
 intro hn w;by_cases B:n<10
 .exact MB n B w
 have q1:¬((n:Int)<0):=by omega
 have q2:¬((n:Int)<10):=by omega
 obtain⟨m,Q⟩:∃m,n/10=m:=⟨_,rfl⟩;obtain⟨d,P⟩:∃d,n%10=d:=⟨_,rfl⟩;have F:=F m (by omega) (by omega);have em:(n:Int).tdiv 10=(m:Nat):=by rw[Int.tdiv_eq_ediv_of_nonneg (by omega)];omega
 have Z:(n:Int).tmod 10=(d:Nat):=by rw[Int.tmod_eq_emod_of_nonneg (by omega)];omega
 have k:d<10:=by omega
 rw[Fy n (by omega),Q,P];have hl:=iP m (by omega);obtain⟨c,z⟩:∃c,UInt8.ofNat (48+d)=c:=⟨_,rfl⟩;rw[z];replace z:=hid z;have S:m<100000000000:=by omega
 clear Q P B;have wm:IntKind.i64.wrap (m:Int)=(m:Nat):=IntWalk.i64_in _ (by omega);have wd:IntKind.i64.wrap (48+(d:Int))=48+(d:Nat):=IntWalk.i64_in _ (by omega);have wu:IntKind.u8.wrap (48+(d:Int))=48+(d:Nat):=IntWalk.u8_in _ (by omega);replace F:=hid F;have R:∀J:World,(convert 162 9 (.slice (some ⟨J.heap.size,0,none⟩) 1 1)).run Tryz.prog (J.alloc (.cells #[.int .u8 (48+(d:Nat))] 5))=.ok (.string (bs [c])) (J.alloc (.cells #[.int .u8 (48+(d:Nat))] 5)):=λJ=>p9 k z.out (by go_simp);have T:¬((bs (Lib.decDigits m)).size+(bs [c]).size>9223372036854775807):=by rw[gG,gG];simp;omega
 have L:=oQ (Lib.decDigits m) [c]
 have u:∀I:World,Below (w.drew.alloc (.cells #[.int .u8 (48+(d:Nat))] 5)).heap.size (w.drew.alloc (.cells #[.int .u8 (48+(d:Nat))] 5)) I->(convert 162 9 (.slice (some ⟨w.heap.size,0,none⟩) 1 1)).run Tryz.prog I=.ok (.string (bs [c])) I:=
  λI g=>p9 k z.out ((g.cell (p:=⟨w.heap.size,0,none⟩) (by simp)).trans (by show(w.drew.alloc _).cell? ⟨w.drew.heap.size,0,none⟩=_;go_simp))
 replace u:=hid u;have O:(convert 162 9 (.slice (some ⟨w.heap.size,0,none⟩) 1 1)).run Tryz.prog (w.alloc (.cells #[.int .u8 (48+(d:Nat))] 5)).drew=.ok (.string (bs [c])) (w.alloc (.cells #[.int .u8 (48+(d:Nat))] 5)).drew:=p9 k z.out (by go_simp);go_enter Tryz.func45,Tryz.ntmps45;go_wp2_with fail
 go_region_with
  (first
   |(go_at_call 45
     (with_reducible refine(F.out _).mono ?_);rintro e I ⟨rfl,g⟩
     first
      |have M:=u.out _ g
      |skip))
 all_goals
  go_wp2;go_ret
  first
   |exact⟨rfl,af (aa (ah (Below.refl _ _)) g)⟩
   |exact⟨rfl,aa (ah (af (Below.refl _ _))) g⟩
