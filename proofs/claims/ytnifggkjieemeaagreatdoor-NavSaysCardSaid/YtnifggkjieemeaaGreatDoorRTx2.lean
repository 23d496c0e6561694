/- Lemmas of this claim: RTx1, RTx2. -/
import Derived.Test.YtnifggkjieemeaaGreatDoorTxPrint
set_option linter.unusedVariables false
set_option linter.unusedSimpArgs false
set_option maxHeartbeats 1000000
set_option maxRecDepth 100000
open Go.Proofs.Tryz
namespace Go.Proofs.YtnifggkjieemeaaGreatDoor
open Go.Lib (hid)
open Go.RowKit Go.Sort FR
theorem rY{g:World}{b d:Nat}{c:UInt8}(m:d<10)(k:UInt8.ofNat (48+d)=c)(h:g.cell? ⟨b,0,none⟩=some (.int .u8 (48+(d:Nat)))):(convert 186 9 (.slice (some ⟨b,0,none⟩) 1 1)).run prog g=.ok (.string (bs [c])) g:=by
 refine run_convert_bytes_back g _ _ 5 ⟨b,0,none⟩ 1 [c] underlying186 underlying5 underlying9 λj u=>?_;obtain rfl:j=0:=by simpa using u
 simp only[Addr.add,List.getElem_cons_zero];have e:=ofNat_toNat d m;show g.cell? ⟨b,0,none⟩=_;rw[h,<-k,e];simp
theorem Qs(n:Nat)(k:n<10)(w:World):Calls prog 50 #[rI (n:Nat)] w (Rt w (.string (bs (Lib.decDigits n)))):=by
 have u:¬((n:Int)<0):=om;have z:(n:Int)<10:=om;rw[Lib.decDigits_one k];obtain⟨c,g⟩:=rX (UInt8.ofNat (48+n));rw[g];replace g:=hid g;go_enter func50,ntmps50;go_wp2_with fail;rw[rY k g.out (by go_simp)];simp only[Result.andThen];rw[Oper.upon_value];go_wp2_with fail;go_ret
 exact⟨rfl,be⟩
theorem zu:∀(n:Nat)(_:n<1000000000000)(w:World),Calls prog 50 #[rI (n:Nat)] w (Rt w (.string (bs (Lib.decDigits n)))):=by
 intro n
 induction n using Nat.strongRecOn with
 |ind n F=>
 intro hn w;by_cases B:n<10
 .exact Qs n B w
 have q1:¬((n:Int)<0):=om;have q2:¬((n:Int)<10):=om;obtain⟨m,Q⟩:=rX (n/10);obtain⟨d,P⟩:=rX (n%10);have F:=F m om om;have em:(n:Int).tdiv 10=(m:Nat):=by rw[Int.tdiv_eq_ediv_of_nonneg om];omega
 have Z:(n:Int).tmod 10=(d:Nat):=by rw[Int.tmod_eq_emod_of_nonneg om];omega
 have k:d<10:=om;rw[Ck n om,Q,P];have hl:=jm m om;obtain⟨c,z⟩:=rX (UInt8.ofNat (48+d));rw[z];replace z:=hid z;have S:m<100000000000:=om;clear Q P B;have wm:IntKind.i64.wrap (m:Int)=(m:Nat):=IntWalk.i64_in _ om;have wd:IntKind.i64.wrap (48+(d:Int))=48+(d:Nat):=IntWalk.i64_in _ om;have wu:IntKind.u8.wrap (48+(d:Int))=48+(d:Nat):=IntWalk.u8_in _ om;replace F:=hid F;have R:∀J:World,(convert 186 9 (.slice (some ⟨J.heap.size,0,none⟩) 1 1)).run prog (J.alloc (.cells #[.int .u8 (48+(d:Nat))] 5))=.ok (.string (bs [c])) (J.alloc (.cells #[.int .u8 (48+(d:Nat))] 5)):=λJ=>rY k z.out (by go_simp);have T:¬((bs (Lib.decDigits m)).size+(bs [c]).size>9223372036854775807):=by rw[fw,fw];simp;omega
 have L:=qK (Lib.decDigits m) [c]
 have u:∀I:World,Below (w.drew.alloc (.cells #[.int .u8 (48+(d:Nat))] 5)).heap.size (w.drew.alloc (.cells #[.int .u8 (48+(d:Nat))] 5)) I->(convert 186 9 (.slice (some ⟨w.heap.size,0,none⟩) 1 1)).run prog I=.ok (.string (bs [c])) I:=
  λI g=>rY k z.out ((g.cell (p:=⟨w.heap.size,0,none⟩) rS).trans (by show(w.drew.alloc _).cell? ⟨w.drew.heap.size,0,none⟩=_;go_simp))
 replace u:=hid u;have O:(convert 186 9 (.slice (some ⟨w.heap.size,0,none⟩) 1 1)).run prog (w.alloc (.cells #[.int .u8 (48+(d:Nat))] 5)).drew=.ok (.string (bs [c])) (w.alloc (.cells #[.int .u8 (48+(d:Nat))] 5)).drew:=rY k z.out (by go_simp);go_enter func50,ntmps50;go_wp2_with fail
 go_region_with
  (first
   |(go_at_call 50
     (with_reducible refine(F.out _).mono ?_);rintro e I ⟨rfl,g⟩
     first
      |have M:=u.out _ g
      |skip))
 all_goals
  go_wp2;go_ret
  first
   |exact⟨rfl,ah (ae (aj br) g)⟩
   |exact⟨rfl,ae (aj (ah br)) g⟩
theorem Yh(H L:List UInt8)(b:Bool):bs (H++L)++bs [Ou b]++bs [10]=bs (H++(L++[Ou b]++[10])):=by rw[qK,qK];simp
theorem Yg(H L:List UInt8)(b:Bool):bs (H++L)++bs [Ou b]=bs (H++(L++[Ou b]++[])):=by rw[qK];simp
theorem VY(w:World)(p:Nat)(g:G)(v:Int)(h:aG w p g v):Calls prog 21 #[vP p] w (Rt w (.string (bs (zq g)))):=by
 obtain⟨o1,o2,o3,o4⟩:=h.1;obtain⟨k1,k2⟩:=h.size;have l1:(Lib.decDigits g.h).length<=19:=jm g.h om;have l2:(Lib.decDigits g.w).length<=19:=jm g.w om;have U:=Cx g;have c1:=hid (λ(wx:World)=>zu g.h om wx);have c2:=hid (λ(wx:World)=>zu g.w om wx);have hm:=JM g h.1;obtain⟨D1,M⟩:=rX (Lib.decDigits g.h);obtain⟨D2,O⟩:=rX (Lib.decDigits g.w);obtain⟨H,hH⟩:=rX (hdr g);have P:zq g=H++cellsS g (g.h*g.w):=by rw[<-hH];rfl
 rw[P];obtain⟨N,hN⟩:=rX (g.h*g.w);rw[hN];rw[hH]at U hm;rw[M]at l1 U c1;rw[O]at l2 U c2;clear M O hH P;have ac:=ZE k1;have ad:=ZE k2;have S:=Below.refl w.heap.size w;go_enter func21,ntmps21;go_wp2_with fail;refine qb S (rN c1.out (c2.out)) λW F m=>?_;clear ac ad m c1 c2 l1 l2 U;have ag:N<=256:=by rw[<-hN];exact Nat.mul_le_mul o4 o2
 have eN:(g.w:Int)*g.h=(N:Nat):=by rw[<-hN,Nat.mul_comm];simp
 have wN:IntKind.i64.wrap (N:Int)=(N:Nat):=IntWalk.i64_in _ om;have ww:IntKind.i64.wrap ((g.w:Int)-1)=(g.w:Int)-1:=IntWalk.i64_in _ om;have w0:(g.w:Int)≠0:=om;replace h:=hid h;clear S;go_wp2_with fail;go_loopw [3,4] (λs i wr=>∃c:Nat,c<=N/\i=rI (c:Nat)/\s=.string (bs (H++cellsS g c))/\Below w.heap.size w wr) (λ_ i _=>N-(intOf i).toNat)
 case atStart=>exact⟨0,om,rfl,by simp[cellsS],F⟩
 case round=>
  clear F W;obtain⟨c,hc,rfl,rfl,F⟩:=hrel;have R:=h.out.lt;have Z:=(F.cell (p:=⟨p,0,none⟩) R).trans k1;have j2:=(F.cell (p:=⟨p,1,none⟩) R).trans k2;have T:=ZE Z;have ab:=ZE j2;by_cases ai:c<N
  .have q:(c:Int)<N:=om
   have u:=(F.cell (p:=⟨p,2+c,none⟩) R).trans (h.out.bit c om);have Q:=mJ g c;go_wp2_with fail;refine qb F trivial λW1 k m=>?_;clear u Z j2 T ab F m;have u:=(k.cell (p:=⟨p,2+c,none⟩) R).trans (h.out.bit c om);have Z:=(k.cell (p:=⟨p,0,none⟩) R).trans k1;have T:=ZE Z;obtain⟨z,hz⟩:=rX (c%g.w);have am:(c:Int).tmod g.w=(z:Nat):=by rw[Int.tmod_eq_emod_of_nonneg om,<-hz];simp
   have B:=ow g c;rw[hz]at B;clear hz;obtain⟨b,hb⟩:=rX (g.b c);rw[hb]at B u;clear hb;have aa:(cellsS g c).length<=600:=om;clear Q;obtain⟨L,hL⟩:=rX (cellsS g c);rw[hL]at B aa⊢;clear hL;have al:=hm.2;by_cases I:z=g.w-1
   .have qz:(z:Int)=(g.w:Int)-1:=om
    rw[if_pos I]at B;replace B:=hid B;clear I;cases b<;>
    .go_wp2_with fail
     refine qb k trivial λW2 J m=>?_;go_wp2_with fail;go_roundw
     case rel=>exact⟨c+1,om,by go_num,by rw[B.out];first|exact congrArg Value.string (Yh H L false)|exact congrArg Value.string (Yh H L true),J⟩
     case measure=>exact rM
   .have qz:(z:Int)≠(g.w:Int)-1:=om
    rw[if_neg I]at B;replace B:=hid B;clear I;cases b<;>
    .go_wp2_with fail
     refine qb k trivial λW2 J m=>?_;go_wp2_with fail;go_roundw
     case rel=>exact⟨c+1,om,by go_num,by rw[B.out];first|exact congrArg Value.string (Yg H L false)|exact congrArg Value.string (Yg H L true),J⟩
     case measure=>exact rM
  .obtain rfl:c=N:=om
   go_wp2_with fail;refine qb F trivial λW1 k m=>?_;go_wp2_with fail;go_ret;exact⟨rfl,k⟩
