/- Lemmas of this claim: Bld, TxPrint, RTx2. -/
import Derived.Test.YtokhnobcincfjaaGreatDoorBase
import Derived.Test.YtokhnobcincfjaaGreatDoorKNFr4
import Derived.Lib.Builder
import Derived.Lib.AppendStr
import Derived.Shelf.Strings.BuilderX
import Derived.Deep.Draws
import Derived.Test.YtokhnobcincfjaaGreatDoorTxLine
import Derived.Test.YtokhnobcincfjaaGreatDoorRTx1
set_option linter.unusedVariables false
set_option linter.unusedSimpArgs false
set_option maxHeartbeats 1000000
set_option maxRecDepth 100000
namespace Go.Proofs.YtokhnobcincfjaaGreatDoor
open Go.RowKit Go.Sort
end Go.Proofs.YtokhnobcincfjaaGreatDoor
namespace Go.Proofs.YtokhnobcincfjaaGreatDoor
open Go.RowKit Go.Sort FR
def hdr (g:G):List UInt8:=octW ++ [10] ++ hgtW ++ Lib.decDigits g.h ++ [10] ++ wdtW ++ Lib.decDigits g.w ++ [10] ++ mapW ++ [10]
theorem hdr_eq (g:G):bs [116,121,112,101,32,111,99,116,105,108,101,10,104,101,105,103,104,116,32] ++ bs (Lib.decDigits g.h) ++ bs [10,119,105,100,116,104,32] ++ bs (Lib.decDigits g.w) ++ bs [10,109,97,112,10]=bs (hdr g):=by
 simp only [bs_add]
 exact congrArg bs (by simp [hdr,octW,hgtW,wdtW,mapW])
theorem hdr_len (g:G) (h:g.ok):0<(hdr g).length∧(hdr g).length≤100:=by
 obtain ⟨o1,o2,o3,o4⟩:=h
 have l1:=dec_len g.h (by omega)
 have l2:=dec_len g.w (by omega)
 simp [hdr,octW,hgtW,wdtW,mapW];omega
theorem bs3 (H L:List UInt8) (b:Bool):bs (H ++ L) ++ bs [chS b] ++ bs [10]=bs (H ++ (L ++ [chS b] ++ [10])):=by rw [bs_add,bs_add];simp
theorem bs2 (H L:List UInt8) (b:Bool):bs (H ++ L) ++ bs [chS b]=bs (H ++ (L ++ [chS b] ++ [])):=by rw [bs_add];simp
theorem rPrint (w : World) (p : Nat) (g : G) (v : Int) (h : RGridAt w p g v) :
    Calls Tryz.prog 18 #[.pointer (some ⟨p,0,none⟩)] w fun e w'=>e=.returned (.string (bs (printS g)))∧Below w.heap.size w w':=by
 obtain ⟨o1,o2,o3,o4⟩:=h.1;obtain ⟨k1,k2⟩:=h.size
 have l1:(Lib.decDigits g.h).length≤19:=dec_len g.h (by omega)
 have l2:(Lib.decDigits g.w).length≤19:=dec_len g.w (by omega)
 have hh:=hdr_eq g
 have c1:=Lib.hid (fun (wx:World)=>rDecimal g.h (by omega) wx)
 have c2:=Lib.hid (fun (wx:World)=>rDecimal g.w (by omega) wx)
 have hm:=hdr_len g h.1;obtain ⟨D1,hD1⟩:∃D,Lib.decDigits g.h=D:=⟨_,rfl⟩;obtain ⟨D2,hD2⟩:∃D,Lib.decDigits g.w=D:=⟨_,rfl⟩;obtain ⟨H,hH⟩:∃H,hdr g=H:=⟨_,rfl⟩
 have hPr:printS g=H ++ cellsS g (g.h*g.w):=by rw [←hH];rfl
 rw [hPr];obtain ⟨N,hN⟩:∃N,g.h*g.w=N:=⟨_,rfl⟩;rw [hN];rw [hH] at hh hm;rw [hD1] at l1 hh c1;rw [hD2] at l2 hh c2;clear hD1 hD2 hH hPr;have k1q:=cell_regrown k1;have k2q:=cell_regrown k2;have hw0:=Below.refl w.heap.size w;go_enter Tryz.func18,Tryz.ntmps18;go_wp2_with fail
 refine wp_region_quiet_below (by kernel_rfl) (by kernel_rfl) ?_
 repeat (first | go_big_quiet_step ((first | (with_reducible exact Calls.regrown_of (c1.out _)) | (with_reducible exact Calls.regrown_of (c2.out _)))) | quiet_step ((first | (with_reducible exact Calls.regrown_of (c1.out _)) | (with_reducible exact Calls.regrown_of (c2.out _)))))
 refine wpQuiet_nil ?_;intro _ hw';obtain ⟨⟨dq,osq⟩,hw''⟩:=hw';have HB:=bel_trans hw0 (below_regrown w dq osq);have hb2:=below_regrown w dq osq;subst hw''
 generalize grow (redrawn w dq) osq=W at HB hb2 ⊢
 clear k1q k2q hb2 c1 c2 l1 l2 hh
 have hN2:N≤256:=by rw [←hN];exact Nat.mul_le_mul o4 o2
 have eN:(g.w:Int)*g.h=(N:Nat):=by rw [←hN,Nat.mul_comm];simp
 have wN:IntKind.i64.wrap (N:Int)=(N:Nat):=IntWalk.i64_in _ (by omega)
 have ww:IntKind.i64.wrap ((g.w:Int)-1)=(g.w:Int)-1:=IntWalk.i64_in _ (by omega)
 have w0:(g.w:Int)≠0:=by omega
 replace h:=Lib.hid h;clear hw0 osq dq;go_wp2_with fail
 go_loopw [3,4] (fun s i wr=>∃c:Nat,c≤N∧i=.int .i64 (c:Nat)∧s=.string (bs (H ++ cellsS g c))∧Below w.heap.size w wr) (fun _ i _=>N-(intOf i).toNat)
 case atStart=>exact ⟨0,by omega,rfl,by simp [cellsS],HB⟩
 case round=>
  clear HB W;obtain ⟨c,hc,rfl,rfl,HB⟩:=hrel;have hp:=h.out.lt;have j1:=(HB.cell (p:=⟨p,0,none⟩) hp).trans k1;have j2:=(HB.cell (p:=⟨p,1,none⟩) hp).trans k2;have j1q:=cell_regrown j1;have j2q:=cell_regrown j2
  by_cases hlt:c<N
  ·have q:(c:Int)<N:=by omega
   have hbit:=(HB.cell (p:=⟨p,2+c,none⟩) hp).trans (h.out.bit c (by omega))
   have hlen:=cellsS_len g c;go_wp2_with fail
   refine wp_region_quiet_below (by kernel_rfl) (by kernel_rfl) ?_
   repeat (first | go_big_quiet_step (fail) | quiet_step (fail))
   refine wpQuiet_nil ?_;intro _ hw';obtain ⟨⟨dq,osq⟩,hw''⟩:=hw';have HB1:=bel_trans HB (below_regrown wr dq osq);have hb2:=below_regrown wr dq osq;subst hw''
   generalize grow (redrawn wr dq) osq=W1 at HB1 hb2 ⊢
   clear hbit j1 j2 j1q j2q HB hb2 dq osq
   have hbit:=(HB1.cell (p:=⟨p,2+c,none⟩) hp).trans (h.out.bit c (by omega))
   have j1:=(HB1.cell (p:=⟨p,0,none⟩) hp).trans k1;have j1q:=cell_regrown j1;obtain ⟨z,hz⟩:∃z,c % g.w=z:=⟨_,rfl⟩
   have hzt:(c:Int).tmod g.w=(z:Nat):=by rw [Int.tmod_eq_emod_of_nonneg (by omega),←hz];simp
   have hn:=cellsS_succ g c;rw [hz] at hn;clear hz;obtain ⟨b,hb⟩:∃b,g.b c=b:=⟨_,rfl⟩;rw [hb] at hn hbit;clear hb
   have hcl:(cellsS g c).length≤600:=by omega
   clear hlen;obtain ⟨L,hL⟩:∃L,cellsS g c=L:=⟨_,rfl⟩
   rw [hL] at hn hcl ⊢
   clear hL;have hml:=hm.2
   by_cases hzw:z=g.w-1
   ·have qz:(z:Int)=(g.w:Int)-1:=by omega
    rw [if_pos hzw] at hn;replace hn:=Lib.hid hn;clear hzw
    cases b <;>
    ·go_wp2_with fail
     refine wp_region_quiet_below (by kernel_rfl) (by kernel_rfl) ?_
     repeat (first | go_big_quiet_step (fail) | quiet_step (fail))
     refine wpQuiet_nil ?_;intro _ hw';obtain ⟨⟨dq,osq⟩,hw''⟩:=hw';have HB2:=bel_trans HB1 (below_regrown W1 dq osq);have hb2:=below_regrown W1 dq osq;subst hw''
     generalize grow (redrawn W1 dq) osq=W2 at HB2 hb2 ⊢
     go_wp2_with fail;go_roundw
     case rel=>exact ⟨c+1,by omega,by go_num,by rw [hn.out];first | exact congrArg Value.string (bs3 H L false) | exact congrArg Value.string (bs3 H L true),HB2⟩
     case measure=>simp [intOf];omega
   ·have qz:(z:Int)≠(g.w:Int)-1:=by omega
    rw [if_neg hzw] at hn;replace hn:=Lib.hid hn;clear hzw
    cases b <;>
    ·go_wp2_with fail
     refine wp_region_quiet_below (by kernel_rfl) (by kernel_rfl) ?_
     repeat (first | go_big_quiet_step (fail) | quiet_step (fail))
     refine wpQuiet_nil ?_;intro _ hw';obtain ⟨⟨dq,osq⟩,hw''⟩:=hw';have HB2:=bel_trans HB1 (below_regrown W1 dq osq);have hb2:=below_regrown W1 dq osq;subst hw''
     generalize grow (redrawn W1 dq) osq=W2 at HB2 hb2 ⊢
     go_wp2_with fail;go_roundw
     case rel=>exact ⟨c+1,by omega,by go_num,by rw [hn.out];first | exact congrArg Value.string (bs2 H L false) | exact congrArg Value.string (bs2 H L true),HB2⟩
     case measure=>simp [intOf];omega
  ·obtain rfl:c=N:=by omega
   go_wp2_with fail
   refine wp_region_quiet_below (by kernel_rfl) (by kernel_rfl) ?_
   repeat (first | go_big_quiet_step (fail) | quiet_step (fail))
   refine wpQuiet_nil ?_;intro _ hw';obtain ⟨⟨dq,osq⟩,hw''⟩:=hw';have HB1:=bel_trans HB (below_regrown wr dq osq);have hb2:=below_regrown wr dq osq;subst hw''
   generalize grow (redrawn wr dq) osq=W1 at HB1 hb2 ⊢
   go_wp2_with fail;go_ret;exact ⟨rfl,HB1⟩
end Go.Proofs.YtokhnobcincfjaaGreatDoor
