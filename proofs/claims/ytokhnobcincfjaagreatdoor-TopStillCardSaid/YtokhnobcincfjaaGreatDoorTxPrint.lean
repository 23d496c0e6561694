/- Lemmas of this claim: TxPrint. -/
import Derived.Test.YtokhnobcincfjaaGreatDoorTxLine
import Derived.Test.YtokhnobcincfjaaGreatDoorBld
import Derived.Test.YtokhnobcincfjaaGreatDoorBase
import Derived.Test.YtokhnobcincfjaaGreatDoorKNvA3
set_option linter.unusedVariables false
set_option linter.unusedSimpArgs false
set_option maxRecDepth 100000
namespace Go.Proofs.YtokhnobcincfjaaGreatDoor
open Go.RowKit Go.Sort FR
def hdr (g:G):List UInt8:=octW ++ [10] ++ hgtW ++ Lib.decDigits g.h ++ [10] ++ wdtW ++ Lib.decDigits g.w ++ [10] ++ mapW ++ [10]
theorem strCells_bs (l:List UInt8):Lib.strCells (bs l)=Lib.byteCells l:=by simp [Lib.strCells,Lib.byteCells]
theorem byteCells_snoc (l:List UInt8) (c:UInt8):Lib.byteCells l ++ [.int .u8 c.toNat]=Lib.byteCells (l ++ [c]):=by simp [Lib.byteCells]
theorem hdr_eq (g:G):bs [116,121,112,101,32,111,99,116,105,108,101,10,104,101,105,103,104,116,32] ++ bs (Lib.decDigits g.h) ++ bs [10,119,105,100,116,104,32] ++ bs (Lib.decDigits g.w) ++ bs [10,109,97,112,10]=bs (hdr g):=by
 simp only [bs_add]
 exact congrArg bs (by simp [hdr,octW,hgtW,wdtW,mapW])
theorem hdr_len (g:G) (h:g.ok):0<(hdr g).length∧(hdr g).length≤100:=by
 obtain ⟨o1,o2,o3,o4⟩:=h
 have l1:=dec_len g.h (by omega)
 have l2:=dec_len g.w (by omega)
 simp [hdr,octW,hgtW,wdtW,mapW];omega
theorem op_in (g:G) (x y:Nat) (hx:x<g.w) (hy:y<g.h):g.op x y=!g.b (y*g.w+x):=by
 unfold G.op
 have:(0:Int)≤(x:Int)∧(x:Int)<g.w∧(0:Int)≤(y:Int)∧(y:Int)<g.h:=by omega
 simp [this]
abbrev Bld (B:Nat) (l:List UInt8) (w:World):Prop:=Lib.IsBuilder 192 5 B B (Lib.byteCells l) w
theorem textPrint (w : World) (p : Nat) (g : G) (v : Int) (h : GridAt w p g v) :
    Calls Tryz.prog 56 #[.pointer (some ⟨p,0,none⟩)] w fun e w'=>e=.returned (.string (bs (printS g)))∧Below w.heap.size w w':=by
 obtain ⟨o1,o2,o3,o4⟩:=h.1
 have l1:(Lib.decDigits g.h).length≤19:=dec_len g.h (by omega)
 have l2:(Lib.decDigits g.w).length≤19:=dec_len g.w (by omega)
 obtain ⟨m1,m2⟩:=hdr_len g h.1;go_enter Tryz.func56,Tryz.ntmps56;go_wp2_with fail;refine (gridSize w p g v h).mono ?_;rintro e w1 ⟨rfl,hb1⟩;go_wp2_with fail
 refine (Tryz.strconv_Itoa_small g.h (by omega) _).mono ?_
 rintro e w2 ⟨rfl,rfl⟩;go_wp2_with fail
 refine (Tryz.strconv_Itoa_small g.w (by omega) _).mono ?_
 rintro e w2 ⟨rfl,rfl⟩;go_wp2_with fail
 refine (bldString w1.heap.size w1.heap.size [] _ _ (Lib.fresh_isBuilder _ _ w1) (by rw [hdr_eq,bs_size];simp;omega) (by rw [hdr_eq,bs_size];omega) (by simp)).mono ?_
 rw [hdr_eq,strCells_bs,List.nil_append];rintro e w3 ⟨rfl,hB3,hb3⟩;have HB3:=(bel_alloc hb1).trans (hb3.mono hb1.size)
 have hsz3:w1.heap.size≤w3.heap.size:=by have:=hb3.size;simp at this;omega
 have hI3:Bld w1.heap.size (hdr g) w3:=.inr hB3;clear hB3 hb3;obtain ⟨B,hB⟩:∃B,w1.heap.size=B:=⟨_,rfl⟩
 rw [hB] at hI3 hsz3 ⊢
 have hBw:w.heap.size≤B:=by rw [←hB];exact hb1.size
 clear hB hb1 w1
 have hGg:∀wr,Below w.heap.size w wr→GridAt wr p g v:=fun wr hb=>h.below hb h.lt
 have hGg:=Lib.hid hGg;clear h;go_wp2_with fail
 go_loopw [23] (fun i wr=>∃y:Nat,y≤g.h∧i=.int .i64 (y:Nat)∧Bld B (hdr g ++ cellsS g (y*g.w)) wr∧Below w.heap.size w wr∧B≤wr.heap.size) (fun i _=>g.h-(intOf i).toNat)
 case atStart=>exact ⟨0,by omega,rfl,by simpa [cellsS] using hI3,HB3,hsz3⟩
 case round=>
  clear hI3 HB3 hsz3;obtain ⟨y,hy,rfl,hI,HB,hsz⟩:=hrel
  by_cases hlt:y<g.h
  ·have q:(y:Int)<g.h:=by omega
   go_wp2_with fail;obtain ⟨wo,rfl⟩:∃wo:World,wo=wr:=⟨_,rfl⟩
   go_loopw [27] (fun i wr=>∃x:Nat,x≤g.w∧i=.int .i64 (x:Nat)∧Bld B (hdr g ++ cellsS g (y*g.w) ++ rowL g y x) wr∧Below w.heap.size w wr∧B≤wr.heap.size) (fun i _=>g.w-(intOf i).toNat)
   case atStart=>exact ⟨0,by omega,rfl,by simpa [rowL] using hI,HB,hsz⟩
   case round=>
    clear hI HB hsz;obtain ⟨x,hx,rfl,hI,HB,hsz⟩:=hrel
    by_cases hxl:x<g.w
    ·have qx:(x:Int)<g.w:=by omega
     have hop:=op_in g x y hxl hlt;have hG:=hGg.out _ HB
     have hlen:(Lib.byteCells (hdr g ++ cellsS g (y*g.w) ++ rowL g y x)).length+1≤140737488355328:=by
      have e1:=cellsS_len g (y*g.w)
      have e2:y*g.w≤16*16:=Nat.mul_le_mul (by omega) o2
      have e3:(rowL g y x).length=x:=by simp [rowL]
      rw [Lib.byteCells_length,List.length_append,List.length_append];omega
     go_wp2_with fail;refine (gridOpen _ p g v x y hG).mono ?_;rw [hop];clear hop hG;rintro e w4 ⟨rfl,rfl⟩
     cases hb:g.b (y*g.w+x) with
     | false=>
      have hr:=Lib.hid (show hdr g ++ cellsS g (y*g.w) ++ rowL g y (x+1)=hdr g ++ cellsS g (y*g.w) ++ rowL g y x ++ [46] by rw [rowL_succ,hb];simp [chS])
      clear hb;go_wp2_with fail;refine (bldByte B B _ 46 _ hI hlen hsz).mono ?_
      rw [show (Value.int .u8 46)=Value.int .u8 ((46:UInt8).toNat:Int) from rfl,byteCells_snoc]
      rintro e w5 ⟨rfl,hI5,hb5⟩;go_wp2_with fail;go_roundw
      case rel=>exact ⟨x+1,by omega,by go_num,by rw [hr.out];exact .inr hI5,HB.trans (hb5.mono hBw),Nat.le_trans hsz hb5.size⟩
      case measure=>simp [intOf];omega
     | true=>
      have hr:=Lib.hid (show hdr g ++ cellsS g (y*g.w) ++ rowL g y (x+1)=hdr g ++ cellsS g (y*g.w) ++ rowL g y x ++ [64] by rw [rowL_succ,hb];simp [chS])
      clear hb;go_wp2_with fail;refine (bldByte B B _ 64 _ hI hlen hsz).mono ?_
      rw [show (Value.int .u8 64)=Value.int .u8 ((64:UInt8).toNat:Int) from rfl,byteCells_snoc]
      rintro e w5 ⟨rfl,hI5,hb5⟩;go_wp2_with fail;go_roundw
      case rel=>exact ⟨x+1,by omega,by go_num,by rw [hr.out];exact .inr hI5,HB.trans (hb5.mono hBw),Nat.le_trans hsz hb5.size⟩
      case measure=>simp [intOf];omega
    ·obtain rfl:x=g.w:=by omega
     have hr:=Lib.hid (cellsS_next g y (by omega))
     have hlen:(Lib.byteCells (hdr g ++ cellsS g (y*g.w) ++ rowL g y g.w)).length+1≤140737488355328:=by
      have e1:=cellsS_len g (y*g.w)
      have e2:y*g.w≤16*16:=Nat.mul_le_mul (by omega) o2
      have e3:(rowL g y g.w).length=g.w:=by simp [rowL]
      rw [Lib.byteCells_length,List.length_append,List.length_append];omega
     go_wp2_with fail;refine (bldByte B B _ 10 _ hI hlen hsz).mono ?_
     rw [show (Value.int .u8 10)=Value.int .u8 ((10:UInt8).toNat:Int) from rfl,byteCells_snoc]
     rintro e w5 ⟨rfl,hI5,hb5⟩;go_wp2_with fail;go_roundw
     case rel=>exact ⟨y+1,by omega,by go_num,by rw [hr.out,←List.append_assoc,←List.append_assoc];exact .inr hI5,HB.trans (hb5.mono hBw),Nat.le_trans hsz hb5.size⟩
     case measure=>simp [intOf];omega
  ·obtain rfl:y=g.h:=by omega
   go_wp2_with fail;refine (Tryz.Builder_String_any B B _ _ hI hsz).mono ?_;rintro e w5 ⟨rfl,hb5⟩;go_wp2_with fail;go_ret;exact ⟨rfl,HB.trans (hb5.mono hBw)⟩
end Go.Proofs.YtokhnobcincfjaaGreatDoor
