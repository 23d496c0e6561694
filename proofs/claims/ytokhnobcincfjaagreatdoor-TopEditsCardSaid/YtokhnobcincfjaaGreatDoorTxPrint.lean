/- Lemmas of this claim: TxPrint. -/
import Derived.Test.YtokhnobcincfjaaGreatDoorTxLine
import Derived.Test.YtokhnobcincfjaaGreatDoorBld
set_option linter.unusedVariables false
set_option linter.unusedSimpArgs false
set_option maxRecDepth 100000
namespace Go.Proofs.YtokhnobcincfjaaGreatDoor
open Go.Lib (hid)
open Go.RowKit Go.Sort FR
def hdr(g:G):List UInt8:=qI++[10]++mq++Lib.decDigits g.h++[10]++nY++Lib.decDigits g.w++[10]++qE++[10]
theorem CE(l:List UInt8):Lib.strCells (bs l)=Lib.byteCells l:=by simp[Lib.strCells,Lib.byteCells]
theorem byteCells_snoc(l:List UInt8)(c:UInt8):Lib.byteCells l++[.int .u8 c.toNat]=Lib.byteCells (l++[c]):=by simp[Lib.byteCells]
theorem zq(g:G):bs [116,121,112,101,32,111,99,116,105,108,101,10,104,101,105,103,104,116,32]++bs (Lib.decDigits g.h)++bs [10,119,105,100,116,104,32]++bs (Lib.decDigits g.w)++bs [10,109,97,112,10]=bs (hdr g):=by
 simp only[oQ];exact congrArg bs (by simp[hdr,qI,mq,nY,qE])
theorem FT(g:G)(h:g.ok):0<(hdr g).length/\(hdr g).length<=100:=by
 obtain⟨z,B,F,I⟩:=h;have k:=iP g.h (by omega);have u:=iP g.w (by omega);simp[hdr,qI,mq,nY,qE];omega
theorem Tj(g:G)(x y:Nat)(k:x<g.w)(u:y<g.h):g.op x y=!g.b (y*g.w+x):=by
 unfold G.op;have:(0:Int)<=(x:Int)/\(x:Int)<g.w/\(0:Int)<=(y:Int)/\(y:Int)<g.h:=by omega
 simp[this]
abbrev Tv(B:Nat)(l:List UInt8)(w:World):Prop:=Lib.IsBuilder 192 5 B B (Lib.byteCells l) w
theorem JB(w:World)(p:Nat)(g:G)(v:Int)(h:az w p g v):Calls Tryz.prog 56 #[.pointer (some ⟨p,0,none⟩)] w λe w'=>e=.returned (.string (bs (di g)))/\Below w.heap.size w w':=by
 obtain⟨o1,o2,o3,o4⟩:=h.1;have l1:(Lib.decDigits g.h).length<=19:=iP g.h (by omega);have l2:(Lib.decDigits g.w).length<=19:=iP g.w (by omega);obtain⟨m1,m2⟩:=FT g h.1;go_enter Tryz.func56,Tryz.ntmps56;go_wp2_with fail;refine(KX w p g v h).mono ?_;rintro e S ⟨rfl,L⟩;go_wp2_with fail;refine(Tryz.strconv_Itoa_small g.h (by omega) _).mono ?_;rintro e w2 ⟨rfl,rfl⟩;go_wp2_with fail;refine(Tryz.strconv_Itoa_small g.w (by omega) _).mono ?_;rintro e w2 ⟨rfl,rfl⟩;go_wp2_with fail;refine(G7 S.heap.size S.heap.size [] _ _ (Lib.fresh_isBuilder _ _ S) (by rw[zq,gG];simp;omega) (by rw[zq,gG];omega) (by simp)).mono ?_;rw[zq,CE,List.nil_append];rintro e w3 ⟨rfl,Z,R⟩;have U:=(af L).trans (R.mono L.size);have I:S.heap.size<=w3.heap.size:=by have:=R.size;simp at this;omega
 have Q:Tv S.heap.size (hdr g) w3:=.inr Z;clear Z R;obtain⟨B,hB⟩:∃B,S.heap.size=B:=⟨_,rfl⟩;rw[hB]at Q I⊢;have J:w.heap.size<=B:=by rw[<-hB];exact L.size
 clear hB L S;have O:∀wr,Below w.heap.size w wr->az wr p g v:=λwr T=>h.below T h.lt;have O:=hid O;clear h;go_wp2_with fail;go_loopw [23] (λi wr=>∃y:Nat,y<=g.h/\i=.int .i64 (y:Nat)/\Tv B (hdr g++cellsS g (y*g.w)) wr/\Below w.heap.size w wr/\B<=wr.heap.size) (λi _=>g.h-(intOf i).toNat)
 case atStart=>exact⟨0,by omega,rfl,by simpa[cellsS]using Q,U,I⟩
 case round=>
  clear Q U I;obtain⟨y,hy,rfl,P,M,u⟩:=hrel;by_cases ac:y<g.h
  .have q:(y:Int)<g.h:=by omega
   go_wp2_with fail;obtain⟨wo,rfl⟩:∃wo:World,wo=wr:=⟨_,rfl⟩
   go_loopw [27] (λi wr=>∃x:Nat,x<=g.w/\i=.int .i64 (x:Nat)/\Tv B (hdr g++cellsS g (y*g.w)++eG g y x) wr/\Below w.heap.size w wr/\B<=wr.heap.size) (λi _=>g.w-(intOf i).toNat)
   case atStart=>exact⟨0,by omega,rfl,by simpa[eG]using P,M,u⟩
   case round=>
    clear P M u;obtain⟨x,hx,rfl,P,M,u⟩:=hrel;by_cases ad:x<g.w
    .have qx:(x:Int)<g.w:=by omega
     have ab:=Tj g x y ad ac;have hG:=O.out _ M
     have z:(Lib.byteCells (hdr g++cellsS g (y*g.w)++eG g y x)).length+1<=140737488355328:=by
      have e1:=iW g (y*g.w);have e2:y*g.w<=16*16:=Nat.mul_le_mul (by omega) o2;have e3:(eG g y x).length=x:=by simp[eG]
      rw[Lib.byteCells_length,List.length_append,List.length_append];omega
     go_wp2_with fail;refine(ve _ p g v x y hG).mono ?_;rw[ab];clear ab hG;rintro e w4 ⟨rfl,rfl⟩
     cases T:g.b (y*g.w+x)with
     |false=>
      have hr:=hid (show hdr g++cellsS g (y*g.w)++eG g y (x+1)=hdr g++cellsS g (y*g.w)++eG g y x++[46]by rw[nJ,T];simp[Dm]);clear T;go_wp2_with fail;refine(yZ B B _ 46 _ P z u).mono ?_
      rw[show(Value.int .u8 46)=Value.int .u8 ((46:UInt8).toNat:Int)from rfl,byteCells_snoc];rintro e w5 ⟨rfl,F,k⟩;go_wp2_with fail;go_roundw
      case rel=>exact⟨x+1,by omega,by go_num,by rw[hr.out];exact .inr F,M.trans (k.mono J),Nat.le_trans u k.size⟩
      case measure=>simp[intOf];omega
     |true=>
      have hr:=hid (show hdr g++cellsS g (y*g.w)++eG g y (x+1)=hdr g++cellsS g (y*g.w)++eG g y x++[64]by rw[nJ,T];simp[Dm]);clear T;go_wp2_with fail;refine(yZ B B _ 64 _ P z u).mono ?_
      rw[show(Value.int .u8 64)=Value.int .u8 ((64:UInt8).toNat:Int)from rfl,byteCells_snoc];rintro e w5 ⟨rfl,F,k⟩;go_wp2_with fail;go_roundw
      case rel=>exact⟨x+1,by omega,by go_num,by rw[hr.out];exact .inr F,M.trans (k.mono J),Nat.le_trans u k.size⟩
      case measure=>simp[intOf];omega
    .obtain rfl:x=g.w:=by omega
     have hr:=hid (sM g y (by omega))
     have z:(Lib.byteCells (hdr g++cellsS g (y*g.w)++eG g y g.w)).length+1<=140737488355328:=by
      have e1:=iW g (y*g.w);have e2:y*g.w<=16*16:=Nat.mul_le_mul (by omega) o2;have e3:(eG g y g.w).length=g.w:=by simp[eG]
      rw[Lib.byteCells_length,List.length_append,List.length_append];omega
     go_wp2_with fail;refine(yZ B B _ 10 _ P z u).mono ?_
     rw[show(Value.int .u8 10)=Value.int .u8 ((10:UInt8).toNat:Int)from rfl,byteCells_snoc];rintro e w5 ⟨rfl,F,k⟩;go_wp2_with fail;go_roundw
     case rel=>exact⟨y+1,by omega,by go_num,by rw[hr.out,<-List.append_assoc,<-List.append_assoc];exact .inr F,M.trans (k.mono J),Nat.le_trans u k.size⟩
     case measure=>simp[intOf];omega
  .obtain rfl:y=g.h:=by omega
   go_wp2_with fail;refine(Tryz.Builder_String_any B B _ _ P u).mono ?_;rintro e w5 ⟨rfl,k⟩;go_wp2_with fail;go_ret;exact⟨rfl,M.trans (k.mono J)⟩
