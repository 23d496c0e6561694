/- Lemmas of this claim: MathTxt, MathTxt2, MathMap. -/
import Derived.Lib.AtoiAll
import Derived.Lib.AtoiAllCases
import Derived.Lib.ItoaNum
import Derived.Lib.IndexMore
import Derived.Lib.Strings
import GoSem.Op.String
import Derived.Test.YtokhnobcincfjaaGreatDoorKNFr1
import Derived.Test.YtokhnobcincfjaaGreatDoorKNFr2
set_option linter.unusedVariables false
set_option linter.unusedSimpArgs false
namespace Go.Proofs.YtokhnobcincfjaaGreatDoor
open Go.Lib
theorem idx10:∀l:List UInt8,(index l [10] = -1∧(10:UInt8)∉l)∨∃a b,l=a ++ 10 :: b∧(10:UInt8)∉a∧index l [10]=(a.length:Nat)
 | []=>.inl ⟨rfl,by simp⟩
 | c :: l=>by
  by_cases hc:c=10
  ·subst hc
   exact .inr ⟨[],l,rfl,by simp,by simp [index,List.isPrefixOf]⟩
  ·have h0 : ([10] : List UInt8).isPrefixOf (c :: l) = false := by
     have:¬10=c:=fun h=>hc h.symm
     simp [List.isPrefixOf,this]
   rcases idx10 l with ⟨h1,h2⟩ | ⟨a,b,e,h2,h3⟩
   ·left
    refine ⟨by unfold index;rw [h0,h1];rfl,?_⟩
    rw [List.mem_cons]
    rintro (h | h)
    ·exact hc h.symm
    ·exact h2 h
   ·right
    subst e;refine ⟨c :: a,b,rfl,?_,?_⟩
    ·rw [List.mem_cons]
     rintro (h | h)
     ·exact hc h.symm
     ·exact h2 h
    ·unfold index
     rw [h0,h3]
     have:((a.length:Int) == -1)=false:=by rw [beq_eq_false_iff_ne];omega
     simp [this]
theorem cut10 (l:List UInt8):(cut l [10]=(l,[],false)∧(10:UInt8)∉l)∨∃a b,cut l [10]=(a,b,true)∧l=a ++ 10 :: b∧(10:UInt8)∉a:=by
 rcases idx10 l with ⟨h1,h2⟩ | ⟨a,b,e,h2,h3⟩
 ·left
  refine ⟨?_,h2⟩;unfold cut
  rw [h1,if_neg (by omega)]
 ·right
  refine ⟨a,b,?_,e,h2⟩;unfold cut
  rw [h3,if_pos (by omega),e]
  simp
def lnsS (st:List (List UInt8)×List UInt8) (b:UInt8):List (List UInt8)×List UInt8:=if b=10 then (st.1 ++ [st.2],[]) else (st.1,st.2 ++ [b])
def lnsF (st:List (List UInt8)×List UInt8) (l:List UInt8):List (List UInt8)×List UInt8:=l.foldl lnsS st
def lns (l:List UInt8):List (List UInt8)×List UInt8:=lnsF ([],[]) l
theorem lnsF_app (X:List (List UInt8)):∀(l:List UInt8) (Y:List (List UInt8)) (r:List UInt8),lnsF (X ++ Y,r) l=(X ++ (lnsF (Y,r) l).1,(lnsF (Y,r) l).2)
 | [],_,_=>rfl
 | b :: l,Y,r=>by
  show lnsF (lnsS (X ++ Y,r) b) l=(X ++ (lnsF (lnsS (Y,r) b) l).1,(lnsF (lnsS (Y,r) b) l).2)
  unfold lnsS
  by_cases hb:b=10
  ·rw [if_pos hb,if_pos hb]
   show lnsF ((X ++ Y) ++ [r],[]) l=_
   rw [List.append_assoc];exact lnsF_app X l _ _
  ·rw [if_neg hb,if_neg hb]
   exact lnsF_app X l _ _
theorem lnsF_free:∀(l:List UInt8) (Y:List (List UInt8)) (r:List UInt8),(10:UInt8)∉l→lnsF (Y,r) l=(Y,r ++ l)
 | [],_,_,_=>by simp [lnsF]
 | b :: l,Y,r,h=>by
  have hb:b≠10:=fun e=>h (by simp [e])
  show lnsF (lnsS (Y,r) b) l=_
  unfold lnsS
  rw [if_neg hb,lnsF_free l Y (r ++ [b]) (fun e=>h (List.mem_cons_of_mem _ e))]
  simp
theorem lnsF_more (st:List (List UInt8)×List UInt8) (a b:List UInt8):lnsF st (a ++ b)=lnsF (lnsF st a) b:=List.foldl_append ..
theorem lns_free {l:List UInt8} (h:(10:UInt8)∉l):lns l=([],l):=lnsF_free l [] [] h
theorem lns_cons {a b:List UInt8} (h:(10:UInt8)∉a):lns (a ++ 10 :: b)=(a :: (lns b).1,(lns b).2):=by
 show lnsF ([],[]) (a ++ 10 :: b)=_
 rw [lnsF_more,lnsF_free a [] [] h]
 show lnsF (([] ++ [[] ++ a]:List (List UInt8)),[]) b=_
 have:=lnsF_app [a] b [] []
 simpa [lns] using this
def dgt (c:UInt8):Bool:=decide (48≤c.toNat∧c.toNat≤57)
def digs (l:List UInt8):Bool:=l.all dgt
def valF (a:Nat) (l:List UInt8):Nat:=l.foldl (fun a c=>a*10+(c.toNat-48)) a
theorem valF_snoc (a:Nat) (l:List UInt8) (c:UInt8):valF a (l ++ [c])=valF a l*10+(c.toNat-48):=by simp [valF,List.foldl_append]
theorem valF_acc:∀(l:List UInt8) (a:Nat),valF a l=a*10 ^ l.length+valF 0 l
 | [],a=>by simp [valF]
 | c :: l,a=>by
  have e1:valF a (c :: l)=valF (a*10+(c.toNat-48)) l:=rfl;have e2:valF 0 (c :: l)=valF (0*10+(c.toNat-48)) l:=rfl;rw [e1,e2,valF_acc l (a*10+_),valF_acc l (0*10+_),List.length_cons,Nat.pow_succ];rw [Nat.add_mul,Nat.zero_mul,Nat.zero_add,Nat.mul_assoc,Nat.mul_comm 10];omega
theorem digs_snoc (l:List UInt8) (c:UInt8):digs (l ++ [c])=(digs l && dgt c):=by simp [digs]
theorem ofNat_toNat (n:Nat) (h:n<10):(UInt8.ofNat (48+n)).toNat=48+n:=by
 rw [UInt8.toNat_ofNat'];omega
theorem dec_rec (u:Nat) (h:10≤u):decDigits u=decDigits (u / 10) ++ [UInt8.ofNat (48+u % 10)]:=by rw [decDigits,dif_neg (by omega)]
theorem dec_all:∀u:Nat,digs (decDigits u)=true∧valF 0 (decDigits u)=u∧∃c r,decDigits u=c :: r∧(0<u→c≠48):=by
 intro u
 induction u using Nat.strongRecOn with
 | ind u ih=>
  by_cases hu:u<10
  ·rw [decDigits_one hu]
   have e:=ofNat_toNat u hu
   refine ⟨by simp only [digs,dgt,List.all_cons,List.all_nil,Bool.and_true,e,decide_eq_true_eq];omega,by simp only [valF,List.foldl_cons,List.foldl_nil,e];omega,_,[],rfl,fun h0 h=>?_⟩
   rw [h] at e;have:(48:UInt8).toNat=48:=rfl;omega
  ·obtain ⟨h1,h2,c,r,h3,h4⟩:=ih (u / 10) (by omega)
   rw [dec_rec u (by omega)]
   have e:=ofNat_toNat (u % 10) (by omega)
   refine ⟨by rw [digs_snoc,h1];simp [dgt,e];omega,by rw [valF_snoc,h2,e];omega,c,r ++ [_],by rw [h3];rfl,fun _=>h4 (by omega)⟩
theorem valF_ge (c:UInt8) (r:List UInt8) (h:digs (c :: r)=true) (hc:c≠48):10 ^ r.length≤valF 0 (c :: r):=by
 have e2:valF 0 (c :: r)=valF (0*10+(c.toNat-48)) r:=rfl;rw [e2,valF_acc]
 have hd:dgt c=true:=by simp [digs] at h;exact h.1
 have hn:c.toNat≠48:=fun e=>hc (UInt8.toNat_inj.1 (by rw [e];rfl))
 have:1≤0*10+(c.toNat-48):=by simp [dgt] at hd;omega
 have hm:=Nat.mul_le_mul_right (10 ^ r.length) this;omega
theorem dec_ne (u:Nat):decDigits u≠[]:=by
 obtain ⟨_,_,c,r,h,_⟩:=dec_all u;rw [h];simp
theorem pu10_ok:∀(l:List UInt8) (a:Nat),digs l=true→valF a l<18446744073709551616→parseUint10 a l=.ok (valF a l)
 | [],a,_,_=>rfl
 | c :: l,a,h,hv=>by
  have hc:48≤c.toNat∧c.toNat≤57:=by simp [digs,dgt] at h;exact h.1
  have hl:digs l=true:=by simp [digs] at h;simp [digs];exact h.2
  have e:valF a (c :: l)=valF (a*10+(c.toNat-48)) l:=rfl
  rw [e] at hv ⊢
  have hb:a*10+(c.toNat-48)≤valF (a*10+(c.toNat-48)) l:=by
   rw [valF_acc]
   have:=Nat.mul_le_mul_left (a*10+(c.toNat-48)) (Nat.one_le_pow l.length 10 (by omega))
   omega
  unfold parseUint10
  rw [if_pos hc,if_neg (by omega),if_neg (by omega)]
  exact pu10_ok l _ hl hv
def numT (t:List UInt8):Option Int:=match atoiAll t with | .ok v=>if itoa v=t then some v else none | _=>none
def Canon (t:List UInt8) (v:Int):Prop:=(∃u:Nat,v=u∧t=decDigits u∧u<9223372036854775808)∨∃u:Nat,1≤u∧u≤9223372036854775808∧v = -(u:Int)∧t=45 :: decDigits u
theorem itoa_nn (u:Nat):itoa (u:Int)=decDigits u:=by unfold itoa;rw [if_neg (by omega)];simp
theorem itoa_ng (u:Nat) (h:1≤u):itoa (-(u:Int))=45 :: decDigits u:=by unfold itoa;rw [if_pos (by omega)];simp
theorem dgt_ne {c:UInt8} (h:dgt c=true):c.toNat≠43∧c.toNat≠45:=by simp [dgt] at h;omega
theorem pmag_ok (u:Nat) (h:u<18446744073709551616):parseMag (decDigits u)=.ok u:=by
 unfold parseMag;obtain ⟨h1,h2,_⟩:=dec_all u
 rw [if_neg (dec_ne u),pu10_ok _ _ h1 (by rw [h2];exact h),h2]
theorem numT_iff (t:List UInt8) (v:Int):numT t=some v↔Canon t v:=by
 constructor
 ·intro h
  unfold numT at h
  cases ha:atoiAll t with
  | range=>rw [ha] at h;cases h
  | ok x=>
   rw [ha] at h;obtain ⟨b1,b2⟩:=atoiAll_bounds ha;simp only at h
   split at h
   ·rename_i hi
    simp only [Option.some.injEq] at h;subst h
    by_cases hx:x<0
    ·right
     refine ⟨x.natAbs,by omega,by omega,by omega,?_⟩
     rw [←hi];unfold itoa;rw [if_pos hx]
    ·left
     refine ⟨x.toNat,by omega,?_,by omega⟩
     rw [←hi];unfold itoa;rw [if_neg hx]
   ·cases h
  | _=>rw [ha] at h;cases h
 ·rintro (⟨u,rfl,rfl,hu⟩ | ⟨u,h1,h2,rfl,rfl⟩)
  ·obtain ⟨d1,d2,c,r,hcr,_⟩:=dec_all u
   have hc:dgt c=true:=by rw [hcr] at d1;simp [digs] at d1;exact d1.1
   have hn:=dgt_ne hc
   have ha:atoiAll (decDigits u)=.ok (u:Int):=by
    have hp:=pmag_ok u (by omega)
    rw [hcr] at hp ⊢
    unfold atoiAll;simp only [hn.1,hn.2,or_self,if_false,hp]
    rw [if_neg (by simp;omega),if_neg (by simp)]
   unfold numT;rw [ha];simp only [itoa_nn,if_true]
  ·have ha : atoiAll (45 :: decDigits u) = .ok (-(u : Int)) := by
     have hp:=pmag_ok u (by omega)
     unfold atoiAll;have h45:(45:UInt8).toNat=45:=rfl;simp only [h45,or_true,if_true,hp]
     rw [if_neg (by simp),if_neg (by simp;omega)]
   unfold numT;rw [ha];simp only [itoa_ng u h1,if_true]
theorem dec_len (u:Nat) (h:u≤9223372036854775808):(decDigits u).length≤19:=by
 obtain ⟨d1,d2,c,r,hcr,h48⟩:=dec_all u
 by_cases h0:u=0
 ·subst h0;rw [decDigits_one (by omega)];simp
 ·rw [hcr] at d1 d2 ⊢
  have ge:=valF_ge c r d1 (h48 (by omega))
  rw [d2] at ge
  apply Classical.byContradiction
  intro hl
  have:10 ^ 19≤10 ^ r.length:=Nat.pow_le_pow_right (by omega) (by simp at hl;omega)
  omega
end Go.Proofs.YtokhnobcincfjaaGreatDoor
namespace Go.Proofs.YtokhnobcincfjaaGreatDoor
open Go.Lib FR
def hgtW:List UInt8:=[104,101,105,103,104,116,32]
def wdtW:List UInt8:=[119,105,100,116,104,32]
def octW:List UInt8:=[116,121,112,101,32,111,99,116,105,108,101]
def mapW:List UInt8:=[109,97,112]
def numOf (word l:List UInt8):Option Int:=if hasPrefix l word then numT (l.drop word.length) else none
def okCh (b:UInt8):Bool:=b == 46 || b == 71 || b == 83 || b == 64 || b == 79 || b == 84 || b == 87
def isBl (b:UInt8):Bool:=b == 64 || b == 79 || b == 84 || b == 87
inductive PR where
 | bad (k:Nat)
 | ok (w h:Nat) (rows:List (List UInt8))
def headS (L:List (List UInt8)):Option (Int×Int):=
 match L with
 | a :: b :: c :: d :: _=>if a=octW∧d=mapW then (match numOf hgtW b,numOf wdtW c with | some h,some w=>some (h,w) | _,_=>none) else none
 | _=>none
def rowsOk (w:Nat) (R:List (List UInt8)):Bool:=R.all fun r=>r.length == w && r.all okCh
def parseS (l:List UInt8):PR:=
 if 1000<l.length then .bad 2
 else match headS (lns l).1 with
  | none=>.bad 3
  | some (h,w)=>
   if 1≤w∧w≤16∧1≤h∧h≤16 then
    (if (lns l).1.length=4+h.toNat∧(lns l).2=[]∧rowsOk w.toNat ((lns l).1.drop 4)=true then .ok w.toNat h.toNat ((lns l).1.drop 4) else .bad 3)
   else .bad 1
def rowsB (w:Nat) (R:List (List UInt8)) (c:Nat):Bool:=isBl ((R.getD (c / w) []).getD (c % w) 0)
def partG (w h:Nat) (R:List (List UInt8)) (k:Nat):G:=⟨w,h,fun c=>decide (c<k) && rowsB w R c⟩
def cntB (b:Nat→Bool) (k:Nat):Nat:=((List.range k).filter b).length
theorem cntB_succ (b:Nat→Bool) (k:Nat):cntB b (k+1)=cntB b k+(if b k=true then 1 else 0):=by
 unfold cntB;rw [List.range_succ,List.filter_append,List.length_append]
 cases h:b k <;> simp [h]
theorem cntB_le (b:Nat→Bool) (k:Nat):cntB b k≤k:=by
 unfold cntB;have:=List.length_filter_le b (List.range k)
 simpa using this
theorem head_few {L:List (List UInt8)} (h:L.length<4):headS L=none:=by
 match L,h with
 | [],_=>rfl
 | [_],_=>rfl
 | [_,_],_=>rfl
 | [_,_,_],_=>rfl
 | _ :: _ :: _ :: _ :: _,h=>simp at h;omega
theorem parse_many {l:List UInt8} (h:1000<l.length):parseS l=.bad 2:=by unfold parseS;rw [if_pos h]
theorem parse_head {l:List UInt8} (h:l.length≤1000) (hh:headS (lns l).1=none):parseS l=.bad 3:=by
 unfold parseS;rw [if_neg (by omega),hh]
theorem parse_few {l:List UInt8} (h:l.length≤1000) (hh:(lns l).1.length<4):parseS l=.bad 3:=parse_head h (head_few hh)
theorem parse_size {l:List UInt8} {a b:Int} (h:l.length≤1000) (hh:headS (lns l).1=some (b,a)) (hs:¬(1≤a∧a≤16∧1≤b∧b≤16)):parseS l=.bad 1:=by
 unfold parseS;rw [if_neg (by omega),hh];simp only;rw [if_neg hs]
theorem parse_body {l : List UInt8} {a b : Nat} (h : l.length ≤ 1000) (hh : headS (lns l).1 = some ((b : Int), (a : Int))) (hs : 1 ≤ a ∧ a ≤ 16 ∧ 1 ≤ b ∧ b ≤ 16)
    (hb:¬((lns l).1.length=4+b∧(lns l).2=[]∧rowsOk a ((lns l).1.drop 4)=true)):parseS l=.bad 3:=by
 unfold parseS;rw [if_neg (by omega),hh];simp only;rw [if_pos (by omega),if_neg (by simpa using hb)]
theorem parse_ok {l : List UInt8} {a b : Nat} (h : l.length ≤ 1000) (hh : headS (lns l).1 = some ((b : Int), (a : Int))) (hs : 1 ≤ a ∧ a ≤ 16 ∧ 1 ≤ b ∧ b ≤ 16)
    (hb:(lns l).1.length=4+b∧(lns l).2=[]∧rowsOk a ((lns l).1.drop 4)=true):parseS l=.ok a b ((lns l).1.drop 4):=by
 unfold parseS;rw [if_neg (by omega),hh];simp only;rw [if_pos (by omega),if_pos (by simpa using hb)];simp
theorem row_bad {w:Nat} {R:List (List UInt8)} {y:Nat} {r:List UInt8} (h:R[y]? = some r) (hb:r.length≠w∨∃(x:Nat) (b:UInt8),r[x]? = some b∧okCh b=false):¬rowsOk w R=true:=by
 intro hk;unfold rowsOk at hk;rw [List.all_eq_true] at hk;have:=hk r (List.mem_of_getElem? h);simp only [Bool.and_eq_true,beq_iff_eq,List.all_eq_true] at this
 rcases hb with hb | ⟨x,b,hx,hb⟩
 ·exact hb this.1
 ·have:=this.2 b (List.mem_of_getElem? hx)
  rw [hb] at this;cases this
theorem rows_good {w n:Nat} {R:List (List UInt8)} (hn:R.length=n) (h:∀y,y<n→∃r,R[y]? = some r∧r.length=w∧∀x,x<w→okCh (r.getD x 0)=true):rowsOk w R=true:=by
 unfold rowsOk;rw [List.all_eq_true];intro r hr;obtain ⟨y,hy⟩:=List.getElem?_of_mem hr;have hlt:y<R.length:=(List.getElem?_eq_some_iff.1 hy).1
 obtain ⟨r',e,h1,h2⟩:=h y (by omega)
 rw [hy] at e
 cases e
 simp only [Bool.and_eq_true,beq_iff_eq,List.all_eq_true]
 refine ⟨h1,fun b hb=>?_⟩
 obtain ⟨x,hx⟩:=List.getElem?_of_mem hb;have hx2:x<r.length:=(List.getElem?_eq_some_iff.1 hx).1
 have:=h2 x (by omega)
 rw [List.getD_eq_getElem?_getD,hx] at this;exact this
theorem lns_step {l A:List (List UInt8)} {l0 s a b:List UInt8} (hl:lns l0=(A ++ (lns s).1,(lns s).2)) (hs:s=a ++ 10 :: b) (ha:(10:UInt8)∉a):lns l0=((A ++ [a]) ++ (lns b).1,(lns b).2):=by
 rw [hl,hs,lns_cons ha];simp
theorem lns_stop {A:List (List UInt8)} {l0 s:List UInt8} (hl:lns l0=(A ++ (lns s).1,(lns s).2)) (ha:(10:UInt8)∉s):lns l0=(A,s):=by
 rw [hl,lns_free ha];simp
def chS (b:Bool):UInt8:=if b then 64 else 46
def cellsS (g:G):Nat→List UInt8
 | 0=>[]
 | k+1=>cellsS g k ++ [chS (g.b k)] ++ (if k % g.w=g.w-1 then [10] else [])
theorem cellsS_succ (g:G) (k:Nat):cellsS g (k+1)=cellsS g k ++ [chS (g.b k)] ++ (if k % g.w=g.w-1 then [10] else []):=rfl
def rowL (g:G) (y n:Nat):List UInt8:=(List.range n).map fun x=>chS (g.b (y*g.w+x))
theorem rowL_succ (g:G) (y n:Nat):rowL g y (n+1)=rowL g y n ++ [chS (g.b (y*g.w+n))]:=by simp [rowL,List.range_succ]
theorem cellsS_row (g:G) (y:Nat) (hw:1≤g.w):∀x,x<g.w→cellsS g (y*g.w+x)=cellsS g (y*g.w) ++ rowL g y x
 | 0,_=>by simp [rowL]
 | x+1,h=>by
  show cellsS g ((y*g.w+x)+1)=_
  rw [cellsS_succ,cellsS_row g y hw x (by omega),rowL_succ]
  have:(y*g.w+x) % g.w=x:=by rw [Nat.mul_comm,Nat.mul_add_mod,Nat.mod_eq_of_lt (by omega)]
  rw [this,if_neg (by omega)]
  simp
theorem cellsS_next (g:G) (y:Nat) (hw:1≤g.w):cellsS g ((y+1)*g.w)=cellsS g (y*g.w) ++ rowL g y g.w ++ [10]:=by
 have e:(y+1)*g.w=(y*g.w+(g.w-1))+1:=by rw [Nat.succ_mul];omega
 rw [e,cellsS_succ,cellsS_row g y hw (g.w-1) (by omega)]
 have:(y*g.w+(g.w-1)) % g.w=g.w-1:=by rw [Nat.mul_comm,Nat.mul_add_mod,Nat.mod_eq_of_lt (by omega)]
 rw [this,if_pos rfl]
 have e2:g.w=(g.w-1)+1:=by omega
 have e3:rowL g y g.w=rowL g y (g.w-1) ++ [chS (g.b (y*g.w+(g.w-1)))]:=by
  conv=>lhs;rw [e2]
  exact rowL_succ g y _
 rw [e3];simp
theorem cellsS_all (g:G) (hw:1≤g.w):∀y,cellsS g (y*g.w)=(List.range y).flatMap fun j=>rowL g j g.w ++ [10]
 | 0=>by simp [cellsS]
 | y+1=>by rw [cellsS_next g y hw,cellsS_all g hw y,List.range_succ,List.flatMap_append];simp
def printS (g:G):List UInt8:=octW ++ [10] ++ hgtW ++ decDigits g.h ++ [10] ++ wdtW ++ decDigits g.w ++ [10] ++ mapW ++ [10] ++ cellsS g (g.h*g.w)
theorem rowL_free (g:G) (y n:Nat):(10:UInt8)∉rowL g y n:=by
 unfold rowL;rw [List.mem_map];rintro ⟨x,_,hx⟩;unfold chS at hx
 split at hx <;> simp at hx
theorem lns_rows (g:G):∀ys:List Nat,lns (ys.flatMap fun j=>rowL g j g.w ++ [10])=(ys.map fun j=>rowL g j g.w,[])
 | []=>rfl
 | y :: ys=>by
  rw [List.flatMap_cons]
  have:(rowL g y g.w ++ [10]) ++ (ys.flatMap fun j=>rowL g j g.w ++ [10])=rowL g y g.w ++ 10 :: (ys.flatMap fun j=>rowL g j g.w ++ [10]):=by simp
  rw [this,lns_cons (rowL_free g y g.w),lns_rows g ys]
  rfl
theorem dec_free (u:Nat):(10:UInt8)∉decDigits u:=by
 intro h;have hd:=(dec_all u).1;unfold digs at hd;rw [List.all_eq_true] at hd;have:=hd 10 h
 revert this
 decide
theorem lns_print (g:G) (hw:1≤g.w):lns (printS g)=(octW :: (hgtW ++ decDigits g.h) :: (wdtW ++ decDigits g.w) :: mapW :: (List.range g.h).map fun j=>rowL g j g.w,[]):=by
 have e:printS g=octW ++ 10 :: ((hgtW ++ decDigits g.h) ++ 10 :: ((wdtW ++ decDigits g.w) ++ 10 :: (mapW ++ 10 :: cellsS g (g.h*g.w)))):=by simp [printS]
 have nd:∀ {W:List UInt8} (u:Nat),(10:UInt8)∉W→(10:UInt8)∉W ++ decDigits u:=fun u h=>by
  rw [List.mem_append]
  rintro (k | k)
  ·exact h k
  ·exact dec_free u k
 rw [e,lns_cons (by decide),lns_cons (nd _ (by decide)),lns_cons (nd _ (by decide)),lns_cons (by decide),cellsS_all g hw,lns_rows]
theorem numT_dec (u:Nat) (h:u<9223372036854775808):numT (decDigits u)=some (u:Int):=(numT_iff _ _).2 (.inl ⟨u,rfl,rfl,h⟩)
theorem numOf_dec (W:List UInt8) (u:Nat) (h:u<9223372036854775808):numOf W (W ++ decDigits u)=some (u:Int):=by
 unfold numOf
 have:hasPrefix (W ++ decDigits u) W=true:=by unfold hasPrefix;rw [List.isPrefixOf_iff_prefix];exact List.prefix_append ..
 rw [if_pos this,List.drop_left,numT_dec u h]
theorem cellsS_len (g:G):∀k,(cellsS g k).length≤2*k
 | 0=>by simp [cellsS]
 | k+1=>by
  have:=cellsS_len g k;unfold cellsS
  split <;> simp <;> omega
theorem rowL_get (g:G) (y x:Nat) (hx:x<g.w):(rowL g y g.w).getD x 0=chS (g.b (y*g.w+x)):=by
 unfold rowL;rw [List.getD_eq_getElem?_getD,List.getElem?_map,List.getElem?_range hx]
 rfl
theorem isBl_ch (b:Bool):isBl (chS b)=b:=by cases b <;> rfl
theorem okCh_ch (b:Bool):okCh (chS b)=true:=by cases b <;> rfl
theorem parse_print (g : G) (hs : 1 ≤ g.w ∧ g.w ≤ 16 ∧ 1 ≤ g.h ∧ g.h ≤ 16) :
    ∃R,parseS (printS g)=.ok g.w g.h R∧R.length=g.h∧∀c,c<g.w*g.h→rowsB g.w R c=g.b c:=by
 have hl:=lns_print g hs.1;have hn:g.h*g.w≤256:=Nat.mul_le_mul hs.2.2.2 hs.2.1
 have len:(printS g).length≤1000:=by
  have h1:=cellsS_len g (g.h*g.w)
  have h2:=dec_len g.h (by omega)
  have h3:=dec_len g.w (by omega)
  simp only [printS,List.length_append,octW,hgtW,wdtW,mapW,List.length_cons,List.length_nil];omega
 have hh:headS (lns (printS g)).1=some ((g.h:Int),(g.w:Int)):=by
  rw [hl];unfold headS
  simp only [true_and,if_true,numOf_dec hgtW g.h (by omega),numOf_dec wdtW g.w (by omega),and_self]
 have hd:(lns (printS g)).1.drop 4=(List.range g.h).map fun j=>rowL g j g.w:=by rw [hl];rfl
 refine ⟨_,parse_ok len hh hs ⟨by rw [hl];simp;omega,by rw [hl],?_⟩,by rw [hd];simp,?_⟩
 ·rw [hd]
  refine rows_good (n:=g.h) (by simp) fun y hy=>⟨rowL g y g.w,by simp [List.getElem?_range hy],by simp [rowL],fun x hx=>?_⟩
  rw [rowL_get g y x hx,okCh_ch]
 ·intro c hc
  rw [hd];unfold rowsB
  have hq:c / g.w<g.h:=(Nat.div_lt_iff_lt_mul (by omega)).2 (by rw [Nat.mul_comm];exact hc)
  have e:((List.range g.h).map fun j=>rowL g j g.w).getD (c / g.w) []=rowL g (c / g.w) g.w:=by
   rw [List.getD_eq_getElem?_getD,List.getElem?_map,List.getElem?_range hq]
   rfl
  have hm:c % g.w<g.w:=Nat.mod_lt _ (by omega)
  rw [e,rowL_get g _ _ hm,isBl_ch]
  congr 1
  have:=Nat.div_add_mod c g.w;rw [Nat.mul_comm] at this;omega
end Go.Proofs.YtokhnobcincfjaaGreatDoor
