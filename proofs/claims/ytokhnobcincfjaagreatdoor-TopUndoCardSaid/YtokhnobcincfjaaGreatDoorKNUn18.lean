/- Lemmas of this claim: Graph6, Del, Cut, GSp, GSet1, GSet2, SameE, GSet3. -/
import Derived.Test.YtokhnobcincfjaaGreatDoorGraph5
import Derived.Lib.SliceRun
import Derived.Laws.CopyRow
import Derived.Deep.DeepCutAuto
import Derived.Test.YtokhnobcincfjaaGreatDoorKNUn2
import Derived.Test.YtokhnobcincfjaaGreatDoorKNUn3
import Derived.Test.YtokhnobcincfjaaGreatDoorKNUn16
set_option linter.unusedVariables false
set_option linter.unusedSimpArgs false
set_option maxHeartbeats 3200000
set_option maxRecDepth 100000
namespace Go.Proofs.YtokhnobcincfjaaGreatDoor
open Go.RowKit Go.Sort FR
def ClnD (w:World) (L:List Ed) (e:Ending) (w':World):Prop:=∃A m,e=.returned (.slice A L.length m)∧EdsAt w' A L∧(∀ad,A=some ad→w.heap.size≤ad.block)∧Below w.heap.size w w'
theorem edClone (w : World) (B : Nat) (v : Value) (L : List Ed) (h : OwnE w B v L) (hl : L.length ≤ 100000) :
    Calls Tryz.prog 98 #[v] w (ClnD w L):=by
 obtain ⟨i0,z0,hi,hz0,hz1,hz2,hz3⟩:=edge_parts
 have hq:∀(w:World) (a:Option Addr) (n c n' c':Nat),(binOp .eql 119 (.slice a n c) (.slice none n' c')).run Tryz.prog w=.ok (.bool a.isNone) w:=fun w a n c n' c'=>Lib.run_eql_slice_nil w _ _ a n c n' c' Tryz.underlying119
 rcases h.2 with ⟨rfl,h0⟩ | ⟨g,cap,cur,rfl,_,hg,_,_,_,htake⟩
 ·have:L=[]:=List.eq_nil_of_length_eq_zero h0
  subst this;go_enter Tryz.func98,Tryz.ntmps98;go_wp2;go_ret
  exact ⟨none,0,rfl,fun h=>by simp at h,(fun ad e=>by cases e),Below.refl _ _⟩
 ·have hsrc : ∀ j u, (edL L)[j]? = some u → w.cell? ((⟨g, 0, none⟩ : Addr).add j) = some u := fun j u hu => by
    rw [Addr.add_lit,Nat.zero_add];rw [←htake,List.getElem?_take] at hu
    split at hu
    ·rw [Array.getElem?_toList] at hu
     simp [World.cell?,hg,hu]
    ·cases hu
  have hgl:g<w.heap.size:=(Array.getElem?_eq_some_iff.1 hg).1;have hlen:=edL_length L;have hone:=edL_one L;obtain ⟨n,hn⟩:∃n,L.length=n:=⟨_,rfl⟩;obtain ⟨X,hX⟩:∃X,edL L=X:=⟨_,rfl⟩
  rw [hn] at hl hlen ⊢
  rw [hX] at hsrc hlen hone;have Hn:=Lib.hid (And.intro hn hX);clear hn hX htake hg h;go_enter Tryz.func98,Tryz.ntmps98
  go_wp2_with (at_builtin;(refine wpList_append_own _ rfl _ _ 119 rfl w.heap.size 182 i0 z0 4 32 Tryz.underlying119 hi hz0 hz1 hz2 hz3 (by decide) _ _ _ rfl (World.ownsRow_made w #[] 0 (Nat.le_refl _) (Nat.zero_le _) rfl) ⟨g,0,none⟩ n cap X rfl hlen (fun j u hj=>Lib.cell?_alloc_some _ (hsrc j u hj)) hone (by unfold maxLen;omega) (by omega) (by simp) ?_);intro v' w1 hown hgrow hnil)
  have hown2:OwnE w1 w.heap.size v' L:=by
   unfold OwnE;rw [Hn.out.1,Hn.out.2]
   simpa using hown
  obtain ⟨A,m,rfl,hEd⟩:=hown2.eds
  have hB1:Below w.heap.size w w1:=((Below.refl _ w).alloc (Nat.le_refl _) _).grown hgrow (by simp) (fun k hk=>(World.ownsRow.lt (World.ownsRow_made (e:=182) (size:=4) w #[] 0 (Nat.le_refl _) (Nat.zero_le _) rfl) k hk).1)
  have hfin:ClnD w L (.returned (.slice A L.length m)) w1:=⟨A,m,rfl,hEd,fun ad e=>(World.ownsRow.lt hown2 ad.block (by rw [e];rfl)).1,hB1⟩
  have hfin:=Lib.hid hfin;clear hown hgrow hnil hown2 hEd hB1;go_wp2;go_ret;exact hfin.out
def EdsD (w:World) (L:List Ed) (e:Ending) (w':World):Prop:=∃A m,e=.returned (.tuple #[.slice A L.length m,.nilIface])∧EdsAt w' A L∧(∀ad,A=some ad→w.heap.size≤ad.block)∧Below w.heap.size w w'
theorem graphEdges (w : World) (b p mb : Nat) (S : List Nat) (g : G) (v : Int) (E : Int → Option (List Ed)) (h : GraphOf w b p mb S g v E) (c : Int) (L : List Ed) (hc : E c = some L) (hl : L.length ≤ 100000) :
    Calls Tryz.prog 54 #[.pointer (some ⟨b,0,none⟩),.int .i64 c] w (EdsD w L):=by
 obtain ⟨g1,_,⟨V,N,q1,q2,q3,_,_,_,_⟩,_⟩:=h
 have kb1:w.cell? ⟨b,1,none⟩=some (.map (some mb)):=by simp [World.cell?,g1]
 obtain ⟨u,hu⟩:∃u,V c=some u:=by
  cases hV:V c with
  | none=>rw [(q2 c).2 hV] at hc;cases hc
  | some u=>exact ⟨u,rfl⟩
 have hO:=q3 c u L hu hc
 have hlk:(Instr.lookup 137 (.map (some mb)) (.int .i64 c) true).run Tryz.prog w=.ok (.tuple #[u,.bool true]) w:=by
  have:=(q1.look (int_fit Tryz.underlying3) Tryz.underlying137 (z:=.slice none 0 0) (by simp [Tryz.zeroValue119]) c).1
  rw [hu] at this;exact this
 have cC:=Lib.hid (edClone w 0 u L hO hl);clear g1 q1 q2 q3 hu hO hc;go_enter Tryz.func54,Tryz.ntmps54;go_wp2_with fail
 (with_reducible refine cC.out.mono ?_)
 rintro e w1 ⟨A,m,rfl,hEd,hAn,hb1⟩;have hfin:EdsD w L (.returned (.tuple #[.slice A L.length m,.nilIface])) w1:=⟨A,m,rfl,hEd,hAn,hb1⟩;have hfin:=Lib.hid hfin;clear hEd hb1 hlk cC;go_wp2;go_ret2;exact hfin.out
theorem EdsAt.kept {w w':World} {A:Option Addr} {L:List Ed} {T:List Nat} (h:EdsAt w A L) (hk:Kept T w w') (hT:∀ad,A=some ad→ad.block∉T):EdsAt w' A L:=fun hl=>by
 obtain ⟨g,h1,h2,h3⟩:=h hl
 refine ⟨g,h1,Nat.lt_of_lt_of_le h2 hk.size,fun j v hv=>?_⟩
 exact (World.cell?_of_block (a:=⟨g,j,none⟩) (hk.block g h2 (hT _ h1))).trans (h3 j v hv)
theorem GraphOf.kept {w w':World} {b p mb:Nat} {S T:List Nat} {g:G} {v:Int} {E:Int→Option (List Ed)} (h:GraphOf w b p mb S g v E) (hk:Kept T w w') (hT:∀k,k∈b :: p :: mb :: S→k∉T):GraphOf w' b p mb S g v E:=by
 obtain ⟨g1,g2,g3,g4⟩:=h
 exact ⟨(hk.block b (Array.getElem?_eq_some_iff.1 g1).1 (hT b (by simp))).trans g1,g2.kept hk (hT p (by simp)),g3.kept hk (fun s hs=>hT s (by simp [hs])) (hT mb (by simp)),g4⟩
def IdxD (w:World) (L:List Ed) (t:Int) (r:Ending) (w':World):Prop:=
 (r=.returned (.int .i64 (-1))∧(∀e∈L,e.to_≠t)∧Below w.heap.size w w')∨∃(k:Nat) (e:Ed),r=.returned (.int .i64 (k:Nat))∧L[k]? = some e∧e.to_=t∧(∀j e',L[j]? = some e'→j<k→e'.to_≠t)∧Below w.heap.size w w'
theorem cut1Cl (w : World) (bt : Nat) (e : Ed) (t : Int) (hc : w.cell? ⟨bt, 0, none⟩ = some (.int .i64 t)) :
    Calls Tryz.prog 162 #[.agg #[.int .i64 e.to_,.int .i64 e.c.s,.int .i64 e.c.d,.int .i64 e.mid],.pointer (some ⟨bt,0,none⟩)] w fun r w'=>r=.returned (.bool (e.to_ == t))∧Below w.heap.size w w':=by
 obtain ⟨x,⟨s,d⟩,m⟩:=e;have hne:=World.new_ne w _ hc
 have hca:=fun o=>alloc_some (o:=o) hc
 simp only;go_enter Tryz.func162,Tryz.ntmps162;go_wp2;go_ret
 exact ⟨rfl,by (repeat' (first | exact Below.refl _ _ | assumption | apply bel_drewN | apply bel_drew | apply bel_alloc | (refine bel_trans ?_ (by assumption))))⟩
theorem cut1Idx (w : World) (A : Option Addr) (n cap : Nat) (L : List Ed) (bt : Nat) (t : Int) (h : EdsAt w A L) (hn : L.length = n) (hl : n ≤ 100000) (hc : w.cell? ⟨bt, 0, none⟩ = some (.int .i64 t)) :
    Calls Tryz.prog 215 #[.slice A n cap,.func (.func 162) #[] #[.pointer (some ⟨bt,0,none⟩)]] w (IdxD w L t):=by
 have Hn:=Lib.hid hn;have h:=Lib.hid h;have Hc:=Lib.hid hc;clear hn hc;go_enter Tryz.func215,Tryz.ntmps215;go_wp2_with fail
 go_loopw [8] (fun kv wr=>∃k:Nat,kv=.int .i64 k∧k≤n∧(∀j e,L[j]? = some e→j<k→e.to_≠t)∧Below w.heap.size w wr) (fun kv _=>n-(intOf kv).toNat)
 case atStart=>exact ⟨0,rfl,by omega,fun j e _ h=>by omega,Below.refl _ _⟩
 case round=>
  obtain ⟨k,rfl,hk,hno,HB⟩:=hrel;have Hno:=Lib.hid hno;clear hno
  by_cases hlt:k<n
  ·obtain ⟨e,he⟩:∃e,L[k]? = some e:=⟨L[k]'(by rw [Hn.out];exact hlt),List.getElem?_eq_getElem _⟩
   obtain ⟨g,hA,a1,a2,a3,a4⟩:=(h.out.below HB).get he
   have hix:=fun wx=>idxE (m:=cap) hA hlt wx
   have cF:=Lib.hid (cut1Cl wr bt e t (bel_cell HB Hc.out));have He:=Lib.hid he;obtain ⟨u,hu⟩:∃u,(e.to_ == t)=u:=⟨_,rfl⟩;rw [hu] at cF;have Hu:=Lib.hid hu;obtain ⟨x,hx⟩:∃x,e.to_=x:=⟨_,rfl⟩;obtain ⟨xs,hxs⟩:∃x,e.c.s=x:=⟨_,rfl⟩;obtain ⟨xd,hxd⟩:∃x,e.c.d=x:=⟨_,rfl⟩;obtain ⟨xm,hxm⟩:∃x,e.mid=x:=⟨_,rfl⟩;rw [hx] at a1 cF;rw [hxs] at a2 cF;rw [hxd] at a3 cF;rw [hxm] at a4 cF;clear hA he hu hx hxs hxd hxm;go_wp2_with fail
   (with_reducible refine cF.out.mono ?_)
   rintro r w2 ⟨rfl,hb2⟩;have HB2:=bel_trans HB hb2;clear a1 a2 a3 a4 cF hix hb2 HB
   cases u with
   | true=>
    have hfin:IdxD w L t (.returned (.int .i64 (k:Nat))) w2:=.inr ⟨k,e,rfl,He.out,by simpa using Hu.out,Hno.out,HB2⟩
    have hfin:=Lib.hid hfin;clear HB2;go_wp2;go_ret;exact hfin.out
   | false=>
    have hno2:∀j e',L[j]? = some e'→j<k+1→e'.to_≠t:=fun j e' he' hj=>by
     by_cases e1:j=k
     ·subst e1
      rw [He.out] at he'
      injection he' with he'
      subst he'
      simpa using Hu.out
     ·exact Hno.out j e' he' (by omega)
    have Hno2:=Lib.hid hno2;clear hno2;go_wp2;go_roundw
    case rel=>exact ⟨k+1,by go_num,by omega,Hno2.out,HB2⟩
    case measure=>simp [intOf];omega
  ·obtain rfl:k=n:=by omega
   have hfin:IdxD w L t (.returned (.int .i64 (-1))) wr:=.inl ⟨rfl,fun e he=>by
    obtain ⟨j,hj⟩:=List.getElem?_of_mem he
    exact Hno.out j e hj (by have:=(List.getElem?_eq_some_iff.1 hj).1;have:=Hn.out;omega),HB⟩
   have hfin:=Lib.hid hfin;clear HB;go_wp2;go_ret;exact hfin.out
theorem cut2Cl (w : World) (bt : Nat) (e : Ed) (t : Int) (hc : w.cell? ⟨bt, 0, none⟩ = some (.int .i64 t)) :
    Calls Tryz.prog 163 #[.agg #[.int .i64 e.to_,.int .i64 e.c.s,.int .i64 e.c.d,.int .i64 e.mid],.pointer (some ⟨bt,0,none⟩)] w fun r w'=>r=.returned (.bool (e.to_ == t))∧Below w.heap.size w w':=by
 obtain ⟨x,⟨s,d⟩,m⟩:=e;have hne:=World.new_ne w _ hc
 have hca:=fun o=>alloc_some (o:=o) hc
 simp only;go_enter Tryz.func163,Tryz.ntmps163;go_wp2;go_ret
 exact ⟨rfl,by (repeat' (first | exact Below.refl _ _ | assumption | apply bel_drewN | apply bel_drew | apply bel_alloc | (refine bel_trans ?_ (by assumption))))⟩
theorem cut2Idx (w : World) (A : Option Addr) (n cap : Nat) (L : List Ed) (bt : Nat) (t : Int) (h : EdsAt w A L) (hn : L.length = n) (hl : n ≤ 100000) (hc : w.cell? ⟨bt, 0, none⟩ = some (.int .i64 t)) :
    Calls Tryz.prog 215 #[.slice A n cap,.func (.func 163) #[] #[.pointer (some ⟨bt,0,none⟩)]] w (IdxD w L t):=by
 have Hn:=Lib.hid hn;have h:=Lib.hid h;have Hc:=Lib.hid hc;clear hn hc;go_enter Tryz.func215,Tryz.ntmps215;go_wp2_with fail
 go_loopw [8] (fun kv wr=>∃k:Nat,kv=.int .i64 k∧k≤n∧(∀j e,L[j]? = some e→j<k→e.to_≠t)∧Below w.heap.size w wr) (fun kv _=>n-(intOf kv).toNat)
 case atStart=>exact ⟨0,rfl,by omega,fun j e _ h=>by omega,Below.refl _ _⟩
 case round=>
  obtain ⟨k,rfl,hk,hno,HB⟩:=hrel;have Hno:=Lib.hid hno;clear hno
  by_cases hlt:k<n
  ·obtain ⟨e,he⟩:∃e,L[k]? = some e:=⟨L[k]'(by rw [Hn.out];exact hlt),List.getElem?_eq_getElem _⟩
   obtain ⟨g,hA,a1,a2,a3,a4⟩:=(h.out.below HB).get he
   have hix:=fun wx=>idxE (m:=cap) hA hlt wx
   have cF:=Lib.hid (cut2Cl wr bt e t (bel_cell HB Hc.out));have He:=Lib.hid he;obtain ⟨u,hu⟩:∃u,(e.to_ == t)=u:=⟨_,rfl⟩;rw [hu] at cF;have Hu:=Lib.hid hu;obtain ⟨x,hx⟩:∃x,e.to_=x:=⟨_,rfl⟩;obtain ⟨xs,hxs⟩:∃x,e.c.s=x:=⟨_,rfl⟩;obtain ⟨xd,hxd⟩:∃x,e.c.d=x:=⟨_,rfl⟩;obtain ⟨xm,hxm⟩:∃x,e.mid=x:=⟨_,rfl⟩;rw [hx] at a1 cF;rw [hxs] at a2 cF;rw [hxd] at a3 cF;rw [hxm] at a4 cF;clear hA he hu hx hxs hxd hxm;go_wp2_with fail
   (with_reducible refine cF.out.mono ?_)
   rintro r w2 ⟨rfl,hb2⟩;have HB2:=bel_trans HB hb2;clear a1 a2 a3 a4 cF hix hb2 HB
   cases u with
   | true=>
    have hfin:IdxD w L t (.returned (.int .i64 (k:Nat))) w2:=.inr ⟨k,e,rfl,He.out,by simpa using Hu.out,Hno.out,HB2⟩
    have hfin:=Lib.hid hfin;clear HB2;go_wp2;go_ret;exact hfin.out
   | false=>
    have hno2:∀j e',L[j]? = some e'→j<k+1→e'.to_≠t:=fun j e' he' hj=>by
     by_cases e1:j=k
     ·subst e1
      rw [He.out] at he'
      injection he' with he'
      subst he'
      simpa using Hu.out
     ·exact Hno.out j e' he' (by omega)
    have Hno2:=Lib.hid hno2;clear hno2;go_wp2;go_roundw
    case rel=>exact ⟨k+1,by go_num,by omega,Hno2.out,HB2⟩
    case measure=>simp [intOf];omega
  ·obtain rfl:k=n:=by omega
   have hfin:IdxD w L t (.returned (.int .i64 (-1))) wr:=.inl ⟨rfl,fun e he=>by
    obtain ⟨j,hj⟩:=List.getElem?_of_mem he
    exact Hno.out j e hj (by have:=(List.getElem?_eq_some_iff.1 hj).1;have:=Hn.out;omega),HB⟩
   have hfin:=Lib.hid hfin;clear HB;go_wp2;go_ret;exact hfin.out
def delE (L:List Ed) (t:Int):List Ed:=L.filter fun e=>!(e.to_ == t)
def DelD (w:World) (v:Value) (L:List Ed) (e:Ending) (w':World):Prop:=∃v',e=.returned v'∧OwnE w' 0 v' L∧Kept v.ownBlock.toList w w'∧v'.ownBlock=v.ownBlock
def RowE (w:World) (g cap n:Nat) (M:List Ed):Prop:=∃cur,w.heap[g]? = some (.cells cur 182 (0,0))∧cur.size=cap*4∧n≤cap∧cap≤maxLen∧M.length=n∧cur.toList.take (n*4)=edL M
theorem RowE.lt {w:World} {g cap n:Nat} {M:List Ed} (h:RowE w g cap n M):g<w.heap.size:=by
 obtain ⟨cur,h1,_⟩:=h;exact (Array.getElem?_eq_some_iff.1 h1).1
theorem RowE.below {w w':World} {g cap n:Nat} {M:List Ed} (h:RowE w g cap n M) (hb:Below w.heap.size w w'):RowE w' g cap n M:=by
 have hl:=h.lt;obtain ⟨cur,h1,h2⟩:=h;exact ⟨cur,(hb.block g hl).trans h1,h2⟩
theorem RowE.get {w:World} {g cap n:Nat} {M:List Ed} (h:RowE w g cap n M) {j:Nat} {e:Ed} (he:M[j]? = some e):w.cell? ⟨g,j*4,none⟩=some (.int .i64 e.to_)∧w.cell? ⟨g,j*4+1,none⟩=some (.int .i64 e.c.s)∧w.cell? ⟨g,j*4+2,none⟩=some (.int .i64 e.c.d)∧w.cell? ⟨g,j*4+3,none⟩=some (.int .i64 e.mid):=by
 obtain ⟨cur,h1,h2,h3,h4,h5,h6⟩:=h
 have key:∀k v,(edL M)[k]? = some v→w.cell? ⟨g,k,none⟩=some v:=fun k v hv=>by
  rw [←h6,List.getElem?_take] at hv
  split at hv
  ·rw [Array.getElem?_toList] at hv;simp [World.cell?,h1,hv]
  ·cases hv
 obtain ⟨a,b,c,d⟩:=edL_get M j e he;exact ⟨key _ _ a,key _ _ b,key _ _ c,key _ _ d⟩
theorem edL_set:∀(M:List Ed) (i:Nat) (e:Ed),i<M.length→edL (M.set i e)=((((edL M).set (i*4) (.int .i64 e.to_)).set (i*4+1) (.int .i64 e.c.s)).set (i*4+2) (.int .i64 e.c.d)).set (i*4+3) (.int .i64 e.mid)
 | [],i,e,h=>by simp at h
 | x :: M,0,e,h=>by
  rw [List.set_cons_zero,edL_cons,edL_cons];simp [Ed.cells]
 | x :: M,i+1,e,h=>by
  rw [List.set_cons_succ,edL_cons,edL_cons,edL_set M i e (by simpa using h)]
  have l4:x.cells.length=4:=rfl
  have key:∀(a b:List Value) (k:Nat) (v:Value),a.length=4→(a ++ b).set (4+k) v=a ++ b.set k v:=fun a b k v ha=>by
   rw [List.set_append_right _ _ (by omega),ha,show 4+k-4=k by omega]
  rw [show (i+1)*4+1=4+(i*4+1) by omega,show (i+1)*4+2=4+(i*4+2) by omega,show (i+1)*4+3=4+(i*4+3) by omega,show (i+1)*4=4+i*4 by omega]
  rw [key _ _ _ _ l4,key _ _ _ _ l4,key _ _ _ _ l4,key _ _ _ _ l4]
theorem RowE.set {w : World} {g cap n : Nat} {M : List Ed} (h : RowE w g cap n M) {i : Nat} (hi : i < n) (e : Ed) :
    RowE ((((w.setCell ⟨g,i*4,none⟩ (.int .i64 e.to_)).setCell ⟨g,i*4+1,none⟩ (.int .i64 e.c.s)).setCell ⟨g,i*4+2,none⟩ (.int .i64 e.c.d)).setCell ⟨g,i*4+3,none⟩ (.int .i64 e.mid)) g cap n (M.set i e):=by
 obtain ⟨cur,h1,h2,h3,h4,h5,h6⟩:=h
 refine ⟨_,set_heap1 _ _ _ _ _ _ (set_heap1 _ _ _ _ _ _ (set_heap1 _ _ _ _ _ _ (set_heap1 _ _ _ _ _ _ h1))),by simp [h2],h3,h4,by simp [h5],?_⟩
 rw [edL_set M i e (by omega),←h6]
 simp only [Array.toList_setIfInBounds,List.take_set]
def DelI (w w1:World) (g cap n:Nat) (L:List Ed) (t:Int) (i j:Nat) (wr:World):Prop:=
 ∃M,RowE wr g cap n M∧M.take i=delE (L.take j) t∧M.drop j=L.drop j∧Kept [g] w wr∧Kept [g] w1 wr
theorem DelI.start {w w1:World} {g cap n:Nat} {L:List Ed} {t:Int} {k:Nat} {e:Ed} (h:RowE w g cap n L) (hb:Below w.heap.size w w1) (he:L[k]? = some e) (het:e.to_=t) (hno:∀j e',L[j]? = some e'→j<k→e'.to_≠t):DelI w w1 g cap n L t k (k+1) w1:=by
 refine ⟨L,h.below hb,?_,rfl,Kept.of_below hb,Kept.refl _ _⟩;unfold delE;have hk:=(List.getElem?_eq_some_iff.1 he).1;rw [List.take_add_one,he,List.filter_append]
 have e1:(L.take k).filter (fun e=>!(e.to_ == t))=L.take k:=by
  rw [List.filter_eq_self];intro x hx;obtain ⟨j,hj⟩:=List.getElem?_of_mem hx;rw [List.getElem?_take] at hj
  split at hj
  ·have:=hno j x hj (by assumption)
   simpa using this
  ·cases hj
 rw [e1];simp [het]
theorem DelI.below {w w1 wr w':World} {g cap n:Nat} {L:List Ed} {t:Int} {i j:Nat} (h:DelI w w1 g cap n L t i j wr) (hb:Below wr.heap.size wr w'):DelI w w1 g cap n L t i j w':=by
 obtain ⟨M,h1,h2,h3,h4,h5⟩:=h;exact ⟨M,h1.below hb,h2,h3,h4.trans (Kept.of_below hb),h5.trans (Kept.of_below hb)⟩
theorem DelI.lt {w w1 wr:World} {g cap n:Nat} {L:List Ed} {t:Int} {i j:Nat} (h:DelI w w1 g cap n L t i j wr):g<wr.heap.size:=by
 obtain ⟨M,h1,_⟩:=h;exact h1.lt
theorem drop_get {M L:List Ed} {j:Nat} {e:Ed} (h:M.drop j=L.drop j) (he:L[j]? = some e):M[j]? = some e:=by
 have:=congrArg (fun l:List Ed=>l[0]?) h
 simp only [List.getElem?_drop,Nat.add_zero] at this;rw [this];exact he
theorem DelI.get {w w1 wr:World} {g cap n:Nat} {L:List Ed} {t:Int} {i j:Nat} (h:DelI w w1 g cap n L t i j wr) {e:Ed} (he:L[j]? = some e):wr.cell? ⟨g,j*4,none⟩=some (.int .i64 e.to_)∧wr.cell? ⟨g,j*4+1,none⟩=some (.int .i64 e.c.s)∧wr.cell? ⟨g,j*4+2,none⟩=some (.int .i64 e.c.d)∧wr.cell? ⟨g,j*4+3,none⟩=some (.int .i64 e.mid):=by
 obtain ⟨M,h1,h2,h3,_⟩:=h;exact h1.get (drop_get h3 he)
theorem DelI.there {w w1 wr:World} {g cap n:Nat} {L:List Ed} {t:Int} {i j:Nat} (h:DelI w w1 g cap n L t i j wr) (hi:i<n):∃u1 u2 u3 u4:Value,wr.cell? ⟨g,i*4,none⟩=some u1∧wr.cell? ⟨g,i*4+1,none⟩=some u2∧wr.cell? ⟨g,i*4+2,none⟩=some u3∧wr.cell? ⟨g,i*4+3,none⟩=some u4:=by
 obtain ⟨M,h1,_⟩:=h
 have hl:i<M.length:=by obtain ⟨_,_,_,_,_,q,_⟩:=h1;omega
 obtain ⟨a,b,c,d⟩:=h1.get (List.getElem?_eq_getElem hl);exact ⟨_,_,_,_,a,b,c,d⟩
theorem DelI.free {w w1 wr:World} {g cap n:Nat} {L:List Ed} {t:Int} {i j:Nat} (h:DelI w w1 g cap n L t i j wr):wr.frozen? ⟨g,i*4,none⟩=false∧wr.frozen? ⟨g,i*4+1,none⟩=false∧wr.frozen? ⟨g,i*4+2,none⟩=false∧wr.frozen? ⟨g,i*4+3,none⟩=false:=by
 obtain ⟨M,⟨cur,h1,_⟩,_⟩:=h;simp [World.frozen?,h1]
theorem DelI.cell {w w1 wr:World} {g cap n:Nat} {L:List Ed} {t:Int} {i j bt:Nat} {v:Value} (h:DelI w w1 g cap n L t i j wr) (hb:bt<w1.heap.size) (hne:bt≠g) (hc:w1.cell? ⟨bt,0,none⟩=some v):wr.cell? ⟨bt,0,none⟩=some v:=by
 obtain ⟨M,_,_,_,_,h5⟩:=h
 exact keptc h5 (by simpa using hne) hc
theorem DelI.skip {w w1 wr:World} {g cap n:Nat} {L:List Ed} {t:Int} {i j:Nat} {e:Ed} (h:DelI w w1 g cap n L t i j wr) (he:L[j]? = some e) (het:e.to_=t):DelI w w1 g cap n L t i (j+1) wr:=by
 obtain ⟨M,h1,h2,h3,h4,h5⟩:=h;refine ⟨M,h1,?_,?_,h4,h5⟩
 ·rw [h2]
  unfold delE;rw [List.take_add_one,he,List.filter_append];simp [het]
 ·have:=congrArg (List.drop 1) h3
  simpa [List.drop_drop] using this
theorem DelI.keep {w w1 wr : World} {g cap n : Nat} {L : List Ed} {t : Int} {i j : Nat} {e : Ed} (h : DelI w w1 g cap n L t i j wr) (he : L[j]? = some e) (het : e.to_ ≠ t) (hij : i < j) :
    DelI w w1 g cap n L t (i+1) (j+1) ((((wr.setCell ⟨g,i*4,none⟩ (.int .i64 e.to_)).setCell ⟨g,i*4+1,none⟩ (.int .i64 e.c.s)).setCell ⟨g,i*4+2,none⟩ (.int .i64 e.c.d)).setCell ⟨g,i*4+3,none⟩ (.int .i64 e.mid)):=by
 obtain ⟨M,h1,h2,h3,h4,h5⟩:=h
 have hml:M.length=n:=by obtain ⟨_,_,_,_,_,q,_⟩:=h1;exact q
 have hjm:=(List.getElem?_eq_some_iff.1 (drop_get h3 he)).1
 have hK:Kept [g] wr ((((wr.setCell ⟨g,i*4,none⟩ (.int .i64 e.to_)).setCell ⟨g,i*4+1,none⟩ (.int .i64 e.c.s)).setCell ⟨g,i*4+2,none⟩ (.int .i64 e.c.d)).setCell ⟨g,i*4+3,none⟩ (.int .i64 e.mid)):=((((Kept.refl _ _).setCell (.inl (by simp))).setCell (.inl (by simp))).setCell (.inl (by simp))).setCell (.inl (by simp))
 refine ⟨M.set i e,h1.set (by omega) e,?_,?_,h4.trans hK,h5.trans hK⟩
 ·unfold delE at h2 ⊢
  rw [List.take_add_one (l:=L),he,List.filter_append,←h2]
  rw [List.take_add_one,List.getElem?_set_self (by omega)]
  simp [List.take_set,het]
  exact List.set_eq_of_length_le (by simp;omega)
 ·rw [List.drop_set_of_lt (by omega)]
  have:=congrArg (List.drop 1) h3
  simpa [List.drop_drop] using this
theorem edge_zero:∀w,(zeroValue 182).run Tryz.prog w=.ok (.agg #[.int .i64 0,.int .i64 0,.int .i64 0,.int .i64 0]) w:=by
 intro w;simp [Tryz.zeroValue182]
theorem DelI.clear {w w1 wr : World} {g cap n : Nat} {L : List Ed} {t : Int} {i : Nat} (h : DelI w w1 g cap n L t i n wr) (hn : L.length = n) (hi : i < n) :
    ∃w3,(∀ty,(Builtin.clear_ #[119] ty #[.slice (some ⟨g,i*4,none⟩) (n-i) (cap-i)]).run Tryz.prog wr=.ok (.tuple #[]) w3)∧DelD w (.slice (some ⟨g,0,none⟩) n cap) (delE L t) (.returned (.slice (some ⟨g,0,none⟩) i cap)) w3:=by
 obtain ⟨M,⟨cur,h1,c2,c3,c4,c5,c6⟩,h2,_,h4,_⟩:=h
 rw [show L.take n=L by rw [←hn,List.take_length]] at h2
 obtain ⟨zs,hzs⟩:∃zs,(Builtin.zeroCells (Value.agg #[.int .i64 0,.int .i64 0,.int .i64 0,.int .i64 0]).cells (n-i)).toList=zs:=⟨_,rfl⟩
 have zl:zs.length=(n-i)*4:=by
  rw [←hzs];simp [Builtin.zeroCells,Value.cells]
 have z1:∀v∈zs,v.oneCell'=true:=by
  intro v hv;rw [←hzs] at hv;simp [Builtin.zeroCells,Value.cells] at hv;obtain ⟨k,_,rfl⟩:=hv
  have:k % 4=0∨k % 4=1∨k % 4=2∨k % 4=3:=by omega
  rcases this with e | e | e | e <;> rw [e] <;> rfl
 have hst:=run_storeCells_at Tryz.prog g (i*4) 182 zs 0 cur wr h1 (by omega) z1
 simp only [Nat.add_zero] at hst
 refine ⟨wr.setRow g (cur.toList.take (i*4) ++ zs ++ cur.toList.drop (i*4+zs.length)).toArray,fun ty=>?_,_,rfl,?_,?_,rfl⟩
 rotate_left
 ·have hdl:(delE L t).length=i:=by rw [←h2,List.length_take];omega
  refine ⟨by rw [edL_length],.inr ⟨g,cap,_,by rw [hdl],Nat.zero_le _,setRow_heap wr g cur _ _ _ h1,by omega,c4,?_,?_⟩⟩
  ·simp [zl];omega
  ·rw [hdl]
   rw [List.append_assoc,List.take_append_of_le_length (by simp;omega),List.take_take,Nat.min_self,←h2,←edL_take,←c6,List.take_take,Nat.min_eq_left (by omega)]
 ·refine ⟨h4.os,h4.tape,h4.output,by simpa [World.setRow] using h4.size,fun k hk hne=>?_⟩
  have hne':k≠g:=by simpa [Value.ownBlock] using hne
  exact (setRow_other wr g k _ hne').trans (h4.block k hk (by simpa using hne'))
 ·obtain ⟨m,hm⟩:∃m,n-i=m+1:=⟨n-i-1,by omega⟩
  rw [hm] at hzs ⊢
  simp only [Value.cells] at hzs;simp [Builtin.clear_,run_underlying Tryz.underlying119,edge_zero,Value.cells,hzs,hst,Result.andThen]
theorem cut1Del (w : World) (v : Value) (L : List Ed) (bt : Nat) (t : Int) (h : OwnE w 0 v L) (hl : L.length ≤ 100000) (hc : w.cell? ⟨bt, 0, none⟩ = some (.int .i64 t)) (hbt : v.ownBlock ≠ some bt) :
    Calls Tryz.prog 161 #[v,.func (.func 162) #[] #[.pointer (some ⟨bt,0,none⟩)]] w (DelD w v (delE L t)):=by
 obtain ⟨A0,cap0,hv0,hEd⟩:=h.eds;have cI:=Lib.hid (cut1Idx w A0 L.length cap0 L bt t hEd rfl hl hc)
 by_cases hhas:∃e∈L,e.to_=t
 case neg=>
  subst hv0
  have hsame:delE L t=L:=by
   unfold delE;rw [List.filter_eq_self];intro e he
   have:e.to_≠t:=fun e1=>hhas ⟨e,he,e1⟩
   simpa using this
  rw [hsame];obtain ⟨n,hn⟩:∃n,L.length=n:=⟨_,rfl⟩;rw [hn] at cI;have H:=Lib.hid h;have Hn:=Lib.hid hn;have Hhas:=Lib.hid hhas;rw [hn];clear h hEd hn hhas hsame;go_enter Tryz.func161,Tryz.ntmps161;go_wp2_with fail
  (with_reducible refine cI.out.mono ?_)
  rintro r w1 (⟨rfl,hno,hb1⟩ | ⟨k,e,rfl,he,het,_,_⟩)
  ·have hfin : DelD w (.slice A0 n cap0) L (.returned (.slice A0 n cap0)) w1 := by
     have hk:=Kept.of_below (S:=(Value.slice A0 n cap0).ownBlock.toList) hb1
     exact ⟨_,rfl,by have:=H.out.kept (T:=[]) (.of_below hb1) (fun _ _=>by simp);rw [Hn.out] at this;exact this,hk,rfl⟩
   have hfin:=Lib.hid hfin;clear cI hno hb1;go_wp2;go_ret;exact hfin.out
  ·exact absurd ⟨e,List.mem_of_getElem? he,het⟩ Hhas.out
 rcases h.2 with ⟨e0,h0⟩ | ⟨g,cap,cur,e0,_,hg,hnc,hcm,hcs,htake⟩
 ·exfalso
  obtain ⟨e,he,_⟩:=hhas;have:L=[]:=List.eq_nil_of_length_eq_zero h0;subst this;simp at he
 subst e0
 injection hv0 with e1 e2 e3
 subst e1;subst e3;have hrow:RowE w g cap L.length L:=⟨cur,hg,hcs,hnc,hcm,rfl,htake⟩
 have hbg:bt≠g:=fun e=>hbt (by rw [e];rfl)
 have hlen:L.length=L.length:=rfl;obtain ⟨n,hn⟩:∃n,L.length=n:=⟨_,rfl⟩
 rw [hn] at cI hrow hnc hl ⊢
 have Hn:=Lib.hid hn;have Hhas:=Lib.hid hhas;have Hc:=Lib.hid hc;have Hrow:=Lib.hid hrow;have hcm:cap≤9223372036854775807:=hcm;clear h hEd hhas hg hcs htake hrow hlen hn hc;go_enter Tryz.func161,Tryz.ntmps161;go_wp2_with fail
 (with_reducible refine cI.out.mono ?_)
 rintro r w1 (⟨rfl,hno,hb1⟩ | ⟨k,e,rfl,he,het,hbefore,hb1⟩)
 ·obtain ⟨e,he,het⟩:=Hhas.out
  exact absurd het (hno e he)
 have hkn:k<n:=by have:=(List.getElem?_eq_some_iff.1 he).1;have:=Hn.out;omega
 have hk0:((k:Int) == -1)=false:=beq_eq_false_iff_ne.2 (by omega)
 have hstart:DelI w w1 g cap n L t k (k+1) w1:=DelI.start Hrow.out hb1 he het hbefore;have hc1:=Lib.hid (bel_cell hb1 Hc.out);have hB1:=Lib.hid hb1;have hbt1:bt<w1.heap.size:=World.block_lt_of_cell? _ _ hc1.out
 have hw1:IntKind.i64.wrap ((k:Int)+1)=((k+1:Nat):Int):=by rw [IntWalk.i64_in _ (by omega)];omega
 clear cI he het hbefore hb1;go_wp2_with fail;clear hw1 hk0;obtain ⟨wz,rfl⟩:∃wz:World,wz=w1:=⟨_,rfl⟩
 go_loopw [5,6] (fun iv jv wr=>∃i j:Nat,iv=.int .i64 i∧jv=.int .i64 j∧i<j∧j≤n∧DelI w wz g cap n L t i j wr) (fun _ jv _=>n-(intOf jv).toNat)
 case atStart=>exact ⟨k,k+1,rfl,rfl,by omega,by omega,hstart⟩
 case round=>
  obtain ⟨i,j,rfl,rfl,hij,hjn,hI⟩:=hrel;have HI:=Lib.hid hI;clear hstart hI
  by_cases hlt:j<n
  ·obtain ⟨e,he⟩:∃e,L[j]? = some e:=⟨L[j]'(by rw [Hn.out];exact hlt),List.getElem?_eq_getElem _⟩
   have He:=Lib.hid he;obtain ⟨a1,a2,a3,a4⟩:=HI.out.get he
   have hix:=fun wx=>idxE (A:=some ⟨g,0,none⟩) (m:=cap) rfl hlt wx
   have hixi:=fun wx=>idxE (A:=some ⟨g,0,none⟩) (m:=cap) (n:=n) (k:=i) rfl (by omega) wx
   have hcr:=HI.out.cell hbt1 hbg hc1.out
   have cF:=Lib.hid (fun w' (hb:Below wr.heap.size wr w')=>cut1Cl w' bt e t (bel_cell hb hcr))
   obtain ⟨u,hu⟩:∃u,(e.to_ == t)=u:=⟨_,rfl⟩;rw [hu] at cF;have Hu:=Lib.hid hu;have hgw:=HI.out.lt;obtain ⟨x,hx⟩:∃x,e.to_=x:=⟨_,rfl⟩;obtain ⟨xs,hxs⟩:∃x,e.c.s=x:=⟨_,rfl⟩;obtain ⟨xd,hxd⟩:∃x,e.c.d=x:=⟨_,rfl⟩;obtain ⟨xm,hxm⟩:∃x,e.mid=x:=⟨_,rfl⟩;rw [hx] at a1 cF;rw [hxs] at a2 cF;rw [hxd] at a3 cF;rw [hxm] at a4 cF;have Hx:=Lib.hid (And.intro hx (And.intro hxs (And.intro hxd hxm)));clear he hu hcr hx hxs hxd hxm
   go_upto_region 8 with (fail)
   refine wp_name ?_;intro Wq hWq
   have HWq:Below wr.heap.size wr Wq:=by rw [hWq];(repeat' (first | exact Below.refl _ _ | assumption | apply bel_drewN | apply bel_drew | apply bel_alloc | (refine bel_trans ?_ (by assumption))))
   have q0:Wq.cell? ⟨wr.heap.size,0,none⟩=some (.int .i64 x):=by rw [hWq];go_simp
   have q1:Wq.cell? ⟨wr.heap.size,1,none⟩=some (.int .i64 xs):=by rw [hWq];go_simp
   have q2:Wq.cell? ⟨wr.heap.size,2,none⟩=some (.int .i64 xd):=by rw [hWq];go_simp
   have q3:Wq.cell? ⟨wr.heap.size,3,none⟩=some (.int .i64 xm):=by rw [hWq];go_simp
   obtain ⟨bq,hbq⟩:∃z,wr.heap.size=z:=⟨_,rfl⟩
   have hgq:g<bq:=by omega
   have HIq:=Lib.hid (HI.out.below HWq);have Hbq:=Lib.hid hbq
   rw [hbq] at q0 q1 q2 q3 ⊢
   clear hWq hbq a1 a2 a3 a4 hix;go_wp2_with fail
   (with_reducible refine (cF.out _ HWq).mono ?_)
   rintro r w2 ⟨rfl,hb2⟩;have HI2:=Lib.hid (HIq.out.below hb2);have q0:=bel_cell hb2 q0;have q1:=bel_cell hb2 q1;have q2:=bel_cell hb2 q2;have q3:=bel_cell hb2 q3;clear hb2 HWq cF HI HIq
   cases u with
   | true=>
    have hF:DelI w wz g cap n L t i (j+1) w2:=HI2.out.skip He.out (by simpa using Hu.out)
    have hF:=Lib.hid hF;clear q0 q1 q2 q3;go_wp2;go_roundw
    case rel=>first | exact ⟨i,j+1,rfl,by go_num,by omega,by omega,hF.out⟩ | ((repeat apply Exists.intro);exact ⟨⟨i,j+1,rfl,by go_num,by omega,by omega,hF.out⟩,rfl⟩)
    case measure=>simp [intOf];omega
   | false=>
    obtain ⟨f1,f2,f3,f4⟩:=HI2.out.free (i:=i)
    obtain ⟨p1,p2,p3,p4,o1,o2,o3,o4⟩:=HI2.out.there (i:=i) (by omega)
    have hF:DelI w wz g cap n L t (i+1) (j+1) ((((w2.setCell ⟨g,i*4,none⟩ (.int .i64 x)).setCell ⟨g,i*4+1,none⟩ (.int .i64 xs)).setCell ⟨g,i*4+2,none⟩ (.int .i64 xd)).setCell ⟨g,i*4+3,none⟩ (.int .i64 xm)):=by
     have:=HI2.out.keep He.out (by simpa using Hu.out) (by omega:i<j)
     rw [Hx.out.1,Hx.out.2.1,Hx.out.2.2.1,Hx.out.2.2.2] at this;exact this
    have hF:=Lib.hid hF
    go_upto_region 10 with (fail)
    clear f1 f2 f3 f4 o1 o2 o3 o4 q0 q1 q2 q3 hixi
    generalize ((((w2.setCell ⟨g,i*4,none⟩ (.int .i64 x)).setCell ⟨g,i*4+1,none⟩ (.int .i64 xs)).setCell ⟨g,i*4+2,none⟩ (.int .i64 xd)).setCell ⟨g,i*4+3,none⟩ (.int .i64 xm))=w3 at hF ⊢
    have hwi:IntKind.i64.wrap ((i:Int)+1)=((i+1:Nat):Int):=by rw [IntWalk.i64_in _ (by omega)];omega
    go_wp2;go_roundw
    case rel=>first | exact ⟨i+1,j+1,rfl,by go_num,by omega,by omega,hF.out⟩ | ((repeat apply Exists.intro);exact ⟨⟨i+1,j+1,rfl,by go_num,by omega,by omega,hF.out⟩,rfl⟩)
    case measure=>simp [intOf];omega
  ·obtain rfl:j=n:=by omega
   obtain ⟨w3,hcl,hfin⟩:=HI.out.clear Hn.out hij;have hfin:=Lib.hid hfin
   have hci:¬cap=i:=by omega
   have hin:i≤j:=by omega
   have hic:i≤cap:=by omega
   clear HI;go_wp2;go_ret;exact hfin.out
theorem cut2Del (w : World) (v : Value) (L : List Ed) (bt : Nat) (t : Int) (h : OwnE w 0 v L) (hl : L.length ≤ 100000) (hc : w.cell? ⟨bt, 0, none⟩ = some (.int .i64 t)) (hbt : v.ownBlock ≠ some bt) :
    Calls Tryz.prog 161 #[v,.func (.func 163) #[] #[.pointer (some ⟨bt,0,none⟩)]] w (DelD w v (delE L t)):=by
 obtain ⟨A0,cap0,hv0,hEd⟩:=h.eds;have cI:=Lib.hid (cut2Idx w A0 L.length cap0 L bt t hEd rfl hl hc)
 by_cases hhas:∃e∈L,e.to_=t
 case neg=>
  subst hv0
  have hsame:delE L t=L:=by
   unfold delE;rw [List.filter_eq_self];intro e he
   have:e.to_≠t:=fun e1=>hhas ⟨e,he,e1⟩
   simpa using this
  rw [hsame];obtain ⟨n,hn⟩:∃n,L.length=n:=⟨_,rfl⟩;rw [hn] at cI;have H:=Lib.hid h;have Hn:=Lib.hid hn;have Hhas:=Lib.hid hhas;rw [hn];clear h hEd hn hhas hsame;go_enter Tryz.func161,Tryz.ntmps161;go_wp2_with fail
  (with_reducible refine cI.out.mono ?_)
  rintro r w1 (⟨rfl,hno,hb1⟩ | ⟨k,e,rfl,he,het,_,_⟩)
  ·have hfin : DelD w (.slice A0 n cap0) L (.returned (.slice A0 n cap0)) w1 := by
     have hk:=Kept.of_below (S:=(Value.slice A0 n cap0).ownBlock.toList) hb1
     exact ⟨_,rfl,by have:=H.out.kept (T:=[]) (.of_below hb1) (fun _ _=>by simp);rw [Hn.out] at this;exact this,hk,rfl⟩
   have hfin:=Lib.hid hfin;clear cI hno hb1;go_wp2;go_ret;exact hfin.out
  ·exact absurd ⟨e,List.mem_of_getElem? he,het⟩ Hhas.out
 rcases h.2 with ⟨e0,h0⟩ | ⟨g,cap,cur,e0,_,hg,hnc,hcm,hcs,htake⟩
 ·exfalso
  obtain ⟨e,he,_⟩:=hhas;have:L=[]:=List.eq_nil_of_length_eq_zero h0;subst this;simp at he
 subst e0
 injection hv0 with e1 e2 e3
 subst e1;subst e3;have hrow:RowE w g cap L.length L:=⟨cur,hg,hcs,hnc,hcm,rfl,htake⟩
 have hbg:bt≠g:=fun e=>hbt (by rw [e];rfl)
 have hlen:L.length=L.length:=rfl;obtain ⟨n,hn⟩:∃n,L.length=n:=⟨_,rfl⟩
 rw [hn] at cI hrow hnc hl ⊢
 have Hn:=Lib.hid hn;have Hhas:=Lib.hid hhas;have Hc:=Lib.hid hc;have Hrow:=Lib.hid hrow;have hcm:cap≤9223372036854775807:=hcm;clear h hEd hhas hg hcs htake hrow hlen hn hc;go_enter Tryz.func161,Tryz.ntmps161;go_wp2_with fail
 (with_reducible refine cI.out.mono ?_)
 rintro r w1 (⟨rfl,hno,hb1⟩ | ⟨k,e,rfl,he,het,hbefore,hb1⟩)
 ·obtain ⟨e,he,het⟩:=Hhas.out
  exact absurd het (hno e he)
 have hkn:k<n:=by have:=(List.getElem?_eq_some_iff.1 he).1;have:=Hn.out;omega
 have hk0:((k:Int) == -1)=false:=beq_eq_false_iff_ne.2 (by omega)
 have hstart:DelI w w1 g cap n L t k (k+1) w1:=DelI.start Hrow.out hb1 he het hbefore;have hc1:=Lib.hid (bel_cell hb1 Hc.out);have hB1:=Lib.hid hb1;have hbt1:bt<w1.heap.size:=World.block_lt_of_cell? _ _ hc1.out
 have hw1:IntKind.i64.wrap ((k:Int)+1)=((k+1:Nat):Int):=by rw [IntWalk.i64_in _ (by omega)];omega
 clear cI he het hbefore hb1;go_wp2_with fail;clear hw1 hk0;obtain ⟨wz,rfl⟩:∃wz:World,wz=w1:=⟨_,rfl⟩
 go_loopw [5,6] (fun iv jv wr=>∃i j:Nat,iv=.int .i64 i∧jv=.int .i64 j∧i<j∧j≤n∧DelI w wz g cap n L t i j wr) (fun _ jv _=>n-(intOf jv).toNat)
 case atStart=>exact ⟨k,k+1,rfl,rfl,by omega,by omega,hstart⟩
 case round=>
  obtain ⟨i,j,rfl,rfl,hij,hjn,hI⟩:=hrel;have HI:=Lib.hid hI;clear hstart hI
  by_cases hlt:j<n
  ·obtain ⟨e,he⟩:∃e,L[j]? = some e:=⟨L[j]'(by rw [Hn.out];exact hlt),List.getElem?_eq_getElem _⟩
   have He:=Lib.hid he;obtain ⟨a1,a2,a3,a4⟩:=HI.out.get he
   have hix:=fun wx=>idxE (A:=some ⟨g,0,none⟩) (m:=cap) rfl hlt wx
   have hixi:=fun wx=>idxE (A:=some ⟨g,0,none⟩) (m:=cap) (n:=n) (k:=i) rfl (by omega) wx
   have hcr:=HI.out.cell hbt1 hbg hc1.out
   have cF:=Lib.hid (fun w' (hb:Below wr.heap.size wr w')=>cut2Cl w' bt e t (bel_cell hb hcr))
   obtain ⟨u,hu⟩:∃u,(e.to_ == t)=u:=⟨_,rfl⟩;rw [hu] at cF;have Hu:=Lib.hid hu;have hgw:=HI.out.lt;obtain ⟨x,hx⟩:∃x,e.to_=x:=⟨_,rfl⟩;obtain ⟨xs,hxs⟩:∃x,e.c.s=x:=⟨_,rfl⟩;obtain ⟨xd,hxd⟩:∃x,e.c.d=x:=⟨_,rfl⟩;obtain ⟨xm,hxm⟩:∃x,e.mid=x:=⟨_,rfl⟩;rw [hx] at a1 cF;rw [hxs] at a2 cF;rw [hxd] at a3 cF;rw [hxm] at a4 cF;have Hx:=Lib.hid (And.intro hx (And.intro hxs (And.intro hxd hxm)));clear he hu hcr hx hxs hxd hxm
   go_upto_region 8 with (fail)
   refine wp_name ?_;intro Wq hWq
   have HWq:Below wr.heap.size wr Wq:=by rw [hWq];(repeat' (first | exact Below.refl _ _ | assumption | apply bel_drewN | apply bel_drew | apply bel_alloc | (refine bel_trans ?_ (by assumption))))
   have q0:Wq.cell? ⟨wr.heap.size,0,none⟩=some (.int .i64 x):=by rw [hWq];go_simp
   have q1:Wq.cell? ⟨wr.heap.size,1,none⟩=some (.int .i64 xs):=by rw [hWq];go_simp
   have q2:Wq.cell? ⟨wr.heap.size,2,none⟩=some (.int .i64 xd):=by rw [hWq];go_simp
   have q3:Wq.cell? ⟨wr.heap.size,3,none⟩=some (.int .i64 xm):=by rw [hWq];go_simp
   obtain ⟨bq,hbq⟩:∃z,wr.heap.size=z:=⟨_,rfl⟩
   have hgq:g<bq:=by omega
   have HIq:=Lib.hid (HI.out.below HWq);have Hbq:=Lib.hid hbq
   rw [hbq] at q0 q1 q2 q3 ⊢
   clear hWq hbq a1 a2 a3 a4 hix;go_wp2_with fail
   (with_reducible refine (cF.out _ HWq).mono ?_)
   rintro r w2 ⟨rfl,hb2⟩;have HI2:=Lib.hid (HIq.out.below hb2);have q0:=bel_cell hb2 q0;have q1:=bel_cell hb2 q1;have q2:=bel_cell hb2 q2;have q3:=bel_cell hb2 q3;clear hb2 HWq cF HI HIq
   cases u with
   | true=>
    have hF:DelI w wz g cap n L t i (j+1) w2:=HI2.out.skip He.out (by simpa using Hu.out)
    have hF:=Lib.hid hF;clear q0 q1 q2 q3;go_wp2;go_roundw
    case rel=>first | exact ⟨i,j+1,rfl,by go_num,by omega,by omega,hF.out⟩ | ((repeat apply Exists.intro);exact ⟨⟨i,j+1,rfl,by go_num,by omega,by omega,hF.out⟩,rfl⟩)
    case measure=>simp [intOf];omega
   | false=>
    obtain ⟨f1,f2,f3,f4⟩:=HI2.out.free (i:=i)
    obtain ⟨p1,p2,p3,p4,o1,o2,o3,o4⟩:=HI2.out.there (i:=i) (by omega)
    have hF:DelI w wz g cap n L t (i+1) (j+1) ((((w2.setCell ⟨g,i*4,none⟩ (.int .i64 x)).setCell ⟨g,i*4+1,none⟩ (.int .i64 xs)).setCell ⟨g,i*4+2,none⟩ (.int .i64 xd)).setCell ⟨g,i*4+3,none⟩ (.int .i64 xm)):=by
     have:=HI2.out.keep He.out (by simpa using Hu.out) (by omega:i<j)
     rw [Hx.out.1,Hx.out.2.1,Hx.out.2.2.1,Hx.out.2.2.2] at this;exact this
    have hF:=Lib.hid hF
    go_upto_region 10 with (fail)
    clear f1 f2 f3 f4 o1 o2 o3 o4 q0 q1 q2 q3 hixi
    generalize ((((w2.setCell ⟨g,i*4,none⟩ (.int .i64 x)).setCell ⟨g,i*4+1,none⟩ (.int .i64 xs)).setCell ⟨g,i*4+2,none⟩ (.int .i64 xd)).setCell ⟨g,i*4+3,none⟩ (.int .i64 xm))=w3 at hF ⊢
    have hwi:IntKind.i64.wrap ((i:Int)+1)=((i+1:Nat):Int):=by rw [IntWalk.i64_in _ (by omega)];omega
    go_wp2;go_roundw
    case rel=>first | exact ⟨i+1,j+1,rfl,by go_num,by omega,by omega,hF.out⟩ | ((repeat apply Exists.intro);exact ⟨⟨i+1,j+1,rfl,by go_num,by omega,by omega,hF.out⟩,rfl⟩)
    case measure=>simp [intOf];omega
  ·obtain rfl:j=n:=by omega
   obtain ⟨w3,hcl,hfin⟩:=HI.out.clear Hn.out hij;have hfin:=Lib.hid hfin
   have hci:¬cap=i:=by omega
   have hin:i≤j:=by omega
   have hic:i≤cap:=by omega
   clear HI;go_wp2;go_ret;exact hfin.out
def HalfD (W:World) (S:List Nat) (mb:Nat) (E:Int→Option (List Ed)) (wx:World):Prop:=∃S',EMap wx S' mb E∧(∀k∈S',k∈S∨W.heap.size≤k)∧Kept (mb :: S) W wx
theorem graphCut (w : World) (S0 : List Nat) (b p mb : Nat) (E : Int → Option (List Ed)) (x y : Int) (Lx Ly : List Ed) (hb : w.heap[b]? = some (.cells #[.pointer (some ⟨p, 0, none⟩), .map (some mb)] 185 (0, 0))) (hE : EMap w S0 mb E) (hbS0 : b ∉ S0) (hbm : b ≠ mb)
    (hLx:E x=some Lx) (hLy:E y=some Ly) (hxy:x≠y) (hlx:Lx.length≤100000) (hly:Ly.length≤100000) :
    Calls Tryz.prog 109 #[.pointer (some ⟨b,0,none⟩),.int .i64 x,.int .i64 y] w (PutD w S0 mb (updE (updE E x (some (delE Lx y))) y (some (delE Ly x)))):=by
 have hmlt:=hE.lt
 have hSlt:∀s∈S0,s<w.heap.size:=by obtain ⟨_,_,_,_,_,_,_,_,h7⟩:=hE;exact h7
 have hbl:b<w.heap.size:=(Array.getElem?_eq_some_iff.1 hb).1
 have kb1:w.cell? ⟨b,1,none⟩=some (.map (some mb)):=by simp [World.cell?,hb]
 have HLx:=Lib.hid hLx;have HLy:=Lib.hid hLy;have Hxy:=Lib.hid hxy;have HE:=Lib.hid hE;clear hb hLx hLy hE;go_enter Tryz.func109,Tryz.ntmps109
 go_upto_region 1 with (fail)
 refine wp_name ?_;intro W hW
 have HW:Below w.heap.size w W:=by rw [hW];(repeat' (first | exact Below.refl _ _ | assumption | apply bel_drewN | apply bel_drew | apply bel_alloc | (refine bel_trans ?_ (by assumption))))
 have c0:W.cell? ⟨w.heap.size,0,none⟩=some (.int .i64 x):=by rw [hW];go_simp
 have c1:W.cell? ⟨w.heap.size+1,0,none⟩=some (.int .i64 y):=by rw [hW];go_simp
 have k1:=bel_cell HW kb1
 have hWs:W.heap.size=w.heap.size+2:=by rw [hW];simp
 obtain ⟨b4,hb4⟩:∃z,w.heap.size=z:=⟨_,rfl⟩
 rw [hb4] at c0 c1 hWs ⊢
 obtain ⟨b5,hb5⟩:∃z,b4+1=z:=⟨_,rfl⟩
 rw [hb5] at c1 ⊢
 have hb4S:b4∉S0:=fun h=>by have:=hSlt b4 h;omega
 have hb5S:b5∉S0:=fun h=>by have:=hSlt b5 h;omega
 have HEW:=Lib.hid (HE.out.below HW)
 have Hne:Hid (b4≠mb∧b5≠mb):=Lib.hid ⟨by omega,by omega⟩
 have hlt5:b5<W.heap.size:=by omega
 clear hW kb1
 go_cut [] (fun wx=>HalfD W S0 mb (updE E x (some (delE Lx y))) wx)
 case first=>
  obtain ⟨V,N,h1,h2,h3,h4,h5,h6,h7⟩:=HEW.out
  obtain ⟨u,hu⟩:∃u,V x=some u:=by
   cases hV:V x with
   | none=>have:=(h2 x).2 hV;rw [HLx.out] at this;cases this
   | some u=>exact ⟨u,rfl⟩
  have hO:=h3 x u Lx hu HLx.out
  have hqS:∀q,u.ownBlock=some q→q∈S0:=fun q hq=>h4 x u q hu hq
  have hl1:(Instr.lookup 137 (.map (some mb)) (.int .i64 x) false).run Tryz.prog W.drew=.ok u W.drew:=by
   have:=((h1.below (bel_drew (Below.refl _ W))).look (int_fit Tryz.underlying3) Tryz.underlying137 (z:=.slice none 0 0) (by simp [Tryz.zeroValue119]) x).2
   rw [hu] at this;exact this
  have hOA:OwnE W.drew 0 u Lx:=hO.kept (T:=[]) (.of_below (bel_drew (Below.refl _ W))) (fun _ _=>by simp)
  have hMA:MapAt iK W.drew mb V N:=h1.below (bel_drew (Below.refl _ W))
  have hnb:b∉u.ownBlock.toList:=fun e=>by rw [Option.mem_toList] at e;exact hbS0 (hqS b e)
  have hnk:b4∉u.ownBlock.toList:=fun e=>by rw [Option.mem_toList] at e;exact hb4S (hqS _ e)
  have hnm:mb∉u.ownBlock.toList:=fun e=>by rw [Option.mem_toList] at e;exact h5 (hqS mb e)
  have hnc:u.ownBlock≠some b5:=fun e=>hb5S (hqS _ e)
  have HA:=Lib.hid (And.intro hOA (And.intro hMA (And.intro hnb (And.intro hnk (And.intro hnm hnc)))));have H1:=Lib.hid h1;have H2:=Lib.hid h2;have H3:=Lib.hid h3;have H4:=Lib.hid h4;have H5:=Lib.hid h5;have H6:=Lib.hid h6;have H7:=Lib.hid h7;have Hu:=Lib.hid hu;clear h1 h2 h3 h4 h5 h6 h7 hO hqS hOA hMA hnb hnk hnm hnc hu
  go_region_held3 (fun w'=>w'.cell? ⟨b,1,none⟩=some (.map (some mb))∧w'.cell? ⟨b4,0,none⟩=some (.int .i64 x))
   (first
    | exact ⟨k1,c0⟩
    | exact hSI
    | exact hSU)
   ((first
    | (go_at_call 161
       refine (cut1Del _ u Lx b5 _ HA.out.1 hlx (show W.drew.cell? ⟨b5,0,none⟩=_ from c1) HA.out.2.2.2.2.2).mono ?_
       rintro e wI ⟨v',rfl,hOI,hKI,hAt⟩
       have hSI:wI.cell? ⟨b,1,none⟩=some (.map (some mb))∧wI.cell? ⟨b4,0,none⟩=some (.int .i64 x):=
        ⟨keptc (w:=W.drew) hKI HA.out.2.2.1 k1,keptc (w:=W.drew) hKI HA.out.2.2.2.1 c0⟩
       have hMI:MapAt iK wI mb V N:=HA.out.2.1.kept hKI HA.out.2.2.2.2.1;obtain ⟨wU,hU,hMU,hKU⟩:=hMI.store (int_fit Tryz.underlying3) Tryz.underlying137 x v';have hU:(Instr.mapUpdate 137 (.map (some mb)) (.int .i64 x) v').run Tryz.prog wI=.ok () wU:=hU
       have hSU:wU.cell? ⟨b,1,none⟩=some (.map (some mb))∧wU.cell? ⟨b4,0,none⟩=some (.int .i64 x):=
        ⟨keptc hKU (by simpa using hbm) hSI.1,keptc hKU (by simpa using Hne.out.1) hSI.2⟩)))
  all_goals
   have hgr:W.drew.grownBy wI u.ownBlock:=⟨hKI.os,hKI.tape,hKI.output,hKI.size,fun k hk hn=>hKI.block k hk (by rw [Option.mem_toList];exact fun e=>hn e.symm)⟩
   have hfin:=EMap.put (w:=W) (w1:=W.drew) H1.out H2.out H3.out H4.out H5.out H6.out H7.out Hu.out (bel_drew (Below.refl _ W)) hOI hgr (.inl hAt) hMU hKU;have hfin:=Lib.hid hfin;clear hgr hOI hKI hAt hMU hKU
  all_goals
   first
    | (go_meet;(case rel=>exact hfin.out))
    | (go_wp2;go_meet;(case rel=>exact hfin.out))
 case rest=>
  obtain ⟨S1,hE1,hS1,hK1⟩:=hcut
  have hn4:b4∉mb :: S0:=by
   intro h
   rcases List.mem_cons.1 h with h | h
   ·exact Hne.out.1 h
   ·exact hb4S h
  have hn5:b5∉mb :: S0:=by
   intro h
   rcases List.mem_cons.1 h with h | h
   ·exact Hne.out.2 h
   ·exact hb5S h
  have hnb:b∉mb :: S0:=by
   intro h
   rcases List.mem_cons.1 h with h | h
   ·exact hbm h
   ·exact hbS0 h
  have c0':=keptc hK1 hn4 c0;have c1':=keptc hK1 hn5 c1;have k1':=keptc hK1 hnb k1
  have hS1o:∀k,k<W.heap.size→k∉S0→k∉S1:=fun k hk hn h=>by
   rcases hS1 k h with q | q
   ·exact hn q
   ·omega
  have hbW:b<W.heap.size:=Nat.lt_of_lt_of_le hbl HW.size
  have hb4S1:b4∉S1:=hS1o b4 (by omega) hb4S
  have hb5S1:b5∉S1:=hS1o b5 hlt5 hb5S;have hbS1:b∉S1:=hS1o b hbW hbS0;have HE1:=Lib.hid hE1
  have HLy2:Hid (updE E x (some (delE Lx y)) y=some Ly):=Lib.hid (by unfold updE;rw [if_neg (Ne.symm Hxy.out)];exact HLy.out)
  have HS1:=Lib.hid hS1;have HK1:=Lib.hid hK1;clear hE1 hS1 hK1 hn4 hn5 hnb c0 c1 k1 hS1o;have c0:=c1';have c1:=c0';have k1:=k1';clear c0' c1' k1'
  go_upto_region 2 with (fail)
  obtain ⟨V,N,h1,h2,h3,h4,h5,h6,h7⟩:=HE1.out
  obtain ⟨u,hu⟩:∃u,V y=some u:=by
   cases hV:V y with
   | none=>have:=(h2 y).2 hV;rw [HLy2.out] at this;cases this
   | some u=>exact ⟨u,rfl⟩
  have hO:=h3 y u Ly hu HLy2.out
  have hqS:∀q,u.ownBlock=some q→q∈S1:=fun q hq=>h4 y u q hu hq
  have hl1:(Instr.lookup 137 (.map (some mb)) (.int .i64 y) false).run Tryz.prog wc.drew=.ok u wc.drew:=by
   have:=((h1.below (bel_drew (Below.refl _ wc))).look (int_fit Tryz.underlying3) Tryz.underlying137 (z:=.slice none 0 0) (by simp [Tryz.zeroValue119]) y).2
   rw [hu] at this;exact this
  have hOA:OwnE wc.drew 0 u Ly:=hO.kept (T:=[]) (.of_below (bel_drew (Below.refl _ wc))) (fun _ _=>by simp)
  have hMA:MapAt iK wc.drew mb V N:=h1.below (bel_drew (Below.refl _ wc))
  have hnb:b∉u.ownBlock.toList:=fun e=>by rw [Option.mem_toList] at e;exact hbS1 (hqS b e)
  have hnk:b5∉u.ownBlock.toList:=fun e=>by rw [Option.mem_toList] at e;exact hb5S1 (hqS _ e)
  have hnm:mb∉u.ownBlock.toList:=fun e=>by rw [Option.mem_toList] at e;exact h5 (hqS mb e)
  have hnc:u.ownBlock≠some b4:=fun e=>hb4S1 (hqS _ e)
  have HA:=Lib.hid (And.intro hOA (And.intro hMA (And.intro hnb (And.intro hnk (And.intro hnm hnc)))));have H1:=Lib.hid h1;have H2:=Lib.hid h2;have H3:=Lib.hid h3;have H4:=Lib.hid h4;have H5:=Lib.hid h5;have H6:=Lib.hid h6;have H7:=Lib.hid h7;have Hu:=Lib.hid hu;clear h1 h2 h3 h4 h5 h6 h7 hO hqS hOA hMA hnb hnk hnm hnc hu
  go_region_held3 (fun w'=>w'.cell? ⟨b,1,none⟩=some (.map (some mb))∧w'.cell? ⟨b5,0,none⟩=some (.int .i64 y))
   (first
    | exact ⟨k1,c0⟩
    | exact hSI
    | exact hSU)
   ((first
    | (go_at_call 161
       refine (cut2Del _ u Ly b4 _ HA.out.1 hly (show wc.drew.cell? ⟨b4,0,none⟩=_ from c1) HA.out.2.2.2.2.2).mono ?_
       rintro e wI ⟨v',rfl,hOI,hKI,hAt⟩
       have hSI:wI.cell? ⟨b,1,none⟩=some (.map (some mb))∧wI.cell? ⟨b5,0,none⟩=some (.int .i64 y):=
        ⟨keptc (w:=wc.drew) hKI HA.out.2.2.1 k1,keptc (w:=wc.drew) hKI HA.out.2.2.2.1 c0⟩
       have hMI:MapAt iK wI mb V N:=HA.out.2.1.kept hKI HA.out.2.2.2.2.1;obtain ⟨wU,hU,hMU,hKU⟩:=hMI.store (int_fit Tryz.underlying3) Tryz.underlying137 y v';have hU:(Instr.mapUpdate 137 (.map (some mb)) (.int .i64 y) v').run Tryz.prog wI=.ok () wU:=hU
       have hSU:wU.cell? ⟨b,1,none⟩=some (.map (some mb))∧wU.cell? ⟨b5,0,none⟩=some (.int .i64 y):=
        ⟨keptc hKU (by simpa using hbm) hSI.1,keptc hKU (by simpa using Hne.out.2) hSI.2⟩)))
  all_goals
   have hgr:wc.drew.grownBy wI u.ownBlock:=⟨hKI.os,hKI.tape,hKI.output,hKI.size,fun k hk hn=>hKI.block k hk (by rw [Option.mem_toList];exact fun e=>hn e.symm)⟩
   have hfin:=EMap.put (w:=wc) (w1:=wc.drew) H1.out H2.out H3.out H4.out H5.out H6.out H7.out Hu.out (bel_drew (Below.refl _ wc)) hOI hgr (.inl hAt) hMU hKU;have hfin:=Lib.hid hfin;clear hgr hOI hKI hAt hMU hKU
  all_goals
   obtain ⟨S2,hE2,hS2,hK2⟩:=hfin.out;have hWs:=HW.size
   have hfin2:PutD w S0 mb (updE (updE E x (some (delE Lx y))) y (some (delE Ly x))) (.returned (.tuple #[])) wU:=by
    refine ⟨rfl,S2,hE2,fun k hk=>?_,?_⟩
    ·rcases hS2 k hk with q | q
     ·rcases HS1.out k q with r | r
      ·exact .inl r
      ·exact .inr (by omega)
     ·have:=HK1.out.size;exact .inr (by omega)
    ·have hKw:Kept (mb :: S0) w wc:=(Kept.of_below HW).trans HK1.out
     refine ⟨hK2.os.trans hKw.os,hK2.tape.trans hKw.tape,hK2.output.trans hKw.output,Nat.le_trans hKw.size hK2.size,fun k hk hn=>?_⟩
     refine (hK2.block k (Nat.lt_of_lt_of_le hk hKw.size) ?_).trans (hKw.block k hk hn);intro hm
     rcases List.mem_cons.1 hm with e | e
     ·exact hn (by rw [e];simp)
     ·rcases HS1.out k e with q | q
      ·exact hn (List.mem_cons_of_mem _ q)
      ·omega
   have hfin2:=Lib.hid hfin2;clear hE2 hS2 hK2
   first
    | (go_end0;exact hfin2.out)
    | (go_wp2;go_end0;exact hfin2.out)
def GSp (g:G) (N:Nat→Prop) (D:Nat→Nat→Prop) (E:Int→Option (List Ed)):Prop:=
 (∀z:Int,E z≠none↔∃c:Nat,z=c∧N c)∧∀(c:Nat) (L:List Ed),E c=some L→Srt L∧∀e,e∈L↔∃y:Nat,N y∧y≠c∧D c y∧e=⟨y,g.oct c y,-1⟩
theorem GSpec.sp {g:G} {Done:Nat→Nat→Prop} {E:Int→Option (List Ed)} (h:GSpec g Done E):GSp g g.Corner (fun a b=>Done a b∧g.Direct a b) E:=by
 refine ⟨h.1,fun c L hc=>⟨(h.2 c L hc).1,fun e=>?_⟩⟩
 rw [(h.2 c L hc).2 e]
 constructor
 ·rintro ⟨y,h1,h2,h3,h4,h5⟩;exact ⟨y,h1,h2,⟨h3,h4⟩,h5⟩
 ·rintro ⟨y,h1,h2,⟨h3,h4⟩,h5⟩;exact ⟨y,h1,h2,h3,h4,h5⟩
theorem GSp.spec {g:G} {E:Int→Option (List Ed)} (h:GSp g g.Corner g.Direct E):GSpec g (fun _ _=>True) E:=by
 refine ⟨h.1,fun c L hc=>⟨(h.2 c L hc).1,fun e=>?_⟩⟩
 rw [(h.2 c L hc).2 e]
 constructor
 ·rintro ⟨y,h1,h2,h3,h4⟩;exact ⟨y,h1,h2,trivial,h3,h4⟩
 ·rintro ⟨y,h1,h2,_,h3,h4⟩;exact ⟨y,h1,h2,h3,h4⟩
theorem GSp.node {g:G} {N:Nat→Prop} {D:Nat→Nat→Prop} {E:Int→Option (List Ed)} (h:GSp g N D E) {c:Nat} {L:List Ed} (hc:E c=some L):N c:=by
 obtain ⟨c',e,hn⟩:=(h.1 c).1 (by rw [hc];simp)
 obtain rfl:c=c':=by omega
 exact hn
theorem GSp.congr {g g':G} {N N':Nat→Prop} {D D':Nat→Nat→Prop} {E:Int→Option (List Ed)} (h:GSp g N D E) (hN:∀c,N c↔N' c) (hD:∀a b,N a→N b→a≠b→(D a b↔D' a b)) (ho:∀a b,g'.oct a b=g.oct a b):GSp g' N' D' E:=by
 refine ⟨fun z=>?_,fun c L hc=>⟨(h.2 c L hc).1,fun e=>?_⟩⟩
 ·rw [h.1 z]
  exact exists_congr fun c=>and_congr_right fun _=>hN c
 ·have hn:=h.node hc
  rw [(h.2 c L hc).2 e]
  constructor
  ·rintro ⟨y,h1,h2,h3,h4⟩;exact ⟨y,(hN y).1 h1,h2,(hD c y hn h1 (Ne.symm h2)).1 h3,by rw [ho];exact h4⟩
  ·rintro ⟨y,h1,h2,h3,h4⟩;exact ⟨y,(hN y).2 h1,h2,(hD c y hn ((hN y).2 h1) (Ne.symm h2)).2 h3,by rw [←ho];exact h4⟩
theorem GSp.facts {g:G} {N:Nat→Prop} {D:Nat→Nat→Prop} {E:Int→Option (List Ed)} {M:Nat} (h:GSp g N D E) (hM:M≤256) (hN:∀c,N c→c<M) {c:Nat} (hc:N c):∃L,E c=some L∧Srt L∧(∀e∈L,inC e.to_)∧L.length≤1000∧∀e,e∈L↔∃y:Nat,N y∧y≠c∧D c y∧e=⟨y,g.oct c y,-1⟩:=by
 have h1:=(h.1 c).2 ⟨c,rfl,hc⟩
 cases hE:E c with
 | none=>exact absurd hE h1
 | some L=>
  obtain ⟨a,b⟩:=h.2 c L hE
  have hb:∀e∈L,0≤e.to_∧e.to_<M:=fun e he=>by
   obtain ⟨y,hy,_,_,rfl⟩:=(b e).1 he;have:=hN y hy;simp only;omega
  refine ⟨L,rfl,a,fun e he=>?_,?_,b⟩
  ·have:=hb e he
   unfold inC;omega
  ·have:=srt_long a M hb
   omega
theorem srt_pair {L:List Ed}:Srt L↔L.Pairwise (fun a b=>a.to_<b.to_):=by
 rw [List.pairwise_iff_getElem]
 constructor
 ·intro h i j hi hj hij;exact h i j _ _ hij (List.getElem?_eq_getElem hi) (List.getElem?_eq_getElem hj)
 ·intro h i j a b hij ha hb
  obtain ⟨hi,rfl⟩:=List.getElem?_eq_some_iff.1 ha;obtain ⟨hj,rfl⟩:=List.getElem?_eq_some_iff.1 hb;exact h i j hi hj hij
theorem srt_del {L:List Ed} (h:Srt L) (t:Int):Srt (delE L t):=by
 rw [srt_pair] at *;exact h.filter _
theorem mem_del {L:List Ed} {t:Int} {e:Ed}:e∈delE L t↔e∈L∧e.to_≠t:=by
 unfold delE;simp
def Pr (a b x y:Nat):Prop:=(x=a∧y=b)∨(x=b∧y=a)
theorem GSp.cut {g : G} {N : Nat → Prop} {D : Nat → Nat → Prop} {E : Int → Option (List Ed)} (h : GSp g N D E) {a b : Nat} (ha : N a) (hb : N b) (hab : a ≠ b) {La Lb : List Ed} (hLa : E a = some La) (hLb : E b = some Lb) :
    GSp g N (fun x y=>D x y∧¬Pr a b x y) (updE (updE E a (some (delE La b))) b (some (delE Lb a))):=by
 obtain ⟨sa,ma⟩:=h.2 a La hLa;obtain ⟨sb,mb⟩:=h.2 b Lb hLb
 refine ⟨fun z=>?_,fun c L hc=>?_⟩
 ·unfold updE
  by_cases e1:z=(b:Int)
  ·rw [if_pos e1];exact ⟨fun _=>⟨b,e1,hb⟩,fun _=>by simp⟩
  ·rw [if_neg e1]
   by_cases e2:z=(a:Int)
   ·rw [if_pos e2];exact ⟨fun _=>⟨a,e2,ha⟩,fun _=>by simp⟩
   ·rw [if_neg e2];exact h.1 z
 ·unfold updE at hc
  by_cases e1:(c:Int)=(b:Int)
  ·rw [if_pos e1] at hc
   injection hc with hc
   obtain rfl:c=b:=by omega
   subst hc
   refine ⟨srt_del sb _,fun e=>?_⟩
   rw [mem_del,mb e]
   constructor
   ·rintro ⟨⟨y,q1,q2,q3,rfl⟩,q4⟩
    simp only at q4;refine ⟨y,q1,q2,⟨q3,?_⟩,rfl⟩
    rintro (⟨r1,r2⟩ | ⟨r1,r2⟩)
    ·exact hab r1.symm
    ·exact q4 (by rw [r2])
   ·rintro ⟨y,q1,q2,⟨q3,q4⟩,rfl⟩
    refine ⟨⟨y,q1,q2,q3,rfl⟩,?_⟩;simp only;intro r
    exact q4 (.inr ⟨rfl,by omega⟩)
  ·rw [if_neg e1] at hc
   by_cases e2:(c:Int)=(a:Int)
   ·rw [if_pos e2] at hc
    injection hc with hc
    obtain rfl:c=a:=by omega
    subst hc
    refine ⟨srt_del sa _,fun e=>?_⟩
    rw [mem_del,ma e]
    constructor
    ·rintro ⟨⟨y,q1,q2,q3,rfl⟩,q4⟩
     simp only at q4;refine ⟨y,q1,q2,⟨q3,?_⟩,rfl⟩
     rintro (⟨r1,r2⟩ | ⟨r1,r2⟩)
     ·exact q4 (by rw [r2])
     ·exact hab r1
    ·rintro ⟨y,q1,q2,⟨q3,q4⟩,rfl⟩
     refine ⟨⟨y,q1,q2,q3,rfl⟩,?_⟩;simp only;intro r
     exact q4 (.inl ⟨rfl,by omega⟩)
   ·rw [if_neg e2] at hc
    obtain ⟨s,m⟩:=h.2 c L hc
    refine ⟨s,fun e=>?_⟩
    rw [m e]
    constructor
    ·rintro ⟨y,q1,q2,q3,q4⟩
     refine ⟨y,q1,q2,⟨q3,?_⟩,q4⟩
     rintro (⟨r1,r2⟩ | ⟨r1,r2⟩)
     ·exact e2 (by rw [r1])
     ·exact e1 (by rw [r1])
    ·rintro ⟨y,q1,q2,⟨q3,_⟩,q4⟩;exact ⟨y,q1,q2,q3,q4⟩
theorem GSp.yes {g : G} {N : Nat → Prop} {D : Nat → Nat → Prop} {E : Int → Option (List Ed)} (h : GSp g N D E) {a b : Nat} (ha : N a) (hb : N b) (hab : a ≠ b) (h1 : ¬ D a b) (h2 : ¬ D b a) {La Lb : List Ed} (hLa : E a = some La) (hLb : E b = some Lb) :
    GSp g N (fun x y=>D x y∨Pr a b x y) (updE (updE E a (some (insS La ⟨b,g.oct a b,-1⟩))) b (some (insS Lb ⟨a,g.oct a b,-1⟩)))∧hasE La b=false∧hasE Lb a=false:=by
 obtain ⟨sa,ma⟩:=h.2 a La hLa;obtain ⟨sb,mb⟩:=h.2 b Lb hLb
 have na:hasE La b=false:=by
  cases hh:hasE La b with
  | false=>rfl
  | true=>
   obtain ⟨e,he,e1⟩:=has_iff.1 hh;obtain ⟨y,_,_,q,rfl⟩:=(ma e).1 he;simp only at e1
   obtain rfl:y=b:=by omega
   exact absurd q h1
 have nb:hasE Lb a=false:=by
  cases hh:hasE Lb a with
  | false=>rfl
  | true=>
   obtain ⟨e,he,e1⟩:=has_iff.1 hh;obtain ⟨y,_,_,q,rfl⟩:=(mb e).1 he;simp only at e1
   obtain rfl:y=a:=by omega
   exact absurd q h2
 have hba:¬((b:Int)=(a:Int)):=by omega
 refine ⟨⟨fun z=>?_,fun c L hc=>?_⟩,na,nb⟩
 ·unfold updE
  by_cases e1:z=(b:Int)
  ·rw [if_pos e1];exact ⟨fun _=>⟨b,e1,hb⟩,fun _=>by simp⟩
  ·rw [if_neg e1]
   by_cases e2:z=(a:Int)
   ·rw [if_pos e2];exact ⟨fun _=>⟨a,e2,ha⟩,fun _=>by simp⟩
   ·rw [if_neg e2];exact h.1 z
 ·unfold updE at hc
  by_cases e1:(c:Int)=(b:Int)
  ·rw [if_pos e1] at hc
   injection hc with hc
   obtain rfl:c=b:=by omega
   subst hc
   refine ⟨srt_insS sb nb,fun e=>?_⟩
   rw [mem_insS,mb e]
   constructor
   ·rintro (rfl | ⟨y,q1,q2,q3,q4⟩)
    ·exact ⟨a,ha,hab,.inr (.inr ⟨rfl,rfl⟩),by rw [G.oct_symm]⟩
    ·exact ⟨y,q1,q2,.inl q3,q4⟩
   ·rintro ⟨y,q1,q2,q3 | ⟨rfl,rfl⟩ | ⟨_,rfl⟩,q4⟩
    ·exact .inr ⟨y,q1,q2,q3,q4⟩
    ·exact absurd rfl hab
    ·exact .inl (by rw [q4,G.oct_symm])
  ·rw [if_neg e1] at hc
   by_cases e2:(c:Int)=(a:Int)
   ·rw [if_pos e2] at hc
    injection hc with hc
    obtain rfl:c=a:=by omega
    subst hc
    refine ⟨srt_insS sa na,fun e=>?_⟩
    rw [mem_insS,ma e]
    constructor
    ·rintro (rfl | ⟨y,q1,q2,q3,q4⟩)
     ·exact ⟨b,hb,Ne.symm hab,.inr (.inl ⟨rfl,rfl⟩),rfl⟩
     ·exact ⟨y,q1,q2,.inl q3,q4⟩
    ·rintro ⟨y,q1,q2,q3 | ⟨_,rfl⟩ | ⟨rfl,rfl⟩,q4⟩
     ·exact .inr ⟨y,q1,q2,q3,q4⟩
     ·exact .inl q4
     ·exact absurd rfl hab
   ·rw [if_neg e2] at hc
    obtain ⟨s,m⟩:=h.2 c L hc
    refine ⟨s,fun e=>?_⟩
    rw [m e]
    constructor
    ·rintro ⟨y,q1,q2,q3,q4⟩;exact ⟨y,q1,q2,.inl q3,q4⟩
    ·rintro ⟨y,q1,q2,q3 | ⟨rfl,_⟩ | ⟨rfl,_⟩,q4⟩
     ·exact ⟨y,q1,q2,q3,q4⟩
     ·exact absurd rfl e2
     ·exact absurd rfl e1
theorem GSp.add {g:G} {N:Nat→Prop} {D:Nat→Nat→Prop} {E:Int→Option (List Ed)} (h:GSp g N D E) {c:Nat} (hc:¬N c):GSp g (fun z=>N z∨z=c) (fun x y=>D x y∧x≠c∧y≠c) (updE E c (some [])):=by
 refine ⟨fun z=>?_,fun x L hx=>?_⟩
 ·unfold updE
  by_cases e:z=(c:Int)
  ·rw [if_pos e];exact ⟨fun _=>⟨c,e,.inr rfl⟩,fun _=>by simp⟩
  ·rw [if_neg e,h.1 z]
   constructor
   ·rintro ⟨y,q1,q2⟩;exact ⟨y,q1,.inl q2⟩
   ·rintro ⟨y,q1,q2 | q2⟩
    ·exact ⟨y,q1,q2⟩
    ·exact absurd (by rw [q1,q2]) e
 ·unfold updE at hx
  by_cases e:(x:Int)=(c:Int)
  ·rw [if_pos e] at hx
   injection hx with hx
   subst hx
   refine ⟨fun i j a b _ ha=>by simp at ha,fun e'=>?_⟩
   constructor
   ·intro h;simp at h
   ·rintro ⟨y,_,_,⟨_,q,_⟩,_⟩;exact absurd (by omega) q
  ·rw [if_neg e] at hx
   obtain ⟨s,m⟩:=h.2 x L hx
   refine ⟨s,fun e'=>?_⟩
   rw [m e']
   constructor
   ·rintro ⟨y,q1,q2,q3,q4⟩
    exact ⟨y,.inl q1,q2,⟨q3,fun r=>e (by rw [r]),fun r=>hc (by rw [←r];exact q1)⟩,q4⟩
   ·rintro ⟨y,q1 | q1,q2,⟨q3,_,q5⟩,q4⟩
    ·exact ⟨y,q1,q2,q3,q4⟩
    ·exact absurd q1 q5
theorem GSp.sub {g:G} {N:Nat→Prop} {D:Nat→Nat→Prop} {E:Int→Option (List Ed)} (h:GSp g N D E) {c:Nat} (hD:∀x,N x→x≠c→¬D x c):GSp g (fun z=>N z∧z≠c) (fun x y=>D x y∧x≠c∧y≠c) (updE E c none):=by
 refine ⟨fun z=>?_,fun x L hx=>?_⟩
 ·unfold updE
  by_cases e:z=(c:Int)
  ·rw [if_pos e]
   refine ⟨fun h=>absurd rfl h,?_⟩
   rintro ⟨y,q1,_,q2⟩;exact absurd (by omega) q2
  ·rw [if_neg e,h.1 z]
   constructor
   ·rintro ⟨y,q1,q2⟩;exact ⟨y,q1,q2,fun r=>e (by rw [q1,r])⟩
   ·rintro ⟨y,q1,q2,_⟩;exact ⟨y,q1,q2⟩
 ·unfold updE at hx
  by_cases e:(x:Int)=(c:Int)
  ·rw [if_pos e] at hx;cases hx
  ·rw [if_neg e] at hx
   have hn:=h.node hx
   have hxc:x≠c:=fun r=>e (by rw [r])
   obtain ⟨s,m⟩:=h.2 x L hx
   refine ⟨s,fun e'=>?_⟩
   rw [m e']
   constructor
   ·rintro ⟨y,q1,q2,q3,q4⟩
    have hyc:y≠c:=fun r=>hD x hn hxc (by rw [←r];exact q3)
    exact ⟨y,⟨q1,hyc⟩,q2,⟨q3,hxc,hyc⟩,q4⟩
   ·rintro ⟨y,⟨q1,_⟩,q2,⟨q3,_⟩,q4⟩;exact ⟨y,q1,q2,q3,q4⟩
def LookS (w:World) (b p mb:Nat) (S:List Nat) (g:G) (v:Int) (N:Nat→Prop) (D:Nat→Nat→Prop) (e:Ending) (w':World):Prop:=
 e=.returned (.tuple #[])∧∃S' E',GraphOf w' b p mb S' g v E'∧GSp g N D E'∧(∀k∈S',k∈S∨w.heap.size≤k)∧Kept (mb :: S) w w'
theorem graphLookS (w : World) (b p mb : Nat) (S : List Nat) (g : G) (v : Int) (E : Int → Option (List Ed)) (N : Nat → Prop) (D : Nat → Nat → Prop) (x y : Nat) (h : GraphOf w b p mb S g v E) (hS : GSp g N D E) (hNf : ∀ c, N c → c < g.n ∧ g.b c = false) (hx : N x) (hy : N y) (hxy : x ≠ y) (h1 : ¬ D x y) (h2 : ¬ D y x) :
    Calls Tryz.prog 110 #[.pointer (some ⟨b,0,none⟩),.int .i64 (x:Nat),.int .i64 (y:Nat)] w (LookS w b p mb S g v N (fun a c=>D a c∨(Pr x y a c∧g.Direct a c))):=by
 have hg:=h.2.1;have hok:=hg.1;have hNn:=G.n_le hok;obtain ⟨xn,xf⟩:=hNf x hx;obtain ⟨yn,yf⟩:=hNf y hy
 have kb0:w.cell? ⟨b,0,none⟩=some (.pointer (some ⟨p,0,none⟩)):=by simp [World.cell?,h.1]
 obtain ⟨t,ht⟩:=boolQ (g.Direct x y);have Ht:=Lib.hid ht;have cD:=Lib.hid (reachDirect_ok w p g v x y t hg xn yn xf yf ht);have H:=Lib.hid h;have HS:=Lib.hid hS;have Hd:=Lib.hid (And.intro h1 h2);have HNf:=Lib.hid hNf;clear h hS ht h1 h2 hg hNf;go_enter Tryz.func110,Tryz.ntmps110;go_wp2_with fail
 (with_reducible refine cD.out.mono ?_)
 rintro e w1 ⟨rfl,hb1⟩;clear cD
 cases t with
 | false=>
  have hno:¬g.Direct x y:=fun hh=>by have:=Ht.out.2 hh;cases this
  have hfin:LookS w b p mb S g v N (fun a c=>D a c∨(Pr x y a c∧g.Direct a c)) (.returned (.tuple #[])) w1:=by
   refine ⟨rfl,S,E,H.out.below hb1,HS.out.congr (fun _=>Iff.rfl) (fun a c _ _ _=>?_) (fun _ _=>rfl),fun k hk=>.inl hk,Kept.of_below hb1⟩
   constructor
   ·exact .inl
   ·rintro (q | ⟨⟨rfl,rfl⟩ | ⟨rfl,rfl⟩,q⟩)
    ·exact q
    ·exact absurd q hno
    ·exact absurd (G.direct_symm.1 q) hno
  have hfin:=Lib.hid hfin;clear Ht;go_wp2;go_end0;exact hfin.out
 | true=>
  have hyes:g.Direct x y:=Ht.out.1 rfl
  obtain ⟨Lx,hLx,sx,ix,lx,_⟩:=HS.out.facts hNn (fun c hc=>(HNf.out c hc).1) hx
  obtain ⟨Ly,hLy,sy,iy,ly,_⟩:=HS.out.facts hNn (fun c hc=>(HNf.out c hc).1) hy
  have hG1:=H.out.below hb1;have hgr1:GridAt w1 p g v:=hG1.2.1;have kb0:=bel_cell hb1 kb0;have hsp:=HS.out.yes hx hy hxy Hd.out.1 Hd.out.2 hLx hLy
  have hsp2:GSp g N (fun a c=>D a c∨(Pr x y a c∧g.Direct a c)) (updE (updE E x (some (insS Lx ⟨y,g.oct x y,-1⟩))) y (some (insS Ly ⟨x,g.oct x y,-1⟩))):=by
   refine hsp.1.congr (fun _=>Iff.rfl) (fun a c _ _ _=>?_) (fun _ _=>rfl)
   constructor
   ·rintro (q | q)
    ·exact .inl q
    ·refine .inr ⟨q,?_⟩
     rcases q with ⟨rfl,rfl⟩ | ⟨rfl,rfl⟩
     ·exact hyes
     ·exact G.direct_symm.1 hyes
   ·rintro (q | ⟨q,_⟩)
    ·exact .inl q
    ·exact .inr q
  clear hsp;obtain ⟨⟨os,od⟩,ho⟩:∃z,g.oct x y=z:=⟨_,rfl⟩;rw [ho] at hsp2;have hsp:=Lib.hid hsp2
  have hx0:inC (x:Int):=by unfold inC;omega
  have hy0:inC (y:Int):=by unfold inC;omega
  clear Ht hsp2;go_wp2_with fail
  (with_reducible refine (gOctile _ p g v x y ⟨os,od⟩ hgr1 xn yn ho).mono ?_)
  rintro e w2 ⟨rfl,hb2⟩
  go_upto_region 3 with (fail)
  refine wp_name ?_;intro W hW
  have HW:Below w2.heap.size w2 W:=by rw [hW];(repeat' (first | exact Below.refl _ _ | assumption | apply bel_drewN | apply bel_drew | apply bel_alloc | (refine bel_trans ?_ (by assumption))))
  have o0:W.cell? ⟨w2.heap.size,0,none⟩=some (.int .i64 os):=by rw [hW];go_simp
  have o1:W.cell? ⟨w2.heap.size,1,none⟩=some (.int .i64 od):=by rw [hW];go_simp
  have hB1:=bel_trans hb2 HW;have hGW:=hG1.below hB1;have hBW:=bel_trans hb1 hB1
  have hnS:w2.heap.size∉mb :: S:=by
   have hE:=hG1.2.2.1;have hml:=hE.lt;obtain ⟨V,N,q1,q2,q3,q4,q5,q6,q7⟩:=hE;have hsz:=hb2.size;intro hh
   rcases List.mem_cons.1 hh with e | e
   ·omega
   ·have:=q7 _ e;omega
  obtain ⟨b8,hb8⟩:∃z,w2.heap.size=z:=⟨_,rfl⟩
  rw [hb8] at o0 o1 hnS ⊢
  have HGW:=Lib.hid hGW;obtain ⟨g1,g2,g3,g4,g5,g6,g7,g8⟩:=hGW;have c1:=Lib.hid (graphPut W S b p mb E (x:Nat) ⟨(y:Nat),⟨os,od⟩,-1⟩ Lx g1 g3 g4 g6 hLx sx ix hy0 lx);clear hW hb8 HW hB1 hG1 hb2 hb1 kb0 g1 g2 g3 g4 g5 g6 g7 g8;go_wp2_with fail
  (refine c1.out.mono ?_)
  rintro e w3 ⟨rfl,S1,hE1,hS1,hK1⟩;have hG3:=HGW.out.put hE1 hS1 hK1;have o0:=keptc hK1 hnS o0;have o1:=keptc hK1 hnS o1
  have hLy2:updE E (x:Nat) (some (insS Lx ⟨(y:Nat),⟨os,od⟩,-1⟩)) (y:Nat)=some Ly:=by
   unfold updE
   rw [if_neg (by omega)]
   exact hLy
  have HG3:=Lib.hid hG3;obtain ⟨g1,g2,g3,g4,g5,g6,g7,g8⟩:=hG3;have c2:=Lib.hid (graphPut w3 S1 b p mb _ (y:Nat) ⟨(x:Nat),⟨os,od⟩,-1⟩ Ly g1 g3 g4 g6 hLy2 sy iy hx0 ly);clear c1 hE1 g1 g2 g3 g4 g5 g6 g7 g8 hLy2 hnS;go_wp2_with fail
  (refine c2.out.mono ?_)
  rintro e w4 ⟨rfl,S2,hE2,hS2,hK2⟩;have hG4:=HG3.out.put hE2 hS2 hK2
  have hKS:Kept (mb :: S) w w4:=by
   have hKw:Kept (mb :: S) w w3:=(Kept.of_below hBW).trans hK1
   refine ⟨hK2.os.trans hKw.os,hK2.tape.trans hKw.tape,hK2.output.trans hKw.output,Nat.le_trans hKw.size hK2.size,fun k hk hn=>?_⟩
   refine (hK2.block k (Nat.lt_of_lt_of_le hk hKw.size) ?_).trans (hKw.block k hk hn);intro hm
   rcases List.mem_cons.1 hm with e | e
   ·exact hn (by rw [e];simp)
   ·rcases hS1 k e with q | q
    ·exact hn (List.mem_cons_of_mem _ q)
    ·have:=hBW.size;omega
  have hSS:∀k∈S2,k∈S∨w.heap.size≤k:=fun k hk=>by
   rcases hS2 k hk with q | q
   ·rcases hS1 k q with r | r
    ·exact .inl r
    ·have:=hBW.size;exact .inr (by omega)
   ·have:=hK1.size;have:=hBW.size;exact .inr (by omega)
  have hfin:LookS w b p mb S g v N (fun a c=>D a c∨(Pr x y a c∧g.Direct a c)) (.returned (.tuple #[])) w4:=⟨rfl,S2,_,hG4,hsp.out,hSS,hKS⟩
  have hfin:=Lib.hid hfin;clear hE2 hG4 hSS hKS;go_wp2;go_end0;exact hfin.out
def BoolD (w:World) (P:Prop) (e:Ending) (w':World):Prop:=∃t:Bool,e=.returned (.bool t)∧(t=true↔P)∧Below w.heap.size w w'
theorem graphBetween (w : World) (b p : Nat) (g : G) (v : Int) (mv : Value) (x y : Nat) (X Y : Int) (hb : w.heap[b]? = some (.cells #[.pointer (some ⟨p, 0, none⟩), mv] 185 (0, 0))) (hG : GridAt w p g v) (hx : x < g.n) (hy : y < g.n) (hX : -100 ≤ X ∧ X ≤ 100) (hY : -100 ≤ Y ∧ Y ≤ 100) :
    Calls Tryz.prog 107 #[.pointer (some ⟨b,0,none⟩),.int .i64 (x:Nat),.int .i64 (y:Nat),.int .i64 X,.int .i64 Y] w (BoolD w (g.Btw x y X Y)):=by
 have hok:=hG.1
 have kb0:w.cell? ⟨b,0,none⟩=some (.pointer (some ⟨p,0,none⟩)):=by simp [World.cell?,hb]
 obtain ⟨o1,o2,o3,o4⟩:=hG.1;have x1:=G.X_lt hok x;have x2:=G.X_lt hok y;have y1:=G.Y_lt hx;have y2:=G.Y_lt hy
 have hdef:BoolD w (g.Btw x y X Y)=BoolD w ((((g.X x:Int)-1≤X∨(g.X y:Int)-1≤X)∧(X≤g.X x+1∨X≤g.X y+1))∧(((g.Y x:Int)-1≤Y∨(g.Y y:Int)-1≤Y)∧(Y≤g.Y x+1∨Y≤g.Y y+1))):=by
  congr 1
  unfold G.Btw;simp only [and_assoc]
 rw [hdef];clear hdef;have cP:=Lib.hid (gridPlace_in w p g v x hG hx)
 have cQ:=Lib.hid (fun w' (hb:Below w.heap.size w w')=>gridPlace_in w' p g v y (hG.below hb hG.lt) hy)
 obtain ⟨ax,hax⟩:∃z,((g.X x:Nat):Int)=z:=⟨_,rfl⟩;obtain ⟨ay,hay⟩:∃z,((g.Y x:Nat):Int)=z:=⟨_,rfl⟩;obtain ⟨bx,hbx⟩:∃z,((g.X y:Nat):Int)=z:=⟨_,rfl⟩;obtain ⟨by_,hby⟩:∃z,((g.Y y:Nat):Int)=z:=⟨_,rfl⟩;rw [hax,hay] at cP;rw [hbx,hby] at cQ;rw [hax,hay,hbx,hby]
 have a1:0≤ax∧ax≤16:=by omega
 have a2:0≤ay∧ay≤16:=by omega
 have a3:0≤bx∧bx≤16:=by omega
 have a4:0≤by_∧by_≤16:=by omega
 clear hax hay hbx hby x1 x2 y1 y2 hG hok hb;obtain ⟨a1,a1'⟩:=a1;obtain ⟨a2,a2'⟩:=a2;obtain ⟨a3,a3'⟩:=a3;obtain ⟨a4,a4'⟩:=a4;obtain ⟨X1,X2⟩:=hX;obtain ⟨Y1,Y2⟩:=hY;go_enter Tryz.func107,Tryz.ntmps107;go_wp2_with fail
 (with_reducible refine cP.out.mono ?_)
 rintro e w1 ⟨rfl,hb1⟩;have kb1:=bel_cell hb1 kb0;go_wp2_with fail
 (with_reducible refine (cQ.out _ hb1).mono ?_)
 rintro e w2 ⟨rfl,hb2⟩;have hB:=bel_trans hb1 hb2;clear cP cQ kb0 kb1 hb1 hb2;go_wp2
 all_goals
  go_ret
  exact ⟨_,rfl,by simp;omega,hB⟩
def SomeBool (w:World) (e:Ending) (w':World):Prop:=∃t:Bool,e=.returned (.bool t)∧Below w.heap.size w w'
def SomeIdx (w:World) (e:Ending) (w':World):Prop:=∃t:Int,e=.returned (.int .i64 t)∧Below w.heap.size w w'
theorem intsIndex (w : World) (A : Option Addr) (n m : Nat) (f : Nat → Int) (x : Int) (h : Ints w A n f) (hn : n ≤ 100000) :
    Calls Tryz.prog 160 #[.slice A n m,.int .i64 x] w (SomeIdx w):=by
 have H:=Lib.hid h;clear h;go_enter Tryz.func160,Tryz.ntmps160;go_wp2_with fail
 go_loopw [8] (fun kv wr=>∃k:Nat,kv=.int .i64 k∧k≤n∧Below w.heap.size w wr) (fun kv _=>n-(intOf kv).toNat)
 case atStart=>exact ⟨0,rfl,by omega,Below.refl _ _⟩
 case round=>
  obtain ⟨k,rfl,hk,hB⟩:=hrel
  by_cases hlt:k<n
  ·have hI:=H.out.below hB
   obtain ⟨ad,hA⟩:=hI.addr (by omega)
   rw [hA] at hI
   have hix:=fun wx=>idx_run (m:=m) hA hlt wx
   have hE:=hI.cell (Below.refl _ _) hlt;obtain ⟨y,hy⟩:∃y,f k=y:=⟨_,rfl⟩;rw [hy] at hE;clear hI hA hy;go_wp2
   ·go_ret
    exact ⟨_,rfl,hB⟩
   ·go_roundw
    case rel=>exact ⟨k+1,by go_num,by omega,hB⟩
    case measure=>simp [intOf];omega
  ·obtain rfl:k=n:=by omega
   go_wp2;go_ret;exact ⟨_,rfl,hB⟩
theorem intsContains (w : World) (A : Option Addr) (n m : Nat) (f : Nat → Int) (x : Int) (h : Ints w A n f) (hn : n ≤ 100000) :
    Calls Tryz.prog 108 #[.slice A n m,.int .i64 x] w (SomeBool w):=by
 have cI:=Lib.hid (intsIndex w A n m f x h hn);clear h;go_enter Tryz.func108,Tryz.ntmps108;go_wp2_with fail
 (with_reducible refine cI.out.mono ?_)
 rintro e w1 ⟨t,rfl,hb1⟩;go_wp2;go_ret;exact ⟨_,rfl,hb1⟩
def TurnN (g:G) (N:Nat→Prop) (c:Nat) (z:Nat):Prop:=(z=c∧g.Corner c)∨(z≠c∧N z)
def TurnE (g:G) (N:Nat→Prop) (D:Nat→Nat→Prop) (c a b:Nat):Prop:=D a b∧((a≠c∧b≠c)∨(g.Corner c∧N c))
def TurnD (w:World) (b p mb:Nat) (S:List Nat) (g:G) (v:Int) (N:Nat→Prop) (D:Nat→Nat→Prop) (c:Nat) (e:Ending) (w':World):Prop:=
 ∃(t:Bool) (S':List Nat) (E':Int→Option (List Ed)),e=.returned (.bool t)∧GraphOf w' b p mb S' g v E'∧GSp g (TurnN g N c) (TurnE g N D c) E'∧(∀k∈S',k∈S∨w.heap.size≤k)∧Kept (mb :: S) w w'
theorem EMap.drop {w wU : World} {S : List Nat} {mb N N2 : Nat} {E : Int → Option (List Ed)} {V : Int → Option Value} {a : Int}
    (h1:MapAt iK w mb V N) (h2:∀k,E k=none↔V k=none) (h3:∀k u L,V k=some u→E k=some L→OwnE w 0 u L) (h4:∀k u q,V k=some u→u.ownBlock=some q→q∈S) (h5:mb∉S)
    (h6:∀k k' u u' q,V k=some u→V k'=some u'→u.ownBlock=some q→u'.ownBlock=some q→k=k') (h7:∀s,s∈S→s<w.heap.size)
    (hM:MapAt iK wU mb (updK V a none) N2) (hK:Kept [mb] w wU):EMap wU S mb (updE E a none):=by
 refine ⟨_,N2,hM,fun k=>?_,fun k x L hx hL=>?_,fun k x q hx hq=>?_,h5,fun k k' x x' q hx hx' hq hq'=>?_,fun s hs=>Nat.lt_of_lt_of_le (h7 s hs) hK.size⟩
 ·unfold updE updK
  split
  ·simp
  ·exact h2 k
 ·unfold updE at hL
  unfold updK at hx
  split at hx
  ·cases hx
  ·rename_i e
   rw [if_neg e] at hL
   exact (h3 k x L hx hL).kept hK (fun q hq=>by
    have:=h4 k x q hx hq;simp;rintro rfl;exact h5 this)
 ·unfold updK at hx
  split at hx
  ·cases hx
  ·exact h4 k x q hx hq
 ·unfold updK at hx hx'
  split at hx
  ·cases hx
  ·split at hx'
   ·cases hx'
   ·exact h6 k k' x x' q hx hx' hq hq'
def CutK (D:Nat→Nat→Prop) (L:List Ed) (c k a b:Nat):Prop:=D a b∧∀(j:Nat) (e:Ed),j<k→L[j]? = some e→∀y:Nat,e.to_=y→¬Pr c y a b
def CutI (w w1:World) (b p mb:Nat) (S:List Nat) (g:G) (v:Int) (N:Nat→Prop) (D:Nat→Nat→Prop) (c:Nat) (L:List Ed) (A:Option Addr) (k:Nat) (wr:World):Prop:=
 ∃S' E',GraphOf wr b p mb S' g v E'∧GSp g N (CutK D L c k) E'∧(∀k∈S',k∈S∨w.heap.size≤k)∧Kept (mb :: S) w wr∧EdsAt wr A L∧(∀ad,A=some ad→ad.block∉mb :: S')
theorem kept_more {w w1 w2:World} {mb:Nat} {S S1:List Nat} (h:Kept (mb :: S) w w1) (k:Kept (mb :: S1) w1 w2) (hS:∀q∈S1,q∈S∨w.heap.size≤q):Kept (mb :: S) w w2:=
 ⟨k.os.trans h.os,k.tape.trans h.tape,k.output.trans h.output,Nat.le_trans h.size k.size,fun q hq hn=>by
  refine (k.block q (Nat.lt_of_lt_of_le hq h.size) ?_).trans (h.block q hq hn);intro hm
  rcases List.mem_cons.1 hm with e | e
  ·exact hn (by rw [e];simp)
  ·rcases hS q e with r | r
   ·exact hn (List.mem_cons_of_mem _ r)
   ·omega⟩
theorem more_more {w w1:World} {S S1 S2:List Nat} (hs:w.heap.size≤w1.heap.size) (h1:∀k∈S1,k∈S∨w.heap.size≤k) (h2:∀k∈S2,k∈S1∨w1.heap.size≤k):∀k∈S2,k∈S∨w.heap.size≤k:=fun k hk=>by
 rcases h2 k hk with q | q
 ·exact h1 k q
 ·exact .inr (by omega)
theorem EMap.lts {w:World} {S:List Nat} {mb:Nat} {E:Int→Option (List Ed)} (h:EMap w S mb E):∀s∈S,s<w.heap.size:=by
 obtain ⟨_,_,_,_,_,_,_,_,h7⟩:=h;exact h7
theorem graphTurn (w : World) (b p mb : Nat) (S : List Nat) (g : G) (v : Int) (E : Int → Option (List Ed)) (N : Nat → Prop) (D : Nat → Nat → Prop) (c : Nat) (h : GraphOf w b p mb S g v E) (hS : GSp g N D E) (hNf : ∀ c, N c → c < g.n) (hc : c < g.n) (hsym : ∀ a b, D a b → D b a) :
    Calls Tryz.prog 106 #[.pointer (some ⟨b,0,none⟩),.int .i64 (c:Nat)] w (TurnD w b p mb S g v N D c):=by
 have hg:=h.2.1;have hok:=hg.1;have hNn:=G.n_le hok
 have kb0:w.cell? ⟨b,0,none⟩=some (.pointer (some ⟨p,0,none⟩)):=by simp [World.cell?,h.1]
 have kb1:w.cell? ⟨b,1,none⟩=some (.map (some mb)):=by simp [World.cell?,h.1]
 obtain ⟨t,ht⟩:∃t,cornerB g c=t:=⟨_,rfl⟩
 have hcor:t=true↔g.Corner c:=by rw [←ht];exact corner_iff' hc
 have cI:=cornerIs_in w p g v c hg hc;rw [ht] at cI;have cI:=Lib.hid cI;have Hcor:=Lib.hid hcor;have H:=Lib.hid h;have HS:=Lib.hid hS;have HNf:=Lib.hid hNf;have Hsym:=Lib.hid hsym;obtain ⟨_,_,⟨V,n0,q1,q2,q3,q4,q5,q6,q7⟩,_⟩:=h;have Q:=Lib.hid (And.intro q1 (And.intro q2 (And.intro q3 (And.intro q4 (And.intro q5 (And.intro q6 q7))))))
 have hlk:∀w',Below w.heap.size w w'→(Instr.lookup 137 (.map (some mb)) (.int .i64 (c:Nat)) true).run Tryz.prog w'=.ok (.tuple #[(V c).getD (.slice none 0 0),.bool (V c).isSome]) w':=fun w' hb=>
  ((q1.below hb).look (int_fit Tryz.underlying3) Tryz.underlying137 (z:=.slice none 0 0) (by simp [Tryz.zeroValue119]) (c:Int)).1
 have hVN:(V c).isSome=true↔N c:=by
  have h1:=hS.1 c;have h2:=q2 c
  constructor
  ·intro hv
   obtain ⟨c',e,hn⟩:=h1.1 (fun e=>by rw [h2.1 e] at hv;cases hv)
   obtain rfl:c=c':=by omega
   exact hn
  ·intro hn
   cases hV:V c with
   | none=>exact absurd (h2.2 hV) (h1.2 ⟨c,rfl,hn⟩)
   | some _=>rfl
 obtain ⟨u,hu⟩:∃u,(V c).getD (.slice none 0 0)=u:=⟨_,rfl⟩;obtain ⟨s,hs⟩:∃s,(V c).isSome=s:=⟨_,rfl⟩;rw [hu,hs] at hlk;rw [hs] at hVN;have Hlk:=Lib.hid hlk;have HVN:=Lib.hid hVN;have Hu:=Lib.hid hu;have Hs:=Lib.hid hs;clear hS hNf hsym q1 q2 q3 q4 q5 q6 q7 hg ht hcor hlk hVN hu hs;go_enter Tryz.func106,Tryz.ntmps106;go_wp2_with fail
 (with_reducible refine cI.out.mono ?_)
 rintro e w1 ⟨rfl,hb1⟩;have kb1:=bel_cell hb1 kb1;have hl1:=Hlk.out _ hb1;have H1:=Lib.hid (H.out.below hb1);clear cI kb0
 have hrest:(t=true∧s=true)∨(t=false∧s=false)→TurnD w b p mb S g v N D c (.returned (.bool false)) w1:=by
  intro hor
  refine ⟨false,S,E,rfl,H1.out,HS.out.congr (fun z=>?_) (fun x y hx hy _=>?_) (fun _ _=>rfl),fun k hk=>.inl hk,Kept.of_below hb1⟩
  ·unfold TurnN
   by_cases e:z=c
   ·subst e
    rcases hor with ⟨r1,r2⟩ | ⟨r1,r2⟩
    ·have:=Hcor.out.1 r1;have:=HVN.out.1 r2;simp [*]
    ·have n1:¬N z:=fun hh=>by have:=HVN.out.2 hh;rw [r2] at this;cases this
     have n2:¬g.Corner z:=fun hh=>by have:=Hcor.out.2 hh;rw [r1] at this;cases this
     simp [n1,n2]
   ·simp [e]
  ·unfold TurnE
   refine ⟨fun hd=>⟨hd,?_⟩,fun hd=>hd.1⟩
   rcases hor with ⟨r1,r2⟩ | ⟨r1,r2⟩
   ·exact .inr ⟨Hcor.out.1 r1,HVN.out.1 r2⟩
   ·left
    have n1:¬N c:=fun hh=>by have:=HVN.out.2 hh;rw [r2] at this;cases this
    exact ⟨fun e=>n1 (by rw [←e];exact hx),fun e=>n1 (by rw [←e];exact hy)⟩
 have Hrest:=Lib.hid hrest;clear hrest
 cases t with
 | true=>
  cases s with
  | true=>
   have hfin:=Lib.hid (Hrest.out (.inl ⟨rfl,rfl⟩));clear Hrest hb1;go_wp2;go_ret;exact hfin.out
  | false=>
   clear Hrest
   have hnN:¬N c:=fun hh=>by have:=HVN.out.2 hh;cases this
   have hcc:g.Corner c:=Hcor.out.1 rfl;obtain ⟨wU,hU,hMU,hKU⟩:=(Q.out.1.below hb1).store (int_fit Tryz.underlying3) Tryz.underlying137 (c:Int) (.slice none 0 0);have hU:(Instr.mapUpdate 137 (.map (some mb)) (.int .i64 (c:Nat)) (.slice none 0 0)).run Tryz.prog w1=.ok () wU:=hU
   have hE2:EMap wU S mb (updE E c (some [])):=EMap.add (Q.out.1.below hb1) Q.out.2.1 (fun k u L a1 a2=>(Q.out.2.2.1 k u L a1 a2).kept (T:=[]) (.of_below hb1) (fun _ _=>by simp)) Q.out.2.2.2.1 Q.out.2.2.2.2.1 Q.out.2.2.2.2.2.1 (fun s hs=>Nat.lt_of_lt_of_le (Q.out.2.2.2.2.2.2 s hs) hb1.size) hMU hKU
   have hfin:TurnD w b p mb S g v N D c (.returned (.bool true)) wU:=by
    refine ⟨true,S,_,rfl,H1.out.put hE2 (fun k hk=>.inl hk) (hKU.wid (by simp)),(HS.out.add hnN).congr (fun z=>?_) (fun x y _ _ _=>?_) (fun _ _=>rfl),fun k hk=>.inl hk,(Kept.of_below hb1).trans (hKU.wid (by simp))⟩
    ·unfold TurnN
     by_cases e:z=c
     ·subst e;simp [hcc]
     ·simp [e]
    ·unfold TurnE
     constructor
     ·rintro ⟨a1,a2,a3⟩;exact ⟨a1,.inl ⟨a2,a3⟩⟩
     ·rintro ⟨a1,a2 | ⟨_,a2⟩⟩
      ·exact ⟨a1,a2⟩
      ·exact absurd a2 hnN
   have hfin:=Lib.hid hfin;clear hE2 hMU hKU hb1;go_wp2;go_ret;exact hfin.out
 | false=>
  cases s with
  | false=>
   have hfin:=Lib.hid (Hrest.out (.inr ⟨rfl,rfl⟩));clear Hrest hb1;go_wp2;go_ret;exact hfin.out
  | true=>
   clear Hrest;have hN:N c:=HVN.out.1 rfl
   have hnc:¬g.Corner c:=fun hh=>by have:=Hcor.out.2 hh;cases this
   obtain ⟨L,hL,sL,iL,lL,mL⟩:=HS.out.facts hNn HNf.out hN
   have hVu:V c=some u:=by
    have a:=Hu.out;have b:=Hs.out
    cases hV:V c with
    | none=>rw [hV] at b;cases b
    | some x=>rw [hV] at a;simp at a;rw [a]
   have hOu:OwnE w1 0 u L:=(Q.out.2.2.1 c u L hVu hL).kept (T:=[]) (.of_below hb1) (fun _ _=>by simp)
   have cC:=Lib.hid (edClone w1 0 u L hOu (by omega))
   have HmL:=Lib.hid mL;have HB1:=Lib.hid hb1;clear hL hVu hOu mL hb1 iL sL;go_wp2_with fail
   (with_reducible refine cC.out.mono ?_)
   rintro e w2 ⟨A,m,rfl,hEd,hAn,hb2⟩;have hb02:=bel_trans HB1.out hb2
   have hstart:CutI w w2 b p mb S g v N D c L A 0 w2:=by
    refine ⟨S,E,H1.out.below hb2,HS.out.congr (fun _=>Iff.rfl) (fun x y _ _ _=>?_) (fun _ _=>rfl),fun k hk=>.inl hk,Kept.of_below hb02,hEd,fun ad e hm=>?_⟩
    ·unfold CutK
     exact ⟨fun hd=>⟨hd,fun j e hj=>by omega⟩,fun hd=>hd.1⟩
    ·have h1:=hAn ad e
     have h2:=HB1.out.size;have h3:=H.out.2.2.1.lt;have h4:=H.out.2.2.1.lts
     rcases List.mem_cons.1 hm with r | r
     ·omega
     ·have:=h4 _ r;omega
   obtain ⟨n,hn⟩:∃n,L.length=n:=⟨_,rfl⟩
   rw [hn] at lL ⊢
   have Hn:=Lib.hid hn;have HB2:=Lib.hid hb02;clear hl1 cC hEd hAn hb2 hn kb1 hb02 H1;go_wp2_with fail
   go_loopw [49] (fun kv wr=>∃k:Nat,kv=.int .i64 k∧k≤n∧CutI w w2 b p mb S g v N D c L A k wr) (fun kv _=>n-(intOf kv).toNat)
   case atStart=>exact ⟨0,rfl,by omega,hstart⟩
   case round=>
    obtain ⟨k,rfl,hk,S1,E1,hG1,hS1,hN1,hK1,hEd1,hA1⟩:=hrel;clear hstart
    by_cases hlt:k<n
    ·obtain ⟨ek,hek⟩:∃e,L[k]? = some e:=⟨L[k]'(by rw [Hn.out];exact hlt),List.getElem?_eq_getElem _⟩
     obtain ⟨y,hy1,hy2,hy3,hey⟩:=(HmL.out ek).1 (List.mem_of_getElem? hek);obtain ⟨os,hos⟩:∃o,g.oct c y=o:=⟨_,rfl⟩;rw [hos] at hey;subst hey;obtain ⟨ga,hA,a1,a2,a3,a4⟩:=hEd1.get hek
     have hix:=fun wx=>idxE (m:=m) hA hlt wx
     simp only at a1 a2 a3 a4;obtain ⟨os,od⟩:=os;simp only at a1 a2 a3 a4;obtain ⟨Lc,hLc,_,_,lc,_⟩:=hS1.facts hNn HNf.out hN;obtain ⟨Ly,hLy,_,_,ly,_⟩:=hS1.facts hNn HNf.out hy1;have Hek:=Lib.hid hek;have HG1:=Lib.hid hG1;have Hsp:=Lib.hid (hS1.cut hN hy1 (Ne.symm hy2) hLc hLy);have HN1:=Lib.hid hN1;have HK1:=Lib.hid hK1;have HEd1:=Lib.hid hEd1;have HA1:=Lib.hid hA1
     have cT:=Lib.hid (fun w' (hb:Below wr.heap.size wr w')=>graphCut w' S1 b p mb E1 (c:Nat) (y:Nat) Lc Ly (hG1.below hb).1 (hG1.below hb).2.2.1 hG1.2.2.2.1 hG1.2.2.2.2.2.1 hLc hLy (by omega) (by omega) (by omega))
     clear hek hos hA hG1 hS1 hN1 hK1 hEd1 hA1 hLc hLy
     go_upto_region 10 with (fail)
     refine wp_name ?_;intro W hW
     have HW:Below wr.heap.size wr W:=by rw [hW];(repeat' (first | exact Below.refl _ _ | assumption | apply bel_drewN | apply bel_drew | apply bel_alloc | (refine bel_trans ?_ (by assumption))))
     have e0:W.cell? ⟨wr.heap.size,0,none⟩=some (.int .i64 (y:Nat)):=by rw [hW];go_simp
     obtain ⟨bx,hbx⟩:∃z,wr.heap.size=z:=⟨_,rfl⟩;have Hbx:=Lib.hid hbx
     rw [hbx] at e0 ⊢
     clear hW a1 a2 a3 a4 hix hbx;go_wp2_with fail
     (refine (cT.out _ HW).mono ?_)
     rintro e w3 ⟨rfl,S2,hE2,hN2,hK2⟩
     have hfin:CutI w w2 b p mb S g v N D c L A (k+1) w3:=by
      refine ⟨S2,_,(HG1.out.below HW).put hE2 hN2 hK2,Hsp.out.congr (fun _=>Iff.rfl) (fun x z _ _ _=>?_) (fun _ _=>rfl),?_,?_,?_,?_⟩
      ·unfold CutK
       constructor
       ·rintro ⟨⟨d1,d2⟩,d3⟩
        refine ⟨d1,fun j e hj he y' hy'=>?_⟩
        by_cases ej:j=k
        ·subst ej
         rw [Hek.out] at he
         injection he with he
         subst he;simp only at hy'
         obtain rfl:y=y':=by omega
         exact d3
        ·exact d2 j e (by omega) he y' hy'
       ·rintro ⟨d1,d2⟩
        exact ⟨⟨d1,fun j e hj he y' hy'=>d2 j e (by omega) he y' hy'⟩,d2 k _ (by omega) Hek.out y rfl⟩
      ·exact more_more (Nat.le_trans HK1.out.size HW.size) HN1.out hN2
      ·exact kept_more (HK1.out.trans (Kept.of_below HW)) hK2 HN1.out
      ·exact ((HEd1.out.below HW).kept hK2 (fun ad e=>HA1.out ad e))
      ·intro ad e hm
       have hlA:ad.block<wr.heap.size:=by
        obtain ⟨ga,e2,hl,_⟩:=HEd1.out (by rw [Hn.out];omega)
        rw [e2] at e
        injection e with e
        rw [←e];exact hl
       rcases List.mem_cons.1 hm with r | r
       ·exact HA1.out ad e (by rw [r];simp)
       ·rcases hN2 _ r with q | q
        ·exact HA1.out ad e (List.mem_cons_of_mem _ q)
        ·have:=HW.size;omega
     have hfin:=Lib.hid hfin;clear hE2 hN2 hK2 HW e0 cT;go_wp2;go_roundw
     case rel=>first | exact ⟨k+1,by go_num,by omega,hfin.out⟩ | ((repeat apply Exists.intro);exact ⟨⟨k+1,by go_num,by omega,hfin.out⟩,rfl⟩)
     case measure=>simp [intOf];omega
    ·obtain rfl:k=n:=by omega
     have hD:∀x,N x→x≠c→¬CutK D L c k x c:=by
      rintro x hx hxc ⟨d1,d2⟩;have hm:=(HmL.out ⟨x,g.oct c x,-1⟩).2 ⟨x,hx,hxc,Hsym.out _ _ d1,rfl⟩;obtain ⟨j,hj⟩:=List.getElem?_of_mem hm;have hjl:=(List.getElem?_eq_some_iff.1 hj).1
      exact d2 j _ (by have:=Hn.out;omega) hj x rfl (.inr ⟨rfl,rfl⟩)
     have hsub:=hS1.sub hD
     have kb1:wr.cell? ⟨b,1,none⟩=some (.map (some mb)):=by simp [World.cell?,hG1.1]
     have HG1:=Lib.hid hG1;have Hsub:=Lib.hid hsub;have HN1:=Lib.hid hN1;have HK1:=Lib.hid hK1;obtain ⟨_,_,⟨V1,n1,p1,p2,p3,p4,p5,p6,p7⟩,_⟩:=hG1;have P:=Lib.hid (And.intro p1 (And.intro p2 (And.intro p3 (And.intro p4 (And.intro p5 (And.intro p6 p7))))));clear hD hsub hS1 hN1 hK1 hEd1 hA1 p1 p2 p3 p4 p5 p6 p7;go_wp2_with (at_delete;(refine wpList_dropM rfl _ _ rfl (int_fit Tryz.underlying3) Tryz.underlying137 P.out.1 rfl (c:Int) rfl ?_);intro w5 hM5 hk5)
     have hE5:EMap w5 S1 mb (updE E1 c none):=EMap.drop P.out.1 P.out.2.1 P.out.2.2.1 P.out.2.2.2.1 P.out.2.2.2.2.1 P.out.2.2.2.2.2.1 P.out.2.2.2.2.2.2 hM5 hk5
     have hfin:TurnD w b p mb S g v N D c (.returned (.bool false)) w5:=by
      refine ⟨false,S1,_,rfl,HG1.out.put hE5 (fun k hk=>.inl hk) (hk5.wid (by simp)),Hsub.out.congr (fun z=>?_) (fun x y hx hy _=>?_) (fun _ _=>rfl),HN1.out,HK1.out.trans (hk5.wid (by simp))⟩
      ·unfold TurnN
       by_cases e:z=c
       ·subst e;simp [hnc]
       ·simp [e]
      ·unfold TurnE CutK
       constructor
       ·rintro ⟨⟨d1,_⟩,d2,d3⟩;exact ⟨d1,.inl ⟨d2,d3⟩⟩
       ·rintro ⟨d1,⟨d2,d3⟩ | ⟨d2,_⟩⟩
        ·refine ⟨⟨d1,fun j e hj he y' hy'=>?_⟩,d2,d3⟩
         rintro (⟨r1,_⟩ | ⟨_,r2⟩)
         ·exact d2 r1
         ·exact d3 r2
        ·exact absurd d2 hnc
     have hfin:=Lib.hid hfin;clear hE5 hM5 hk5 kb1;go_wp2;go_ret;exact hfin.out
theorem srt_ext:∀ {L M:List Ed},L.Pairwise (fun a b=>a.to_<b.to_)→M.Pairwise (fun a b=>a.to_<b.to_)→(∀z,z∈L↔z∈M)→L=M
 | [],[],_,_,_=>rfl
 | [],y :: M,_,_,h=>by have:=(h y).2 (by simp);simp at this
 | x :: L,[],_,_,h=>by have:=(h x).1 (by simp);simp at this
 | x :: L,y :: M,hL,hM,h=>by
  rw [List.pairwise_cons] at hL hM
  have hxy:x=y:=by
   have a:=(h x).1 (by simp)
   have b:=(h y).2 (by simp)
   rcases List.mem_cons.1 a with a | a
   ·exact a
   ·rcases List.mem_cons.1 b with b | b
    ·exact b.symm
    ·have:=hM.1 x a;have:=hL.1 y b;omega
  subst hxy
  rw [srt_ext hL.2 hM.2 (fun z=>?_)]
  constructor
  ·intro hz
   have:=(h z).1 (List.mem_cons_of_mem _ hz)
   rcases List.mem_cons.1 this with e | e
   ·subst e;have:=hL.1 z hz;omega
   ·exact e
  ·intro hz
   have:=(h z).2 (List.mem_cons_of_mem _ hz)
   rcases List.mem_cons.1 this with e | e
   ·subst e;have:=hM.1 z hz;omega
   ·exact e
theorem srt_pw {L:List Ed} (h:Srt L):L.Pairwise (fun a b=>a.to_<b.to_):=by
 rw [List.pairwise_iff_getElem];intro i j hi hj hij;exact h i j _ _ hij (List.getElem?_eq_getElem hi) (List.getElem?_eq_getElem hj)
def SetGD (w:World) (b p mb:Nat) (S:List Nat) (g:G) (v:Int) (e:Ending) (w':World):Prop:=
 e=.returned (.tuple #[.bool true,.nilIface])∧∃S' E',GraphOf w' b p mb S' g v E'∧GSpec g (fun _ _=>True) E'∧(∀k∈S',k∈S∨w.heap.size≤k)∧Kept (p :: mb :: S) w w'
def SetI (w:World) (b p mb:Nat) (S:List Nat) (g g':G) (v:Int) (c:Nat) (nx ny:Int) (fv:Value) (wr:World):Prop:=
 ∃S' E' zs,GraphOf wr b p mb S' g' v E'∧GSp g' (g.PN g' c nx ny) (g.PD g' c nx ny) E'∧(∀k∈S',k∈S∨w.heap.size≤k)∧Kept (p :: mb :: S) w wr∧OwnI wr w.heap.size fv zs∧(zs.length:Int)≤3*(ny-g.Y c+1)+(nx-g.X c+1)∧∀q,fv.ownBlock=some q→q∉b :: p :: mb :: S'
theorem kept_more' {w w1 w2:World} {p mb:Nat} {S S1:List Nat} (h:Kept (p :: mb :: S) w w1) (k:Kept (mb :: S1) w1 w2) (hS:∀q∈S1,q∈S∨w.heap.size≤q):Kept (p :: mb :: S) w w2:=
 ⟨k.os.trans h.os,k.tape.trans h.tape,k.output.trans h.output,Nat.le_trans h.size k.size,fun q hq hn=>by
  refine (k.block q (Nat.lt_of_lt_of_le hq h.size) ?_).trans (h.block q hq hn);intro hm
  rcases List.mem_cons.1 hm with e | e
  ·exact hn (by rw [e];simp)
  ·rcases hS q e with r | r
   ·exact hn (by simp [r])
   ·omega⟩
theorem SetI.none {w wr:World} {b p mb:Nat} {S:List Nat} {g g':G} {v:Int} {c:Nat} {nx ny:Int} {fv:Value} (hg:g.ok) (h:SetI w b p mb S g g' v c nx ny fv wr) (ho:¬(0≤nx∧nx<g.w∧0≤ny∧ny<g.h)):SetI w b p mb S g g' v c (nx+1) ny fv wr:=by
 obtain ⟨S',E',zs,h1,h2,h3,h4,h5,h6,h7⟩:=h
 refine ⟨S',E',zs,h1,h2.congr (fun z=>?_) (fun a b ha hb _=>?_) (fun _ _=>rfl),h3,h4,h5,by omega,h7⟩
 ·unfold G.PN
  refine and_congr_right fun hz=>?_
  rw [G.Pd_none hg hz ho]
 ·unfold G.PD
  rw [G.Pd_none hg ha.1 ho,G.Pd_none hg hb.1 ho]
theorem SetI.row {w wr:World} {b p mb:Nat} {S:List Nat} {g g':G} {v:Int} {c:Nat} {nx ny:Int} {fv:Value} (h:SetI w b p mb S g g' v c nx ny fv wr) (e:nx=(g.X c:Int)+2):SetI w b p mb S g g' v c ((g.X c:Int)-1) (ny+1) fv wr:=by
 obtain ⟨S',E',zs,h1,h2,h3,h4,h5,h6,h7⟩:=h
 refine ⟨S',E',zs,h1,h2.congr (fun z=>?_) (fun a b _ _ _=>?_) (fun _ _=>rfl),h3,h4,h5,by omega,h7⟩
 ·unfold G.PN;rw [G.Pd_row e]
 ·unfold G.PD;rw [G.Pd_row e,G.Pd_row e]
theorem SetI.turned {w wr w2 : World} {b p mb : Nat} {S S' : List Nat} {g g' : G} {v : Int} {c k : Nat} {nx ny : Int} {fv : Value} {zs : List Int} {S2 : List Nat} {E2 : Int → Option (List Ed)} (hn : g'.n = g.n)
    (h3:∀k∈S',k∈S∨w.heap.size≤k) (h4:Kept (p :: mb :: S) w wr) (h5:OwnI wr w.heap.size fv zs) (h6:(zs.length:Int)≤3*(ny-g.Y c+1)+(nx-g.X c+1)) (h7:∀q,fv.ownBlock=some q→q∉b :: p :: mb :: S')
    (hkn:k<g.n) (hx:(g.X k:Int)=nx) (hy:(g.Y k:Int)=ny) (hk:g.nigh c k)
    (t1:GraphOf w2 b p mb S2 g' v E2) (t2:GSp g' (TurnN g' (g.PN g' c nx ny) k) (TurnE g' (g.PN g' c nx ny) (g.PD g' c nx ny) k) E2) (t3:∀k∈S2,k∈S'∨wr.heap.size≤k) (t4:Kept (mb :: S') wr w2) :
    SetI w b p mb S g g' v c (nx+1) ny fv w2∧∃S' E' zs,GraphOf w2 b p mb S' g' v E'∧GSp g' (g.PN g' c (nx+1) ny) (g.PD g' c (nx+1) ny) E'∧(∀k∈S',k∈S∨w.heap.size≤k)∧Kept (p :: mb :: S) w w2∧OwnI w2 w.heap.size fv zs∧(zs.length:Int)+1≤3*(ny-g.Y c+1)+(nx+1-g.X c+1)∧∀q,fv.ownBlock=some q→q∉b :: p :: mb :: S':=by
 have g2:GSp g' (g.PN g' c (nx+1) ny) (g.PD g' c (nx+1) ny) E2:=t2.congr (fun z=>G.PN_cell hkn hx hy hk) (fun a b ha hb _=>G.PD_cell hkn hx hy hk ((G.PN_cell hkn hx hy hk).1 ha) ((G.PN_cell hkn hx hy hk).1 hb)) (fun _ _=>rfl)
 have o2:OwnI w2 w.heap.size fv zs:=by
  refine ⟨h5.1,?_⟩
  rcases h5.2 with hn | ⟨g0,cap,cur,rfl,hb,hgg,rest⟩
  ·exact .inl hn
  ·refine .inr ⟨g0,cap,cur,rfl,hb,?_,rest⟩
   rw [t4.block g0 (Array.getElem?_eq_some_iff.1 hgg).1 (fun hm=>?_)]
   ·exact hgg
   ·have:=h7 g0 rfl
    exact this (by rcases List.mem_cons.1 hm with e | e <;> simp [e])
 have n2:∀q,fv.ownBlock=some q→q∉b :: p :: mb :: S2:=fun q hq hm=>by
  have hlt:=(World.ownsRow.lt h5 q hq).2;have:=h7 q hq
  rcases List.mem_cons.1 hm with e | hm
  ·exact this (by rw [e];simp)
  rcases List.mem_cons.1 hm with e | hm
  ·exact this (by rw [e];simp)
  rcases List.mem_cons.1 hm with e | hm
  ·exact this (by rw [e];simp)
  rcases t3 q hm with e | e
  ·exact this (by simp [e])
  ·omega
 have s2:=more_more h4.size h3 t3;have k2:=kept_more' h4 t4 h3
 exact ⟨⟨S2,E2,zs,t1,g2,s2,k2,o2,by omega,n2⟩,S2,E2,zs,t1,g2,s2,k2,o2,by omega,n2⟩
def PairD (g g':G) (c:Nat) (nx ny:Int) (i j a b:Nat):Prop:=(Dn g' i j a b∧g'.Direct a b)∨(¬Dn g' i j a b∧g.PD g' c nx ny a b)
def PairI (w:World) (b p mb:Nat) (S:List Nat) (g g':G) (v:Int) (c:Nat) (nx ny:Int) (bl:List Nat) (i j:Nat) (wr:World):Prop:=
 ∃S' E',GraphOf wr b p mb S' g' v E'∧GSp g' g'.Corner (PairD g g' c nx ny i j) E'∧(∀k∈S',k∈S∨w.heap.size≤k)∧Kept (p :: mb :: S) w wr∧∀q∈bl,q∉b :: p :: mb :: S'
theorem pair_step {g g':G} {c:Nat} {nx ny:Int} {i j:Nat} (hij:i<j) (hj:j<(cornersI g').length) (a b:Nat):((PairD g g' c nx ny i j a b∧¬Pr (cf g' i) (cf g' j) a b)∨(Pr (cf g' i) (cf g' j) a b∧g'.Direct a b))↔PairD g g' c nx ny i (j+1) a b:=by
 have h:=dn_step hij hj a b;have hn:=dn_not hij hj;unfold PairD;rw [←h];unfold DoneP Pr
 by_cases e:(a=cf g' i∧b=cf g' j)∨(a=cf g' j∧b=cf g' i)
 ·simp [e]
 ·simp [e]
theorem pair_keep {g g':G} {c:Nat} {nx ny:Int} {i j:Nat} (hij:i<j) (hj:j<(cornersI g').length) (he:∀a b,Pr (cf g' i) (cf g' j) a b→(g.PD g' c nx ny a b↔g'.Direct a b)) (a b:Nat):PairD g g' c nx ny i j a b↔PairD g g' c nx ny i (j+1) a b:=by
 have h:=dn_step hij hj a b;have hn:=dn_not hij hj;unfold PairD;rw [←h];unfold DoneP
 by_cases e:(a=cf g' i∧b=cf g' j)∨(a=cf g' j∧b=cf g' i)
 ·have:=he a b e
  rw [this]
  by_cases q:Dn g' i j a b <;> simp [q,e]
 ·simp [e]
end Go.Proofs.YtokhnobcincfjaaGreatDoor
