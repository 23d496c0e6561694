/- Lemmas of this claim: Graph6, Del, Cut, GSp, GSet1, GSet2, SameE, GSet3, GSet4. -/
import Derived.Test.YtokhnobcincfjaaGreatDoorGraph5
import Derived.Lib.SliceRun
import Derived.Laws.CopyRow
import Derived.Deep.DeepCutAuto
import Derived.Test.YtokhnobcincfjaaGreatDoorKNFt2
import Derived.Test.YtokhnobcincfjaaGreatDoorKNFt15
set_option linter.unusedVariables false
set_option linter.unusedSimpArgs false
set_option maxRecDepth 100000
namespace Go.Proofs.YtokhnobcincfjaaGreatDoor
open Go.RowKit Go.Sort FR
def ClnD (w:World) (L:List Ed) (e:Ending) (w':World):Prop:=∃A m,e=.returned (.slice A L.length m)∧EdsAt w' A L∧(∀ad,A=some ad→w.heap.size≤ad.block)∧Below w.heap.size w w'
theorem edClone (w : World) (B : Nat) (v : Value) (L : List Ed) (h : OwnE w B v L) (hl : L.length ≤ 100000) :
    Calls Tryz.prog 98 #[v] w (ClnD w L):=by
 obtain ⟨i0,z0,hi,hz0,hz1,hz2,hz3⟩:=edge_parts
 have hq:∀(w:World) (a:Option Addr) (n c n' c':Nat),(binOp .eql 119 (.slice a n c) (.slice none n' c')).run Tryz.prog w=.ok (.bool a.isNone) w:=fun w a n c n' c'=>Lib.run_eql_slice_nil w _ _ a n c n' c' Tryz.underlying119
 rcases h.2 with ⟨rfl,h0⟩ | ⟨g,cap,cur,rfl,_,hg,_,_,_,htake⟩
 ·have:L=[]:=List.eq_nil_of_length_eq_zero h0
  subst this;go_enter Tryz.func98,Tryz.ntmps98;go_wp2;go_ret
  exact ⟨none,0,rfl,fun h=>by simp at h,(fun ad e=>by cases e),Below.refl _ _⟩
 ·have hsrc : ∀ j u, (edL L)[j]? = some u → w.cell? ((⟨g, 0, none⟩ : Addr).add j) = some u := fun j u hu => by
    rw [Addr.add_lit,Nat.zero_add];rw [←htake,List.getElem?_take] at hu
    split at hu
    ·rw [Array.getElem?_toList] at hu
     simp [World.cell?,hg,hu]
    ·cases hu
  have hgl:g<w.heap.size:=(Array.getElem?_eq_some_iff.1 hg).1;have hlen:=edL_length L;have hone:=edL_one L;obtain ⟨n,hn⟩:∃n,L.length=n:=⟨_,rfl⟩;obtain ⟨X,hX⟩:∃X,edL L=X:=⟨_,rfl⟩
  rw [hn] at hl hlen ⊢
  rw [hX] at hsrc hlen hone;have Hn:=Lib.hid (And.intro hn hX);clear hn hX htake hg h;go_enter Tryz.func98,Tryz.ntmps98
  go_wp2_with (at_builtin;(refine wpList_append_own _ rfl _ _ 119 rfl w.heap.size 182 i0 z0 4 32 Tryz.underlying119 hi hz0 hz1 hz2 hz3 (by decide) _ _ _ rfl (World.ownsRow_made w #[] 0 (Nat.le_refl _) (Nat.zero_le _) rfl) ⟨g,0,none⟩ n cap X rfl hlen (fun j u hj=>Lib.cell?_alloc_some _ (hsrc j u hj)) hone (by unfold maxLen;omega) (by omega) (by simp) ?_);intro v' w1 hown hgrow hnil)
  have hown2:OwnE w1 w.heap.size v' L:=by
   unfold OwnE;rw [Hn.out.1,Hn.out.2]
   simpa using hown
  obtain ⟨A,m,rfl,hEd⟩:=hown2.eds
  have hB1:Below w.heap.size w w1:=((Below.refl _ w).alloc (Nat.le_refl _) _).grown hgrow (by simp) (fun k hk=>(World.ownsRow.lt (World.ownsRow_made (e:=182) (size:=4) w #[] 0 (Nat.le_refl _) (Nat.zero_le _) rfl) k hk).1)
  have hfin:ClnD w L (.returned (.slice A L.length m)) w1:=⟨A,m,rfl,hEd,fun ad e=>(World.ownsRow.lt hown2 ad.block (by rw [e];rfl)).1,hB1⟩
  have hfin:=Lib.hid hfin;clear hown hgrow hnil hown2 hEd hB1;go_wp2;go_ret;exact hfin.out
def EdsD (w:World) (L:List Ed) (e:Ending) (w':World):Prop:=∃A m,e=.returned (.tuple #[.slice A L.length m,.nilIface])∧EdsAt w' A L∧(∀ad,A=some ad→w.heap.size≤ad.block)∧Below w.heap.size w w'
theorem graphEdges (w : World) (b p mb : Nat) (S : List Nat) (g : G) (v : Int) (E : Int → Option (List Ed)) (h : GraphOf w b p mb S g v E) (c : Int) (L : List Ed) (hc : E c = some L) (hl : L.length ≤ 100000) :
    Calls Tryz.prog 54 #[.pointer (some ⟨b,0,none⟩),.int .i64 c] w (EdsD w L):=by
 obtain ⟨g1,_,⟨V,N,q1,q2,q3,_,_,_,_⟩,_⟩:=h
 have kb1:w.cell? ⟨b,1,none⟩=some (.map (some mb)):=by simp [World.cell?,g1]
 obtain ⟨u,hu⟩:∃u,V c=some u:=by
  cases hV:V c with
  | none=>rw [(q2 c).2 hV] at hc;cases hc
  | some u=>exact ⟨u,rfl⟩
 have hO:=q3 c u L hu hc
 have hlk:(Instr.lookup 137 (.map (some mb)) (.int .i64 c) true).run Tryz.prog w=.ok (.tuple #[u,.bool true]) w:=by
  have:=(q1.look (int_fit Tryz.underlying3) Tryz.underlying137 (z:=.slice none 0 0) (by simp [Tryz.zeroValue119]) c).1
  rw [hu] at this;exact this
 have cC:=Lib.hid (edClone w 0 u L hO hl);clear g1 q1 q2 q3 hu hO hc;go_enter Tryz.func54,Tryz.ntmps54;go_wp2_with fail
 (with_reducible refine cC.out.mono ?_)
 rintro e w1 ⟨A,m,rfl,hEd,hAn,hb1⟩;have hfin:EdsD w L (.returned (.tuple #[.slice A L.length m,.nilIface])) w1:=⟨A,m,rfl,hEd,hAn,hb1⟩;have hfin:=Lib.hid hfin;clear hEd hb1 hlk cC;go_wp2;go_ret2;exact hfin.out
theorem EdsAt.kept {w w':World} {A:Option Addr} {L:List Ed} {T:List Nat} (h:EdsAt w A L) (hk:Kept T w w') (hT:∀ad,A=some ad→ad.block∉T):EdsAt w' A L:=fun hl=>by
 obtain ⟨g,h1,h2,h3⟩:=h hl
 refine ⟨g,h1,Nat.lt_of_lt_of_le h2 hk.size,fun j v hv=>?_⟩
 exact (World.cell?_of_block (a:=⟨g,j,none⟩) (hk.block g h2 (hT _ h1))).trans (h3 j v hv)
theorem GraphOf.kept {w w':World} {b p mb:Nat} {S T:List Nat} {g:G} {v:Int} {E:Int→Option (List Ed)} (h:GraphOf w b p mb S g v E) (hk:Kept T w w') (hT:∀k,k∈b :: p :: mb :: S→k∉T):GraphOf w' b p mb S g v E:=by
 obtain ⟨g1,g2,g3,g4⟩:=h
 exact ⟨(hk.block b (Array.getElem?_eq_some_iff.1 g1).1 (hT b (by simp))).trans g1,g2.kept hk (hT p (by simp)),g3.kept hk (fun s hs=>hT s (by simp [hs])) (hT mb (by simp)),g4⟩
def RowE (w:World) (g cap n:Nat) (M:List Ed):Prop:=∃cur,w.heap[g]? = some (.cells cur 182 (0,0))∧cur.size=cap*4∧n≤cap∧cap≤maxLen∧M.length=n∧cur.toList.take (n*4)=edL M
theorem RowE.lt {w:World} {g cap n:Nat} {M:List Ed} (h:RowE w g cap n M):g<w.heap.size:=by
 obtain ⟨cur,h1,_⟩:=h;exact (Array.getElem?_eq_some_iff.1 h1).1
theorem RowE.below {w w':World} {g cap n:Nat} {M:List Ed} (h:RowE w g cap n M) (hb:Below w.heap.size w w'):RowE w' g cap n M:=by
 have hl:=h.lt;obtain ⟨cur,h1,h2⟩:=h;exact ⟨cur,(hb.block g hl).trans h1,h2⟩
theorem RowE.get {w:World} {g cap n:Nat} {M:List Ed} (h:RowE w g cap n M) {j:Nat} {e:Ed} (he:M[j]? = some e):w.cell? ⟨g,j*4,none⟩=some (.int .i64 e.to_)∧w.cell? ⟨g,j*4+1,none⟩=some (.int .i64 e.c.s)∧w.cell? ⟨g,j*4+2,none⟩=some (.int .i64 e.c.d)∧w.cell? ⟨g,j*4+3,none⟩=some (.int .i64 e.mid):=by
 obtain ⟨cur,h1,h2,h3,h4,h5,h6⟩:=h
 have key:∀k v,(edL M)[k]? = some v→w.cell? ⟨g,k,none⟩=some v:=fun k v hv=>by
  rw [←h6,List.getElem?_take] at hv
  split at hv
  ·rw [Array.getElem?_toList] at hv;simp [World.cell?,h1,hv]
  ·cases hv
 obtain ⟨a,b,c,d⟩:=edL_get M j e he;exact ⟨key _ _ a,key _ _ b,key _ _ c,key _ _ d⟩
theorem edL_set:∀(M:List Ed) (i:Nat) (e:Ed),i<M.length→edL (M.set i e)=((((edL M).set (i*4) (.int .i64 e.to_)).set (i*4+1) (.int .i64 e.c.s)).set (i*4+2) (.int .i64 e.c.d)).set (i*4+3) (.int .i64 e.mid)
 | [],i,e,h=>by simp at h
 | x :: M,0,e,h=>by
  rw [List.set_cons_zero,edL_cons,edL_cons];simp [Ed.cells]
 | x :: M,i+1,e,h=>by
  rw [List.set_cons_succ,edL_cons,edL_cons,edL_set M i e (by simpa using h)]
  have l4:x.cells.length=4:=rfl
  have key:∀(a b:List Value) (k:Nat) (v:Value),a.length=4→(a ++ b).set (4+k) v=a ++ b.set k v:=fun a b k v ha=>by
   rw [List.set_append_right _ _ (by omega),ha,show 4+k-4=k by omega]
  rw [show (i+1)*4+1=4+(i*4+1) by omega,show (i+1)*4+2=4+(i*4+2) by omega,show (i+1)*4+3=4+(i*4+3) by omega,show (i+1)*4=4+i*4 by omega]
  rw [key _ _ _ _ l4,key _ _ _ _ l4,key _ _ _ _ l4,key _ _ _ _ l4]
theorem RowE.set {w : World} {g cap n : Nat} {M : List Ed} (h : RowE w g cap n M) {i : Nat} (hi : i < n) (e : Ed) :
    RowE ((((w.setCell ⟨g,i*4,none⟩ (.int .i64 e.to_)).setCell ⟨g,i*4+1,none⟩ (.int .i64 e.c.s)).setCell ⟨g,i*4+2,none⟩ (.int .i64 e.c.d)).setCell ⟨g,i*4+3,none⟩ (.int .i64 e.mid)) g cap n (M.set i e):=by
 obtain ⟨cur,h1,h2,h3,h4,h5,h6⟩:=h
 refine ⟨_,set_heap1 _ _ _ _ _ _ (set_heap1 _ _ _ _ _ _ (set_heap1 _ _ _ _ _ _ (set_heap1 _ _ _ _ _ _ h1))),by simp [h2],h3,h4,by simp [h5],?_⟩
 rw [edL_set M i e (by omega),←h6]
 simp only [Array.toList_setIfInBounds,List.take_set]
theorem srt_pair {L:List Ed}:Srt L↔L.Pairwise (fun a b=>a.to_<b.to_):=by
 rw [List.pairwise_iff_getElem]
 constructor
 ·intro h i j hi hj hij;exact h i j _ _ hij (List.getElem?_eq_getElem hi) (List.getElem?_eq_getElem hj)
 ·intro h i j a b hij ha hb
  obtain ⟨hi,rfl⟩:=List.getElem?_eq_some_iff.1 ha;obtain ⟨hj,rfl⟩:=List.getElem?_eq_some_iff.1 hb;exact h i j hi hj hij
theorem EMap.lts {w:World} {S:List Nat} {mb:Nat} {E:Int→Option (List Ed)} (h:EMap w S mb E):∀s∈S,s<w.heap.size:=by
 obtain ⟨_,_,_,_,_,_,_,_,h7⟩:=h;exact h7
theorem srt_ext:∀ {L M:List Ed},L.Pairwise (fun a b=>a.to_<b.to_)→M.Pairwise (fun a b=>a.to_<b.to_)→(∀z,z∈L↔z∈M)→L=M
 | [],[],_,_,_=>rfl
 | [],y :: M,_,_,h=>by have:=(h y).2 (by simp);simp at this
 | x :: L,[],_,_,h=>by have:=(h x).1 (by simp);simp at this
 | x :: L,y :: M,hL,hM,h=>by
  rw [List.pairwise_cons] at hL hM
  have hxy:x=y:=by
   have a:=(h x).1 (by simp)
   have b:=(h y).2 (by simp)
   rcases List.mem_cons.1 a with a | a
   ·exact a
   ·rcases List.mem_cons.1 b with b | b
    ·exact b.symm
    ·have:=hM.1 x a;have:=hL.1 y b;omega
  subst hxy
  rw [srt_ext hL.2 hM.2 (fun z=>?_)]
  constructor
  ·intro hz
   have:=(h z).1 (List.mem_cons_of_mem _ hz)
   rcases List.mem_cons.1 this with e | e
   ·subst e;have:=hL.1 z hz;omega
   ·exact e
  ·intro hz
   have:=(h z).2 (List.mem_cons_of_mem _ hz)
   rcases List.mem_cons.1 this with e | e
   ·subst e;have:=hM.1 z hz;omega
   ·exact e
theorem srt_pw {L:List Ed} (h:Srt L):L.Pairwise (fun a b=>a.to_<b.to_):=by
 rw [List.pairwise_iff_getElem];intro i j hi hj hij;exact h i j _ _ hij (List.getElem?_eq_getElem hi) (List.getElem?_eq_getElem hj)
end Go.Proofs.YtokhnobcincfjaaGreatDoor
