/- Lemmas of this claim: Graph6, Del, Cut, GSp, GSet1, GSet2, SameE, GSet3, GSet4. -/
import Derived.Test.YtokhnobcincfjaaGreatDoorGraph5
import Derived.Lib.SliceRun
import Derived.Laws.CopyRow
import Derived.Deep.DeepCutAuto
import Derived.Test.YtokhnobcincfjaaGreatDoorKNFr2
import Derived.Test.YtokhnobcincfjaaGreatDoorKNFr3
import Derived.Test.YtokhnobcincfjaaGreatDoorKNFr16
set_option linter.unusedVariables false
set_option linter.unusedSimpArgs false
set_option maxRecDepth 100000
namespace Go.Proofs.YtokhnobcincfjaaGreatDoor
open Go.RowKit Go.Sort FR
def ClnD (w:World) (L:List Ed) (e:Ending) (w':World):Prop:=∃A m,e=.returned (.slice A L.length m)∧EdsAt w' A L∧(∀ad,A=some ad→w.heap.size≤ad.block)∧Below w.heap.size w w'
theorem edClone (w : World) (B : Nat) (v : Value) (L : List Ed) (h : OwnE w B v L) (hl : L.length ≤ 100000) :
    Calls Tryz.prog 98 #[v] w (ClnD w L):=by
 obtain ⟨i0,z0,hi,hz0,hz1,hz2,hz3⟩:=edge_parts
 have hq:∀(w:World) (a:Option Addr) (n c n' c':Nat),(binOp .eql 119 (.slice a n c) (.slice none n' c')).run Tryz.prog w=.ok (.bool a.isNone) w:=fun w a n c n' c'=>Lib.run_eql_slice_nil w _ _ a n c n' c' Tryz.underlying119
 rcases h.2 with ⟨rfl,h0⟩ | ⟨g,cap,cur,rfl,_,hg,_,_,_,htake⟩
 ·have:L=[]:=List.eq_nil_of_length_eq_zero h0
  subst this;go_enter Tryz.func98,Tryz.ntmps98;go_wp2;go_ret
  exact ⟨none,0,rfl,fun h=>by simp at h,(fun ad e=>by cases e),Below.refl _ _⟩
 ·have hsrc : ∀ j u, (edL L)[j]? = some u → w.cell? ((⟨g, 0, none⟩ : Addr).add j) = some u := fun j u hu => by
    rw [Addr.add_lit,Nat.zero_add];rw [←htake,List.getElem?_take] at hu
    split at hu
    ·rw [Array.getElem?_toList] at hu
     simp [World.cell?,hg,hu]
    ·cases hu
  have hgl:g<w.heap.size:=(Array.getElem?_eq_some_iff.1 hg).1;have hlen:=edL_length L;have hone:=edL_one L;obtain ⟨n,hn⟩:∃n,L.length=n:=⟨_,rfl⟩;obtain ⟨X,hX⟩:∃X,edL L=X:=⟨_,rfl⟩
  rw [hn] at hl hlen ⊢
  rw [hX] at hsrc hlen hone;have Hn:=Lib.hid (And.intro hn hX);clear hn hX htake hg h;go_enter Tryz.func98,Tryz.ntmps98
  go_wp2_with (at_builtin;(refine wpList_append_own _ rfl _ _ 119 rfl w.heap.size 182 i0 z0 4 32 Tryz.underlying119 hi hz0 hz1 hz2 hz3 (by decide) _ _ _ rfl (World.ownsRow_made w #[] 0 (Nat.le_refl _) (Nat.zero_le _) rfl) ⟨g,0,none⟩ n cap X rfl hlen (fun j u hj=>Lib.cell?_alloc_some _ (hsrc j u hj)) hone (by unfold maxLen;omega) (by omega) (by simp) ?_);intro v' w1 hown hgrow hnil)
  have hown2:OwnE w1 w.heap.size v' L:=by
   unfold OwnE;rw [Hn.out.1,Hn.out.2]
   simpa using hown
  obtain ⟨A,m,rfl,hEd⟩:=hown2.eds
  have hB1:Below w.heap.size w w1:=((Below.refl _ w).alloc (Nat.le_refl _) _).grown hgrow (by simp) (fun k hk=>(World.ownsRow.lt (World.ownsRow_made (e:=182) (size:=4) w #[] 0 (Nat.le_refl _) (Nat.zero_le _) rfl) k hk).1)
  have hfin:ClnD w L (.returned (.slice A L.length m)) w1:=⟨A,m,rfl,hEd,fun ad e=>(World.ownsRow.lt hown2 ad.block (by rw [e];rfl)).1,hB1⟩
  have hfin:=Lib.hid hfin;clear hown hgrow hnil hown2 hEd hB1;go_wp2;go_ret;exact hfin.out
def EdsD (w:World) (L:List Ed) (e:Ending) (w':World):Prop:=∃A m,e=.returned (.tuple #[.slice A L.length m,.nilIface])∧EdsAt w' A L∧(∀ad,A=some ad→w.heap.size≤ad.block)∧Below w.heap.size w w'
theorem graphEdges (w : World) (b p mb : Nat) (S : List Nat) (g : G) (v : Int) (E : Int → Option (List Ed)) (h : GraphOf w b p mb S g v E) (c : Int) (L : List Ed) (hc : E c = some L) (hl : L.length ≤ 100000) :
    Calls Tryz.prog 54 #[.pointer (some ⟨b,0,none⟩),.int .i64 c] w (EdsD w L):=by
 obtain ⟨g1,_,⟨V,N,q1,q2,q3,_,_,_,_⟩,_⟩:=h
 have kb1:w.cell? ⟨b,1,none⟩=some (.map (some mb)):=by simp [World.cell?,g1]
 obtain ⟨u,hu⟩:∃u,V c=some u:=by
  cases hV:V c with
  | none=>rw [(q2 c).2 hV] at hc;cases hc
  | some u=>exact ⟨u,rfl⟩
 have hO:=q3 c u L hu hc
 have hlk:(Instr.lookup 137 (.map (some mb)) (.int .i64 c) true).run Tryz.prog w=.ok (.tuple #[u,.bool true]) w:=by
  have:=(q1.look (int_fit Tryz.underlying3) Tryz.underlying137 (z:=.slice none 0 0) (by simp [Tryz.zeroValue119]) c).1
  rw [hu] at this;exact this
 have cC:=Lib.hid (edClone w 0 u L hO hl);clear g1 q1 q2 q3 hu hO hc;go_enter Tryz.func54,Tryz.ntmps54;go_wp2_with fail
 (with_reducible refine cC.out.mono ?_)
 rintro e w1 ⟨A,m,rfl,hEd,hAn,hb1⟩;have hfin:EdsD w L (.returned (.tuple #[.slice A L.length m,.nilIface])) w1:=⟨A,m,rfl,hEd,hAn,hb1⟩;have hfin:=Lib.hid hfin;clear hEd hb1 hlk cC;go_wp2;go_ret2;exact hfin.out
theorem EdsAt.kept {w w':World} {A:Option Addr} {L:List Ed} {T:List Nat} (h:EdsAt w A L) (hk:Kept T w w') (hT:∀ad,A=some ad→ad.block∉T):EdsAt w' A L:=fun hl=>by
 obtain ⟨g,h1,h2,h3⟩:=h hl
 refine ⟨g,h1,Nat.lt_of_lt_of_le h2 hk.size,fun j v hv=>?_⟩
 exact (World.cell?_of_block (a:=⟨g,j,none⟩) (hk.block g h2 (hT _ h1))).trans (h3 j v hv)
theorem GraphOf.kept {w w':World} {b p mb:Nat} {S T:List Nat} {g:G} {v:Int} {E:Int→Option (List Ed)} (h:GraphOf w b p mb S g v E) (hk:Kept T w w') (hT:∀k,k∈b :: p :: mb :: S→k∉T):GraphOf w' b p mb S g v E:=by
 obtain ⟨g1,g2,g3,g4⟩:=h
 exact ⟨(hk.block b (Array.getElem?_eq_some_iff.1 g1).1 (hT b (by simp))).trans g1,g2.kept hk (hT p (by simp)),g3.kept hk (fun s hs=>hT s (by simp [hs])) (hT mb (by simp)),g4⟩
def delE (L:List Ed) (t:Int):List Ed:=L.filter fun e=>!(e.to_ == t)
def DelD (w:World) (v:Value) (L:List Ed) (e:Ending) (w':World):Prop:=∃v',e=.returned v'∧OwnE w' 0 v' L∧Kept v.ownBlock.toList w w'∧v'.ownBlock=v.ownBlock
def RowE (w:World) (g cap n:Nat) (M:List Ed):Prop:=∃cur,w.heap[g]? = some (.cells cur 182 (0,0))∧cur.size=cap*4∧n≤cap∧cap≤maxLen∧M.length=n∧cur.toList.take (n*4)=edL M
theorem RowE.lt {w:World} {g cap n:Nat} {M:List Ed} (h:RowE w g cap n M):g<w.heap.size:=by
 obtain ⟨cur,h1,_⟩:=h;exact (Array.getElem?_eq_some_iff.1 h1).1
theorem RowE.below {w w':World} {g cap n:Nat} {M:List Ed} (h:RowE w g cap n M) (hb:Below w.heap.size w w'):RowE w' g cap n M:=by
 have hl:=h.lt;obtain ⟨cur,h1,h2⟩:=h;exact ⟨cur,(hb.block g hl).trans h1,h2⟩
theorem RowE.get {w:World} {g cap n:Nat} {M:List Ed} (h:RowE w g cap n M) {j:Nat} {e:Ed} (he:M[j]? = some e):w.cell? ⟨g,j*4,none⟩=some (.int .i64 e.to_)∧w.cell? ⟨g,j*4+1,none⟩=some (.int .i64 e.c.s)∧w.cell? ⟨g,j*4+2,none⟩=some (.int .i64 e.c.d)∧w.cell? ⟨g,j*4+3,none⟩=some (.int .i64 e.mid):=by
 obtain ⟨cur,h1,h2,h3,h4,h5,h6⟩:=h
 have key:∀k v,(edL M)[k]? = some v→w.cell? ⟨g,k,none⟩=some v:=fun k v hv=>by
  rw [←h6,List.getElem?_take] at hv
  split at hv
  ·rw [Array.getElem?_toList] at hv;simp [World.cell?,h1,hv]
  ·cases hv
 obtain ⟨a,b,c,d⟩:=edL_get M j e he;exact ⟨key _ _ a,key _ _ b,key _ _ c,key _ _ d⟩
theorem edL_set:∀(M:List Ed) (i:Nat) (e:Ed),i<M.length→edL (M.set i e)=((((edL M).set (i*4) (.int .i64 e.to_)).set (i*4+1) (.int .i64 e.c.s)).set (i*4+2) (.int .i64 e.c.d)).set (i*4+3) (.int .i64 e.mid)
 | [],i,e,h=>by simp at h
 | x :: M,0,e,h=>by
  rw [List.set_cons_zero,edL_cons,edL_cons];simp [Ed.cells]
 | x :: M,i+1,e,h=>by
  rw [List.set_cons_succ,edL_cons,edL_cons,edL_set M i e (by simpa using h)]
  have l4:x.cells.length=4:=rfl
  have key:∀(a b:List Value) (k:Nat) (v:Value),a.length=4→(a ++ b).set (4+k) v=a ++ b.set k v:=fun a b k v ha=>by
   rw [List.set_append_right _ _ (by omega),ha,show 4+k-4=k by omega]
  rw [show (i+1)*4+1=4+(i*4+1) by omega,show (i+1)*4+2=4+(i*4+2) by omega,show (i+1)*4+3=4+(i*4+3) by omega,show (i+1)*4=4+i*4 by omega]
  rw [key _ _ _ _ l4,key _ _ _ _ l4,key _ _ _ _ l4,key _ _ _ _ l4]
theorem RowE.set {w : World} {g cap n : Nat} {M : List Ed} (h : RowE w g cap n M) {i : Nat} (hi : i < n) (e : Ed) :
    RowE ((((w.setCell ⟨g,i*4,none⟩ (.int .i64 e.to_)).setCell ⟨g,i*4+1,none⟩ (.int .i64 e.c.s)).setCell ⟨g,i*4+2,none⟩ (.int .i64 e.c.d)).setCell ⟨g,i*4+3,none⟩ (.int .i64 e.mid)) g cap n (M.set i e):=by
 obtain ⟨cur,h1,h2,h3,h4,h5,h6⟩:=h
 refine ⟨_,set_heap1 _ _ _ _ _ _ (set_heap1 _ _ _ _ _ _ (set_heap1 _ _ _ _ _ _ (set_heap1 _ _ _ _ _ _ h1))),by simp [h2],h3,h4,by simp [h5],?_⟩
 rw [edL_set M i e (by omega),←h6]
 simp only [Array.toList_setIfInBounds,List.take_set]
def DelI (w w1:World) (g cap n:Nat) (L:List Ed) (t:Int) (i j:Nat) (wr:World):Prop:=
 ∃M,RowE wr g cap n M∧M.take i=delE (L.take j) t∧M.drop j=L.drop j∧Kept [g] w wr∧Kept [g] w1 wr
theorem DelI.start {w w1:World} {g cap n:Nat} {L:List Ed} {t:Int} {k:Nat} {e:Ed} (h:RowE w g cap n L) (hb:Below w.heap.size w w1) (he:L[k]? = some e) (het:e.to_=t) (hno:∀j e',L[j]? = some e'→j<k→e'.to_≠t):DelI w w1 g cap n L t k (k+1) w1:=by
 refine ⟨L,h.below hb,?_,rfl,Kept.of_below hb,Kept.refl _ _⟩;unfold delE;have hk:=(List.getElem?_eq_some_iff.1 he).1;rw [List.take_add_one,he,List.filter_append]
 have e1:(L.take k).filter (fun e=>!(e.to_ == t))=L.take k:=by
  rw [List.filter_eq_self];intro x hx;obtain ⟨j,hj⟩:=List.getElem?_of_mem hx;rw [List.getElem?_take] at hj
  split at hj
  ·have:=hno j x hj (by assumption)
   simpa using this
  ·cases hj
 rw [e1];simp [het]
theorem DelI.below {w w1 wr w':World} {g cap n:Nat} {L:List Ed} {t:Int} {i j:Nat} (h:DelI w w1 g cap n L t i j wr) (hb:Below wr.heap.size wr w'):DelI w w1 g cap n L t i j w':=by
 obtain ⟨M,h1,h2,h3,h4,h5⟩:=h;exact ⟨M,h1.below hb,h2,h3,h4.trans (Kept.of_below hb),h5.trans (Kept.of_below hb)⟩
theorem DelI.lt {w w1 wr:World} {g cap n:Nat} {L:List Ed} {t:Int} {i j:Nat} (h:DelI w w1 g cap n L t i j wr):g<wr.heap.size:=by
 obtain ⟨M,h1,_⟩:=h;exact h1.lt
theorem drop_get {M L:List Ed} {j:Nat} {e:Ed} (h:M.drop j=L.drop j) (he:L[j]? = some e):M[j]? = some e:=by
 have:=congrArg (fun l:List Ed=>l[0]?) h
 simp only [List.getElem?_drop,Nat.add_zero] at this;rw [this];exact he
theorem DelI.get {w w1 wr:World} {g cap n:Nat} {L:List Ed} {t:Int} {i j:Nat} (h:DelI w w1 g cap n L t i j wr) {e:Ed} (he:L[j]? = some e):wr.cell? ⟨g,j*4,none⟩=some (.int .i64 e.to_)∧wr.cell? ⟨g,j*4+1,none⟩=some (.int .i64 e.c.s)∧wr.cell? ⟨g,j*4+2,none⟩=some (.int .i64 e.c.d)∧wr.cell? ⟨g,j*4+3,none⟩=some (.int .i64 e.mid):=by
 obtain ⟨M,h1,h2,h3,_⟩:=h;exact h1.get (drop_get h3 he)
theorem DelI.there {w w1 wr:World} {g cap n:Nat} {L:List Ed} {t:Int} {i j:Nat} (h:DelI w w1 g cap n L t i j wr) (hi:i<n):∃u1 u2 u3 u4:Value,wr.cell? ⟨g,i*4,none⟩=some u1∧wr.cell? ⟨g,i*4+1,none⟩=some u2∧wr.cell? ⟨g,i*4+2,none⟩=some u3∧wr.cell? ⟨g,i*4+3,none⟩=some u4:=by
 obtain ⟨M,h1,_⟩:=h
 have hl:i<M.length:=by obtain ⟨_,_,_,_,_,q,_⟩:=h1;omega
 obtain ⟨a,b,c,d⟩:=h1.get (List.getElem?_eq_getElem hl);exact ⟨_,_,_,_,a,b,c,d⟩
theorem DelI.free {w w1 wr:World} {g cap n:Nat} {L:List Ed} {t:Int} {i j:Nat} (h:DelI w w1 g cap n L t i j wr):wr.frozen? ⟨g,i*4,none⟩=false∧wr.frozen? ⟨g,i*4+1,none⟩=false∧wr.frozen? ⟨g,i*4+2,none⟩=false∧wr.frozen? ⟨g,i*4+3,none⟩=false:=by
 obtain ⟨M,⟨cur,h1,_⟩,_⟩:=h;simp [World.frozen?,h1]
theorem DelI.cell {w w1 wr:World} {g cap n:Nat} {L:List Ed} {t:Int} {i j bt:Nat} {v:Value} (h:DelI w w1 g cap n L t i j wr) (hb:bt<w1.heap.size) (hne:bt≠g) (hc:w1.cell? ⟨bt,0,none⟩=some v):wr.cell? ⟨bt,0,none⟩=some v:=by
 obtain ⟨M,_,_,_,_,h5⟩:=h
 exact keptc h5 (by simpa using hne) hc
theorem DelI.skip {w w1 wr:World} {g cap n:Nat} {L:List Ed} {t:Int} {i j:Nat} {e:Ed} (h:DelI w w1 g cap n L t i j wr) (he:L[j]? = some e) (het:e.to_=t):DelI w w1 g cap n L t i (j+1) wr:=by
 obtain ⟨M,h1,h2,h3,h4,h5⟩:=h;refine ⟨M,h1,?_,?_,h4,h5⟩
 ·rw [h2]
  unfold delE;rw [List.take_add_one,he,List.filter_append];simp [het]
 ·have:=congrArg (List.drop 1) h3
  simpa [List.drop_drop] using this
theorem DelI.keep {w w1 wr : World} {g cap n : Nat} {L : List Ed} {t : Int} {i j : Nat} {e : Ed} (h : DelI w w1 g cap n L t i j wr) (he : L[j]? = some e) (het : e.to_ ≠ t) (hij : i < j) :
    DelI w w1 g cap n L t (i+1) (j+1) ((((wr.setCell ⟨g,i*4,none⟩ (.int .i64 e.to_)).setCell ⟨g,i*4+1,none⟩ (.int .i64 e.c.s)).setCell ⟨g,i*4+2,none⟩ (.int .i64 e.c.d)).setCell ⟨g,i*4+3,none⟩ (.int .i64 e.mid)):=by
 obtain ⟨M,h1,h2,h3,h4,h5⟩:=h
 have hml:M.length=n:=by obtain ⟨_,_,_,_,_,q,_⟩:=h1;exact q
 have hjm:=(List.getElem?_eq_some_iff.1 (drop_get h3 he)).1
 have hK:Kept [g] wr ((((wr.setCell ⟨g,i*4,none⟩ (.int .i64 e.to_)).setCell ⟨g,i*4+1,none⟩ (.int .i64 e.c.s)).setCell ⟨g,i*4+2,none⟩ (.int .i64 e.c.d)).setCell ⟨g,i*4+3,none⟩ (.int .i64 e.mid)):=((((Kept.refl _ _).setCell (.inl (by simp))).setCell (.inl (by simp))).setCell (.inl (by simp))).setCell (.inl (by simp))
 refine ⟨M.set i e,h1.set (by omega) e,?_,?_,h4.trans hK,h5.trans hK⟩
 ·unfold delE at h2 ⊢
  rw [List.take_add_one (l:=L),he,List.filter_append,←h2]
  rw [List.take_add_one,List.getElem?_set_self (by omega)]
  simp [List.take_set,het]
  exact List.set_eq_of_length_le (by simp;omega)
 ·rw [List.drop_set_of_lt (by omega)]
  have:=congrArg (List.drop 1) h3
  simpa [List.drop_drop] using this
theorem edge_zero:∀w,(zeroValue 182).run Tryz.prog w=.ok (.agg #[.int .i64 0,.int .i64 0,.int .i64 0,.int .i64 0]) w:=by
 intro w;simp [Tryz.zeroValue182]
theorem DelI.clear {w w1 wr : World} {g cap n : Nat} {L : List Ed} {t : Int} {i : Nat} (h : DelI w w1 g cap n L t i n wr) (hn : L.length = n) (hi : i < n) :
    ∃w3,(∀ty,(Builtin.clear_ #[119] ty #[.slice (some ⟨g,i*4,none⟩) (n-i) (cap-i)]).run Tryz.prog wr=.ok (.tuple #[]) w3)∧DelD w (.slice (some ⟨g,0,none⟩) n cap) (delE L t) (.returned (.slice (some ⟨g,0,none⟩) i cap)) w3:=by
 obtain ⟨M,⟨cur,h1,c2,c3,c4,c5,c6⟩,h2,_,h4,_⟩:=h
 rw [show L.take n=L by rw [←hn,List.take_length]] at h2
 obtain ⟨zs,hzs⟩:∃zs,(Builtin.zeroCells (Value.agg #[.int .i64 0,.int .i64 0,.int .i64 0,.int .i64 0]).cells (n-i)).toList=zs:=⟨_,rfl⟩
 have zl:zs.length=(n-i)*4:=by
  rw [←hzs];simp [Builtin.zeroCells,Value.cells]
 have z1:∀v∈zs,v.oneCell'=true:=by
  intro v hv;rw [←hzs] at hv;simp [Builtin.zeroCells,Value.cells] at hv;obtain ⟨k,_,rfl⟩:=hv
  have:k % 4=0∨k % 4=1∨k % 4=2∨k % 4=3:=by omega
  rcases this with e | e | e | e <;> rw [e] <;> rfl
 have hst:=run_storeCells_at Tryz.prog g (i*4) 182 zs 0 cur wr h1 (by omega) z1
 simp only [Nat.add_zero] at hst
 refine ⟨wr.setRow g (cur.toList.take (i*4) ++ zs ++ cur.toList.drop (i*4+zs.length)).toArray,fun ty=>?_,_,rfl,?_,?_,rfl⟩
 rotate_left
 ·have hdl:(delE L t).length=i:=by rw [←h2,List.length_take];omega
  refine ⟨by rw [edL_length],.inr ⟨g,cap,_,by rw [hdl],Nat.zero_le _,setRow_heap wr g cur _ _ _ h1,by omega,c4,?_,?_⟩⟩
  ·simp [zl];omega
  ·rw [hdl]
   rw [List.append_assoc,List.take_append_of_le_length (by simp;omega),List.take_take,Nat.min_self,←h2,←edL_take,←c6,List.take_take,Nat.min_eq_left (by omega)]
 ·refine ⟨h4.os,h4.tape,h4.output,by simpa [World.setRow] using h4.size,fun k hk hne=>?_⟩
  have hne':k≠g:=by simpa [Value.ownBlock] using hne
  exact (setRow_other wr g k _ hne').trans (h4.block k hk (by simpa using hne'))
 ·obtain ⟨m,hm⟩:∃m,n-i=m+1:=⟨n-i-1,by omega⟩
  rw [hm] at hzs ⊢
  simp only [Value.cells] at hzs;simp [Builtin.clear_,run_underlying Tryz.underlying119,edge_zero,Value.cells,hzs,hst,Result.andThen]
def GSp (g:G) (N:Nat→Prop) (D:Nat→Nat→Prop) (E:Int→Option (List Ed)):Prop:=
 (∀z:Int,E z≠none↔∃c:Nat,z=c∧N c)∧∀(c:Nat) (L:List Ed),E c=some L→Srt L∧∀e,e∈L↔∃y:Nat,N y∧y≠c∧D c y∧e=⟨y,g.oct c y,-1⟩
theorem GSp.node {g:G} {N:Nat→Prop} {D:Nat→Nat→Prop} {E:Int→Option (List Ed)} (h:GSp g N D E) {c:Nat} {L:List Ed} (hc:E c=some L):N c:=by
 obtain ⟨c',e,hn⟩:=(h.1 c).1 (by rw [hc];simp)
 obtain rfl:c=c':=by omega
 exact hn
theorem GSp.congr {g g':G} {N N':Nat→Prop} {D D':Nat→Nat→Prop} {E:Int→Option (List Ed)} (h:GSp g N D E) (hN:∀c,N c↔N' c) (hD:∀a b,N a→N b→a≠b→(D a b↔D' a b)) (ho:∀a b,g'.oct a b=g.oct a b):GSp g' N' D' E:=by
 refine ⟨fun z=>?_,fun c L hc=>⟨(h.2 c L hc).1,fun e=>?_⟩⟩
 ·rw [h.1 z]
  exact exists_congr fun c=>and_congr_right fun _=>hN c
 ·have hn:=h.node hc
  rw [(h.2 c L hc).2 e]
  constructor
  ·rintro ⟨y,h1,h2,h3,h4⟩;exact ⟨y,(hN y).1 h1,h2,(hD c y hn h1 (Ne.symm h2)).1 h3,by rw [ho];exact h4⟩
  ·rintro ⟨y,h1,h2,h3,h4⟩;exact ⟨y,(hN y).2 h1,h2,(hD c y hn ((hN y).2 h1) (Ne.symm h2)).2 h3,by rw [←ho];exact h4⟩
theorem GSp.facts {g:G} {N:Nat→Prop} {D:Nat→Nat→Prop} {E:Int→Option (List Ed)} {M:Nat} (h:GSp g N D E) (hM:M≤256) (hN:∀c,N c→c<M) {c:Nat} (hc:N c):∃L,E c=some L∧Srt L∧(∀e∈L,inC e.to_)∧L.length≤1000∧∀e,e∈L↔∃y:Nat,N y∧y≠c∧D c y∧e=⟨y,g.oct c y,-1⟩:=by
 have h1:=(h.1 c).2 ⟨c,rfl,hc⟩
 cases hE:E c with
 | none=>exact absurd hE h1
 | some L=>
  obtain ⟨a,b⟩:=h.2 c L hE
  have hb:∀e∈L,0≤e.to_∧e.to_<M:=fun e he=>by
   obtain ⟨y,hy,_,_,rfl⟩:=(b e).1 he;have:=hN y hy;simp only;omega
  refine ⟨L,rfl,a,fun e he=>?_,?_,b⟩
  ·have:=hb e he
   unfold inC;omega
  ·have:=srt_long a M hb
   omega
theorem srt_pair {L:List Ed}:Srt L↔L.Pairwise (fun a b=>a.to_<b.to_):=by
 rw [List.pairwise_iff_getElem]
 constructor
 ·intro h i j hi hj hij;exact h i j _ _ hij (List.getElem?_eq_getElem hi) (List.getElem?_eq_getElem hj)
 ·intro h i j a b hij ha hb
  obtain ⟨hi,rfl⟩:=List.getElem?_eq_some_iff.1 ha;obtain ⟨hj,rfl⟩:=List.getElem?_eq_some_iff.1 hb;exact h i j hi hj hij
theorem srt_del {L:List Ed} (h:Srt L) (t:Int):Srt (delE L t):=by
 rw [srt_pair] at *;exact h.filter _
theorem mem_del {L:List Ed} {t:Int} {e:Ed}:e∈delE L t↔e∈L∧e.to_≠t:=by
 unfold delE;simp
def Pr (a b x y:Nat):Prop:=(x=a∧y=b)∨(x=b∧y=a)
theorem GSp.cut {g : G} {N : Nat → Prop} {D : Nat → Nat → Prop} {E : Int → Option (List Ed)} (h : GSp g N D E) {a b : Nat} (ha : N a) (hb : N b) (hab : a ≠ b) {La Lb : List Ed} (hLa : E a = some La) (hLb : E b = some Lb) :
    GSp g N (fun x y=>D x y∧¬Pr a b x y) (updE (updE E a (some (delE La b))) b (some (delE Lb a))):=by
 obtain ⟨sa,ma⟩:=h.2 a La hLa;obtain ⟨sb,mb⟩:=h.2 b Lb hLb
 refine ⟨fun z=>?_,fun c L hc=>?_⟩
 ·unfold updE
  by_cases e1:z=(b:Int)
  ·rw [if_pos e1];exact ⟨fun _=>⟨b,e1,hb⟩,fun _=>by simp⟩
  ·rw [if_neg e1]
   by_cases e2:z=(a:Int)
   ·rw [if_pos e2];exact ⟨fun _=>⟨a,e2,ha⟩,fun _=>by simp⟩
   ·rw [if_neg e2];exact h.1 z
 ·unfold updE at hc
  by_cases e1:(c:Int)=(b:Int)
  ·rw [if_pos e1] at hc
   injection hc with hc
   obtain rfl:c=b:=by omega
   subst hc
   refine ⟨srt_del sb _,fun e=>?_⟩
   rw [mem_del,mb e]
   constructor
   ·rintro ⟨⟨y,q1,q2,q3,rfl⟩,q4⟩
    simp only at q4;refine ⟨y,q1,q2,⟨q3,?_⟩,rfl⟩
    rintro (⟨r1,r2⟩ | ⟨r1,r2⟩)
    ·exact hab r1.symm
    ·exact q4 (by rw [r2])
   ·rintro ⟨y,q1,q2,⟨q3,q4⟩,rfl⟩
    refine ⟨⟨y,q1,q2,q3,rfl⟩,?_⟩;simp only;intro r
    exact q4 (.inr ⟨rfl,by omega⟩)
  ·rw [if_neg e1] at hc
   by_cases e2:(c:Int)=(a:Int)
   ·rw [if_pos e2] at hc
    injection hc with hc
    obtain rfl:c=a:=by omega
    subst hc
    refine ⟨srt_del sa _,fun e=>?_⟩
    rw [mem_del,ma e]
    constructor
    ·rintro ⟨⟨y,q1,q2,q3,rfl⟩,q4⟩
     simp only at q4;refine ⟨y,q1,q2,⟨q3,?_⟩,rfl⟩
     rintro (⟨r1,r2⟩ | ⟨r1,r2⟩)
     ·exact q4 (by rw [r2])
     ·exact hab r1
    ·rintro ⟨y,q1,q2,⟨q3,q4⟩,rfl⟩
     refine ⟨⟨y,q1,q2,q3,rfl⟩,?_⟩;simp only;intro r
     exact q4 (.inl ⟨rfl,by omega⟩)
   ·rw [if_neg e2] at hc
    obtain ⟨s,m⟩:=h.2 c L hc
    refine ⟨s,fun e=>?_⟩
    rw [m e]
    constructor
    ·rintro ⟨y,q1,q2,q3,q4⟩
     refine ⟨y,q1,q2,⟨q3,?_⟩,q4⟩
     rintro (⟨r1,r2⟩ | ⟨r1,r2⟩)
     ·exact e2 (by rw [r1])
     ·exact e1 (by rw [r1])
    ·rintro ⟨y,q1,q2,⟨q3,_⟩,q4⟩;exact ⟨y,q1,q2,q3,q4⟩
theorem GSp.yes {g : G} {N : Nat → Prop} {D : Nat → Nat → Prop} {E : Int → Option (List Ed)} (h : GSp g N D E) {a b : Nat} (ha : N a) (hb : N b) (hab : a ≠ b) (h1 : ¬ D a b) (h2 : ¬ D b a) {La Lb : List Ed} (hLa : E a = some La) (hLb : E b = some Lb) :
    GSp g N (fun x y=>D x y∨Pr a b x y) (updE (updE E a (some (insS La ⟨b,g.oct a b,-1⟩))) b (some (insS Lb ⟨a,g.oct a b,-1⟩)))∧hasE La b=false∧hasE Lb a=false:=by
 obtain ⟨sa,ma⟩:=h.2 a La hLa;obtain ⟨sb,mb⟩:=h.2 b Lb hLb
 have na:hasE La b=false:=by
  cases hh:hasE La b with
  | false=>rfl
  | true=>
   obtain ⟨e,he,e1⟩:=has_iff.1 hh;obtain ⟨y,_,_,q,rfl⟩:=(ma e).1 he;simp only at e1
   obtain rfl:y=b:=by omega
   exact absurd q h1
 have nb:hasE Lb a=false:=by
  cases hh:hasE Lb a with
  | false=>rfl
  | true=>
   obtain ⟨e,he,e1⟩:=has_iff.1 hh;obtain ⟨y,_,_,q,rfl⟩:=(mb e).1 he;simp only at e1
   obtain rfl:y=a:=by omega
   exact absurd q h2
 have hba:¬((b:Int)=(a:Int)):=by omega
 refine ⟨⟨fun z=>?_,fun c L hc=>?_⟩,na,nb⟩
 ·unfold updE
  by_cases e1:z=(b:Int)
  ·rw [if_pos e1];exact ⟨fun _=>⟨b,e1,hb⟩,fun _=>by simp⟩
  ·rw [if_neg e1]
   by_cases e2:z=(a:Int)
   ·rw [if_pos e2];exact ⟨fun _=>⟨a,e2,ha⟩,fun _=>by simp⟩
   ·rw [if_neg e2];exact h.1 z
 ·unfold updE at hc
  by_cases e1:(c:Int)=(b:Int)
  ·rw [if_pos e1] at hc
   injection hc with hc
   obtain rfl:c=b:=by omega
   subst hc
   refine ⟨srt_insS sb nb,fun e=>?_⟩
   rw [mem_insS,mb e]
   constructor
   ·rintro (rfl | ⟨y,q1,q2,q3,q4⟩)
    ·exact ⟨a,ha,hab,.inr (.inr ⟨rfl,rfl⟩),by rw [G.oct_symm]⟩
    ·exact ⟨y,q1,q2,.inl q3,q4⟩
   ·rintro ⟨y,q1,q2,q3 | ⟨rfl,rfl⟩ | ⟨_,rfl⟩,q4⟩
    ·exact .inr ⟨y,q1,q2,q3,q4⟩
    ·exact absurd rfl hab
    ·exact .inl (by rw [q4,G.oct_symm])
  ·rw [if_neg e1] at hc
   by_cases e2:(c:Int)=(a:Int)
   ·rw [if_pos e2] at hc
    injection hc with hc
    obtain rfl:c=a:=by omega
    subst hc
    refine ⟨srt_insS sa na,fun e=>?_⟩
    rw [mem_insS,ma e]
    constructor
    ·rintro (rfl | ⟨y,q1,q2,q3,q4⟩)
     ·exact ⟨b,hb,Ne.symm hab,.inr (.inl ⟨rfl,rfl⟩),rfl⟩
     ·exact ⟨y,q1,q2,.inl q3,q4⟩
    ·rintro ⟨y,q1,q2,q3 | ⟨_,rfl⟩ | ⟨rfl,rfl⟩,q4⟩
     ·exact .inr ⟨y,q1,q2,q3,q4⟩
     ·exact .inl q4
     ·exact absurd rfl hab
   ·rw [if_neg e2] at hc
    obtain ⟨s,m⟩:=h.2 c L hc
    refine ⟨s,fun e=>?_⟩
    rw [m e]
    constructor
    ·rintro ⟨y,q1,q2,q3,q4⟩;exact ⟨y,q1,q2,.inl q3,q4⟩
    ·rintro ⟨y,q1,q2,q3 | ⟨rfl,_⟩ | ⟨rfl,_⟩,q4⟩
     ·exact ⟨y,q1,q2,q3,q4⟩
     ·exact absurd rfl e2
     ·exact absurd rfl e1
theorem GSp.add {g:G} {N:Nat→Prop} {D:Nat→Nat→Prop} {E:Int→Option (List Ed)} (h:GSp g N D E) {c:Nat} (hc:¬N c):GSp g (fun z=>N z∨z=c) (fun x y=>D x y∧x≠c∧y≠c) (updE E c (some [])):=by
 refine ⟨fun z=>?_,fun x L hx=>?_⟩
 ·unfold updE
  by_cases e:z=(c:Int)
  ·rw [if_pos e];exact ⟨fun _=>⟨c,e,.inr rfl⟩,fun _=>by simp⟩
  ·rw [if_neg e,h.1 z]
   constructor
   ·rintro ⟨y,q1,q2⟩;exact ⟨y,q1,.inl q2⟩
   ·rintro ⟨y,q1,q2 | q2⟩
    ·exact ⟨y,q1,q2⟩
    ·exact absurd (by rw [q1,q2]) e
 ·unfold updE at hx
  by_cases e:(x:Int)=(c:Int)
  ·rw [if_pos e] at hx
   injection hx with hx
   subst hx
   refine ⟨fun i j a b _ ha=>by simp at ha,fun e'=>?_⟩
   constructor
   ·intro h;simp at h
   ·rintro ⟨y,_,_,⟨_,q,_⟩,_⟩;exact absurd (by omega) q
  ·rw [if_neg e] at hx
   obtain ⟨s,m⟩:=h.2 x L hx
   refine ⟨s,fun e'=>?_⟩
   rw [m e']
   constructor
   ·rintro ⟨y,q1,q2,q3,q4⟩
    exact ⟨y,.inl q1,q2,⟨q3,fun r=>e (by rw [r]),fun r=>hc (by rw [←r];exact q1)⟩,q4⟩
   ·rintro ⟨y,q1 | q1,q2,⟨q3,_,q5⟩,q4⟩
    ·exact ⟨y,q1,q2,q3,q4⟩
    ·exact absurd q1 q5
theorem GSp.sub {g:G} {N:Nat→Prop} {D:Nat→Nat→Prop} {E:Int→Option (List Ed)} (h:GSp g N D E) {c:Nat} (hD:∀x,N x→x≠c→¬D x c):GSp g (fun z=>N z∧z≠c) (fun x y=>D x y∧x≠c∧y≠c) (updE E c none):=by
 refine ⟨fun z=>?_,fun x L hx=>?_⟩
 ·unfold updE
  by_cases e:z=(c:Int)
  ·rw [if_pos e]
   refine ⟨fun h=>absurd rfl h,?_⟩
   rintro ⟨y,q1,_,q2⟩;exact absurd (by omega) q2
  ·rw [if_neg e,h.1 z]
   constructor
   ·rintro ⟨y,q1,q2⟩;exact ⟨y,q1,q2,fun r=>e (by rw [q1,r])⟩
   ·rintro ⟨y,q1,q2,_⟩;exact ⟨y,q1,q2⟩
 ·unfold updE at hx
  by_cases e:(x:Int)=(c:Int)
  ·rw [if_pos e] at hx;cases hx
  ·rw [if_neg e] at hx
   have hn:=h.node hx
   have hxc:x≠c:=fun r=>e (by rw [r])
   obtain ⟨s,m⟩:=h.2 x L hx
   refine ⟨s,fun e'=>?_⟩
   rw [m e']
   constructor
   ·rintro ⟨y,q1,q2,q3,q4⟩
    have hyc:y≠c:=fun r=>hD x hn hxc (by rw [←r];exact q3)
    exact ⟨y,⟨q1,hyc⟩,q2,⟨q3,hxc,hyc⟩,q4⟩
   ·rintro ⟨y,⟨q1,_⟩,q2,⟨q3,_⟩,q4⟩;exact ⟨y,q1,q2,q3,q4⟩
def TurnN (g:G) (N:Nat→Prop) (c:Nat) (z:Nat):Prop:=(z=c∧g.Corner c)∨(z≠c∧N z)
def TurnE (g:G) (N:Nat→Prop) (D:Nat→Nat→Prop) (c a b:Nat):Prop:=D a b∧((a≠c∧b≠c)∨(g.Corner c∧N c))
theorem EMap.drop {w wU : World} {S : List Nat} {mb N N2 : Nat} {E : Int → Option (List Ed)} {V : Int → Option Value} {a : Int}
    (h1:MapAt iK w mb V N) (h2:∀k,E k=none↔V k=none) (h3:∀k u L,V k=some u→E k=some L→OwnE w 0 u L) (h4:∀k u q,V k=some u→u.ownBlock=some q→q∈S) (h5:mb∉S)
    (h6:∀k k' u u' q,V k=some u→V k'=some u'→u.ownBlock=some q→u'.ownBlock=some q→k=k') (h7:∀s,s∈S→s<w.heap.size)
    (hM:MapAt iK wU mb (updK V a none) N2) (hK:Kept [mb] w wU):EMap wU S mb (updE E a none):=by
 refine ⟨_,N2,hM,fun k=>?_,fun k x L hx hL=>?_,fun k x q hx hq=>?_,h5,fun k k' x x' q hx hx' hq hq'=>?_,fun s hs=>Nat.lt_of_lt_of_le (h7 s hs) hK.size⟩
 ·unfold updE updK
  split
  ·simp
  ·exact h2 k
 ·unfold updE at hL
  unfold updK at hx
  split at hx
  ·cases hx
  ·rename_i e
   rw [if_neg e] at hL
   exact (h3 k x L hx hL).kept hK (fun q hq=>by
    have:=h4 k x q hx hq;simp;rintro rfl;exact h5 this)
 ·unfold updK at hx
  split at hx
  ·cases hx
  ·exact h4 k x q hx hq
 ·unfold updK at hx hx'
  split at hx
  ·cases hx
  ·split at hx'
   ·cases hx'
   ·exact h6 k k' x x' q hx hx' hq hq'
theorem more_more {w w1:World} {S S1 S2:List Nat} (hs:w.heap.size≤w1.heap.size) (h1:∀k∈S1,k∈S∨w.heap.size≤k) (h2:∀k∈S2,k∈S1∨w1.heap.size≤k):∀k∈S2,k∈S∨w.heap.size≤k:=fun k hk=>by
 rcases h2 k hk with q | q
 ·exact h1 k q
 ·exact .inr (by omega)
theorem EMap.lts {w:World} {S:List Nat} {mb:Nat} {E:Int→Option (List Ed)} (h:EMap w S mb E):∀s∈S,s<w.heap.size:=by
 obtain ⟨_,_,_,_,_,_,_,_,h7⟩:=h;exact h7
theorem srt_ext:∀ {L M:List Ed},L.Pairwise (fun a b=>a.to_<b.to_)→M.Pairwise (fun a b=>a.to_<b.to_)→(∀z,z∈L↔z∈M)→L=M
 | [],[],_,_,_=>rfl
 | [],y :: M,_,_,h=>by have:=(h y).2 (by simp);simp at this
 | x :: L,[],_,_,h=>by have:=(h x).1 (by simp);simp at this
 | x :: L,y :: M,hL,hM,h=>by
  rw [List.pairwise_cons] at hL hM
  have hxy:x=y:=by
   have a:=(h x).1 (by simp)
   have b:=(h y).2 (by simp)
   rcases List.mem_cons.1 a with a | a
   ·exact a
   ·rcases List.mem_cons.1 b with b | b
    ·exact b.symm
    ·have:=hM.1 x a;have:=hL.1 y b;omega
  subst hxy
  rw [srt_ext hL.2 hM.2 (fun z=>?_)]
  constructor
  ·intro hz
   have:=(h z).1 (List.mem_cons_of_mem _ hz)
   rcases List.mem_cons.1 this with e | e
   ·subst e;have:=hL.1 z hz;omega
   ·exact e
  ·intro hz
   have:=(h z).2 (List.mem_cons_of_mem _ hz)
   rcases List.mem_cons.1 this with e | e
   ·subst e;have:=hM.1 z hz;omega
   ·exact e
theorem srt_pw {L:List Ed} (h:Srt L):L.Pairwise (fun a b=>a.to_<b.to_):=by
 rw [List.pairwise_iff_getElem];intro i j hi hj hij;exact h i j _ _ hij (List.getElem?_eq_getElem hi) (List.getElem?_eq_getElem hj)
theorem GSpec.one {g:G} {E E':Int→Option (List Ed)} (h:GSpec g (fun _ _=>True) E) (h':GSpec g (fun _ _=>True) E') {c:Nat} {L L':List Ed} (hL:E c=some L) (hL':E' c=some L'):L=L':=by
 obtain ⟨a1,a2⟩:=h.2 c L hL;obtain ⟨b1,b2⟩:=h'.2 c L' hL'
 exact srt_ext (srt_pw a1) (srt_pw b1) (fun z=>by rw [a2 z,b2 z])
def SetI (w:World) (b p mb:Nat) (S:List Nat) (g g':G) (v:Int) (c:Nat) (nx ny:Int) (fv:Value) (wr:World):Prop:=
 ∃S' E' zs,GraphOf wr b p mb S' g' v E'∧GSp g' (g.PN g' c nx ny) (g.PD g' c nx ny) E'∧(∀k∈S',k∈S∨w.heap.size≤k)∧Kept (p :: mb :: S) w wr∧OwnI wr w.heap.size fv zs∧(zs.length:Int)≤3*(ny-g.Y c+1)+(nx-g.X c+1)∧∀q,fv.ownBlock=some q→q∉b :: p :: mb :: S'
theorem kept_more' {w w1 w2:World} {p mb:Nat} {S S1:List Nat} (h:Kept (p :: mb :: S) w w1) (k:Kept (mb :: S1) w1 w2) (hS:∀q∈S1,q∈S∨w.heap.size≤q):Kept (p :: mb :: S) w w2:=
 ⟨k.os.trans h.os,k.tape.trans h.tape,k.output.trans h.output,Nat.le_trans h.size k.size,fun q hq hn=>by
  refine (k.block q (Nat.lt_of_lt_of_le hq h.size) ?_).trans (h.block q hq hn);intro hm
  rcases List.mem_cons.1 hm with e | e
  ·exact hn (by rw [e];simp)
  ·rcases hS q e with r | r
   ·exact hn (by simp [r])
   ·omega⟩
theorem SetI.none {w wr:World} {b p mb:Nat} {S:List Nat} {g g':G} {v:Int} {c:Nat} {nx ny:Int} {fv:Value} (hg:g.ok) (h:SetI w b p mb S g g' v c nx ny fv wr) (ho:¬(0≤nx∧nx<g.w∧0≤ny∧ny<g.h)):SetI w b p mb S g g' v c (nx+1) ny fv wr:=by
 obtain ⟨S',E',zs,h1,h2,h3,h4,h5,h6,h7⟩:=h
 refine ⟨S',E',zs,h1,h2.congr (fun z=>?_) (fun a b ha hb _=>?_) (fun _ _=>rfl),h3,h4,h5,by omega,h7⟩
 ·unfold G.PN
  refine and_congr_right fun hz=>?_
  rw [G.Pd_none hg hz ho]
 ·unfold G.PD
  rw [G.Pd_none hg ha.1 ho,G.Pd_none hg hb.1 ho]
theorem SetI.row {w wr:World} {b p mb:Nat} {S:List Nat} {g g':G} {v:Int} {c:Nat} {nx ny:Int} {fv:Value} (h:SetI w b p mb S g g' v c nx ny fv wr) (e:nx=(g.X c:Int)+2):SetI w b p mb S g g' v c ((g.X c:Int)-1) (ny+1) fv wr:=by
 obtain ⟨S',E',zs,h1,h2,h3,h4,h5,h6,h7⟩:=h
 refine ⟨S',E',zs,h1,h2.congr (fun z=>?_) (fun a b _ _ _=>?_) (fun _ _=>rfl),h3,h4,h5,by omega,h7⟩
 ·unfold G.PN;rw [G.Pd_row e]
 ·unfold G.PD;rw [G.Pd_row e,G.Pd_row e]
theorem SetI.turned {w wr w2 : World} {b p mb : Nat} {S S' : List Nat} {g g' : G} {v : Int} {c k : Nat} {nx ny : Int} {fv : Value} {zs : List Int} {S2 : List Nat} {E2 : Int → Option (List Ed)} (hn : g'.n = g.n)
    (h3:∀k∈S',k∈S∨w.heap.size≤k) (h4:Kept (p :: mb :: S) w wr) (h5:OwnI wr w.heap.size fv zs) (h6:(zs.length:Int)≤3*(ny-g.Y c+1)+(nx-g.X c+1)) (h7:∀q,fv.ownBlock=some q→q∉b :: p :: mb :: S')
    (hkn:k<g.n) (hx:(g.X k:Int)=nx) (hy:(g.Y k:Int)=ny) (hk:g.nigh c k)
    (t1:GraphOf w2 b p mb S2 g' v E2) (t2:GSp g' (TurnN g' (g.PN g' c nx ny) k) (TurnE g' (g.PN g' c nx ny) (g.PD g' c nx ny) k) E2) (t3:∀k∈S2,k∈S'∨wr.heap.size≤k) (t4:Kept (mb :: S') wr w2) :
    SetI w b p mb S g g' v c (nx+1) ny fv w2∧∃S' E' zs,GraphOf w2 b p mb S' g' v E'∧GSp g' (g.PN g' c (nx+1) ny) (g.PD g' c (nx+1) ny) E'∧(∀k∈S',k∈S∨w.heap.size≤k)∧Kept (p :: mb :: S) w w2∧OwnI w2 w.heap.size fv zs∧(zs.length:Int)+1≤3*(ny-g.Y c+1)+(nx+1-g.X c+1)∧∀q,fv.ownBlock=some q→q∉b :: p :: mb :: S':=by
 have g2:GSp g' (g.PN g' c (nx+1) ny) (g.PD g' c (nx+1) ny) E2:=t2.congr (fun z=>G.PN_cell hkn hx hy hk) (fun a b ha hb _=>G.PD_cell hkn hx hy hk ((G.PN_cell hkn hx hy hk).1 ha) ((G.PN_cell hkn hx hy hk).1 hb)) (fun _ _=>rfl)
 have o2:OwnI w2 w.heap.size fv zs:=by
  refine ⟨h5.1,?_⟩
  rcases h5.2 with hn | ⟨g0,cap,cur,rfl,hb,hgg,rest⟩
  ·exact .inl hn
  ·refine .inr ⟨g0,cap,cur,rfl,hb,?_,rest⟩
   rw [t4.block g0 (Array.getElem?_eq_some_iff.1 hgg).1 (fun hm=>?_)]
   ·exact hgg
   ·have:=h7 g0 rfl
    exact this (by rcases List.mem_cons.1 hm with e | e <;> simp [e])
 have n2:∀q,fv.ownBlock=some q→q∉b :: p :: mb :: S2:=fun q hq hm=>by
  have hlt:=(World.ownsRow.lt h5 q hq).2;have:=h7 q hq
  rcases List.mem_cons.1 hm with e | hm
  ·exact this (by rw [e];simp)
  rcases List.mem_cons.1 hm with e | hm
  ·exact this (by rw [e];simp)
  rcases List.mem_cons.1 hm with e | hm
  ·exact this (by rw [e];simp)
  rcases t3 q hm with e | e
  ·exact this (by simp [e])
  ·omega
 have s2:=more_more h4.size h3 t3;have k2:=kept_more' h4 t4 h3
 exact ⟨⟨S2,E2,zs,t1,g2,s2,k2,o2,by omega,n2⟩,S2,E2,zs,t1,g2,s2,k2,o2,by omega,n2⟩
def PairD (g g':G) (c:Nat) (nx ny:Int) (i j a b:Nat):Prop:=(Dn g' i j a b∧g'.Direct a b)∨(¬Dn g' i j a b∧g.PD g' c nx ny a b)
def PairI (w:World) (b p mb:Nat) (S:List Nat) (g g':G) (v:Int) (c:Nat) (nx ny:Int) (bl:List Nat) (i j:Nat) (wr:World):Prop:=
 ∃S' E',GraphOf wr b p mb S' g' v E'∧GSp g' g'.Corner (PairD g g' c nx ny i j) E'∧(∀k∈S',k∈S∨w.heap.size≤k)∧Kept (p :: mb :: S) w wr∧∀q∈bl,q∉b :: p :: mb :: S'
theorem pair_step {g g':G} {c:Nat} {nx ny:Int} {i j:Nat} (hij:i<j) (hj:j<(cornersI g').length) (a b:Nat):((PairD g g' c nx ny i j a b∧¬Pr (cf g' i) (cf g' j) a b)∨(Pr (cf g' i) (cf g' j) a b∧g'.Direct a b))↔PairD g g' c nx ny i (j+1) a b:=by
 have h:=dn_step hij hj a b;have hn:=dn_not hij hj;unfold PairD;rw [←h];unfold DoneP Pr
 by_cases e:(a=cf g' i∧b=cf g' j)∨(a=cf g' j∧b=cf g' i)
 ·simp [e]
 ·simp [e]
theorem PairI.below {w wr w':World} {b p mb:Nat} {S:List Nat} {g g':G} {v:Int} {c:Nat} {nx ny:Int} {bl:List Nat} {i j:Nat} (h:PairI w b p mb S g g' v c nx ny bl i j wr) (hb:Below wr.heap.size wr w'):PairI w b p mb S g g' v c nx ny bl i j w':=by
 obtain ⟨S',E',h1,h2,h3,h4,h5⟩:=h;exact ⟨S',E',h1.below hb,h2,h3,h4.trans (Kept.of_below hb),h5⟩
theorem PairI.row {w wr:World} {b p mb:Nat} {S:List Nat} {g g':G} {v:Int} {c:Nat} {nx ny:Int} {bl:List Nat} {i j:Nat} (h:PairI w b p mb S g g' v c nx ny bl i j wr) (hj:(cornersI g').length≤j):PairI w b p mb S g g' v c nx ny bl (i+1) (i+2) wr:=by
 obtain ⟨S',E',h1,h2,h3,h4,h5⟩:=h
 refine ⟨S',E',h1,h2.congr (fun _=>Iff.rfl) (fun a b _ _ _=>?_) (fun _ _=>rfl),h3,h4,h5⟩
 unfold PairD;rw [dn_row hj a b]
theorem Ints.same {w w':World} {A:Option Addr} {n:Nat} {f:Nat→Int} (h:Ints w A n f) (hq:∀ad,A=some ad→w'.heap[ad.block]? = w.heap[ad.block]?) (hs:w.heap.size≤w'.heap.size):Ints w' A n f:=by
 intro hn;obtain ⟨ad,e,hl,hc⟩:=h hn
 refine ⟨ad,e,Nat.lt_of_lt_of_le hl hs,fun k hk=>?_⟩
 exact (World.cell?_of_block (a:=ad.add k) (by rw [add_block];exact hq ad e)).trans (hc k hk)
def SameBl (w3 wr:World) (bl:List Nat):Prop:=(∀q∈bl,wr.heap[q]? = w3.heap[q]?)∧w3.heap.size≤wr.heap.size
theorem SameBl.kept {w3 wr w':World} {bl T:List Nat} (h:SameBl w3 wr bl) (hl:∀q∈bl,q<w3.heap.size) (hk:Kept T wr w') (hT:∀q∈bl,q∉T):SameBl w3 w' bl:=
 ⟨fun q hq=>(hk.block q (Nat.lt_of_lt_of_le (hl q hq) h.2) (hT q hq)).trans (h.1 q hq),Nat.le_trans h.2 hk.size⟩
theorem PairI.anew {w wr w4 w5 : World} {b p mb : Nat} {S S1 S2 S3 : List Nat} {g g' : G} {v : Int} {c : Nat} {nx ny : Int} {bl : List Nat} {i j : Nat} {E5 : Int → Option (List Ed)} (hij : i < j) (hj : j < (cornersI g').length)
    (h3:∀k∈S1,k∈S∨w.heap.size≤k) (h4:Kept (p :: mb :: S) w wr) (h5:∀q∈bl,q∉b :: p :: mb :: S1) (hl:∀q∈bl,q<wr.heap.size)
    (a1:∀k∈S2,k∈S1∨wr.heap.size≤k) (a2:Kept (mb :: S1) wr w4) (b0:GraphOf w5 b p mb S3 g' v E5) (b1:GSp g' g'.Corner (fun x y=>(PairD g g' c nx ny i j x y∧¬Pr (cf g' i) (cf g' j) x y)∨(Pr (cf g' i) (cf g' j) x y∧g'.Direct x y)) E5) (b2:∀k∈S3,k∈S2∨w4.heap.size≤k) (b3:Kept (mb :: S2) w4 w5) :
    PairI w b p mb S g g' v c nx ny bl i (j+1) w5:=by
 have m1:=more_more h4.size h3 a1;have k1:=kept_more' h4 a2 h3;have m2:=more_more k1.size m1 b2;have k2:=kept_more' k1 b3 m1
 refine ⟨S3,E5,b0,b1.congr (fun _=>Iff.rfl) (fun x y _ _ _=>pair_step hij hj x y) (fun _ _=>rfl),m2,k2,fun q hq hm=>?_⟩
 have hlt:=hl q hq;have hno:=h5 q hq;have hs:=a2.size
 rcases List.mem_cons.1 hm with r | hm
 ·exact hno (by simp [r])
 rcases List.mem_cons.1 hm with r | hm
 ·exact hno (by simp [r])
 rcases List.mem_cons.1 hm with r | hm
 ·exact hno (by simp [r])
 rcases b2 q hm with r | r
 ·rcases a1 q r with r | r
  ·exact hno (by simp [r])
  ·omega
 ·omega
end Go.Proofs.YtokhnobcincfjaaGreatDoor
