/- Lemmas of this claim: MathAsk7, MathEdit, MathUndo. -/
import Derived.Test.YtokhnobcincfjaaGreatDoorKNUn36
import Derived.Test.YtokhnobcincfjaaGreatDoorKNUn27
import Derived.Test.YtokhnobcincfjaaGreatDoorBase
import Derived.Test.YtokhnobcincfjaaGreatDoorKNUn4
set_option linter.unusedVariables false
set_option linter.unusedSimpArgs false
namespace Go.Proofs.YtokhnobcincfjaaGreatDoor
open FR
def SameG (g2 g:G):Prop:=g2.w=g.w∧g2.h=g.h∧∀c,c<g.n→g2.b c=g.b c
theorem SameG.n {g2 g:G} (h:SameG g2 g):g2.n=g.n:=by unfold G.n;rw [h.1,h.2.1]
theorem cntB_congr {b b':Nat→Bool}:∀ {k:Nat},(∀c,c<k→b c=b' c)→cntB b k=cntB b' k
 | 0,_=>rfl
 | k+1,h=>by rw [cntB_succ,cntB_succ,cntB_congr fun c hc=>h c (by omega),h k (by omega)]
theorem ask_same {g:G} {x y:Int} {W W':List Nat} {c c':C} {e e':Nat} (h:AskIs g x y W c e) (k:AskIs g x y W' c' e'):c=c'∧e=e':=by
 by_cases h0:flt2 g x y=0
 ·obtain ⟨a,b,rfl,rfl,_,_,_,_,hh⟩:=h.cells h0
  obtain ⟨a',b',e1,e2,_,_,_,_,kk⟩:=k.cells h0;obtain rfl:a=a':=Int.ofNat_inj.1 e1;obtain rfl:b=b':=Int.ofNat_inj.1 e2
  rcases hh with ⟨h1,h2,_,h3⟩ | ⟨h1,h2,_⟩ <;> rcases kk with ⟨k1,k2,_,k3⟩ | ⟨k1,k2,_⟩
  ·exact ⟨by rw [h3,k3],by rw [h2,k2]⟩
  ·exact absurd k1.1 (h1 _)
  ·exact absurd h1.1 (k1 _)
  ·exact ⟨Dist.unique h1 k1,by rw [h2,k2]⟩
 ·rcases h with ⟨_,h2,_,h3⟩ | ⟨a,b,rfl,rfl,a1,a2,a3,a4,_⟩
  ·rcases k with ⟨_,k2,_,k3⟩ | ⟨a,b,rfl,rfl,a1,a2,a3,a4,_⟩
   ·exact ⟨by rw [h3,k3],by rw [h2,k2]⟩
   ·exact absurd (flt2_both (by rw [G.fault_in a1,a3];rfl) (by rw [G.fault_in a2,a4];rfl)) h0
  ·exact absurd (flt2_both (by rw [G.fault_in a1,a3];rfl) (by rw [G.fault_in a2,a4];rfl)) h0
theorem gset_self {g:G} {c:Nat} {t:Bool} (h:g.b c=t):gset g c t=g:=by
 have:upd g.b c t=g.b:=by
  funext j
  unfold upd
  split
  ·rename_i e;rw [e,h]
  ·rfl
 unfold gset;rw [this]
def editG (f:Nat→Int×Bool) (g:G):Nat→G
 | 0=>g
 | k+1=>gset (editG f g k) (f k).1.toNat (f k).2
def editN (f:Nat→Int×Bool) (g:G):Nat→Nat
 | 0=>0
 | k+1=>editN f g k+(if (editG f g k).b (f k).1.toNat=(f k).2 then 0 else 1)
theorem editG_size (f:Nat→Int×Bool) (g:G):∀k,(editG f g k).w=g.w∧(editG f g k).h=g.h
 | 0=>⟨rfl,rfl⟩
 | k+1=>editG_size f g k
theorem editG_n (f:Nat→Int×Bool) (g:G) (k:Nat):(editG f g k).n=g.n:=by
 unfold G.n;rw [(editG_size f g k).1,(editG_size f g k).2]
theorem editN_zero {f:Nat→Int×Bool} {g:G}:∀ {k:Nat},editN f g k=0→editG f g k=g
 | 0,_=>rfl
 | k+1,h=>by
  have h1:editN f g k=0:=by unfold editN at h;omega
  have h2:(editG f g k).b (f k).1.toNat=(f k).2:=by
   unfold editN at h
   split at h
   ·assumption
   ·omega
  show gset (editG f g k) _ _=g
  rw [gset_self h2];exact editN_zero h1
theorem editN_le (f:Nat→Int×Bool) (g:G):∀k,editN f g k≤k
 | 0=>Nat.le_refl _
 | k+1=>by
  have:=editN_le f g k;unfold editN
  split <;> omega
theorem editG_by {f:Nat→Int×Bool} {g:G} {B:Nat→Bool}:∀ {k:Nat},(∀j,j<k→(f j).2=B (f j).1.toNat)→∀c,((∃j,j<k∧(f j).1.toNat=c)→(editG f g k).b c=B c)∧((∀j,j<k→(f j).1.toNat≠c)→(editG f g k).b c=g.b c)
 | 0,_,_=>⟨fun ⟨_,h,_⟩=>absurd h (by omega),fun _=>rfl⟩
 | k+1,h,c=>by
  obtain ⟨h1,h2⟩:=editG_by (g:=g) (k:=k) (fun j hj=>h j (by omega)) c
  have e:(editG f g (k+1)).b c=if c=(f k).1.toNat then (f k).2 else (editG f g k).b c:=rfl
  constructor
  ·rintro ⟨j,hj,hc⟩
   rw [e]
   split
   ·rename_i q;rw [h k (by omega),←q]
   ·rename_i q
    refine h1 ⟨j,?_,hc⟩
    have:j≠k:=by rintro rfl;exact q hc.symm
    omega
  ·intro hn
   rw [e,if_neg (fun q=>hn k (by omega) q.symm)]
   exact h2 (fun j hj=>hn j (by omega))
theorem edit_back {f f':Nat→Int×Bool} {g:G} {n n':Nat} (h1:∀j,j<n→(f j).2=true) (h2:∀j,j<n'→(f' j).2=g.b (f' j).1.toNat) (hc:∀c,(∃j,j<n∧(f j).1.toNat=c)→∃j,j<n'∧(f' j).1.toNat=c):editG f' (editG f g n) n'=g:=by
 have hs:=editG_size f' (editG f g n) n';have hs2:=editG_size f g n
 have hb:(editG f' (editG f g n) n').b=g.b:=by
  funext c
  obtain ⟨k1,k2⟩:=editG_by (g:=editG f g n) (B:=g.b) h2 c
  by_cases hx:∃j,j<n'∧(f' j).1.toNat=c
  ·exact k1 hx
  ·rw [k2 (fun j hj e=>hx ⟨j,hj,e⟩)]
   exact (editG_by (g:=g) (B:=fun _=>true) h1 c).2 (fun j hj e=>hx (hc c ⟨j,hj,e⟩))
 generalize editG f' (editG f g n) n'=x at hs hb
 generalize editG f g n=y at hs hs2
 obtain ⟨w,h,b⟩:=x;obtain ⟨w2,h2,b2⟩:=g;simp only at hs hs2 hb;rw [hb,hs.1,hs.2,hs2.1,hs2.2]
def undoD (g:G) (f:Nat→Int):Nat→List (Int×Bool)
 | 0=>[]
 | k+1=>undoD g f k ++ (if 0≤f k∧f k<(g.n:Nat) then [(f k,true)] else [])
def undoB (g:G) (f:Nat→Int):Nat→List (Int×Bool)
 | 0=>[]
 | k+1=>undoB g f k ++ (if 0≤f k∧f k<(g.n:Nat) then [(f k,g.b (f k).toNat)] else [])
theorem undo_mem {g:G} {f:Nat→Int}:∀ {k:Nat} {e:Int×Bool},(e∈undoD g f k→e.2=true∧0≤e.1∧e.1<(g.n:Nat)∧(e.1,g.b e.1.toNat)∈undoB g f k)∧(e∈undoB g f k→e.2=g.b e.1.toNat∧0≤e.1∧e.1<(g.n:Nat))
 | 0,e=>⟨fun h=>by simp [undoD] at h,fun h=>by simp [undoB] at h⟩
 | k+1,e=>by
  obtain ⟨h1,h2⟩:=undo_mem (g:=g) (f:=f) (k:=k) (e:=e);unfold undoD undoB
  by_cases hc:0≤f k∧f k<(g.n:Nat)
  ·rw [if_pos hc,if_pos hc]
   constructor
   ·intro h
    rcases List.mem_append.1 h with q | q
    ·obtain ⟨a,b,c,d⟩:=h1 q
     exact ⟨a,b,c,List.mem_append_left _ d⟩
    ·rw [List.mem_singleton] at q;subst q
     exact ⟨rfl,hc.1,hc.2,by simp⟩
   ·intro h
    rcases List.mem_append.1 h with q | q
    ·exact h2 q
    ·rw [List.mem_singleton] at q;subst q
     exact ⟨rfl,hc.1,hc.2⟩
  ·rw [if_neg hc,if_neg hc,List.append_nil,List.append_nil]
   exact ⟨h1,h2⟩
theorem undo_len (g:G) (f:Nat→Int):∀k,(undoD g f k).length≤k∧(undoB g f k).length≤k
 | 0=>⟨Nat.le_refl _,Nat.le_refl _⟩
 | k+1=>by
  obtain ⟨h1,h2⟩:=undo_len g f k;unfold undoD undoB;rw [List.length_append,List.length_append]
  split <;> simp <;> omega
theorem getD_mem {L:List (Int×Bool)} {j:Nat} (h:j<L.length):L.getD j (0,false)∈L:=by
 simp only [List.getD,List.getElem?_eq_getElem h,Option.getD_some];exact List.getElem_mem h
theorem mem_getD {L:List (Int×Bool)} {e:Int×Bool} (h:e∈L):∃j,j<L.length∧L.getD j (0,false)=e:=by
 obtain ⟨j,hj⟩:=List.getElem?_of_mem h
 exact ⟨j,(List.getElem?_eq_some_iff.1 hj).1,by simp only [List.getD,hj,Option.getD_some]⟩
theorem undo_back (g g2:G) (f:Nat→Int) (n:Nat) (hn:g2.n=g.n) (hb:∀c,c<g.n→g2.b c=g.b c):editG (fun k=>(undoB g f n).getD k (0,false)) (editG (fun k=>(undoD g f n).getD k (0,false)) g2 (undoD g f n).length) (undoB g f n).length=g2:=by
 refine edit_back (fun j hj=>(undo_mem.1 (getD_mem hj)).1) (fun j hj=>?_) (fun c ⟨j,hj,hc⟩=>?_)
 ·obtain ⟨h1,h2,h3⟩:=undo_mem.2 (getD_mem hj)
  rw [h1,hb _ (by omega)]
 ·obtain ⟨_,_,_,h4⟩:=undo_mem.1 (getD_mem hj)
  obtain ⟨j',hj',e⟩:=mem_getD h4
  exact ⟨j',hj',by simp only [e];exact hc⟩
end Go.Proofs.YtokhnobcincfjaaGreatDoor
