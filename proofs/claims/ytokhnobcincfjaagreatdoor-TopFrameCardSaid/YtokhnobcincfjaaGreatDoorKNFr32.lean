/- Lemmas of this claim: EdsO, Sr1, Sr2, Sr3, Sr4. -/
import Derived.Test.YtokhnobcincfjaaGreatDoorKNFr16
import Derived.Test.YtokhnobcincfjaaGreatDoorKNFr24
import Derived.Test.YtokhnobcincfjaaGreatDoorKNFr22
import Derived.ArgAppend
import Derived.Test.YtokhnobcincfjaaGreatDoorKNFr10
import Derived.StillTailTactics
set_option linter.unusedVariables false
set_option linter.unusedSimpArgs false
set_option maxHeartbeats 3200000
set_option maxRecDepth 100000
namespace Go.Proofs.YtokhnobcincfjaaGreatDoor
open Go.RowKit Go.Sort FR
def EdsO (w:World) (A:Option Addr) (L:List Ed):Prop:=0<L.length→∃g o,A=some ⟨g,o,none⟩∧g<w.heap.size∧∀j v,(edL L)[j]? = some v→w.cell? ⟨g,o+j,none⟩=some v
theorem EdsAt.o {w:World} {A:Option Addr} {L:List Ed} (h:EdsAt w A L):EdsO w A L:=fun hl=>by
 obtain ⟨g,h1,h2,h3⟩:=h hl
 exact ⟨g,0,h1,h2,fun j v hv=>by rw [Nat.zero_add];exact h3 j v hv⟩
theorem EdsO.kept {w w':World} {A:Option Addr} {L:List Ed} {T:List Nat} (h:EdsO w A L) (hk:Kept T w w') (hT:0<L.length→∀ad,A=some ad→ad.block∉T):EdsO w' A L:=fun hl=>by
 obtain ⟨g,o,h1,h2,h3⟩:=h hl
 refine ⟨g,o,h1,Nat.lt_of_lt_of_le h2 hk.size,fun j v hv=>?_⟩
 have hb:=hT hl _ h1;have e:w'.cell? ⟨g,o+j,none⟩=w.cell? ⟨g,o+j,none⟩:=World.cell?_of_block (hk.block g h2 hb);rw [e];exact h3 j v hv
theorem EdsO.below {w w':World} {A:Option Addr} {L:List Ed} (h:EdsO w A L) (hb:Below w.heap.size w w'):EdsO w' A L:=h.kept (T:=[]) (.of_below hb) (fun _ _ _=>by simp)
theorem EdsO.get {w:World} {A:Option Addr} {L:List Ed} (h:EdsO w A L) {j:Nat} {e:Ed} (he:L[j]? = some e):∃g o,A=some ⟨g,o,none⟩∧w.cell? ⟨g,o+j*4,none⟩=some (.int .i64 e.to_)∧w.cell? ⟨g,o+j*4+1,none⟩=some (.int .i64 e.c.s)∧w.cell? ⟨g,o+j*4+2,none⟩=some (.int .i64 e.c.d)∧w.cell? ⟨g,o+j*4+3,none⟩=some (.int .i64 e.mid):=by
 have hl:0<L.length:=Nat.lt_of_le_of_lt (Nat.zero_le _) (List.getElem?_eq_some_iff.1 he).1;obtain ⟨g,o,h1,_,h3⟩:=h hl;obtain ⟨a,b,c,d⟩:=edL_get L j e he;exact ⟨g,o,h1,h3 _ _ a,h3 _ _ b,h3 _ _ c,h3 _ _ d⟩
theorem idxO {A:Option Addr} {b o n m k:Nat} (h:A=some ⟨b,o,none⟩) (hk:k<n) (wx:World):(Instr.indexAt 119 (.slice A n m) (.int .i64 (k:Nat))).run Tryz.prog wx=.ok (.pointer (some ⟨b,o+k*4,none⟩)) wx:=by
 subst h
 have q:(k:Int)<(n:Int):=by omega
 go_simp
theorem EdsO.apart {w:World} {A:Option Addr} {L:List Ed} (h:EdsO w A L) {T:List Nat} (hT:∀k,k∈T→w.heap.size≤k):0<L.length→∀ad,A=some ad→ad.block∉T:=fun hp ad e hm=>by
 obtain ⟨g',o',e',hlt,_⟩:=h hp
 rw [e'] at e;injection e with e;subst e
 have:=hT _ hm;simp only at this;omega
end Go.Proofs.YtokhnobcincfjaaGreatDoor
namespace Go.Proofs.YtokhnobcincfjaaGreatDoor
open Go.RowKit Go.Sort FR Go.Lib
theorem OwnI.drop1 {w:World} {B g n m:Nat} {zs:List Int} {z:Int} (h:OwnI w B (.slice (some ⟨g,0,none⟩) (n+1) m) (zs ++ [z])) (hn:zs.length=n):OwnI w B (.slice (some ⟨g,0,none⟩) n m) zs:=by
 obtain ⟨h1,h2⟩:=h
 rcases h2 with ⟨e,_⟩ | ⟨g',cap,cur,e,hb,hh,hc,hm,hs,ht⟩
 ·cases e
 ·injection e with e1 e2 e3
  injection e1 with e1;injection e1 with e1
  subst e1;subst e3
  refine ⟨by simp,.inr ⟨g,m,cur,by rw [hn],hb,hh,by simp at hc;omega,hm,hs,?_⟩⟩
  have:=congrArg (List.take zs.length) ht;rw [List.take_take] at this
  simp at this ⊢
  exact this
theorem wpList_append_intsF {ops : Array Oper} {rest : List Oper} {o : Oper} {a : Act} {Q : Exit → Act → World → Prop} (w : World) (hgd : o.guard = none) (s x : Operand)
    (ho:o.op=.call { callee:=.builtin .append,args:=#[s,x],argTypes:=#[22,22] })
    (A:Option Addr) (n:Nat) (zs ys:List Int) (hs:a.eval s=.slice A n n) (hn:zs.length=n) (h0:0<n) (hI:Ints w A n (fun k=>zs.getD k 0)) (ad:Addr) (m c:Nat) (hx:a.eval x=.slice (some ad) m c) (hm:ys.length=m) (hm0:0<m) (hc:∀k z,ys[k]? = some z→w.cell? (ad.add k)=some (.int .i64 z))
    (hl:n+m<1099511627776)
    (h:∀v' w',OwnI w' w.heap.size v' (zs ++ ys)→Below w.heap.size w w'→wpList Tryz.prog ops Q rest (a.put o.dst v') w'):wpList Tryz.prog ops Q (o :: rest) a w:=by
 obtain ⟨i0,hi,hz0,hz1,hz2⟩:=info_parts int_info
 refine wpList_append_grows w hgd s x 22 ho 3 i0 (.int .i64 0) 1 8 Tryz.underlying22 hi hz0 hz1 hz2 rfl (by decide) A n n (zs.map (Value.int .i64)) hs ?_ (by rw [List.length_map];omega) ?_ ad m c (ys.map (Value.int .i64)) hx (by rw [List.length_map];omega) ?_ ?_ (by omega) ?_ ?_ ?_
 ·intro e
  obtain ⟨ad',e',_⟩:=hI h0;rw [e'] at e;cases e
 ·intro b hb j u hu
  rw [List.getElem?_map] at hu
  cases hj:zs[j]? with
  | none=>rw [hj] at hu;cases hu
  | some z=>
   rw [hj] at hu;simp at hu;subst hu;obtain ⟨ad',e',_,hcell⟩:=hI h0;have e2:=Option.some.inj (hb.symm.trans e');subst e2;have hjl:=(List.getElem?_eq_some_iff.1 hj).1;have:=hcell j (hn▸hjl);simp only [List.getD_eq_getElem?_getD,hj,Option.getD_some] at this;exact this
 ·intro j u hu
  rw [List.getElem?_map] at hu
  cases hj:ys[j]? with
  | none=>rw [hj] at hu;cases hu
  | some z=>rw [hj] at hu;simp at hu;subst hu;exact hc j z hj
 ·intro u hu
  rw [List.mem_map] at hu;obtain ⟨z,_,rfl⟩:=hu
  rfl
 ·unfold maxLen;omega
 ·omega
 ·intro v' w' h1 h2
  refine h v' w' ?_ ?_
  ·unfold OwnI
   rw [List.length_append,hm,hn,List.map_append];exact h1
  ·exact (Below.refl w.heap.size w).grown h2 (Nat.le_refl _) (fun k hk=>nomatch hk)
def mkV (mk:Nat→Bool) (j:Nat):Option Value:=if mk j=true then some (.bool true) else none
theorem mkV_upd (mk:Nat→Bool) (k:Nat):FR.upd (mkV mk) k (some (.bool true))=mkV (FR.upd mk k true):=by
 funext j;unfold FR.upd mkV;by_cases h:j=k <;> simp [h]
theorem mkV_none:(fun _=>none:Int→Option Value)=mapI (mkV fun _=>false):=(mapI_none (fun _=>rfl)).symm
structure MkI (g:G) (S:LS) (inn:List Ed) (mk:Nat→Bool) (T:List Int) (n:Nat) (L:List Ed) (j:Nat) (gk:Nat):Prop where
 cor:∀a,mk a=true→g.Corner a
 ends:∀e∈inn,∀t:Nat,e.to_=t→g.Corner t→mk t=true∨(t:Int)∈T
 up:∀a b c m,mk a=true→S.eg a b=some (c,m)→S.lev a<S.lev b→mk b=true∨(b:Int)∈T∨(a=n∧∃(i:Nat) (x:Ed),j≤i∧L[i]? = some x∧x.to_=(b:Nat))
 me:T.length+(L.length-j)+300*(257-cntN mk 257)≤gk
 len:T.length≤gk
 dn:(∀a,mk a=true→MkE g S inn a)∧(∀t:Nat,(t:Int)∈T→g.Corner t→MkE g S inn t)∧∀x∈L,mk n=true∧∃(t:Nat) (c:C) (m:Int),x.to_=(t:Nat)∧S.eg n t=some (c,m)
theorem MkI.fin {g : G} {S : LS} {inn : List Ed} {mk : Nat → Bool} {n gk : Nat} {L : List Ed} {fin : Nat → Option C} (I : MkI g S inn mk [] n L L.length gk) (hf : ∀ t, fin t ≠ none → ∃ e ∈ inn, e.to_ = (t : Nat)) :
    ∀b,LS.Marked S (fun t=>g.Corner t∧fin t≠none) b→mk b=true:=by
 rintro b ⟨t,c,⟨h1,h2⟩,hw⟩;obtain ⟨e,he,ht⟩:=hf t h2
 have h0:mk t=true:=(I.ends e he t ht h1).resolve_right (by simp)
 induction hw with
 | nil=>exact h0
 | @snoc x b d e hw he ih=>
  obtain ⟨q1,m,q2⟩:=he
  rcases I.up x b _ m ih q2 q1 with r | r | ⟨_,i,y,r1,r2,_⟩
  ·exact r
  ·simp at r
  ·have:=(List.getElem?_eq_some_iff.1 r2).1;omega
theorem MkI.start {g:G} {S:LS} {inn:List Ed} {T:List Int} (hT:∀e∈inn,e.to_∈T) (hT2:∀z∈T,∃e∈inn,e.to_=z) (n:Nat):MkI g S inn (fun _=>false) T n [] 0 (T.length+300*257):=
 ⟨fun _ h=>(by cases h),fun e he t ht _=>.inr (by rw [←ht];exact hT e he),fun _ _ _ _ h=>(by cases h),by rw [cntN_none];simp,by omega,fun _ h=>(by cases h),fun t ht hc=>⟨t,_,hT2 _ ht,hc,.nil t⟩,fun _ h=>(by simp at h)⟩
theorem MkI.skip {g:G} {S:LS} {inn:List Ed} {mk:Nat→Bool} {T:List Int} {z:Int} {n gk:Nat} {L:List Ed} (I:MkI g S inn mk (T ++ [z]) n L L.length gk) (hz:∀t:Nat,z=t→g.Corner t→mk t=true) (H:Cor g S):MkI g S inn mk T n L L.length (gk-1)∧0<gk:=by
 have h1:=I.me;simp only [List.length_append,List.length_singleton] at h1
 refine ⟨⟨I.cor,fun e he t ht hc=>?_,fun a b c m ha he hl=>?_,by omega,by omega,I.dn.1,fun t ht hc=>I.dn.2.1 t (List.mem_append_left _ ht) hc,I.dn.2.2⟩,by omega⟩
 ·rcases I.ends e he t ht hc with q | q
  ·exact .inl q
  ·rcases List.mem_append.1 q with q | q
   ·exact .inr q
   ·exact .inl (hz t (List.mem_singleton.1 q).symm hc)
 ·rcases I.up a b c m ha he hl with q | q | q
  ·exact .inl q
  ·rcases List.mem_append.1 q with q | q
   ·exact .inr (.inl q)
   ·exact .inl (hz b (List.mem_singleton.1 q).symm (H a b (by rw [he];simp)).2.1)
  ·exact .inr (.inr q)
theorem MkI.mark {g:G} {S:LS} {inn:List Ed} {mk:Nat→Bool} {T:List Int} {x n gk:Nat} {L:List Ed} (hok:g.ok) (hc:Cor g S) (I:MkI g S inn mk (T ++ [(x:Int)]) n L L.length gk) (hx:g.Corner x) (hm:mk x=false):MkI g S inn (FR.upd mk x true) T x (EgL S g.n x) 0 (gk-1)∧0<gk:=by
 have hn:=G.n_le hok;have h1:=I.me
 have h2:cntN (FR.upd mk x true) 257=cntN mk 257+1:=cntN_upd (by have:=hx.1;omega) hm
 have h3:=cntN_le (FR.upd mk x true) 257;have h4:=len_EgL S g.n x;have h5:=I.len;simp only [List.length_append,List.length_singleton] at h1 h5
 have keep:∀a,mk a=true→FR.upd mk x true a=true:=fun a ha=>by
  by_cases e:a=x
  ·rw [e];exact upd_same _ _ _
  ·rw [upd_ne _ _ e];exact ha
 refine ⟨⟨fun a ha=>?_,fun e he t ht hc=>?_,fun a b c m ha he hl=>?_,by omega,by omega,fun a ha=>?_,fun t ht hc=>I.dn.2.1 t (List.mem_append_left _ ht) hc,fun y hy=>?_⟩,by omega⟩
 ·by_cases e:a=x
  ·rw [e];exact hx
  ·rw [upd_ne _ _ e] at ha;exact I.cor a ha
 ·rcases I.ends e he t ht hc with q | q
  ·exact .inl (keep t q)
  ·rcases List.mem_append.1 q with q | q
   ·exact .inr q
   ·have:t=x:=by simp at q;omega
    subst this;exact .inl (upd_same _ _ _)
 ·by_cases e:a=x
  ·subst e
   have hb:=(hc a b (by rw [he];simp)).2.1
   have:(⟨(b:Nat),c,m⟩:Ed)∈EgL S g.n a:=mem_EgL.2 ⟨b,hb.1,rfl,he⟩;obtain ⟨i,hi⟩:=List.getElem?_of_mem this;exact .inr (.inr ⟨rfl,i,_,Nat.zero_le _,hi,rfl⟩)
  ·rw [upd_ne _ _ e] at ha
   rcases I.up a b c m ha he hl with q | q | ⟨_,i,y,r1,r2,_⟩
   ·exact .inl (keep b q)
   ·rcases List.mem_append.1 q with q | q
    ·exact .inr (.inl q)
    ·have:b=x:=by simp at q;omega
     subst this;exact .inl (upd_same _ _ _)
   ·have:=(List.getElem?_eq_some_iff.1 r2).1;omega
 ·by_cases e:a=x
  ·rw [e];exact I.dn.2.1 x (by simp) hx
  ·rw [upd_ne _ _ e] at ha;exact I.dn.1 a ha
 ·obtain ⟨t,_,q1,q2⟩:=mem_EgL.1 hy
  exact ⟨upd_same _ _ _,t,_,_,q1,q2⟩
theorem MkI.next {g : G} {S : LS} {inn : List Ed} {mk : Nat → Bool} {T T' : List Int} {n gk j : Nat} {L : List Ed} (I : MkI g S inn mk T n L j gk) {e : Ed} (he : L[j]? = some e)
    (hT:(T'=T ++ [e.to_]∧∀b:Nat,e.to_=b→S.lev n<S.lev b)∨(T'=T∧∀b:Nat,e.to_=b→¬S.lev n<S.lev b)):MkI g S inn mk T' n L (j+1) gk:=by
 have hj:=(List.getElem?_eq_some_iff.1 he).1;have h1:=I.me;have h5:=I.len
 have sub:∀z∈T,z∈T':=fun z hz=>by
  rcases hT with ⟨rfl,_⟩ | ⟨rfl,_⟩
  ·exact List.mem_append_left _ hz
  ·exact hz
 have hlen:T'.length≤T.length+1:=by
  rcases hT with ⟨rfl,_⟩ | ⟨rfl,_⟩
  ·simp
  ·omega
 refine ⟨I.cor,fun e he t ht hc=>(I.ends e he t ht hc).imp_right (sub _),fun a b c m ha hab hl=>?_,by omega,by omega,I.dn.1,fun t ht hc=>?_,I.dn.2.2⟩
 rcases I.up a b c m ha hab hl with q | q | ⟨q,i,y,r1,r2,r3⟩
 ·exact .inl q
 ·exact .inr (.inl (sub _ q))
 ·by_cases e1:i=j
  ·subst e1
   rw [he] at r2;injection r2 with r2;subst r2
   rcases hT with ⟨rfl,_⟩ | ⟨rfl,hno⟩
   ·exact .inr (.inl (List.mem_append_right _ (by rw [r3];simp)))
   ·subst q;exact absurd hl (hno b r3)
  ·exact .inr (.inr ⟨q,i,y,by omega,r2,r3⟩)
 ·rcases hT with ⟨rfl,hup⟩ | ⟨rfl,_⟩
  ·rcases List.mem_append.1 ht with q | q
   ·exact I.dn.2.1 t q hc
   ·have q:e.to_=(t:Nat):=(List.mem_singleton.1 q).symm
    obtain ⟨k1,t',c,m,k2,k3⟩:=I.dn.2.2 e (List.mem_of_getElem? he)
    obtain rfl:t'=t:=by omega
    exact (I.dn.1 n k1).up (hup t' q) k3
  ·exact I.dn.2.1 t ht hc
theorem MkI.done {g:G} {S:LS} {inn:List Ed} {mk:Nat→Bool} {T:List Int} {n gk:Nat} {L:List Ed} (I:MkI g S inn mk T n L L.length gk) (h:T=[]):T=[]:=h
structure FinK (inn:List Ed) (k:Nat) (f:Int→Option C):Prop where
 some_:∀z c,f z=some c→∃e∈inn,e.to_=z∧e.c=c
 least:∀(i:Nat) (e:Ed),i<k→inn[i]? = some e→∃c,f e.to_=some c∧C.le c e.c
theorem FinK.start (inn:List Ed):FinK inn 0 (fun _=>none):=⟨fun _ _ h=>(by cases h),fun i e h=>by omega⟩
def updF (f:Int→Option C) (z:Int) (c:C):Int→Option C:=fun y=>if y=z then some c else f y
def lowF (f:Int→Option C) (z:Int) (c:C):Bool:=match f z with | none=>true | some d=>decide (C.cmp c d<0)
def putF (f:Int→Option C) (z:Int) (c:C) (t:Bool):Int→Option C:=if t=true then updF f z c else f
def finV (f:Int→Option C) (z:Int):Option Value:=(f z).map costV
theorem finV_upd (f:Int→Option C) (z:Int) (c:C):updK (finV f) z (some (costV c))=finV (updF f z c):=by
 funext y;unfold updK finV updF;split <;> rfl
theorem FinK.step {inn:List Ed} {k:Nat} {f:Int→Option C} (h:FinK inn k f) {e:Ed} (he:inn[k]? = some e):FinK inn (k+1) (putF f e.to_ e.c (lowF f e.to_ e.c)):=by
 have hm:=List.mem_of_getElem? he
 cases ht:lowF f e.to_ e.c with
 | false=>
  unfold putF;rw [if_neg (by simp)]
  refine ⟨h.some_,fun i x hi hx=>?_⟩
  by_cases e1:i=k
  ·subst e1
   rw [he] at hx;injection hx with hx;subst hx
   unfold lowF at ht
   cases hf:f e.to_ with
   | none=>rw [hf] at ht;cases ht
   | some d=>
    rw [hf] at ht;simp at ht;exact ⟨d,rfl,C.cmp_nonneg.1 ht⟩
  ·exact h.least i x (by omega) hx
 | true=>
  unfold putF;rw [if_pos rfl]
  refine ⟨fun z c hz=>?_,fun i x hi hx=>?_⟩
  ·unfold updF at hz
   split at hz
   ·rename_i q;injection hz with hz;exact ⟨e,hm,q.symm,hz⟩
   ·exact h.some_ z c hz
  ·unfold updF
   by_cases e2:x.to_=e.to_
   ·rw [if_pos e2]
    refine ⟨_,rfl,?_⟩
    by_cases e1:i=k
    ·subst e1
     rw [he] at hx;injection hx with hx;subst hx
     exact C.le_refl _
    ·obtain ⟨c,q1,q2⟩:=h.least i x (by omega) hx
     rw [e2] at q1;unfold lowF at ht;rw [q1] at ht;simp at ht;exact C.le_trans (C.le_of_lt (C.cmp_neg.1 ht)) q2
   ·rw [if_neg e2]
    by_cases e1:i=k
    ·subst e1
     rw [he] at hx;injection hx with hx;subst hx
     exact absurd rfl e2
    ·exact h.least i x (by omega) hx
theorem srcO_corner {g:G} {out:List Ed}:∀s c,SrcO g out s c→g.Corner s:=fun _ _ h=>h.1
theorem best_found {g : G} {tp : Nat} {S : LS} {mark : Nat → Bool} {f : Int → Option C} {out inn : List Ed} (H : LS.Fin g tp S) (hok : g.ok) (hf : FinK inn inn.length f) (hm : ∀ b, LS.Marked S (fun t => g.Corner t ∧ f (t : Nat) ≠ none) b → mark b = true)
    {c:C} (hd:RDist (srE S tp mark (fun t=>f (t:Nat))) (SrcO g out) 256 c):BestIs g out inn c true:=by
 obtain ⟨h1,h2⟩:=(LS.search_dist H (G.n_le hok) srcO_corner hm).1 hd
 refine ⟨(fun h=>nomatch h),fun _=>⟨?_,?_⟩⟩
 ·obtain ⟨s,c0,t,d,e,hs,_,hw,hfe,rfl⟩:=h1
  obtain ⟨x,hx,ht,rfl⟩:=hf.some_ _ _ hfe;exact ⟨t,C.add c0 d,x,⟨s,c0,d,hs,hw,rfl⟩,hx,ht,rfl⟩
 ·rintro x ⟨t,c1,e,⟨s,c0,d,hs,hw,rfl⟩,he,ht,rfl⟩
  obtain ⟨i,hi⟩:=List.getElem?_of_mem he;obtain ⟨c',q1,q2⟩:=hf.least i e (List.getElem?_eq_some_iff.1 hi).1 hi;rw [ht] at q1;exact C.le_trans (h2 _ ⟨s,c0,t,d,c',hs,hs.1,hw,q1,rfl⟩) (C.add_le_add (C.le_refl _) q2)
theorem best_lost {g : G} {tp : Nat} {S : LS} {mark : Nat → Bool} {f : Int → Option C} {out inn : List Ed} (H : LS.Fin g tp S) (hok : g.ok) (hf : FinK inn inn.length f) (hm : ∀ b, LS.Marked S (fun t => g.Corner t ∧ f (t : Nat) ≠ none) b → mark b = true)
    (hd:∀d,¬FR.Reach (srE S tp mark (fun t=>f (t:Nat))) (SrcO g out) 256 d):BestIs g out inn C.zero false:=by
 refine ⟨fun _=>⟨rfl,?_⟩,(fun h=>nomatch h)⟩
 rintro x ⟨t,c1,e,⟨s,c0,d,hs,hw,rfl⟩,he,ht,rfl⟩;obtain ⟨i,hi⟩:=List.getElem?_of_mem he;obtain ⟨c',q1,q2⟩:=hf.least i e (List.getElem?_eq_some_iff.1 hi).1 hi;rw [ht] at q1
 obtain ⟨y,hy,_⟩:=LS.tot_se (src:=SrcO g out) (fin:=fun t=>f (t:Nat)) H (G.n_le hok) hm ⟨s,c0,t,d,c',hs,hs.1,hw,q1,rfl⟩
 exact hd y hy
def bkV (lab:Nat→Option C) (bk:Nat→Int) (j:Nat):Option Value:=(lab j).map fun _=>.int .i64 (bk j)
theorem bkV_upd (lab:Nat→Option C) (bk:Nat→Int) (k:Nat) (c:C) (z:Int):FR.upd (bkV lab bk) k (some (.int .i64 z))=bkV (FR.upd lab k (some c)) (FR.upd bk k z):=by
 funext j;unfold FR.upd bkV;split <;> simp_all
structure HtS (W w:World) (x l mk me mc mb q:Nat) (gv:Value) (Sh:List Nat) (mkM enM:Int→Option Value) (lab hp:Nat→Option C) (bk:Nat→Int):Prop where
 hx:w.heap[x]? = some (.cells #[.pointer (some ⟨l,0,none⟩),gv,.map (some mk),.map (some me),.map (some mc),.map (some mb),.pointer (some ⟨q,0,none⟩)] 250 (0,0))
 mapK:∃n,MapAt iK w mk mkM n
 mapE:∃n,MapAt iK w me enM n
 mapC:∃n,MapAt iK w mc (mapI (doneV lab)) n
 mapB:∃n,MapAt iK w mb (mapI (bkV lab bk)) n
 heap:HeapOf w Sh q (cntS hp 257) (hpI hp)
 ne:x≠mc∧x≠mb∧mk≠mc∧mk≠mb∧me≠mc∧me≠mb∧mc≠mb
 dis:x∉Sh∧mk∉Sh∧me∉Sh∧mc∉Sh∧mb∉Sh
 own:W.heap.size≤mc∧W.heap.size≤mb∧∀k∈Sh,W.heap.size≤k
 bel:Below W.heap.size W w
section
variable {W w w':World} {x l mk me mc mb q:Nat} {gv:Value} {Sh:List Nat} {mkM enM:Int→Option Value} {lab hp:Nat→Option C} {bk:Nat→Int}
theorem HtS.below (h:HtS W w x l mk me mc mb q gv Sh mkM enM lab hp bk) (hb:Below w.heap.size w w'):HtS W w' x l mk me mc mb q gv Sh mkM enM lab hp bk:=by
 obtain ⟨hx,⟨n1,h1⟩,⟨n2,h2⟩,⟨n3,h3⟩,⟨n4,h4⟩,hh,h5,h6,h7,h8⟩:=h;exact ⟨(hb.block x (Array.getElem?_eq_some_iff.1 hx).1).trans hx,⟨n1,h1.below hb⟩,⟨n2,h2.below hb⟩,⟨n3,h3.below hb⟩,⟨n4,h4.below hb⟩,hh.below hb,h5,h6,h7,bel_trans h8 (hb.mono (Nat.le_refl _))⟩
theorem HtS.lts (h:HtS W w x l mk me mc mb q gv Sh mkM enM lab hp bk):x<w.heap.size∧mk<w.heap.size∧me<w.heap.size∧mc<w.heap.size∧mb<w.heap.size∧∀k∈Sh,k<w.heap.size:=by
 obtain ⟨hx,⟨n1,h1⟩,⟨n2,h2⟩,⟨n3,h3⟩,⟨n4,h4⟩,hh,h5,h6,h7,h8⟩:=h;exact ⟨(Array.getElem?_eq_some_iff.1 hx).1,h1.lt,h2.lt,h3.lt,h4.lt,hh.lt⟩
theorem HtS.cells (h : HtS W w x l mk me mc mb q gv Sh mkM enM lab hp bk) : w.cell? ⟨x, 0, none⟩ = some (.pointer (some ⟨l, 0, none⟩)) ∧ w.cell? ⟨x, 1, none⟩ = some gv ∧ w.cell? ⟨x, 2, none⟩ = some (.map (some mk)) ∧ w.cell? ⟨x, 3, none⟩ = some (.map (some me)) ∧
    w.cell? ⟨x,4,none⟩=some (.map (some mc))∧w.cell? ⟨x,5,none⟩=some (.map (some mb))∧w.cell? ⟨x,6,none⟩=some (.pointer (some ⟨q,0,none⟩)):=by
 have:=h.hx;simp [World.cell?,this]
theorem HtS.pushed {hp2 : Nat → Option C} {u : Value} {e : Ending} (h : HtS W w x l mk me mc mb q gv Sh mkM enM lab hp bk) (hD : HeapD w Sh q (cntS hp2 257) (hpI hp2) u e w') :
    ∃S',HtS W w' x l mk me mc mb q gv S' mkM enM lab hp2 bk∧(∀k∈S',k∈Sh∨w.heap.size≤k)∧Kept Sh w w':=by
 obtain ⟨_,S',g1,g2,g3⟩:=hD;obtain ⟨l1,l2,l3,l4,l5,_⟩:=h.lts;obtain ⟨hx,⟨n1,h1⟩,⟨n2,h2⟩,⟨n3,h3⟩,⟨n4,h4⟩,hh,h5,⟨d1,d2,d3,d4,d5⟩,⟨o1,o2,o3⟩,h8⟩:=h
 have nin:∀k,k∉Sh→k<w.heap.size→k∉S':=fun k hk hl hm=>by
  rcases g2 k hm with r | r
  ·exact hk r
  ·omega
 refine ⟨S',⟨(g3.block x l1 d1).trans hx,⟨n1,h1.kept g3 d2⟩,⟨n2,h2.kept g3 d3⟩,⟨n3,h3.kept g3 d4⟩,⟨n4,h4.kept g3 d5⟩,g1,h5,⟨nin _ d1 l1,nin _ d2 l2,nin _ d3 l3,nin _ d4 l4,nin _ d5 l5⟩,⟨o1,o2,fun k hk=>?_⟩,Kept.below h8 g3 h8.size o3⟩,g2,g3⟩
 rcases g2 k hk with r | r
 ·exact o3 k r
 ·exact Nat.le_trans h8.size r
theorem HtS.popped {hp2:Nat→Option C} (h:HtS W w x l mk me mc mb q gv Sh mkM enM lab hp bk) (hH:HeapOf w' Sh q (cntS hp2 257) (hpI hp2)) (g3:Kept Sh w w'):HtS W w' x l mk me mc mb q gv Sh mkM enM lab hp2 bk:=by
 obtain ⟨l1,l2,l3,l4,l5,_⟩:=h.lts;obtain ⟨hx,⟨n1,h1⟩,⟨n2,h2⟩,⟨n3,h3⟩,⟨n4,h4⟩,hh,h5,⟨d1,d2,d3,d4,d5⟩,⟨o1,o2,o3⟩,h8⟩:=h;exact ⟨(g3.block x l1 d1).trans hx,⟨n1,h1.kept g3 d2⟩,⟨n2,h2.kept g3 d3⟩,⟨n3,h3.kept g3 d4⟩,⟨n4,h4.kept g3 d5⟩,hH,h5,⟨d1,d2,d3,d4,d5⟩,⟨o1,o2,o3⟩,Kept.below h8 g3 h8.size o3⟩
theorem HtS.laid {w1 w2 : World} {b n1 n2 : Nat} {cs cd z : Int} (h : HtS W w x l mk me mc mb q gv Sh mkM enM lab hp bk) (hm1 : MapAt iK w1 mc (updK (mapI (doneV lab)) ((b : Nat) : Int) (some (.agg #[.int .i64 cs, .int .i64 cd]))) n1) (hk1 : Kept [mc] w w1)
    (hm2:MapAt iK w2 mb (updK (mapI (bkV lab bk)) ((b:Nat):Int) (some (.int .i64 z))) n2) (hk2:Kept [mb] w1 w2):HtS W w2 x l mk me mc mb q gv Sh mkM enM (FR.upd lab b (some ⟨cs,cd⟩)) hp (FR.upd bk b z):=by
 rw [mapI_upd,show (some (Value.agg #[.int .i64 cs,.int .i64 cd]):Option Value)=some (costV ⟨cs,cd⟩) from rfl,doneV_upd] at hm1
 rw [mapI_upd,bkV_upd lab bk b ⟨cs,cd⟩ z] at hm2;obtain ⟨l1,l2,l3,l4,l5,_⟩:=h.lts;have hs1:=hk1.size;obtain ⟨hx,⟨n1,h1⟩,⟨n2,h2⟩,⟨n3,h3⟩,⟨n4,h4⟩,hh,⟨e1,e2,e3,e4,e5,e6,e7⟩,⟨d1,d2,d3,d4,d5⟩,⟨o1,o2,o3⟩,h8⟩:=h
 refine ⟨(hk2.block x (by omega) (by simpa using e2)).trans ((hk1.block x l1 (by simpa using e1)).trans hx),⟨n1,(h1.kept hk1 (by simpa using e3)).kept hk2 (by simpa using e4)⟩,⟨n2,(h2.kept hk1 (by simpa using e5)).kept hk2 (by simpa using e6)⟩,⟨_,hm1.kept hk2 (by simpa using e7)⟩,⟨_,hm2⟩,?_,⟨e1,e2,e3,e4,e5,e6,e7⟩,⟨d1,d2,d3,d4,d5⟩,⟨o1,o2,o3⟩,?_⟩
 ·refine (hh.kept hk1 fun k hk hm=>?_).kept hk2 fun k hk hm=>?_
  ·simp at hm;subst hm;exact d4 hk
  ·simp at hm;subst hm;exact d5 hk
 ·refine Kept.below (Kept.below h8 hk1 h8.size ?_) hk2 (by have:=h8.size;omega) ?_
  ·intro k hk;simp at hk;subst hk;exact o1
  ·intro k hk;simp at hk;subst hk;exact o2
end
def GuessOk (W:World) (gf:Nat) (gc:Array Value) (g:G) (h:Nat→C):Prop:=
 (∀(args:Array Value) (w:World),(callFunc gf args).run Tryz.prog w=.ok (.enter gf args) w)∧∀w,Below W.heap.size W w→∀n:Nat,g.Corner n→Calls Tryz.prog gf (#[.int .i64 (n:Nat)] ++ gc) w fun e w'=>e=.returned (.agg #[.int .i64 (h n).s,.int .i64 (h n).d])∧Below w.heap.size w w'
structure MkS (W w:World) (mm:Nat) (mk:Nat→Bool) (tv:Value) (T:List Int):Prop where
 map:∃n,MapAt iK w mm (mapI (mkV mk)) n
 own:OwnI w W.heap.size tv T
 ne:tv.ownBlock≠some mm
 at_:W.heap.size≤mm
 bel:Below W.heap.size W w
theorem MkS.below {W w w':World} {mm:Nat} {mk:Nat→Bool} {tv:Value} {T:List Int} (h:MkS W w mm mk tv T) (hb:Below w.heap.size w w'):MkS W w' mm mk tv T:=by
 obtain ⟨⟨n,h1⟩,h2,h3,h4,h5⟩:=h;exact ⟨⟨n,h1.below hb⟩,h2.below (B':=0) hb,h3,h4,bel_trans h5 (hb.mono (Nat.le_refl _))⟩
theorem MkS.push {W w w':World} {mm:Nat} {mk:Nat→Bool} {tv v':Value} {T T':List Int} (h:MkS W w mm mk tv T) (ho:OwnI w' W.heap.size v' T') (hg:w.grownBy w' tv.ownBlock) (hat:v'.ownBlock=tv.ownBlock∨v'.ownBlock=some w.heap.size):MkS W w' mm mk v' T':=by
 obtain ⟨⟨n,h1⟩,h2,h3,h4,h5⟩:=h;have hl:=h1.lt
 have hk:Kept tv.ownBlock.toList w w':=⟨hg.os,hg.tape,hg.output,hg.size,fun q hq hn=>hg.block q hq (fun e=>hn (by rw [←e];simp))⟩
 refine ⟨⟨n,h1.kept hk fun hm=>h3 (by rw [Option.mem_toList] at hm;exact hm)⟩,ho,fun e=>?_,h4,below_grown h5 h5.size h2 hg⟩
 rcases hat with q | q
 ·exact h3 (by rw [←q];exact e)
 ·rw [q] at e;injection e with e;omega
theorem MkS.drop {W w:World} {mm g n m:Nat} {mk:Nat→Bool} {T:List Int} {z:Int} (h:MkS W w mm mk (.slice (some ⟨g,0,none⟩) (n+1) m) (T ++ [z])) (hn:T.length=n):MkS W w mm mk (.slice (some ⟨g,0,none⟩) n m) T:=
 ⟨h.map,h.own.drop1 hn,h.ne,h.at_,h.bel⟩
theorem MkS.mark {W w w':World} {mm n:Nat} {mk:Nat→Bool} {tv:Value} {T:List Int} {t:Nat} (h:MkS W w mm mk tv T) (hm:MapAt iK w' mm (updK (mapI (mkV mk)) ((t:Nat):Int) (some (.bool true))) n) (hk:Kept [mm] w w'):MkS W w' mm (FR.upd mk t true) tv T:=by
 rw [mapI_upd,mkV_upd] at hm;obtain ⟨_,h2,h3,h4,h5⟩:=h
 refine ⟨⟨n,hm⟩,?_,h3,h4,Kept.below h5 hk h5.size (fun k hk=>by simp at hk;subst hk;exact h4)⟩
 refine World.ownsRow.kept (row:=some mm) h2 ⟨hk.os,hk.tape,hk.output,hk.size,fun k hl hn=>hk.block k hl (by simpa using fun e=>hn (by rw [e]))⟩ ?_
 cases hv:tv.ownBlock with
 | none=>exact .inl rfl
 | some q=>exact .inr (by rw [←hv];exact h3)
def MkD (w:World) (g:G) (S:LS) (inn:List Ed) (e:Ending) (w':World):Prop:=∃mm mk,e=.returned (.map (some mm))∧(∃n,MapAt iK w' mm (mapI (mkV mk)) n)∧w.heap.size≤mm∧Below w.heap.size w w' ∧
 (∀f:Nat→Option C,(∀t,f t≠none→∃e∈inn,e.to_=(t:Nat))→∀b,LS.Marked S (fun t=>g.Corner t∧f t≠none) b→mk b=true)∧∀b,mk b=true→MkE g S inn b
theorem mkLook {w:World} {mm n:Nat} {mk:Nat→Bool} (h:MapAt iK w mm (mapI (mkV mk)) n) (z:Int) (u:Bool) (hu:(0≤z∧mk z.toNat=true)↔u=true):∀w',Below w.heap.size w w'→(Instr.lookup 244 (.map (some mm)) (.int .i64 z) false).run Tryz.prog w'=.ok (.bool u) w':=fun w' hb=>by
 have:=((h.below hb).look (int_fit Tryz.underlying3) Tryz.underlying244 (bool_zero w') z).2
 have e:((mapI (mkV mk) z).getD (.bool false))=.bool u:=by
  unfold mapI mkV
  by_cases h0:0≤z
  ·rw [if_pos h0]
   by_cases h1:mk z.toNat=true
   ·rw [if_pos h1,hu.1 ⟨h0,h1⟩];rfl
   ·rw [if_neg h1]
    cases u with
    | false=>rfl
    | true=>exact absurd (hu.2 rfl).2 h1
  ·rw [if_neg h0]
   cases u with
   | false=>rfl
   | true=>exact absurd (hu.2 rfl).1 h0
 rw [e] at this;exact this
def MkO (W:World) (mm:Nat) (g:G) (S:LS) (inn:List Ed) (gk:Nat) (tv:Value) (wr:World):Prop:=∃mk T n L,MkS W wr mm mk tv T∧MkI g S inn mk T n L L.length gk
def MkL (W:World) (mm:Nat) (g:G) (S:LS) (inn:List Ed) (mk:Nat→Bool) (x:Nat) (A:Option Addr) (L:List Ed) (gk j:Nat) (tv:Value) (wr:World):Prop:=
 ∃T,MkS W wr mm mk tv T∧MkI g S inn mk T x L j gk∧EdsAt wr A L∧(0<L.length→∀ad,A=some ad→tv.ownBlock≠some ad.block)
theorem MkL.push {W w w' : World} {mm : Nat} {g : G} {S : LS} {inn : List Ed} {mk : Nat → Bool} {x gk j : Nat} {A : Option Addr} {L : List Ed} {tv v' : Value} {T : List Int} {e : Ed} (hS : MkS W w mm mk tv T) (hM : MkI g S inn mk T x L j gk) (hE : EdsAt w A L) (hA : 0 < L.length → ∀ ad, A = some ad → tv.ownBlock ≠ some ad.block)
    (he:L[j]? = some e) (hup:∀b:Nat,e.to_=b→S.lev x<S.lev b) (ho:OwnI w' W.heap.size v' (T ++ [e.to_])) (hg:w.grownBy w' tv.ownBlock) (hat:v'.ownBlock=tv.ownBlock∨v'.ownBlock=some w.heap.size):MkL W mm g S inn mk x A L gk (j+1) v' w':=by
 have hk:Kept tv.ownBlock.toList w w':=⟨hg.os,hg.tape,hg.output,hg.size,fun q hq hn=>hg.block q hq (fun e=>hn (by rw [←e];simp))⟩
 refine ⟨_,hS.push ho hg hat,hM.next he (.inl ⟨rfl,hup⟩),fun hl=>?_,fun hl ad e=>?_⟩
 ·exact (hE.kept (T:=tv.ownBlock.toList) hk (fun ad e hm=>hA hl ad e (by rw [Option.mem_toList] at hm;exact hm))) hl
 ·rcases hat with q | q
  ·rw [q];exact hA hl ad e
  ·rw [q]
   obtain ⟨g',e',hlt,_⟩:=hE hl
   rw [e'] at e;injection e with e;subst e
   simp;omega
theorem MkL.skip {W w : World} {mm : Nat} {g : G} {S : LS} {inn : List Ed} {mk : Nat → Bool} {x gk j t : Nat} {A : Option Addr} {L : List Ed} {tv : Value} {T : List Int} {e : Ed} (hS : MkS W w mm mk tv T) (hM : MkI g S inn mk T x L j gk) (hE : EdsAt w A L) (hA : 0 < L.length → ∀ ad, A = some ad → tv.ownBlock ≠ some ad.block)
    (he:L[j]? = some e) (ht:e.to_=(t:Nat)) (hno:¬S.lev x<S.lev t):MkL W mm g S inn mk x A L gk (j+1) tv w:=
 ⟨_, hS, hM.next he (.inr ⟨rfl, fun b hb => by obtain rfl : t = b := by omega
                                               exact hno⟩),hE,hA⟩
theorem MkL.below {W w w':World} {mm:Nat} {g:G} {S:LS} {inn:List Ed} {mk:Nat→Bool} {x gk j:Nat} {A:Option Addr} {L:List Ed} {tv:Value} (h:MkL W mm g S inn mk x A L gk j tv w) (hb:Below w.heap.size w w'):MkL W mm g S inn mk x A L gk j tv w':=by
 obtain ⟨T,h1,h2,h3,h4⟩:=h;exact ⟨T,h1.below hb,h2,h3.below hb,h4⟩
theorem srMarked (w : World) (b ml me nl : Nat) (Sb : List Nat) (top : Int) (g : G) (S : LS) (hok : g.ok) (hc : Cor g S) (h : LvOf w b ml me Sb top (levV g S) nl (egE g S)) (A0 : Option Addr) (n0 m0 : Nat) (inn : List Ed) (hI : EdsO w A0 inn) (hn0 : inn.length = n0) (hn1 : n0 ≤ 1000) :
    Calls Tryz.prog 144 #[.pointer (some ⟨b,0,none⟩),.slice A0 n0 m0] w (MkD w g S inn):=by
 have hn:=G.n_le hok;have hmm:=@run_makeMap Tryz.prog;have H:=Lib.hid h;have Hc:=Lib.hid (And.intro hc hok);have HI:=Lib.hid hI;have Hn:=Lib.hid (And.intro hn hn0);clear h hc hok hI hn hn0;go_enter Tryz.func144,Tryz.ntmps144
 go_upto_region 2 with (fail)
 refine wp_name ?_;intro W1 hW1
 have HW1:Below w.heap.size w W1:=by rw [hW1];(repeat' (first | exact Below.refl _ _ | assumption | apply bel_drewN | apply bel_drew | apply bel_alloc | (refine bel_trans ?_ (by assumption))))
 have hM1:MapAt iK W1 w.heap.size (fun _=>none) 0:=by rw [hW1];exact MapAt.made w
 obtain ⟨mm,hmo⟩:∃mo,w.heap.size=mo:=⟨_,rfl⟩
 rw [hmo] at hM1 ⊢
 have hS1:MkS w W1 mm (fun _=>false) (.slice none 0 0) []:=⟨⟨0,by rw [←mkV_none];exact hM1⟩,OwnI.nil _ _,fun e=>(nomatch e),by omega,HW1⟩
 clear hW1 hmm hM1 HW1;go_wp2_with fail
 go_loopw [6,21] (fun tv kv wr=>∃i:Nat,kv=.int .i64 i∧i≤n0∧MkS w wr mm (fun _=>false) tv ((inn.take i).map Ed.to_)) (fun _ kv _=>n0-(intOf kv).toNat)
 case atStart=>exact ⟨0,rfl,by omega,hS1⟩
 case round=>
  obtain ⟨i,rfl,hi,hS⟩:=hrel;clear hS1
  by_cases hlt:i<n0
  ·obtain ⟨e,he⟩:∃e,inn[i]? = some e:=⟨inn[i]'(by rw [Hn.out.2];exact hlt),List.getElem?_eq_getElem _⟩
   obtain ⟨gb,ob,hA,a1,a2,a3,a4⟩:=(HI.out.below hS.bel).get he
   have hix:=fun wx=>idxO (m:=m0) hA hlt wx
   have htk:(inn.take (i+1)).map Ed.to_=(inn.take i).map Ed.to_ ++ [e.to_]:=by
    obtain ⟨q1,q2⟩:=List.getElem?_eq_some_iff.1 he;rw [List.take_succ_eq_append_getElem q1,List.map_append,q2];rfl
   have hlen:((inn.take i).map Ed.to_).length≤1000:=by rw [List.length_map,List.length_take];omega
   obtain ⟨T,hT⟩:∃T,(inn.take i).map Ed.to_=T:=⟨_,rfl⟩;rw [hT] at hS htk hlen;obtain ⟨x,hx⟩:∃x,e.to_=x:=⟨_,rfl⟩;rw [hx] at a1 htk;obtain ⟨xs,hxs⟩:∃x,e.c.s=x:=⟨_,rfl⟩;obtain ⟨xd,hxd⟩:∃x,e.c.d=x:=⟨_,rfl⟩;obtain ⟨xm,hxm⟩:∃x,e.mid=x:=⟨_,rfl⟩;rw [hxs] at a2;rw [hxd] at a3;rw [hxm] at a4;have Htk:=Lib.hid htk;have HS:=Lib.hid hS;have hwr:=hS.bel.size;clear hA he hx hxs hxd hxm htk hT hS
   go_upto_region 6 with (fail)
   refine wp_name ?_;intro W2 hW2
   have HW2:Below wr.heap.size wr W2:=by rw [hW2];(repeat' (first | exact Below.refl _ _ | assumption | apply bel_drewN | apply bel_drew | apply bel_alloc | (refine bel_trans ?_ (by assumption))))
   have o0:W2.cell? ⟨wr.heap.size,0,none⟩=some (.int .i64 x):=by rw [hW2];go_simp
   obtain ⟨b8,hb8⟩:∃z,wr.heap.size=z:=⟨_,rfl⟩;have HS2:=Lib.hid (HS.out.below HW2);have hw2:=HW2.size
   rw [hb8] at o0 ⊢
   clear hW2 HW2 HS a1 a2 a3 a4 hix hb8
   go_wp2_with (at_builtin;(refine wpList_append_int2 _ rfl _ _ rfl w.heap.size _ T x rfl (HS2.out.own.alloc _) ⟨W2.heap.size,0,none⟩ rfl (cell1_new _ _ _) (by omega) (by simp;omega) ?_);intro v' w9 hown9 hgrow hat)
   have hF:=(HS2.out.below (bel_alloc (Below.refl _ _))).push hown9 hgrow hat;rw [←Htk.out] at hF;have hF:=Lib.hid hF;clear hown9 hgrow hat HS2 o0;go_wp2;go_roundw
   case rel=>first | exact ⟨i+1,by go_num,by omega,hF.out⟩ | ((repeat apply Exists.intro);exact ⟨⟨i+1,by go_num,by omega,hF.out⟩,rfl⟩)
   case measure=>simp [intOf];omega
  ·obtain rfl:i=n0:=by omega
   rw [List.take_of_length_le (by rw [Hn.out.2];exact Nat.le_refl _)] at hS
   have hI0:=MkI.start (g:=g) (S:=S) (inn:=inn) (T:=inn.map Ed.to_) (fun e he=>List.mem_map_of_mem he) (fun z hz=>by obtain ⟨e,h1,h2⟩:=List.mem_map.1 hz;exact ⟨e,h1,h2⟩) 0
   obtain ⟨G0,hG0⟩:∃z,(inn.map Ed.to_).length+300*257=z:=⟨_,rfl⟩
   have hGle:G0≤80000:=by rw [←hG0,List.length_map,Hn.out.2];omega
   rw [hG0] at hI0;have hst:MkO w mm g S inn G0 u6 wr:=⟨_,_,0,[],hS,hI0⟩;clear hS hI0 hG0;go_wp2_with fail
   go_loopg [6] G0 (fun gk tv wr=>gk≤80000∧MkO w mm g S inn gk tv wr)
   case atStart=>exact ⟨hGle,hst⟩
   case round=>
    obtain ⟨hgk,mk,T,n,L,hS,hM⟩:=hrel;clear hst
    by_cases hT0:T.length=0
    ·have hT:T=[]:=List.length_eq_zero_iff.1 hT0
     subst hT
     obtain ⟨A6,m6,hv6⟩:∃A m,u6=.slice A 0 m:=by
      obtain ⟨A,m,e,_⟩:=hS.own.ints;exact ⟨A,m,e⟩
     subst hv6;obtain ⟨nm,hmm⟩:=hS.map
     have hF:MkD w g S inn (.returned (.map (some mm))) wr:=⟨mm,mk,rfl,⟨nm,hmm⟩,hS.at_,hS.bel,fun f hf=>MkI.fin hM hf,hM.dn.1⟩
     have hF:=Lib.hid hF;clear hS hM hmm;go_wp2;go_ret;exact hF.out
    ·obtain ⟨T',z,hTz⟩:∃T' z,T=T' ++ [z]:=⟨T.dropLast,T.getLast (by rintro rfl;exact hT0 rfl),(List.dropLast_concat_getLast _).symm⟩
     subst hTz
     obtain ⟨g6,m6,hv6,hm6⟩:=hS.own.addr (by simp)
     obtain ⟨k,hk⟩:∃k,T'.length=k:=⟨_,rfl⟩
     have hl:(T' ++ [z]).length=k+1:=by simp [hk]
     rw [hl] at hv6 hm6;subst hv6
     have c6:wr.cell? ⟨g6,k,none⟩=some (.int .i64 z):=hS.own.cell (by rw [←hk];simp)
     have hk8:k≤80000:=by have:=hM.len;rw [hl] at this;omega
     have hS':=hS.drop hk;have hM':=hM;have HS:=Lib.hid (And.intro hS' hk);have HM:=Lib.hid hM
     have hq1:k<m6:=by omega
     have hq2:k≤m6:=by omega
     have hbw:=hS.bel;clear hS hM hS' hM' hk hl hT0
     by_cases hcor:∃t:Nat,z=t∧g.Corner t
     ·obtain ⟨t,rfl,hct⟩:=hcor
      have hlvt:=levV_at (g:=g) (S:=S) hct;obtain ⟨lt,hlt⟩:∃q,S.lev t=q:=⟨_,rfl⟩;rw [hlt] at hlvt;have cV:=Lib.hid (lvLevel_in wr b ml me nl Sb top (levV g S) (egE g S) (H.out.below hbw) (t:Nat) _ hlvt)
      have cE:=Lib.hid (fun w' (hb:Below w.heap.size w w')=>lvEdgesP_in w' b ml me nl Sb top (levV g S) (egE g S) (H.out.below hb) (t:Nat) _ hlvt (EgL S g.n t) (egE_at hct) (by have:=len_EgL S g.n t;have:=Hn.out.1;omega))
      have Hct:=Lib.hid (And.intro hct hlt);obtain ⟨nM,hmM⟩:=HS.out.1.map;obtain ⟨mt,hmt⟩:∃q,mk t=q:=⟨_,rfl⟩
      have hlk:=mkLook hmM ((t:Nat):Int) mt (by rw [←hmt];simp) wr (Below.refl _ _)
      have Hmt:=Lib.hid hmt;have hmM:=Lib.hid hmM;clear hlvt hct hlt hmt;go_wp2_with fail
      (with_reducible refine cV.out.mono ?_)
      rintro e w' ⟨rfl,rfl⟩;clear cV
      cases mt with
      | true=>
       obtain ⟨hM2, hpos⟩ := HM.out.skip (fun t' ht hc => by obtain rfl : t = t' := by omega
                                                             exact Hmt.out) Hc.out.1
       have hF:gk-1≤80000∧MkO w mm g S inn (gk-1) (.slice (some ⟨g6,0,none⟩) k m6) wr:=⟨by omega,_,_,n,L,HS.out.1,hM2⟩
       have hF:=Lib.hid hF;clear hM2 HM HS hmM;go_wp2;go_roundg (gk-1)
       case measure=>omega
       case rel=>exact hF.out
      | false=>
       obtain ⟨hM2,hpos⟩:=HM.out.mark Hc.out.2 Hc.out.1 Hct.out.1 Hmt.out;have HM2:=Lib.hid hM2;clear hM2 HM;go_wp2_with (refine wpList_storeM rfl _ _ _ rfl (int_fit Tryz.underlying3) Tryz.underlying244 hmM.out rfl ((t:Nat):Int) rfl (.bool true) rfl ?_;intro w4 hm4 hk4);have hS4:=HS.out.1.mark hm4 hk4;have HS4:=Lib.hid (And.intro hS4 HS.out.2);have hb4:=hS4.bel;clear hS4 HS hm4 hk4 hmM hlk c6 hbw;go_wp2_with fail
       (with_reducible refine (cE.out _ hb4).mono ?_)
       rintro e w5 ⟨vE,rfl,hOE,hb5⟩;obtain ⟨A1,m1,rfl,hEd⟩:=hOE.eds
       have hA1:0<(EgL S g.n t).length→∀ad,A1=some ad→(Value.slice (some ⟨g6,0,none⟩) k m6).ownBlock≠some ad.block:=fun hpos ad e hm=>by
        obtain ⟨g',e1,_,_⟩:=hEd hpos
        rw [e1] at e;injection e with e;subst e
        have hlt:=(World.ownsRow.lt hOE g' (by rw [e1];rfl)).1
        have hlt2:=(World.ownsRow.lt HS4.out.1.own g6 rfl).2
        injection hm with hm
        simp only at hm;omega
       obtain ⟨mk2,hmk2⟩:∃q,FR.upd mk t true=q:=⟨_,rfl⟩;obtain ⟨LE,hLE⟩:∃q,EgL S g.n t=q:=⟨_,rfl⟩;have HS5:=HS4.out.1.below hb5;have HM3:=HM2.out;rw [hmk2] at HS5 HM3
       rw [hLE] at HM3 hEd hA1 ⊢
       obtain ⟨nL,hnL⟩:∃q,LE.length=q:=⟨_,rfl⟩
       have hnl256:nL≤256:=by have:=len_EgL S g.n t;rw [hLE,hnL] at this;exact Nat.le_trans this Hn.out.1
       have hin:MkL w mm g S inn mk2 t A1 LE (gk-1) 0 (.slice (some ⟨g6,0,none⟩) k m6) w5:=⟨T',HS5,HM3,hEd,hA1⟩;rw [hnL];have HL:=Lib.hid (And.intro hLE hnL);clear hOE hEd hA1 hmk2 hLE hnL HS4 HS5 HM2 HM3 cE hb5 hb4;go_wp2_with fail
       go_loopw [6,68] (fun tv kv wr=>∃j:Nat,kv=.int .i64 j∧j≤nL∧MkL w mm g S inn mk2 t A1 LE (gk-1) j tv wr) (fun _ kv _=>nL-(intOf kv).toNat)
       case atStart=>exact ⟨0,rfl,by omega,hin⟩
       case round=>
        obtain ⟨j,rfl,hj,T,hS,hM,hEd,hA1⟩:=hrel;clear hin
        by_cases hlj:j<nL
        ·obtain ⟨e,he⟩:∃e,LE[j]? = some e:=⟨LE[j]'(by rw [HL.out.2];exact hlj),List.getElem?_eq_getElem _⟩
         obtain ⟨t2,ht1,ht2,ht3⟩:=mem_EgL.1 (by rw [HL.out.1];exact List.mem_of_getElem? he:e∈EgL S g.n t)
         obtain ⟨gb,hA,a1,a2,a3,a4⟩:=hEd.get he
         have hix:=fun wx=>idxE (m:=m1) hA hlj wx
         obtain ⟨xt,⟨xs,xd⟩,xm⟩:=e;simp only at a1 a2 a3 a4 ht2 ht3;subst ht2
         have hct2:=(Hc.out.1 t t2 (by rw [ht3];simp)).2.1
         have hlvt:=levV_at (g:=g) (S:=S) hct2;obtain ⟨lt2,hlt2⟩:∃q,S.lev t2=q:=⟨_,rfl⟩;rw [hlt2] at hlvt;have HS:=Lib.hid (And.intro hS (And.intro hM (And.intro hEd hA1)));have He:=Lib.hid (And.intro he hlt2)
         have hT8:T.length≤80000:=by have:=hM.len;omega
         have hbr:=hS.bel;clear hA he ht3 hct2 hlt2 hS hM hEd hA1
         go_upto_region 18 with (fail)
         refine wp_name ?_;intro W6 hW6
         have HW6:Below wr.heap.size wr W6:=by rw [hW6];(repeat' (first | exact Below.refl _ _ | assumption | apply bel_drewN | apply bel_drew | apply bel_alloc | (refine bel_trans ?_ (by assumption))))
         have o0:W6.cell? ⟨wr.heap.size,0,none⟩=some (.int .i64 (t2:Nat)):=by rw [hW6];go_simp
         obtain ⟨b15,hb15⟩:∃q,wr.heap.size=q:=⟨_,rfl⟩;have HB6:=bel_trans hbr HW6;have HS6:=Lib.hid (And.intro (HS.out.1.below HW6) (And.intro HS.out.2.1 (And.intro (HS.out.2.2.1.below HW6) HS.out.2.2.2)));have cV:=Lib.hid (lvLevel_in W6 b ml me nl Sb top (levV g S) (egE g S) (H.out.below HB6) (t2:Nat) _ hlvt)
         rw [hb15] at o0 ⊢
         have hsz:=HB6.size;clear hW6 HW6 HS a1 a2 a3 a4 hix hb15 hlvt hbr;go_wp2_with fail
         (with_reducible refine cV.out.mono ?_)
         rintro e w' ⟨rfl,rfl⟩;clear cV
         by_cases hup:lt<lt2
         ·go_wp2_with (at_builtin;(refine wpList_append_int2 _ rfl _ _ rfl w.heap.size _ T ((t2:Nat):Int) rfl (HS6.out.1.own.alloc _) ⟨W6.heap.size,0,none⟩ rfl (cell1_new _ _ _) (by omega) (by simp;omega) ?_);intro v' w9 hown9 hgrow hat)
          have hd:=bel_alloc (Below.refl W6.heap.size W6) (o:=.cells #[.int .i64 (t2:Nat)] 3)
          have hup2:S.lev t<S.lev t2:=by rw [Hct.out.2,He.out.2];exact hup
          have hF:=MkL.push (HS6.out.1.below hd) HS6.out.2.1 (HS6.out.2.2.1.below hd) HS6.out.2.2.2 He.out.1 (fun q hq=>(Int.ofNat_inj.1 hq)▸hup2) hown9 hgrow hat
          have hF:=Lib.hid hF;clear hown9 hgrow hat HS6 o0 hd;go_wp2;go_roundw
          case rel=>first | exact ⟨j+1,by go_num,by omega,hF.out⟩ | ((repeat apply Exists.intro);exact ⟨⟨j+1,by go_num,by omega,hF.out⟩,rfl⟩)
          case measure=>simp [intOf];omega
         ·have hF:=MkL.skip HS6.out.1 HS6.out.2.1 HS6.out.2.2.1 HS6.out.2.2.2 He.out.1 rfl (by rw [Hct.out.2,He.out.2];exact hup)
          have hF:=Lib.hid hF;clear HS6 o0;go_wp2;go_roundw
          case rel=>first | exact ⟨j+1,by go_num,by omega,hF.out.below (by (repeat' (first | exact Below.refl _ _ | assumption | apply bel_drewN | apply bel_drew | apply bel_alloc | (refine bel_trans ?_ (by assumption)))))⟩ | ((repeat apply Exists.intro);exact ⟨⟨j+1,by go_num,by omega,hF.out.below (by (repeat' (first | exact Below.refl _ _ | assumption | apply bel_drewN | apply bel_drew | apply bel_alloc | (refine bel_trans ?_ (by assumption)))))⟩,rfl⟩)
          case measure=>simp [intOf];omega
        ·obtain rfl:j=nL:=by omega
         have hF:gk-1≤80000∧MkO w mm g S inn (gk-1) u6 wr:=⟨by omega,mk2,T,t,LE,hS,by rw [HL.out.2];exact hM⟩
         have hF:=Lib.hid hF;clear hS hM hEd hA1;go_wp2;go_roundg (gk-1)
         case measure=>omega
         case rel=>exact hF.out
     ·have hno:¬(0≤z∧g.Corner z.toNat):=fun ⟨h1,h2⟩=>hcor ⟨z.toNat,by omega,h2⟩
      have cV:=Lib.hid (lvLevel_out wr b ml me nl Sb top (levV g S) (egE g S) (H.out.below hbw) z (levV_none hno))
      obtain ⟨hM2,hpos⟩:=HM.out.skip (fun t ht hc=>absurd ⟨t,ht,hc⟩ hcor) Hc.out.1
      have hF:gk-1≤80000∧MkO w mm g S inn (gk-1) (.slice (some ⟨g6,0,none⟩) k m6) wr:=⟨by omega,_,_,n,L,HS.out.1,hM2⟩
      have hF:=Lib.hid hF;clear hM2 HM hcor hno HS;go_wp2_with fail
      (with_reducible refine cV.out.mono ?_)
      rintro e w' ⟨rfl,rfl⟩;clear cV;go_wp2;go_roundg (gk-1)
      case measure=>omega
      case rel=>exact hF.out
def ReD (W w:World) (x l mk me mc mb q:Nat) (gv:Value) (Sh:List Nat) (mkM enM:Int→Option Value) (lab hp:Nat→Option C) (bk:Nat→Int) (e:Ending) (w':World):Prop:=
 e=.returned (.tuple #[])∧∃S',HtS W w' x l mk me mc mb q gv S' mkM enM lab hp bk∧(∀k∈S',k∈Sh∨w.heap.size≤k)∧Kept (mc :: mb :: Sh) w w'
theorem ReD.out {W w : World} {x l mk me mc mb q : Nat} {gv : Value} {Sh : List Nat} {mkM enM : Int → Option Value} {lab hp : Nat → Option C} {bk : Nat → Int} {e : Ending} {w' : World} (h : ReD W w x l mk me mc mb q gv Sh mkM enM lab hp bk e w') :
    ∃S',HtS W w' x l mk me mc mb q gv S' mkM enM lab hp bk∧Kept (mc :: mb :: Sh) w w'∧∀b,b<w.heap.size→b∉mc :: mb :: Sh→b∉mc :: mb :: S':=by
 obtain ⟨_,S',h1,h2,h3⟩:=h
 refine ⟨S',h1,h3,fun b hl hb hm=>?_⟩
 simp only [List.mem_cons,not_or] at hb hm
 rcases hm with r | r | r
 ·exact hb.1 r
 ·exact hb.2.1 r
 ·rcases h2 b r with r | r
  ·exact hb.2.2 r
  ·omega
theorem srReach (W w : World) (x l mk me mc mb q gf : Nat) (gc : Array Value) (Sh : List Nat) (mkM enM : Int → Option Value) (lab hp : Nat → Option C) (bk : Nat → Int) (g : G) (h : Nat → C) (hok : g.ok)
    (hS:HtS W w x l mk me mc mb q (.func (.func gf) #[] gc) Sh mkM enM lab hp bk) (hg:GuessOk W gf gc g h) (h256:h 256=C.zero) (hsm:∀j,g.Corner j→0≤(h j).s∧(h j).s≤1000∧0≤(h j).d∧(h j).d≤1000)
    (b:Nat) (hb:g.Corner b∨b=256) (bi:Int) (hbi:bi=(b:Nat)) (z cs cd:Int) (hc:0≤cs∧cs≤20000000∧0≤cd∧cd≤20000000) (tb:Bool) (htb:lower? lab b ⟨cs,cd⟩=tb)
    (hlab:∀d,lab b=some d→0≤d.s∧d.s≤20000000∧0≤d.d∧d.d≤20000000) (hlow:tb=true→lower? hp b (C.add ⟨cs,cd⟩ (h b))=true) :
    Calls Tryz.prog 148 #[.pointer (some ⟨x,0,none⟩),.int .i64 bi,.int .i64 z,.agg #[.int .i64 cs,.int .i64 cd]] w
     (ReD W w x l mk me mc mb q (.func (.func gf) #[] gc) Sh mkM enM (pushed lab b ⟨cs,cd⟩ tb) (pushed hp b (C.add ⟨cs,cd⟩ (h b)) tb) (if tb=true then FR.upd bk b z else bk)):=by
 subst hbi;have hn:=G.n_le hok
 have hb257:b<257:=hb.elim (fun r=>by have:=r.1;omega) (fun r=>by omega)
 obtain ⟨k0,k1,_,_,k4,k5,k6⟩:=hS.cells;obtain ⟨l1,l2,l3,l4,l5,l6⟩:=hS.lts;obtain ⟨nC,hMC⟩:=hS.mapC;have HMC:=Lib.hid hMC;have HS:=Lib.hid hS;have Hg:=Lib.hid hg;have Hsm:=Lib.hid hsm;have Hlow:=Lib.hid hlow;have H256:=Lib.hid h256;have Hlab:=Lib.hid hlab;have Hb:=Lib.hid hb;have hl6:=Lib.hid l6;have Htb:=Lib.hid htb
 have hin1:inC cs∧inC cd:=by unfold inC;omega
 clear hMC hS hg hsm hlow h256 hlab hb l6 htb;go_enter Tryz.func148,Tryz.ntmps148
 go_upto_region 1 with (fail)
 refine wp_name ?_;intro W1 hW1
 have HW1:Below w.heap.size w W1:=by rw [hW1];(repeat' (first | exact Below.refl _ _ | assumption | apply bel_drewN | apply bel_drew | apply bel_alloc | (refine bel_trans ?_ (by assumption))))
 have c0:W1.cell? ⟨w.heap.size,0,none⟩=some (.int .i64 cs):=by rw [hW1];go_simp
 have c1:W1.cell? ⟨w.heap.size,1,none⟩=some (.int .i64 cd):=by rw [hW1];go_simp
 obtain ⟨b7,hb7⟩:∃z,w.heap.size=z:=⟨_,rfl⟩;have k0:=bel_cell HW1 k0;have k1:=bel_cell HW1 k1;have k4:=bel_cell HW1 k4;have k5:=bel_cell HW1 k5;have k6:=bel_cell HW1 k6;have HS1:=Lib.hid (HS.out.below HW1);have HMC1:=HMC.out.below HW1
 rw [hb7] at c0 c1 ⊢
 have hb7l:b7<W1.heap.size:=World.block_lt_of_cell? _ _ c0;clear hW1 HMC
 obtain ⟨vs,vd,is,hlk,his1,his2⟩:∃vs vd is,(Instr.lookup 246 (.map (some mc)) (.int .i64 ((b:Nat):Int)) true).run Tryz.prog W1=.ok (.tuple #[.agg #[.int .i64 vs,.int .i64 vd],.bool is]) W1∧(is=true→lab b=some ⟨vs,vd⟩)∧(is=false→lab b=none):=by
  cases hlb:lab b with
  | none=>exact ⟨0,0,false,costLook_out HMC1 (by rw [mapI_nat];unfold doneV;rw [hlb];rfl),(fun h=>nomatch h),fun _=>rfl⟩
  | some d=>exact ⟨d.s,d.d,true,costLook_in HMC1 (by rw [mapI_nat];unfold doneV;rw [hlb];rfl),fun _=>rfl,(fun h=>nomatch h)⟩
 have His:=Lib.hid (And.intro his1 his2);clear his1 his2 HMC1
 go_upto_region 2 with (fail)
 refine wp_name ?_;intro W2 hW2
 have HW2:Below W1.heap.size W1 W2:=by rw [hW2];(repeat' (first | exact Below.refl _ _ | assumption | apply bel_drewN | apply bel_drew | apply bel_alloc | (refine bel_trans ?_ (by assumption))))
 have d0:W2.cell? ⟨W1.heap.size,0,none⟩=some (.int .i64 vs):=by rw [hW2];go_simp
 have d1:W2.cell? ⟨W1.heap.size,1,none⟩=some (.int .i64 vd):=by rw [hW2];go_simp
 obtain ⟨b8,hb8⟩:∃z,W1.heap.size=z:=⟨_,rfl⟩;have k0:=bel_cell HW2 k0;have k1:=bel_cell HW2 k1;have k4:=bel_cell HW2 k4;have k5:=bel_cell HW2 k5;have k6:=bel_cell HW2 k6;have c0:=bel_cell HW2 c0;have c1:=bel_cell HW2 c1;have HS2:=Lib.hid (HS1.out.below HW2);have HB2:=bel_trans HW1 HW2
 rw [hb8] at d0 d1 ⊢
 clear hW2 HW1 HW2 HS1 hlk hb8
 go_cut [26] (fun s wx=>s=.bool (!tb)∧Below W2.heap.size W2 wx)
 case first=>
  cases is with
  | false=>
   have e:=Htb.out;unfold lower? at e;rw [His.out.2 rfl] at e;subst e;go_wp2;go_meet
   case rel=>exact ⟨rfl,by (repeat' (first | exact Below.refl _ _ | assumption | apply bel_drewN | apply bel_drew | apply bel_alloc | (refine bel_trans ?_ (by assumption))))⟩
  | true=>
   have e:=Htb.out;have hd:=His.out.1 rfl;unfold lower? at e;rw [hd] at e;have hdl:=Hlab.out _ hd;simp only at e hdl
   have hin2:inC vs∧inC vd:=by unfold inC;omega
   have cC:=Lib.hid (costLess cs cd vs vd W2 hin1.1 hin1.2 hin2.1 hin2.2);rw [e] at cC;clear hd hdl hin2 e;go_wp2_with fail
   (with_reducible refine cC.out.mono ?_)
   rintro e w3 ⟨rfl,hb3⟩;go_wp2;go_meet
   case rel=>exact ⟨rfl,hb3⟩
 case rest=>
  obtain ⟨rfl,hbe⟩:=hcut;have k0:=bel_cell hbe k0;have k1:=bel_cell hbe k1;have k4:=bel_cell hbe k4;have k5:=bel_cell hbe k5;have k6:=bel_cell hbe k6;have c0:=bel_cell hbe c0;have c1:=bel_cell hbe c1;have HS3:=Lib.hid (HS2.out.below hbe);have HB3:=bel_trans HB2 hbe;clear HS2 HB2 hbe d0 d1
  cases tb with
  | false=>
   go_wp2;go_end0
   exact ⟨rfl,Sh,HS3.out,fun k hk=>.inl hk,Kept.of_below HB3⟩
  | true=>
   have hSd:=HS3.out.below (bel_drew (Below.refl wc.heap.size wc));obtain ⟨nC,hMC⟩:=hSd.mapC;obtain ⟨nB,hMB⟩:=hSd.mapB;have hne:=hSd.ne;have hdis:=hSd.dis;have hlt:=hSd.lts;have Hne:=Lib.hid (And.intro hne (And.intro hdis hlt));have HSd:=Lib.hid hSd;clear hSd HS3 hne hdis hlt;obtain ⟨w4,u4,st4,hr4,hm4,he4,hk4⟩:=hMC.entry (int_fit Tryz.underlying3) Tryz.underlying246 cost_zero ((b:Nat):Int);obtain ⟨w5,hr5,hm5,hk5⟩:=hm4.lay (mt:=246) (int_fit (P:=Tryz.prog) Tryz.underlying3) he4 (.agg #[.int .i64 cs,.int .i64 cd])
   have hKC:=hk4.trans hk5
   obtain ⟨w6,u6,st6,hr6,hm6,he6,hk6⟩:=(hMB.kept hKC (by simpa using Hne.out.1.2.2.2.2.2.2.symm)).entry (int_fit Tryz.underlying3) Tryz.underlying142 int_zero ((b:Nat):Int)
   obtain ⟨w7,hr7,hm7,hk7⟩:=hm6.lay (mt:=142) (int_fit (P:=Tryz.prog) Tryz.underlying3) he6 (.int .i64 z);have hKB:=hk6.trans hk7;have hd:=bel_drew (Below.refl wc.heap.size wc)
   have hbC:b7∉[mc]:=by simp;omega
   have hbB:b7∉[mb]:=by simp;omega
   have hxC:x∉[mc]:=by simpa using Hne.out.1.1
   have hxB:x∉[mb]:=by simpa using Hne.out.1.2.1
   have q0:wc.drew.cell? ⟨x,4,none⟩=some (.map (some mc))∧wc.drew.cell? ⟨x,5,none⟩=some (.map (some mb))∧wc.drew.cell? ⟨b7,0,none⟩=some (.int .i64 cs)∧wc.drew.cell? ⟨b7,1,none⟩=some (.int .i64 cd):=⟨bel_cell hd k4,bel_cell hd k5,bel_cell hd c0,bel_cell hd c1⟩;have q4:w4.cell? ⟨x,4,none⟩=some (.map (some mc))∧w4.cell? ⟨x,5,none⟩=some (.map (some mb))∧w4.cell? ⟨b7,0,none⟩=some (.int .i64 cs)∧w4.cell? ⟨b7,1,none⟩=some (.int .i64 cd):=⟨cellK hk4 hxC q0.1,cellK hk4 hxC q0.2.1,cellK hk4 hbC q0.2.2.1,cellK hk4 hbC q0.2.2.2⟩
   have q5:w5.cell? ⟨x,4,none⟩=some (.map (some mc))∧w5.cell? ⟨x,5,none⟩=some (.map (some mb))∧w5.cell? ⟨b7,0,none⟩=some (.int .i64 cs)∧w5.cell? ⟨b7,1,none⟩=some (.int .i64 cd):=⟨cellK hk5 hxC q4.1,cellK hk5 hxC q4.2.1,cellK hk5 hbC q4.2.2.1,cellK hk5 hbC q4.2.2.2⟩;have q6:w6.cell? ⟨x,4,none⟩=some (.map (some mc))∧w6.cell? ⟨x,5,none⟩=some (.map (some mb))∧w6.cell? ⟨b7,0,none⟩=some (.int .i64 cs)∧w6.cell? ⟨b7,1,none⟩=some (.int .i64 cd):=⟨cellK hk6 hxB q5.1,cellK hk6 hxB q5.2.1,cellK hk6 hbB q5.2.2.1,cellK hk6 hbB q5.2.2.2⟩
   have q7:w7.cell? ⟨x,4,none⟩=some (.map (some mc))∧w7.cell? ⟨x,5,none⟩=some (.map (some mb))∧w7.cell? ⟨b7,0,none⟩=some (.int .i64 cs)∧w7.cell? ⟨b7,1,none⟩=some (.int .i64 cd):=⟨cellK hk7 hxB q6.1,cellK hk7 hxB q6.2.1,cellK hk7 hbB q6.2.2.1,cellK hk7 hbB q6.2.2.2⟩;rw [updK_two] at hm5 hm7;have hS7:=HSd.out.laid hm5 hKC hm7 hKB
   have hK7:Kept (mc :: mb :: Sh) w w7:=((Kept.of_below (bel_trans HB3 hd)).trans (hKC.wid (by simp))).trans (hKB.wid (by simp))
   have k1:=hS7.cells.2.1;have k6:=hS7.cells.2.2.2.2.2.2;have HS7:=Lib.hid (And.intro hS7 hK7);clear hm4 he4 hk4 hm5 hk5 hm6 he6 hk6 hm7 hk7 hS7 hK7 hKC hKB hd hbC hbB hxC hxB hMC hMB HSd HB3 c0 c1 k0
   go_upto_region 3 with (fail)
   go_region_held3 (fun w'=>w'.cell? ⟨x,4,none⟩=some (.map (some mc))∧w'.cell? ⟨x,5,none⟩=some (.map (some mb))∧w'.cell? ⟨b7,0,none⟩=some (.int .i64 cs)∧w'.cell? ⟨b7,1,none⟩=some (.int .i64 cd))
    (first
     | exact q0
     | exact q4
     | exact q5
     | exact q6
     | exact q7)
    (fail)
   obtain ⟨_,_,c0,c1⟩:=q7;clear hr4 hr5 hr6 hr7 q0 q4 q5 q6 k4 k5;obtain ⟨⟨hs,hd⟩,hhb⟩:∃c,h b=c:=⟨_,rfl⟩;have Hh:=Lib.hid hhb;have hh:=hhb;clear hhb;obtain ⟨tn,htn⟩:∃t,(((b:Nat):Int) != 256)=t:=⟨_,rfl⟩
   go_upto_if 45 with (fail)
   refine wp_name ?_;intro W8 hW8
   have HW8:Below w7.heap.size w7 W8:=by rw [hW8];(repeat' (first | exact Below.refl _ _ | assumption | apply bel_drewN | apply bel_drew | apply bel_alloc | (refine bel_trans ?_ (by assumption))))
   have e0:W8.cell? ⟨w7.heap.size,0,none⟩=some (.int .i64 0):=by rw [hW8];go_simp
   have e1:W8.cell? ⟨w7.heap.size,1,none⟩=some (.int .i64 0):=by rw [hW8];go_simp
   have f0:W8.frozen? ⟨w7.heap.size,0,none⟩=false:=by rw [hW8];go_simp
   have f1:W8.frozen? ⟨w7.heap.size,1,none⟩=false:=by rw [hW8];go_simp
   have k1:=bel_cell HW8 k1;have Htn:=Lib.hid htn;clear hW8 htn;obtain ⟨b10,hb10⟩:∃q,w7.heap.size=q:=⟨_,rfl⟩
   rw [hb10] at e0 e1 f0 f1 ⊢
   go_cut [] (fun wx=>wx.cell? ⟨b10,0,none⟩=some (.int .i64 hs)∧wx.cell? ⟨b10,1,none⟩=some (.int .i64 hd)∧Below w7.heap.size w7 wx)
   case first=>
    cases tn with
    | false=>
     have hz:(⟨hs,hd⟩:C)=C.zero:=by
      have hb:b=256:=by have:=bne_eq_false_iff_eq.1 Htn.out;omega
      rw [←hh,hb];exact H256.out
     injection hz with hz1 hz2
     subst hz1;subst hz2;clear hh Hh k1 f0 f1;go_wp2;go_meet
     case rel=>exact ⟨e0,e1,HW8⟩
    | true=>
     have hbn:b≠256:=by have:=bne_iff_ne.1 Htn.out;omega
     have hcf:=Hg.out.1;have cG:=Hg.out.2 W8 (bel_trans HS7.out.1.bel HW8) b (Hb.out.resolve_right hbn);rw [hh] at cG;simp only at cG;have cG:=Lib.hid cG;clear hh hbn;go_wp2_with fail
     (with_reducible refine cG.out.mono ?_)
     rintro e w9 ⟨rfl,hb9⟩;have lb10:b10<W8.heap.size:=World.block_lt_of_cell? _ _ e0;have e0:=bel_cell hb9 e0;have e1:=bel_cell hb9 e1;have f0:=(hb9.frozen (p:=⟨b10,0,none⟩) lb10).trans f0;have f1:=(hb9.frozen (p:=⟨b10,1,none⟩) lb10).trans f1;have HW9:=bel_trans HW8 hb9;clear cG hcf k1;go_wp2;go_meet
     case rel=>
      refine ⟨?_,?_,(HW9.setCell (by simp;omega) _).setCell (by simp;omega) _⟩
      ·go_simp
      ·go_simp
   case rest=>
    obtain ⟨e0,e1,hbx⟩:=hcut;have HS8:=Lib.hid (HS7.out.1.below hbx);have c0:=bel_cell hbx c0;have c1:=bel_cell hbx c1;have k6:=bel_cell hbx k6
    have hsm:0≤hs∧hs≤1000∧0≤hd∧hd≤1000:=by
     rcases Hb.out with r | r
     ·have:=Hsm.out b r;rw [hh] at this;exact this
     ·have hz:=H256.out
      rw [←r,hh] at hz
      injection hz with hz1 hz2
      subst hz1;subst hz2;omega
    have hKw:=HS7.out.2.trans (Kept.of_below hbx);have hlow:=Hlow.out rfl;rw [hh] at hlow;have hlow:lower? hp b ⟨cs+hs,cd+hd⟩=true:=hlow
    have cA:=Lib.hid (fun w=>costAdd cs cd hs hd w (by unfold inC;omega) (by unfold inC;omega) (by unfold inC;omega) (by unfold inC;omega))
    have cP:=Lib.hid (fun w' h'=>heapPushN w' Sh q 257 hp b (cs+hs) (cd+hd) true h' hb257 (by omega) ⟨by unfold inC;simp only;omega,by unfold inC;simp only;omega⟩ hlow)
    have hx6:x∉Sh:=Hne.out.2.1.1
    have hb7S:b7∉Sh:=fun hm=>by have:=hl6.out _ hm;omega
    have hb10S:b10∉Sh:=fun hm=>by have:=hl6.out _ hm;have:=hKw.size;have:=HS7.out.2.size;omega
    have HKw:=Lib.hid hKw;clear HS7 k1 f0 f1 hbx hsm hlow hKw hh Htn
    go_upto_region 7 with (fail)
    go_region_held3 (fun w'=>w'.cell? ⟨x,6,none⟩=some (.pointer (some ⟨q,0,none⟩))∧w'.cell? ⟨b7,0,none⟩=some (.int .i64 cs)∧w'.cell? ⟨b7,1,none⟩=some (.int .i64 cd)∧w'.cell? ⟨b10,0,none⟩=some (.int .i64 hs)∧w'.cell? ⟨b10,1,none⟩=some (.int .i64 hd))
     (first
      | exact ⟨k6,c0,c1,e0,e1⟩
      | exact hSA
      | exact hSP)
     ((first
      | (go_at_call 94
         refine (cA.out _).mono ?_;rintro e wA ⟨rfl,hbA⟩;have hSA:wA.cell? ⟨x,6,none⟩=some (.pointer (some ⟨q,0,none⟩))∧wA.cell? ⟨b7,0,none⟩=some (.int .i64 cs)∧wA.cell? ⟨b7,1,none⟩=some (.int .i64 cd)∧wA.cell? ⟨b10,0,none⟩=some (.int .i64 hs)∧wA.cell? ⟨b10,1,none⟩=some (.int .i64 hd):=⟨bel_cell (w:=wc.drew) hbA k6,bel_cell (w:=wc.drew) hbA c0,bel_cell (w:=wc.drew) hbA c1,bel_cell (w:=wc.drew) hbA e0,bel_cell (w:=wc.drew) hbA e1⟩)
      | (go_at_call 197
         refine (cP.out _ ((HS8.out.below (bel_drew (Below.refl _ _))).below hbA).heap).mono ?_;rintro e wh ⟨rfl,S1,hh1,hh2,hKh⟩;have hSP:wh.cell? ⟨x,6,none⟩=some (.pointer (some ⟨q,0,none⟩))∧wh.cell? ⟨b7,0,none⟩=some (.int .i64 cs)∧wh.cell? ⟨b7,1,none⟩=some (.int .i64 cd)∧wh.cell? ⟨b10,0,none⟩=some (.int .i64 hs)∧wh.cell? ⟨b10,1,none⟩=some (.int .i64 hd):=⟨cellK hKh hx6 hSA.1,cellK hKh hb7S hSA.2.1,cellK hKh hb7S hSA.2.2.1,cellK hKh hb10S hSA.2.2.2.1,cellK hKh hb10S hSA.2.2.2.2⟩)))
    all_goals
     have hd4:=bel_drew (Below.refl wc.heap.size wc);obtain ⟨S2,r1,r2,r3⟩:=HtS.pushed ((HS8.out.below hd4).below hbA) (u:=.bool true) (e:=.returned (.bool true)) (⟨rfl,S1,hh1,hh2,hKh⟩:HeapD wA Sh q _ _ _ _ wh)
     have hF:ReD W w x l mk me mc mb q (.func (.func gf) #[] gc) Sh mkM enM (pushed lab b ⟨cs,cd⟩ true) (pushed hp b (C.add ⟨cs,cd⟩ (h b)) true) (if true=true then FR.upd bk b z else bk) (.returned (.tuple #[])) wh:=by
      refine ⟨rfl,S2,?_,fun k hk=>?_,?_⟩
      ·rw [Hh.out];exact r1
      ·rcases r2 k hk with r | r
       ·exact .inl r
       ·right
        have:=HKw.out.size;have:=hd4.size;have:=hbA.size;omega
      ·exact ((HKw.out.trans (Kept.of_below hd4)).trans (Kept.of_below hbA)).trans (r3.wid (by simp;intro k hk;exact .inr (.inr hk)))
     have hF:=Lib.hid hF;clear cA cP HS8 e0 e1 c0 c1 k6 r1 r2 r3 hh1 hh2 hKh hd4 hbA hSA hSP;go_wp2;go_end0;exact hF.out
end Go.Proofs.YtokhnobcincfjaaGreatDoor
