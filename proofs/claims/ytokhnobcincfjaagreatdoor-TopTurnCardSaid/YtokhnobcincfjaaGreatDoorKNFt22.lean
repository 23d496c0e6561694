/- Lemmas of this claim: LvM, Lv5, Lv6, Lv7, Bst0, MathFree, MathDet, Sr0. -/
import Derived.Test.YtokhnobcincfjaaGreatDoorKNFt20
import Derived.Test.YtokhnobcincfjaaGreatDoorKNFt17
import Derived.Test.YtokhnobcincfjaaGreatDoorKNFt21
import Derived.Test.YtokhnobcincfjaaGreatDoorKNFt2
import Derived.Test.YtokhnobcincfjaaGreatDoorKNFt10
import Derived.Test.YtokhnobcincfjaaGreatDoorKNFt4
import Derived.Test.YtokhnobcincfjaaGreatDoorKNFt5
set_option linter.unusedVariables false
set_option linter.unusedSimpArgs false
set_option maxHeartbeats 3200000
set_option maxRecDepth 100000
namespace Go.Proofs.YtokhnobcincfjaaGreatDoor
open Go.RowKit Go.Sort FR Go.Lib
def EgL (S:LS) (N n:Nat):List Ed:=(List.range N).filterMap fun t=>(S.eg n t).map fun cm=>⟨(t:Nat),cm.1,cm.2⟩
theorem mem_EgL {S:LS} {N n:Nat} {e:Ed}:e∈EgL S N n↔∃t:Nat,t<N∧e.to_=t∧S.eg n t=some (e.c,e.mid):=by
 unfold EgL;simp only [List.mem_filterMap,List.mem_range,Option.map_eq_some_iff]
 constructor
 ·rintro ⟨t,ht,⟨c,m⟩,h1,rfl⟩;exact ⟨t,ht,rfl,h1⟩
 ·rintro ⟨t,ht,h1,h2⟩;exact ⟨t,ht,_,h2,by cases e;simp at h1 ⊢;exact h1.symm⟩
theorem pw_EgL (S:LS) (N n:Nat):(EgL S N n).Pairwise (fun a b=>a.to_<b.to_):=by
 unfold EgL;refine List.Pairwise.filterMap _ (R:=(· < ·)) ?_ List.pairwise_lt_range;intro a a' h b hb b' hb';simp only [Option.map_eq_some_iff] at hb hb';obtain ⟨_,_,rfl⟩:=hb;obtain ⟨_,_,rfl⟩:=hb';simp only;omega
theorem srt_EgL (S:LS) (N n:Nat):Srt (EgL S N n):=srt_pair.2 (pw_EgL S N n)
theorem len_EgL (S:LS) (N n:Nat):(EgL S N n).length≤N:=by
 unfold EgL
 exact Nat.le_trans (List.length_filterMap_le _ _) (by simp)
open Classical in
noncomputable def levV (g:G) (S:LS) (z:Int):Option Value:=if 0≤z∧g.Corner z.toNat then some (.int .i64 (S.lev z.toNat:Nat)) else none
open Classical in
noncomputable def egE (g:G) (S:LS) (z:Int):Option (List Ed):=if 0≤z∧g.Corner z.toNat then some (EgL S g.n z.toNat) else none
open Classical in
noncomputable def levI (g:G) (S:LS) (z:Int):Int:=if 0≤z∧g.Corner z.toNat then (S.lev z.toNat:Nat) else 0
theorem levOf (g:G) (S:LS):LevOf (levV g S) (levI g S):=fun z=>by
 unfold levV levI;split <;> rfl
theorem levV_at {g:G} {S:LS} {n:Nat} (h:g.Corner n):levV g S (n:Nat)=some (.int .i64 (S.lev n:Nat)):=by
 unfold levV;rw [if_pos ⟨by omega,by simpa using h⟩];simp
theorem egE_at {g:G} {S:LS} {n:Nat} (h:g.Corner n):egE g S (n:Nat)=some (EgL S g.n n):=by
 unfold egE;rw [if_pos ⟨by omega,by simpa using h⟩];simp
theorem levI_at {g:G} {S:LS} {n:Nat} (h:g.Corner n):levI g S (n:Nat)=(S.lev n:Nat):=by
 unfold levI;rw [if_pos ⟨by omega,by simpa using h⟩];simp
theorem levV_none {g:G} {S:LS} {z:Int} (h:¬(0≤z∧g.Corner z.toNat)):levV g S z=none:=by unfold levV;rw [if_neg h]
theorem egE_none {g:G} {S:LS} {z:Int} (h:¬(0≤z∧g.Corner z.toNat)):egE g S z=none:=by unfold egE;rw [if_neg h]
theorem levV_ne {g:G} {S:LS} {z:Int}:levV g S z≠none↔∃n:Nat,z=n∧g.Corner n:=by
 unfold levV
 constructor
 ·intro h
  split at h
  ·rename_i q;exact ⟨z.toNat,by omega,q.2⟩
  ·exact absurd rfl h
 ·rintro ⟨n,rfl,h⟩
  rw [if_pos ⟨by omega,by simpa using h⟩];simp
theorem levV_int {g:G} {S:LS} (z:Int) (u:Value) (h:levV g S z=some u):u=.int .i64 (levI g S z):=by
 unfold levV at h;unfold levI
 split at h
 ·rename_i q;rw [if_pos q];injection h with h;exact h.symm
 ·cases h
def Cor (g:G) (S:LS):Prop:=∀a b,S.eg a b≠none→g.Corner a∧g.Corner b∧a≠b
def frL (S:LS) (N n:Nat):List Ed:=(EgL S N n).filter fun e=>decide (S.lev e.to_.toNat=0)
theorem free_EgL {g:G} {S:LS} (h:Cor g S) (n:Nat):free0 (levI g S) (EgL S g.n n)=frL S g.n n:=by
 unfold free0 frL
 apply List.filter_congr
 intro e he;obtain ⟨t,ht,h1,h2⟩:=mem_EgL.1 he
 have hc:=(h n t (by rw [h2];simp)).2.1
 rw [h1,levI_at hc];simp
theorem mem_frL {S:LS} {N n:Nat} {e:Ed}:e∈frL S N n↔∃t:Nat,t<N∧e.to_=t∧S.eg n t=some (e.c,e.mid)∧S.lev t=0:=by
 unfold frL;rw [List.mem_filter,mem_EgL]
 constructor
 ·rintro ⟨⟨t,h1,h2,h3⟩,h4⟩
  rw [h2] at h4
  exact ⟨t,h1,h2,h3,by simpa using h4⟩
 ·rintro ⟨t,h1,h2,h3,h4⟩
  exact ⟨⟨t,h1,h2,h3⟩,by rw [h2];simpa using h4⟩
theorem len_frL (S:LS) (N n:Nat):(frL S N n).length≤N:=Nat.le_trans (List.length_filter_le _ _) (len_EgL S N n)
theorem frL_nb (S:LS) (N n:Nat):(frL S N n).map (fun e=>e.to_.toNat)=S.nb N n:=by
 unfold frL EgL LS.nb
 generalize List.range N=l
 induction l with
 | nil=>rfl
 | cons t l ih=>
  cases h:S.eg n t with
  | none=>simp [List.filterMap_cons,List.filter_cons,h,ih]
  | some cm=>
   by_cases h2:S.lev t=0
   ·simp [List.filterMap_cons,List.filter_cons,h,h2,ih]
   ·simp [List.filterMap_cons,List.filter_cons,h,h2,ih]
theorem frL_len (S:LS) (N n:Nat):(frL S N n).length=(S.nb N n).length:=by rw [←frL_nb,List.length_map]
theorem frL_at {S:LS} {N n i:Nat} {e:Ed} (h:(frL S N n)[i]? = some e):∃t:Nat,t<N∧e.to_=t∧S.eg n t=some (e.c,e.mid)∧S.lev t=0∧(S.nb N n)[i]? = some t∧S.cost n t=e.c:=by
 obtain ⟨t,h1,h2,h3,h4⟩:=mem_frL.1 (List.mem_of_getElem? h);refine ⟨t,h1,h2,h3,h4,?_,LS.cost_eq h3⟩;rw [←frL_nb,List.getElem?_map,h,Option.map_some,h2];simp
def edV (e:Ed):Value:=.agg #[.int .i64 e.to_,.int .i64 e.c.s,.int .i64 e.c.d,.int .i64 e.mid]
open Classical in
noncomputable def outV (S:LS) (n:Nat) (T:Nat→Nat→Prop) (k:Int×Int):Option Value:=
 if 0≤k.1∧0≤k.2∧T k.1.toNat k.2.toNat then some (edV ⟨k.2,C.add (S.cost n k.1.toNat) (S.cost n k.2.toNat),(n:Nat)⟩) else none
theorem outV_at {S:LS} {n:Nat} {T:Nat→Nat→Prop} {a b:Nat} (h:T a b):outV S n T ((a:Nat),(b:Nat))=some (edV ⟨(b:Nat),C.add (S.cost n a) (S.cost n b),(n:Nat)⟩):=by
 unfold outV;rw [if_pos ⟨by simp,by simp,by simpa using h⟩];simp
theorem outV_some {S:LS} {n:Nat} {T:Nat→Nat→Prop} {k:Int×Int} (h:outV S n T k≠none):∃a b:Nat,k=(((a:Nat):Int),((b:Nat):Int))∧T a b:=by
 unfold outV at h
 split at h
 ·rename_i q
  refine ⟨k.1.toNat,k.2.toNat,?_,q.2.2⟩;obtain ⟨k1,k2⟩:=k
  simp at q ⊢
  omega
 ·exact absurd rfl h
theorem outV_put {S:LS} {n a b:Nat} {T:Nat→Nat→Prop}:updK (outV S n T) (((a:Nat):Int),((b:Nat):Int)) (some (edV ⟨(b:Nat),C.add (S.cost n a) (S.cost n b),(n:Nat)⟩))=outV S n (fun x y=>T x y∨(x=a∧y=b)):=by
 funext k
 obtain ⟨k1,k2⟩:=k;unfold updK
 by_cases e:(k1,k2)=(((a:Nat):Int),((b:Nat):Int))
 ·rw [if_pos e,e,outV_at (.inr ⟨rfl,rfl⟩)]
 ·rw [if_neg e]
  unfold outV;simp only
  by_cases h:0≤k1∧0≤k2
  ·by_cases hT:T k1.toNat k2.toNat
   ·rw [if_pos ⟨h.1,h.2,hT⟩,if_pos ⟨h.1,h.2,.inl hT⟩]
   ·rw [if_neg (fun q=>hT q.2.2),if_neg]
    rintro ⟨_,_,q | ⟨q1,q2⟩⟩
    ·exact hT q
    ·exact e (Prod.ext (by simp only;omega) (by simp only;omega))
  ·rw [if_neg (fun q=>h ⟨q.1,q.2.1⟩),if_neg (fun q=>h ⟨q.1,q.2.1⟩)]
theorem part_put {g : G} {S : LS} {n top a b : Nat} {T : Nat → Nat → Prop} (ha : g.Corner a) (hb : g.Corner b) (hab : a ≠ b) :
    updE (updE (egE g (S.part n top T)) a (some (putS (EgL (S.part n top T) g.n a) ⟨b,C.add (S.cost n a) (S.cost n b),(n:Nat)⟩))) b (some (putS (EgL (S.part n top T) g.n b) ⟨a,C.add (S.cost n a) (S.cost n b),(n:Nat)⟩)) =
     egE g (S.part n top fun x y=>T x y∨(x=a∧y=b)):=by
 have key:∀(x y:Nat) ,g.Corner y→((x=a∧y=b)∨(x=b∧y=a))→putS (EgL (S.part n top T) g.n x) ⟨y,C.add (S.cost n a) (S.cost n b),(n:Nat)⟩=EgL (S.part n top fun x y=>T x y∨(x=a∧y=b)) g.n x:=by
  intro x y hy hxy
  refine srt_ext (srt_pair.1 (srt_putS (srt_EgL _ _ _) _)) (pw_EgL _ _ _) fun e=>?_
  have hcost:C.add (S.cost n a) (S.cost n b)=C.add (S.cost n x) (S.cost n y):=by
   rcases hxy with ⟨rfl,rfl⟩ | ⟨rfl,rfl⟩
   ·rfl
   ·exact C.add_comm _ _
  have hne:∀t,t≠y→((S.part n top fun x y=>T x y∨(x=a∧y=b)).eg x t=(S.part n top T).eg x t):=by
   intro t ht;refine LS.part_same ?_
   ·show ((T x t∨(x=a∧t=b))∨(T t x∨(t=a∧x=b)))↔(T x t∨T t x)
    constructor
    ·rintro ((q | ⟨q1,q2⟩) | (q | ⟨q1,q2⟩))
     ·exact .inl q
     ·rcases hxy with ⟨r1,r2⟩ | ⟨r1,r2⟩
      ·exact absurd (q2.trans r2.symm) ht
      ·exact absurd (q1.symm.trans r1) hab
     ·exact .inr q
     ·rcases hxy with ⟨r1,r2⟩ | ⟨r1,r2⟩
      ·exact absurd (r1.symm.trans q2) hab
      ·exact absurd (q1.trans r2.symm) ht
    ·rintro (q | q)
     ·exact .inl (.inl q)
     ·exact .inr (.inl q)
  have hyy:(S.part n top fun x y=>T x y∨(x=a∧y=b)).eg x y=some (C.add (S.cost n x) (S.cost n y),(n:Int)):=by
   refine LS.part_yes ?_
   rcases hxy with ⟨r1,r2⟩ | ⟨r1,r2⟩
   ·exact .inl (.inr ⟨r1,r2⟩)
   ·exact .inr (.inr ⟨r2,r1⟩)
  rw [mem_putS (srt_EgL _ _ _),mem_EgL,mem_EgL]
  constructor
  ·rintro (rfl | ⟨⟨t,h1,h2,h3⟩,h4⟩)
   ·exact ⟨y,hy.1,rfl,by rw [hyy,hcost]⟩
   ·refine ⟨t,h1,h2,?_⟩
    rw [hne t (by rintro rfl;exact h4 h2)]
    exact h3
  ·rintro ⟨t,h1,h2,h3⟩
   by_cases e1:t=y
   ·subst e1
    rw [hyy] at h3
    left
    injection h3 with h3
    injection h3 with q1 q2
    cases e
    simp at h2 q1 q2 ⊢
    exact ⟨h2,by rw [hcost];exact q1.symm,q2.symm⟩
   ·right
    rw [hne t e1] at h3
    exact ⟨⟨t,h1,h2,h3⟩,by simp only;rw [h2];omega⟩
 funext z
 unfold updE
 by_cases e1:z=(b:Nat)
 ·rw [if_pos e1,e1,egE_at hb,key b a ha (.inr ⟨rfl,rfl⟩)]
 ·rw [if_neg e1]
  by_cases e2:z=(a:Nat)
  ·rw [if_pos e2,e2,egE_at ha,key a b hb (.inl ⟨rfl,rfl⟩)]
  ·rw [if_neg e2]
   unfold egE
   by_cases hz:0≤z∧g.Corner z.toNat
   ·rw [if_pos hz,if_pos hz]
    congr 1
    unfold EgL
    congr 1
    funext t
    have:(S.part n top T).eg z.toNat t=(S.part n top fun x y=>T x y∨(x=a∧y=b)).eg z.toNat t:=by
     refine LS.part_same ?_
     ·show (T z.toNat t∨T t z.toNat)↔((T z.toNat t∨(z.toNat=a∧t=b))∨(T t z.toNat∨(t=a∧z.toNat=b)))
      constructor
      ·rintro (q | q)
       ·exact .inl (.inl q)
       ·exact .inr (.inl q)
      ·rintro ((q | ⟨q1,q2⟩) | (q | ⟨q1,q2⟩))
       ·exact .inl q
       ·omega
       ·exact .inr q
       ·omega
    rw [this]
   ·rw [if_neg hz,if_neg hz]
structure LfS (W w:World) (mo q:Nat) (S:List Nat) (N:Nat) (done hp:Nat→Option C):Prop where
 mapC:MapAt iK w mo (mapI (doneV done)) (cntS done N)
 heap:HeapOf w S q (cntS hp N) (hpI hp)
 dis:mo∉S
 far:∀k∈S,W.heap.size≤k
 own:W.heap.size≤mo
 bel:Below W.heap.size W w
theorem LfS.below {W w w':World} {mo q N:Nat} {S:List Nat} {done hp:Nat→Option C} (h:LfS W w mo q S N done hp) (hb:Below w.heap.size w w'):LfS W w' mo q S N done hp:=
 ⟨h.mapC.below hb,h.heap.below hb,h.dis,h.far,h.own,h.bel.trans (hb.mono h.bel.size)⟩
theorem LfS.pushed {W w w' : World} {mo q N : Nat} {S : List Nat} {done hp hp2 : Nat → Option C} (h : LfS W w mo q S N done hp) {u : Value} {e : Ending} (hD : HeapD w S q (cntS hp2 N) (hpI hp2) u e w') :
    ∃S',LfS W w' mo q S' N done hp2∧(∀k∈S',k∈S∨w.heap.size≤k)∧Kept S w w':=by
 obtain ⟨_,S',h1,h2,h3⟩:=hD;have l3:=h.mapC.lt
 refine ⟨S',⟨h.mapC.kept h3 h.dis,h1,fun hm=>?_,fun k hk=>?_,h.own,Kept.below h.bel h3 h.bel.size h.far⟩,h2,h3⟩
 ·rcases h2 _ hm with x | x
  ·exact h.dis x
  ·omega
 ·rcases h2 _ hk with x | x
  ·exact h.far k x
  ·exact Nat.le_trans h.bel.size x
theorem LfS.popped {W w w':World} {mo q N:Nat} {S:List Nat} {done hp hp2:Nat→Option C} (h:LfS W w mo q S N done hp) (hH:HeapOf w' S q (cntS hp2 N) (hpI hp2)) (hk:Kept S w w'):LfS W w' mo q S N done hp2:=
 ⟨h.mapC.kept hk h.dis,hH,h.dis,h.far,h.own,Kept.below h.bel hk h.bel.size h.far⟩
theorem LfS.done {W w w' : World} {mo q N : Nat} {S : List Nat} {done hp : Nat → Option C} {k : Nat} {ds dd : Int} (h : LfS W w mo q S N done hp) (hk : k < N) (hn : done k = none)
    (hM:MapAt iK w' mo (updK (mapI (doneV done)) (k:Nat) (some (.agg #[.int .i64 ds,.int .i64 dd]))) (if (mapI (doneV done) (k:Nat)).isSome then cntS done N else cntS done N+1)) (hK:Kept [mo] w w') :
    LfS W w' mo q S N (upd done k (some ⟨ds,dd⟩)) hp:=by
 have e:(mapI (doneV done) (k:Nat)).isSome=false:=by rw [mapI_nat];unfold doneV;rw [hn];rfl
 rw [mapI_upd,show (some (Value.agg #[.int .i64 ds,.int .i64 dd]):Option Value)=some (costV ⟨ds,dd⟩) from rfl,doneV_upd,e] at hM
 simp only [Bool.false_eq_true,if_false] at hM;rw [←cntS_new hk hn ⟨ds,dd⟩] at hM;refine ⟨hM,h.heap.kept hK ?_,h.dis,h.far,h.own,Kept.below h.bel hK h.bel.size ?_⟩
 ·intro j hj e
  simp at e;subst e;exact h.dis hj
 ·intro i hi
  simp at hi;subst hi;exact h.own
def PendE (L:List Ed) (n j:Nat) (b:Nat) (e:C):Prop:=∃(i:Nat) (x:Ed),j≤i∧L[i]? = some x∧x.to_=(b:Nat)∧x.c=e∧b≠n
theorem PendE.first {S:LS} {N n k:Nat} {b:Nat} {e:C} (hN:∀y c m,S.eg k y=some (c,m)→y<N) (h:S.Lw n k b e):PendE (frL S N k) n 0 b e:=by
 obtain ⟨⟨_,h2,m,h3⟩,h4,h5⟩:=h;have:(⟨(b:Nat),e,m⟩:Ed)∈frL S N k:=mem_frL.2 ⟨b,hN _ _ _ h3,rfl,h3,h2⟩;obtain ⟨i,hi⟩:=List.getElem?_of_mem this;exact ⟨i,_,Nat.zero_le _,hi,rfl,rfl,h5⟩
theorem PendE.next {L:List Ed} {n j t:Nat} {x:Ed} (hx:L[j]? = some x) (ht:x.to_=(t:Nat)) (b:Nat) (e:C) (h:PendE L n j b e):PendE L n (j+1) b e∨(b=t∧e=x.c):=by
 obtain ⟨i,y,h1,h2,h3,h4,h5⟩:=h
 by_cases e1:i=j
 ·subst e1
  rw [hx] at h2;injection h2 with h2;subst h2
  right
  exact ⟨by omega,h4.symm⟩
 ·exact .inl ⟨i,y,by omega,h2,h3,h4,h5⟩
theorem PendE.skip {L:List Ed} {n j:Nat} {x:Ed} (hx:L[j]? = some x) (ht:x.to_=(n:Nat)) (b:Nat) (e:C) (h:PendE L n j b e):PendE L n (j+1) b e:=by
 obtain ⟨i,y,h1,h2,h3,h4,h5⟩:=h
 by_cases e1:i=j
 ·subst e1
  rw [hx] at h2;injection h2 with h2;subst h2
  exact absurd (by omega) h5
 ·exact ⟨i,y,by omega,h2,h3,h4,h5⟩
theorem PendE.over {L:List Ed} {n:Nat} (b:Nat) (e:C):¬PendE L n L.length b e:=by
 rintro ⟨i,y,h1,h2,_⟩;have:=(List.getElem?_eq_some_iff.1 h2).1;omega
def LfI (W:World) (mo q eb:Nat) (S:LS) (fr n k N:Nat) (L:List Ed) (A1:Option Addr) (done:Nat→Option C) (cs cd:Int) (j:Nat) (wr:World):Prop:=
 ∃Sb hp,LfS W wr mo q Sb N done hp∧FM (S.Lw n) fr N done hp k (PendE L n j)∧EdsAt wr A1 L∧(0<L.length→∀ad,A1=some ad→ad.block∉Sb∧ad.block≠mo)∧eb∉Sb∧eb≠mo ∧
  wr.cell? ⟨eb,0,none⟩=some (.int .i64 cs)∧wr.cell? ⟨eb,1,none⟩=some (.int .i64 cd)
def LfC (W:World) (mo q eb N:Nat) (L:List Ed) (A1:Option Addr) (done hp:Nat→Option C) (cs cd:Int) (wr:World):Prop:=
 ∃Sb,LfS W wr mo q Sb N done hp∧EdsAt wr A1 L∧(0<L.length→∀ad,A1=some ad→ad.block∉Sb∧ad.block≠mo)∧eb∉Sb∧eb≠mo∧wr.cell? ⟨eb,0,none⟩=some (.int .i64 cs)∧wr.cell? ⟨eb,1,none⟩=some (.int .i64 cd)
theorem LfC.of_push {W w w' : World} {mo q eb N : Nat} {Sb : List Nat} {L : List Ed} {A1 : Option Addr} {done hp hp2 : Nat → Option C} {cs cd : Int} (h : LfS W w mo q Sb N done hp)
    (hI:EdsAt w A1 L) (hN:0<L.length→∀ad,A1=some ad→ad.block∉Sb∧ad.block≠mo) (he:eb∉Sb) (he2:eb≠mo) (c0:w.cell? ⟨eb,0,none⟩=some (.int .i64 cs)) (c1:w.cell? ⟨eb,1,none⟩=some (.int .i64 cd))
    {u:Value} {e:Ending} (hD:HeapD w Sb q (cntS hp2 N) (hpI hp2) u e w'):LfC W mo q eb N L A1 done hp2 cs cd w':=by
 obtain ⟨S',h1,h2,h3⟩:=h.pushed hD;have l0:=World.block_lt_of_cell? _ _ c0;simp only at l0;refine ⟨S',h1,?_,?_,?_,he2,cellK h3 he c0,cellK h3 he c1⟩
 ·intro hn
  obtain ⟨g,e1,hlt,hc⟩:=hI hn;have hg:=(hN hn _ e1).1
  exact ⟨g,e1,Nat.lt_of_lt_of_le hlt h3.size,fun j v hv=>cellK h3 hg (hc j v hv)⟩
 ·intro hn ad e1
  refine ⟨fun hm=>?_,(hN hn ad e1).2⟩
  obtain ⟨g,e',hlt,_⟩:=hI hn
  rw [e'] at e1;injection e1 with e1;subst e1
  rcases h2 _ hm with x | x
  ·exact (hN hn _ e').1 x
  ·simp only at x;omega
 ·intro hm
  rcases h2 _ hm with x | x
  ·exact he x
  ·omega
theorem LfC.below {W w w':World} {mo q eb N:Nat} {L:List Ed} {A1:Option Addr} {done hp:Nat→Option C} {cs cd:Int} (h:LfC W mo q eb N L A1 done hp cs cd w) (hb:Below w.heap.size w w'):LfC W mo q eb N L A1 done hp cs cd w':=by
 obtain ⟨S,h1,h2,h3,h4,h5,h6,h7⟩:=h;exact ⟨S,h1.below hb,h2.below hb,h3,h4,h5,bel_cell hb h6,bel_cell hb h7⟩
theorem LfC.to {W w : World} {mo q eb : Nat} {S : LS} {fr n k N : Nat} {L : List Ed} {A1 : Option Addr} {done hp : Nat → Option C} {cs cd : Int} {j : Nat} (h : LfC W mo q eb N L A1 done hp cs cd w) (hF : FM (S.Lw n) fr N done hp k (PendE L n j)) :
    LfI W mo q eb S fr n k N L A1 done cs cd j w:=by
 obtain ⟨Sb,h1,h2,h3,h4,h5,h6,h7⟩:=h;exact ⟨Sb,hp,h1,hF,h2,h3,h4,h5,h6,h7⟩
def LfD (w:World) (S:LS) (fr n N:Nat) (e:Ending) (w':World):Prop:=∃mo done,e=.returned (.map (some mo))∧MapAt iK w' mo (mapI (doneV done)) (cntS done N)∧(∀t c,done t=some c→Dist (S.Lw n) fr t c)∧(∀t,done t=none→∀c,¬Walk (S.Lw n) fr t c) ∧
 (∀t c,done t=some c→0≤c.s∧c.s≤512000∧0≤c.d∧c.d≤512000)∧w.heap.size≤mo∧Below w.heap.size w w'
def LfO (W:World) (mo q:Nat) (S:LS) (fr n N gk:Nat) (wr:World):Prop:=∃Sb done hp k0,LfS W wr mo q Sb N done hp∧FM (S.Lw n) fr N done hp k0 (fun _ _=>False)∧N-cntS done N≤gk
theorem lw_to {g:G} {S:LS} {n fr:Nat} (hc:Cor g S) (h1:g.Corner fr) (h2:S.lev fr=0) (h3:fr≠n) {k:Nat} {c:C} (h:Walk (S.Lw n) fr k c):g.Corner k∧S.lev k=0∧k≠n:=by
 cases h with
 | nil=>exact ⟨h1,h2,h3⟩
 | snoc _ he=>
  obtain ⟨⟨_,q2,m,q3⟩,_,q5⟩:=he
  exact ⟨(hc _ _ (by rw [q3];simp)).2.1,q2,q5⟩
def Sml (S:LS):Prop:=∀a b c m,S.eg a b=some (c,m)→0≤c.s∧c.s≤2000∧0≤c.d∧c.d≤2000
theorem sml_nn {S:LS} (h:Sml S) (n:Nat):∀a b c,S.Lw n a b c→C.Nn c:=fun a b c ⟨⟨_,_,m,q⟩,_⟩=>by
 have:=h a b c m q;exact ⟨this.1,this.2.2.1⟩
theorem lvFlood (w : World) (b ml me nl : Nat) (Sb : List Nat) (top : Int) (g : G) (S : LS) (hok : g.ok) (hc : Cor g S) (hs : Sml S) (fr n : Nat) (hfr : g.Corner fr) (hl : S.lev fr = 0) (hne : fr ≠ n) (h : LvOf w b ml me Sb top (levV g S) nl (egE g S)) :
    Calls Tryz.prog 219 #[.pointer (some ⟨b,0,none⟩),.int .i64 (fr:Nat),.int .i64 (n:Nat)] w (LfD w S fr n g.n):=by
 have hn:=G.n_le hok;have hmm:=@run_makeMap Tryz.prog;have H:=Lib.hid h;have Hc:=Lib.hid hc;have Hs:=Lib.hid hs;have Hfr:=Lib.hid (And.intro hfr (And.intro hl hne));have Hn:=Lib.hid hn;clear h hc hs hfr hl hne hok hn;go_enter Tryz.func219,Tryz.ntmps219
 go_upto_region 2 with (fail)
 refine wp_name ?_;intro W1 hW1
 have HW1:Below w.heap.size w W1:=by rw [hW1];(repeat' (first | exact Below.refl _ _ | assumption | apply bel_drewN | apply bel_drew | apply bel_alloc | (refine bel_trans ?_ (by assumption))))
 have hM1:MapAt iK W1 w.heap.size (fun _=>none) 0:=by rw [hW1];exact MapAt.made w
 have hs1:W1.heap.size=w.heap.size+1:=by rw [hW1];simp
 obtain ⟨mo,hmo⟩:∃mo,w.heap.size=mo:=⟨_,rfl⟩
 rw [hmo] at hM1 ⊢
 clear hW1 hmm;go_wp2_with fail
 (with_reducible refine (heapNew W1).mono ?_)
 rintro e w4 ⟨q,S0,rfl,hH,hSf,hb4⟩
 rw [hpI_none,show (0:Nat)=cntS (fun _=>none) g.n from (cntS_none _).symm] at hH
 have hS4:LfS w w4 mo q S0 g.n (fun _=>none) (fun _=>none):=by
  refine ⟨?_,hH,fun hm=>?_,fun k hk=>?_,by omega,bel_trans HW1 hb4⟩
  ·rw [mapI_none (f:=doneV fun _=>none) (fun _=>rfl),cntS_none]
   exact hM1.below hb4
  ·have:=hSf _ hm;omega
  ·have:=hSf _ hk;omega
 have HS4:=Lib.hid hS4
 have cP:=Lib.hid (fun w' h'=>heapPushN w' S0 q g.n (fun _=>none) fr 0 0 true h' Hfr.out.1.1 (by have:=Hn.out;omega) ⟨by unfold inC;simp only;omega,by unfold inC;simp only;omega⟩ rfl)
 clear hH hSf hb4 hS4 hM1 HW1 hs1;go_wp2_with fail
 (with_reducible refine (cP.out _ HS4.out.heap).mono ?_)
 rintro e w5 hD;have hD:=Lib.hid hD;obtain ⟨rfl,_⟩:=hD.out;obtain ⟨S5,hS5,_⟩:=HS4.out.pushed hD.out
 have hF0:FM (S.Lw n) fr g.n (fun _=>none) (FR.upd (fun _=>none) fr (some C.zero)) fr (fun _ _=>False):=FM.start Hfr.out.1.1 fr
 obtain ⟨N0,hN0⟩:∃N0,N0=g.n:=⟨_,rfl⟩
 have hstart:LfO w mo q S fr n g.n N0 w5:=⟨S5,_,_,fr,hS5,hF0,by omega⟩
 clear hD HS4 hS5 hF0 cP hN0;go_wp2_with fail
 go_loopg [] N0 (fun gk wr=>LfO w mo q S fr n g.n gk wr)
 case atStart=>exact hstart
 case round=>
  obtain ⟨Sh,done,hp,k0,hS,hF,hgk⟩:=hrel;clear hstart;have HS:=Lib.hid hS;have HF:=Lib.hid hF
  by_cases h0:cntS hp g.n=0
  ·have hH:=hS.heap
   rw [h0] at hH;go_wp2_with fail
   (with_reducible refine (heapPop_none _ Sh q (hpI hp) hH).mono ?_)
   rintro e w6 ⟨rfl,hb6⟩;have hS6:=HS.out.below hb6;have hS7:=hS6.below (w':=w6.alloc (.cells #[.int .i64 0,.int .i64 0] 44)) (bel_alloc (Below.refl _ _))
   have hfin2:=fun t=>HF.out.dij.fin (sml_nn Hs.out n) (cntS_zero h0 HF.out.rngH) t
   have hfin:LfD w S fr n g.n (.returned (.map (some mo))) (w6.alloc (.cells #[.int .i64 0,.int .i64 0] 44)):=
    ⟨mo,done,rfl,hS7.mapC,fun t=>(hfin2 t).1,fun t=>(hfin2 t).2,fun t c hc=>HF.out.small (sml_nn Hs.out n) Hn.out (.inl hc),hS7.own,hS7.bel⟩
   clear hS hF hH HS HF hb6 hS6 hS7 hfin2;go_wp2;go_ret;exact hfin
  ·go_wp2_with fail
   (with_reducible refine (heapPopN _ Sh q g.n hp hS.heap hF.rngH (by have:=Hn.out;omega) h0).mono ?_)
   rintro e w6 ⟨k,ds,dd,hk1,hk2,rfl,hk4,hk5⟩
   have hkn:k<g.n:=HF.out.rngH k (by rw [hk1];simp)
   have hdn:done k=none:=(HF.out.dij.i2 _ _ hk1).1;have hkc:=lw_to Hc.out Hfr.out.1 Hfr.out.2.1 Hfr.out.2.2 (HF.out.dij.i2 _ _ hk1).2;have hS6:=hS.popped hk4 hk5;have hF6:=Lib.hid (HF.out.pop (sml_nn Hs.out n) hk1 hk2);have HS6:=Lib.hid hS6;have Hkc:=Lib.hid hkc;clear hk1 hk2 hk4 hk5 hS hF HS HF hS6 h0 hkc
   go_upto_region 7 with (fail)
   refine wp_name ?_;intro W6 hW6
   have HW6:Below w6.heap.size w6 W6:=by rw [hW6];(repeat' (first | exact Below.refl _ _ | assumption | apply bel_drewN | apply bel_drew | apply bel_alloc | (refine bel_trans ?_ (by assumption))))
   have d0:W6.cell? ⟨w6.heap.size,0,none⟩=some (.int .i64 ds):=by rw [hW6];go_simp
   have d1:W6.cell? ⟨w6.heap.size,1,none⟩=some (.int .i64 dd):=by rw [hW6];go_simp
   have hS7:=HS6.out.below HW6
   have l6:w6.heap.size≠mo:=by have:=HS6.out.mapC.lt;omega
   have l6b:w6.heap.size∉Sh:=fun hm=>by have:=HS6.out.heap.lt _ hm;omega
   obtain ⟨eb,heb⟩:∃eb,w6.heap.size=eb:=⟨_,rfl⟩
   rw [heb] at d0 d1 l6 l6b ⊢
   clear hW6 HS6 HW6 heb;go_wp2_with (refine wpList_storeM rfl _ _ _ rfl (int_fit Tryz.underlying3) Tryz.underlying246 hS7.mapC rfl (k:Nat) rfl (.agg #[.int .i64 ds,.int .i64 dd]) rfl ?_;intro w8 hm8 hk8);have hS9:=hS7.done hkn hdn hm8 hk8
   have d0:=cellK hk8 (by simpa using l6) d0
   have d1:=cellK hk8 (by simpa using l6) d1
   have hcnt:=cntS_new hkn hdn ⟨ds,dd⟩;have hcle:=cntS_le (FR.upd done k (some ⟨ds,dd⟩)) g.n;have HS9:=Lib.hid hS9
   have cE:=Lib.hid (lvEdges w8 b ml me nl Sb top (levV g S) (levI g S) (egE g S) (k:Nat) (EgL S g.n k) (H.out.below hS9.bel) (levOf g S) (egE_at Hkc.out.1) (by have:=len_EgL S g.n k;have:=Hn.out;omega))
   rw [free_EgL Hc.out] at cE;clear hS7 hm8 hk8 hS9;go_wp2_with fail
   (with_reducible refine cE.out.mono ?_)
   rintro e w9 ⟨vE,rfl,hOE,hb9⟩;obtain ⟨A1,m1,rfl,hEd⟩:=hOE.eds
   have hA1:0<(frL S g.n k).length→∀ad,A1=some ad→ad.block∉Sh∧ad.block≠mo:=fun hpos ad e=>by
    obtain ⟨g',e1,_,_⟩:=hEd hpos
    rw [e1] at e;injection e with e;subst e
    have:=(World.ownsRow.lt hOE g' (by rw [e1];rfl)).1
    exact ⟨fun hm=>by have:=HS9.out.heap.lt _ hm;simp only at this;omega,by have:=HS9.out.mapC.lt;simp only;omega⟩
   have hpend:∀b e,S.Lw n k b e→PendE (frL S g.n k) n 0 b e:=fun b e h=>PendE.first (fun y c m hy=>(Hc.out _ _ (by rw [hy];simp)).2.1.1) h
   obtain ⟨L,hL⟩:∃L,frL S g.n k=L:=⟨_,rfl⟩
   rw [hL] at hEd hA1 hpend ⊢
   obtain ⟨nl,hnl⟩:∃nl,L.length=nl:=⟨_,rfl⟩
   have hnl256:nl≤256:=by have:=len_frL S g.n k;rw [hL,hnl] at this;exact Nat.le_trans this Hn.out
   obtain ⟨done2,hdone2⟩:∃d,FR.upd done k (some ⟨ds,dd⟩)=d:=⟨_,rfl⟩
   have hdk:done2 k=some ⟨ds,dd⟩:=by rw [←hdone2];exact upd_same _ _ _
   rw [hdone2] at HS9 hF6 hcnt hcle;have hin:LfI w mo q eb S fr n k g.n L A1 done2 ds dd 0 w9:=⟨Sh,_,HS9.out.below hb9,hF6.out.weaken hpend,hEd,hA1,l6b,l6,bel_cell hb9 d0,bel_cell hb9 d1⟩;have hcb:=hF6.out.small (sml_nn Hs.out n) Hn.out (.inl hdk);obtain ⟨cb1,cb2,cb3,cb4⟩:=hcb;simp only at cb1 cb2 cb3 cb4;rw [hnl];have HL:=Lib.hid hL;have Hnl:=Lib.hid hnl;have Hdk:=Lib.hid hdk;clear hOE hEd hA1 hpend hL hnl hdone2 hdk HS9 hF6 d0 d1 cE hb9 l6 l6b
   obtain ⟨wz,rfl⟩:∃wz:World,wz=w9:=⟨_,rfl⟩;go_wp2_with fail
   go_loopw [38] (fun kv wr=>∃j:Nat,j≤nl∧kv=.int .i64 j∧LfI w mo q eb S fr n k g.n L A1 done2 ds dd j wr) (fun kv _=>nl-(intOf kv).toNat)
   case atStart=>exact ⟨0,by omega,rfl,hin⟩
   case round=>
    obtain ⟨j,hj,rfl,Sj,hp2,hS,hF,hI,hN,heS,hem,e0,e1⟩:=hrel;clear hin;have HS:=Lib.hid hS;have HF:=Lib.hid hF;have HN:=Lib.hid hN
    by_cases hlj:j<nl
    ·have HI:=Lib.hid hI
     obtain ⟨x,hx⟩:∃x,L[j]? = some x:=⟨L[j]'(by rw [Hnl.out];exact hlj),List.getElem?_eq_getElem _⟩
     obtain ⟨t,ht1,ht2,ht3,ht4,ht5,ht6⟩:=frL_at (S:=S) (N:=g.n) (n:=k) (by rw [HL.out];exact hx)
     obtain ⟨gb,hA,a1,a2,a3,a4⟩:=hI.get hx
     have hix:=fun wx=>idxE (m:=m1) hA hlj wx
     have hsx:=Hs.out _ _ _ _ ht3;obtain ⟨xt,⟨xs,xd⟩,xm⟩:=x;simp only at a1 a2 a3 a4 ht2 hsx;subst ht2;have Hx:=Lib.hid (And.intro hx (And.intro ht3 ht4));clear hA hx ht3 ht4 ht5 ht6 hS hF hN hI
     go_upto_region 11 with (fail)
     refine wp_name ?_;intro W hW
     have HW:Below wr.heap.size wr W:=by rw [hW];(repeat' (first | exact Below.refl _ _ | assumption | apply bel_drewN | apply bel_drew | apply bel_alloc | (refine bel_trans ?_ (by assumption))))
     have o0:W.cell? ⟨wr.heap.size,0,none⟩=some (.int .i64 (t:Nat)):=by rw [hW];go_simp
     have o1:W.cell? ⟨wr.heap.size,1,none⟩=some (.int .i64 xs):=by rw [hW];go_simp
     have o2:W.cell? ⟨wr.heap.size,2,none⟩=some (.int .i64 xd):=by rw [hW];go_simp
     have hbS:wr.heap.size∉Sj:=fun hm=>by have:=HS.out.heap.lt _ hm;omega
     obtain ⟨b13,hb13⟩:∃z,wr.heap.size=z:=⟨_,rfl⟩;have e0:=bel_cell HW e0;have e1:=bel_cell HW e1;have le0:eb<W.heap.size:=World.block_lt_of_cell? _ _ e0;have HSW:=Lib.hid (HS.out.below HW);have HIW:=Lib.hid (HI.out.below HW)
     rw [hb13] at o0 o1 o2 hbS ⊢
     have lb0:b13<W.heap.size:=World.block_lt_of_cell? _ _ o0;clear hW hb13 HS HI HW a1 a2 a3 a4 hix
     cases hdt:done2 t with
     | some y=>
      obtain ⟨ys,yd⟩:=y
      have hl:=costLook_in HSW.out.mapC (z:=(t:Nat)) (v:=.agg #[.int .i64 ys,.int .i64 yd]) (by rw [mapI_nat];unfold doneV;rw [hdt];rfl)
      have hP:LfC w mo q eb g.n L A1 done2 hp2 ds dd W:=⟨Sj,HSW.out,HIW.out,HN.out,heS,hem,e0,e1⟩;have hP:=Lib.hid hP
      have hFn:=Lib.hid (HF.out.skip (pend':=PendE L n (j+1)) (b:=t) (by rw [hdt];simp) (fun b' e' h=>(PendE.next Hx.out.1 rfl b' e' h).imp_right And.left))
      clear hdt HSW HIW e0 e1;go_wp2;go_roundw
      case rel=>exact ⟨j+1,by omega,by go_num,(hP.out.below (by (repeat' (first | exact Below.refl _ _ | assumption | apply bel_drewN | apply bel_drew | apply bel_alloc | (refine bel_trans ?_ (by assumption)))))).to hFn.out⟩
      case measure=>simp [intOf];omega
     | none=>
      have hl:=costLook_out HSW.out.mapC (z:=(t:Nat)) (by rw [mapI_nat];unfold doneV;rw [hdt];rfl)
      by_cases htn:t=n
      ·subst htn
       have hP:LfC w mo q eb g.n L A1 done2 hp2 ds dd W:=⟨Sj,HSW.out,HIW.out,HN.out,heS,hem,e0,e1⟩;have hP:=Lib.hid hP
       have hFn:=Lib.hid (HF.out.weaken (pend':=PendE L t (j+1)) (fun b' e' h=>PendE.skip Hx.out.1 rfl b' e' h))
       clear hdt HSW HIW e0 e1;go_wp2;go_roundw
       case rel=>exact ⟨j+1,by omega,by go_num,(hP.out.below (by (repeat' (first | exact Below.refl _ _ | assumption | apply bel_drewN | apply bel_drew | apply bel_alloc | (refine bel_trans ?_ (by assumption)))))).to hFn.out⟩
       case measure=>simp [intOf];omega
      ·have hne2:(((t:Nat):Int) != ((n:Nat):Int))=true:=bne_iff_ne.2 (by omega)
       go_upto_region 13 with (fail)
       refine wp_name ?_;intro W4 hW4
       have HW4:Below W.heap.size W W4:=by rw [hW4];(repeat' (first | exact Below.refl _ _ | assumption | apply bel_drewN | apply bel_drew | apply bel_alloc | (refine bel_trans ?_ (by assumption))))
       have e0:=bel_cell HW4 e0;have e1:=bel_cell HW4 e1;have o0:=bel_cell HW4 o0;have o1:=bel_cell HW4 o1;have o2:=bel_cell HW4 o2;have HS4:=Lib.hid (HSW.out.below HW4);have HI4:=Lib.hid (HIW.out.below HW4);clear hW4 HSW HIW hl HW4 le0 lb0 hne2
       have cA:=Lib.hid (fun w=>costAdd ds dd xs xd w (by unfold inC;omega) (by unfold inC;omega) (by unfold inC;omega) (by unfold inC;omega))
       obtain ⟨tb,htb⟩:∃b,lower? hp2 t ⟨ds+xs,dd+xd⟩=b:=⟨_,rfl⟩
       have cP:=Lib.hid (fun w' h'=>heapPushN w' Sj q g.n hp2 t (ds+xs) (dd+xd) tb h' ht1 (by have:=Hn.out;omega) ⟨by unfold inC;simp only;omega,by unfold inC;simp only;omega⟩ htb)
       have Htb:=Lib.hid htb;have Hdt:=Lib.hid hdt;have Hsx:=Lib.hid hsx;clear htb hdt hsx
       go_region_held3 (fun w'=>w'.cell? ⟨eb,0,none⟩=some (.int .i64 ds)∧w'.cell? ⟨eb,1,none⟩=some (.int .i64 dd)∧w'.cell? ⟨b13,0,none⟩=some (.int .i64 (t:Nat))∧w'.cell? ⟨b13,1,none⟩=some (.int .i64 xs)∧w'.cell? ⟨b13,2,none⟩=some (.int .i64 xd))
        (first
         | exact ⟨e0,e1,o0,o1,o2⟩
         | exact hSA
         | exact hSP)
        ((first
         | (go_at_call 94
            refine (cA.out _).mono ?_;rintro e wA ⟨rfl,hbA⟩;have hSA:wA.cell? ⟨eb,0,none⟩=some (.int .i64 ds)∧wA.cell? ⟨eb,1,none⟩=some (.int .i64 dd)∧wA.cell? ⟨b13,0,none⟩=some (.int .i64 (t:Nat))∧wA.cell? ⟨b13,1,none⟩=some (.int .i64 xs)∧wA.cell? ⟨b13,2,none⟩=some (.int .i64 xd):=⟨bel_cell (w:=W4.drew) hbA e0,bel_cell (w:=W4.drew) hbA e1,bel_cell (w:=W4.drew) hbA o0,bel_cell (w:=W4.drew) hbA o1,bel_cell (w:=W4.drew) hbA o2⟩)
         | (go_at_call 197
            refine (cP.out _ ((HS4.out.below (bel_drew (Below.refl _ _))).below hbA).heap).mono ?_;rintro e wh ⟨rfl,S1,hh1,hh2,hKh⟩;have hSP:wh.cell? ⟨eb,0,none⟩=some (.int .i64 ds)∧wh.cell? ⟨eb,1,none⟩=some (.int .i64 dd)∧wh.cell? ⟨b13,0,none⟩=some (.int .i64 (t:Nat))∧wh.cell? ⟨b13,1,none⟩=some (.int .i64 xs)∧wh.cell? ⟨b13,2,none⟩=some (.int .i64 xd):=⟨cellK hKh heS hSA.1,cellK hKh heS hSA.2.1,cellK hKh hbS hSA.2.2.1,cellK hKh hbS hSA.2.2.2.1,cellK hKh hbS hSA.2.2.2.2⟩)))
       all_goals
        have hd4:=bel_drew (Below.refl W4.heap.size W4);have hXX:=Lib.hid (LfC.of_push ((HS4.out.below hd4).below hbA) ((HI4.out.below hd4).below hbA) HN.out heS hem hSA.1 hSA.2.1 (u:=.bool tb) (e:=.returned (.bool tb)) (⟨rfl,S1,hh1,hh2,hKh⟩:HeapD wA Sj q _ _ _ _ wh));have hadd:C.add ⟨ds,dd⟩ ⟨xs,xd⟩=⟨ds+xs,dd+xd⟩:=rfl;have hlw:S.Lw n k t ⟨xs,xd⟩:=⟨⟨Hkc.out.2.1,Hx.out.2.2,xm,Hx.out.2.1⟩,Hkc.out.2.2,htn⟩
        have hFn:FM (S.Lw n) fr g.n done2 (pushed hp2 t ⟨ds+xs,dd+xd⟩ tb) k (PendE L n (j+1)):=by
         cases tb with
         | false=>
          obtain ⟨d',q1,q2⟩:=lower_no Htb.out;exact HF.out.keep (b:=t) (e:=⟨xs,xd⟩) Hdk.out q1 q2 (PendE.next Hx.out.1 rfl)
         | true=>
          exact HF.out.push (sml_nn Hs.out n) (b:=t) (e:=⟨xs,xd⟩) Hdk.out hlw ⟨Hsx.out.2.1,Hsx.out.2.2.2⟩ ht1 Hdt.out (lower_yes Htb.out) (PendE.next Hx.out.1 rfl)
        have hFn:=Lib.hid hFn;clear cA cP HS4 HI4 e0 e1 o0 o1 o2 hadd hlw hh1 hh2 hKh hd4 hbA hSA hSP;go_wp2;go_roundw
        case rel=>first | exact ⟨j+1,by omega,by go_num,hXX.out.to hFn.out⟩ | ((repeat apply Exists.intro);exact ⟨⟨j+1,by omega,by go_num,hXX.out.to hFn.out⟩,rfl⟩)
        case measure=>simp [intOf];omega
    ·obtain rfl:j=nl:=by omega
     have hF:LfO w mo q S fr n g.n (g.n-cntS done2 g.n) wr:=⟨Sj,_,hp2,k,hS,hF.weaken (fun b e h=>by have:=PendE.over b e (by rw [Hnl.out];exact h);exact this),Nat.le_refl _⟩
     have hF:=Lib.hid hF;clear HS HF HN hS hI hN e0 e1;go_wp2;go_roundg (g.n-cntS done2 g.n)
     case measure=>omega
     case rel=>exact hF.out
theorem pairsL_nodup:∀ {l:List Nat},l.Pairwise (· < ·)→(LS.pairsL l).Nodup
 | [],_=>by simp [LS.pairsL]
 | a :: l,h=>by
  rw [List.pairwise_cons] at h;unfold LS.pairsL;rw [List.nodup_append];refine ⟨?_,pairsL_nodup h.2,?_⟩
  ·unfold List.Nodup
   rw [List.pairwise_map]
   exact h.2.imp (fun h e=>by injection e with _ e;omega)
  ·intro p hp q hq e
   subst e;obtain ⟨b,_,rfl⟩:=List.mem_map.1 hp;have:=((LS.mem_pairsL h.2).1 hq).1;have:=h.1 a this;omega
open Classical in
noncomputable def nPairs (S:LS) (n:Nat) (P:List (Nat×Nat)):List (Nat×Nat):=P.filter fun p=>decide (S.Need n p.1 p.2)
theorem nPairs_more (S:LS) (N n:Nat):nPairs S n (LS.pairsL (S.nb N n))=S.more N n:=rfl
def OutAt (w:World) (mo:Nat) (S:LS) (n:Nat) (P:List (Nat×Nat)):Prop:=MapAt kP w mo (outV S n fun a b=>(a,b)∈nPairs S n P) (nPairs S n P).length
theorem OutAt.below {w w':World} {mo n:Nat} {S:LS} {P:List (Nat×Nat)} (h:OutAt w mo S n P) (hb:Below w.heap.size w w'):OutAt w' mo S n P:=MapAt.below h hb
theorem OutAt.no {w:World} {mo n a b:Nat} {S:LS} {P:List (Nat×Nat)} (h:OutAt w mo S n P) (hn:¬S.Need n a b):OutAt w mo S n (P ++ [(a,b)]):=by
 unfold OutAt
 have:nPairs S n (P ++ [(a,b)])=nPairs S n P:=by
  unfold nPairs;rw [List.filter_append];simp [hn]
 rw [this];exact h
theorem outV_congr {S:LS} {n:Nat} {T T':Nat→Nat→Prop} (h:∀a b,T a b↔T' a b):outV S n T=outV S n T':=by
 have:T=T':=by funext a b;exact propext (h a b)
 rw [this]
theorem OutAt.yes {w' : World} {mo n a b : Nat} {S : LS} {P : List (Nat × Nat)} (hn : S.Need n a b) (hP : (a, b) ∉ P)
    (h:MapAt kP w' mo (updK (outV S n fun a b=>(a,b)∈nPairs S n P) (((a:Nat):Int),((b:Nat):Int)) (some (edV ⟨(b:Nat),C.add (S.cost n a) (S.cost n b),(n:Nat)⟩))) (if ((outV S n fun a b=>(a,b)∈nPairs S n P) (((a:Nat):Int),((b:Nat):Int))).isSome then (nPairs S n P).length else (nPairs S n P).length+1)) :
    OutAt w' mo S n (P ++ [(a,b)]):=by
 have hnot:(a,b)∉nPairs S n P:=fun hh=>hP (List.mem_filter.1 hh).1
 have e0:outV S n (fun a b=>(a,b)∈nPairs S n P) (((a:Nat):Int),((b:Nat):Int))=none:=by
  unfold outV;rw [if_neg];rintro ⟨_,_,hh⟩;simp at hh;exact hnot hh
 rw [outV_put,e0] at h
 have e1:nPairs S n (P ++ [(a,b)])=nPairs S n P ++ [(a,b)]:=by
  unfold nPairs;rw [List.filter_append];simp [hn]
 unfold OutAt;rw [e1];simp only [Option.isSome_none,Bool.false_eq_true,if_false] at h;rw [List.length_append]
 rw [outV_congr (T':=fun x y=>(x,y)∈nPairs S n P∨(x=a∧y=b)) (fun x y=>by simp)]
 exact h
theorem OutAt.none {w:World} {mo n:Nat} {S:LS} (h:MapAt kP w mo (fun _=>Option.none) 0):OutAt w mo S n []:=by
 unfold OutAt
 have:(outV S n fun a b=>(a,b)∈nPairs S n [])=fun _=>Option.none:=by
  funext k;unfold outV nPairs;simp
 rw [this];exact h
def NeedD (w:World) (S:LS) (n N:Nat) (e:Ending) (w':World):Prop:=∃mo,e=.returned (.map (some mo))∧MapAt kP w' mo (outV S n fun a b=>(a,b)∈S.more N n) (S.more N n).length∧w.heap.size≤mo∧Below w.heap.size w w'
theorem wpList_sliceE {w : World} {ops : Array Oper} {rest : List Oper} {o : Oper} {a : Act} {Q : Exit → Act → World → Prop} (hg : o.guard = none) (x lo : Operand) (hop : o.op = Op.slice 119 x (some lo) none none) (g n m l : Nat)
    (hx:a.eval x=.slice (some ⟨g,0,none⟩) n m) (hlo:a.eval lo=.int .i64 (l:Nat)) (h1:l≤n) (h2:n≤m)
    (hK:∀A2 m2,(l<n→A2=some ⟨g,l*4,none⟩)→wpList Tryz.prog ops Q rest (a.put o.dst (.slice A2 (n-l) m2)) w):wpList Tryz.prog ops Q (o :: rest) a w:=by
 refine wpList_plain hg fun K' hK'=>?_
 unfold Oper.wp
 by_cases hml:m=l
 ·have hrun : (Instr.sliceAt 119 (.slice (some ⟨g, 0, none⟩) n m) (some (.int .i64 (l : Nat))) none none).run Tryz.prog w = .ok (.slice (some ⟨g, 0, none⟩) (n - l) (m - l)) w := by
    unfold Instr.sliceAt;go_simp
  simp [execOp,hop,hx,hlo,hrun,Result.andThen]
  exact hK' _ _ (hK _ _ (by omega))
 ·have hrun : (Instr.sliceAt 119 (.slice (some ⟨g, 0, none⟩) n m) (some (.int .i64 (l : Nat))) none none).run Tryz.prog w = .ok (.slice (some ⟨g, l * 4, none⟩) (n - l) (m - l)) w := by
    unfold Instr.sliceAt;go_simp
  simp [execOp,hop,hx,hlo,hrun,Result.andThen]
  exact hK' _ _ (hK _ _ (fun _=>rfl))
theorem idxE2 {A:Option Addr} {g l n m k:Nat} (h:A=some ⟨g,l*4,none⟩) (hk:k<n) (wx:World):(Instr.indexAt 119 (.slice A n m) (.int .i64 (k:Nat))).run Tryz.prog wx=.ok (.pointer (some ⟨g,l*4+k*4,none⟩)) wx:=by
 subst h
 have q:(k:Int)<(n:Int):=by omega
 go_simp
theorem prs_start {l:List Nat} {i a:Nat} {P:List (Nat×Nat)} (h:LS.pairsL l=P ++ LS.pairsL (l.drop i)) (ha:l[i]? = some a):LS.pairsL l=P ++ ((((l.drop (i+1)).drop 0).map fun b=>(a,b)) ++ LS.pairsL (l.drop (i+1))):=by
 obtain ⟨hi,e⟩:=List.getElem?_eq_some_iff.1 ha;rw [h,List.drop_eq_getElem_cons hi,e]
 rfl
theorem prs_step {l:List Nat} {i j a b:Nat} {P R:List (Nat×Nat)} (h:LS.pairsL l=P ++ ((((l.drop (i+1)).drop j).map fun b=>(a,b)) ++ R)) (hb:l[i+1+j]? = some b):LS.pairsL l=(P ++ [(a,b)]) ++ ((((l.drop (i+1)).drop (j+1)).map fun b=>(a,b)) ++ R):=by
 have hb':(l.drop (i+1))[j]? = some b:=by rw [List.getElem?_drop];exact hb
 obtain ⟨hi,e⟩:=List.getElem?_eq_some_iff.1 hb';rw [h,List.drop_eq_getElem_cons hi,e];simp
theorem prs_new {l:List Nat} (hl:l.Pairwise (· < ·)) {i j a b:Nat} {P R:List (Nat×Nat)} (h:LS.pairsL l=P ++ ((((l.drop (i+1)).drop j).map fun b=>(a,b)) ++ R)) (hb:l[i+1+j]? = some b):(a,b)∉P:=by
 have h2:=prs_step h hb;have hnd:=pairsL_nodup hl;rw [h2,List.append_assoc,List.nodup_append] at hnd;intro hm
 exact hnd.2.2 _ hm _ (by simp) rfl
theorem prs_end {l:List Nat} {i j a:Nat} {P R:List (Nat×Nat)} (h:LS.pairsL l=P ++ ((((l.drop (i+1)).drop j).map fun b=>(a,b)) ++ R)) (hj:l.length≤i+1+j):LS.pairsL l=P ++ R:=by
 rw [h,List.drop_drop,List.drop_eq_nil_of_le (by omega)]
 rfl
theorem prs_all {l:List Nat} {i:Nat} {P:List (Nat×Nat)} (h:LS.pairsL l=P ++ LS.pairsL (l.drop i)) (hi:l.length≤i):P=LS.pairsL l:=by
 rw [h,List.drop_eq_nil_of_le hi];simp [LS.pairsL]
theorem lvNeeded (w : World) (b ml me nl : Nat) (Sb : List Nat) (top : Int) (g : G) (S : LS) (hok : g.ok) (hc : Cor g S) (hs : Sml S) (n : Nat) (hn0 : S.lev n = 0) (h : LvOf w b ml me Sb top (levV g S) nl (egE g S)) (gb nE m : Nat)
    (hE:EdsAt w (some ⟨gb,0,none⟩) (frL S g.n n)) (hnE:(frL S g.n n).length=nE) (hm:nE≤m) :
    Calls Tryz.prog 167 #[.pointer (some ⟨b,0,none⟩),.int .i64 (n:Nat),.slice (some ⟨gb,0,none⟩) nE m] w (NeedD w S n g.n):=by
 have hn:=G.n_le hok;have hmm:=@run_makeMap Tryz.prog
 have hnE256:nE≤256:=by have:=len_frL S g.n n;omega
 have hnb:(S.nb g.n n).length=nE:=by rw [←hnE,frL_len]
 have hsort:=LS.nb_sorted S g.n n;obtain ⟨nb,hnb0⟩:∃l,S.nb g.n n=l:=⟨_,rfl⟩;rw [hnb0] at hnb hsort;have H:=Lib.hid h;have Hok:=Lib.hid hok;have Hc:=Lib.hid hc;have Hs:=Lib.hid hs;have Hn:=Lib.hid (And.intro hn hn0);have HE:=Lib.hid hE;have HnE:=Lib.hid hnE;have Hnb:=Lib.hid (And.intro hnb0 (And.intro hnb hsort));clear h hc hs hn0 hok hn hE hnE hnb hsort hnb0;go_enter Tryz.func167,Tryz.ntmps167
 go_upto_region 2 with (fail)
 refine wp_name ?_;intro W1 hW1
 have HW1:Below w.heap.size w W1:=by rw [hW1];(repeat' (first | exact Below.refl _ _ | assumption | apply bel_drewN | apply bel_drew | apply bel_alloc | (refine bel_trans ?_ (by assumption))))
 have hM1:MapAt kP W1 w.heap.size (fun _=>none) 0:=by rw [hW1];exact MapAt.made w
 have hs1:W1.heap.size=w.heap.size+1:=by rw [hW1];simp
 obtain ⟨mo,hmo⟩:∃mo,w.heap.size=mo:=⟨_,rfl⟩
 rw [hmo] at hM1 ⊢
 have hO1:=OutAt.none (S:=S) (n:=n) hM1;clear hW1 hmm hM1;go_wp2_with fail;obtain ⟨wz,rfl⟩:∃wz:World,wz=W1:=⟨_,rfl⟩
 go_loopw [19] (fun kv wr=>∃(i:Nat) (P:List (Nat×Nat)),kv=.int .i64 i∧i≤nE∧LS.pairsL nb=P ++ LS.pairsL (nb.drop i)∧OutAt wr mo S n P∧Below w.heap.size w wr) (fun kv _=>nE-(intOf kv).toNat)
 case atStart=>exact ⟨0,[],rfl,by omega,rfl,hO1,HW1⟩
 case round=>
  obtain ⟨i,P,rfl,hi,hP,hO,hB⟩:=hrel;clear hO1;have HP:=Lib.hid hP;have HO:=Lib.hid hO;clear hP hO
  by_cases hlt:i<nE
  ·obtain ⟨x,hx⟩:∃x,(frL S g.n n)[i]? = some x:=⟨_,List.getElem?_eq_getElem (by rw [HnE.out];exact hlt)⟩
   obtain ⟨t,ht1,ht2,ht3,ht4,ht5,ht6⟩:=frL_at hx;obtain ⟨gb',hA,a1,a2,a3,a4⟩:=(HE.out.below hB).get hx
   injection hA with hA;injection hA with hA
   subst hA
   have hix:=fun wx=>idxE (A:=some ⟨gb,0,none⟩) (m:=m) rfl hlt wx
   have hsx:=Hs.out _ _ _ _ ht3;obtain ⟨xt,⟨xs,xd⟩,xm⟩:=x;simp only at a1 a2 a3 a4 ht2 hsx ht3 ht6;subst ht2;rw [Hnb.out.1] at ht5
   have htc:=Hc.out n t (by rw [ht3];simp)
   have Ht:=Lib.hid (And.intro ht5 (And.intro ht6 (And.intro hsx (And.intro htc ht4))));clear hx ht3 ht4 ht5 ht6 hsx htc
   go_upto_region 5 with (fail)
   refine wp_name ?_;intro W hW
   have HW:Below wr.heap.size wr W:=by rw [hW];(repeat' (first | exact Below.refl _ _ | assumption | apply bel_drewN | apply bel_drew | apply bel_alloc | (refine bel_trans ?_ (by assumption))))
   have o0:W.cell? ⟨wr.heap.size,0,none⟩=some (.int .i64 (t:Nat)):=by rw [hW];go_simp
   have o1:W.cell? ⟨wr.heap.size,1,none⟩=some (.int .i64 xs):=by rw [hW];go_simp
   have o2:W.cell? ⟨wr.heap.size,2,none⟩=some (.int .i64 xd):=by rw [hW];go_simp
   have hmo9:wr.heap.size≠mo:=by have:=HO.out.lt;omega
   obtain ⟨b9,hb9⟩:∃z,wr.heap.size=z:=⟨_,rfl⟩;have HOW:=Lib.hid (HO.out.below HW);have HBW:=bel_trans hB HW;have cF:=Lib.hid (lvFlood W b ml me nl Sb top g S Hok.out Hc.out Hs.out t n Ht.out.2.2.2.1.2.1 Ht.out.2.2.2.2 (Ne.symm Ht.out.2.2.2.1.2.2) (H.out.below HBW))
   rw [hb9] at o0 o1 o2 hmo9 ⊢
   clear hW hb9 HO HW a1 a2 a3 a4 hix hB;go_wp2_with fail
   (with_reducible refine cF.out.mono ?_)
   rintro e w5 ⟨mf,done,rfl,hMF,hd1,hd2,hd3,hmf,hb5⟩
   have hmof:mo≠mf:=by have:=HOW.out.lt;omega
   have o0:=bel_cell hb5 o0;have o1:=bel_cell hb5 o1;have o2:=bel_cell hb5 o2;have HO5:=Lib.hid (HOW.out.below hb5);have HB5:=bel_trans HBW hb5;have HMF:=Lib.hid hMF;have HD:=Lib.hid (And.intro hd1 (And.intro hd2 hd3))
   have hwi:IntKind.i64.wrap ((i:Int)+1)=((i+1:Nat):Int):=by rw [IntWalk.i64_in _ (by omega)];omega
   clear hMF hd1 hd2 hd3 HOW HBW hb5 cF
   go_wp2_with (refine wpList_sliceE rfl (.tmp 29) (.tmp 31) rfl gb nE m (i+1) rfl rfl (by omega) hm ?_;intro A2 m2 hA2)
   have hP0:=prs_start HP.out Ht.out.1;obtain ⟨nr,hnr⟩:∃z,nE-(i+1)=z:=⟨_,rfl⟩;rw [hnr];have HA2:=Lib.hid hA2;clear hA2 HP hwi;obtain ⟨wy,rfl⟩:∃wy:World,wy=w5:=⟨_,rfl⟩
   go_loopw [34] (fun kv wr=>∃(j:Nat) (P:List (Nat×Nat)),kv=.int .i64 j∧j≤nr∧LS.pairsL nb=P ++ ((((nb.drop (i+1)).drop j).map fun b=>(t,b)) ++ LS.pairsL (nb.drop (i+1)))∧OutAt wr mo S n P∧Kept [mo] wy wr∧Below w.heap.size w wr) (fun kv _=>nr-(intOf kv).toNat)
   case atStart=>exact ⟨0,P,rfl,by omega,hP0,HO5.out,Kept.refl _ _,HB5⟩
   case round=>
    obtain ⟨j,P2,rfl,hj,hP2,hO2,hBy,hB2⟩:=hrel;have HP2:=Lib.hid hP2;have HO2:=Lib.hid hO2;clear hP0 hP2 hO2
    by_cases hlj:j<nr
    ·obtain ⟨y,hy⟩:∃y,(frL S g.n n)[i+1+j]? = some y:=⟨_,List.getElem?_eq_getElem (by rw [HnE.out];omega)⟩
     obtain ⟨t2,q1,q2,q3,q4,q5,q6⟩:=frL_at hy;obtain ⟨gb',hA,a1,a2,a3,a4⟩:=(HE.out.below hB2).get hy
     injection hA with hA;injection hA with hA
     subst hA
     have hix:=fun wx=>idxE2 (m:=m2) (HA2.out (by omega)) hlj wx
     have hsy:=Hs.out _ _ _ _ q3;obtain ⟨yt,⟨ys,yd⟩,ym⟩:=y;simp only at a1 a2 a3 a4 q2 hsy q3 q6;subst q2;rw [Hnb.out.1] at q5
     rw [show (i+1+j)*4=(i+1)*4+j*4 by omega] at a1 a2 a3 a4
     have Hq:=Lib.hid (And.intro q5 q6);have Hsy:=Lib.hid (And.intro Ht.out.2.2.1 hsy)
     have o0:=keptc hBy (by simpa using hmo9) o0
     have o1:=keptc hBy (by simpa using hmo9) o1
     have o2:=keptc hBy (by simpa using hmo9) o2
     have HMr:=Lib.hid (HMF.out.kept hBy (by simpa using Ne.symm hmof))
     have hsx:=Ht.out.2.2.1
     have cA:=Lib.hid (fun w=>costAdd xs xd ys yd w (by unfold inC;omega) (by unfold inC;omega) (by unfold inC;omega) (by unfold inC;omega))
     clear hy q3 q4 q5 q6
     go_upto_region 9 with (fail)
     refine wp_name ?_;intro W8 hW8
     have HW8:Below wr.heap.size wr W8:=by rw [hW8];(repeat' (first | exact Below.refl _ _ | assumption | apply bel_drewN | apply bel_drew | apply bel_alloc | (refine bel_trans ?_ (by assumption))))
     have u0:W8.cell? ⟨wr.heap.size,0,none⟩=some (.int .i64 (t2:Nat)):=by rw [hW8];go_simp
     have u1:W8.cell? ⟨wr.heap.size,1,none⟩=some (.int .i64 ys):=by rw [hW8];go_simp
     have u2:W8.cell? ⟨wr.heap.size,2,none⟩=some (.int .i64 yd):=by rw [hW8];go_simp
     obtain ⟨b12,hb12⟩:∃z,wr.heap.size=z:=⟨_,rfl⟩;have o0:=bel_cell HW8 o0;have o1:=bel_cell HW8 o1;have o2:=bel_cell HW8 o2;have HM8:=Lib.hid (HMr.out.below HW8);have HO8:=Lib.hid (HO2.out.below HW8);have hB8:=bel_trans hB2 HW8;have HK8:=Lib.hid HW8
     rw [hb12] at u0 u1 u2 ⊢
     clear hW8 hb12 HW8 HMr HO2 hB2 a1 a2 a3 a4 hix;go_wp2_with fail
     (with_reducible refine (cA.out _).mono ?_)
     rintro e w9 ⟨rfl,hb9⟩
     go_upto_region 10 with (fail)
     refine wp_name ?_;intro Wa hWa
     have HWa:Below w9.heap.size w9 Wa:=by rw [hWa];(repeat' (first | exact Below.refl _ _ | assumption | apply bel_drewN | apply bel_drew | apply bel_alloc | (refine bel_trans ?_ (by assumption))))
     have v0:Wa.cell? ⟨w9.heap.size,0,none⟩=some (.int .i64 (xs+ys)):=by rw [hWa];go_simp
     have v1:Wa.cell? ⟨w9.heap.size,1,none⟩=some (.int .i64 (xd+yd)):=by rw [hWa];go_simp
     obtain ⟨b13,hb13⟩:∃z,w9.heap.size=z:=⟨_,rfl⟩;have hba:=bel_trans hb9 HWa;have o0:=bel_cell hba o0;have u0:=bel_cell hba u0;have HMa:=Lib.hid (HM8.out.below hba);have HOa:=Lib.hid (HO8.out.below hba);have hBa:=bel_trans hB8 hba;have hKa:Kept [mo] wy Wa:=(hBy.trans (.of_below HK8.out)).trans (.of_below hba)
     rw [hb13] at v0 v1 ⊢
     have l9:b9<Wa.heap.size:=World.block_lt_of_cell? _ _ o0;have l12:b12<Wa.heap.size:=World.block_lt_of_cell? _ _ u0;have l13:b13<Wa.heap.size:=World.block_lt_of_cell? _ _ v0;clear hWa hb13 HWa hb9 hba hBy HK8 HM8 HO8 hB8 o1 o2 u1 u2 cA
     have hneed:=LS.need_iff (S:=S) (n:=n) (a:=t) (b:=t2) (done:=done) (fun c hc=>HD.out.1 t2 c hc) (fun hn c=>HD.out.2.1 t2 hn c)
     rw [Ht.out.2.1,Hq.out.2] at hneed;have Hneed:=Lib.hid hneed;have hst:=prs_step HP2.out Hq.out.1;have hnw:=prs_new Hnb.out.2.2 HP2.out Hq.out.1;have HST:=Lib.hid (And.intro hst hnw);clear hneed hst hnw HP2
     cases hdt:done t2 with
     | none=>
      have hl:=costLook_out HMa.out (z:=(t2:Nat)) (by rw [mapI_nat];unfold doneV;rw [hdt];rfl)
      have hnd:S.Need n t t2:=Hneed.out.2 (fun d hd=>by rw [hdt] at hd;cases hd)
      have Hnd:=Lib.hid hnd;clear hdt hnd
      go_upto_region 12 with (fail)
      refine wp_name ?_;intro Wb hWb
      have HWb:Below Wa.heap.size Wa Wb:=by rw [hWb];(repeat' (first | exact Below.refl _ _ | assumption | apply bel_drewN | apply bel_drew | apply bel_alloc | (refine bel_trans ?_ (by assumption))))
      have o0:=bel_cell HWb o0;have u0:=bel_cell HWb u0;have v0:=bel_cell HWb v0;have v1:=bel_cell HWb v1;have HOb:=HOa.out.below HWb;have hBb:=bel_trans hBa HWb;have hKb:=hKa.trans (.of_below HWb);clear hKa hWb HWb l9 l12 l13 HMa hBa hl;go_wp2_with (refine wpList_storeM rfl _ _ _ rfl pair_fit Tryz.underlying268 HOb rfl (((t:Nat):Int),((t2:Nat):Int)) rfl (edV ⟨(t2:Nat),⟨xs+ys,xd+yd⟩,(n:Nat)⟩) rfl ?_;intro wU hmU hkU)
      have hcost:(⟨xs+ys,xd+yd⟩:C)=C.add (S.cost n t) (S.cost n t2):=by rw [Ht.out.2.1,Hq.out.2];rfl
      rw [hcost] at hmU;have hF:OutAt wU mo S n (P2 ++ [(t,t2)]):=OutAt.yes Hnd.out HST.out.2 hmU;have hBy:Kept [mo] wy wU:=hKb.trans hkU
      have hB:Below w.heap.size w wU:=Kept.below hBb hkU (by have:=hBb.size;omega) (by simp;omega)
      have HF:=Lib.hid (And.intro hF (And.intro hBy hB));clear hmU hkU hcost hF hBy hB hBb hKb HOb o0 u0 v0 v1;go_roundw
      case rel=>exact ⟨j+1,_,by go_num,by omega,HST.out.1,HF.out⟩
      case measure=>simp [intOf];omega
     | some d=>
      obtain ⟨ds,dd⟩:=d
      have hl:=costLook_in HMa.out (z:=(t2:Nat)) (v:=.agg #[.int .i64 ds,.int .i64 dd]) (by rw [mapI_nat];unfold doneV;rw [hdt];rfl)
      have hdd:=HD.out.2.2 t2 _ hdt;simp only at hdd;obtain ⟨tb,htb⟩:∃tb,decide (C.cmp ⟨xs+ys,xd+yd⟩ ⟨ds,dd⟩<0)=tb:=⟨_,rfl⟩
      have cL:=fun w=>costLess (xs+ys) (xd+yd) ds dd w (by have:=Hsy.out;unfold inC;omega) (by have:=Hsy.out;unfold inC;omega) (by unfold inC;omega) (by unfold inC;omega)
      rw [htb] at cL;have cL:=Lib.hid cL
      have hnd:tb=true↔S.Need n t t2:=by
       rw [Hneed.out,←htb];simp only [decide_eq_true_eq]
       constructor
       ·intro h d' hd'
        rw [hdt] at hd';injection hd' with hd';subst hd'
        exact C.cmp_neg.1 h
       ·intro h
        exact C.cmp_neg.2 (h _ hdt)
      have Hni:=Lib.hid hnd;clear hdt hnd hdd htb;go_wp2_with fail
      (with_reducible refine (cL.out _).mono ?_)
      rintro e wl ⟨rfl,hbl⟩;have hbl:=bel_trans (bel_alloc (Below.refl _ _)) hbl
      cases tb with
      | true=>
       have Hnd:=Lib.hid (Hni.out.1 rfl);clear Hni
       go_upto_region 12 with (fail)
       refine wp_name ?_;intro Wb hWb
       have HWb:Below Wa.heap.size Wa Wb:=by rw [hWb];exact hbl
       have o0:=bel_cell HWb o0;have u0:=bel_cell HWb u0;have v0:=bel_cell HWb v0;have v1:=bel_cell HWb v1;have HOb:=HOa.out.below HWb;have hBb:=bel_trans hBa HWb;have hKb:=hKa.trans (.of_below HWb);clear hKa hWb HWb l9 l12 l13 HMa hBa hl hbl;go_wp2_with (refine wpList_storeM rfl _ _ _ rfl pair_fit Tryz.underlying268 HOb rfl (((t:Nat):Int),((t2:Nat):Int)) rfl (edV ⟨(t2:Nat),⟨xs+ys,xd+yd⟩,(n:Nat)⟩) rfl ?_;intro wU hmU hkU)
       have hcost:(⟨xs+ys,xd+yd⟩:C)=C.add (S.cost n t) (S.cost n t2):=by rw [Ht.out.2.1,Hq.out.2];rfl
       rw [hcost] at hmU;have hF:OutAt wU mo S n (P2 ++ [(t,t2)]):=OutAt.yes Hnd.out HST.out.2 hmU;have hBy:Kept [mo] wy wU:=hKb.trans hkU
       have hB:Below w.heap.size w wU:=Kept.below hBb hkU (by have:=hBb.size;omega) (by simp;omega)
       have HF:=Lib.hid (And.intro hF (And.intro hBy hB));clear hmU hkU hcost hF hBy hB hBb hKb HOb o0 u0 v0 v1;go_roundw
       case rel=>exact ⟨j+1,_,by go_num,by omega,HST.out.1,HF.out⟩
       case measure=>simp [intOf];omega
      | false=>
       have hno:¬S.Need n t t2:=fun h=>by have:=Hni.out.2 h;cases this
       have HF:=Lib.hid (And.intro ((HOa.out.below hbl).no hno) (And.intro (hKa.trans (.of_below hbl)) (bel_trans hBa hbl)));clear Hni hKa HMa hBa hl hbl hno l9 l12 l13 o0 u0 v0 v1;go_wp2;go_roundw
       case rel=>exact ⟨j+1,_,by go_num,by omega,HST.out.1,HF.out⟩
       case measure=>simp [intOf];omega
    ·obtain rfl:j=nr:=by omega
     have hF:=prs_end HP2.out (by have:=Hnb.out.2.1;omega)
     have HF:=Lib.hid (And.intro hF (And.intro HO2.out hB2));clear hF HO2 hB2 hBy o0 o1 o2;go_wp2;go_roundw
     case rel=>first | exact ⟨i+1,_,by go_num,by omega,HF.out⟩ | ((repeat apply Exists.intro);exact ⟨⟨i+1,_,by go_num,by omega,HF.out⟩,rfl⟩)
     case measure=>simp [intOf];omega
  ·obtain rfl:i=nE:=by omega
   have hPe:=prs_all HP.out (by have:=Hnb.out.2.1;omega)
   have hF:NeedD w S n g.n (.returned (.map (some mo))) wr:=by
    have h1:=HO.out;unfold OutAt at h1;rw [hPe,←Hnb.out.1,nPairs_more] at h1
    exact ⟨mo,rfl,h1,by omega,hB⟩
   have hF:=Lib.hid hF;clear HO hB;go_wp2;go_ret;exact hF.out
theorem lvNeeded0 (w : World) (b n m : Nat) (S : LS) (N : Nat) (A : Option Addr) (hL : frL S N n = []) :
    Calls Tryz.prog 167 #[.pointer (some ⟨b,0,none⟩),.int .i64 (n:Nat),.slice A 0 m] w (NeedD w S n N):=by
 have hmm:=@run_makeMap Tryz.prog
 have hmore:S.more N n=[]:=by
  have:S.nb N n=[]:=by rw [←frL_nb,hL];rfl
  unfold LS.more;rw [this];rfl
 have Hmore:=Lib.hid hmore;clear hL hmore;go_enter Tryz.func167,Tryz.ntmps167
 go_upto_region 2 with (fail)
 refine wp_name ?_;intro W1 hW1
 have HW1:Below w.heap.size w W1:=by rw [hW1];(repeat' (first | exact Below.refl _ _ | assumption | apply bel_drewN | apply bel_drew | apply bel_alloc | (refine bel_trans ?_ (by assumption))))
 have hM1:MapAt kP W1 w.heap.size (fun _=>none) 0:=by rw [hW1];exact MapAt.made w
 obtain ⟨mo,hmo⟩:∃mo,w.heap.size=mo:=⟨_,rfl⟩
 rw [hmo] at hM1 ⊢
 have hO1:=OutAt.none (S:=S) (n:=n) hM1;clear hW1 hmm hM1
 have hF:NeedD w S n N (.returned (.map (some mo))) W1:=by
  refine ⟨mo,rfl,?_,by omega,HW1⟩
  rw [Hmore.out];exact hO1
 have hF:=Lib.hid hF;clear hO1;go_wp2_with fail
 go_loopw [19] (fun kv wr=>kv=.int .i64 (0:Nat)∧wr=W1) (fun kv _=>1-(intOf kv).toNat)
 case atStart=>exact ⟨rfl,rfl⟩
 case round=>
  obtain ⟨rfl,rfl⟩:=hrel;go_wp2;go_ret;exact hF.out
theorem lvNeeded_any (w : World) (b ml me nl : Nat) (Sb : List Nat) (top : Int) (g : G) (S : LS) (hok : g.ok) (hc : Cor g S) (hs : Sml S) (n : Nat) (hn0 : S.lev n = 0) (h : LvOf w b ml me Sb top (levV g S) nl (egE g S)) (A : Option Addr) (nE m : Nat)
    (hE:EdsAt w A (frL S g.n n)) (hnE:(frL S g.n n).length=nE) (hm:nE≤m) :
    Calls Tryz.prog 167 #[.pointer (some ⟨b,0,none⟩),.int .i64 (n:Nat),.slice A nE m] w (NeedD w S n g.n):=by
 by_cases h0:nE=0
 ·subst h0
  exact lvNeeded0 w b n m S g.n A (List.eq_nil_of_length_eq_zero hnE)
 ·obtain ⟨gb,rfl,_⟩:=hE (by omega)
  exact lvNeeded w b ml me nl Sb top g S hok hc hs n hn0 h gb nE m hE hnE hm
def nearV (near:Nat→Bool) (z:Int):Option Value:=if 0≤z∧near z.toNat=true then some (.bool true) else none
theorem nearV_at (near:Nat→Bool) (n:Nat):(nearV near (n:Nat)).getD (.bool false)=.bool (near n):=by
 cases h:near n <;> simp [nearV,h]
theorem nearV_put (near:Nat→Bool) (t:Nat):updK (nearV near) ((t:Nat):Int) (some (.bool true))=nearV (fun x=>near x || decide (x=t)):=by
 funext z
 unfold updK nearV
 by_cases e:z=(t:Nat)
 ·rw [if_pos e,if_pos ⟨by omega,by simp;right;omega⟩]
 ·rw [if_neg e]
  by_cases h:0≤z
  ·have:z.toNat≠t:=by omega
   simp [this]
  ·rw [if_neg (fun q=>h q.1),if_neg (fun q=>h q.1)]
theorem nearV_none:nearV (fun _=>false)=fun _=>none:=by funext z;unfold nearV;simp
def nearJ (near:Nat→Bool) (nb:List Nat) (j:Nat) (x:Nat):Bool:=near x || decide (x∈nb.take j)
theorem nearJ_step {near:Nat→Bool} {nb:List Nat} {j t:Nat} (h:nb[j]? = some t):(fun x=>nearJ near nb j x || decide (x=t))=nearJ near nb (j+1):=by
 funext x
 unfold nearJ;obtain ⟨hj,e⟩:=List.getElem?_eq_some_iff.1 h;rw [List.take_succ_eq_append_getElem hj,e,Bool.or_assoc]
 congr 1
 by_cases h1:x∈nb.take j <;> by_cases h2:x=t <;> simp [h1,h2]
theorem nearJ_zero (near:Nat→Bool) (nb:List Nat):nearJ near nb 0=near:=by funext x;unfold nearJ;simp
theorem nearJ_all {near:Nat→Bool} {nb:List Nat} {j:Nat} (h:nb.length≤j):nearJ near nb j=fun x=>near x || decide (x∈nb):=by
 funext x;unfold nearJ;rw [List.take_of_length_le h]
theorem levV_part {g:G} {S:LS} {n tp:Nat} {T:Nat→Nat→Prop} (hc:g.Corner n):updK (levV g S) ((n:Nat):Int) (some (.int .i64 (tp:Nat)))=levV g (S.part n tp T):=by
 funext z
 unfold updK
 by_cases e:z=(n:Nat)
 ·rw [if_pos e,e,levV_at hc]
  show _=some (Value.int .i64 ((FR.upd S.lev n tp n:Nat):Int))
  rw [upd_same]
 ·rw [if_neg e]
  unfold levV
  by_cases h:0≤z∧g.Corner z.toNat
  ·rw [if_pos h,if_pos h]
   show _=some (Value.int .i64 ((FR.upd S.lev n tp z.toNat:Nat):Int))
   rw [upd_ne _ _ (by omega)]
  ·rw [if_neg h,if_neg h]
theorem egE_part0 {g:G} {S:LS} {n tp:Nat} {T:Nat→Nat→Prop} (h:∀a b,¬T a b):egE g (S.part n tp T)=egE g S:=by
 unfold egE EgL;rw [LS.part_none h]
open Classical in
noncomputable def cornersN (g:G):List Nat:=(List.range g.n).filter fun a=>decide (g.Corner a)
theorem mem_cornersN {g:G} {a:Nat}:a∈cornersN g↔g.Corner a:=by
 unfold cornersN;simp;exact fun h=>h.1
theorem cornersN_sorted (g:G):(cornersN g).Pairwise (· < ·):=List.Pairwise.filter _ List.pairwise_lt_range
theorem cornersN_nodup (g:G):(cornersN g).Nodup:=(cornersN_sorted g).imp (fun h e=>by omega)
noncomputable def leftN (g:G) (S:LS):List Nat:=(cornersN g).filter fun a=>decide (S.lev a=0)
theorem mem_leftN {g:G} {S:LS} {a:Nat}:a∈leftN g S↔g.Corner a∧S.lev a=0:=by
 unfold leftN;rw [List.mem_filter,mem_cornersN];simp
theorem leftN_nodup (g:G) (S:LS):(leftN g S).Nodup:=(cornersN_nodup g).filter _
theorem leftN_len {g:G} (S:LS):(leftN g S).length≤g.n:=Nat.le_trans (List.length_filter_le _ _) (Nat.le_trans (List.length_filter_le _ _) (by simp))
theorem leftI_sorted (g:G) (S:LS):((leftN g S).map fun n:Nat=>(n:Int)).Pairwise (· < ·):=by
 rw [List.pairwise_map]
 exact ((cornersN_sorted g).filter _).imp (fun h=>by omega)
theorem mem_leftI {g:G} {S:LS} (z:Int):z∈((leftN g S).map fun n:Nat=>(n:Int))↔levV g S z≠none∧levI g S z=0:=by
 rw [List.mem_map]
 constructor
 ·rintro ⟨n,hn,rfl⟩
  obtain ⟨h1,h2⟩:=mem_leftN.1 hn
  exact ⟨levV_ne.2 ⟨n,rfl,h1⟩,by rw [levI_at h1,h2];rfl⟩
 ·rintro ⟨h1,h2⟩
  obtain ⟨n,rfl,hc⟩:=levV_ne.1 h1;rw [levI_at hc] at h2
  exact ⟨n,mem_leftN.2 ⟨hc,by omega⟩,rfl⟩
noncomputable def rdAt (g:G) (S:LS) (tp i:Nat):RS:=((leftN g S).take i).foldl (RS.step g.n tp) ⟨S,fun _=>false,false⟩
theorem rd_step {g:G} {S:LS} {tp i n:Nat} (h:(leftN g S)[i]? = some n):rdAt g S tp (i+1)=RS.step g.n tp (rdAt g S tp i) n:=by
 unfold rdAt;obtain ⟨hj,e⟩:=List.getElem?_eq_some_iff.1 h;rw [List.take_succ_eq_append_getElem hj,List.foldl_append,e]
 rfl
theorem rd_all {g:G} {S:LS} {tp i:Nat} (h:(leftN g S).length≤i):rdAt g S tp i=RS.run g.n tp (cornersN g) S:=by
 unfold rdAt RS.run;rw [List.take_of_length_le h,LS.fold_left (cornersN g) _ (cornersN_nodup g)]
 rfl
theorem rd_inv {g:G} {S:LS} {tp K:Nat} (H:LS.Inv g g.n tp K S (fun _=>false)) (i:Nat):LS.Inv g g.n tp K (rdAt g S tp i).S (rdAt g S tp i).near:=
 LS.fold_inv _ _ H (fun n hn=>(mem_leftN.1 (List.mem_of_mem_take hn)).1)
theorem rd_lev {g:G} {S:LS} {tp i n:Nat} (h:(leftN g S)[i]? = some n):(rdAt g S tp i).S.lev n=0∧g.Corner n:=by
 obtain ⟨h1,h2⟩:=mem_leftN.1 (List.mem_of_getElem? h);refine ⟨?_,h1⟩;unfold rdAt;rw [LS.fold_lev_out]
 ·exact h2
 ·intro hm
  obtain ⟨j,hj⟩:=List.getElem?_of_mem hm;rw [List.getElem?_take] at hj
  split at hj
  ·have:=(List.getElem?_inj (List.getElem?_eq_some_iff.1 h).1 (leftN_nodup g S)).1 (h.trans hj.symm)
   omega
  ·cases hj
theorem inv_cor {g:G} {N tp K:Nat} {S:LS} {nr:Nat→Bool} (H:LS.Inv g N tp K S nr):Cor g S:=H.corner
theorem inv_sml {g:G} {N tp K:Nat} {S:LS} {nr:Nat→Bool} (H:LS.Inv g N tp K S nr) (hK:K≤1000):Sml S:=fun a b c m h=>by
 obtain ⟨h1,h2,h3,h4,_⟩:=H.small a b c m h
 exact ⟨h1,by omega,h3,by omega⟩
def SrcK (g:G) (es:List Ed) (k:Nat):Nat→C→Prop:=fun s c=>g.Corner s∧∃(i:Nat) (e:Ed),i<k∧es[i]? = some e∧e.to_=(s:Nat)∧e.c=c
abbrev SrcO (g:G) (es:List Ed):Nat→C→Prop:=SrcK g es es.length
def EdsOk (es:List Ed):Prop:=∀e∈es,0≤e.c.s∧e.c.s≤1048576∧0≤e.c.d∧e.c.d≤1048576
theorem srcK_nn {g:G} {out:List Ed} (h:EdsOk out) {k s:Nat} {c:C} (hs:SrcK g out k s c):C.Nn c:=by
 obtain ⟨_,i,e,_,h1,_,rfl⟩:=hs;have:=h e (List.mem_of_getElem? h1);exact ⟨this.1,this.2.2.1⟩
theorem le_big {c:C} (h:0≤c.s∧c.s≤1048576∧0≤c.d∧c.d≤1048576):C.le c ⟨0,((2100000:Nat):Int)⟩:=by
 obtain ⟨s,d⟩:=c;simp only at h;refine C.le_trans (C.le_dd h.1) (C.le_of_parts (Int.le_refl _) ?_);simp only;omega
def TotL (g:G) (out inn:List Ed) (c:C):Prop:=∃(t:Nat) (c1:C) (e:Ed),FR.Reach g.GE (SrcO g out) t c1∧e∈inn∧e.to_=t∧c=C.add c1 e.c
def BestIs (g:G) (out inn:List Ed) (b:C) (fd:Bool):Prop:=(fd=false→b=C.zero∧∀c,¬TotL g out inn c)∧(fd=true→TotL g out inn b∧∀c,TotL g out inn c→C.le b c)
theorem le_step {c:C} (h:0≤c.s∧c.s≤2000∧0≤c.d∧c.d≤2000):C.le c ⟨0,((4000:Nat):Int)⟩:=by
 obtain ⟨s,d⟩:=c;simp only at h;refine C.le_trans (C.le_dd h.1) (C.le_of_parts (Int.le_refl _) ?_);simp only;omega
end Go.Proofs.YtokhnobcincfjaaGreatDoor
namespace Go.Proofs.YtokhnobcincfjaaGreatDoor
open FR
namespace G2
theorem first_corner {g:G}:∀(n:Nat) {a b:Nat} {c:C},(c.s+c.d).toNat≤n→g.Corner b→Dist g.E a b c→∃s c2,g.Corner s∧g.Direct a s∧Walk g.GE s b c2∧C.add (g.oct a s) c2=c:=by
 intro n
 induction n using Nat.strongRecOn with
 | _ n ih=>
  intro a b c hn hb h
  have split:∀ {q:Nat} {c1 c2:C},g.Corner q→Dist g.E a q c1→Dist g.E q b c2→C.add c1 c2=c→c2≠C.zero→∃s c2,g.Corner s∧g.Direct a s∧Walk g.GE s b c2∧C.add (g.oct a s) c2=c:=by
   intro q c1 c2 hq h1 h2 e z2;have l1:=G.sum_lt (G.wnn h1.1) (G.wnn h2.1) e z2;obtain ⟨s,c3,q1,q2,q3,q4⟩:=ih _ (Nat.lt_of_lt_of_le l1 hn) (Nat.le_refl _) hq h1;refine ⟨s,C.add c3 c2,q1,q2,q3.trans (G.corners_enough _ (Nat.le_refl _) hq hb h2),?_⟩;rw [←C.add_assoc,q4,e]
  by_cases hc:c=g.oct a b
  ·by_cases hd:g.Direct a b
   ·exact ⟨b,C.zero,hb,hd,.nil _,by rw [C.add_zero,hc]⟩
   ·have hnear:g.Near a b:=by unfold G.Near;rw [←hc];exact h.1
    have:∃k,g.Corner k∧k≠a∧k≠b∧g.Mid a b k:=by
     apply Classical.byContradiction
     intro hno
     exact hd ⟨hnear,fun k h1 h2 h3 h4=>hno ⟨k,h1,h2,h3,h4⟩⟩
    obtain ⟨k,hk,hka,hkb,p,q,h1,h2,h3⟩:=this;rw [←hc] at h3
    refine split hk ⟨h1,fun d k'=>?_⟩ ⟨h2,fun d k'=>?_⟩ h3 (fun e=>hkb (walk_zero h2 e).symm)
    ·have:=h.2 _ (k'.trans h2);rw [←h3] at this;exact (C.add_le_right _).1 this
    ·have:=h.2 _ (h1.trans k');rw [←h3] at this;exact (C.add_le_left _).1 this
  ·obtain ⟨q,c1,c2,hq,h1,h2,e,z1,z2⟩:=G.dist_corner h hc
   exact split hq h1 h2 e z2
theorem dist_rev {g:G} {a b:Nat} {c:C} (h:Dist g.E a b c):Dist g.E b a c:=
 ⟨Walk.rev (E:=g.E) (fun _ _ _ he=>G.E_symm he) h.1,fun d hd=>h.2 _ (Walk.rev (E:=g.E) (fun _ _ _ he=>G.E_symm he) hd)⟩
theorem by_corners {g:G} {a b:Nat} {c:C} (h:Dist g.E a b c) (hn:¬g.Near a b):∃s t c2,g.Corner s∧g.Corner t∧g.Direct a s∧g.Direct b t∧Walk g.GE s t c2∧C.add (C.add (g.oct a s) c2) (g.oct b t)=c:=by
 have hc:c≠g.oct a b:=fun e=>hn (by unfold G.Near;rw [←e];exact h.1)
 obtain ⟨q,c1,c2,hq,h1,h2,e,_,_⟩:=G.dist_corner h hc;obtain ⟨s,d1,a1,a2,a3,a4⟩:=first_corner _ (Nat.le_refl _) hq h1;obtain ⟨t,d2,b1,b2,b3,b4⟩:=first_corner _ (Nat.le_refl _) hq (dist_rev h2)
 refine ⟨s,t,C.add d1 d2,a1,b1,a2,b2,a3.trans (Walk.rev (E:=g.GE) (fun _ _ _ he=>G.GE_symm he) b3),?_⟩
 rw [←C.add_assoc,a4,C.add_assoc,C.add_comm d2,b4,e]
end G2
noncomputable abbrev eAt (g:G) (x:Nat):List Ed:=eUp g x true (cornersI g).length
theorem eAt_src {g:G} {x s:Nat} {c:C}:SrcO g (eAt g x) s c↔g.Corner s∧g.Direct x s∧c=g.oct x s:=by
 constructor
 ·rintro ⟨h1,i,e,_,h3,h4,h5⟩
  obtain ⟨y,q1,_,q2,rfl⟩:=mem_eUp.1 (List.mem_of_getElem? h3);obtain rfl:y=s:=Int.ofNat_inj.1 h4;exact ⟨h1,q2,h5.symm⟩
 ·rintro ⟨h1,h2,rfl⟩
  obtain ⟨i,hi⟩:=List.getElem?_of_mem (mem_eUp.2 ⟨s,h1,.inl rfl,h2,rfl⟩:(⟨(s:Nat),g.oct x s,-1⟩:Ed)∈eAt g x);exact ⟨h1,i,_,(List.getElem?_eq_some_iff.1 hi).1,hi,rfl,rfl⟩
theorem eAt_ok {g:G} (hok:g.ok) {x:Nat} (hx:x<g.n):EdsOk (eAt g x):=fun e he=>by
 obtain ⟨y,q1,_,_,rfl⟩:=mem_eUp.1 he;have:=G.oct_small hok q1.1 hx;simp only;omega
theorem eAt_tot {g:G} {x y:Nat} {c:C}:TotL g (eAt g x) (eAt g y) c↔∃s t c2,g.Corner s∧g.Corner t∧g.Direct x s∧g.Direct y t∧Walk g.GE s t c2∧C.add (C.add (g.oct x s) c2) (g.oct y t)=c:=by
 constructor
 ·rintro ⟨t,c1,e,⟨s,c0,d,h1,h2,rfl⟩,h4,h5,rfl⟩
  obtain ⟨q1,q2,rfl⟩:=eAt_src.1 h1;obtain ⟨z,r1,_,r2,rfl⟩:=mem_eUp.1 h4;obtain rfl:z=t:=Int.ofNat_inj.1 h5;exact ⟨s,z,d,q1,r1,q2,r2,h2,rfl⟩
 ·rintro ⟨s,t,c2,h1,h2,h3,h4,h5,rfl⟩
  exact ⟨t,_,⟨(t:Nat),g.oct y t,-1⟩,⟨s,_,c2,eAt_src.2 ⟨h1,h3,rfl⟩,h5,rfl⟩,mem_eUp.2 ⟨t,h2,.inl rfl,h4,rfl⟩,rfl,rfl⟩
theorem tot_walk {g:G} {x y:Nat} {c:C} (h:TotL g (eAt g x) (eAt g y) c):Walk g.E x y c:=by
 obtain ⟨s,t,c2,h1,h2,h3,h4,h5,rfl⟩:=eAt_tot.1 h;have w1:Walk g.E x s (g.oct x s):=h3.1;have w2:Walk g.E y t (g.oct y t):=h4.1
 exact (w1.trans (G.GE_walk h5)).trans (Walk.rev (E:=g.E) (fun _ _ _ he=>G.E_symm he) w2)
theorem eAt_oct {g:G} {y:Nat}:∀e∈eAt g y,∀t:Nat,e.to_=t→C.le (g.oct t y) e.c:=fun e he t ht=>by
 obtain ⟨z,_,_,_,rfl⟩:=mem_eUp.1 he;obtain rfl:z=t:=Int.ofNat_inj.1 ht;rw [G.oct_symm];exact C.le_refl _
end Go.Proofs.YtokhnobcincfjaaGreatDoor
namespace Go.Proofs.YtokhnobcincfjaaGreatDoor
open Go.RowKit Go.Sort FR Go.Lib
structure SSt where
 lab:Nat→Option C
 hp:Nat→Option C
 bk:Nat→Int
def LeastH (hp:Nat→Option C) (t:Nat) (f:C):Prop:=hp t=some f∧∀j d,hp j=some d→It.le ⟨f,(t:Nat)⟩ ⟨d,(j:Nat)⟩
def SrcS (src:Nat→C→Prop) (h:Nat→C) (ps:Nat→C→Prop) (V:SSt):Prop:=∀b,
 (V.lab b=none∧V.hp b=none∧V.bk b=0∧∀c,src b c→ps b c)∨∃x,V.lab b=some x∧V.hp b=some (C.add x (h b))∧V.bk b = -1∧src b x∧∀c,src b c→ps b c∨C.le x c
def SprS (E:Nat→Nat→C→Prop) (h:Nat→C) (V0:SSt) (k:Nat) (pend:Nat→C→Prop) (V:SSt):Prop:=∃d,V0.lab k=some d∧V.lab k=some d∧∀b,
 (V.lab b=V0.lab b∧V.hp b=FR.upd V0.hp k none b∧V.bk b=V0.bk b∧∀e,E k b e→pend b e) ∨
 ∃e,E k b e∧((lower? V0.lab b (C.add d e)=true∧V.lab b=some (C.add d e)∧V.hp b=some (C.add (C.add d e) (h b))∧V.bk b=(k:Nat)) ∨
  (lower? V0.lab b (C.add d e)=false∧V.lab b=V0.lab b∧V.hp b=FR.upd V0.hp k none b∧V.bk b=V0.bk b))
inductive RunS (E:Nat→Nat→C→Prop) (src:Nat→C→Prop) (h:Nat→C):Nat→SSt→Prop
 | src {V:SSt}:SrcS src h (fun _ _=>False) V→RunS E src h 0 V
 | next {i k:Nat} {f:C} {V0 V:SSt}:RunS E src h i V0→LeastH V0.hp k f→k≠256→SprS E h V0 k (fun _ _=>False) V→RunS E src h (i+1) V
section
variable {E:Nat→Nat→C→Prop} {src:Nat→C→Prop} {h:Nat→C}
theorem SrcS.start (src:Nat→C→Prop) (h:Nat→C):SrcS src h src ⟨fun _=>none,fun _=>none,fun _=>0⟩:=fun _=>.inl ⟨rfl,rfl,rfl,fun _ h=>h⟩
theorem SrcS.weak {ps ps':Nat→C→Prop} {V:SSt} (H:SrcS src h ps V) (hs:∀s c,ps s c→ps' s c):SrcS src h ps' V:=fun b=>by
 rcases H b with ⟨h1,h2,h3,h4⟩ | ⟨x,h1,h2,h3,h4,h5⟩
 ·exact .inl ⟨h1,h2,h3,fun c hc=>hs _ _ (h4 c hc)⟩
 ·exact .inr ⟨x,h1,h2,h3,h4,fun c hc=>(h5 c hc).imp_left (hs _ _)⟩
theorem SrcS.step {ps ps' : Nat → C → Prop} {lab hp : Nat → Option C} {bk : Nat → Int} (H : SrcS src h ps ⟨lab, hp, bk⟩) {b : Nat} {x : C} {tb : Bool} (ht : lower? lab b x = tb) (hb : src b x) (hs : ∀ s c, ps s c → ps' s c ∨ (s = b ∧ C.le x c)) :
    SrcS src h ps' ⟨pushed lab b x tb,pushed hp b (C.add x (h b)) tb,if tb=true then FR.upd bk b (-1) else bk⟩:=fun a=>by
 by_cases e:a=b
 ·subst e
  cases tb with
  | true=>
   refine .inr ⟨x,FR.upd_same _ _ _,FR.upd_same _ _ _,FR.upd_same _ _ _,hb,fun c hc=>?_⟩
   rcases H a with ⟨_,_,_,h4⟩ | ⟨y,h1,_,_,_,h5⟩
   ·exact (hs _ _ (h4 c hc)).imp_right (·.2)
   ·rcases h5 c hc with q | q
    ·exact (hs _ _ q).imp_right (·.2)
    ·exact .inr (C.le_trans (C.le_of_lt (lower_yes ht y h1)) q)
  | false=>
   obtain ⟨d,h1,h2⟩:=lower_no ht
   rcases H a with ⟨k1,_⟩ | ⟨y,k1,k2,k3,k4,k5⟩
   ·simp only at k1;rw [k1] at h1;cases h1
   ·obtain rfl:y=d:=by simp only at k1;rw [k1] at h1;injection h1
    refine .inr ⟨y,k1,k2,k3,k4,fun c hc=>?_⟩
    rcases k5 c hc with q | q
    ·exact (hs _ _ q).imp_right fun r=>C.le_trans h2 r.2
    ·exact .inr q
 ·have e1:pushed lab b x tb a=lab a:=by unfold pushed;split;exact FR.upd_ne _ _ e;rfl
  have e2:pushed hp b (C.add x (h b)) tb a=hp a:=by unfold pushed;split;exact FR.upd_ne _ _ e;rfl
  have e3:(if tb=true then FR.upd bk b (-1) else bk) a=bk a:=by split;exact FR.upd_ne _ _ e;rfl
  rcases H a with ⟨h1,h2,h3,h4⟩ | ⟨y,h1,h2,h3,h4,h5⟩
  ·exact .inl ⟨e1.trans h1,e2.trans h2,e3.trans h3,fun c hc=>(hs _ _ (h4 c hc)).resolve_right fun q=>e q.1⟩
  ·exact .inr ⟨y,e1.trans h1,e2.trans h2,e3.trans h3,h4,fun c hc=>(h5 c hc).imp_left fun q=>(hs _ _ q).resolve_right fun r=>e r.1⟩
theorem SprS.start {V0:SSt} {k:Nat} {d:C} (hk:V0.lab k=some d):SprS E h V0 k (E k) ⟨V0.lab,FR.upd V0.hp k none,V0.bk⟩:=⟨d,hk,hk,fun _=>.inl ⟨rfl,rfl,rfl,fun _ h=>h⟩⟩
theorem SprS.weak {V0 V:SSt} {k:Nat} {pend pend':Nat→C→Prop} (H:SprS E h V0 k pend V) (hp':∀b e,pend b e→pend' b e):SprS E h V0 k pend' V:=by
 obtain ⟨d,h1,h2,H⟩:=H
 exact ⟨d,h1,h2,fun b=>(H b).imp_left fun ⟨q1,q2,q3,q4⟩=>⟨q1,q2,q3,fun e he=>hp' _ _ (q4 e he)⟩⟩
theorem lower_self (lab:Nat→Option C) (b:Nat) (x:C) (h:lab b=some x):lower? lab b x=false:=by
 unfold lower?;rw [h];simp only [decide_eq_false_iff_not]
 exact fun q=>C.lt_irrefl x (C.cmp_neg.1 q)
theorem lower_at {lab lab':Nat→Option C} {b:Nat} (h:lab b=lab' b) (x:C):lower? lab b x=lower? lab' b x:=by unfold lower?;rw [h]
theorem SprS.step (hE : ∀ a b e e', E a b e → E a b e' → e = e') {V0 : SSt} {k : Nat} {pend pend' : Nat → C → Prop} {lab hp : Nat → Option C} {bk : Nat → Int} (H : SprS E h V0 k pend ⟨lab, hp, bk⟩) {b : Nat} {d e : C} {tb : Bool} (hd : lab k = some d) (hkb : k ≠ b) (he : E k b e)
    (ht:lower? lab b (C.add d e)=tb) (hp':∀b' e',b'≠b→pend b' e'→pend' b' e') :
    SprS E h V0 k pend' ⟨pushed lab b (C.add d e) tb,pushed hp b (C.add (C.add d e) (h b)) tb,if tb=true then FR.upd bk b (k:Nat) else bk⟩:=by
 obtain ⟨d',h1,h2,H⟩:=H
 obtain rfl:d'=d:=by simp only at h2;rw [h2] at hd;injection hd
 refine ⟨d',h1,?_,fun a=>?_⟩
 ·show pushed lab b _ tb k=_
  unfold pushed;split
  ·rw [FR.upd_ne _ _ hkb];exact h2
  ·exact h2
 ·by_cases e1:a=b
  ·subst e1
   right
   refine ⟨e,he,?_⟩
   rcases H a with ⟨q1,q2,q3,_⟩ | ⟨e',he',⟨q0,q1,q2,q3⟩ | ⟨q0,q1,q2,q3⟩⟩
   ·simp only at q1 q2 q3
    rw [lower_at q1] at ht
    cases tb with
    | true=>exact .inl ⟨ht,FR.upd_same _ _ _,FR.upd_same _ _ _,FR.upd_same _ _ _⟩
    | false=>exact .inr ⟨ht,q1,q2,q3⟩
   ·obtain rfl:=hE _ _ _ _ he he'
    simp only at q1 q2 q3;rw [lower_self _ _ _ q1] at ht;subst ht;exact .inl ⟨q0,q1,q2,q3⟩
   ·obtain rfl:=hE _ _ _ _ he he'
    simp only at q1 q2 q3;rw [lower_at q1,q0] at ht;subst ht;exact .inr ⟨q0,q1,q2,q3⟩
  ·have f1:pushed lab b (C.add d' e) tb a=lab a:=by unfold pushed;split;exact FR.upd_ne _ _ e1;rfl
   have f2:pushed hp b (C.add (C.add d' e) (h b)) tb a=hp a:=by unfold pushed;split;exact FR.upd_ne _ _ e1;rfl
   have f3:(if tb=true then FR.upd bk b (k:Nat) else bk) a=bk a:=by split;exact FR.upd_ne _ _ e1;rfl
   rcases H a with ⟨q1,q2,q3,q4⟩ | ⟨e',he',⟨q0,q1,q2,q3⟩ | ⟨q0,q1,q2,q3⟩⟩
   ·exact .inl ⟨f1.trans q1,f2.trans q2,f3.trans q3,fun e hh=>hp' _ _ e1 (q4 e hh)⟩
   ·exact .inr ⟨e',he',.inl ⟨q0,f1.trans q1,f2.trans q2,f3.trans q3⟩⟩
   ·exact .inr ⟨e',he',.inr ⟨q0,f1.trans q1,f2.trans q2,f3.trans q3⟩⟩
end
inductive ChB (bk:Nat→Int):Int→List Nat→Prop
 | nil {z:Int}:z<0→ChB bk z []
 | cons {a:Nat} {l:List Nat}:ChB bk (bk a) l→ChB bk (a:Nat) (a :: l)
inductive JnU (S:LS):List Nat→List Nat→Prop
 | one (a:Nat):JnU S [a] [a]
 | snoc {P W L:List Nat} {x y:Nat}:JnU S P W→P.getLast? = some x→LS.Unp S x y L→JnU S (P ++ [y]) (W ++ L.tail)
def MkE (g:G) (S:LS) (inn:List Ed) (b:Nat):Prop:=∃(t:Nat) (c:C),(∃e∈inn,e.to_=(t:Nat))∧g.Corner t∧Walk (fun x y c=>S.lev x<S.lev y∧∃m,S.eg x y=some (c,m)) t b c
theorem MkE.up {g:G} {S:LS} {inn:List Ed} {a b:Nat} {c:C} {m:Int} (h:MkE g S inn a) (hl:S.lev a<S.lev b) (he:S.eg a b=some (c,m)):MkE g S inn b:=by
 obtain ⟨t,d,h1,h2,h3⟩:=h;exact ⟨t,_,h1,h2,h3.snoc ⟨hl,m,he⟩⟩
theorem srE_one_ (S:LS) (tp:Nat) (mark:Nat→Prop) (fin:Nat→Option C) (a b:Nat) (e e':C) (h:S.SE tp 256 mark fin a b e) (k:S.SE tp 256 mark fin a b e'):e=e':=by
 rcases h with ⟨_,h2,_,m,h3⟩ | ⟨_,h2,h3⟩ <;> rcases k with ⟨_,k2,_,m',k3⟩ | ⟨_,k2,k3⟩
 ·rw [h3] at k3;injection k3 with k3;injection k3
 ·exact absurd k2 h2
 ·exact absurd h2 k2
 ·rw [h3] at k3;injection k3
abbrev srE (S:LS) (tp:Nat) (mark:Nat→Bool) (fin:Nat→Option C):Nat→Nat→C→Prop:=S.SE tp 256 (fun b=>mark b=true) fin
structure SrG (g:G) (tp:Nat) (S:LS) (out:List Ed) (fin:Nat→Option C) (h:Nat→C):Prop where
 ok:g.ok
 fn:LS.Fin g tp S
 eds:EdsOk out
 fok:∀t e,fin t=some e→0≤e.s∧e.s≤1048576∧0≤e.d∧e.d≤1048576
 hok:∀j,g.Corner j→0≤(h j).s∧(h j).s≤1000∧0≤(h j).d∧(h j).d≤1000
 hT:h 256=C.zero
structure SrI (g:G) (tp:Nat) (S:LS) (mark:Nat→Bool) (fin:Nat→Option C) (out:List Ed) (h:Nat→C) (lab hp:Nat→Option C) (bk:Nat→Int) (k:Nat) (pend ps:Nat→C→Prop) (gk:Nat):Prop where
 hu:Hu (srE S tp mark fin) (SrcO g out) h lab hp bk k pend ps
 sb:SB g.n 256 2100000 4000 2100000 lab
 cor:∀j,lab j≠none→g.Corner j∨j=256
 me:2*SB.me g.n 256 2100000 4000 2100000 lab+cntS hp 257≤gk
 tin:lab 256≠none→hp 256≠none
theorem Hu.weak {E : Nat → Nat → C → Prop} {src : Nat → C → Prop} {h : Nat → C} {lab hp : Nat → Option C} {back : Nat → Int} {k : Nat} {pend ps pend' ps' : Nat → C → Prop} (H : Hu E src h lab hp back k pend ps)
    (hp':∀b e,pend b e→pend' b e) (hs':∀s c,ps s c→ps' s c):Hu E src h lab hp back k pend' ps':=
 ⟨H.reach,H.key,fun a c b e ha he=>(H.closed a c b e ha he).imp_left fun q=>⟨q.1,hp' b e q.2⟩,fun s c hs=>(H.srcs s c hs).imp_left (hs' s c),H.back⟩
section
variable {g:G} {tp:Nat} {S:LS} {mark:Nat→Bool} {fin:Nat→Option C} {out:List Ed} {h:Nat→C} {lab hp:Nat→Option C} {bk:Nat→Int} {k:Nat} {pend ps:Nat→C→Prop} {gk:Nat}
theorem SrI.weak {pend' ps':Nat→C→Prop} (I:SrI g tp S mark fin out h lab hp bk k pend ps gk) (hp':∀b e,pend b e→pend' b e) (hs':∀s c,ps s c→ps' s c):SrI g tp S mark fin out h lab hp bk k pend' ps' gk:=
 ⟨Hu.weak I.hu hp' hs',I.sb,I.cor,I.me,I.tin⟩
theorem SrI.small (hok:g.ok) (I:SrI g tp S mark fin out h lab hp bk k pend ps gk) {j:Nat} {c:C} (hj:lab j=some c):0≤c.s∧c.s≤10448000∧0≤c.d∧c.d≤10448000:=by
 have:=I.sb.small hj;have hn:=G.n_le hok;omega
theorem SrI.start (hok:g.ok) (h0:SrG g tp S out fin h) (k:Nat) (bk:Nat→Int):SrI g tp S mark fin out h (fun _=>none) (fun _=>none) bk k (fun _ _=>False) (SrcO g out) (2*SB.me g.n 256 2100000 4000 2100000 (fun _=>none)):=
 ⟨Hu.start k bk,SB.start,fun _ hj=>absurd rfl hj,by rw [cntS_none];omega,fun hj=>absurd rfl hj⟩
theorem SrI.low (I:SrI g tp S mark fin out h lab hp bk k pend ps gk) {b:Nat} {x:C} {tb:Bool} (ht:lower? lab b x=tb) (h1:tb=true):lower? hp b (C.add x (h b))=true:=by
 subst h1;have hl:=lower_yes ht;unfold lower?
 cases hb:hp b with
 | none=>rfl
 | some f=>
  obtain ⟨c,e1,rfl⟩:=I.hu.key b f hb;have:=hl c e1;simp only [decide_eq_true_eq];exact C.cmp_neg.2 ((C.add_lt_right (h b)).2 this)
theorem SrI.hpr (I:SrI g tp S mark fin out h lab hp bk k pend ps gk) (hok:g.ok):∀j,hp j≠none→j<257:=fun j hj=>by
 cases hx:hp j with
 | none=>exact absurd hx hj
 | some f=>
  obtain ⟨c,e1,_⟩:=I.hu.key j f hx;have hn:=G.n_le hok
  rcases I.sb.rng j (by rw [e1];simp) with q | q <;> omega
theorem SrI.step (G0 : SrG g tp S out fin h) (I : SrI g tp S mark fin out h lab hp bk k pend ps gk) {pend' ps' : Nat → C → Prop} {b : Nat} {x : C} {z : Int} {tb : Bool} (hbc : g.Corner b ∨ b = 256) (hbk : b ≠ k ∨ ∀ b' e', ¬ pend b' e')
    (hz:(z = -1∧SrcO g out b x)∨∃(a:Nat) (d e:C),z=a∧lab a=some d∧a≠b∧srE S tp mark fin a b e∧x=C.add d e)
    (hp':∀b' e',pend b' e'→pend' b' e'∨(b'=b∧∀c,lab k=some c→C.le x (C.add c e'))) (hs':∀s c,ps s c→ps' s c∨(s=b∧C.le x c)) (ht:lower? lab b x=tb) :
    SrI g tp S mark fin out h (pushed lab b x tb) (pushed hp b (C.add x (h b)) tb) (if tb=true then FR.upd bk b z else bk) k pend' ps' gk:=by
 cases tb with
 | false=>
  obtain ⟨d,h1,h2⟩:=lower_no ht;refine ⟨?_,I.sb,I.cor,I.me,I.tin⟩;exact I.hu.keep h1 h2 hp' hs'
 | true=>
  have hlt:=lower_yes ht;have hn:=G.n_le G0.ok
  have hr:FR.Reach (srE S tp mark fin) (SrcO g out) b x:=by
   rcases hz with ⟨_,q⟩ | ⟨a,d,e,_,q1,_,q2,rfl⟩
   ·exact FR.Reach.src q
   ·exact (I.hu.reach a d q1).snoc q2
  have hnn:C.Nn x:=by
   rcases hz with ⟨_,q⟩ | ⟨a,d,e,_,q1,_,q2,rfl⟩
   ·exact srcK_nn G0.eds q
   ·refine C.nn_add (I.sb.nn a d q1) ?_
    rcases q2 with ⟨_,_,_,m,q3⟩ | ⟨_,_,q3⟩
    ·have:=G0.fn.small _ _ _ _ q3;exact ⟨this.1,this.2.2.1⟩
    ·have:=G0.fok _ _ q3;exact ⟨this.1,this.2.2.1⟩
  have hb:b<g.n∨b=256:=hbc.imp_left fun q=>q.1
  obtain ⟨s1,s2⟩:=I.sb.put hn hb hnn hlt (fun hbn _=>by
   rcases hz with ⟨_,q⟩ | ⟨a,d,e,_,q1,_,q2,rfl⟩
   ·obtain ⟨_,i,y,_,h1,_,rfl⟩:=q
    refine C.le_trans (le_big (G0.eds y (List.mem_of_getElem? h1))) (C.le_of_parts (Int.le_refl _) ?_);simp only;omega
   ·rcases q2 with ⟨q4,_,_,m,q3⟩ | ⟨_,q4,q3⟩
    ·have han:a<g.n:=(I.sb.rng a (by rw [q1];simp)).resolve_right q4
     refine C.le_trans (C.add_le_add (I.sb.bd a d q1 han) (le_step (G0.fn.small _ _ _ _ q3))) (C.le_of_parts ?_ ?_)
     ·simp [C.add]
     ·simp only [C.add,Nat.mul_add];omega
    ·omega) (fun hbn=>by
   have hbT:b=256:=hb.resolve_left hbn
   rcases hz with ⟨_,q⟩ | ⟨a,d,e,_,q1,_,q2,rfl⟩
   ·have:=q.1.1;omega
   ·rcases q2 with ⟨_,q4,_⟩ | ⟨q4,_,q3⟩
    ·exact absurd hbT q4
    ·have han:a<g.n:=(I.sb.rng a (by rw [q1];simp)).resolve_right q4
     have hm:=Nat.mul_le_mul_left 4000 (cntS_le lab g.n);refine C.le_trans (C.add_le_add (I.sb.bd a d q1 han) (le_big (G0.fok _ _ q3))) (C.le_of_parts ?_ ?_)
     ·simp [C.add]
     ·simp only [C.add];omega)
  refine ⟨?_,s1,fun j hj=>?_,?_,fun hj=>?_⟩
  ·refine I.hu.put hr hlt hbk ?_ hp' hs'
   rcases hz with q | ⟨a,d,e,q1,q2,q3,q4,rfl⟩
   ·exact .inl q
   ·exact .inr ⟨a,d,e,q1,q2,q3,q4,C.le_refl _⟩
  ·by_cases e:j=b
   ·rw [e];exact hbc
   ·refine I.cor j ?_
    have:pushed lab b x true j=lab j:=FR.upd_ne _ _ e
    rwa [this] at hj
  ·have h1:=cntS_put_le hp 257 b (C.add x (h b))
   have h2:=I.me
   show 2*SB.me g.n 256 2100000 4000 2100000 (FR.upd lab b (some x))+cntS (FR.upd hp b (some (C.add x (h b)))) 257≤gk
   omega
  ·show FR.upd hp b (some (C.add x (h b))) 256≠none
   by_cases e:256=b
   ·rw [e,FR.upd_same];simp
   ·rw [FR.upd_ne _ _ e]
    refine I.tin ?_;have:pushed lab b x true 256=lab 256:=FR.upd_ne _ _ e
    rwa [this] at hj
theorem SrI.pop (hok : g.ok) (I : SrI g tp S mark fin out h lab hp bk k (fun _ _ => False) (fun _ _ => False) gk) {t : Nat} {f : C} (ht : hp t = some f) (h256 : t ≠ 256) :
    SrI g tp S mark fin out h lab (FR.upd hp t none) bk t (srE S tp mark fin t) (fun _ _=>False) (gk-1)∧0<gk:=by
 have h1:cntS hp 257=cntS (FR.upd hp t none) 257+1:=cnt_hpop (I.hpr hok t (by rw [ht];simp)) (by rw [ht];simp)
 have h2:=I.me
 exact ⟨⟨I.hu.pop,I.sb,I.cor,by omega,fun hj=>by rw [FR.upd_ne _ _ (Ne.symm h256)];exact I.tin hj⟩,by omega⟩
structure SrJ (V0:SSt) (g:G) (tp:Nat) (S:LS) (mark:Nat→Bool) (fin:Nat→Option C) (out:List Ed) (h:Nat→C) (lab hp:Nat→Option C) (bk:Nat→Int) (k:Nat) (pend ps:Nat→C→Prop) (gk:Nat):Prop extends SrI g tp S mark fin out h lab hp bk k pend ps gk where
 spr:SprS (srE S tp mark fin) h V0 k pend ⟨lab,hp,bk⟩
theorem SrJ.weak {V0:SSt} {pend' ps':Nat→C→Prop} (I:SrJ V0 g tp S mark fin out h lab hp bk k pend ps gk) (hp':∀b e,pend b e→pend' b e) (hs':∀s c,ps s c→ps' s c):SrJ V0 g tp S mark fin out h lab hp bk k pend' ps' gk:=
 ⟨I.toSrI.weak hp' hs',I.spr.weak hp'⟩
theorem SrJ.step {V0 : SSt} (G0 : SrG g tp S out fin h) (I : SrJ V0 g tp S mark fin out h lab hp bk k pend ps gk) {pend' ps' : Nat → C → Prop} {b : Nat} {x : C} {tb : Bool} (hbc : g.Corner b ∨ b = 256) (hbk : b ≠ k ∨ ∀ b' e', ¬ pend b' e')
    (hz:∃(d e:C),lab k=some d∧k≠b∧srE S tp mark fin k b e∧x=C.add d e)
    (hp':∀b' e',pend b' e'→pend' b' e'∨(b'=b∧∀c,lab k=some c→C.le x (C.add c e'))) (hs':∀s c,ps s c→ps' s c∨(s=b∧C.le x c)) (ht:lower? lab b x=tb) :
    SrJ V0 g tp S mark fin out h (pushed lab b x tb) (pushed hp b (C.add x (h b)) tb) (if tb=true then FR.upd bk b (k:Nat) else bk) k pend' ps' gk:=by
 obtain ⟨d,e,h1,h2,h3,rfl⟩:=hz
 exact ⟨I.toSrI.step G0 hbc hbk (.inr ⟨k,d,e,rfl,h1,h2,h3,rfl⟩) hp' hs' ht,I.spr.step (srE_one_ S tp _ fin) h1 h2 h3 ht fun b' e' hne hb=>(hp' b' e' hb).resolve_right fun q=>hne q.1⟩
structure SrB (g:G) (tp:Nat) (S:LS) (mark:Nat→Bool) (fin:Nat→Option C) (out:List Ed) (h:Nat→C) (lab hp:Nat→Option C) (bk:Nat→Int) (k:Nat) (pend ps:Nat→C→Prop) (gk:Nat):Prop extends SrI g tp S mark fin out h lab hp bk k pend ps gk where
 srs:SrcS (SrcO g out) h ps ⟨lab,hp,bk⟩
theorem SrB.weak {pend' ps':Nat→C→Prop} (I:SrB g tp S mark fin out h lab hp bk k pend ps gk) (hp':∀b e,pend b e→pend' b e) (hs':∀s c,ps s c→ps' s c):SrB g tp S mark fin out h lab hp bk k pend' ps' gk:=
 ⟨I.toSrI.weak hp' hs',I.srs.weak hs'⟩
theorem SrB.start (hok:g.ok) (h0:SrG g tp S out fin h) (k:Nat):SrB g tp S mark fin out h (fun _=>none) (fun _=>none) (fun _=>0) k (fun _ _=>False) (SrcO g out) (2*SB.me g.n 256 2100000 4000 2100000 (fun _=>none)):=
 ⟨SrI.start hok h0 k _,SrcS.start _ h⟩
theorem SrB.step (G0 : SrG g tp S out fin h) (I : SrB g tp S mark fin out h lab hp bk k pend ps gk) {pend' ps' : Nat → C → Prop} {b : Nat} {x : C} {tb : Bool} (hbc : g.Corner b ∨ b = 256) (hbk : b ≠ k ∨ ∀ b' e', ¬ pend b' e')
    (hz:SrcO g out b x)
    (hp':∀b' e',pend b' e'→pend' b' e'∨(b'=b∧∀c,lab k=some c→C.le x (C.add c e'))) (hs':∀s c,ps s c→ps' s c∨(s=b∧C.le x c)) (ht:lower? lab b x=tb) :
    SrB g tp S mark fin out h (pushed lab b x tb) (pushed hp b (C.add x (h b)) tb) (if tb=true then FR.upd bk b (-1) else bk) k pend' ps' gk:=
 ⟨I.toSrI.step G0 hbc hbk (.inl ⟨rfl,hz⟩) hp' hs' ht,I.srs.step ht hz hs'⟩
structure SrR (g:G) (tp:Nat) (S:LS) (mark:Nat→Bool) (fin:Nat→Option C) (out:List Ed) (h:Nat→C) (lab hp:Nat→Option C) (bk:Nat→Int) (k:Nat) (pend ps:Nat→C→Prop) (gk:Nat):Prop extends SrI g tp S mark fin out h lab hp bk k pend ps gk where
 run:∃i,RunS (srE S tp mark fin) (SrcO g out) h i ⟨lab,hp,bk⟩
theorem SrB.run (I:SrB g tp S mark fin out h lab hp bk k (fun _ _=>False) (fun _ _=>False) gk):SrR g tp S mark fin out h lab hp bk k (fun _ _=>False) (fun _ _=>False) gk:=
 ⟨I.toSrI,0,.src I.srs⟩
theorem SrR.pop (hok : g.ok) (I : SrR g tp S mark fin out h lab hp bk k (fun _ _ => False) (fun _ _ => False) gk) {t : Nat} {f c : C} (ht : hp t = some f) (hc : lab t = some c) (h256 : t ≠ 256) :
    SrJ ⟨lab,hp,bk⟩ g tp S mark fin out h lab (FR.upd hp t none) bk t (srE S tp mark fin t) (fun _ _=>False) (gk-1)∧0<gk:=by
 obtain ⟨h1,h2⟩:=I.toSrI.pop hok ht h256;exact ⟨⟨h1,SprS.start (V0:=⟨lab,hp,bk⟩) hc⟩,h2⟩
theorem SrJ.run {V0:SSt} (I:SrJ V0 g tp S mark fin out h lab hp bk k (fun _ _=>False) (fun _ _=>False) gk) {f:C} (h0:∃i,RunS (srE S tp mark fin) (SrcO g out) h i V0) (hf:LeastH V0.hp k f) (hk:k≠256):SrR g tp S mark fin out h lab hp bk k (fun _ _=>False) (fun _ _=>False) gk:=by
 obtain ⟨i,h0⟩:=h0;exact ⟨I.toSrI,i+1,.next h0 hf hk I.spr⟩
def PendS (S:LS) (tp:Nat) (mark:Nat→Bool) (n:Nat) (L:List Ed) (j:Nat) (b:Nat) (e:C):Prop:=∃(i:Nat) (x:Ed),j≤i∧L[i]? = some x∧x.to_=(b:Nat)∧x.c=e∧(S.lev n<S.lev b∨S.lev b=tp∨mark b=true)
theorem PendS.first {n:Nat} (hc:∀y c m,S.eg n y=some (c,m)→y<g.n) {b:Nat} {e:C} (h1:srE S tp mark fin n b e):PendS S tp mark n (EgL S g.n n) 0 b e∨(b=256∧fin n=some e):=by
 rcases h1 with ⟨_,_,q1,m,q2⟩ | ⟨_,q1,q2⟩
 ·have:(⟨(b:Nat),e,m⟩:Ed)∈EgL S g.n n:=mem_EgL.2 ⟨b,hc _ _ _ q2,rfl,q2⟩
  obtain ⟨i,hi⟩:=List.getElem?_of_mem this;exact .inl ⟨i,_,Nat.zero_le _,hi,rfl,rfl,q1⟩
 ·exact .inr ⟨q1,q2⟩
theorem PendS.next {n:Nat} {L:List Ed} {j t:Nat} {x:Ed} (hx:L[j]? = some x) (ht:x.to_=(t:Nat)) (b:Nat) (e:C) (h:PendS S tp mark n L j b e):PendS S tp mark n L (j+1) b e∨(b=t∧e=x.c):=by
 obtain ⟨i,y,h1,h2,h3,h4,h5⟩:=h
 by_cases e1:i=j
 ·subst e1
  rw [hx] at h2;injection h2 with h2;subst h2
  right
  exact ⟨by omega,h4.symm⟩
 ·exact .inl ⟨i,y,by omega,h2,h3,h4,h5⟩
theorem PendS.skip {n:Nat} {L:List Ed} {j t:Nat} {x:Ed} (hx:L[j]? = some x) (ht:x.to_=(t:Nat)) (hno:¬(S.lev n<S.lev t∨S.lev t=tp∨mark t=true)) (b:Nat) (e:C) (h:PendS S tp mark n L j b e):PendS S tp mark n L (j+1) b e:=by
 obtain ⟨i,y,h1,h2,h3,h4,h5⟩:=h
 by_cases e1:i=j
 ·subst e1
  rw [hx] at h2;injection h2 with h2;subst h2
  obtain rfl:t=b:=by omega
  exact absurd h5 hno
 ·exact ⟨i,y,by omega,h2,h3,h4,h5⟩
theorem PendS.over {n:Nat} {L:List Ed} (b:Nat) (e:C):¬PendS S tp mark n L L.length b e:=by
 rintro ⟨i,y,h1,h2,_⟩;have:=(List.getElem?_eq_some_iff.1 h2).1;omega
end
def belowN (lab:Nat→Option C) (c:C):Nat:=cntN (fun j=>match lab j with | some d=>decide (C.lt d c) | none=>false) 257
theorem belowN_le (lab:Nat→Option C) (c:C):belowN lab c≤257:=cntN_le _ _
theorem belowN_lt {lab:Nat→Option C} {c d:C} {a:Nat} (ha:lab a=some d) (hn:a<257) (h:C.lt d c):belowN lab d+1≤belowN lab c:=by
 refine cntN_lt (m:=a) (fun k hk=>?_) hn ?_ ?_
 ·cases hl:lab k with
  | none=>rw [hl] at hk;cases hk
  | some e=>
   rw [hl] at hk
   simp only [decide_eq_true_eq] at hk ⊢
   exact C.lt_of_lt_of_le hk (C.le_of_lt h)
 ·rw [ha];simp only [decide_eq_false_iff_not];exact C.lt_irrefl d
 ·rw [ha];simp only [decide_eq_true_eq];exact h
def ChI (S:LS) (g:G) (fin:Nat→Option C) (out:List Ed) (lab:Nat→Option C) (cT:C) (L:List Nat) (n:Int) (gk:Nat):Prop:=
 ∃(p e d:C) (t:Nat),fin t=some e∧C.le (C.add d (C.add p e)) cT ∧
  ((∃a:Nat,n=a∧g.Corner a∧lab a=some d∧LS.LW (fun x y c=>∃m,S.eg x y=some (c,m)) (a :: L.reverse) p∧(a :: L.reverse).getLast? = some t∧gk=belowN lab d+1∧L.length+gk≤258) ∨
   (n = -1∧∃s P,L.reverse=s :: P∧SrcO g out s d∧LS.LW (fun x y c=>∃m,S.eg x y=some (c,m)) (s :: P) p∧(s :: P).getLast? = some t∧gk=0∧L.length≤258))
theorem eg_pos {g:G} {tp:Nat} {S:LS} (H:LS.Fin g tp S) {a b:Nat} {c:C} {m:Int} (h:S.eg a b=some (c,m)):C.Nn c∧c≠C.zero:=by
 have hs:=H.small _ _ _ _ h
 refine ⟨⟨hs.1,hs.2.2.1⟩,fun h0=>?_⟩
 have hw:=G.GE_walk (H.walk _ _ _ _ h)
 exact (H.corner a b (by rw [h];simp)).2.2 (walk_zero hw h0).symm
section
variable {g:G} {tp:Nat} {S:LS} {mark:Nat→Bool} {fin:Nat→Option C} {out:List Ed} {h:Nat→C} {lab hp:Nat→Option C} {bk:Nat→Int} {k:Nat} {gk:Nat}
theorem ChI.start (G0:SrG g tp S out fin h) (I:SrI g tp S mark fin out h lab hp bk k (fun _ _=>False) (fun _ _=>False) gk) {cT:C} (hT:lab 256=some cT):∃gk',ChI S g fin out lab cT [] (bk 256) gk':=by
 have hn:=G.n_le G0.ok
 rcases I.hu.back 256 cT hT with ⟨_,q⟩ | ⟨a,d,e,q1,q2,q3,q4⟩
 ·have:=q.1.1;omega
 ·rcases q3 with ⟨_,q5,_⟩ | ⟨q5,_,q6⟩
  ·exact absurd rfl q5
  ·have hc:g.Corner a:=(I.cor a (by rw [q2];simp)).resolve_right q5
   refine ⟨belowN lab d+1,C.zero,e,d,a,q6,by rw [C.zero_add];exact q4,.inl ⟨a,q1,hc,q2,.one a,rfl,rfl,?_⟩⟩
   have:=belowN_le lab d;simp;omega
theorem ChI.step (G0 : SrG g tp S out fin h) (I : SrI g tp S mark fin out h lab hp bk k (fun _ _ => False) (fun _ _ => False) gk) {cT : C} {L : List Nat} {a gk' : Nat} (H : ChI S g fin out lab cT L (a : Nat) gk') :
    ∃gk2,gk2<gk'∧ChI S g fin out lab cT (L ++ [a]) (bk a) gk2:=by
 have hn:=G.n_le G0.ok;obtain ⟨p,e,d,t,h1,h2,h3⟩:=H
 rcases h3 with ⟨a',e1,hc,h4,h5,h6,h7,h8⟩ | ⟨e1,_⟩
 ·obtain rfl:a=a':=by omega
  have hr:(L ++ [a]).reverse=a :: L.reverse:=by simp
  rcases I.hu.back a d h4 with ⟨q1,q2⟩ | ⟨b,d',e',q1,q2,q3,q4⟩
  ·refine ⟨0,by omega,p,e,d,t,h1,h2,.inr ⟨q1,a,L.reverse,hr,q2,h5,h6,rfl,?_⟩⟩
   simp;omega
  ·have haT:a≠256:=by have:=hc.1;omega
   rcases q3 with ⟨q5,_,_,m,q6⟩ | ⟨_,q5,_⟩
   ·have hcb:g.Corner b:=(I.cor b (by rw [q2];simp)).resolve_right q5
    obtain ⟨r1,r2⟩:=eg_pos G0.fn q6;have hlt:C.lt d' d:=C.lt_of_lt_of_le (C.lt_add_step r1 r2) q4
    have hbl:=belowN_lt (lab:=lab) q2 (by have:=hcb.1;omega) hlt
    refine ⟨belowN lab d'+1,by omega,C.add e' p,e,d',t,h1,?_,.inl ⟨b,q1,hcb,q2,?_,?_,rfl,?_⟩⟩
    ·refine C.le_trans ?_ h2
     rw [C.add_assoc,←C.add_assoc d'];exact C.add_le_add q4 (C.le_refl _)
    ·rw [hr];exact .cons ⟨m,q6⟩ h5
    ·rw [hr,List.getLast?_cons_cons];exact h6
    ·simp;omega
   ·exact absurd q5 haT
 ·omega
end
def WayIs (g:G) (fin:Nat→Option C) (out:List Ed) (cT:C) (W:List Nat):Prop:=
 ∃(s t:Nat) (d cw e:C),SrcO g out s d∧W.head? = some s∧W.getLast? = some t∧LS.LW g.GE W cw∧fin t=some e∧C.le (C.add d (C.add cw e)) cT
def WpI (S:LS) (g:G) (fin:Nat→Option C) (out:List Ed) (cT:C) (P:List Nat) (i:Nat) (W:List Nat):Prop:=
 ∃(s t x:Nat) (d cw q e:C),SrcO g out s d∧W.head? = some s∧W.getLast? = some x∧LS.LW g.GE W cw∧LS.LW (fun x y c=>∃m,S.eg x y=some (c,m)) (x :: P.drop i) q∧(x :: P.drop i).getLast? = some t∧fin t=some e∧C.le (C.add d (C.add (C.add cw q) e)) cT∧P[i-1]? = some x
theorem WpI.fin {S:LS} {g:G} {fin:Nat→Option C} {out:List Ed} {cT:C} {P:List Nat} {W:List Nat} (h:WpI S g fin out cT P P.length W):WayIs g fin out cT W:=by
 obtain ⟨s,t,x,d,cw,q,e,h1,h2,h3,h4,h5,h6,h7,h8,_⟩:=h;rw [List.drop_length] at h5 h6;simp at h6;subst h6
 cases h5
 rw [C.add_zero] at h8;exact ⟨s,_,d,cw,e,h1,h2,h3,h4,h7,h8⟩
theorem lw_join {E:Nat→Nat→C→Prop} {W M:List Nat} {x:Nat} {c d:C} (h1:LS.LW E W c) (h2:W.getLast? = some x) (h3:LS.LW E (x :: M) d):LS.LW E (W ++ M) (C.add c d):=by
 have hW:W=W.dropLast ++ [x]:=by
  have hne:W≠[]:=by rintro rfl;cases h2
  rw [List.getLast?_eq_some_getLast hne] at h2
  injection h2 with h2
  rw [←h2];exact (List.dropLast_concat_getLast hne).symm
 rw [hW] at h1 ⊢
 have:=LS.LW.append h1 h3
 simpa using this
theorem WpI.step {S : LS} {g : G} {fin : Nat → Option C} {out : List Ed} {cT : C} {P : List Nat} {i : Nat} {W : List Nat} (hi : 0 < i) (h : WpI S g fin out cT P i W) {x y : Nat} (hx : P[i - 1]? = some x) (hy : P[i]? = some y) :
    ∃c m,S.eg x y=some (c,m)∧∀L,LS.Unp S x y L→LS.LW g.GE L c→WpI S g fin out cT P (i+1) (W ++ L.tail):=by
 obtain ⟨s,t,x',d,cw,q,e,h1,h2,h3,h4,h5,h6,h7,h8,h9⟩:=h
 rw [hx] at h9;injection h9 with h9;subst h9
 have hd:P.drop i=y :: P.drop (i+1):=by
  obtain ⟨q1,q2⟩:=List.getElem?_eq_some_iff.1 hy;rw [List.drop_eq_getElem_cons q1,q2]
 rw [hd] at h5 h6
 cases h5 with
 | @cons _ _ _ c q' he hl=>
  obtain ⟨m,hm⟩:=he
  refine ⟨c,m,hm,fun L hU hL=>?_⟩
  obtain ⟨M,rfl⟩:=hU.ends
  refine ⟨s,t,y,d,C.add cw c,q',e,h1,?_,?_,lw_join h4 h3 hL,hl,?_,h7,?_,by simpa using hy⟩
  ·cases W with
   | nil=>cases h2
   | cons a W=>simpa using h2
  ·simp
  ·rw [List.getLast?_cons_cons] at h6;exact h6
  ·rw [C.add_assoc cw];exact h8
theorem WpI.start {S:LS} {g:G} {fin:Nat→Option C} {out:List Ed} {lab:Nat→Option C} {cT:C} {L:List Nat} {n:Int} {gk:Nat} (hn:n<0) (h:ChI S g fin out lab cT L n gk):∃s P,L.reverse=s :: P∧WpI S g fin out cT (s :: P) 1 [s]:=by
 obtain ⟨p,e,d,t,h1,h2,h3⟩:=h
 rcases h3 with ⟨a',e1,_⟩ | ⟨_,s,P,q1,q2,q3,q4,_⟩
 ·omega
 ·exact ⟨s,P,q1,s,t,s,d,C.zero,p,e,q2,rfl,rfl,.one s,by simpa using q3,by simpa using q4,h1,by rw [C.zero_add];exact h2,rfl⟩
end Go.Proofs.YtokhnobcincfjaaGreatDoor
