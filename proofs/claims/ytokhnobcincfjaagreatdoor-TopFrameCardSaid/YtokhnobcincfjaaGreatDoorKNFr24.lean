/- Lemmas of this claim: Lv9, Lv10, Lv11, Lv12, Lv13, Cn, LvA1, LvA2. -/
import Derived.Test.YtokhnobcincfjaaGreatDoorLv8
import Derived.Test.YtokhnobcincfjaaGreatDoorKNFr10
import Derived.Test.YtokhnobcincfjaaGreatDoorKNFr16
set_option linter.unusedVariables false
set_option linter.unusedSimpArgs false
set_option maxHeartbeats 6400000
set_option maxRecDepth 100000
namespace Go.Proofs.YtokhnobcincfjaaGreatDoor
open Go.RowKit Go.Sort FR Go.Lib
theorem edCloneR (w : World) (B : Nat) (v : Value) (L : List Ed) (h : OwnE w B v L) (hl : L.length ≤ 100000) :
    Calls Tryz.prog 98 #[v] w (RetE w L):=by
 obtain ⟨i0,z0,hi,hz0,hz1,hz2,hz3⟩:=edge_parts
 have hq:∀(w:World) (a:Option Addr) (n c n' c':Nat),(binOp .eql 119 (.slice a n c) (.slice none n' c')).run Tryz.prog w=.ok (.bool a.isNone) w:=fun w a n c n' c'=>Lib.run_eql_slice_nil w _ _ a n c n' c' Tryz.underlying119
 rcases h.2 with ⟨rfl,h0⟩ | ⟨g,cap,cur,rfl,_,hg,_,_,_,htake⟩
 ·have:L=[]:=List.eq_nil_of_length_eq_zero h0
  subst this;go_enter Tryz.func98,Tryz.ntmps98;go_wp2;go_ret;exact ⟨_,rfl,OwnE.nil _ _,Below.refl _ _⟩
 ·have hsrc : ∀ j u, (edL L)[j]? = some u → w.cell? ((⟨g, 0, none⟩ : Addr).add j) = some u := fun j u hu => by
    rw [Addr.add_lit,Nat.zero_add];rw [←htake,List.getElem?_take] at hu
    split at hu
    ·rw [Array.getElem?_toList] at hu
     simp [World.cell?,hg,hu]
    ·cases hu
  have hgl:g<w.heap.size:=(Array.getElem?_eq_some_iff.1 hg).1;have hlen:=edL_length L;have hone:=edL_one L;obtain ⟨n,hn⟩:∃n,L.length=n:=⟨_,rfl⟩;obtain ⟨X,hX⟩:∃X,edL L=X:=⟨_,rfl⟩
  rw [hn] at hl hlen ⊢
  rw [hX] at hsrc hlen hone;have Hn:=Lib.hid (And.intro hn hX);clear hn hX htake hg h;go_enter Tryz.func98,Tryz.ntmps98
  go_wp2_with (at_builtin;(refine wpList_append_own _ rfl _ _ 119 rfl w.heap.size 182 i0 z0 4 32 Tryz.underlying119 hi hz0 hz1 hz2 hz3 (by decide) _ _ _ rfl (World.ownsRow_made w #[] 0 (Nat.le_refl _) (Nat.zero_le _) rfl) ⟨g,0,none⟩ n cap X rfl hlen (fun j u hj=>Lib.cell?_alloc_some _ (hsrc j u hj)) hone (by unfold maxLen;omega) (by omega) (by simp) ?_);intro v' w1 hown hgrow hnil)
  have hown2:OwnE w1 w.heap.size v' L:=by
   unfold OwnE;rw [Hn.out.1,Hn.out.2]
   simpa using hown
  have hB1:Below w.heap.size w w1:=((Below.refl _ w).alloc (Nat.le_refl _) _).grown hgrow (by simp) (fun k hk=>(World.ownsRow.lt (World.ownsRow_made (e:=182) (size:=4) w #[] 0 (Nat.le_refl _) (Nat.zero_le _) rfl) k hk).1)
  have hfin:RetE w L (.returned v') w1:=⟨_,rfl,hown2,hB1⟩;have hfin:=Lib.hid hfin;clear hown hgrow hnil hown2 hB1;go_wp2;go_ret;exact hfin.out
theorem graphEdgesR (w : World) (b p mb : Nat) (S : List Nat) (g : G) (v : Int) (E : Int → Option (List Ed)) (h : GraphOf w b p mb S g v E) (c : Int) (L : List Ed) (hc : E c = some L) (hl : L.length ≤ 100000) :
    Calls Tryz.prog 54 #[.pointer (some ⟨b,0,none⟩),.int .i64 c] w (RetE2 w L):=by
 obtain ⟨g1,_,⟨V,N,q1,q2,q3,_,_,_,_⟩,_⟩:=h
 have kb1:w.cell? ⟨b,1,none⟩=some (.map (some mb)):=by simp [World.cell?,g1]
 obtain ⟨u,hu⟩:∃u,V c=some u:=by
  cases hV:V c with
  | none=>rw [(q2 c).2 hV] at hc;cases hc
  | some u=>exact ⟨u,rfl⟩
 have hO:=q3 c u L hu hc
 have hlk:(Instr.lookup 137 (.map (some mb)) (.int .i64 c) true).run Tryz.prog w=.ok (.tuple #[u,.bool true]) w:=by
  have:=(q1.look (int_fit Tryz.underlying3) Tryz.underlying137 (z:=.slice none 0 0) (by simp [Tryz.zeroValue119]) c).1
  rw [hu] at this;exact this
 have cC:=Lib.hid (edCloneR w 0 u L hO hl);clear g1 q1 q2 q3 hu hO hc;go_enter Tryz.func54,Tryz.ntmps54;go_wp2_with fail
 (with_reducible refine cC.out.mono ?_)
 rintro e w1 ⟨vE,rfl,hO1,hb1⟩;have hfin:RetE2 w L (.returned (.tuple #[vE,.nilIface])) w1:=⟨vE,rfl,hO1,hb1⟩;have hfin:=Lib.hid hfin;clear hO1 hb1 hlk cC;go_wp2;go_ret2;exact hfin.out
open Classical in
noncomputable def levU (g:G) (i:Nat) (z:Int):Option Value:=if ∃j,j<i∧z=(cf g j:Nat) then some (.int .i64 0) else none
open Classical in
noncomputable def egU (g:G) (i:Nat) (z:Int):Option (List Ed):=if ∃j,j<i∧z=(cf g j:Nat) then some (EgL (LS.first g) g.n z.toNat) else none
theorem levU_zero (g:G):levU g 0=fun _=>none:=by
 funext z;unfold levU;rw [if_neg];rintro ⟨j,h,_⟩;omega
theorem egU_zero (g:G):egU g 0=fun _=>none:=by
 funext z;unfold egU;rw [if_neg];rintro ⟨j,h,_⟩;omega
theorem levU_step (g:G) (i:Nat):updK (levU g i) ((cf g i:Nat):Int) (some (.int .i64 0))=levU g (i+1):=by
 funext z
 unfold updK levU
 by_cases e:z=(cf g i:Nat)
 ·rw [if_pos e,if_pos ⟨i,by omega,e⟩]
 ·rw [if_neg e]
  by_cases h:∃j,j<i∧z=(cf g j:Nat)
  ·obtain ⟨j,h1,h2⟩:=h
   rw [if_pos ⟨j,h1,h2⟩,if_pos ⟨j,by omega,h2⟩]
  ·rw [if_neg h,if_neg]
   rintro ⟨j,h1,h2⟩
   by_cases q:j=i
   ·subst q;exact e h2
   ·exact h ⟨j,by omega,h2⟩
theorem egU_step (g:G) (i:Nat):updE (egU g i) ((cf g i:Nat):Int) (some (EgL (LS.first g) g.n (cf g i)))=egU g (i+1):=by
 funext z
 unfold updE egU
 by_cases e:z=(cf g i:Nat)
 ·rw [if_pos e,if_pos ⟨i,by omega,e⟩,e];simp
 ·rw [if_neg e]
  by_cases h:∃j,j<i∧z=(cf g j:Nat)
  ·obtain ⟨j,h1,h2⟩:=h
   rw [if_pos ⟨j,h1,h2⟩,if_pos ⟨j,by omega,h2⟩]
  ·rw [if_neg h,if_neg]
   rintro ⟨j,h1,h2⟩
   by_cases q:j=i
   ·subst q;exact e h2
   ·exact h ⟨j,by omega,h2⟩
theorem upTo_cf {g:G} (z:Int):(∃j,j<(cornersI g).length∧z=(cf g j:Nat))↔(0≤z∧g.Corner z.toNat):=by
 constructor
 ·rintro ⟨j,h1,rfl⟩
  exact ⟨by omega,by simpa using (cf_at h1).2⟩
 ·rintro ⟨h1,h2⟩
  obtain ⟨j,q1,q2⟩:=cf_has h2
  exact ⟨j,q1,by rw [q2];omega⟩
theorem levU_all (g:G):levU g (cornersI g).length=levV g (LS.first g):=by
 funext z
 unfold levU levV
 by_cases h:0≤z∧g.Corner z.toNat
 ·rw [if_pos h,if_pos ((upTo_cf z).2 h)];rfl
 ·rw [if_neg h,if_neg (fun q=>h ((upTo_cf z).1 q))]
theorem egU_all (g:G):egU g (cornersI g).length=egE g (LS.first g):=by
 funext z
 unfold egU egE
 by_cases h:0≤z∧g.Corner z.toNat
 ·rw [if_pos h,if_pos ((upTo_cf z).2 h)]
 ·rw [if_neg h,if_neg (fun q=>h ((upTo_cf z).1 q))]
theorem first_list {g:G} {E:Int→Option (List Ed)} (h:GSpec g (fun _ _=>True) E) {c:Nat} {L:List Ed} (hc:E c=some L):L=EgL (LS.first g) g.n c:=by
 obtain ⟨a1,a2⟩:=h.2 c L hc
 have hcc:g.Corner c:=by
  obtain ⟨c',e,hn⟩:=(h.1 c).1 (by rw [hc];simp)
  obtain rfl:c=c':=by omega
  exact hn
 refine srt_ext (srt_pw a1) (pw_EgL _ _ _) fun e=>?_
 rw [a2 e,mem_EgL]
 constructor
 ·rintro ⟨y,h1,h2,_,h3,rfl⟩
  exact ⟨y,h1.1,rfl,LS.first_of ⟨hcc,h1,Ne.symm h2,h3,rfl⟩⟩
 ·rintro ⟨t,h1,h2,h3⟩
  obtain ⟨q1,q2,q3⟩:=LS.first_eg h3;refine ⟨t,q1.2.1,Ne.symm q1.2.2.1,trivial,q1.2.2.2.1,?_⟩
  cases e
  simp at h2 q2 q3 ⊢
  exact ⟨h2,q2,q3⟩
theorem gspec_has {g:G} {E:Int→Option (List Ed)} (h:GSpec g (fun _ _=>True) E) {c:Nat} (hc:g.Corner c):E c=some (EgL (LS.first g) g.n c):=by
 cases hE:E c with
 | none=>exact absurd hE ((h.1 c).2 ⟨c,rfl,hc⟩)
 | some L=>rw [first_list h hE]
theorem close_yes {g:G} {S:LS} {top n:Nat} (hc:g.Corner n) (h0:S.lev n=0):levV g (S.close (cornersN g) top) ((n:Nat):Int)=some (.int .i64 (top:Nat)):=by
 rw [levV_at hc];have e:(S.close (cornersN g) top).lev n=top:=if_pos ⟨mem_cornersN.2 hc,h0⟩;rw [e]
theorem close_no {g:G} {S:LS} {top n:Nat} (hc:g.Corner n) (h0:S.lev n≠0):levV g (S.close (cornersN g) top) ((n:Nat):Int)=levV g S (n:Nat):=by
 rw [levV_at hc,levV_at hc]
 have e:(S.close (cornersN g) top).lev n=S.lev n:=if_neg (fun q=>h0 q.2)
 rw [e]
theorem close_out {g:G} {S:LS} {top:Nat} {z:Int} (h:levV g S z=none):levV g (S.close (cornersN g) top) z=none:=by
 by_cases q:0≤z∧g.Corner z.toNat
 ·exact absurd h (levV_ne.2 ⟨z.toNat,by omega,q.2⟩)
 ·exact levV_none q
theorem EMap.none {w:World} {mb n:Nat} (h:MapAt iK w mb (fun _=>Option.none) n):EMap w [] mb (fun _=>Option.none):=
 ⟨fun _=>Option.none,n,h,(fun _=>⟨fun _=>rfl,fun _=>rfl⟩),(fun _ _ _ h=>nomatch h),(fun _ _ _ h=>nomatch h),(by simp),(fun _ _ _ _ _ h=>nomatch h),(by simp)⟩
theorem LvOf.top {w:World} {b ml me nl:Nat} {Sb:List Nat} {top top':Int} {V:Int→Option Value} {E:Int→Option (List Ed)} (h:LvOf w b ml me Sb top V nl E):LvOf (w.setCell ⟨b,2,none⟩ (.int .i64 top')) b ml me Sb top' V nl E:=by
 obtain ⟨h1,h2,h3,h4,h5,h6,h7,h8⟩:=h
 have hk:Kept [b] w (w.setCell ⟨b,2,none⟩ (.int .i64 top')):=(Kept.refl _ _).setCell (.inl (by simp))
 refine ⟨?_,h2.kept hk (by simpa using Ne.symm h6),h3.kept hk (fun s hs=>by simp;rintro rfl;exact h4 hs) (by simpa using Ne.symm h7),h4,h5,h6,h7,h8⟩
 have:=set_heap1 w b 2 _ _ (.int .i64 top') h1
 simpa using this
theorem lvNew_bad (w : World) (b : Nat) (most : Int) (h : most < 1 ∨ 6 < most) :
    Calls Tryz.prog 60 #[.pointer (some ⟨b,0,none⟩),.int .i64 most] w fun e w'=>e=.returned (.tuple #[.pointer none,.iface 45 (.int .i64 1)])∧Below w.heap.size w w':=by
 rcases h with h | h
 ·go_enter Tryz.func60,Tryz.ntmps60
  go_wp2;go_ret2;exact ⟨rfl,Below.refl _ _⟩
 ·have h1:¬most<1:=by omega
  go_enter Tryz.func60,Tryz.ntmps60;go_wp2;go_ret2;exact ⟨rfl,Below.refl _ _⟩
def NewD (w:World) (g:G) (most:Nat) (e:Ending) (w':World):Prop:=
 ∃b ml me Sb nl,e=.returned (.tuple #[.pointer (some ⟨b,0,none⟩),.nilIface])∧LvOf w' b ml me Sb ((LS.all g (cornersN g) most).2:Nat) (levV g (LS.all g (cornersN g) most).1) nl (egE g (LS.all g (cornersN g) most).1)∧(∀k∈b :: ml :: me :: Sb,w.heap.size≤k)∧Below w.heap.size w w'
def RdI (W:World) (b ml me:Nat) (g:G) (most gk:Nat) (wr:World):Prop:=
 ∃k tp K S Sb nl,LvOf wr b ml me Sb (tp:Nat) (levV g S) nl (egE g S)∧LS.Inv g g.n tp K S (fun _=>false)∧(∀a,S.lev a<tp)∧K≤15*2 ^ (tp-1)∧1≤tp∧tp+k=most∧LS.rounds g.n (cornersN g) k tp S=LS.rounds g.n (cornersN g) (most-1) 1 (LS.first g)∧(∀i∈b :: ml :: me :: Sb,W.heap.size≤i)∧Below W.heap.size W wr∧k≤gk
def RdT (W:World) (b ml me:Nat) (g:G) (most gk:Nat) (wr:World):Prop:=
 ∃k tp K S Sb nl,LvOf wr b ml me Sb (tp:Nat) (levV g S) nl (egE g S)∧LS.Inv g g.n (tp+1) K S (fun _=>false)∧(∀a,S.lev a<tp+1)∧K≤15*2 ^ tp∧1≤tp∧tp+1+k=most∧LS.rounds g.n (cornersN g) k (tp+1) S=LS.rounds g.n (cornersN g) (most-1) 1 (LS.first g)∧(∀i∈b :: ml :: me :: Sb,W.heap.size≤i)∧Below W.heap.size W wr∧k<gk
def RdF (W:World) (b ml me:Nat) (g:G) (most:Nat) (wr:World):Prop:=
 ∃S tp Sb nl,LvOf wr b ml me Sb (tp:Nat) (levV g S) nl (egE g S)∧(S,tp)=LS.rounds g.n (cornersN g) (most-1) 1 (LS.first g)∧(∀i∈b :: ml :: me :: Sb,W.heap.size≤i)∧Below W.heap.size W wr
theorem RdI.done {W wr:World} {b ml me nl:Nat} {g:G} {most tp:Nat} {S:LS} {Sb:List Nat} (h:LvOf wr b ml me Sb (tp:Nat) (levV g S) nl (egE g S)) (hr:LS.rounds g.n (cornersN g) 0 tp S=LS.rounds g.n (cornersN g) (most-1) 1 (LS.first g)) (ha:∀i∈b :: ml :: me :: Sb,W.heap.size≤i) (hb:Below W.heap.size W wr):RdF W b ml me g most wr:=
 ⟨S,tp,Sb,nl,h,hr,ha,hb⟩
theorem RdI.round {W wr w' : World} {b ml me nl k K gk : Nat} {g : G} {most tp : Nat} {S : LS} {Sb : List Nat} {e : Ending} (hInv : LS.Inv g g.n tp K S (fun _ => false)) (hlt : ∀ a, S.lev a < tp) (hK : K ≤ 15 * 2 ^ (tp - 1)) (h1 : 1 ≤ tp) (hk : tp + (k + 1) = most)
    (hr:LS.rounds g.n (cornersN g) (k+1) tp S=LS.rounds g.n (cornersN g) (most-1) 1 (LS.first g)) (ha:∀i∈b :: ml :: me :: Sb,W.heap.size≤i) (hb:Below W.heap.size W wr) (hgk:k+1≤gk) (hD:RoundD wr b ml me nl Sb tp g S e w') :
    ∃t:Bool,e=.returned (.bool t)∧((t=true∧RdT W b ml me g most gk w')∨(t=false∧RdF W b ml me g most w')):=by
 obtain ⟨he,Sb',h2,h3,h4⟩:=hD
 have ha':∀i∈b :: ml :: me :: Sb',W.heap.size≤i:=fun i hi=>by
  rcases List.mem_cons.1 hi with r | hi
  ·exact ha i (by simp [r])
  rcases List.mem_cons.1 hi with r | hi
  ·exact ha i (by simp [r])
  rcases List.mem_cons.1 hi with r | hi
  ·exact ha i (by simp [r])
  rcases h3 i hi with r | r
  ·exact ha i (by simp [r])
  ·exact Nat.le_trans hb.size r
 have hb':Below W.heap.size W w':=Kept.below hb h4 hb.size (fun i hi=>ha i (List.mem_cons_of_mem _ hi))
 have hF:=LS.fold_inv (cornersN g) ⟨S,fun _=>false,false⟩ hInv (fun n hn=>mem_cornersN.1 hn)
 refine ⟨_,he,?_⟩
 change (if (RS.run g.n tp (cornersN g) S).some_=true then LS.rounds g.n (cornersN g) k (tp+1) (RS.run g.n tp (cornersN g) S).S else ((RS.run g.n tp (cornersN g) S).S,tp))=_ at hr
 cases hs:(RS.run g.n tp (cornersN g) S).some_ with
 | true=>
  rw [hs,if_pos rfl] at hr
  refine .inl ⟨rfl,k,tp,2*K,_,Sb',nl,h2,hF.next,fun a=>Nat.lt_succ_of_le (hF.levs a),?_,h1,by omega,hr,ha',hb',by omega⟩
  obtain ⟨j,rfl⟩:∃j,tp=j+1:=⟨tp-1,by omega⟩
  rw [Nat.pow_succ];simp only [Nat.add_sub_cancel] at hK;omega
 | false=>
  rw [hs,if_neg (by simp)] at hr
  exact .inr ⟨rfl,_,tp,Sb',nl,h2,hr,ha',hb'⟩
theorem K_small {K tp:Nat} (hK:K≤15*2 ^ (tp-1)) (h:tp≤6):K≤1000:=by
 have h3:2 ^ (tp-1)≤2 ^ 5:=Nat.pow_le_pow_right (by omega) (by omega)
 have h4:15*2 ^ (tp-1)≤15*2 ^ 5:=Nat.mul_le_mul_left _ h3;omega
def ClI (W:World) (b ml me r:Nat) (Sb:List Nat) (tp:Nat) (g:G) (S:LS) (wr:World):Prop:=
 ∃m left cnt nl,RangeAt iK wr ml r m left cnt∧LvOf wr b ml me Sb (tp:Nat) m nl (egE g S)∧(∀z,left z→m z=levV g S z)∧(∀z,¬left z→m z=levV g (S.close (cornersN g) tp) z)∧Kept [ml,r] W wr
theorem lvNew_ok (w : World) (gb gp gmb : Nat) (GS : List Nat) (g : G) (v : Int) (GE : Int → Option (List Ed)) (most : Nat) (h : GraphOf w gb gp gmb GS g v GE) (hs : GSpec g (fun _ _ => True) GE) (h1 : 1 ≤ most) (h2 : most ≤ 6) :
    Calls Tryz.prog 60 #[.pointer (some ⟨gb,0,none⟩),.int .i64 (most:Nat)] w (NewD w g most):=by
 have hok:=h.2.1.1;have hn:=G.n_le hok;have hmm:=@run_makeMap Tryz.prog
 have hm1:¬(most:Int)<1:=by omega
 have hm2:¬(6:Int)<(most:Int):=by omega
 have HG:=Lib.hid h;have Hs:=Lib.hid hs;have Hok:=Lib.hid hok;have Hn:=Lib.hid hn;clear h hs hok hn;go_enter Tryz.func60,Tryz.ntmps60
 go_upto_region 4 with (fail)
 refine wp_name ?_;intro W4 hW4
 have HW4:Below w.heap.size w W4:=by rw [hW4];(repeat' (first | exact Below.refl _ _ | assumption | apply bel_drewN | apply bel_drew | apply bel_alloc | (refine bel_trans ?_ (by assumption))))
 obtain ⟨ml,hml⟩:∃ml,w.heap.size=ml:=⟨_,rfl⟩;obtain ⟨me,hme⟩:∃me,ml+1=me:=⟨_,rfl⟩;obtain ⟨b,hb⟩:∃b,me+1=b:=⟨_,rfl⟩
 rw [hml] at hW4 ⊢
 rw [hme] at hW4 ⊢
 rw [hb]
 have hs4:W4.heap.size=b+1:=by rw [hW4];simp;omega
 have hL4:LvOf W4 b ml me [] ((1:Nat):Int) (levU g 0) 0 (egU g 0):=by
  have q1:MapAt iK (w.alloc (.map #[] 0)) w.heap.size (fun _=>none) 0:=MapAt.made w
  have q2:MapAt iK ((w.alloc (.map #[] 0)).alloc (.map #[] 0)) (w.alloc (.map #[] 0)).heap.size (fun _=>none) 0:=MapAt.made _
  rw [levU_zero,egU_zero,hW4]
  refine ⟨?_,?_,?_,by simp,by simp,by omega,by omega,by omega⟩
  ·have:=heap_alloc_new ((w.alloc (.map #[] 0)).alloc (.map #[] 0)) (.cells #[.map (some ml),.map (some me),.int .i64 1] 180 (0,0))
   have e:((w.alloc (.map #[] 0)).alloc (.map #[] 0)).heap.size=b:=by simp;omega
   rw [e] at this;exact this
  ·rw [hml] at q1
   exact (q1.below (bel_alloc (Below.refl _ _))).below (bel_alloc (Below.refl _ _))
  ·refine EMap.none (n:=0) ?_
   have e:(w.alloc (.map #[] 0)).heap.size=me:=by simp;omega
   rw [e] at q2;exact q2.below (bel_alloc (Below.refl _ _))
 have HL4:=Lib.hid hL4;have hG4:=HG.out.below HW4;have hgl:=HG.out;have HG4:=Lib.hid hG4;have cN:=Lib.hid (graphNodesC W4 gb gp gmb GS g v GE hG4 Hs.out.1);clear hW4 hL4 hG4 hgl hmm;go_wp2_with fail
 (with_reducible refine cN.out.mono ?_)
 rintro e w5 ⟨A,m,rfl,hlm,hI,hA,hb5⟩;obtain ⟨cnt,hcnt⟩:∃c,(cornersI g).length=c:=⟨_,rfl⟩
 rw [hcnt] at hI hlm ⊢
 have hcnt256:cnt≤256:=by rw [←hcnt];exact corners_le Hok.out
 have Hcnt:=Lib.hid hcnt;have HI:=Lib.hid hI
 have HA:=Lib.hid (show ∀ad,A=some ad→ad.block∉[ml,me] from fun ad e=>by have:=(hA ad e).1;simp;omega)
 have HL5:=Lib.hid (HL4.out.below hb5);have HG5:=Lib.hid (HG4.out.below hb5);have HB5:=bel_trans HW4 hb5
 have hs5:b<w5.heap.size:=by have:=hb5.size;omega
 have hGn:∀k∈gb :: gp :: gmb :: GS,k<ml:=fun k hk=>by
  obtain ⟨g1,g2,⟨V,N,q1,q2,q3,q4,q5,q6,q7⟩,g4⟩:=HG.out
  rcases List.mem_cons.1 hk with r | hk
  ·have:=(Array.getElem?_eq_some_iff.1 g1).1;omega
  rcases List.mem_cons.1 hk with r | hk
  ·have:=g2.lt;omega
  rcases List.mem_cons.1 hk with r | hk
  ·have:=q1.lt;omega
  ·have:=q7 k hk;omega
 have HGn:=Lib.hid hGn;clear hI hA hcnt hlm cN HL4 HG4 hb5 HW4 hGn;go_wp2_with fail;obtain ⟨wz,rfl⟩:∃wz:World,wz=w5:=⟨_,rfl⟩
 go_loopw [25] (fun kv wr=>∃(i:Nat) (Sb:List Nat) (nl:Nat),kv=.int .i64 i∧i≤cnt∧LvOf wr b ml me Sb ((1:Nat):Int) (levU g i) nl (egU g i)∧(∀k∈Sb,wz.heap.size≤k)∧Kept [ml,me] wz wr) (fun kv _=>cnt-(intOf kv).toNat)
 case atStart=>exact ⟨0,[],0,rfl,by omega,HL5.out,fun k hk=>by simp at hk,Kept.refl _ _⟩
 case round=>
  obtain ⟨i,Sb,nl,rfl,hi,hL,hSb,hK⟩:=hrel;have HL:=Lib.hid (And.intro hL (And.intro hSb hK))
  by_cases hlt:i<cnt
  ·have hIr:=HI.out.kept hK HA.out
   obtain ⟨ad,hAd⟩:=hIr.addr (by omega)
   rw [hAd] at hIr
   have hix:=fun wx=>idx_run (m:=m) hAd hlt wx
   have hE:=hIr.cell (Below.refl _ _) hlt
   obtain ⟨c1,c2⟩:=cf_at (g:=g) (i:=i) (by rw [Hcnt.out];exact hlt)
   rw [c1] at hE
   have hG:=HG5.out.kept hK (fun k hk=>by have:=HGn.out k hk;simp;omega)
   have hge:=gspec_has Hs.out c2
   have cG:=Lib.hid (fun w' (hb:Below wr.heap.size wr w')=>graphEdgesR w' gb gp gmb GS g v GE (hG.below hb) (cf g i:Nat) _ hge (by have:=len_EgL (LS.first g) g.n (cf g i);have:=Hn.out;omega))
   obtain ⟨c,hc⟩:∃c,cf g i=c:=⟨_,rfl⟩;rw [hc] at hE cG c2;have Hc:=Lib.hid (And.intro hc c2);have hkb:wr.heap[b]? = some (.cells #[.map (some ml),.map (some me),.int .i64 ((1:Nat):Int)] 180 (0,0)):=hL.1
   have k0:wr.cell? ⟨b,0,none⟩=some (.map (some ml)):=by simp [World.cell?,hkb]
   have k1:wr.cell? ⟨b,1,none⟩=some (.map (some me)):=by simp [World.cell?,hkb]
   obtain ⟨V,N,e1,e2,e3,e4,e5,e6,e7⟩:=hL.2.2.1;have HE:=Lib.hid (And.intro e1 (And.intro e2 (And.intro e3 (And.intro e4 (And.intro e5 (And.intro e6 e7))))))
   have hbm:b≠me:=by omega
   clear hL hSb hK hIr hAd c1 hG hge hc c2 hkb e1 e2 e3 e4 e5 e6 e7
   go_upto_region 7 with (fail)
   have hb0:=Below.refl wr.heap.size wr
   go_region_held3 (fun w'=>w'.cell? ⟨b,1,none⟩=some (.map (some me)))
    (first
     | exact k1
     | exact hSI
     | exact hSU)
    ((first
     | (go_at_call 54
        refine (cG.out _ (bel_drew hb0)).mono ?_;rintro e wI ⟨vE,rfl,hOI,hbI⟩;have hSI:wI.cell? ⟨b,1,none⟩=some (.map (some me)):=bel_cell (w:=wr.drew) hbI k1;have hMI:MapAt iK wI me V N:=(HE.out.1.below (bel_drew hb0)).below hbI;obtain ⟨wU,hU,hMU,hKU⟩:=hMI.store (P:=Tryz.prog) (int_fit Tryz.underlying3) Tryz.underlying137 (c:Nat) vE;have hU:(Instr.mapUpdate 137 (.map (some me)) (.int .i64 (c:Nat)) vE).run Tryz.prog wI=.ok () wU:=hU
        have hSU:wU.cell? ⟨b,1,none⟩=some (.map (some me)):=keptc hKU (by simpa using hbm) hSI)))
   all_goals
    have hbI2:Below wr.heap.size wr wI:=bel_trans (bel_drew hb0) hbI;have hEU:=EMap.fresh (w:=wr) HE.out.1 HE.out.2.1 HE.out.2.2.1 HE.out.2.2.2.1 HE.out.2.2.2.2.1 HE.out.2.2.2.2.2.1 HE.out.2.2.2.2.2.2 hbI2 hOI hMU hKU
    have hown:∀k,k∈vE.ownBlock.toList→wr.heap.size≤k:=fun k hk=>by
     rw [Option.mem_toList] at hk;exact (World.ownsRow.lt hOI k hk).1
    have hLU:=HL.out.1.put hEU (fun k hk=>by
     rcases List.mem_append.1 hk with q | q
     ·exact .inr (hown k q)
     ·exact .inl q) ((Kept.of_below hbI2).trans (hKU.wid (by simp)))
    have e1:=egU_step g i;rw [Hc.out.1] at e1;rw [e1] at hLU
    have hSU2:∀k∈vE.ownBlock.toList ++ Sb,wz.heap.size≤k:=fun k hk=>by
     rcases List.mem_append.1 hk with q | q
     ·exact Nat.le_trans HL.out.2.2.size (hown k q)
     ·exact HL.out.2.1 k q
    have hKU2:Kept [ml,me] wz wU:=(HL.out.2.2.trans (.of_below hbI2)).trans (hKU.wid (by simp))
    have hkb:wU.heap[b]? = some (.cells #[.map (some ml),.map (some me),.int .i64 ((1:Nat):Int)] 180 (0,0)):=hLU.1
    have k0:wU.cell? ⟨b,0,none⟩=some (.map (some ml)):=by simp [World.cell?,hkb]
    have HLU:=Lib.hid (And.intro hLU (And.intro hSU2 hKU2));clear hOI hbI hSI hMI hU hMU hKU hSU hbI2 hEU hown hSU2 hKU2 hkb k1 hE hb0;go_wp2_with (refine wpList_storeM rfl _ _ _ rfl (int_fit Tryz.underlying3) Tryz.underlying142 hLU.2.1 rfl ((c:Nat):Int) rfl (.int .i64 0) rfl ?_;intro wV hmV hkV);have e2:=levU_step g i;rw [Hc.out.1] at e2;rw [e2] at hmV;have hLV:=HLU.out.1.lev hmV hkV
    have HF:=Lib.hid (And.intro hLV (And.intro HLU.out.2.1 (HLU.out.2.2.trans (hkV.wid (by simp)))))
    clear hmV hkV hLV hLU HLU k0 e1 e2;go_roundw
    case rel=>first | exact ⟨i+1,_,_,by go_num,by omega,HF.out⟩ | ((repeat apply Exists.intro);exact ⟨⟨i+1,_,_,by go_num,by omega,HF.out⟩,rfl⟩)
    case measure=>simp [intOf];omega
  ·obtain rfl:i=cnt:=by omega
   have hL2:=hL;rw [←Hcnt.out,levU_all,egU_all] at hL2
   have hall:∀k∈b :: ml :: me :: Sb,w.heap.size≤k:=fun k hk=>by
    rcases List.mem_cons.1 hk with r | hk
    ·omega
    rcases List.mem_cons.1 hk with r | hk
    ·omega
    rcases List.mem_cons.1 hk with r | hk
    ·omega
    ·have:=hSb k hk;omega
   have hBr:Below w.heap.size w wr:=Kept.below HB5 hK HB5.size (by simp;omega)
   obtain ⟨N0,hN0⟩:∃N0,N0=most-1:=⟨_,rfl⟩
   have hstart:RdI w b ml me g most N0 wr:=⟨most-1,1,15,LS.first g,Sb,nl,hL2,LS.first_inv Hok.out g.n (Nat.le_refl _),fun _=>by show (0:Nat)<1;omega,by simp,by omega,by omega,rfl,hall,hBr,by omega⟩
   clear hL hSb hK HL hL2 hall hBr hN0;obtain ⟨wy,rfl⟩:∃wy:World,wy=wr:=⟨_,rfl⟩;go_wp2_with fail
   go_loopg [] N0 (fun gk wr=>RdI w b ml me g most gk wr)
   case atStart=>exact hstart
   case round=>
    obtain ⟨k,tp,K,S,Sb,nl,hL,hInv,hlt2,hK,htp1,htk,hrd,hall,hBr,hgk⟩:=hrel;clear hstart;have HL:=Lib.hid hL;have HInv:=Lib.hid (And.intro hInv (And.intro hlt2 (And.intro hK hrd)));have Hall:=Lib.hid hall;have hkb:wr.heap[b]? = some (.cells #[.map (some ml),.map (some me),.int .i64 ((tp:Nat):Int)] 180 (0,0)):=hL.1
    have k2:wr.cell? ⟨b,2,none⟩=some (.int .i64 ((tp:Nat):Int)):=by simp [World.cell?,hkb]
    clear hL hInv hlt2 hK hrd hall hkb
    go_upto_region 10 with (fail)
    go_cut [55] (fun s wx=>(s=.bool true∧RdT w b ml me g most gk wx)∨(s=.bool false∧RdF w b ml me g most wx))
    case first=>
     by_cases hk0:k=0
     ·subst hk0
      obtain rfl:tp=most:=by omega
      have hF:=Lib.hid (RdI.done (W:=w) HL.out HInv.out.2.2.2 Hall.out hBr);clear HL HInv Hall;go_wp2;go_meet
      case rel=>exact .inr ⟨rfl,hF.out⟩
     ·obtain ⟨k,rfl⟩:∃j,k=j+1:=⟨k-1,by omega⟩
      have hlt3:((tp:Nat):Int)<(most:Nat):=by omega
      have cR:=Lib.hid (lvRound wr b ml me nl Sb tp K g S Hok.out HInv.out.1 (K_small HInv.out.2.2.1 (by omega)) HL.out)
      go_wp2_with fail
      (with_reducible refine cR.out.mono ?_)
      intro e w8 hD
      obtain ⟨t,rfl,hT⟩:=RdI.round HInv.out.1 HInv.out.2.1 HInv.out.2.2.1 htp1 (by omega) HInv.out.2.2.2 Hall.out hBr hgk hD
      have hT:=Lib.hid hT;clear hD cR k2;go_wp2;go_meet
      case rel=>
       rcases hT.out with ⟨rfl,q⟩ | ⟨rfl,q⟩
       ·exact .inl ⟨rfl,q⟩
       ·exact .inr ⟨rfl,q⟩
    case rest=>
     clear HL HInv Hall k2 hBr
     rcases hcut with ⟨rfl,hT⟩ | ⟨rfl,hF⟩
     ·obtain ⟨k,tp,K,S,Sb,nl,hL,hInv,hlt2,hK,htp1,htk,hrd,hall,hBr,hgk⟩:=hT
      have hkb:wc.heap[b]? = some (.cells #[.map (some ml),.map (some me),.int .i64 ((tp:Nat):Int)] 180 (0,0)):=hL.1
      have k2:wc.cell? ⟨b,2,none⟩=some (.int .i64 ((tp:Nat):Int)):=by simp [World.cell?,hkb]
      have kf:wc.frozen? ⟨b,2,none⟩=false:=by simp [World.frozen?,hkb]
      have hw:IntKind.i64.wrap (((tp:Nat):Int)+1)=((tp+1:Nat):Int):=by rw [IntWalk.i64_in _ (by omega)];omega
      have hF:RdI w b ml me g most k (wc.setCell ⟨b,2,none⟩ (.int .i64 ((tp+1:Nat):Int))):=⟨k,tp+1,K,S,Sb,nl,hL.top,hInv,hlt2,by simpa using hK,by omega,by omega,hrd,hall,hBr.setCell (by simpa using hall b (by simp)) _,by omega⟩
      have hF:=Lib.hid hF;clear hL hInv hlt2 hK hrd hall hBr hkb;go_wp2;go_roundg k
      case measure=>exact hgk
      case rel=>exact hF.out
     ·obtain ⟨S,tp,Sb,nl,hL,hrd,hall,hBr⟩:=hF
      have hkb:wc.heap[b]? = some (.cells #[.map (some ml),.map (some me),.int .i64 ((tp:Nat):Int)] 180 (0,0)):=hL.1
      have k0:wc.cell? ⟨b,0,none⟩=some (.map (some ml)):=by simp [World.cell?,hkb]
      have hM:=hL.2.1;have hlts:=hL.lts;have HL:=Lib.hid hL;have Hrd:=Lib.hid (And.intro hrd hall);clear hL hrd hkb hall;go_wp2_with (at_range;refine wpList_rangeM rfl _ rfl iK_inj Tryz.underlying142 hM rfl ?_;intro wR hrg hbR hsR)
      try go_frame
      obtain ⟨r,hr⟩:∃z,wc.heap.size=z:=⟨_,rfl⟩
      rw [hr] at hrg hlts ⊢
      have hstart:ClI wR b ml me r Sb tp g S wR:=⟨_,_,_,nl,hrg,HL.out.below hbR,fun z _=>rfl,fun z hz=>by
       have:levV g S z=none:=Classical.not_not.1 hz;rw [this,close_out this],Kept.refl _ _⟩
      have hBR:=bel_trans hBr hbR
      have hwr:w.heap.size≤r:=by rw [←hr];exact hBr.size
      clear hrg hbR hsR hM hr k0 hBr HL;obtain ⟨wv,rfl⟩:∃wv:World,wv=wR:=⟨_,rfl⟩
      go_loopw [] (fun wr=>ClI wv b ml me r Sb tp g S wr) (fun wr=>wr.rangeLeft ml r)
      case atStart=>exact hstart
      case round=>
       obtain ⟨m3,left,cl,nl3,hrg,hL,hm1,hm2,hK⟩:=hrel;clear hstart;have hleft:=Lib.hid hrg.left_eq;have Hm:=Lib.hid (And.intro hm1 hm2);have HL:=Lib.hid (And.intro hL hK);clear hm1 hm2 hL hK;go_wp2_with (at_next;refine wpList_nextM rfl _ rfl iK_inj hrg rfl ?_ ?_)
       ·intro h0 hl
        have hm:m3=levV g (S.close (cornersN g) tp):=funext fun z=>Hm.out.2 z (hl z)
        have hF:NewD w g most (.returned (.tuple #[.pointer (some ⟨b,0,none⟩),.nilIface])) wr:=by
         refine ⟨b,ml,me,Sb,nl3,rfl,?_,Hrd.out.2,Kept.below hBR HL.out.2 hBR.size (by simp;have:=Hrd.out.2 ml (by simp);omega)⟩
         have e1:(LS.all g (cornersN g) most).1=S.close (cornersN g) tp:=by unfold LS.all;rw [←Hrd.out.1]
         have e2:(LS.all g (cornersN g) most).2=tp:=by unfold LS.all;rw [←Hrd.out.1]
         rw [e1,e2,←hm];exact HL.out.1
        have hF:=Lib.hid hF;clear hl hrg HL hm;go_wp2;go_ret2;exact hF.out
       ·intro z u w6 cl6 hmk hlk hrg6 hlt6 hk6 hs6 hen
        have hmz:=Hm.out.1 z hlk;rw [hmk] at hmz
        obtain ⟨n,rfl,hcn⟩:=levV_ne.1 (show levV g S z≠none by rw [←hmz];simp)
        rw [levV_at hcn] at hmz
        injection hmz with hmz
        subst hmz;have Hz:=Lib.hid (And.intro hmk hcn);have Hrg6:=Lib.hid hrg6
        have hL6:=HL.out.1.kept hk6 (fun k hk=>by
         simp
         rcases List.mem_cons.1 hk with q | hk
         ·omega
         rcases List.mem_cons.1 hk with q | hk
         ·omega
         rcases List.mem_cons.1 hk with q | hk
         ·omega
         ·have:=hlts.2.2.2 k hk;omega)
        have hK6:=HL.out.2.trans (hk6.wid (by simp))
        have HL6:=Lib.hid (And.intro hL6 hK6);obtain ⟨t,ht⟩:∃t,S.lev n=t:=⟨_,rfl⟩;have Ht:=Lib.hid ht
        rw [ht] at hen ⊢
        rw [show iK ((n:Nat):Int)=.int .i64 (n:Nat) from rfl] at hen ⊢
        clear hmk hlk hrg hrg6 hk6 hs6 hcn ht hL6 hK6 HL
        have hrl:r≠ml:=by omega
        by_cases ht0:t=0
        ·subst ht0
         have hkb:w6.heap[b]? = some (.cells #[.map (some ml),.map (some me),.int .i64 ((tp:Nat):Int)] 180 (0,0)):=HL6.out.1.1
         have k0:w6.cell? ⟨b,0,none⟩=some (.map (some ml)):=by simp [World.cell?,hkb]
         have k2:w6.cell? ⟨b,2,none⟩=some (.int .i64 ((tp:Nat):Int)):=by simp [World.cell?,hkb]
         obtain ⟨w7,hrun,hrg7,hk7⟩:=(Hrg6.out.below (bel_drew (Below.refl _ _))).store (P:=Tryz.prog) (mt:=142) (int_fit Tryz.underlying3) Tryz.underlying142 ((n:Nat):Int) (.int .i64 ((tp:Nat):Int)) (by rw [Hz.out.1];simp)
         obtain ⟨nl7,hM7⟩:=hrg7.map;have hL7:=(HL6.out.1.below (bel_drew (Below.refl _ _))).lev hM7 hk7
         have hk67:Kept [ml,r] w6 w7:=(⟨hk7.os,hk7.tape,hk7.output,hk7.size,hk7.block⟩:Kept [ml] w6 w7).wid (by simp)
         have hF:ClI wv b ml me r Sb tp g S w7:=by
          refine ⟨_,_,cl6,nl7,hrg7,hL7,fun z hz=>?_,fun z hz=>?_,HL6.out.2.trans hk67⟩
          ·unfold updK
           rw [if_neg hz.2];exact Hm.out.1 z hz.1
          ·unfold updK
           by_cases e:z=((n:Nat):Int)
           ·rw [if_pos e,e,close_yes Hz.out.2 Ht.out]
           ·rw [if_neg e]
            exact Hm.out.2 z (fun q=>hz ⟨q,e⟩)
         have HF:=Lib.hid (And.intro hF hrg7.left_eq);clear hF hrg7 hk7 hM7 hL7 hk67 hkb HL6 Hrg6
         go_upto_region 16 with (fail)
         go_region;go_wp2;go_roundw
         case rel=>first | exact HF.out.1 | ((repeat apply Exists.intro);exact ⟨HF.out.1,rfl⟩)
         case measure=>rw [hleft.out,HF.out.2];exact hlt6
        ·have hd:(((t:Nat):Int) == 0)=false:=beq_eq_false_iff_ne.2 (by omega)
         have hF:ClI wv b ml me r Sb tp g S w6:=by
          refine ⟨_,_,cl6,nl3,Hrg6.out,HL6.out.1,fun z hz=>Hm.out.1 z hz.1,fun z hz=>?_,HL6.out.2⟩
          by_cases e:z=((n:Nat):Int)
          ·rw [e,close_no Hz.out.2 (by rw [Ht.out];exact ht0),levV_at Hz.out.2,Ht.out,Hz.out.1,Ht.out]
          ·exact Hm.out.2 z (fun q=>hz ⟨q,e⟩)
         have HF:=Lib.hid (And.intro hF Hrg6.out.left_eq);clear hF HL6 Hrg6;go_wp2;go_roundw
         case rel=>first | exact HF.out.1 | ((repeat apply Exists.intro);exact ⟨HF.out.1,rfl⟩)
         case measure=>rw [hleft.out,HF.out.2];exact hlt6
theorem lvTop (w : World) (b ml me nl : Nat) (Sb : List Nat) (top : Int) (V : Int → Option Value) (E : Int → Option (List Ed)) (h : LvOf w b ml me Sb top V nl E) :
    Calls Tryz.prog 50 #[.pointer (some ⟨b,0,none⟩)] w fun e w'=>e=.returned (.int .i64 top)∧w=w':=by
 have kb2:w.cell? ⟨b,2,none⟩=some (.int .i64 top):=by simp [World.cell?,h.1]
 clear h;go_enter Tryz.func50,Tryz.ntmps50;go_wp2;go_ret;exact ⟨rfl,rfl⟩
theorem lvLevel_in (w : World) (b ml me nl : Nat) (Sb : List Nat) (top : Int) (V : Int → Option Value) (E : Int → Option (List Ed)) (h : LvOf w b ml me Sb top V nl E) (z k : Int) (hz : V z = some (.int .i64 k)) :
    Calls Tryz.prog 147 #[.pointer (some ⟨b,0,none⟩),.int .i64 z] w fun e w'=>e=.returned (.tuple #[.int .i64 k,.nilIface])∧w=w':=by
 have kb0:w.cell? ⟨b,0,none⟩=some (.map (some ml)):=by simp [World.cell?,h.1]
 have hlk:(Instr.lookup 142 (.map (some ml)) (.int .i64 z) true).run Tryz.prog w=.ok (.tuple #[.int .i64 k,.bool true]) w:=by
  have:=(h.2.1.look (int_fit Tryz.underlying3) Tryz.underlying142 (z:=.int .i64 0) (by simp [Tryz.zeroValue3]) z).1
  rw [hz] at this;exact this
 clear h hz;go_enter Tryz.func147,Tryz.ntmps147;go_wp2;go_ret2;exact ⟨rfl,rfl⟩
theorem lvLevel_out (w : World) (b ml me nl : Nat) (Sb : List Nat) (top : Int) (V : Int → Option Value) (E : Int → Option (List Ed)) (h : LvOf w b ml me Sb top V nl E) (z : Int) (hz : V z = none) :
    Calls Tryz.prog 147 #[.pointer (some ⟨b,0,none⟩),.int .i64 z] w fun e w'=>e=.returned (.tuple #[.int .i64 0,.iface 45 (.int .i64 5)])∧w=w':=by
 have kb0:w.cell? ⟨b,0,none⟩=some (.map (some ml)):=by simp [World.cell?,h.1]
 have hlk:(Instr.lookup 142 (.map (some ml)) (.int .i64 z) true).run Tryz.prog w=.ok (.tuple #[.int .i64 0,.bool false]) w:=by
  have:=(h.2.1.look (int_fit Tryz.underlying3) Tryz.underlying142 (z:=.int .i64 0) (by simp [Tryz.zeroValue3]) z).1
  rw [hz] at this;exact this
 clear h hz;go_enter Tryz.func147,Tryz.ntmps147;go_wp2;go_ret2;exact ⟨rfl,rfl⟩
theorem lvEdgesP_in (w : World) (b ml me nl : Nat) (Sb : List Nat) (top : Int) (V : Int → Option Value) (E : Int → Option (List Ed)) (h : LvOf w b ml me Sb top V nl E) (z k : Int) (hz : V z = some (.int .i64 k)) (L : List Ed) (hL : E z = some L) (hl : L.length ≤ 100000) :
    Calls Tryz.prog 195 #[.pointer (some ⟨b,0,none⟩),.int .i64 z] w (RetE2 w L):=by
 have kb0:w.cell? ⟨b,0,none⟩=some (.map (some ml)):=by simp [World.cell?,h.1]
 have kb1:w.cell? ⟨b,1,none⟩=some (.map (some me)):=by simp [World.cell?,h.1]
 have hlk:(Instr.lookup 142 (.map (some ml)) (.int .i64 z) true).run Tryz.prog w=.ok (.tuple #[.int .i64 k,.bool true]) w:=by
  have:=(h.2.1.look (int_fit Tryz.underlying3) Tryz.underlying142 (z:=.int .i64 0) (by simp [Tryz.zeroValue3]) z).1
  rw [hz] at this;exact this
 obtain ⟨_,_,⟨W3,N,q1,q2,q3,_,_,_,_⟩,_⟩:=h
 obtain ⟨u,hu⟩:∃u,W3 z=some u:=by
  cases hV:W3 z with
  | none=>rw [(q2 z).2 hV] at hL;cases hL
  | some u=>exact ⟨u,rfl⟩
 have hO:=q3 z u L hu hL
 have hlk2:(Instr.lookup 137 (.map (some me)) (.int .i64 z) false).run Tryz.prog w=.ok u w:=by
  have:=(q1.look (int_fit Tryz.underlying3) Tryz.underlying137 (z:=.slice none 0 0) (by simp [Tryz.zeroValue119]) z).2
  rw [hu] at this;exact this
 have cC:=Lib.hid (edCloneR w 0 u L hO hl);clear q1 q2 q3 hu hO hL hz;go_enter Tryz.func195,Tryz.ntmps195;go_wp2_with fail
 (with_reducible refine cC.out.mono ?_)
 rintro e w1 ⟨vE,rfl,hO1,hb1⟩;have hfin:RetE2 w L (.returned (.tuple #[vE,.nilIface])) w1:=⟨vE,rfl,hO1,hb1⟩;have hfin:=Lib.hid hfin;clear hO1 hb1 cC;go_wp2;go_ret2;exact hfin.out
end Go.Proofs.YtokhnobcincfjaaGreatDoor
namespace Go.Proofs.YtokhnobcincfjaaGreatDoor
open Go.RowKit Go.Sort FR
theorem lvUnpCl (w : World) (e : Ed) (t : Int) (h1 : inC e.to_) (h2 : inC t) :
    Calls Tryz.prog 239 #[.agg #[.int .i64 e.to_,.int .i64 e.c.s,.int .i64 e.c.d,.int .i64 e.mid],.int .i64 t] w fun r w'=>r=.returned (.int .i64 (e.to_-t))∧Below w.heap.size w w':=by
 obtain ⟨x,⟨s,d⟩,m⟩:=e
 simp only at h1 ⊢
 unfold inC at h1 h2
 have hw:IntKind.i64.wrap (x-t)=x-t:=IntWalk.i64_in _ (by omega)
 go_enter Tryz.func239,Tryz.ntmps239;go_wp2;go_ret
 exact ⟨rfl,by (repeat' (first | exact Below.refl _ _ | assumption | apply bel_drewN | apply bel_drew | apply bel_alloc | (refine bel_trans ?_ (by assumption))))⟩
theorem lvUBin (w : World) (A : Option Addr) (n cap : Nat) (L : List Ed) (t : Int)
    (h:EdsAt w A L) (hn:L.length=n) (hs:Srt L) (hb:∀e∈L,inC e.to_) (ht:inC t) (hl:n≤100000) :
    Calls Tryz.prog 216 #[.slice A n cap,.int .i64 t,.func (.func 239) #[] #[]] w (BinD w L t):=by
 have hs:=Lib.hid hs;have hb:=Lib.hid hb;have Hn:=Lib.hid hn;have h:=Lib.hid h;clear hn;go_enter Tryz.func216,Tryz.ntmps216;go_wp2_with fail
 go_loopw [9,10] (fun iv jv wr=>∃i j:Nat,iv=.int .i64 i∧jv=.int .i64 j∧i≤j∧j≤n∧(∀k e,L[k]? = some e→k<i→e.to_<t)∧(∀k e,L[k]? = some e→j≤k→t≤e.to_)∧Below w.heap.size w wr) (fun iv jv _=>(intOf jv).toNat-(intOf iv).toNat)
 case atStart=>exact ⟨0,n,rfl,rfl,by omega,by omega,fun k e _ h=>by omega,fun k e hk hj=>by have:=(List.getElem?_eq_some_iff.1 hk).1;have:=Hn.out;omega,Below.refl _ _⟩
 case round=>
  obtain ⟨i,j,rfl,rfl,hij,hjn,h1,h2,HB⟩:=hrel;have h1:=Lib.hid h1;have h2:=Lib.hid h2
  by_cases hlt:i<j
  ·have hw1:IntKind.i64.wrap ((i:Int)+(j:Int))=(i:Int)+(j:Int):=IntWalk.i64_in _ (by omega)
   go_upto_region 5 with (fail)
   have hmm:((i:Int)+(j:Int)) / 2=(((i+j) / 2:Nat):Int):=by omega
   have hm1:i≤(i+j) / 2:=by omega
   have hm2:(i+j) / 2<j:=by omega
   rw [hmm];obtain ⟨m,hm⟩:∃m,(i+j) / 2=m:=⟨_,rfl⟩
   rw [hm] at hm1 hm2 ⊢
   clear hm hmm hw1
   have hmn:m<n:=by omega
   obtain ⟨e,he⟩:∃e,L[m]? = some e:=⟨L[m]'(by rw [Hn.out];exact hmn),List.getElem?_eq_getElem _⟩
   have He:=Lib.hid he;obtain ⟨g,hA,a1,a2,a3,a4⟩:=(h.out.below HB).get he
   have hix:=fun wx=>idxE (m:=cap) hA hmn wx
   have cF:=Lib.hid (lvUnpCl wr e t (hb.out e (List.mem_of_getElem? he)) ht);have hin:inC e.to_:=hb.out e (List.mem_of_getElem? he)
   have hk1:e.to_<t→∀k x,L[k]? = some x→k<m+1→x.to_<t:=fun hl k x hx hk=>by
    by_cases e1:k=m
    ·subst e1;rw [hx] at he;injection he with he;rw [he];exact hl
    ·exact Int.lt_trans (hs.out k m x e (by omega) hx he) hl
   have hk2:t≤e.to_→∀k x,L[k]? = some x→m≤k→t≤x.to_:=fun hl k x hx hk=>by
    by_cases e1:k=m
    ·subst e1;rw [hx] at he;injection he with he;rw [he];exact hl
    ·have:=hs.out m k e x (by omega) he hx
     omega
   have hk1:=Lib.hid hk1;have hk2:=Lib.hid hk2;obtain ⟨x,hx⟩:∃x,e.to_=x:=⟨_,rfl⟩;rw [hx] at a1 cF hin hk1 hk2;obtain ⟨xs,hxs⟩:∃x,e.c.s=x:=⟨_,rfl⟩;obtain ⟨xd,hxd⟩:∃x,e.c.d=x:=⟨_,rfl⟩;obtain ⟨xm,hxm⟩:∃x,e.mid=x:=⟨_,rfl⟩;rw [hxs] at a2 cF;rw [hxd] at a3 cF;rw [hxm] at a4 cF;clear hA he hx hxs hxd hxm;go_wp2_with fail
   (with_reducible refine cF.out.mono ?_)
   rintro r w2 ⟨rfl,hb2⟩;have HB2:=bel_trans HB hb2;clear a1 a2 a3 a4 cF hix;unfold inC at hin
   by_cases hxt:x<t
   ·have hd:decide (x-t<0)=true:=by simp;omega
    have hk1:=Lib.hid (hk1.out hxt)
    have hwm:IntKind.i64.wrap ((m:Int)+1)=((m+1:Nat):Int):=by rw [IntWalk.i64_in _ (by omega)];omega
    clear hk2;go_wp2;go_roundw
    case rel=>exact ⟨m+1,j,rfl,rfl,by omega,by omega,hk1.out,h2.out,HB2⟩
    case measure=>simp [intOf];omega
   ·have hd:decide (x-t<0)=false:=by simp;omega
    have hk2:=Lib.hid (hk2.out (by omega))
    clear hk1;go_wp2;go_roundw
    case rel=>exact ⟨i,m,rfl,rfl,by omega,by omega,h1.out,hk2.out,HB2⟩
    case measure=>simp [intOf];omega
  ·obtain rfl:i=j:=by omega
   have hcut:∀k x,L[k]? = some x→(k<i↔x.to_<t):=fun k x hx=>by
    constructor
    ·exact fun hk=>h1.out k x hx hk
    ·intro hl
     by_cases hk:k<i
     ·exact hk
     ·have:=h2.out k x hx (by omega)
      omega
   have Hcut:=Lib.hid hcut;clear hcut;clear h1 h2
   by_cases hin:i<n
   ·obtain ⟨e,he⟩:∃e,L[i]? = some e:=⟨L[i]'(by rw [Hn.out];exact hin),List.getElem?_eq_getElem _⟩
    obtain ⟨g,hA,a1,a2,a3,a4⟩:=(h.out.below HB).get he
    have hix:=fun wx=>idxE (m:=cap) hA hin wx
    have cF:=Lib.hid (lvUnpCl wr e t (hb.out e (List.mem_of_getElem? he)) ht);have hinx:inC e.to_:=hb.out e (List.mem_of_getElem? he);obtain ⟨fd,hfd⟩:∃fd,(e.to_-t == 0)=fd:=⟨_,rfl⟩
    have hfin:fd=true↔∃x,L[i]? = some x∧x.to_=t:=by
     rw [←hfd,he];simp;omega
    have Hfin:=Lib.hid hfin;clear hfin;have Hfd:=Lib.hid hfd;obtain ⟨x,hx⟩:∃x,e.to_=x:=⟨_,rfl⟩;rw [hx] at a1 cF Hfd;obtain ⟨xs,hxs⟩:∃x,e.c.s=x:=⟨_,rfl⟩;obtain ⟨xd,hxd⟩:∃x,e.c.d=x:=⟨_,rfl⟩;obtain ⟨xm,hxm⟩:∃x,e.mid=x:=⟨_,rfl⟩;rw [hxs] at a2 cF;rw [hxd] at a3 cF;rw [hxm] at a4 cF
    have q:(i:Int)<(n:Int):=by omega
    clear hA he hx hxs hxd hxm hfd hinx;go_wp2_with fail
    (with_reducible refine cF.out.mono ?_)
    rintro r w2 ⟨rfl,hb2⟩;have HB2:=bel_trans HB hb2;clear a1 a2 a3 a4 cF hix hb2
    have hret:BinD w L t (.returned (.tuple #[.int .i64 (i:Nat),.bool fd])) w2:=⟨i,fd,rfl,by rw [Hn.out];omega,Hcut.out,Hfin.out,HB2⟩
    rw [←Hfd.out] at hret;have Hret:=Lib.hid hret;clear hret;go_wp2;go_ret2;exact Hret.out
   ·obtain rfl:i=n:=by omega
    have hfin:false=true↔∃x,L[i]? = some x∧x.to_=t:=by
     rw [List.getElem?_eq_none (by rw [Hn.out];omega)]
     simp
    have Hfin:=Lib.hid hfin;clear hfin
    have hret:BinD w L t (.returned (.tuple #[.int .i64 (i:Nat),.bool false])) wr:=⟨i,false,rfl,by rw [Hn.out];omega,Hcut.out,Hfin.out,HB⟩
    have Hret:=Lib.hid hret;clear hret;go_wp2;go_ret2;exact Hret.out
theorem lvUBin2 (w : World) (A : Option Addr) (n cap : Nat) (L : List Ed) (t : Int) (h : EdsAt w A L) (hn : L.length = n) (hs : Srt L) (hb : ∀ e ∈ L, inC e.to_) (ht : inC t) (hl : n ≤ 100000) :
    Calls Tryz.prog 216 #[.slice A n cap,.int .i64 t,.func (.func 239) #[] #[]] w fun r w'=>r=.returned (.tuple #[.int .i64 (lowN L t:Nat),.bool (hasE L t)])∧Below w.heap.size w w':=by
 refine (lvUBin w A n cap L t h hn hs hb ht hl).mono ?_;rintro r w' ⟨i,fd,rfl,h1,h2,h3,h4⟩;have e:=low_of h1 h2;subst e;rw [has_at hs] at h3;have e2:fd=hasE L t:=Bool.eq_iff_iff.2 h3;rw [e2];exact ⟨rfl,h4⟩
end Go.Proofs.YtokhnobcincfjaaGreatDoor
namespace Go.Proofs.YtokhnobcincfjaaGreatDoor
open Go.RowKit Go.Sort FR Go.Lib
theorem wpList_append_ints {ops : Array Oper} {rest : List Oper} {o : Oper} {a : Act} {Q : Exit → Act → World → Prop} (w : World) (hgd : o.guard = none) (s x : Operand)
    (ho:o.op=.call { callee:=.builtin .append,args:=#[s,x],argTypes:=#[22,22] })
    (B:Nat) (v:Value) (zs ys:List Int) (hs:a.eval s=v) (hown:OwnI w B v zs) (ad:Addr) (m c:Nat) (hx:a.eval x=.slice (some ad) m c) (hm:ys.length=m) (hc:∀k z,ys[k]? = some z→w.cell? (ad.add k)=some (.int .i64 z))
    (hl:zs.length+m<1099511627776) (hB:B≤w.heap.size)
    (h:∀v' w',OwnI w' B v' (zs ++ ys)→w.grownBy w' v.ownBlock→wpList Tryz.prog ops Q rest (a.put o.dst v') w'):wpList Tryz.prog ops Q (o :: rest) a w:=by
 obtain ⟨i0,hi,hz0,hz1,hz2⟩:=info_parts int_info
 refine wpList_append_own w hgd s x 22 ho B 3 i0 (.int .i64 0) 1 8 Tryz.underlying22 hi hz0 hz1 hz2 rfl (by decide) v zs.length (zs.map (Value.int .i64)) hs hown ad m c (ys.map (Value.int .i64)) hx (by rw [List.length_map];omega) ?_ ?_ ?_ ?_ hB ?_
 ·intro j u hu
  rw [List.getElem?_map] at hu
  cases hj:ys[j]? with
  | none=>rw [hj] at hu;cases hu
  | some z=>rw [hj] at hu;simp at hu;subst hu;exact hc j z hj
 ·intro u hu
  rw [List.mem_map] at hu;obtain ⟨z,_,rfl⟩:=hu
  rfl
 ·unfold maxLen;omega
 ·omega
 ·intro v' w' h1 h2 _
  refine h v' w' ?_ h2;unfold OwnI;rw [List.length_append,hm,List.map_append];exact h1
theorem wpList_sliceI {w : World} {ops : Array Oper} {rest : List Oper} {o : Oper} {a : Act} {Q : Exit → Act → World → Prop} (hg : o.guard = none) (x lo : Operand) (hop : o.op = Op.slice 22 x (some lo) none none) (g n m l : Nat)
    (hx:a.eval x=.slice (some ⟨g,0,none⟩) n m) (hlo:a.eval lo=.int .i64 (l:Nat)) (h1:l<n) (h2:n≤m)
    (hK:∀m2,wpList Tryz.prog ops Q rest (a.put o.dst (.slice (some ⟨g,l,none⟩) (n-l) m2)) w):wpList Tryz.prog ops Q (o :: rest) a w:=by
 refine wpList_plain hg fun K' hK'=>?_
 unfold Oper.wp
 have hml:¬m=l:=by omega
 have hrun:(Instr.sliceAt 22 (.slice (some ⟨g,0,none⟩) n m) (some (.int .i64 (l:Nat))) none none).run Tryz.prog w=.ok (.slice (some ⟨g,l,none⟩) (n-l) (m-l)) w:=by
  unfold Instr.sliceAt;go_simp;intro q;omega
 simp [execOp,hop,hx,hlo,hrun,Result.andThen];exact hK' _ _ (hK _)
theorem OwnI.two (w:World) (B:Nat) (x y:Int) (hB:B≤w.heap.size):OwnI (w.alloc (.cells #[.int .i64 x,.int .i64 y] 3)) B (.slice (some ⟨w.heap.size,0,none⟩) 2 2) [x,y]:=
 ⟨rfl,.inr ⟨w.heap.size,2,#[.int .i64 x,.int .i64 y],rfl,hB,heap_alloc_new _ _,Nat.le_refl _,by unfold maxLen;omega,rfl,rfl⟩⟩
theorem OwnI.cell {w:World} {B g n m:Nat} {zs:List Int} (h:OwnI w B (.slice (some ⟨g,0,none⟩) n m) zs) {k:Nat} {z:Int} (hz:zs[k]? = some z):w.cell? ⟨g,k,none⟩=some (.int .i64 z):=by
 have:=World.ownsRow.cells h (g:=g) rfl k (.int .i64 z) (by rw [List.getElem?_map,hz];rfl)
 rwa [Addr.add_lit,Nat.zero_add] at this
theorem OwnI.addr {w:World} {B:Nat} {v:Value} {zs:List Int} (h:OwnI w B v zs) (hz:0<zs.length):∃g m,v=.slice (some ⟨g,0,none⟩) zs.length m∧zs.length≤m:=by
 rcases h.2 with ⟨rfl,hn⟩ | ⟨g,cap,cur,rfl,hg,hh,hc,hm,hs,ht⟩
 ·omega
 ·exact ⟨g,cap,rfl,hc⟩
def UnpD (w:World) (L:List Nat) (e:Ending) (w':World):Prop:=∃v,e=.returned (.tuple #[v,.nilIface])∧OwnI w' w.heap.size v (L.map fun n:Nat=>(n:Int))∧Below w.heap.size w w'
theorem lvFind (w : World) (A : Option Addr) (cap : Nat) (g : G) (S : LS) (a : Nat) (t : Int) (hn : g.n ≤ 256) (h : EdsAt w A (EgL S g.n a)) (ht : inC t) :
    Calls Tryz.prog 216 #[.slice A (EgL S g.n a).length cap,.int .i64 t,.func (.func 239) #[] #[]] w fun r w'=>r=.returned (.tuple #[.int .i64 (lowN (EgL S g.n a) t:Nat),.bool (hasE (EgL S g.n a) t)])∧Below w.heap.size w w':=
 lvUBin2 w A (EgL S g.n a).length cap (EgL S g.n a) t h rfl (srt_EgL S g.n a) (part_inC (n:=0) hn) ht (by have:=len_EgL S g.n a;omega)
theorem lvHas {g:G} {S:LS} {a t:Nat} (ht:t<g.n) {c:C} {m:Int} (h:S.eg a t=some (c,m)):hasE (EgL S g.n a) ((t:Nat):Int)=true∧(EgL S g.n a)[lowN (EgL S g.n a) ((t:Nat):Int)]? = some ⟨((t:Nat):Int),c,m⟩:=by
 have hm:(⟨((t:Nat):Int),c,m⟩:Ed)∈EgL S g.n a:=mem_EgL.2 ⟨t,ht,rfl,h⟩;have h1:hasE (EgL S g.n a) ((t:Nat):Int)=true:=has_iff.2 ⟨_,hm,rfl⟩;refine ⟨h1,?_⟩;obtain ⟨e,he,ht2⟩:=(has_at (srt_EgL S g.n a) _).2 h1;rw [he];obtain ⟨t',q1,q2,q3⟩:=mem_EgL.1 (List.mem_of_getElem? he);rw [ht2] at q2
 obtain rfl:t=t':=by omega
 rw [h] at q3
 injection q3 with q3
 injection q3 with q4 q5
 cases e
 simp at ht2 q4 q5 ⊢
 exact ⟨ht2,q4.symm,q5.symm⟩
theorem LvOf.look {w : World} {b ml me nl : Nat} {Sb : List Nat} {top : Int} {V : Int → Option Value} {E : Int → Option (List Ed)} (h : LvOf w b ml me Sb top V nl E) {z : Int} {L : List Ed} (hL : E z = some L) :
    ∃A cap,EdsAt w A L∧∀w',Below w.heap.size w w'→(Instr.lookup 137 (.map (some me)) (.int .i64 z) false).run Tryz.prog w'=.ok (.slice A L.length cap) w':=by
 obtain ⟨_,_,⟨W3,N,q1,q2,q3,_,_,_,_⟩,_⟩:=h
 obtain ⟨u,hu⟩:∃u,W3 z=some u:=by
  cases hV:W3 z with
  | none=>rw [(q2 z).2 hV] at hL;cases hL
  | some u=>exact ⟨u,rfl⟩
 obtain ⟨A,cap,rfl,hEd⟩:=(q3 z u L hu hL).eds
 refine ⟨A,cap,hEd,fun w' hb=>?_⟩
 have:=((q1.below hb).look (int_fit Tryz.underlying3) Tryz.underlying137 (z:=.slice none 0 0) (by simp [Tryz.zeroValue119]) z).2
 rw [hu] at this;exact this
theorem lvUnpack (b ml me nl : Nat) (Sb : List Nat) (g : G) (S : LS) (tp : Nat) (top : Int) (hok : g.ok) (H : LS.Fin g tp S) : ∀ (n : Nat) (a c : Nat) (cst : C) (m : Int), n ≤ 20 → S.lev a + S.lev c ≤ n → S.eg a c = some (cst, m) →
    ∃L,LS.Unp S a c L∧LS.LW g.GE L cst∧L.length≤2 ^ n+1∧∀w,LvOf w b ml me Sb top (levV g S) nl (egE g S)→Calls Tryz.prog 201 #[.pointer (some ⟨b,0,none⟩),.int .i64 (a:Nat),.int .i64 (c:Nat)] w (UnpD w L):=by
 intro n
 induction n using Nat.strongRecOn with
 | _ n ih=>
  intro a c cst m hn20 hn heg;have hn256:=G.n_le hok
  obtain ⟨hac,hcc,hne⟩:=H.corner a c (by rw [heg];simp)
  obtain ⟨L,u1,w1,l1⟩:=H.unp n hn heg
  refine ⟨L,u1,w1,l1,fun w h=>?_⟩
  have kb1:w.cell? ⟨b,1,none⟩=some (.map (some me)):=by simp [World.cell?,h.1]
  obtain ⟨A,cap,hEd,hlk⟩:=h.look (egE_at hac);obtain ⟨hh,hat⟩:=lvHas hcc.1 heg
  have cF:=lvFind w A cap g S a (c:Nat) hn256 hEd (by unfold inC;have:=hcc.1;omega)
  rw [hh] at cF;have cF:=Lib.hid cF;obtain ⟨nE,hnE⟩:∃n,(EgL S g.n a).length=n:=⟨_,rfl⟩;obtain ⟨i,hi⟩:∃n,lowN (EgL S g.n a) ((c:Nat):Int)=n:=⟨_,rfl⟩;rw [hnE,hi] at cF;rw [hnE] at hlk;rw [hi] at hat
  have hil:i<nE:=by rw [←hnE];exact (List.getElem?_eq_some_iff.1 hat).1
  have hlk0:=hlk w (Below.refl _ _);have Hlk:=Lib.hid hlk;have HEd:=Lib.hid (And.intro hEd hat);have H0:=Lib.hid (And.intro h (And.intro heg (And.intro hac hcc)));have Hih:=Lib.hid ih;have HH:=Lib.hid (And.intro H (And.intro u1 (And.intro hn hn20)));clear h hEd hlk hh hat hnE hi ih heg hac hcc u1 w1 l1 hn H hne hn20;go_enter Tryz.func201,Tryz.ntmps201;go_wp2_with fail
  (with_reducible refine cF.out.mono ?_)
  rintro e w1 ⟨rfl,hb1⟩;obtain ⟨gb,hA,a1,a2,a3,a4⟩:=(HEd.out.1.below hb1).get HEd.out.2
  have hix:=fun wx=>idxE (m:=cap) hA hil wx
  have hlk1:=Hlk.out w1 hb1;have kb1:=bel_cell hb1 kb1;simp only at a1 a2 a3 a4;clear hlk0 hA cF
  by_cases hm:m<0
  ·have hL : L = [a, c] := by
     have:=HH.out.2.1.det (.edge H0.out.2.1 hm);exact this
   subst hL;go_wp2;have hF:UnpD w [a,c] (.returned (.tuple #[.slice (some ⟨w1.heap.size,0,none⟩) 2 2,.nilIface])) (w1.alloc (.cells #[.int .i64 (a:Nat),.int .i64 (c:Nat)] 3)):=⟨_,rfl,OwnI.two w1 w.heap.size _ _ hb1.size,bel_alloc hb1⟩;go_ret2;exact hF
  ·obtain ⟨k,rfl,e2,e3,c1,m1,c2,m2,e4,e5,e6⟩:=HH.out.1.sum a c cst m H0.out.2.1 (by omega)
   have hnn:=HH.out.2.2.1;have hn20:=HH.out.2.2.2
   obtain ⟨L1,v1,_,l1,cU1⟩:=Hih.out (n-1) (by omega) a k c1 m1 (by omega) (by omega) e4
   obtain ⟨L2,v2,_,l2,cU2⟩:=Hih.out (n-1) (by omega) k c c2 m2 (by omega) (by omega) e5
   have hL:L=L1 ++ L2.tail:=HH.out.2.1.det (.two H0.out.2.1 rfl v1 v2)
   have hp:2 ^ (n-1)≤2 ^ 20:=Nat.pow_le_pow_right (by omega) (by omega)
   have hlen2:2≤L2.length:=by obtain ⟨M,rfl⟩:=v2.ends;simp
   have HL:=Lib.hid (And.intro hL (And.intro l1 (And.intro l2 hp)));have cU1:=Lib.hid cU1;have cU2:=Lib.hid cU2;clear e2 e3 e4 e5 e6 v1 v2 hL l1 l2 hp hnn hn20;go_wp2_with fail
   (with_reducible refine (cU1.out _ (H0.out.1.below hb1)).mono ?_)
   rintro e w2 ⟨va,rfl,hOa,hb2⟩;have hb12:=bel_trans hb1 hb2;clear a1 a2 a3 a4 hix hlk1;go_wp2_with fail
   (with_reducible refine (cU2.out _ (H0.out.1.below hb12)).mono ?_)
   rintro e w3 ⟨vb,rfl,hOb,hb3⟩
   obtain ⟨g2,mb,rfl,hmb⟩:=hOb.addr (by rw [List.length_map];omega)
   have hlm:(L2.map fun n:Nat=>(n:Int)).length=L2.length:=List.length_map _
   have hOa3:=hOa.below (B':=w1.heap.size) hb3
   have hca:∀(k:Nat) (z:Int),(L2.tail.map fun n:Nat=>(n:Int))[k]? = some z→w3.cell? ((⟨g2,1,none⟩:Addr).add k)=some (.int .i64 z):=fun k z hz=>by
    rw [Addr.add_lit];refine hOb.cell (k:=1+k) ?_;rw [List.getElem?_map,List.getElem?_tail] at hz;rw [List.getElem?_map,Nat.add_comm];exact hz
   have Hca:=Lib.hid hca;have hB13:=bel_trans hb12 hb3;have HO:=Lib.hid (And.intro hOa3 hOb)
   obtain ⟨n2,hn2⟩:∃z,(L2.map fun n:Nat=>(n:Int)).length=z:=⟨_,rfl⟩
   rw [hn2] at hlm hmb ⊢
   have hl1:(L1.map fun n:Nat=>(n:Int)).length+(n2-1)<1099511627776:=by rw [List.length_map];have:=HL.out.2.1;have:=HL.out.2.2.1;have:=HL.out.2.2.2;omega
   have ht1:(L2.tail.map fun n:Nat=>(n:Int)).length=n2-1:=by rw [List.length_map,List.length_tail];omega
   have h1n:1<n2:=by omega
   have Hlm:=Lib.hid hlm;clear hca hOa hOb hOa3 cU1 cU2 hn2 hlm
   go_wp2_with (first
    | (refine wpList_sliceI rfl (.tmp 64) (.const (.int .i64 1)) rfl g2 n2 mb 1 rfl rfl h1n hmb ?_;intro m2)
    | (at_builtin;(refine wpList_append_ints w3 rfl _ _ rfl w1.heap.size va (L1.map fun n:Nat=>(n:Int)) (L2.tail.map fun n:Nat=>(n:Int)) rfl HO.out.1 ⟨g2,1,none⟩ (n2-1) _ rfl ht1 Hca.out hl1 (by have:=hb2.size;have:=hb3.size;omega) ?_);intro v' w9 hown9 hgrow))
   have hF:UnpD w L (.returned (.tuple #[v',.nilIface])) w9:=by
    refine ⟨v',rfl,?_,below_grown hB13 hB13.size (OwnI.mono HO.out.1 hb1.size) hgrow⟩;rw [HL.out.1,List.map_append];exact OwnI.mono hown9 hb1.size
   have hF:=Lib.hid hF;clear hown9 hgrow;go_wp2;go_ret2;exact hF.out
theorem nat_ext:∀ {L M:List Nat},L.Pairwise (· < ·)→M.Pairwise (· < ·)→(∀z,z∈L↔z∈M)→L=M
 | [],[],_,_,_=>rfl
 | [],y :: M,_,_,h=>by have:=(h y).2 (by simp);simp at this
 | x :: L,[],_,_,h=>by have:=(h x).1 (by simp);simp at this
 | x :: L,y :: M,hL,hM,h=>by
  rw [List.pairwise_cons] at hL hM
  have hxy:x=y:=by
   have a:=(h x).1 (by simp)
   have b:=(h y).2 (by simp)
   rcases List.mem_cons.1 a with a | a
   ·exact a
   ·rcases List.mem_cons.1 b with b | b
    ·exact b.symm
    ·have:=hM.1 x a;have:=hL.1 y b;omega
  subst hxy
  rw [nat_ext hL.2 hM.2 (fun z=>?_)]
  constructor
  ·intro hz
   rcases List.mem_cons.1 ((h z).1 (List.mem_cons_of_mem _ hz)) with e | e
   ·subst e;have:=hL.1 z hz;omega
   ·exact e
  ·intro hz
   rcases List.mem_cons.1 ((h z).2 (List.mem_cons_of_mem _ hz)) with e | e
   ·subst e;have:=hM.1 z hz;omega
   ·exact e
theorem cn_map (g:G):(cornersI g).map Int.toNat=cornersN g:=by
 refine nat_ext ?_ (cornersN_sorted g) fun z=>?_
 ·rw [List.pairwise_map]
  refine (corners_sorted g).imp_of_mem fun {a b} ha hb h=>?_
  have:∀a∈cornersI g,0≤a:=fun a ha=>by
   obtain ⟨i,hi⟩:=List.getElem?_of_mem ha;have:=(cf_at (g:=g) (List.getElem?_eq_some_iff.1 hi).1).1;rw [List.getD_eq_getElem?_getD,hi] at this;simp at this;omega
  have h1:=this a ha;have h2:=this b hb;omega
 ·rw [List.mem_map,mem_cornersN]
  constructor
  ·rintro ⟨a,ha,rfl⟩
   obtain ⟨i,hi⟩:=List.getElem?_of_mem ha;have hil:=(List.getElem?_eq_some_iff.1 hi).1;obtain ⟨q1,q2⟩:=cf_at (g:=g) hil;rw [List.getD_eq_getElem?_getD,hi] at q1;simp at q1;rw [q1]
   simpa using q2
  ·intro hz
   obtain ⟨i,hi,rfl⟩:=cf_has hz;have q:=(cf_at (g:=g) hi).1;rw [List.getD_eq_getElem?_getD,List.getElem?_eq_getElem hi] at q;simp at q
   exact ⟨_,List.getElem_mem hi,by rw [q];simp⟩
theorem cn_len (g:G):(cornersN g).length=(cornersI g).length:=by rw [←cn_map,List.length_map]
theorem cn_at {g:G} {i:Nat} (hi:i<(cornersI g).length):(cornersN g)[i]? = some (cf g i):=by
 have q:=(cf_at (g:=g) hi).1;rw [List.getD_eq_getElem?_getD,List.getElem?_eq_getElem hi] at q;simp at q;rw [←cn_map,List.getElem?_map,List.getElem?_eq_getElem hi,Option.map_some,q];simp
theorem egE_len {g:G} {S:LS} (hn:g.n≤256):∀z L,egE g S z=some L→L.length≤256:=fun z L h=>by
 unfold egE at h
 split at h
 ·injection h with h;subst h;exact Nat.le_trans (len_EgL _ _ _) hn
 ·cases h
theorem egE_key {g:G} {S:LS}:∀z,egE g S z≠none→∃n:Nat,z=n∧n<g.n:=fun z h=>by
 unfold egE at h
 split at h
 ·rename_i q
  exact ⟨z.toNat,by omega,q.2.1⟩
 ·exact absurd rfl h
theorem sumN_add (f h:Nat→Nat):∀n,sumN (fun k=>f k+h k) n=sumN f n+sumN h n
 | 0=>rfl
 | n+1=>by simp only [sumN];rw [sumN_add f h n];omega
theorem sumN_zero:∀n,sumN (fun _=>0) n=0
 | 0=>rfl
 | n+1=>by simp only [sumN];rw [sumN_zero n]
theorem sumN_bump {f h:Nat→Nat} {k d:Nat}:∀n,k<n→h k=f k+d→(∀j,j≠k→h j=f j)→sumN h n=sumN f n+d
 | 0,hk,_,_=>by omega
 | n+1,hk,h1,h2=>by
  simp only [sumN]
  by_cases e:k=n
  ·subst e
   rw [sumN_congr (f:=h) (g:=f) k fun j hj=>h2 j (by omega),h1];omega
  ·rw [sumN_bump n (by omega) h1 h2,h2 n (fun x=>e x.symm)];omega
theorem sumN_pairs {q:Nat→Nat→Nat} (hs:∀a b,q a b=q b a) (h0:∀a,q a a=0):∀n,sumN (fun a=>sumN (q a) n) n=2*sumN (fun a=>sumN (fun b=>if a<b then q a b else 0) n) n
 | 0=>rfl
 | n+1=>by
  have ih:=sumN_pairs hs h0 n
  have e1:sumN (fun a=>sumN (q a) (n+1)) n=sumN (fun a=>sumN (q a) n) n+sumN (fun a=>q a n) n:=by
   rw [←sumN_add];rfl
  have e2:sumN (fun a=>sumN (fun b=>if a<b then q a b else 0) (n+1)) n=sumN (fun a=>sumN (fun b=>if a<b then q a b else 0) n) n+sumN (fun a=>q a n) n:=by
   rw [←sumN_add]
   refine sumN_congr n fun a ha=>?_
   simp only [sumN];rw [if_pos ha]
  have e3:sumN (q n) (n+1)=sumN (fun a=>q a n) n:=by
   simp only [sumN];rw [h0,sumN_congr (f:=q n) (g:=fun a=>q a n) n fun a _=>hs n a];omega
  have e4:sumN (fun b=>if n<b then q n b else 0) (n+1)=0:=by
   rw [sumN_congr (g:=fun _=>0) (n+1) fun b hb=>if_neg (by omega),sumN_zero]
  show sumN (fun a=>sumN (q a) (n+1)) n+sumN (q n) (n+1)=2*(sumN (fun a=>sumN (fun b=>if a<b then q a b else 0) (n+1)) n+sumN (fun b=>if n<b then q n b else 0) (n+1))
  rw [e1,e2,e3,e4,ih];omega
def addL (L:List Ed):Nat:=L.countP fun e=>decide (0≤e.mid)
def addR (z:Int) (L:List Ed):Nat:=L.countP fun e=>decide (0≤e.mid) && decide (z<e.to_)
def addE (E:Int→Option (List Ed)) (k:Nat):Nat:=match E k with | some L=>addL L | none=>0
def addRE (E:Int→Option (List Ed)) (k:Nat):Nat:=match E k with | some L=>addR k L | none=>0
theorem addE_at {E:Int→Option (List Ed)} {k:Nat} {L:List Ed} (h:E k=some L):addE E k=addL L:=by unfold addE;rw [h]
theorem addRE_at {E:Int→Option (List Ed)} {k:Nat} {L:List Ed} (h:E k=some L):addRE E k=addR k L:=by unfold addRE;rw [h]
theorem addE_none {E:Int→Option (List Ed)} {k:Nat} (h:E k=none):addE E k=0:=by unfold addE;rw [h]
theorem addRE_none {E:Int→Option (List Ed)} {k:Nat} (h:E k=none):addRE E k=0:=by unfold addRE;rw [h]
theorem addL_step {L:List Ed} {i:Nat} {e:Ed} (h:L[i]? = some e):addL (L.take (i+1))=addL (L.take i)+(if 0≤e.mid then 1 else 0):=by
 obtain ⟨hi,he⟩:=List.getElem?_eq_some_iff.1 h;unfold addL;rw [List.take_succ_eq_append_getElem hi,List.countP_append,he]
 by_cases q:0≤e.mid <;> simp [q]
theorem addL_le (L:List Ed):addL L≤L.length:=List.countP_le_length
def addQ (S:LS) (a t:Nat):Nat:=match S.eg a t with | some cm=>if 0≤cm.2 then 1 else 0 | none=>0
theorem addL_EgL (S:LS) (a:Nat):∀N,addL (EgL S N a)=sumN (addQ S a) N
 | 0=>rfl
 | N+1=>by
  have ih:=addL_EgL S a N;unfold addL EgL at *;rw [List.range_succ,List.filterMap_append,List.countP_append,ih,sumN]
  congr 1
  unfold addQ
  cases h:S.eg a N with
  | none=>simp [h]
  | some cm=>by_cases q:0≤cm.2 <;> simp [h,q]
theorem addR_EgL (S:LS) (a:Nat):∀N,addR a (EgL S N a)=sumN (fun t=>if a<t then addQ S a t else 0) N
 | 0=>rfl
 | N+1=>by
  have ih:=addR_EgL S a N;unfold addR EgL at *;rw [List.range_succ,List.filterMap_append,List.countP_append,ih,sumN]
  congr 1
  unfold addQ
  cases h:S.eg a N with
  | none=>simp [h]
  | some cm=>by_cases q:0≤cm.2 <;> by_cases q2:a<N <;> simp [h,q,q2]
theorem added_same {g:G} {tp:Nat} {S:LS} (H:LS.Fin g tp S):sumN (addE (egE g S)) g.n=2*sumN (addRE (egE g S)) g.n:=by
 have hq:∀a,¬g.Corner a→∀t,addQ S a t=0:=fun a ha t=>by
  unfold addQ
  cases h:S.eg a t with
  | none=>rfl
  | some cm=>exact absurd (H.corner a t (by rw [h];simp)).1 ha
 have e1:∀a,addE (egE g S) a=sumN (addQ S a) g.n:=fun a=>by
  by_cases ha:g.Corner a
  ·rw [addE_at (egE_at ha),addL_EgL]
  ·rw [addE_none (egE_none (fun h=>ha (by simpa using h.2))),sumN_congr (g:=fun _=>0) _ (fun t _=>hq a ha t),sumN_zero]
 have e2:∀a,addRE (egE g S) a=sumN (fun t=>if a<t then addQ S a t else 0) g.n:=fun a=>by
  by_cases ha:g.Corner a
  ·rw [addRE_at (egE_at ha),addR_EgL]
  ·rw [addRE_none (egE_none (fun h=>ha (by simpa using h.2))),sumN_congr (g:=fun _=>0) _ (fun t _=>by rw [hq a ha t];simp),sumN_zero]
 rw [sumN_congr _ (fun a _=>e1 a),sumN_congr (f:=addRE (egE g S)) _ (fun a _=>e2 a)]
 refine sumN_pairs (fun a b=>?_) (fun a=>?_) g.n
 ·unfold addQ;rw [H.symm a b]
 ·unfold addQ
  cases h:S.eg a a with
  | none=>rfl
  | some cm=>exact absurd rfl (H.corner a a (by rw [h];simp)).2.2
open Classical in
noncomputable def doneN (left:Int→Prop) (f:Nat→Nat) (N:Nat):Nat:=sumN (fun k=>if left (k:Nat) then 0 else f k) N
theorem doneN_start {left:Int→Prop} {f:Nat→Nat} {N:Nat} (h:∀k:Nat,¬left k→f k=0):doneN left f N=0:=by
 unfold doneN
 rw [sumN_congr (g:=fun _=>0) N fun k _=>?_,sumN_zero]
 split
 ·rfl
 ·exact h k ‹_›
theorem doneN_step {left:Int→Prop} {f:Nat→Nat} {N k:Nat} (hk:k<N) (hl:left k):doneN (fun j=>left j∧j≠(k:Nat)) f N=doneN left f N+f k:=by
 unfold doneN
 refine sumN_bump N hk ?_ (fun j hj=>?_)
 ·rw [if_pos hl,if_neg (by simp)];omega
 ·by_cases e:left (j:Nat)
  ·rw [if_pos ⟨e,by omega⟩,if_pos e]
  ·rw [if_neg (fun h=>e h.1),if_neg e]
theorem doneN_end {left:Int→Prop} {f:Nat→Nat} {N:Nat} (h:∀z,¬left z):doneN left f N=sumN f N:=by
 unfold doneN
 exact sumN_congr N fun k _=>if_neg (h _)
theorem doneN_le {left:Int→Prop} {f:Nat→Nat} {N K:Nat} (h:∀k,f k≤K):doneN left f N≤N*K:=by
 unfold doneN;rw [←sumN_const]
 refine sumN_le N fun k _=>?_
 split
 ·omega
 ·exact h k
theorem addE_le {E:Int→Option (List Ed)} {K:Nat} (h:∀z L,E z=some L→L.length≤K) (k:Nat):addE E k≤K:=by
 unfold addE
 split
 ·exact Nat.le_trans (addL_le _) (h _ _ ‹_›)
 ·omega
theorem quo_two (D:Nat):IntKind.i64.wrap (((2*D:Nat):Int).tdiv 2)=if D<1000000 then ((D:Nat):Int) else IntKind.i64.wrap (((2*D:Nat):Int).tdiv 2):=by
 split
 ·rw [Int.tdiv_eq_ediv_of_nonneg (by omega),IntWalk.i64_in _ (by omega)];omega
 ·rfl
theorem lvAdded (w : World) (b ml me nl : Nat) (S : List Nat) (top : Int) (V : Int → Option Value) (E : Int → Option (List Ed)) (N D : Nat) (h : LvOf w b ml me S top V nl E) (hl : ∀ z L, E z = some L → L.length ≤ 256) (hb : ∀ z, E z ≠ none → ∃ n : Nat, z = n ∧ n < N) (hN : N ≤ 256)
    (hD:sumN (addE E) N=2*D) :
    Calls Tryz.prog 49 #[.pointer (some ⟨b,0,none⟩)] w fun e w'=>e=.returned (.int .i64 (D:Nat))∧Below w.heap.size w w':=by
 obtain ⟨g1,_,⟨W3,n3,q1,q2,q3,_,_,_,_⟩,_⟩:=h
 have kb1:w.cell? ⟨b,1,none⟩=some (.map (some me)):=by simp [World.cell?,g1]
 have H2:=Lib.hid q2;have H3:=Lib.hid q3;have Hl:=Lib.hid hl;have Hb:=Lib.hid hb;have HD:=Lib.hid hD
 have hD2:D≤40000:=by
  have h1:sumN (addE E) N≤N*256:=by rw [←sumN_const];exact sumN_le N fun k _=>addE_le hl k
  have h2:N*256≤256*256:=Nat.mul_le_mul_right _ hN;omega
 clear g1 q2 q3 hl hb hD;go_enter Tryz.func49,Tryz.ntmps49;go_wp2_with (at_range;refine wpList_rangeM rfl _ rfl iK_inj Tryz.underlying137 q1 rfl ?_;intro w1 hrg hb1 hs1);go_frame;obtain ⟨r,hr⟩:∃z,w.heap.size=z:=⟨_,rfl⟩
 rw [hr] at hrg ⊢
 have hstart:∃left cnt,RangeAt iK w1 me r W3 left cnt∧0=doneN left (addE E) N∧Below w.heap.size w w1:=⟨_,_,hrg,(doneN_start fun k hk=>addE_none ((H2.out _).2 (Classical.byContradiction fun h=>hk h))).symm,hb1⟩
 have hrw:w.heap.size≤r:=by omega
 clear hrg hb1 hs1 q1 kb1 hr
 go_loopw [3] (fun lv wr=>∃T:Nat,lv=.int .i64 T∧∃left cnt,RangeAt iK wr me r W3 left cnt∧T=doneN left (addE E) N∧Below w.heap.size w wr) (fun _ wr=>wr.rangeLeft me r)
 case atStart=>exact ⟨0,rfl,hstart⟩
 case round=>
  obtain ⟨T,rfl,left,cnt,hrg,hT,hB⟩:=hrel;clear hstart;have hleft:=Lib.hid hrg.left_eq;have HT:=Lib.hid hT
  have hT2:T≤100000:=by
   have h1:=doneN_le (left:=left) (N:=N) (K:=256) (fun k=>addE_le Hl.out k)
   have h2:N*256≤256*256:=Nat.mul_le_mul_right _ hN;omega
  clear hT;go_wp2_with (at_next;refine wpList_nextM rfl _ rfl iK_inj hrg rfl ?_ ?_)
  ·intro h0 hl
   have hT3:T=2*D:=by rw [HT.out,doneN_end hl,HD.out]
   subst hT3;have hq:=quo_two D
   rw [if_pos (by omega)] at hq
   have HB:=Lib.hid hB;have Hq:=Lib.hid hq;clear hl hrg hq HT hT2 hB;go_wp2;go_ret;exact ⟨rfl,HB.out⟩
  ·intro k u w4 cnt4 hk hlk hrg4 hlt4 hK4 hs4 hen
   obtain ⟨L,hL⟩:∃L,E k=some L:=by
    cases hE:E k with
    | none=>rw [(H2.out k).1 hE] at hk;cases hk
    | some L=>exact ⟨L,rfl⟩
   obtain ⟨kn,rfl,hkn⟩:=Hb.out k (by rw [hL];simp)
   have hB4:Below w.heap.size w w4:=Kept.below hB hK4 hB.size (by simp;omega)
   obtain ⟨A,cap,rfl,hEd⟩:=(H3.out _ u L hk hL).eds;have HEd:=Lib.hid (hEd.below hB4)
   have hT4:T+addL L=doneN (fun j=>left j∧j≠(kn:Nat)) (addE E) N:=by rw [doneN_step hkn hlk,addE_at hL,HT.out]
   have Hrg4:=Lib.hid hrg4;have HT4:=Lib.hid (And.intro hT4 hlt4);have hl256:=Hl.out _ L hL;obtain ⟨n,hn⟩:∃n,L.length=n:=⟨_,rfl⟩
   rw [hn] at hen hl256 ⊢
   have Hn:=Lib.hid hn
   rw [show iK ((kn:Nat):Int)=.int .i64 ((kn:Nat):Int) from rfl] at hen ⊢
   clear hk hlk hrg4 hlt4 hK4 hs4 hEd hB hrg HT hT4 hn hL;go_wp2_with fail;clear hen;have hwz:=hB4.size
   go_loopw [3,19] (fun lv kv wr=>∃i t:Nat,kv=.int .i64 i∧lv=.int .i64 t∧i≤n∧t=T+addL (L.take i)∧Below w4.heap.size w4 wr) (fun _ kv _=>n-(intOf kv).toNat)
   case atStart=>exact ⟨0,T,rfl,rfl,by omega,by simp [addL],Below.refl _ _⟩
   case round=>
    obtain ⟨i,t,rfl,rfl,hi,ht,hBi⟩:=hrel;have Ht:=Lib.hid ht
    have ht2:t≤200000:=by
     have h1:=addL_le (L.take i);rw [List.length_take] at h1;omega
    clear ht
    by_cases hlt:i<n
    ·obtain ⟨e,he⟩:∃e,L[i]? = some e:=⟨L[i]'(by rw [Hn.out];exact hlt),List.getElem?_eq_getElem _⟩
     obtain ⟨gb,hA,a1,a2,a3,a4⟩:=(HEd.out.below hBi).get he
     have hix:=fun wx=>idxE (m:=cap) hA hlt wx
     have hst:=addL_step he;obtain ⟨xt,⟨xs,xd⟩,xm⟩:=e;simp only at a1 a2 a3 a4;have Hst:=Lib.hid hst;clear hA he hst
     go_upto_region 8 with (fail)
     refine wp_name ?_;intro W hW
     have HW:Below w4.heap.size w4 W:=by rw [hW];exact bel_alloc hBi
     obtain ⟨b7,hb7⟩:∃z,wr.heap.size=z:=⟨_,rfl⟩
     have o2:W.cell? ⟨b7,3,none⟩=some (.int .i64 xm):=by rw [hW,←hb7];go_simp
     rw [hb7];clear hW hb7 hBi a1 a2 a3 a4 hix
     by_cases hm:0≤xm
     ·have hF:t+1=T+addL (L.take (i+1)):=by have:=Hst.out;rw [if_pos hm] at this;rw [this,Ht.out];omega
      have HF:=Lib.hid hF;clear hF Hst Ht;go_wp2;go_roundw
      case rel=>first | exact ⟨i+1,t+1,by go_num,by go_num,by omega,HF.out,HW⟩ | ((repeat apply Exists.intro);exact ⟨⟨i+1,t+1,by go_num,by go_num,by omega,HF.out,HW⟩,rfl⟩)
      case measure=>simp [intOf];omega
     ·have hF:t=T+addL (L.take (i+1)):=by have:=Hst.out;rw [if_neg hm] at this;rw [this,Ht.out];omega
      have HF:=Lib.hid hF;clear hF Hst Ht;go_wp2;go_roundw
      case rel=>first | exact ⟨i+1,t,by go_num,rfl,by omega,HF.out,HW⟩ | ((repeat apply Exists.intro);exact ⟨⟨i+1,t,by go_num,rfl,by omega,HF.out,HW⟩,rfl⟩)
      case measure=>simp [intOf];omega
    ·obtain rfl:i=n:=by omega
     have hF:t=doneN (fun j=>left j∧j≠(kn:Nat)) (addE E) N:=by
      have:=Ht.out;rw [←Hn.out,List.take_length] at this;rw [this,HT4.out.1]
     have hrg:=Hrg4.out.below hBi;have hle:=Lib.hid hrg.left_eq
     have hB5:Below w.heap.size w wr:=hB4.trans (hBi.mono (by omega))
     have HF:=Lib.hid (And.intro hrg (And.intro hF hB5));have hlt5:=HT4.out.2;clear hF hrg hB5 Ht;go_wp2;go_roundw
     case rel=>first | exact ⟨t,rfl,_,_,HF.out⟩ | ((repeat apply Exists.intro);exact ⟨⟨t,rfl,_,_,HF.out⟩,rfl⟩)
     case measure=>rw [hleft.out,hle.out];exact hlt5
end Go.Proofs.YtokhnobcincfjaaGreatDoor
