/- Lemmas of this claim: Nav5, NavEd, EdOwn. -/
import Derived.Test.YtokhnobcincfjaaGreatDoorNav1
import Derived.Test.YtokhnobcincfjaaGreatDoorRTx2
import Derived.Test.YtokhnobcincfjaaGreatDoorKNUn41
import Derived.Test.YtokhnobcincfjaaGreatDoorBase
import Derived.Test.YtokhnobcincfjaaGreatDoorKNUn4
import Derived.Test.YtokhnobcincfjaaGreatDoorGSet4
import Derived.Test.YtokhnobcincfjaaGreatDoorKNUn24
import Derived.Test.YtokhnobcincfjaaGreatDoorKNUn6
set_option linter.unusedVariables false
set_option linter.unusedSimpArgs false
set_option maxHeartbeats 12800000
set_option maxRecDepth 100000
namespace Go.Proofs.YtokhnobcincfjaaGreatDoor
open Go.RowKit Go.Sort FR Go.Lib
def EditsAt (W:World) (A:Option Addr) (n:Nat) (f:Nat→Int×Bool):Prop:=
 0<n→∃b o,A=some ⟨b,o,none⟩∧b<W.heap.size∧∀k,k<n→W.cell? ⟨b,o+k*2,none⟩=some (.int .i64 (f k).1)∧W.cell? ⟨b,o+k*2+1,none⟩=some (.bool (f k).2)
theorem EditsAt.kept {S:List Nat} {w w':World} {A:Option Addr} {n:Nat} {f:Nat→Int×Bool} (h:EditsAt w A n f) (hk:Kept S w w') (hS:∀ad,A=some ad→ad.block∉S):EditsAt w' A n f:=fun hn=>by
 obtain ⟨b,o,e,hl,hc⟩:=h hn;have hb':b∉S:=hS ⟨b,o,none⟩ e
 exact ⟨b,o,e,Nat.lt_of_lt_of_le hl hk.size,fun k hk'=>⟨keptc (p:=⟨b,_,none⟩) hk hb' (hc k hk').1,keptc (p:=⟨b,_,none⟩) hk hb' (hc k hk').2⟩⟩
theorem idx_runEd {A:Option Addr} {b o n m k:Nat} (h:A=some ⟨b,o,none⟩) (hk:k<n) (wx:World):(Instr.indexAt 62 (.slice A n m) (.int .i64 (k:Nat))).run Tryz.prog wx=.ok (.pointer (some ⟨b,o+k*2,none⟩)) wx:=by
 subst h
 have q:(k:Int)<(n:Int):=by omega
 go_simp
def EditD (w:World) (s:Nat) (g:G) (v:Int) (most:Nat) (T:List Nat) (f:Nat→Int×Bool) (n:Nat) (e:Ending) (w':World):Prop:=
 e=.returned (.tuple #[.int .i64 (editN f g n:Nat),.nilIface])∧∃T',ServIn w' s (editG f g n) (v+(editN f g n:Nat)) most T'∧(∀k∈T',k∈T∨w.heap.size≤k)∧Kept T w w'
def EdI (w:World) (s pg pt ptg rb rp rm:Nat) (S:List Nat) (sc:Array Value) (g:G) (v:Int) (f:Nat→Int×Bool) (k:Nat) (wr:World):Prop:=
 ∃S' E',wr.heap[s]? = some (.cells sc 114 (0,0))∧GridAt wr pg (editG f g k) (v+(editN f g k:Nat))∧TabFull wr pt ptg (editG f g k) (v+(editN f g k:Nat)) ∧
  GraphOf wr rb rp rm S' (editG f g k) (v+(editN f g k:Nat)) E'∧GSpec (editG f g k) (fun _ _=>True) E'∧Apart s pg pt ptg rb rp rm S'∧(∀q∈S',q∈S∨w.heap.size≤q)∧Kept (pg :: pt :: ptg :: rp :: rm :: S) w wr∧(editN f g k=0→Below w.heap.size w wr)
theorem EdI.below {w wr w2:World} {s pg pt ptg rb rp rm:Nat} {S:List Nat} {sc:Array Value} {g:G} {v:Int} {f:Nat→Int×Bool} {k:Nat} (h:EdI w s pg pt ptg rb rp rm S sc g v f k wr) (hb:Below wr.heap.size wr w2):EdI w s pg pt ptg rb rp rm S sc g v f k w2:=by
 obtain ⟨S',E',h1,h2,h3,h4,h5,h6,h7,h8,h9⟩:=h
 exact ⟨S',E',(hb.block s (Array.getElem?_eq_some_iff.1 h1).1).trans h1,h2.below hb h2.lt,h3.below hb,h4.below hb,h5,h6,h7,h8.trans (.of_below hb),fun e=>bel_trans (h9 e) hb⟩
theorem EdI.same {w wr w2:World} {s pg pt ptg rb rp rm:Nat} {S:List Nat} {sc:Array Value} {g:G} {v:Int} {f:Nat→Int×Bool} {k:Nat} (h:EdI w s pg pt ptg rb rp rm S sc g v f k wr) (hb:Below wr.heap.size wr w2) (hs:(editG f g k).b (f k).1.toNat=(f k).2):EdI w s pg pt ptg rb rp rm S sc g v f (k+1) w2:=by
 have e1:editG f g (k+1)=editG f g k:=gset_self hs
 have e2:editN f g (k+1)=editN f g k:=by
  show editN f g k+_=_
  rw [if_pos hs];rfl
 have:=h.below hb
 unfold EdI at this ⊢
 rw [e1,e2];exact this
theorem EdI.start {w:World} {s pg pt ptg rb rp rm:Nat} {S:List Nat} {sc:Array Value} {g:G} {v:Int} {f:Nat→Int×Bool} {E:Int→Option (List Ed)} (h1:w.heap[s]? = some (.cells sc 114 (0,0))) (h2:GridAt w pg g v) (h3:TabFull w pt ptg g v) (h4:GraphOf w rb rp rm S g v E) (h5:GSpec g (fun _ _=>True) E) (h6:Apart s pg pt ptg rb rp rm S):EdI w s pg pt ptg rb rp rm S sc g v f 0 w:=
 ⟨S,E,h1,by simpa [editG,editN] using h2,by simpa [editG,editN] using h3,by simpa [editG,editN] using h4,h5,h6,fun _ h=>.inl h,.refl _ _,fun _=>.refl _ _⟩
theorem EdI.next {w wr w1 w2 w3 : World} {s pg pt ptg rb rp rm : Nat} {S : List Nat} {sc : Array Value} {g : G} {v : Int} {f : Nat → Int × Bool} {k : Nat} {S' S3 : List Nat} {E' E3 : Int → Option (List Ed)} (hs : ¬ (editG f g k).b (f k).1.toNat = (f k).2)
    (h1:wr.heap[s]? = some (.cells sc 114 (0,0))) (h4:GraphOf wr rb rp rm S' (editG f g k) (v+(editN f g k:Nat)) E') (h6:Apart s pg pt ptg rb rp rm S') (h7:∀q∈S',q∈S∨w.heap.size≤q) (h8:Kept (pg :: pt :: ptg :: rp :: rm :: S) w wr)
    (g1:GridAt w1 pg (editG f g (k+1)) (v+(editN f g k:Nat)+1)) (k1:Kept [pg] wr w1) (g2:TabFull w2 pt ptg (editG f g (k+1)) (v+(editN f g k:Nat)+1)) (k2:Kept [pt,ptg] w1 w2)
    (g3:GraphOf w3 rb rp rm S3 (editG f g (k+1)) (v+(editN f g k:Nat)+1) E3) (g4:GSpec (editG f g (k+1)) (fun _ _=>True) E3) (g5:∀q∈S3,q∈S'∨w2.heap.size≤q) (k3:Kept (rp :: rm :: S') w2 w3):EdI w s pg pt ptg rb rp rm S sc g v f (k+1) w3:=by
 have e2:editN f g (k+1)=editN f g k+1:=by
  show editN f g k+_=_
  rw [if_neg hs]
 have ev:v+((editN f g (k+1):Nat):Int)=v+(editN f g k:Nat)+1:=by rw [e2];omega
 unfold EdI;rw [ev];have nd:=h6.nd;simp only [List.nodup_cons,List.mem_cons,List.not_mem_nil,or_false,not_or,List.nodup_nil,and_true,not_false_eq_true] at nd;obtain ⟨⟨a1,a2,a3,a4,a5,a6⟩,⟨b1,b2,b3,b4,b5⟩,⟨c1,c2,c3,c4⟩,⟨d1,d2,d3⟩,⟨e1,e2'⟩,f1⟩:=nd;have ho:=h6.out
 have oS:∀ {x},x∈[s,pg,pt,ptg,rb,rp,rm]→x∉S':=fun hx hm=>ho _ hm hx
 have z1:=h1;have l1:s<wr.heap.size:=(Array.getElem?_eq_some_iff.1 h1).1
 have s1:=(k1.block s l1 (by simp [a1])).trans h1
 have l2:s<w1.heap.size:=(Array.getElem?_eq_some_iff.1 s1).1
 have s2:=(k2.block s l2 (by simp [a2,a3])).trans s1
 have l3:s<w2.heap.size:=(Array.getElem?_eq_some_iff.1 s2).1
 have s3:=(k3.block s l3 (by simp [a5,a6,oS])).trans s2
 have hsz:wr.heap.size≤w2.heap.size:=Nat.le_trans k1.size k2.size
 refine ⟨S3,E3,s3,(g1.kept k2 (by simp [b1,b2])).kept k3 (by simp [b4,b5,oS]),g2.kept k3 (by simp [c3,c4,oS]) (by simp [d2,d3,oS]),g3,g4,⟨h6.nd,fun q hq hm=>?_⟩,fun q hq=>?_,?_,fun e=>by omega⟩
 ·rcases g5 q hq with r | r
  ·exact ho q r hm
  ·have lg:=g1.lt
   have lt:=g2.lt;have l4:rb<wr.heap.size:=(Array.getElem?_eq_some_iff.1 h4.1).1;have l5:=h4.2.1.lt;have l6:=h4.2.2.1.lt;have hs1:=k1.size;have hs2:=k2.size;simp only [List.mem_cons,List.not_mem_nil,or_false] at hm;omega
 ·rcases g5 q hq with r | r
  ·exact h7 q r
  ·exact .inr (Nat.le_trans (Nat.le_trans h8.size hsz) r)
 ·refine ((h8.trans_lt k1 fun i hi _=>?_).trans_lt k2 fun i hi _=>?_).trans_lt k3 fun i hi hl=>?_
  ·simp at hi;simp [hi]
  ·simp only [List.mem_cons,List.not_mem_nil,or_false] at hi ⊢
   omega
  ·simp only [List.mem_cons] at hi ⊢
   rcases hi with e | e | e
   ·simp [e]
   ·simp [e]
   ·rcases h7 i e with r | r
    ·simp [r]
    ·omega
theorem graph_kept {w w':World} {b p mb:Nat} {S X:List Nat} {g:G} {v:Int} {E:Int→Option (List Ed)} (h:GraphOf w b p mb S g v E) (hk:Kept X w w') (h1:b∉X) (h2:p∉X) (h3:mb∉X) (h4:∀q∈S,q∉X):GraphOf w' b p mb S g v E:=
 ⟨(hk.block b (Array.getElem?_eq_some_iff.1 h.1).1 h1).trans h.1,h.2.1.kept hk h2,h.2.2.1.kept hk h4 h3,h.2.2.2⟩
theorem EdI.fin {w wr w4 w5 : World} {s pg pt ptg rb rp rm bl ml me nl : Nat} {S T Sb : List Nat} {g : G} {v : Int} {most : Nat} {f : Nat → Int × Bool} {n lb0 : Nat} (h : EdI w s pg pt ptg rb rp rm S #[.pointer (some ⟨pg, 0, none⟩), .pointer (some ⟨pt, 0, none⟩), .pointer (some ⟨rb, 0, none⟩), .pointer (some ⟨lb0, 0, none⟩), .int .i64 (most : Nat)] g v f n wr)
    (hT:∀k∈s :: pg :: pt :: ptg :: rb :: rp :: rm :: S,k∈T) (m1:1≤most) (m2:most≤6) (hw:∀k∈T,k<w.heap.size)
    (hL:LvOf w4 bl ml me Sb ((LS.all (editG f g n) (cornersN (editG f g n)) most).2:Nat) (levV (editG f g n) (LS.all (editG f g n) (cornersN (editG f g n)) most).1) nl (egE (editG f g n) (LS.all (editG f g n) (cornersN (editG f g n)) most).1))
    (hge:∀k∈bl :: ml :: me :: Sb,wr.heap.size≤k) (hb:Below wr.heap.size wr w4) (hw5:w5=w4.setCell ⟨s,3,none⟩ (.pointer (some ⟨bl,0,none⟩))) :
    EditD w s g v most T f n (.returned (.tuple #[.int .i64 (editN f g n:Nat),.nilIface])) w5:=by
 obtain ⟨S',E',h1,h2,h3,h4,h5,h6,h7,h8,_⟩:=h.below hb
 have hwr:w.heap.size≤wr.heap.size:=by obtain ⟨_,_,_,_,_,_,_,_,_,h8,_⟩:=h;exact h8.size
 have hk:Kept [s] w4 w5:=by rw [hw5];exact (Kept.refl [s] w4).setCell (.inl (by simp))
 have hsT:=hw s (hT s (by simp))
 have nd:=h6.nd;simp only [List.nodup_cons,List.mem_cons,List.not_mem_nil,or_false,not_or,List.nodup_nil,and_true,not_false_eq_true] at nd;obtain ⟨⟨a1,a2,a3,a4,a5,a6⟩,_⟩:=nd
 have aS:∀k∈S',k≠s:=fun k hk e=>h6.out k hk (by rw [e];simp)
 have z1:w5.heap[s]? = some (.cells #[.pointer (some ⟨pg,0,none⟩),.pointer (some ⟨pt,0,none⟩),.pointer (some ⟨rb,0,none⟩),.pointer (some ⟨bl,0,none⟩),.int .i64 (most:Nat)] 114 (0,0)):=by
  rw [hw5];exact set_heap1 _ s 3 _ _ _ h1
 obtain ⟨r1,r2,r3,r4⟩:=h4
 refine ⟨rfl,_,⟨pg,pt,rb,rp,rm,bl,ml,me,S',E',Sb,nl,z1,m1,m2,h2.kept hk (by simp;omega),⟨(hk.block rb (Array.getElem?_eq_some_iff.1 r1).1 (by simp;omega)).trans r1,r2.kept hk (by simp;omega),r3.kept hk (fun q hq=>by simp;exact aS q hq) (by simp;omega),r4⟩,h5,
  hL.kept hk (fun k hk'=>by have:=hge k hk';simp;omega),ptg,h3.kept hk (by simp;omega) (by simp;omega),h6,rfl⟩,fun k hk'=>?_,?_⟩
 ·simp only [List.mem_cons,List.mem_append] at hk'
  have hg2:=fun k (hk:k∈bl :: ml :: me :: Sb)=>Nat.le_trans hwr (hge k hk)
  rcases hk' with rfl | rfl | rfl | rfl | rfl | rfl | rfl | hk' | rfl | rfl | rfl | hk'
  ·exact .inl (hT _ (by simp))
  ·exact .inl (hT _ (by simp))
  ·exact .inl (hT _ (by simp))
  ·exact .inl (hT _ (by simp))
  ·exact .inl (hT _ (by simp))
  ·exact .inl (hT _ (by simp))
  ·exact .inl (hT _ (by simp))
  ·rcases h7 k hk' with r | r
   ·exact .inl (hT _ (by simp [r]))
   ·exact .inr r
  ·exact .inr (hg2 _ (by simp))
  ·exact .inr (hg2 _ (by simp))
  ·exact .inr (hg2 _ (by simp))
  ·exact .inr (hg2 _ (by simp [hk']))
 ·refine (h8.more fun k hk'=>hT k ?_).trans (hk.more fun k hk'=>hT k ?_)
  ·simp only [List.mem_cons] at hk'
   rcases hk' with e | e | e | e | e | e <;> simp [e]
  ·simp at hk';simp [hk']
theorem navEdit_ok (w : World) (s : Nat) (g : G) (v : Int) (most : Nat) (T : List Nat) (h : ServIn w s g v most T) (A : Option Addr) (n m : Nat) (f : Nat → Int × Bool) (hE : EditsAt w A n f) (hn : n ≤ 60) (hA : ∀ ad, A = some ad → ad.block ∉ T) (hv : 0 ≤ v ∧ v ≤ 1000000) (hin : ∀ j, j < n → 0 ≤ (f j).1 ∧ (f j).1 < (g.n : Nat)) :
    Calls Tryz.prog 24 #[.pointer (some ⟨s,0,none⟩),.slice A n m] w (EditD w s g v most T f n):=by
 have HT:=Lib.hid h.lt;have HSv:=Lib.hid h;obtain ⟨pg,pt,rb,rp,rm,lb,lm,le,S,E,Sb,nl,hs,m1,m2,hG,hGr,hGs,hLv,ptg,hTF,hAp,hTe⟩:=h
 have ks0:w.cell? ⟨s,0,none⟩=some (.pointer (some ⟨pg,0,none⟩)):=by rw [Lib.cell_of_heap hs];rfl
 have hI0:=EdI.start (f:=f) hs hG hTF hGr hGs hAp
 have hTs:∀k∈s :: pg :: pt :: ptg :: rb :: rp :: rm :: S,k∈T:=fun k hk=>by
  rw [hTe]
  simp only [List.mem_cons,List.mem_append] at hk ⊢
  rcases hk with e | e | e | e | e | e | e | e <;> simp [e]
 have HTs:=Lib.hid hTs;have HI0:=Lib.hid hI0;have HG:=Lib.hid hG;have HE:=Lib.hid hE;have HA:=Lib.hid hA;have Hin:=Lib.hid hin;have Hm:=Lib.hid (And.intro m1 m2);have Hv:=Lib.hid hv;have Hks:=Lib.hid ks0;clear hs m1 m2 hG hGr hGs hLv hTF hAp hTe hI0 hTs hE hA hin hv ks0;go_enter Tryz.func24,Tryz.ntmps24;go_wp2_with fail
 go_loopw [21] (fun iv wr=>∃(k:Nat),k≤n∧iv=.int .i64 (k:Nat)∧Below w.heap.size w wr) (fun iv _=>n-(intOf iv).toNat)
 case atStart=>exact ⟨0,Nat.zero_le _,rfl,Below.refl _ _⟩
 case round=>
  obtain ⟨k,hk,rfl,hB⟩:=hrel
  by_cases hlt:k<n
  ·obtain ⟨ba,o,hAe,hbl,hc⟩:=HE.out (by omega)
   obtain ⟨x1,x2⟩:=hc k hlt
   have hix:=fun wx=>idx_runEd (A:=A) (m:=m) hAe hlt wx
   obtain ⟨i0,i1⟩:=Hin.out k hlt;obtain ⟨⟨x,t⟩,hxt⟩:∃z,f k=z:=⟨_,rfl⟩;rw [hxt] at x1 x2 i0 i1;simp only at x1 x2 i0 i1;obtain ⟨c,rfl⟩:=Int.eq_ofNat_of_zero_le i0;obtain ⟨ok,hok⟩:∃z,o+k*2=z:=⟨_,rfl⟩;rw [hok] at x1 x2 hix;replace x1:=bel_cell hB x1;replace x2:=bel_cell hB x2;obtain ⟨u,hu⟩:∃u,(!g.b c)=u:=⟨_,rfl⟩
   have hcn:c<g.n:=by omega
   have cF:=fun w' (hb:Below w.heap.size w w')=>gridFree_in w' pg g v c (HG.out.below hb HG.out.lt) hcn
   rw [hu] at cF;replace cF:=Lib.hid cF;clear hAe hbl hc hxt hok hu i0 i1 hcn
   go_upto_region 6 with (fail)
   refine wp_name ?_;intro W hW
   have hb1:Below wr.heap.size wr W:=by rw [hW];(repeat' (first | exact Below.refl _ _ | assumption | apply bel_drewN | apply bel_drew | apply bel_alloc | (refine bel_trans ?_ (by assumption))))
   obtain ⟨b7,hb7⟩:∃z,wr.heap.size=z:=⟨_,rfl⟩
   have e0:W.cell? ⟨b7,0,none⟩=some (.int .i64 (c:Nat)):=by rw [hW,←hb7];go_simp
   have HB1:=bel_trans hB hb1;rw [hb7];clear hW hb7 hb1 x1 x2 hix hB;have hBQ:Below w.heap.size w W.drew:=bel_drew HB1;have q0:W.drew.cell? ⟨s,0,none⟩=some (.pointer (some ⟨pg,0,none⟩))∧W.drew.cell? ⟨b7,0,none⟩=some (.int .i64 (c:Nat)):=⟨bel_cell hBQ Hks.out,bel_cell (bel_drew (Below.refl _ _)) e0⟩
   go_region_held3 (fun w'=>w'.cell? ⟨s,0,none⟩=some (.pointer (some ⟨pg,0,none⟩))∧w'.cell? ⟨b7,0,none⟩=some (.int .i64 (c:Nat)))
    (first
     | exact q0)
    (first
     | (go_at_call 52
        refine (cF.out _ hBQ).mono ?_;rintro e w2 ⟨rfl,hb2⟩;have q0:w2.cell? ⟨s,0,none⟩=some (.pointer (some ⟨pg,0,none⟩))∧w2.cell? ⟨b7,0,none⟩=some (.int .i64 (c:Nat)):=⟨bel_cell hb2 q0.1,bel_cell hb2 q0.2⟩))
   have HF:=Lib.hid (bel_trans hBQ hb2);clear q0 hb2 hBQ e0 HB1 cF;go_wp2;go_roundw
   case rel=>first | exact ⟨k+1,by omega,by go_num,HF.out⟩ | ((repeat apply Exists.intro);exact ⟨⟨k+1,by omega,by go_num,HF.out⟩,rfl⟩)
   case measure=>simp [intOf];omega
  ·obtain rfl:n=k:=by omega
   have hI1:=Lib.hid (HI0.out.below hB);clear hB HI0;go_wp2_with fail
   go_loopw [10,41] (fun cv iv wr=>∃(j:Nat),j≤n∧iv=.int .i64 (j:Nat)∧cv=.int .i64 (editN f g j:Nat)∧EdI w s pg pt ptg rb rp rm S #[.pointer (some ⟨pg,0,none⟩),.pointer (some ⟨pt,0,none⟩),.pointer (some ⟨rb,0,none⟩),.pointer (some ⟨lb,0,none⟩),.int .i64 (most:Nat)] g v f j wr) (fun _ iv _=>n-(intOf iv).toNat)
   case atStart=>exact ⟨0,Nat.zero_le _,rfl,rfl,hI1.out⟩
   case round=>
    obtain ⟨j,hj,rfl,rfl,hI⟩:=hrel;clear hI1
    by_cases hlt:j<n
    ·obtain ⟨ba,o,hAe,hbl,hc⟩:=HE.out (by omega)
     obtain ⟨x1,x2⟩:=hc j hlt
     have hix:=fun wx=>idx_runEd (A:=A) (m:=m) hAe hlt wx
     obtain ⟨i0,i1⟩:=Hin.out j hlt;have hAb:=HA.out ⟨ba,o,none⟩ hAe;have hI2:=hI;obtain ⟨S',E',z1,z2,z3,z4,z5,z6,z7,z8,z9⟩:=hI2
     have hbS:ba∉pg :: pt :: ptg :: rp :: rm :: S:=fun hm=>hAb (HTs.out _ (by simp only [List.mem_cons] at hm;rcases hm with e | e | e | e | e | e <;> simp [e]))
     replace x1:=keptc z8 (p:=⟨ba,o+j*2,none⟩) hbS x1;replace x2:=keptc z8 (p:=⟨ba,o+j*2+1,none⟩) hbS x2;obtain ⟨⟨x,t⟩,hxt⟩:∃z,f j=z:=⟨_,rfl⟩;rw [hxt] at x1 x2 i0 i1;simp only at x1 x2 i0 i1;obtain ⟨c,rfl⟩:=Int.eq_ofNat_of_zero_le i0;obtain ⟨ok,hok⟩:∃z,o+j*2=z:=⟨_,rfl⟩;rw [hok] at x1 x2 hix;obtain ⟨gk,hgk⟩:∃z,editG f g j=z:=⟨_,rfl⟩;obtain ⟨nk,hnk⟩:∃z,editN f g j=z:=⟨_,rfl⟩
     have hcn:c<gk.n:=by rw [←hgk,editG_n];omega
     have hnk60:nk≤60:=by have:=editN_le f g j;omega
     have e1s:(f j).1.toNat=c:=by rw [hxt];simp
     have e2s:(f j).2=t:=by rw [hxt]
     have hsame:gk.b c=t→editN f g (j+1)=nk∧(editG f g j).b (f j).1.toNat=(f j).2:=fun h=>by
      have h2:(editG f g j).b (f j).1.toNat=(f j).2:=by rw [hgk,e1s,e2s];exact h
      refine ⟨?_,h2⟩
      show editN f g j+_=nk
      rw [if_pos h2,hnk];rfl
     have hnew:¬gk.b c=t→editN f g (j+1)=nk+1∧¬(editG f g j).b (f j).1.toNat=(f j).2∧editG f g (j+1)=gset gk c t:=fun h=>by
      have h2:¬(editG f g j).b (f j).1.toNat=(f j).2:=by rw [hgk,e1s,e2s];exact h
      refine ⟨?_,h2,?_⟩
      ·show editN f g j+_=nk+1
       rw [if_neg h2,hnk]
      ·show gset (editG f g j) _ _=_
       rw [hgk,e1s,e2s]
     have hvk:0≤v+((nk:Nat):Int)∧v+((nk:Nat):Int)≤1099511627776:=by have:=Hv.out;omega
     obtain ⟨vk,hvke⟩:∃z,v+((nk:Nat):Int)=z:=⟨_,rfl⟩;rw [hvke] at hvk;rw [hgk,hnk,hvke] at z2 z3 z4;rw [hgk] at z5;have HI:=Lib.hid hI;have lS:=(Array.getElem?_eq_some_iff.1 z1).1;have lG:=z2.lt;have lT:=z3.lt;have lrb:=(Array.getElem?_eq_some_iff.1 z4.1).1;have lrp:=z4.2.1.lt;have lrm:=z4.2.2.1.lt;have lrS:=z4.2.2.1.lts;have hnd:=z6.nd;have hout:=z6.out
     have ks0:wr.cell? ⟨s,0,none⟩=some (.pointer (some ⟨pg,0,none⟩)):=by rw [Lib.cell_of_heap z1];rfl
     have ks1:wr.cell? ⟨s,1,none⟩=some (.pointer (some ⟨pt,0,none⟩)):=by rw [Lib.cell_of_heap z1];rfl
     have ks2:wr.cell? ⟨s,2,none⟩=some (.pointer (some ⟨rb,0,none⟩)):=by rw [Lib.cell_of_heap z1];rfl
     obtain ⟨b12,hb12⟩:∃z,wr.heap.size=z:=⟨_,rfl⟩;rw [hb12] at lS lG lT lrb lrp lrm lrS;simp only [List.nodup_cons,List.mem_cons,List.not_mem_nil,or_false,not_or,List.nodup_nil,and_true,not_false_eq_true] at hnd;have Hd:=Lib.hid (And.intro hnd (And.intro lS (And.intro lG (And.intro lT (And.intro lrb (And.intro lrp lrm))))));have HoS:=Lib.hid (And.intro hout lrS);have HZ:=Lib.hid (And.intro z1 (And.intro z2 (And.intro z3 (And.intro z4 (And.intro z5 (And.intro z6 (And.intro z7 z8)))))))
     have Hk:=Lib.hid ks0;have Hsame:=Lib.hid hsame;have Hnew:=Lib.hid hnew;have Hgk:=Lib.hid (And.intro hgk (And.intro hnk hvke));rw [hnk];clear hAe hbl hc hxt hok i0 i1 hAb hbS hI z1 z2 z3 z4 z5 z6 z7 z8 z9 e1s e2s hsame hnew hgk hnk hvke lS lG lT lrb lrp lrm lrS hnd hout
     go_upto_region 14 with (fail)
     refine wp_name ?_;intro W hW
     have hb1:Below wr.heap.size wr W:=by rw [hW];(repeat' (first | exact Below.refl _ _ | assumption | apply bel_drewN | apply bel_drew | apply bel_alloc | (refine bel_trans ?_ (by assumption))))
     have e0:W.cell? ⟨b12,0,none⟩=some (.int .i64 (c:Nat)):=by rw [hW,←hb12];go_simp
     have e1:W.cell? ⟨b12,1,none⟩=some (.bool t):=by rw [hW,←hb12];go_simp
     try rw [hb12]
     clear hW x1 x2 hix;have hBQ:Below wr.heap.size wr W.drew:=bel_drew hb1;have q0:W.drew.cell? ⟨s,0,none⟩=some (.pointer (some ⟨pg,0,none⟩))∧W.drew.cell? ⟨s,1,none⟩=some (.pointer (some ⟨pt,0,none⟩))∧W.drew.cell? ⟨s,2,none⟩=some (.pointer (some ⟨rb,0,none⟩))∧W.drew.cell? ⟨b12,0,none⟩=some (.int .i64 (c:Nat))∧W.drew.cell? ⟨b12,1,none⟩=some (.bool t):=⟨bel_cell hBQ ks0,bel_cell hBQ ks1,bel_cell hBQ ks2,bel_cell (bel_drew (Below.refl _ _)) e0,bel_cell (bel_drew (Below.refl _ _)) e1⟩
     clear ks0 ks1 ks2 Hk
     by_cases hst:gk.b c=t
     ·have cG : Calls Tryz.prog 57 #[.pointer (some ⟨pg, 0, none⟩), .int .i64 (c : Nat), .bool t] W.drew fun e w' => e = .returned (.tuple #[.bool false, .nilIface]) ∧ Below W.drew.heap.size W.drew w' := by
        have:=gridSet_same W.drew pg gk vk c (HZ.out.2.1.below hBQ HZ.out.2.1.lt) hcn;rw [hst] at this;exact this
      replace cG:=Lib.hid cG;obtain ⟨hN,hS2⟩:=Hsame.out hst;replace hN:=Lib.hid hN;replace hS2:=Lib.hid hS2;replace hBQ:=Lib.hid hBQ;clear hst hb1 e0 e1 hvk hcn
      go_region_held3 (fun w'=>w'.cell? ⟨s,0,none⟩=some (.pointer (some ⟨pg,0,none⟩))∧w'.cell? ⟨s,1,none⟩=some (.pointer (some ⟨pt,0,none⟩))∧w'.cell? ⟨s,2,none⟩=some (.pointer (some ⟨rb,0,none⟩))∧w'.cell? ⟨b12,0,none⟩=some (.int .i64 (c:Nat))∧w'.cell? ⟨b12,1,none⟩=some (.bool t))
       (first
        | exact q0)
       (first
        | (go_at_call 57
           refine cG.out.mono ?_;rintro e w2 ⟨rfl,hb2⟩;have q0:w2.cell? ⟨s,0,none⟩=some (.pointer (some ⟨pg,0,none⟩))∧w2.cell? ⟨s,1,none⟩=some (.pointer (some ⟨pt,0,none⟩))∧w2.cell? ⟨s,2,none⟩=some (.pointer (some ⟨rb,0,none⟩))∧w2.cell? ⟨b12,0,none⟩=some (.int .i64 (c:Nat))∧w2.cell? ⟨b12,1,none⟩=some (.bool t):=⟨bel_cell hb2 q0.1,bel_cell hb2 q0.2.1,bel_cell hb2 q0.2.2.1,bel_cell hb2 q0.2.2.2.1,bel_cell hb2 q0.2.2.2.2⟩))
      have hF:=Lib.hid (HI.out.same (bel_trans hBQ.out hb2) hS2.out);clear q0 hb2 cG hBQ;go_wp2;go_roundw
      case rel=>first | exact ⟨j+1,by omega,by go_num,by rw [hN.out],hF.out⟩ | ((repeat apply Exists.intro);exact ⟨⟨j+1,by omega,by go_num,by rw [hN.out],hF.out⟩,rfl⟩)
      case measure=>simp [intOf];omega
     ·have ht:gk.b c=!t:=by cases h:gk.b c <;> cases t <;> simp_all
      have cG:=Lib.hid (gridSet_new W.drew pg gk vk c t (HZ.out.2.1.below hBQ HZ.out.2.1.lt) hcn ht hvk);obtain ⟨hN,hS2,hG2⟩:=Hnew.out hst;replace hN:=Lib.hid hN;replace hS2:=Lib.hid hS2;replace hG2:=Lib.hid hG2;replace hBQ:=Lib.hid hBQ;replace ht:=Lib.hid ht;clear hst hb1 e0 e1
      go_region_held3 (fun w'=>w'.cell? ⟨s,0,none⟩=some (.pointer (some ⟨pg,0,none⟩))∧w'.cell? ⟨s,1,none⟩=some (.pointer (some ⟨pt,0,none⟩))∧w'.cell? ⟨s,2,none⟩=some (.pointer (some ⟨rb,0,none⟩))∧w'.cell? ⟨b12,0,none⟩=some (.int .i64 (c:Nat))∧w'.cell? ⟨b12,1,none⟩=some (.bool t))
       (first
        | exact q0
        | exact q1)
       (first
        | (go_at_call 57
           refine cG.out.mono ?_;rintro e w2 ⟨rfl,g1,k1⟩
           have q1:w2.cell? ⟨s,0,none⟩=some (.pointer (some ⟨pg,0,none⟩))∧w2.cell? ⟨s,1,none⟩=some (.pointer (some ⟨pt,0,none⟩))∧w2.cell? ⟨s,2,none⟩=some (.pointer (some ⟨rb,0,none⟩))∧w2.cell? ⟨b12,0,none⟩=some (.int .i64 (c:Nat))∧w2.cell? ⟨b12,1,none⟩=some (.bool t):=⟨keptc k1 (by have:=Hd.out;simp;omega) q0.1,keptc k1 (by have:=Hd.out;simp;omega) q0.2.1,keptc k1 (by have:=Hd.out;simp;omega) q0.2.2.1,keptc k1 (by have:=Hd.out;simp;omega) q0.2.2.2.1,keptc k1 (by have:=Hd.out;simp;omega) q0.2.2.2.2⟩))
      have K1:=(Kept.of_below (S:=[pg]) hBQ.out).trans k1
      have T2:=HZ.out.2.2.1.kept K1 (by have:=Hd.out;simp;omega) (by have:=Hd.out;simp;omega)
      have R2:=graph_kept HZ.out.2.2.2.1 K1 (by have:=Hd.out;simp;omega) (by have:=Hd.out;simp;omega) (by have:=Hd.out;simp;omega) (fun q hq=>by have:=HoS.out.1 q hq;simp at this ⊢;omega)
      replace K1:=Lib.hid K1;replace R2:=Lib.hid R2;have g1:=Lib.hid g1;obtain ⟨f2,t1,t2,t3⟩:=T2;have l12:b12<w2.heap.size:=World.block_lt_of_cell? w2 (a:=⟨b12,0,none⟩) q1.2.2.2.1;have d2:=bel_drew (Below.refl w2.heap.size w2)
      have cT:=Lib.hid (tabSet_new w2.drew pt ptg f2 gk vk c t (t1.below d2 t1.lt) (t2.below d2 t2.lt) (by have:=Hd.out;omega) t3 hcn ht.out hvk)
      have q2:w2.drew.cell? ⟨s,0,none⟩=some (.pointer (some ⟨pg,0,none⟩))∧w2.drew.cell? ⟨s,1,none⟩=some (.pointer (some ⟨pt,0,none⟩))∧w2.drew.cell? ⟨s,2,none⟩=some (.pointer (some ⟨rb,0,none⟩))∧w2.drew.cell? ⟨b12,0,none⟩=some (.int .i64 (c:Nat))∧w2.drew.cell? ⟨b12,1,none⟩=some (.bool t):=⟨bel_cell d2 q1.1,bel_cell d2 q1.2.1,bel_cell d2 q1.2.2.1,bel_cell d2 q1.2.2.2.1,bel_cell d2 q1.2.2.2.2⟩;have hw2:=Lib.hid (k1.size)
      clear q0 k1 t1 t2 t3 cG hBQ d2;go_wp2
      go_upto_region 16 with (fail)
      go_region_held3 (fun w'=>w'.cell? ⟨s,0,none⟩=some (.pointer (some ⟨pg,0,none⟩))∧w'.cell? ⟨s,1,none⟩=some (.pointer (some ⟨pt,0,none⟩))∧w'.cell? ⟨s,2,none⟩=some (.pointer (some ⟨rb,0,none⟩))∧w'.cell? ⟨b12,0,none⟩=some (.int .i64 (c:Nat))∧w'.cell? ⟨b12,1,none⟩=some (.bool t))
       (first
        | exact q2
        | exact q3
        | exact q1)
       (first
        | (go_at_call 58
           refine cT.out.mono ?_;rintro e w3 ⟨rfl,f3,u1,u2,u3,k2⟩
           have q3:w3.cell? ⟨s,0,none⟩=some (.pointer (some ⟨pg,0,none⟩))∧w3.cell? ⟨s,1,none⟩=some (.pointer (some ⟨pt,0,none⟩))∧w3.cell? ⟨s,2,none⟩=some (.pointer (some ⟨rb,0,none⟩))∧w3.cell? ⟨b12,0,none⟩=some (.int .i64 (c:Nat))∧w3.cell? ⟨b12,1,none⟩=some (.bool t):=⟨keptc k2 (by have:=Hd.out;simp;omega) q2.1,keptc k2 (by have:=Hd.out;simp;omega) q2.2.1,keptc k2 (by have:=Hd.out;simp;omega) q2.2.2.1,keptc k2 (by have:=Hd.out;simp;omega) q2.2.2.2.1,keptc k2 (by have:=Hd.out;simp;omega) q2.2.2.2.2⟩))
      have K2:=(Kept.of_below (S:=[pt,ptg]) (bel_drew (Below.refl w2.heap.size w2))).trans k2
      have R3:=graph_kept R2.out K2 (by have:=Hd.out;simp;omega) (by have:=Hd.out;simp;omega) (by have:=Hd.out;simp;omega) (fun q hq=>by have:=HoS.out.1 q hq;simp at this ⊢;omega)
      have d3:=bel_drew (Below.refl w3.heap.size w3);have cR:=Lib.hid (graphSet_new w3.drew rb rp rm S' gk vk E' c t (R3.below d3) HZ.out.2.2.2.2.1 hcn ht.out hvk);have T3:TabFull w3 pt ptg (gset gk c t) (vk+1):=⟨f3,u1,u2,u3⟩;replace T3:=Lib.hid T3;replace K2:=Lib.hid K2;have q4:w3.drew.cell? ⟨s,0,none⟩=some (.pointer (some ⟨pg,0,none⟩))∧w3.drew.cell? ⟨s,1,none⟩=some (.pointer (some ⟨pt,0,none⟩))∧w3.drew.cell? ⟨s,2,none⟩=some (.pointer (some ⟨rb,0,none⟩))∧w3.drew.cell? ⟨b12,0,none⟩=some (.int .i64 (c:Nat))∧w3.drew.cell? ⟨b12,1,none⟩=some (.bool t):=⟨bel_cell d3 q3.1,bel_cell d3 q3.2.1,bel_cell d3 q3.2.2.1,bel_cell d3 q3.2.2.2.1,bel_cell d3 q3.2.2.2.2⟩
      have nS:s∉rp :: rm :: S':=by
       have:=Hd.out;simp only [List.mem_cons,not_or]
       exact ⟨by omega,by omega,fun hm=>HoS.out.1 s hm (by simp)⟩
      have nB:b12∉rp :: rm :: S':=by
       have:=Hd.out;simp only [List.mem_cons,not_or]
       exact ⟨by omega,by omega,fun hm=>by have:=HoS.out.2 b12 hm;omega⟩
      replace nS:=Lib.hid nS;replace nB:=Lib.hid nB;clear q1 q2 k2 u1 u2 u3 cT d3 R3
      go_upto_region 17 with (fail)
      go_region_held3 (fun w'=>w'.cell? ⟨s,0,none⟩=some (.pointer (some ⟨pg,0,none⟩))∧w'.cell? ⟨s,1,none⟩=some (.pointer (some ⟨pt,0,none⟩))∧w'.cell? ⟨s,2,none⟩=some (.pointer (some ⟨rb,0,none⟩))∧w'.cell? ⟨b12,0,none⟩=some (.int .i64 (c:Nat))∧w'.cell? ⟨b12,1,none⟩=some (.bool t))
       (first
        | exact q4
        | exact q5
        | exact q3)
       (first
        | (go_at_call 59
           refine cR.out.mono ?_;rintro e w4 ⟨rfl,S4,E4,g3,g4,g5,k3⟩;have q5:w4.cell? ⟨s,0,none⟩=some (.pointer (some ⟨pg,0,none⟩))∧w4.cell? ⟨s,1,none⟩=some (.pointer (some ⟨pt,0,none⟩))∧w4.cell? ⟨s,2,none⟩=some (.pointer (some ⟨rb,0,none⟩))∧w4.cell? ⟨b12,0,none⟩=some (.int .i64 (c:Nat))∧w4.cell? ⟨b12,1,none⟩=some (.bool t):=⟨keptc k3 nS.out q4.1,keptc k3 nS.out q4.2.1,keptc k3 nS.out q4.2.2.1,keptc k3 nB.out q4.2.2.2.1,keptc k3 nB.out q4.2.2.2.2⟩))
      have K3:=(Kept.of_below (S:=rp :: rm :: S') (bel_drew (Below.refl w3.heap.size w3))).trans k3
      have hF:EdI w s pg pt ptg rb rp rm S #[.pointer (some ⟨pg,0,none⟩),.pointer (some ⟨pt,0,none⟩),.pointer (some ⟨rb,0,none⟩),.pointer (some ⟨lb,0,none⟩),.int .i64 (most:Nat)] g v f (j+1) w4:=by
       obtain ⟨z1,z2,z3,z4,z5,z6,z7,z8⟩:=HZ.out;obtain ⟨e1,e2,e3⟩:=Hgk.out
       refine EdI.next hS2.out z1 (by rw [e1,e2,e3];exact z4) z6 z7 z8 (w1:=w2) (w2:=w3) (by rw [hG2.out,e2,e3];exact g1.out) K1.out (by rw [hG2.out,e2,e3];exact T3.out) K2.out (by rw [hG2.out,e2,e3];exact g3) (by rw [hG2.out];exact g4) g5 K3
      replace hF:=Lib.hid hF;clear q3 q4 q5 k3 g1 g3 g4 g5 K1 K2 K3 R2 T3 cR hw2;go_wp2;go_roundw
      case rel=>first | exact ⟨j+1,by omega,by go_num,by rw [hN.out];go_num,hF.out⟩ | ((repeat apply Exists.intro);exact ⟨⟨j+1,by omega,by go_num,by rw [hN.out];go_num,hF.out⟩,rfl⟩)
      case measure=>simp [intOf];omega
    ·obtain rfl:n=j:=by omega
     obtain ⟨nk,hnk⟩:∃z,editN f g n=z:=⟨_,rfl⟩;rw [hnk]
     by_cases h0:nk=0
     ·have hb0 : Below w.heap.size w wr := by
        obtain ⟨_,_,_,_,_,_,_,_,_,_,h9⟩:=hI
        exact h9 (by rw [hnk,h0])
      have hF:EditD w s g v most T f n (.returned (.tuple #[.int .i64 (0:Nat),.nilIface])) wr:=by
       have e1:editN f g n=0:=by rw [hnk,h0]
       refine ⟨by rw [e1],T,?_,fun k hk=>.inl hk,.of_below hb0⟩
       rw [e1,editN_zero e1]
       simpa using HSv.out.below hb0
      replace hF:=Lib.hid hF;subst h0;clear hI hb0 hnk;go_wp2_with fail;go_ret2;exact hF.out
     ·have h1:0<nk:=by omega
      have hI2:=hI;obtain ⟨S',E',z1,z2,z3,z4,z5,z6,z7,z8,z9⟩:=hI2
      have ks2:wr.cell? ⟨s,2,none⟩=some (.pointer (some ⟨rb,0,none⟩)):=by rw [Lib.cell_of_heap z1];rfl
      have ks4:wr.cell? ⟨s,4,none⟩=some (.int .i64 (most:Nat)):=by rw [Lib.cell_of_heap z1];rfl
      have fs3:wr.frozen? ⟨s,3,none⟩=false:=Lib.frozen_of_heap z1 3
      have ks3:wr.cell? ⟨s,3,none⟩=some (.pointer (some ⟨lb,0,none⟩)):=by rw [Lib.cell_of_heap z1];rfl
      have lS:=(Array.getElem?_eq_some_iff.1 z1).1;have d:=bel_drew (Below.refl wr.heap.size wr);have cL:=Lib.hid (lvNew_ok wr.drew rb rp rm S' (editG f g n) _ E' most (z4.below d) z5 Hm.out.1 Hm.out.2);have HI:=Lib.hid hI
      have hnk60:nk≤60:=by have:=editN_le f g n;omega
      have hdec:decide (0<((nk:Nat):Int))=true:=by simp;omega
      replace hnk:=Lib.hid hnk;have q0:wr.drew.cell? ⟨s,2,none⟩=some (.pointer (some ⟨rb,0,none⟩))∧wr.drew.cell? ⟨s,4,none⟩=some (.int .i64 (most:Nat)):=⟨bel_cell d ks2,bel_cell d ks4⟩;clear hI z1 z2 z3 z4 z5 z6 z7 z8 z9
      have ko2:=Lib.hid (fun (X:World) (u:Value)=>World.cell?_setCell_other (w:=X) (a:=⟨s,3,none⟩) (b:=⟨s,2,none⟩) (v:=u) (by intro e;injection e with e1 e2;omega))
      have ko4:=Lib.hid (fun (X:World) (u:Value)=>World.cell?_setCell_other (w:=X) (a:=⟨s,3,none⟩) (b:=⟨s,4,none⟩) (v:=u) (by intro e;injection e with e1 e2;omega))
      have Hks:=Lib.hid (And.intro ks3 fs3)
      go_upto_region 21 with (fail)
      clear ks2 ks3 ks4 fs3
      go_region_held3 (fun w'=>w'.cell? ⟨s,2,none⟩=some (.pointer (some ⟨rb,0,none⟩))∧w'.cell? ⟨s,4,none⟩=some (.int .i64 (most:Nat)))
       (first
        | with_reducible exact q0
        | with_reducible exact q1
        | (simp only [ko2.out,ko4.out];exact q1))
       (first
        | (go_at_call 60
           refine cL.out.mono ?_;rintro e w4 ⟨bl,ml,me,Sb',nl',rfl,hL,hge,hb4⟩;have q1:w4.cell? ⟨s,2,none⟩=some (.pointer (some ⟨rb,0,none⟩))∧w4.cell? ⟨s,4,none⟩=some (.int .i64 (most:Nat)):=⟨bel_cell hb4 q0.1,bel_cell hb4 q0.2⟩;have k3:=bel_cell (bel_trans d hb4) Hks.out.1;have f3:=(((bel_trans d hb4).frozen (p:=⟨s,3,none⟩) lS).trans Hks.out.2)))
      have hF:=HI.out.fin HTs.out Hm.out.1 Hm.out.2 HT.out hL hge (bel_trans d hb4) rfl;rw [hnk.out] at hF;replace hF:=Lib.hid hF;clear q0 q1 k3 f3 hL hge hb4 cL d;go_wp2;go_ret2;exact hF.out
def edtC (e:Int×Bool):List Value:=[.int .i64 e.1,.bool e.2]
def edtL (L:List (Int×Bool)):List Value:=L.flatMap edtC
theorem edtL_get (L:List (Int×Bool)):∀(k:Nat) (e:Int×Bool),L[k]? = some e→(edtL L)[k*2]? = some (.int .i64 e.1)∧(edtL L)[k*2+1]? = some (.bool e.2):=by
 induction L with
 | nil=>intro k e h;simp at h
 | cons x L ih=>
  intro k e h
  cases k with
  | zero=>simp at h;subst h;simp [edtL,edtC]
  | succ k=>
   obtain ⟨h1,h2⟩:=ih k e (by simpa using h)
   have e1:(k+1)*2=k*2+1+1:=by omega
   rw [e1]
   simp only [edtL,List.flatMap_cons,edtC,List.cons_append,List.nil_append,List.getElem?_cons_succ] at h1 h2 ⊢
   exact ⟨h1,h2⟩
def OwnEd (w:World) (B:Nat) (v:Value) (L:List (Int×Bool)):Prop:=w.ownsRow B 64 2 v L.length (edtL L)
theorem OwnEd.nil (w:World) (B:Nat):OwnEd w B (.slice none 0 0) []:=⟨rfl,.inl ⟨rfl,rfl⟩⟩
theorem OwnEd.below {w w':World} {B:Nat} {v:Value} {L:List (Int×Bool)} (h:OwnEd w B v L) (hb:Below w.heap.size w w'):OwnEd w' B v L:=
 World.ownsRow.kept (row:=none) h ⟨hb.os,hb.tape,hb.output,hb.size,fun k hk _=>hb.block k hk⟩ (by cases hv:v.ownBlock <;> simp)
theorem OwnEd.edits {w:World} {B:Nat} {v:Value} {L:List (Int×Bool)} (h:OwnEd w B v L):∃A m,v=.slice A L.length m∧EditsAt w A L.length (fun k=>L.getD k (0,false))∧∀ad,A=some ad→B≤ad.block∧ad.block<w.heap.size:=by
 have hl:=fun k (hk:v.ownBlock=some k)=>World.ownsRow.lt h k hk
 rcases h.2 with ⟨rfl,hn⟩ | ⟨g,cap,cur,rfl,hg,hh,hc,hm,hs,ht⟩
 ·rw [hn];exact ⟨none,0,rfl,fun h=>absurd h (by omega),fun ad e=>by cases e⟩
 ·refine ⟨_,cap,rfl,fun _=>⟨g,0,rfl,(Array.getElem?_eq_some_iff.1 hh).1,fun k hk=>?_⟩,fun ad e=>by cases e;exact hl g rfl⟩
  obtain ⟨h1,h2⟩:=edtL_get L k _ (List.getElem?_eq_getElem hk)
  have e1:L.getD k (0,false)=L[k]:=by simp [List.getD,hk]
  simp only [e1];have q1:=World.ownsRow.cells h (g:=g) rfl (k*2) _ h1;have q2:=World.ownsRow.cells h (g:=g) rfl (k*2+1) _ h2;rw [Addr.add_lit,Nat.zero_add] at q1 q2;rw [Nat.zero_add];exact ⟨q1,q2⟩
theorem edt_info:(Tryz.prog.info? 64).map (fun i=>(i.zero.map fun z=>z.cells.size,i.size,i.bytes))=some (some 2,2,16):=by kernel_rfl
theorem edt_parts:∃i z,Tryz.prog.info? 64=some i∧i.zero=some z∧i.size=2∧i.bytes=16∧z.cells.size=2:=by
 obtain ⟨i,hi,h⟩:=Option.map_eq_some_iff.1 edt_info;simp only [Prod.mk.injEq] at h;obtain ⟨h1,h2,h3⟩:=h;obtain ⟨z,hz,h4⟩:=Option.map_eq_some_iff.1 h1;exact ⟨i,z,hi,hz,h2,h3,h4⟩
theorem wpList_append_EdA {ops : Array Oper} {rest : List Oper} {o : Oper} {a : Act} {Q : Exit → Act → World → Prop} (w : World) (hgd : o.guard = none) (s x : Operand)
    (ho:o.op=.call { callee:=.builtin .append,args:=#[s,x],argTypes:=#[62,62] })
    (B:Nat) (v:Value) (L:List (Int×Bool)) (e:Int×Bool) (hs:a.eval s=v) (hown:OwnEd w B v L) (ad:Addr) (hx:a.eval x=.slice (some ad) 1 1)
    (hc0:w.cell? ad=some (.int .i64 e.1)) (hc1:w.cell? (ad.add 1)=some (.bool e.2)) (hl:L.length≤100000) (hB:B≤w.heap.size)
    (h:∀v' w',OwnEd w' B v' (L ++ [e])→w.grownBy w' v.ownBlock→(v'.ownBlock=v.ownBlock∨v'.ownBlock=some w.heap.size)→wpList Tryz.prog ops Q rest (a.put o.dst v') w'):wpList Tryz.prog ops Q (o :: rest) a w:=by
 obtain ⟨i0,z0,hi,hz0,hz1,hz2,hz3⟩:=edt_parts
 refine wpList_append_own_at w hgd s x 62 ho B 64 i0 z0 2 16 Tryz.underlying62 hi hz0 hz1 hz2 hz3 (by decide) v L.length (edtL L) hs hown ad 1 1 (edtC e) hx rfl ?_ ?_ ?_ ?_ hB ?_
 ·intro j u hu
  match j with
  | 0=>simp [edtC] at hu;subst hu;simpa [Addr.add] using hc0
  | 1=>simp [edtC] at hu;subst hu;exact hc1
  | j+2=>simp [edtC] at hu
 ·intro u hu
  simp [edtC] at hu
  rcases hu with rfl | rfl <;> rfl
 ·unfold maxLen;omega
 ·omega
 ·intro v' w' h1 h2 _ h4
  refine h v' w' ?_ h2 h4;unfold OwnEd;rw [List.length_append]
  have:edtL (L ++ [e])=edtL L ++ edtC e:=by simp [edtL]
  rw [this];exact h1
theorem below_grownEd {B:Nat} {W w w':World} {v:Value} {L:List (Int×Bool)} (hB:Below B W w) (hs:B≤w.heap.size) (h:OwnEd w B v L) (hg:w.grownBy w' v.ownBlock):Below B W w':=
 hB.grown hg hs (fun k hk=>(World.ownsRow.lt h k hk).1)
theorem step_append_Ed {ops : Array Oper} {o : Oper} {a : Act} {w : World} {K : Act → World → Prop} {Q : Exit → Act → World → Prop} {X : Prop} (hg : o.guard = none) (s x : Operand)
    (ho:o.op=.call { callee:=.builtin .append,args:=#[s,x],argTypes:=#[62,62] }) (B:Nat) (v:Value) (L:List (Int×Bool)) (e:Int×Bool) (hs:a.eval s=v) (hown:OwnEd w B v L) (ad:Addr) (hx:a.eval x=.slice (some ad) 1 1)
    (hc:∀j u,(edtC e)[j]? = some u→w.cell? (ad.add j)=some u) (hl:L.length≤100000) (hB:B≤w.heap.size)
    (h:∀v' w',OwnEd w' B v' (L ++ [e])→w.grownBy w' v.ownBlock→(v'.ownBlock=v.ownBlock∨v'.ownBlock=some w.heap.size)→K (a.put o.dst v') w'):if Region.wanted o (yielded ops a.tmps)=true then Oper.wp Tryz.prog o a w K Q else X:=by
 obtain ⟨i0,z0,hi,hz0,hz1,hz2,hz3⟩:=edt_parts
 obtain ⟨v',w',hr,h2,h3,h4,h5⟩:=run_append_own_at (P:=Tryz.prog) w B 62 o.type 64 i0 z0 2 16 Tryz.underlying62 hi hz0 hz1 hz2 hz3 (by decide) v L.length (edtL L) hown ad 1 1 (edtC e) rfl hc (by
  intro u hu;simp [edtC] at hu
  rcases hu with rfl | rfl <;> rfl) (by unfold maxLen;omega) (by omega) hB
 have hw:Region.wanted o (yielded ops a.tmps)=true:=by simp [Region.wanted,hg]
 rw [if_pos hw];unfold Oper.wp
 have hO:OwnEd w' B v' (L ++ [e]):=by
  unfold OwnEd;rw [List.length_append]
  have:edtL (L ++ [e])=edtL L ++ edtC e:=by simp [edtL]
  rw [this];exact h2
 simp [execOp,ho,resolve,invoke,builtin,hs,hx,hr,Result.andThen];exact h v' w' hO h3 h5
theorem new_edt {w:World} {b:Nat} {e:Int×Bool} {T:TypeId} (h:w.heap[b]? = some (.cells #[.int .i64 e.1,.bool e.2] T (0,0))):∀j u,(edtC e)[j]? = some u→w.cell? ((⟨b,0,none⟩:Addr).add j)=some u:=by
 intro j u hj;rw [Addr.add_lit,Nat.zero_add,Lib.cell_of_heap h]
 simpa [edtC] using hj
end Go.Proofs.YtokhnobcincfjaaGreatDoor
