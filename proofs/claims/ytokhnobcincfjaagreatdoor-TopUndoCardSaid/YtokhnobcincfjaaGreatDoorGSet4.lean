/- Lemmas of this claim: GSet4. -/
import Derived.Test.YtokhnobcincfjaaGreatDoorKNUn18
import Derived.Deep.DeepCutAuto
set_option linter.unusedVariables false
set_option linter.unusedSimpArgs false
set_option maxHeartbeats 6400000
set_option maxRecDepth 100000
namespace Go.Proofs.YtokhnobcincfjaaGreatDoor
open Go.RowKit Go.Sort FR
theorem PairI.row {w wr:World} {b p mb:Nat} {S:List Nat} {g g':G} {v:Int} {c:Nat} {nx ny:Int} {bl:List Nat} {i j:Nat} (h:PairI w b p mb S g g' v c nx ny bl i j wr) (hj:(cornersI g').length≤j):PairI w b p mb S g g' v c nx ny bl (i+1) (i+2) wr:=by
 obtain ⟨S',E',h1,h2,h3,h4,h5⟩:=h
 refine ⟨S',E',h1,h2.congr (fun _=>Iff.rfl) (fun a b _ _ _=>?_) (fun _ _=>rfl),h3,h4,h5⟩
 unfold PairD;rw [dn_row hj a b]
theorem Ints.same {w w':World} {A:Option Addr} {n:Nat} {f:Nat→Int} (h:Ints w A n f) (hq:∀ad,A=some ad→w'.heap[ad.block]? = w.heap[ad.block]?) (hs:w.heap.size≤w'.heap.size):Ints w' A n f:=by
 intro hn;obtain ⟨ad,e,hl,hc⟩:=h hn
 refine ⟨ad,e,Nat.lt_of_lt_of_le hl hs,fun k hk=>?_⟩
 exact (World.cell?_of_block (a:=ad.add k) (by rw [add_block];exact hq ad e)).trans (hc k hk)
def SameBl (w3 wr:World) (bl:List Nat):Prop:=(∀q∈bl,wr.heap[q]? = w3.heap[q]?)∧w3.heap.size≤wr.heap.size
theorem SameBl.kept {w3 wr w':World} {bl T:List Nat} (h:SameBl w3 wr bl) (hl:∀q∈bl,q<w3.heap.size) (hk:Kept T wr w') (hT:∀q∈bl,q∉T):SameBl w3 w' bl:=
 ⟨fun q hq=>(hk.block q (Nat.lt_of_lt_of_le (hl q hq) h.2) (hT q hq)).trans (h.1 q hq),Nat.le_trans h.2 hk.size⟩
theorem PairI.anew {w wr w4 w5 : World} {b p mb : Nat} {S S1 S2 S3 : List Nat} {g g' : G} {v : Int} {c : Nat} {nx ny : Int} {bl : List Nat} {i j : Nat} {E5 : Int → Option (List Ed)} (hij : i < j) (hj : j < (cornersI g').length)
    (h3:∀k∈S1,k∈S∨w.heap.size≤k) (h4:Kept (p :: mb :: S) w wr) (h5:∀q∈bl,q∉b :: p :: mb :: S1) (hl:∀q∈bl,q<wr.heap.size)
    (a1:∀k∈S2,k∈S1∨wr.heap.size≤k) (a2:Kept (mb :: S1) wr w4) (b0:GraphOf w5 b p mb S3 g' v E5) (b1:GSp g' g'.Corner (fun x y=>(PairD g g' c nx ny i j x y∧¬Pr (cf g' i) (cf g' j) x y)∨(Pr (cf g' i) (cf g' j) x y∧g'.Direct x y)) E5) (b2:∀k∈S3,k∈S2∨w4.heap.size≤k) (b3:Kept (mb :: S2) w4 w5) :
    PairI w b p mb S g g' v c nx ny bl i (j+1) w5:=by
 have m1:=more_more h4.size h3 a1;have k1:=kept_more' h4 a2 h3;have m2:=more_more k1.size m1 b2;have k2:=kept_more' k1 b3 m1
 refine ⟨S3,E5,b0,b1.congr (fun _=>Iff.rfl) (fun x y _ _ _=>pair_step hij hj x y) (fun _ _=>rfl),m2,k2,fun q hq hm=>?_⟩
 have hlt:=hl q hq;have hno:=h5 q hq;have hs:=a2.size
 rcases List.mem_cons.1 hm with r | hm
 ·exact hno (by simp [r])
 rcases List.mem_cons.1 hm with r | hm
 ·exact hno (by simp [r])
 rcases List.mem_cons.1 hm with r | hm
 ·exact hno (by simp [r])
 rcases b2 q hm with r | r
 ·rcases a1 q r with r | r
  ·exact hno (by simp [r])
  ·omega
 ·omega
theorem graphSet_new (w : World) (b p mb : Nat) (S : List Nat) (g : G) (v : Int) (E : Int → Option (List Ed)) (c : Nat) (t : Bool) (h : GraphOf w b p mb S g v E) (hS : GSpec g (fun _ _ => True) E) (hc : c < g.n) (ht : g.b c = !t) (hv : 0 ≤ v ∧ v ≤ 1099511627776) :
    Calls Tryz.prog 59 #[.pointer (some ⟨b,0,none⟩),.int .i64 (c:Nat),.bool t] w (SetGD w b p mb S (gset g c t) (v+1)):=by
 have hg:=h.2.1;have hok:=hg.1;have hNn:=G.n_le hok
 have kb0:w.cell? ⟨b,0,none⟩=some (.pointer (some ⟨p,0,none⟩)):=by simp [World.cell?,h.1]
 have cS:=Lib.hid (gridSet_new w p g v c t hg hc ht hv);have H:=Lib.hid h;have HS:=Lib.hid hS;obtain ⟨g',hg'⟩:∃z,gset g c t=z:=⟨_,rfl⟩
 have hbut:G.But g g' (g.X c) (g.Y c):=by rw [←hg'];exact G.but_set hc
 have hn':g'.n=g.n:=hbut.n;have hok':g'.ok:=hbut.ok hok
 rw [hg'] at cS ⊢
 have Hbut:=Lib.hid hbut;have Hok:=Lib.hid (And.intro hok hok');obtain ⟨o1,o2,o3,o4⟩:=hok;have xX:=G.X_lt Hok.out.1 c;have yY:=G.Y_lt hc;clear h hS ht hg hg' hbut hok';go_enter Tryz.func59,Tryz.ntmps59;go_wp2_with fail
 (refine cS.out.mono ?_)
 rintro e w1 ⟨rfl,hG1,hK1⟩;have hbp:b≠p:=H.out.2.2.2.2.2.2.2
 have kb0:=keptc hK1 (by simpa using hbp) kb0
 have hGr1:GraphOf w1 b p mb S g' (v+1) E:=by
  obtain ⟨g1,g2,g3,g4,g5,g6,g7,g8⟩:=H.out
  refine ⟨(hK1.block b (Array.getElem?_eq_some_iff.1 g1).1 (by simpa using hbp)).trans g1,hG1,g3.kept hK1 (fun s hs=>by simp;rintro rfl;exact g5 hs) (by simpa using Ne.symm g7),g4,g5,g6,g7,g8⟩
 have cP:=Lib.hid (gridPlace_in w1 p g' (v+1) c hG1 (by omega))
 rw [Hbut.out.X,Hbut.out.Y] at cP;obtain ⟨X,hX⟩:∃X:Int,((g.X c:Nat):Int)=X:=⟨_,rfl⟩;obtain ⟨Y,hY⟩:∃Y:Int,((g.Y c:Nat):Int)=Y:=⟨_,rfl⟩
 have X0:0≤X:=by omega
 have X1:X≤16:=by omega
 have Y0:0≤Y:=by omega
 have Y1:Y≤16:=by omega
 rw [hX,hY] at cP;have HX:=Lib.hid hX;have HY:=Lib.hid hY;have HGr1:=Lib.hid hGr1;have HK1:=Lib.hid hK1;clear hX hY hG1 hGr1 hK1 cS;go_wp2_with fail
 (with_reducible refine cP.out.mono ?_)
 rintro e w2 ⟨rfl,hb2⟩;have hbs:=hb2.size;have hks:=HK1.out.size
 have hstart:SetI w b p mb S g g' (v+1) c (X-1) (Y-1) (.slice none 0 0) w2:=by
  refine ⟨S,E,[],HGr1.out.below hb2,HS.out.sp.congr (fun z=>?_) (fun x y _ _ _=>?_) (fun x y=>Hbut.out.oct x y),fun k hk=>.inl hk,(HK1.out.wid (by simp)).trans (Kept.of_below hb2),OwnI.nil _ _,?_,?_⟩
  ·unfold G.PN
   have:=G.Pd_start (g:=g) (c:=c) (z:=z);rw [HX.out,HY.out] at this
   exact ⟨fun hz=>⟨hz.1,.inr ⟨this,hz⟩⟩,fun hz=>(hz.2.resolve_left (fun q=>this q.1)).2⟩
  ·unfold G.PD
   have q1:=G.Pd_start (g:=g) (c:=c) (z:=x);have q2:=G.Pd_start (g:=g) (c:=c) (z:=y);rw [HX.out,HY.out] at q1 q2
   exact ⟨fun hz=>⟨hz.2,fun r=>absurd r q1,fun r=>absurd r q2⟩,fun hz=>⟨trivial,hz.1⟩⟩
  ·rw [HX.out,HY.out];simp;omega
  ·intro q hq;simp [Value.ownBlock] at hq
 clear hb2 kb0 cP HGr1 HK1 hbs hks;go_wp2_with fail;obtain ⟨wz,rfl⟩:∃wz:World,wz=w2:=⟨_,rfl⟩
 go_loopw [13,14] (fun fv nyv wr=>∃ny:Int,nyv=.int .i64 ny∧Y-1≤ny∧ny≤Y+2∧SetI w b p mb S g g' (v+1) c (X-1) ny fv wr) (fun _ nyv _=>(Y+2-intOf nyv).toNat)
 case atStart=>exact ⟨Y-1,rfl,by omega,by omega,hstart⟩
 case round=>
  obtain ⟨ny,rfl,hy1,hy2,hI⟩:=hrel;have HI:=Lib.hid hI;clear hstart hI
  by_cases hlt:ny≤Y+1
  ·have hstart2:=HI.out
   clear HI;go_wp2_with fail;obtain ⟨wo,rfl⟩:∃wo:World,wo=wr:=⟨_,rfl⟩
   go_loopw [13,15] (fun fv nxv wr=>∃nx:Int,nxv=.int .i64 nx∧X-1≤nx∧nx≤X+2∧SetI w b p mb S g g' (v+1) c nx ny fv wr) (fun _ nxv _=>(X+2-intOf nxv).toNat)
   case atStart=>exact ⟨X-1,rfl,by omega,by omega,hstart2⟩
   case round=>
    obtain ⟨nx,rfl,hx1,hx2,hI⟩:=hrel;have HI:=Lib.hid hI;clear hstart2 hI
    by_cases hlx:nx≤X+1
    ·obtain ⟨S1,E1,zs,h1,h2,h3,h4,h5,h6,h7⟩:=HI.out
     have kb0:wr.cell? ⟨b,0,none⟩=some (.pointer (some ⟨p,0,none⟩)):=by simp [World.cell?,h1.1]
     by_cases hin:0≤nx∧nx<g.w∧0≤ny∧ny<g.h
     ·obtain ⟨i1,i2,i3,i4⟩:=hin
      obtain ⟨k,hk⟩:∃k,g.cell nx.toNat ny.toNat=k:=⟨_,rfl⟩
      have hkx:(g.X k:Int)=nx:=by rw [←hk,G.X_cell (by omega)];omega
      have hky:(g.Y k:Int)=ny:=by rw [←hk,G.Y_cell (by omega)];omega
      have hkn:k<g.n:=by rw [←hk];exact G.cell_lt (by omega) (by omega)
      have hkv:ny*(g'.w:Int)+nx=(k:Nat):=by
       rw [Hbut.out.w,←hk];unfold G.cell
       obtain ⟨a,ha⟩:∃a:Nat,nx=a:=⟨nx.toNat,by omega⟩
       obtain ⟨d,hd⟩:∃d:Nat,ny=d:=⟨ny.toNat,by omega⟩
       subst ha;subst hd;simp
      have cC:=gridCell_in wr p g' (v+1) nx ny h1.2.1 i1 (by rw [Hbut.out.w];exact i2) i3 (by rw [Hbut.out.h];exact i4)
      rw [hkv] at cC;have cC:=Lib.hid cC
      have cT:=Lib.hid (graphTurn wr b p mb S1 g' (v+1) E1 _ _ k h1 h2 (fun z hz=>by rw [hn'];exact hz.1) (by rw [hn'];exact hkn) (fun x y hxy=>G.PD_symm hxy))
      have hnigh:g.nigh c k:=by
       unfold G.nigh;rw [HX.out,HY.out,hkx,hky];omega
      have Hcell:=Lib.hid (And.intro hkn (And.intro hkx (And.intro hky hnigh)));have HH:=Lib.hid (And.intro h3 (And.intro h4 (And.intro h5 (And.intro h6 h7))));clear h1 h2 h3 h4 h5 h6 h7 i1 i2 i3 i4 hk hkx hky hkn hkv hnigh HI;go_wp2_with fail
      (with_reducible refine cC.out.mono ?_)
      rintro e w' ⟨rfl,rfl⟩;go_wp2_with fail
      (refine cT.out.mono ?_)
      rintro e w3 ⟨tt,S2,E2,rfl,t1,t2,t3,t4⟩;obtain ⟨r1,r2⟩:=SetI.turned hn' HH.out.1 HH.out.2.1 HH.out.2.2.1 HH.out.2.2.2.1 HH.out.2.2.2.2 Hcell.out.1 Hcell.out.2.1 Hcell.out.2.2.1 Hcell.out.2.2.2 t1 t2 t3 t4;have R1:=Lib.hid r1;have R2:=Lib.hid r2;clear t1 t2 t3 t4 r1 r2 cT cC kb0
      cases tt with
      | false=>
       clear R2 HH;go_wp2;go_roundw
       case rel=>first | exact ⟨nx+1,rfl,by omega,by omega,R1.out⟩ | ((repeat apply Exists.intro);exact ⟨⟨nx+1,rfl,by omega,by omega,R1.out⟩,rfl⟩)
       case measure=>simp [intOf];omega
      | true=>
       clear R1 HH;obtain ⟨S3,E3,zs3,u1,u2,u3,u4,u5,u6,u7⟩:=R2.out
       have hl:zs3.length<1099511627776:=by
        have:=HX.out;have:=HY.out;omega
       have hws:=u4.size;have U:=Lib.hid (And.intro u1 (And.intro u2 (And.intro u3 (And.intro u4 (And.intro u5 (And.intro u6 u7))))));clear u1 u2 u3 u4 u6 u7 R2
       go_wp2_with (at_builtin;(refine wpList_append_int2 _ rfl _ _ rfl w.heap.size _ _ _ rfl (u5.alloc _) ⟨w3.heap.size,0,none⟩ rfl (cell1_new _ _ _) hl (by simp;omega) ?_);intro v' w9 hown9 hgrow hat)
       have hfin:SetI w b p mb S g g' (v+1) c (nx+1) ny v' w9:=by
        obtain ⟨u1,u2,u3,u4,u5,u6,u7⟩:=U.out;have hKg:=hgrow
        have hka:Kept (Value.ownBlock _).toList (w3.alloc _) w9:=⟨hgrow.os,hgrow.tape,hgrow.output,hgrow.size,fun q hq hn=>hgrow.block q hq (fun e=>hn (by rw [←e];simp))⟩
        have hb3:=fun o=>bel_alloc (o:=o) (Below.refl w3.heap.size w3)
        have hGk:∀q,q∈b :: p :: mb :: S3→q∉(Value.ownBlock _).toList:=fun q hq hm=>by
         rw [Option.mem_toList] at hm;exact u7 q hm hq
        have hG9:=(u1.below (hb3 _)).kept hka hGk;refine ⟨S3,E3,zs3 ++ [((k:Nat):Int)],hG9,u2,u3,?_,hown9,?_,?_⟩
        ·have hk3:=fun o=>u4.trans (Kept.of_below (S:=p :: mb :: S) (hb3 o))
         refine ⟨hka.os.trans (hk3 _).os,hka.tape.trans (hk3 _).tape,hka.output.trans (hk3 _).output,Nat.le_trans (hk3 _).size hka.size,fun q hq hn=>?_⟩
         refine (hka.block q (Nat.lt_of_lt_of_le hq (hk3 _).size) ?_).trans ((hk3 _).block q hq hn);intro hm;rw [Option.mem_toList] at hm;have:=(World.ownsRow.lt u5 q hm).1;omega
        ·rw [List.length_append];simp;omega
        ·intro q hq
         rcases hat with e | e
         ·rw [e] at hq;exact u7 q hq
         ·rw [e] at hq
          injection hq with hq
          intro hm;have hlS:=u1.2.2.1.lts;have hlm:=u1.2.2.1.lt;have hlp:=u1.2.1.lt;have hlb:=(Array.getElem?_eq_some_iff.1 u1.1).1;simp at hq
          rcases List.mem_cons.1 hm with r | hm
          ·omega
          rcases List.mem_cons.1 hm with r | hm
          ·omega
          rcases List.mem_cons.1 hm with r | hm
          ·omega
          have:=hlS q hm;omega
       have hfin:=Lib.hid hfin;clear hown9 hgrow hat u5 hl U;go_wp2;go_roundw
       case rel=>first | exact ⟨nx+1,rfl,by omega,by omega,hfin.out⟩ | ((repeat apply Exists.intro);exact ⟨⟨nx+1,rfl,by omega,by omega,hfin.out⟩,rfl⟩)
       case measure=>simp [intOf];omega
     ·have cC:=Lib.hid (gridCell_out wr p g' (v+1) nx ny h1.2.1 (by rw [Hbut.out.w,Hbut.out.h];exact hin))
      have hfin:=Lib.hid (SetI.none Hok.out.1 HI.out hin);clear h1 h2 h3 h4 h5 h6 h7 HI hin;go_wp2_with fail
      (with_reducible refine cC.out.mono ?_)
      rintro e w' ⟨rfl,rfl⟩;clear cC;go_wp2;go_roundw
      case rel=>first | exact ⟨nx+1,rfl,by omega,by omega,hfin.out⟩ | ((repeat apply Exists.intro);exact ⟨⟨nx+1,rfl,by omega,by omega,hfin.out⟩,rfl⟩)
      case measure=>simp [intOf];omega
    ·have hfin:=Lib.hid (SetI.row HI.out (by rw [HX.out];omega))
     rw [HX.out] at hfin;clear HI;go_wp2;go_roundw
     case rel=>first | exact ⟨ny+1,rfl,by omega,by omega,hfin.out⟩ | ((repeat apply Exists.intro);exact ⟨⟨ny+1,rfl,by omega,by omega,hfin.out⟩,rfl⟩)
     case measure=>simp [intOf];omega
  ·obtain rfl:ny=Y+2:=by omega
   obtain ⟨S1,E1,zs,h1,h2,h3,h4,h5,h6,h7⟩:=HI.out
   have hzl:zs.length≤100:=by have:=HX.out;have:=HY.out;omega
   have hsp:GSp g' g'.Corner (PairD g g' c (X-1) (Y+2) 0 (0+1)) E1:=
    h2.congr (fun z=>G.PN_end Hbut.out (by rw [HY.out]) z) (fun x y _ _ _=>⟨fun q=>.inr ⟨dn_start _ _,q⟩,fun q=>(q.resolve_left (fun r=>dn_start _ _ r.1)).2⟩) (fun _ _=>rfl)
   obtain ⟨Af,mf,rfl,hIf⟩:=h5.ints
   have hFl:∀ad,Af=some ad→ad.block<wr.heap.size:=fun ad e=>(World.ownsRow.lt h5 ad.block (by rw [e];rfl)).2
   have cN:=Lib.hid (graphNodesC wr b p mb S1 g' (v+1) E1 h1 hsp.1);have HH:=Lib.hid (And.intro h1 (And.intro hsp (And.intro h3 (And.intro h4 h7))));have HIf:=Lib.hid hIf;obtain ⟨nf,hnf⟩:∃z,zs.length=z:=⟨_,rfl⟩
   obtain ⟨ff,hff⟩:∃ff:Nat→Int,(fun k=>zs.getD k 0)=ff:=⟨_,rfl⟩
   rw [hnf] at hzl HIf HH ⊢
   rw [hff] at HIf;clear h1 h2 h3 h4 h5 h6 h7 hsp hIf HI hnf hff;go_wp2_with fail
   (with_reducible refine cN.out.mono ?_)
   rintro e w3 ⟨A,m,rfl,hm,hI,hAn,hb3⟩;obtain ⟨bl,hbl⟩:∃bl,Af.toList.map (·.block) ++ A.toList.map (·.block)=bl:=⟨_,rfl⟩
   have hblA:∀ad,A=some ad→ad.block∈bl:=fun ad e=>by rw [←hbl,e];simp
   have hblF:∀ad,Af=some ad→ad.block∈bl:=fun ad e=>by rw [←hbl,e];simp
   have hblno:∀q∈bl,q∉b :: p :: mb :: S1∧q<w3.heap.size:=by
    intro q hq;rw [←hbl,List.mem_append] at hq;have hs3:=hb3.size;have gl:=HH.out.1
    rcases hq with hq | hq
    ·cases Af with
     | none=>simp at hq
     | some ad=>
      simp at hq;subst hq;refine ⟨HH.out.2.2.2.2 ad.block rfl,?_⟩;have:=hFl ad rfl;omega
    ·cases A with
     | none=>simp at hq
     | some ad=>
      simp at hq;subst hq;obtain ⟨r1,r2⟩:=hAn ad rfl
      refine ⟨fun hm=>?_,r2⟩
      have hlS:=gl.2.2.1.lts;have hlm:=gl.2.2.1.lt;have hlp:=gl.2.1.lt;have hlb:=(Array.getElem?_eq_some_iff.1 gl.1).1
      rcases List.mem_cons.1 hm with r | hm
      ·omega
      rcases List.mem_cons.1 hm with r | hm
      ·omega
      rcases List.mem_cons.1 hm with r | hm
      ·omega
      have:=hlS _ hm;omega
   have Hbl:=Lib.hid hblno
   have hl3:∀q∈bl,q<w3.heap.size:=fun q hq=>(hblno q hq).2
   have Hl3:=Lib.hid hl3;have HblA:=Lib.hid hblA;have HblF:=Lib.hid hblF;have HIf3:=Lib.hid (HIf.out.below hb3);obtain ⟨n,hn⟩:∃n,(cornersI g').length=n:=⟨_,rfl⟩
   have hn256:n≤256:=by rw [←hn];exact corners_le Hok.out.2
   rw [hn] at hm hI ⊢
   have Hn:=Lib.hid hn;have HI:=Lib.hid hI
   have hP:PairI w b p mb S g g' (v+1) c (X-1) (Y+2) bl 0 (0+1) w3:=
    ⟨S1,E1,HH.out.1.below hb3,HH.out.2.1,HH.out.2.2.1,HH.out.2.2.2.1.trans (Kept.of_below hb3),fun q hq=>(hblno q hq).1⟩
   have hSB:SameBl w3 w3 bl:=⟨fun _ _=>rfl,Nat.le_refl _⟩
   have hws3:w.heap.size≤w3.heap.size:=Nat.le_trans HH.out.2.2.2.1.size hb3.size;clear HH hb3 cN hblno hl3 hblA hblF hbl hn hI hAn hFl HIf;go_wp2_with fail
   go_loopw [91] (fun kv wr=>∃i:Nat,kv=.int .i64 i∧i≤n∧PairI w b p mb S g g' (v+1) c (X-1) (Y+2) bl i (i+1) wr∧SameBl w3 wr bl) (fun kv _=>n-(intOf kv).toNat)
   case atStart=>exact ⟨0,rfl,by omega,hP,hSB⟩
   case round=>
    obtain ⟨i,rfl,hi,hP1,hSB1⟩:=hrel;clear hP hSB;have HP1:=Lib.hid hP1;have HSB1:=Lib.hid hSB1;clear hP1 hSB1
    by_cases hlt2:i<n
    ·have hIr:=HI.out.same (fun ad e=>HSB1.out.1 _ (HblA.out ad e)) HSB1.out.2
     have hId:=Ints.drop HI.out hm (show i+1≤n by omega)
     obtain ⟨ad,hA⟩:=hIr.addr (by omega)
     have hIa:=hIr;rw [hA] at hIa
     have hix:=fun wx=>idx_run (m:=m) hA hlt2 wx
     have hE:=hIa.cell (Below.refl _ _) hlt2
     rw [(cf_at (by rw [Hn.out];exact hlt2)).1] at hE
     obtain ⟨x,hx⟩:∃x,cf g' i=x:=⟨_,rfl⟩;rw [hx] at hE;have Hx:=Lib.hid hx;have HId:=Lib.hid hId
     have hw1:IntKind.i64.wrap ((i:Int)+1)=(i:Int)+1:=IntWalk.i64_in _ (by omega)
     have hb1:(0:Int)≤(i:Int)+1:=by omega
     have hb2:(i:Int)+1≤(n:Int):=by omega
     have hb3:i+1≤n:=by omega
     have hb4:i+1≤m:=by omega
     have hb5:((i:Int)+1).toNat=i+1:=by omega
     clear hIr hIa hA hx hId
     go_upto_region 19 with (fail)
     go_cut [99,100,101] (fun sv lv zv wx=>∃A' m',sv=.slice A' (n-(i+1)) m'∧Ints w3 A' (n-(i+1)) (fun t=>(cornersI g').getD (i+1+t) 0)∧(∀ad,A'=some ad→ad.block∈bl)∧lv=.int .i64 ((n-(i+1):Nat):Int)∧zv=.int .i64 (0:Nat)∧wx=wr)
     case first=>
      by_cases hmi:m=i+1
      ·have hId:=HId.out
       rw [if_pos hmi] at hId;go_wp2;go_meet
       case rel=>exact ⟨_,_,rfl,hId,HblA.out,rfl,rfl,rfl⟩
      ·have hId:=HId.out
       rw [if_neg hmi] at hId;go_wp2;go_meet
       case rel=>
        refine ⟨_,_,rfl,by simpa [Addr.add] using hId,?_,rfl,rfl,rfl⟩
        intro ad0 e
        cases A with
        | none=>simp at e
        | some a0=>
         simp at e;rw [←e];exact HblA.out a0 rfl
     case rest=>
     obtain ⟨A',m',rfl,hI2,hA2,rfl,rfl,hwc⟩:=hcut;have hwc:wc=wr:=hwc;rw [hwc];obtain ⟨r,hr⟩:∃r,n-(i+1)=r:=⟨_,rfl⟩
     rw [hr] at hI2 ⊢
     have HI2:=Lib.hid hI2;have HA2:=Lib.hid hA2
     have hxc:g'.Corner x:=by rw [←Hx.out];exact (cf_at (by rw [Hn.out];exact hlt2)).2
     have hstart3:PairI w b p mb S g g' (v+1) c (X-1) (Y+2) bl i (i+1+0) wr∧SameBl w3 wr bl:=⟨HP1.out,HSB1.out⟩;clear hwc hE hix HId hI2 hA2 HP1 HSB1 hw1 hb1 hb2 hb3 hb4 hb5;obtain ⟨w0,hw0⟩:∃z:World,wr=z:=⟨_,rfl⟩
     rw [hw0] at hstart3 ⊢
     clear hw0;go_wp2_with fail;obtain ⟨wp,rfl⟩:∃wp:World,wp=wr:=⟨_,rfl⟩
     go_loopw [101] (fun kv wr=>∃j:Nat,j≤r∧kv=.int .i64 j∧PairI w b p mb S g g' (v+1) c (X-1) (Y+2) bl i (i+1+j) wr∧SameBl w3 wr bl) (fun kv _=>r-(intOf kv).toNat)
     case atStart=>exact ⟨0,by omega,rfl,hstart3⟩
     case round=>
      obtain ⟨j,hj,rfl,hP1,hSB1⟩:=hrel;clear hstart3;have HP1:=Lib.hid hP1;have HSB1:=Lib.hid hSB1;clear hP1 hSB1
      by_cases hlt3:j<r
      ·have hIr:=HI2.out.same (fun ad e=>HSB1.out.1 _ (HA2.out ad e)) HSB1.out.2
       have hIfr:=HIf3.out.same (fun ad e=>HSB1.out.1 _ (HblF.out ad e)) HSB1.out.2
       obtain ⟨ad1,hA1⟩:=hIr.addr (by omega)
       rw [hA1] at hIr
       have hix1:=fun wx=>idx_run (m:=m') hA1 hlt3 wx
       have hE1:=hIr.cell (Below.refl _ _) hlt3
       have hjn:i+1+j<(cornersI g').length:=by rw [Hn.out];omega
       rw [(cf_at hjn).1] at hE1;obtain ⟨y,hy⟩:∃y,cf g' (i+1+j)=y:=⟨_,rfl⟩
       have hyc:g'.Corner y:=by rw [←hy];exact (cf_at hjn).2
       rw [hy] at hE1;have Hy:=Lib.hid hy
       have hxy:x≠y:=by
        rw [←Hx.out,←hy]
        have:=cf_lt (g:=g') (show i<i+1+j by omega) hjn
        omega
       obtain ⟨S2,E2,g2,sp2,n2,k2,b2⟩:=HP1.out
       have kb0:wr.cell? ⟨b,0,none⟩=some (.pointer (some ⟨p,0,none⟩)):=by simp [World.cell?,g2.1]
       have cB:=Lib.hid (graphBetween wr b p g' (v+1) (.map (some mb)) x y X Y g2.1 g2.2.1 hxc.1 hyc.1 ⟨by omega,by omega⟩ ⟨by omega,by omega⟩)
       have cC:=Lib.hid (fun w' (hb:Below wr.heap.size wr w') z=>intsContains w' Af nf mf ff z (hIfr.below hb) (by omega))
       have hq0:(0:Int)≤(j:Int):=by omega
       have hq1:(j:Int)<(r:Int):=by omega
       have HG:=Lib.hid (And.intro g2 (And.intro sp2 (And.intro n2 (And.intro k2 b2))));have Hjn:=Lib.hid hjn;clear hIr hA1 hy g2 sp2 n2 k2 b2 hIfr hjn
       go_upto_region 22 with (fail)
       go_cut [120] (fun s wx=>∃u:Bool,s=.bool u∧(u=false→¬g'.Btw x y X Y)∧Below wr.heap.size wr wx)
       case first=>
        go_wp2_with fail
        (with_reducible refine cB.out.mono ?_)
        rintro e w4 ⟨u1,rfl,hu1,hb4⟩;have Hu1:=Lib.hid hu1;clear hu1 cB kb0
        cases u1 with
        | true=>
         go_wp2;go_meet
         case rel=>exact ⟨true,rfl,(fun h=>by cases h),hb4⟩
        | false=>
         have hno:¬g'.Btw x y X Y:=fun hh=>by have:=Hu1.out.2 hh;cases this
         have Hno:=Lib.hid hno;clear hno Hu1;go_wp2_with fail
         (with_reducible refine (cC.out _ hb4 _).mono ?_)
         rintro e w5 ⟨u2,rfl,hb5⟩;have hB5:=bel_trans hb4 hb5
         cases u2 with
         | true=>
          go_wp2;go_meet
          case rel=>exact ⟨true,rfl,(fun h=>by cases h),hB5⟩
         | false=>
          go_wp2_with fail
          (with_reducible refine (cC.out _ hB5 _).mono ?_)
          rintro e w6 ⟨u3,rfl,hb6⟩;have hB6:=bel_trans hB5 hb6;go_wp2;go_meet
          case rel=>exact ⟨u3,rfl,(fun _=>Hno.out),hB6⟩
       case rest=>
        obtain ⟨u,rfl,hu,hbc⟩:=hcut;have Hu:=Lib.hid hu
        have hlq:∀q∈bl,q<wr.heap.size:=fun q hq=>Nat.lt_of_lt_of_le (Hl3.out q hq) HSB1.out.2
        have Hlq:=Lib.hid hlq;clear hE1 hix1 hu cB cC kb0 hlq
        cases u with
        | false=>
         have hF:PairI w b p mb S g g' (v+1) c (X-1) (Y+2) bl i (i+1+(j+1)) wc∧SameBl w3 wc bl:=by
          obtain ⟨q1,q2,q3,q4,q5⟩:=HG.out
          have hnb:¬g.Btw x y (g.X c) (g.Y c):=by
           rw [HX.out,HY.out]
           exact fun hh=>Hu.out rfl ((Hbut.out.btw x y X Y).2 hh)
          refine ⟨⟨S2,E2,q1.below hbc,q2.congr (fun _=>Iff.rfl) (fun a d _ _ _=>pair_keep (by omega) Hjn.out (fun a d hp=>?_) a d) (fun _ _=>rfl),q3,q4.trans (Kept.of_below hbc),q5⟩,HSB1.out.kept Hl3.out (Kept.of_below (S:=[]) hbc) (by simp)⟩
          rw [Hx.out,Hy.out] at hp
          rcases hp with ⟨rfl,rfl⟩ | ⟨rfl,rfl⟩
          ·exact G.PD_far Hok.out.1 Hbut.out (by rw [HY.out]) hxc hyc hnb
          ·exact G.PD_far Hok.out.1 Hbut.out (by rw [HY.out]) hyc hxc (fun hh=>hnb (G.btw_symm.1 hh))
         have HF:=Lib.hid hF;clear hF hbc HG HP1 HSB1;go_wp2;go_roundw
         case rel=>first | exact ⟨j+1,by omega,by go_num,HF.out⟩ | ((repeat apply Exists.intro);exact ⟨⟨j+1,by omega,by go_num,HF.out⟩,rfl⟩)
         case measure=>simp [intOf];omega
        | true=>
         obtain ⟨q1,q2,q3,q4,q5⟩:=HG.out
         obtain ⟨Lx,hLx,_,_,lx,_⟩:=q2.facts hNn (fun z hz=>by have:=hz.1;rw [hn'] at this;exact this) hxc
         obtain ⟨Ly,hLy,_,_,ly,_⟩:=q2.facts hNn (fun z hz=>by have:=hz.1;rw [hn'] at this;exact this) hyc
         have q1c:=q1.below hbc
         have cT:=Lib.hid (graphCut wc S2 b p mb E2 (x:Nat) (y:Nat) Lx Ly q1c.1 q1c.2.2.1 q1c.2.2.2.1 q1c.2.2.2.2.2.1 hLx hLy (by omega) (by omega) (by omega))
         have Hc2:=Lib.hid (q2.cut hxc hyc hxy hLx hLy);have Hq1c:=Lib.hid q1c;have Hk4:=Lib.hid (q4.trans (Kept.of_below (S:=p :: mb :: S) hbc))
         have HSBc:=Lib.hid (HSB1.out.kept Hl3.out (Kept.of_below (S:=[]) hbc) (by simp))
         have Hq35:=Lib.hid (And.intro q3 q5)
         have Hlc:Hid (∀q∈bl,q<wc.heap.size):=Lib.hid fun q hq=>Nat.lt_of_lt_of_le (Hlq.out q hq) hbc.size
         clear q1 q2 q3 q4 q5 q1c hLx hLy lx ly hbc HG HSB1 HP1 Hlq;go_wp2_with fail
         (refine cT.out.mono ?_)
         rintro e w4 ⟨rfl,S3,hE3,hS3,hK3⟩;have hG4:=Hq1c.out.put hE3 hS3 hK3
         have cL:=Lib.hid (graphLookS w4 b p mb S3 g' (v+1) _ g'.Corner _ x y hG4 Hc2.out (fun z hz=>corner_free Hok.out.2 hz) hxc hyc hxy (fun hh=>hh.2 (.inl ⟨rfl,rfl⟩)) (fun hh=>hh.2 (.inr ⟨rfl,rfl⟩)))
         have Hs3:=Lib.hid hS3;have Hk3:=Lib.hid hK3;clear hE3 hS3 hK3 hG4 cT;go_wp2_with fail
         (refine cL.out.mono ?_)
         rintro e w5 ⟨rfl,S4,E4,hG5,hsp5,hS5,hK5⟩
         have hF:PairI w b p mb S g g' (v+1) c (X-1) (Y+2) bl i (i+1+(j+1)) w5∧SameBl w3 w5 bl:=by
          have hsp5':GSp g' g'.Corner (fun x_1 y_1=>(PairD g g' c (X-1) (Y+2) i (i+1+j) x_1 y_1∧¬Pr (cf g' i) (cf g' (i+1+j)) x_1 y_1)∨(Pr (cf g' i) (cf g' (i+1+j)) x_1 y_1∧g'.Direct x_1 y_1)) E4:=by
           rw [Hx.out,Hy.out];exact hsp5
          refine ⟨PairI.anew (i:=i) (j:=i+1+j) (by omega) Hjn.out Hq35.out.1 Hk4.out Hq35.out.2 Hlc.out Hs3.out Hk3.out hG5 hsp5' hS5 hK5,?_⟩
          have h1:=HSBc.out.kept Hl3.out Hk3.out (fun q hq hm=>Hq35.out.2 q hq (by rcases List.mem_cons.1 hm with r | r <;> simp [r]))
          refine h1.kept Hl3.out hK5 (fun q hq hm=>?_)
          rcases List.mem_cons.1 hm with r | r
          ·exact Hq35.out.2 q hq (by simp [r])
          ·rcases Hs3.out q r with r | r
           ·exact Hq35.out.2 q hq (by simp [r])
           ·have:=Hlc.out q hq;omega
         have HF:=Lib.hid hF;clear hF hG5 hsp5 hS5 hK5 cL Hc2 Hq1c;go_wp2;go_roundw
         case rel=>first | exact ⟨j+1,by omega,by go_num,HF.out⟩ | ((repeat apply Exists.intro);exact ⟨⟨j+1,by omega,by go_num,HF.out⟩,rfl⟩)
         case measure=>simp [intOf];omega
      ·obtain rfl:j=r:=by omega
       have HF:=Lib.hid (And.intro (PairI.row HP1.out (by rw [Hn.out];omega)) HSB1.out)
       clear HP1 HSB1;go_wp2;go_roundw
       case rel=>first | exact ⟨i+1,by go_num,by omega,HF.out⟩ | ((repeat apply Exists.intro);exact ⟨⟨i+1,by go_num,by omega,HF.out⟩,rfl⟩)
       case measure=>simp [intOf];omega
    ·obtain rfl:i=n:=by omega
     have hfin:SetGD w b p mb S g' (v+1) (.returned (.tuple #[.bool true,.nilIface])) wr:=by
      obtain ⟨S2,E2,g2,sp2,n2,k2,_⟩:=HP1.out
      refine ⟨rfl,S2,E2,g2,GSp.spec (sp2.congr (fun _=>Iff.rfl) (fun a d ha hd hne=>?_) (fun _ _=>rfl)),n2,k2⟩
      have hdn:Dn g' i (i+1) a d:=dn_end (by rw [Hn.out];omega) ha hd (Ne.symm hne)
      unfold PairD;simp [hdn]
     have hfin:=Lib.hid hfin;clear HP1 HSB1;go_wp2;go_ret2;exact hfin.out
end Go.Proofs.YtokhnobcincfjaaGreatDoor
