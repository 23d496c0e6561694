/- Lemmas of this claim: Sr6, AppN. -/
import Derived.Test.YtokhnobcincfjaaGreatDoorSr5
import Derived.Test.YtokhnobcincfjaaGreatDoorKNFr24
set_option linter.unusedVariables false
set_option linter.unusedSimpArgs false
set_option maxHeartbeats 6400000
set_option maxRecDepth 100000
namespace Go.Proofs.YtokhnobcincfjaaGreatDoor
open Go.RowKit Go.Sort FR Go.Lib
abbrev natI (W:List Nat):List Int:=W.map fun n:Nat=>(n:Int)
def SwD (w:World) (S:LS) (bk:Nat→Int) (g:G) (fin:Nat→Option C) (out:List Ed) (cT:C) (e:Ending) (w':World):Prop:=
 ∃A m Wy,e=.returned (.slice A Wy.length m)∧Wy.length≤m∧Ints w' A Wy.length (fun k=>(natI Wy).getD k 0)∧(∀ad,A=some ad→w.heap.size≤ad.block)∧Wy.length≤2000000∧(WayIs g fin out cT Wy∧∃P,ChB bk (bk 256) P∧JnU S P.reverse Wy)∧Below w.heap.size w w'
def WpS (w:World) (S:LS) (g:G) (fin:Nat→Option C) (out:List Ed) (cT:C) (P:List Nat) (lv:Value) (i:Nat) (wr:World):Prop:=
 ∃gl m Wy n,lv=.slice (some ⟨gl,0,none⟩) n m∧Wy.length=n∧0<n∧n≤m∧Ints wr (some ⟨gl,0,none⟩) n (fun k=>(natI Wy).getD k 0)∧w.heap.size≤gl∧n≤1+i*4200∧(WpI S g fin out cT P i Wy∧JnU S (P.take i) Wy)∧Below w.heap.size w wr
theorem JnU.next {S:LS} {P W L:List Nat} {j a b:Nat} (h:JnU S (P.take (j+1)) W) (ha:P[j]? = some a) (hb:P[j+1]? = some b) (hu:LS.Unp S a b L):JnU S (P.take (j+1+1)) (W ++ L.tail):=by
 obtain ⟨q1,q2⟩:=List.getElem?_eq_some_iff.1 hb;obtain ⟨q3,q4⟩:=List.getElem?_eq_some_iff.1 ha;rw [List.take_succ_eq_append_getElem q1,q2];refine .snoc h ?_ hu;rw [List.take_succ_eq_append_getElem q3,q4];simp
theorem slice_one {g n m:Nat} (h1:1<n) (h2:n≤m) (w:World):(Instr.sliceAt 22 (.slice (some ⟨g,0,none⟩) n m) (some (.int .i64 1)) none none).run Tryz.prog w=.ok (.slice (some ⟨g,1,none⟩) (n-1) (m-1)) w:=by
 have hml:¬m=1:=by omega
 unfold Instr.sliceAt;go_simp;intro q;omega
theorem natI_len (W:List Nat):(natI W).length=W.length:=List.length_map _
theorem natI_get {W:List Nat} {k a:Nat} (h:W[k]? = some a):(natI W)[k]? = some ((a:Nat):Int):=by rw [List.getElem?_map,h];rfl
theorem srWay (W w : World) (x l lml lme nl mk me mc mb q : Nat) (gv : Value) (Sh Sb : List Nat) (mkM enM : Int → Option Value) (mark : Nat → Bool) (fin : Nat → Option C) (lab hp hp0 : Nat → Option C) (bk : Nat → Int) (g : G) (tp : Nat) (S : LS) (out : List Ed) (h : Nat → C) (k gk : Nat) (htp : tp ≤ 6)
    (G0:SrG g tp S out fin h) (hLv:LvOf W l lml lme Sb (tp:Nat) (levV g S) nl (egE g S)) (hS:HtS W w x l mk me mc mb q gv Sh mkM enM lab hp0 bk)
    (I:SrI g tp S mark fin out h lab hp bk k (fun _ _=>False) (fun _ _=>False) gk) (cT:C) (hT:lab 256=some cT) :
    Calls Tryz.prog 150 #[.pointer (some ⟨x,0,none⟩)] w (SwD w S bk g fin out cT):=by
 have hn256:=G.n_le G0.ok;obtain ⟨k0,_,_,_,_,k5,_⟩:=hS.cells;obtain ⟨nB,hMB⟩:=hS.mapB;obtain ⟨gk0,hCh⟩:=ChI.start G0 I hT
 have hbk:∀w',Below w.heap.size w w'→∀a:Nat,lab a≠none→(Instr.lookup 142 (.map (some mb)) (.int .i64 ((a:Nat):Int)) false).run Tryz.prog w'=.ok (.int .i64 (bk a)) w':=fun w' hb a ha=>by
  have:=((hMB.below hb).look (int_fit Tryz.underlying3) Tryz.underlying142 (int_zero w') ((a:Nat):Int)).2;rw [mapI_nat] at this;unfold bkV at this
  cases hl:lab a with
  | none=>exact absurd hl ha
  | some c=>rw [hl] at this;exact this
 have hb0:=hbk w (Below.refl _ _) 256 (by rw [hT];simp)
 have hb0:(Instr.lookup 142 (.map (some mb)) (.int .i64 256) false).run Tryz.prog w=.ok (.int .i64 (bk 256)) w:=hb0;obtain ⟨z0,hz0⟩:∃z,bk 256=z:=⟨_,rfl⟩;rw [hz0] at hb0 hCh
 have hG0:∀R,ChB bk z0 R→ChB bk z0 ([] ++ R):=fun R hR=>hR
 replace hG0:=Lib.hid hG0;have Hz0:=Lib.hid hz0;have Hbk:=Lib.hid hbk;have HS:=Lib.hid hS;have HG:=Lib.hid (And.intro G0 (And.intro hLv I));clear hMB hbk hS G0 hLv I hT hz0;go_enter Tryz.func150,Tryz.ntmps150;go_wp2_with fail;clear hb0
 go_loopg [3,4] gk0 (fun gk uv nv wr=>∃(L:List Nat) (n:Int),nv=.int .i64 n∧OwnI wr w.heap.size uv (natI L)∧ChI S g fin out lab cT L n gk∧Hid (∀R,ChB bk n R→ChB bk z0 (L ++ R))∧Below w.heap.size w wr)
 case atStart=>exact ⟨[],z0,rfl,OwnI.nil _ _,hCh,hG0,Below.refl _ _⟩
 case round=>
  obtain ⟨L,n,rfl,hO,hC,hGh,hB⟩:=hrel;clear hCh hG0;have k0:=bel_cell hB k0;have k5:=bel_cell hB k5;have HO:=Lib.hid hO
  by_cases hneg:0≤n
  ·obtain ⟨a,rfl⟩:=Int.eq_ofNat_of_zero_le hneg
   obtain ⟨gk2,hlt,hC2⟩:=ChI.step HG.out.1 HG.out.2.2 hC
   have hla:lab a≠none:=by
    obtain ⟨p,e,d,t,_,_,h3⟩:=hC
    rcases h3 with ⟨a',e1,_,h4,_⟩ | ⟨e1,_⟩
    ·obtain rfl:a=a':=by omega
     rw [h4];simp
    ·omega
   have hLl:L.length≤258:=by
    obtain ⟨p,e,d,t,_,_,h3⟩:=hC
    rcases h3 with ⟨_,_,_,_,_,_,_,h8⟩ | ⟨e1,_⟩
    ·omega
    ·omega
   have hml:(natI L).length<1099511627776:=by rw [List.length_map];omega
   have HC2:=Lib.hid hC2;have Hla:=Lib.hid hla
   have hnat:natI (L ++ [a])=natI L ++ [((a:Nat):Int)]:=by simp
   have Hnat:=Lib.hid hnat;have hsz:=hB.size;clear hC hO hC2 hla hnat
   go_upto_region 4 with (at_builtin;(refine wpList_append_int _ rfl _ _ rfl w.heap.size _ (natI L) ((a:Nat):Int) rfl (HO.out.alloc _) ⟨wr.heap.size,0,none⟩ rfl (cell1_new _ _ _) hml (by simp;omega) ?_);intro v' w9 hown9 hgrow)
   have hB9:Below w.heap.size w w9:=below_grown (bel_alloc hB) (by simp;omega) (HO.out.alloc _) hgrow
   rw [←Hnat.out] at hown9;have HO9:=Lib.hid hown9;have hb9:=Hbk.out w9 hB9 a Hla.out;have k0:=HG.out;have k5:w9.cell? ⟨x,5,none⟩=some (.map (some mb)):=(HS.out.below hB9).cells.2.2.2.2.2.1;obtain ⟨za,hza⟩:∃z,bk a=z:=⟨_,rfl⟩;have hC2:=HC2.out
   have hG2:∀R,ChB bk (bk a) R→ChB bk z0 ((L ++ [a]) ++ R):=fun R hR=>by rw [List.append_assoc];exact hGh.out _ (.cons hR)
   rw [hza] at hb9 hC2 hG2;have HC2:=Lib.hid hC2;replace hG2:=Lib.hid hG2;clear hgrow hown9 HO hza hC2 k0 hGh;go_wp2;go_roundg gk2
   case measure=>omega
   case rel=>first | exact ⟨L ++ [a],za,rfl,HO9.out,HC2.out,hG2,hB9⟩ | ((repeat apply Exists.intro);exact ⟨⟨L ++ [a],za,rfl,HO9.out,HC2.out,hG2,hB9⟩,rfl⟩)
  ·obtain ⟨s,P,hrev,hW1⟩:=WpI.start (S:=S) (g:=g) (by omega:n<0) hC
   have hLl:L.length≤258:=by
    obtain ⟨p,e,d,t,_,_,h3⟩:=hC
    rcases h3 with ⟨a',e1,_⟩ | ⟨_,_,_,_,_,_,_,_,h8⟩
    ·omega
    ·exact h8
   have hrevI:(natI L).reverse=natI (s :: P):=by rw [←hrev];exact List.map_reverse.symm
   have hPl:(s :: P).length≤258:=by rw [←hrev,List.length_reverse];exact hLl
   have cR:=intsReverse wr w.heap.size _ _ hO (by rw [natI_len];omega) hB.size
   rw [hrevI] at cR;have cR:=Lib.hid cR
   have hChB:ChB bk (bk 256) (s :: P).reverse:=by
    have:=hGh.out [] (.nil (by omega))
    rw [List.append_nil,←Hz0.out] at this;rw [←hrev,List.reverse_reverse];exact this
   obtain ⟨Q,hQ⟩:∃Q,s :: P=Q:=⟨_,rfl⟩
   have hQ0:0<Q.length:=by rw [←hQ];simp
   have hW1:WpI S g fin out cT Q 1 [s]:=by rw [←hQ];exact hW1
   have hQs:Q[0]? = some s:=by rw [←hQ];rfl
   rw [hQ] at cR hPl hChB
   have hJ1:JnU S (Q.take 1) [s]:=by
    have e1:Q.take 1=[s]:=by rw [←hQ];simp
    rw [e1];exact .one s
   have HW1:=Lib.hid (And.intro (And.intro hW1 hJ1) hQs);have HChB:=Lib.hid hChB;clear hC hO HO hrev hrevI hLl hW1 hJ1 hQ hQs hChB hGh;go_wp2_with fail
   (with_reducible refine cR.out.mono ?_)
   rintro e w2 ⟨rfl,hO2,hB2⟩;have HB2:Below w.heap.size w w2:=hB.trans hB2
   obtain ⟨gu,mu,rfl,hmu⟩:=hO2.addr (by rw [natI_len];exact hQ0)
   rw [natI_len] at hmu ⊢
   obtain ⟨nP,hnP⟩:∃z,Q.length=z:=⟨_,rfl⟩;have hgu:w.heap.size≤gu:=(World.ownsRow.lt hO2 gu rfl).1
   have hcell:=fun (k:Nat) (a:Nat) (hk:Q[k]? = some a)=>hO2.cell (natI_get hk)
   have HO2:=Lib.hid (And.intro hcell hnP)
   have hst:WpS w S g fin out cT Q (.slice (some ⟨gu,0,none⟩) 1 mu) 1 w2:=by
    refine ⟨gu,mu,[s],1,rfl,rfl,by omega,by omega,fun _=>⟨_,rfl,(World.ownsRow.lt hO2 gu rfl).2,fun k hk=>?_⟩,hgu,by omega,HW1.out.1,HB2⟩
    obtain rfl:k=0:=by omega
    have:=hO2.cell (natI_get HW1.out.2);rw [Addr.add_lit];exact this
   have k0:=(HS.out.below HB2).cells.1
   rw [hnP] at hmu hQ0 hPl ⊢
   clear hcell hO2 hnP cR hB2 hB k5;go_wp2_with fail;obtain ⟨wz,rfl⟩:∃wz:World,wz=w2:=⟨_,rfl⟩
   go_loopw [5,6] (fun lv iv wr=>∃(j:Nat) (xi:Int),iv=.int .i64 xi∧xi=(j:Int)+1∧j+1≤nP∧WpS w S g fin out cT Q lv (j+1) wr∧Below wz.heap.size wz wr) (fun _ iv _=>nP-(intOf iv).toNat)
   case atStart=>exact ⟨0,1,rfl,rfl,by omega,hst,Below.refl _ _⟩
   case round=>
    obtain ⟨j,xi,rfl,hxi,hj,hWS,hBz⟩:=hrel;clear hst;obtain ⟨gl,ml,Wy,n1,rfl,hWl,hn0,hnm,hIW,hgl,hnb,hWI,hBw⟩:=hWS
    by_cases hlt:j+1<nP
    ·obtain ⟨a,ha⟩:∃a,Q[j]? = some a:=⟨_,List.getElem?_eq_getElem (by rw [HO2.out.2];omega)⟩
     obtain ⟨b,hb⟩:∃b,Q[j+1]? = some b:=⟨_,List.getElem?_eq_getElem (by rw [HO2.out.2];omega)⟩
     obtain ⟨c,m,heg,hnext⟩:=hWI.1.step (by omega) (x:=a) (by simpa using ha) hb
     obtain ⟨hca,hcb,_⟩:=HG.out.1.fn.corner a b (by rw [heg];simp)
     have hla:=HG.out.1.fn.levs a hca;have hlb:=HG.out.1.fn.levs b hcb
     obtain ⟨Lu,u1,u2,u3,u4⟩:=lvUnpack l lml lme nl Sb g S tp (tp:Nat) HG.out.1.ok HG.out.1.fn 12 a b c m (by omega) (by omega) heg
     have hLu:Lu.length≤4097∧2≤Lu.length:=by
      have h12:2 ^ 12=4096:=by decide
      obtain ⟨M,hM⟩:=u1.ends
      refine ⟨by omega,?_⟩
      rw [hM];simp
     have hnx:=And.intro (hnext Lu u1 u2) (hWI.2.next ha hb u1);have hd:=bel_drew (Below.refl wr.heap.size wr);have cU:=Lib.hid (u4 wr.drew (HG.out.2.1.below (bel_trans HS.out.bel (bel_trans hBw hd))));have c1:wr.cell? ⟨gu,j,none⟩=some (.int .i64 (a:Nat)):=bel_cell hBz (HO2.out.1 j a ha);have c2:wr.cell? ⟨gu,j+1,none⟩=some (.int .i64 (b:Nat)):=bel_cell hBz (HO2.out.1 (j+1) b hb);have k0:=bel_cell hBz k0
     have q0:wr.drew.cell? ⟨x,0,none⟩=some (.pointer (some ⟨l,0,none⟩))∧wr.drew.cell? ⟨gu,j,none⟩=some (.int .i64 (a:Nat))∧wr.drew.cell? ⟨gu,j+1,none⟩=some (.int .i64 (b:Nat)):=⟨bel_cell hd k0,bel_cell hd c1,bel_cell hd c2⟩
     have hw1:IntKind.i64.wrap (xi-1)=((j:Nat):Int):=by rw [IntWalk.i64_in _ (by omega)];omega
     have hix1:∀wx,(Instr.indexAt 22 (.slice (some ⟨gu,0,none⟩) nP mu) (.int .i64 ((j:Nat):Int))).run Tryz.prog wx=.ok (.pointer (some ⟨gu,j,none⟩)) wx:=fun wx=>by
      have:=idx_run (A:=some ⟨gu,0,none⟩) (m:=mu) rfl (show j<nP by omega) wx
      rw [Addr.add_lit,Nat.zero_add] at this;exact this
     have hix2:∀wx,(Instr.indexAt 22 (.slice (some ⟨gu,0,none⟩) nP mu) (.int .i64 xi)).run Tryz.prog wx=.ok (.pointer (some ⟨gu,j+1,none⟩)) wx:=fun wx=>by
      have:=idx_run (A:=some ⟨gu,0,none⟩) (m:=mu) rfl hlt wx
      rw [Addr.add_lit,Nat.zero_add,show ((j+1:Nat):Int)=xi by omega] at this;exact this
     have hxl:xi<(nP:Int):=by omega
     have hw2:IntKind.i64.wrap (xi+1)=xi+1:=IntWalk.i64_in _ (by omega)
     have Hxi:=Lib.hid hxi;have Hn:=Lib.hid (And.intro hnx (And.intro hLu hWl));have HIW:=Lib.hid hIW;clear ha hb heg hnext hca hcb hla hlb u1 u2 u3 u4 hLu hnx hxi hWl hIW hWI k0 c1 c2
     go_upto_region 11 with (fail)
     go_region_held3 (fun w'=>w'.cell? ⟨x,0,none⟩=some (.pointer (some ⟨l,0,none⟩))∧w'.cell? ⟨gu,j,none⟩=some (.int .i64 (a:Nat))∧w'.cell? ⟨gu,j+1,none⟩=some (.int .i64 (b:Nat)))
      (first
       | exact q0
       | exact q1)
      (first
       | (go_at_call 201
          refine cU.out.mono ?_;rintro e w5 ⟨vU,rfl,hOU,hb5⟩;have q1:w5.cell? ⟨x,0,none⟩=some (.pointer (some ⟨l,0,none⟩))∧w5.cell? ⟨gu,j,none⟩=some (.int .i64 (a:Nat))∧w5.cell? ⟨gu,j+1,none⟩=some (.int .i64 (b:Nat)):=⟨bel_cell hb5 q0.1,bel_cell hb5 q0.2.1,bel_cell hb5 q0.2.2⟩))
     have hb05:=bel_trans hd hb5;have HBw:=Lib.hid (And.intro (bel_trans hBw hb05) (bel_trans hBz hb05))
     obtain ⟨g2,mU,rfl,hmU⟩:=hOU.addr (by rw [List.length_map];have:=Hn.out.2.1.2;omega)
     rw [List.length_map] at hmU ⊢
     obtain ⟨nU,hnU⟩:∃z,Lu.length=z:=⟨_,rfl⟩
     have hca:∀(k:Nat) (z:Int),(natI Lu.tail)[k]? = some z→w5.cell? ((⟨g2,1,none⟩:Addr).add k)=some (.int .i64 z):=fun k z hz=>by
      rw [Addr.add_lit];refine hOU.cell (k:=1+k) ?_;rw [List.getElem?_map,List.getElem?_tail] at hz;rw [List.getElem?_map,Nat.add_comm];exact hz
     have Hca:=Lib.hid (And.intro hca hnU);have HIW:=Lib.hid (HIW.out.below hb05)
     have h1U:1<nU:=by have:=Hn.out.2.1.2;omega
     rw [hnU] at hmU ⊢
     have hUt:(natI Lu.tail).length=nU-1:=by rw [List.length_map,List.length_tail,hnU]
     have hnl:n1+(nU-1)<1099511627776:=by have:=Hn.out.2.1.1;omega
     have hWl:(natI Wy).length=n1:=by rw [natI_len];exact Hn.out.2.2
     clear hca hOU hnU q0 q1 cU hd hb5 hb05 hBw hBz hix1 hix2 hw1 hxl;have hd5:=bel_drew (Below.refl w5.heap.size w5);have HIW:=Lib.hid (HIW.out.below hd5)
     have Hcd:=Lib.hid (fun k z hz=>bel_cell hd5 (Hca.out.1 k z hz))
     have hsl:=slice_one (g:=g2) h1U hmU
     go_upto_region 12 with (fail)
     go_still_tail 8,(by kernel_rfl)
     change wpList _ _ _ _ _ w5.drew
     go_wp2_with (at_builtin;(refine wpList_append_intsF _ rfl _ _ rfl (some ⟨gl,0,none⟩) n1 (natI Wy) (natI Lu.tail) rfl hWl hn0 HIW.out ⟨g2,1,none⟩ (nU-1) _ rfl hUt (by omega) Hcd.out hnl ?_);intro v' w9 hown9 hb9)
     have hlen:(natI (Wy ++ Lu.tail)).length=n1+(nU-1):=by rw [natI_len,List.length_append,←natI_len Wy,hWl,←natI_len Lu.tail,hUt]
     have happ:natI Wy ++ natI Lu.tail=natI (Wy ++ Lu.tail):=by simp
     rw [happ] at hown9
     obtain ⟨g9,m9,rfl,hm9⟩:=hown9.addr (by rw [hlen];omega)
     have h9:=(World.ownsRow.lt hown9 g9 rfl).1;have hbb:=bel_trans hd5 hb9
     have hI9:Ints w9 (some ⟨g9,0,none⟩) (natI (Wy ++ Lu.tail)).length (fun k=>(natI (Wy ++ Lu.tail)).getD k 0):=by
      obtain ⟨A',m',e1,e2⟩:=hown9.ints
      injection e1 with e1 _ _
      rw [e1];exact e2
     rw [hlen] at hm9 hI9 ⊢
     have hF:WpS w S g fin out cT Q (.slice (some ⟨g9,0,none⟩) (n1+(nU-1)) m9) (j+1+1) w9:=by
      refine ⟨g9,m9,Wy ++ Lu.tail,_,rfl,by rw [←hlen,natI_len],by omega,hm9,hI9,?_,?_,Hn.out.1,bel_trans HBw.out.1 hbb⟩
      ·have:=HBw.out.1.size;have:=hd5.size;omega
      ·have:=Hn.out.2.1.1;rw [Hca.out.2] at this;omega
     have hF:=Lib.hid (And.intro hF (bel_trans HBw.out.2 hbb));clear hown9 hb9 hlen happ hI9 hm9 h9 hbb hUt hnl hWl HIW Hcd hsl
     have hxe:xi+1=((j+1:Nat):Int)+1:=by have:=Hxi.out;omega
     have Hxe:=Lib.hid hxe;clear hxe;go_wp2;go_roundw
     case rel=>first | exact ⟨j+1,_,rfl,Hxe.out,by omega,hF.out.1,hF.out.2⟩ | ((repeat apply Exists.intro);exact ⟨⟨j+1,_,rfl,Hxe.out,by omega,hF.out.1,hF.out.2⟩,rfl⟩)
     case measure=>have:=Hxi.out;simp [intOf];omega
    ·obtain rfl:nP=j+1:=by omega
     have hF:SwD w S bk g fin out cT (.returned (.slice (some ⟨gl,0,none⟩) n1 ml)) wr:=by
      have hWI2:WpI S g fin out cT Q Q.length Wy:=by rw [HO2.out.2];exact hWI.1
      have hJ2:JnU S Q Wy:=by
       have:=hWI.2
       rwa [List.take_of_length_le (by rw [HO2.out.2];exact Nat.le_refl _)] at this
      subst hWl
      exact ⟨_,ml,Wy,rfl,hnm,hIW,(fun ad e=>by injection e with e;rw [←e];exact hgl),by omega,⟨hWI2.fin,Q.reverse,HChB.out,by rw [List.reverse_reverse];exact hJ2⟩,hBw⟩
     have hF:=Lib.hid hF
     have hxn:¬xi<((j+1:Nat):Int):=by omega
     clear hxi hWl hIW hWI;go_wp2;go_ret;exact hF.out
theorem run_append_ints (w : World) (ty : TypeId) (B : Nat) (v : Value) (zs ys : List Int) (hown : OwnI w B v zs) (h0 : 0 < zs.length) (ad : Addr) (m c : Nat) (hm : ys.length = m) (hc : ∀ k z, ys[k]? = some z → w.cell? (ad.add k) = some (.int .i64 z))
    (hl:zs.length+m<1099511627776) (hB:B≤w.heap.size) :
    ∃v' w',(Builtin.append_ #[22,22] ty #[v,.slice (some ad) m c]).run Tryz.prog w=.ok v' w'∧OwnI w' B v' (zs ++ ys)∧w.grownBy w' v.ownBlock∧∀k,v'.ownBlock=some k→v.ownBlock=some k∨w.heap.size≤k:=by
 obtain ⟨i0,hi,hz0,hz1,hz2⟩:=info_parts int_info
 have hn:(ys.map (Value.int .i64)).length=m*i0.size:=by rw [List.length_map,hm,hz1,Nat.mul_one]
 have hnews:∀(j:Nat) (u:Value),(ys.map (Value.int .i64))[j]? = some u→w.cell? (ad.add j)=some u:=fun j u hu=>by
  rw [List.getElem?_map] at hu;obtain ⟨z,hz,rfl⟩:=Option.map_eq_some_iff.1 hu;exact hc j z hz
 have hone:∀u∈ys.map (Value.int .i64),u.oneCell'=true:=fun u hu=>by
  obtain ⟨z,_,rfl⟩:=List.mem_map.1 hu
  rfl
 obtain ⟨v',w',hr,h2,h3,_⟩:=run_append_own (P:=Tryz.prog) w B 22 ty 3 i0 (.int .i64 0) 1 8 Tryz.underlying22 hi hz0 hz1 hz2 rfl (by decide) v zs.length (zs.map (Value.int .i64)) hown ad m c (ys.map (Value.int .i64)) (by rw [List.length_map];omega) hnews hone (by unfold maxLen;omega) (by omega) hB
 refine ⟨v',w',hr,?_,h3,?_⟩
 ·unfold OwnI
  rw [List.length_append,hm,List.map_append];exact h2
 ·intro k hk
  rcases hown.2 with ⟨_,hz⟩ | ⟨g,cap,cur,rfl,hbg,hg,hnc,hcm,hcs,htake⟩
  ·omega
  ·by_cases hroom:zs.length+m≤cap
   ·have hr2:=run_append_room (P:=Tryz.prog) w 22 ty 3 i0 Tryz.underlying22 hi g zs.length cap cur hg ad m c (ys.map (Value.int .i64)) hn hnews hone hroom (by rw [hn,hz1,hcs];omega)
    rw [hr] at hr2
    injection hr2 with e1 e2
    rw [e1] at hk;exact .inl hk
   ·have hr2:=run_append_grow (P:=Tryz.prog) w 22 ty 3 i0 (.int .i64 0) Tryz.underlying22 hi hz0 ⟨g,0,none⟩ zs.length cap (zs.map (Value.int .i64)) (by rw [List.length_map,hz1,Nat.mul_one]) (World.ownsRow.cells hown (g:=g) rfl) ad m c (ys.map (Value.int .i64)) hn hnews (by omega) (by omega) (growslice_fits (by omega) (by rw [hz2];omega))
    rw [hr] at hr2
    injection hr2 with e1 e2
    rw [e1] at hk;simp [Value.ownBlock] at hk
    exact .inr (by omega)
theorem wpList_append_intsG {ops : Array Oper} {rest : List Oper} {o : Oper} {a : Act} {Q : Exit → Act → World → Prop} (w : World) (hgd : o.guard = none) (s x : Operand)
    (ho:o.op=.call { callee:=.builtin .append,args:=#[s,x],argTypes:=#[22,22] })
    (B:Nat) (v:Value) (zs ys:List Int) (hs:a.eval s=v) (hown:OwnI w B v zs) (h0:0<zs.length) (ad:Addr) (m c:Nat) (hx:a.eval x=.slice (some ad) m c) (hm:ys.length=m) (hc:∀k z,ys[k]? = some z→w.cell? (ad.add k)=some (.int .i64 z))
    (hl:zs.length+m<1099511627776) (hB:B≤w.heap.size)
    (h:∀v' w',OwnI w' B v' (zs ++ ys)→w.grownBy w' v.ownBlock→(∀k,v'.ownBlock=some k→v.ownBlock=some k∨w.heap.size≤k)→wpList Tryz.prog ops Q rest (a.put o.dst v') w'):wpList Tryz.prog ops Q (o :: rest) a w:=by
 refine wpList_plain hgd fun K hK=>?_
 obtain ⟨v',w',hr,h2,h3,h4⟩:=run_append_ints w o.type B v zs ys hown h0 ad m c hm hc hl hB;unfold Oper.wp execOp;simp only [ho,resolve,invoke,builtin,Sem.run_bind,Sem.run_pure,Result.andThen_ok,List.map_toArray,List.map_cons,List.map_nil,hs,hx,hr];exact hK _ _ (h v' w' h2 h3 h4)
theorem run_slice3 {ad:Addr} {n m:Nat} (h1:0<n) (h2:n≤m) (w:World):(Instr.sliceAt 22 (.slice (some ad) n m) none (some (.int .i64 (n:Nat))) (some (.int .i64 (n:Nat)))).run Tryz.prog w=.ok (.slice (some ad) n n) w:=by
 unfold Instr.sliceAt;go_simp
theorem slice_tail {g n m:Nat} (h0:0<n) (h2:n≤m):∃o,(1<n→o=1)∧∀w,(Instr.sliceAt 22 (.slice (some ⟨g,0,none⟩) n m) (some (.int .i64 1)) none none).run Tryz.prog w=.ok (.slice (some ⟨g,o,none⟩) (n-1) (m-1)) w:=by
 by_cases h1:1<n
 ·exact ⟨1,fun _=>rfl,fun w=>slice_one h1 h2 w⟩
 ·obtain rfl:n=1:=by omega
  by_cases hm:m=1
  ·subst hm
   refine ⟨0,fun h=>absurd h (by omega),fun w=>?_⟩
   unfold Instr.sliceAt;go_simp
  ·refine ⟨1,fun h=>absurd h (by omega),fun w=>?_⟩
   have hml:¬m=1:=hm;unfold Instr.sliceAt;go_simp
   try (intro q;omega)
end Go.Proofs.YtokhnobcincfjaaGreatDoor
