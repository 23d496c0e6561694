/- Lemmas of this claim: Heap8, MapRange. -/
import Derived.Test.YtokhnobcincfjaaGreatDoorKNEd8
set_option linter.unusedVariables false
set_option linter.unusedSimpArgs false
set_option maxHeartbeats 3200000
set_option maxRecDepth 100000
namespace Go.Proofs.YtokhnobcincfjaaGreatDoor
open Go.Lib (hid)
open Go.RowKit Go.Sort FR
variable {hp:Int->Option C}{b:Nat}{w:World}
def Sl(w:World)(S:List Nat)(b n:Nat)(hp:Int->Option C)(e:Ending)(w':World):Prop:=
 ∃id ds dd,hp id=some ⟨ds,dd⟩/\(∀id' d',hp id'=some d'->It.le ⟨⟨ds,dd⟩,id⟩ ⟨d',id'⟩)/\e=.returned (.tuple #[.int .i64 id,.agg #[.int .i64 ds,.int .i64 dd],.bool true])/\
  bf w' S b n (hset hp id none)/\Kept S w w'
theorem zB{i:Int}(h:∀z d,hp z=some d->jA d):∀z d,hset hp i none z=some d->jA d:=by
 intro z d g;unfold hset at g;by_cases e:z=i
 .rw[if_pos e]at g;cases g
 .rw[if_neg e]at g;exact h z d g
theorem aR.take{b g n:Nat}{c:Nat->It}(h:aR w b g n c)(k:Nat)(M:k<=n):aR w b g k c:=by
 obtain⟨J,z,u,B,F,I⟩:=h;exact⟨by omega,z,u,B,F,λj L=>I j (by omega)⟩
theorem uw{x y u v:Value}(z:w.cell? ⟨b,0,none⟩=some u)(B:w.cell? ⟨b,1,none⟩=some v):((w.setCell ⟨b,0,none⟩ x).setCell ⟨b,1,none⟩ y).drew.cell? ⟨b,0,none⟩=some x/\((w.setCell ⟨b,0,none⟩ x).setCell ⟨b,1,none⟩ y).drew.cell? ⟨b,1,none⟩=some y:=by
 have g:((w.setCell ⟨b,0,none⟩ x).setCell ⟨b,1,none⟩ y).cell? ⟨b,0,none⟩=some x:=
  (World.cell?_setCell_other (w:=w.setCell ⟨b,0,none⟩ x) (a:=⟨b,1,none⟩) (b:=⟨b,0,none⟩) (v:=y) (by simp)).trans (World.cell?_setCell_same (w:=w) (a:=⟨b,0,none⟩) (v:=x) z)
 have k:((w.setCell ⟨b,0,none⟩ x).setCell ⟨b,1,none⟩ y).cell? ⟨b,1,none⟩=some y:=
  World.cell?_setCell_same (w:=w.setCell ⟨b,0,none⟩ x) (a:=⟨b,1,none⟩) (v:=y) ((World.cell?_setCell_other (w:=w) (a:=⟨b,0,none⟩) (b:=⟨b,1,none⟩) (v:=x) (by simp)).trans B)
 exact⟨g,k⟩
theorem Gq{w M P:World}{S:List Nat}{b k:Nat}{L J F:Int}(U:hp F=some ⟨L,J⟩)(z:∀B O,hp B=some O->It.le ⟨⟨L,J⟩,F⟩ ⟨O,B⟩)(Q:bf M S b k (hset hp F none))(u:Kept S w M)(g:Kept [w.heap.size] M P)(R:∀j∈S,j<w.heap.size):Sl w S b k hp (.returned (.tuple #[.int .i64 F,.agg #[.int .i64 L,.int .i64 J],.bool true])) P:=by
 refine⟨F,L,J,U,z,rfl,Q.kept g ?_,?_⟩
 .intro j I e;simp at e;have:=R j I;omega
 .refine⟨g.os.trans u.os,g.tape.trans u.tape,g.output.trans u.output,Nat.le_trans u.size g.size,λj I T=>?_⟩
  exact(g.block j (Nat.lt_of_lt_of_le I u.size) (by simp;omega)).trans (u.block j I T)
theorem Pj{n:Nat}{c:Nat->It}(B:og n c)(z:Holds n c hp):∀g u,hp g=some u->It.le (c 0) ⟨u,g⟩:=by
 intro I d h;obtain⟨k,F,e⟩:=(z I d).1 h;rw[<-e];exact Ld B k F
theorem qw(w:World)(S:List Nat)(b:Nat)(Q:Int->Option C)(h:bf w S b 0 Q):Calls Tryz.prog 149 #[.pointer (some ⟨b,0,none⟩)] w λe R=>e=.returned (.tuple #[.int .i64 0,.agg #[.int .i64 0,.int .i64 0],.bool false])/\Below w.heap.size w R:=by
 obtain⟨Z,m,N,c,B,u,M,P,z,O,J,I,L,F⟩:=h;have U:=(Array.getElem?_eq_some_iff.1 u).1;have T:w.cell? ⟨b,0,none⟩=some B:=by simp[World.cell?,u]
 obtain⟨A,g,rfl⟩:∃A g,B=.slice A 0 g:=by
  rcases z with⟨k,_⟩|⟨rb,g,k,_⟩
  .exact⟨_,_,k⟩
  .exact⟨_,_,k⟩
 clear u M z O J I L F;go_enter Tryz.func149,Tryz.ntmps149;go_wp2;refine bodyPost_ret (v:=.tuple #[.int .i64 0,.agg #[.int .i64 0,.int .i64 0],.bool false]) (by simp[results,Tryz.results149,go_sem]) rfl ?_;exact⟨rfl,by(repeat' (first|exact Below.refl _ _|assumption|apply aj|apply ah|apply af|(refine aa ?_ (by assumption))))⟩
theorem zt(w:World)(S:List Nat)(b k:Nat)(hp:Int->Option C)(h:bf w S b (k+1) hp)(hn:k<=1000000):Calls Tryz.prog 149 #[.pointer (some ⟨b,0,none⟩)] w (Sl w S b k hp):=by
 have bj:=hid h.lt;obtain⟨Q,m,N,c,sl,hb,hM,P,hR,hP,hH,hD,hL,hC⟩:=h;have lb:=(Array.getElem?_eq_some_iff.1 hb).1;have lm:=hM.lt;obtain⟨ag,am,aS,ab,bp⟩:=hR.own P;rcases hR with⟨_,b8,_⟩|⟨F,z,rfl,hI,ap,aq,hS⟩
 .omega
 have lr:=hI.lt;have bw:=hI.1;have b9:F∈S:=by rw[hS];simp
 obtain⟨⟨⟨xs,xd⟩,xi⟩,hx⟩:∃x,c 0=x:=⟨_,rfl⟩;obtain⟨⟨⟨ys,yd⟩,yi⟩,hy⟩:∃y,c k=y:=⟨_,rfl⟩;have M:=Holds.pop hH hD;have ad:=@Holds.RB c hp;have aw:=sF.pop hD;have R:=hP.pop hD (.int .i64 (0:Nat));have ao:=@PosMap.RB c m;have J:=Pj hL hH;have a5:hp xi=some ⟨xs,xd⟩:=(hH _ _).2 ⟨0,by omega,hx⟩;have aE:=Ow (n:=k) (y:=c k) (λj hj j0=>hL j (by omega) j0);have ac:=zB (i:=xi) hC;have bx:jA (⟨ys,yd⟩:C):=hC _ _ ((hH yi ⟨ys,yd⟩).2 ⟨k,by omega,hy⟩);obtain⟨a1,a2,a3⟩:=hI.cells (k:=0) (by omega);obtain⟨b1,b2,b3⟩:=hI.cells (k:=k) (by omega);rw[hx]at a1 a2 a3 M ad R ao J;rw[hy]at b1 b2 b3 M aw R aE;simp only[Nat.zero_mul,Nat.zero_add]at a1 a2 a3 b1 b2 b3 M ad R ao;have M:=hid M;have ad:=hid ad;have aw:=hid aw;have R:=hid R;have ao:=hid ao;have J:=hid J;have a5:=hid a5;have aE:=hid aE;have ac:=hid ac;have bq:=hid hH;have br:=hid hP;have b4:=hid hD;have Hb:=hid hb;have HM:=hid hM;have HI:=hid hI;have HS:=hid hS;have Hx:=hid hx
 have k0:w.cell? ⟨b,0,none⟩=some (.slice (some ⟨F,0,none⟩) (k+1) z):=by simp[World.cell?,hb]
 have k1:w.cell? ⟨b,1,none⟩=some (.map (some Q)):=by simp[World.cell?,hb]
 have kf:w.frozen? ⟨b,0,none⟩=false:=by simp[World.frozen?,hb]
 clear hb hM hP hH hD hL hC hI hS hx hy aS;go_enter Tryz.func149,Tryz.ntmps149;go_upto_region 6 with(fail);refine au ?_;intro W T;have HW:Below w.heap.size w W:=by rw[T];(repeat' (first|exact Below.refl _ _|assumption|apply aj|apply ah|apply af|(refine aa ?_ (by assumption))))
 have b5:w.heap.size+2<W.heap.size:=by rw[T];simp
 have z1:W.cell? ⟨w.heap.size+1,0,none⟩=some (.int .i64 xs):=by rw[T];go_simp
 have z2:W.cell? ⟨w.heap.size+1,1,none⟩=some (.int .i64 xd):=by rw[T];go_simp
 have z3:W.cell? ⟨w.heap.size+1,2,none⟩=some (.int .i64 xi):=by rw[T];go_simp
 have y1:W.cell? ⟨w.heap.size+1+1,0,none⟩=some (.int .i64 ys):=by rw[T];go_simp
 have y2:W.cell? ⟨w.heap.size+1+1,1,none⟩=some (.int .i64 yd):=by rw[T];go_simp
 have y3:W.cell? ⟨w.heap.size+1+1,2,none⟩=some (.int .i64 yi):=by rw[T];go_simp
 have r1:W.cell? ⟨w.heap.size,0,none⟩=some (.int .i64 0):=by rw[T];go_simp
 have r2:W.cell? ⟨w.heap.size,1,none⟩=some (.int .i64 0):=by rw[T];go_simp
 have f1:W.frozen? ⟨w.heap.size,0,none⟩=false:=by rw[T];go_simp
 have f2:W.frozen? ⟨w.heap.size,1,none⟩=false:=by rw[T];go_simp
 clear T a1 a2 a3 b1 b2 b3;have k0:=(HW.cell (p:=⟨b,0,none⟩) lb).trans k0;have kf:=(HW.frozen (p:=⟨b,0,none⟩) lb).trans kf;go_upto_region 7 with(fail);have bk:=(HW.block b lb).trans Hb.out;have a8:=HI.out.below HW;have bg:=HM.out.below HW;have O:Kept [b] W (W.setCell ⟨b,0,none⟩ (.slice (some ⟨F,0,none⟩) k z)):=(Kept.refl _ _).setCell (.inl (by simp));have a4:(W.setCell ⟨b,0,none⟩ (.slice (some ⟨F,0,none⟩) k z)).heap[b]? =some (.cells #[.slice (some ⟨F,0,none⟩) k z,.map (some Q)] 286 (0,0)):=by rw[fA _ _ _ _ _ _ bk];rfl
 have a9:=(a8.kept O (by simpa using Ne.symm ap)).take k (by omega);have bh:=bg.kept O (by simpa using Ne.symm P);have e3:∀j u,W.cell? ⟨w.heap.size+1,j,none⟩=some u->(W.setCell ⟨b,0,none⟩ (.slice (some ⟨F,0,none⟩) k z)).cell? ⟨w.heap.size+1,j,none⟩=some u:=λj u hu=>(World.cell?_of_block (O.block (w.heap.size+1) (by omega) (by simp;omega))).trans hu;have v3:=e3 _ _ z3;have hK:Kept S w (W.setCell ⟨b,0,none⟩ (.slice (some ⟨F,0,none⟩) k z)):=(Kept.of_below HW).setCell (.inl ab);clear e3 bk a8 bg k0 kf k1;generalize (W.setCell ⟨b,0,none⟩ (.slice (some ⟨F,0,none⟩) k z))=w3 at*;have b0:w3.cell? ⟨b,0,none⟩=some (.slice (some ⟨F,0,none⟩) k z):=by simp[World.cell?,a4]
 have b1:w3.cell? ⟨b,1,none⟩=some (.map (some Q)):=by simp[World.cell?,a4]
 have bv:=O.size;have a7:=hid a4;clear a4;go_still_tail 6,(by kernel_rfl);change wpList _ _ _ _ _ w3.drew;refine qZ rfl _ _ rfl (aG Tryz.underlying3) Tryz.underlying142 (w:=w3.drew) (n:=N) (m:=m) (b:=Q) bh rfl xi rfl ?_;intro B a0 bc;have I:Kept [Q] w3 B:=(Kept.refl _ _).drew.trans bc;have ay:Kept [b,Q] W B:=(O.more (by simp)).trans (I.more (by simp));have ax:Kept S w B:=hK.trans (I.more (by simp;exact bp));have bm:=(I.block b (by have:=O.size;have:=HW.size;omega) (by simpa using P)).trans a7.out;have ba:=a9.kept I (by simpa using aq);have ca:=ay.size
 have g:∀(o j:Nat)u w6,Kept [b,F,Q] B w6->o<=2->W.cell? ⟨w.heap.size+o,j,none⟩=some u->w6.cell? ⟨w.heap.size+o,j,none⟩=some u:=by
  intro o j u w6 a6 ho hu;refine(World.cell?_of_block (a6.block (w.heap.size+o) (by omega) (by simp;omega))).trans ?_;exact(World.cell?_of_block (ay.block (w.heap.size+o) (by omega) (by simp;omega))).trans hu
 have U:∀(o j:Nat)u w6,Kept [b,F,Q] B w6->o<=2->W.frozen? ⟨w.heap.size+o,j,none⟩=u->w6.frozen? ⟨w.heap.size+o,j,none⟩=u:=by
  intro o j u w6 a6 ho hu;refine(World.frozen?_of_block (a6.block (w.heap.size+o) (by omega) (by simp;omega))).trans ?_;exact(World.frozen?_of_block (ay.block (w.heap.size+o) (by omega) (by simp;omega))).trans hu
 have g:=hid g;have U:=hid U;have Z:=hid (And.intro z1 (And.intro z2 (And.intro z3 (And.intro r1 (And.intro r2 (And.intro f1 f2))))));have ai:=hid (show dO B b F z k Q c from⟨bm,ba⟩);clear a9 bh O I hK v3 b0 b1 bv a7 HI HM Hb z1 z2 z3 r1 r2 f1 f2 bm ba ay bc;by_cases bt:k=0
 .subst bt
  have L:=Kept.refl [b,F,Q] B;clear y1 y2 y3;have hO:bf B S b 0 (hset hp xi none):=⟨Q,_,_,c,_,ai.out.1,a0,P,.inr ⟨F,z,rfl,ai.out.2,ap,aq,HS.out⟩,ao.out br.out,ad.out bq.out,λi j hi=>by omega,λj hj=>by omega,ac.out⟩;have an:=ax;clear a0 ax;have z1:=g.out 1 0 _ B L (by omega) Z.out.1;have z2:=g.out 1 1 _ B L (by omega) Z.out.2.1;have z3:=g.out 1 2 _ B L (by omega) Z.out.2.2.1;have r1:=g.out 0 0 _ B L (by omega) Z.out.2.2.2.1;have r2:=g.out 0 1 _ B L (by omega) Z.out.2.2.2.2.1;have f1:=U.out 0 0 _ B L (by omega) Z.out.2.2.2.2.2.1;have f2:=U.out 0 1 _ B L (by omega) Z.out.2.2.2.2.2.2;simp only[Nat.add_zero]at r1 r2 f1 f2;go_upto_region 11 with(fail);have E1:=hid (And.intro hO an);clear hO an;have E2:=hid (uw (x:=.int .i64 xs) (y:=.int .i64 xd) r1 r2);have E3:Kept [w.heap.size] B ((B.setCell ⟨w.heap.size,0,none⟩ (.int .i64 xs)).setCell ⟨w.heap.size,1,none⟩ (.int .i64 xd)).drew:=(((Kept.refl _ _).setCell (.inl (by simp))).setCell (.inl (by simp))).drew
  go_region;go_wp2;obtain⟨q1,q2⟩:=E2.out;generalize ((B.setCell ⟨w.heap.size,0,none⟩ (.int .i64 xs)).setCell ⟨w.heap.size,1,none⟩ (.int .i64 xd)).drew=w8 at q1 q2 E3⊢;refine bodyPost_ret (v:=.tuple #[.int .i64 xi,.agg #[.int .i64 xs,.int .i64 xd],.bool true]) (by simp[results,Tryz.results149,go_sem,q1,q2]) rfl ?_;exact Gq a5.out J.out E1.out.1 E1.out.2 E3 bj.out
 .have ar:=Kept.refl [b,F,Q] B
  have y1:=g.out 2 0 _ B ar (by omega) y1;have y2:=g.out 2 1 _ B ar (by omega) y2;have y3:=g.out 2 2 _ B ar (by omega) y3;have bo:0<k:=by omega
  have b6:decide (0<(k:Int))=true:=by simp;omega
  have b7:decide (0<k)=true:=by simp;omega
  have cP:=hid (gH B b F z k Q _ c _ 0 ⟨⟨ys,yd⟩,yi⟩ ai.out a0 bo ap P aq);clear a0;go_wp2_with fail;refine(cP.out).mono ?_;rintro e w6 ⟨rfl,bb,⟨N6,bi⟩,bd⟩
  have cD:=hid (K6 w6 b F z k Q N6 _ _ 0 bb bi bo (by omega) ap P aq (Holds.cc M.out ac.out) aE.out aw.out (by rw[upd_same];exact R.out));clear bb bi y1 y2 y3 cP ar;go_wp2_with fail;refine(cD.out).mono ?_;rintro e w7 ⟨rfl,hF⟩;obtain⟨hO,be⟩:=hF.K7 ap P aq M.out ac.out;rw[<-HS.out]at hO
  have al:Kept [b,F,Q] B w7:=(bd.more (by simp)).trans (be.more (by simp));have an:Kept S w w7:=ax.trans (al.more (by rw[HS.out];simp));have L:=al;clear hF bd be al cD ax;have z1:=g.out 1 0 _ w7 L (by omega) Z.out.1;have z2:=g.out 1 1 _ w7 L (by omega) Z.out.2.1;have z3:=g.out 1 2 _ w7 L (by omega) Z.out.2.2.1;have r1:=g.out 0 0 _ w7 L (by omega) Z.out.2.2.2.1;have r2:=g.out 0 1 _ w7 L (by omega) Z.out.2.2.2.2.1;have f1:=U.out 0 0 _ w7 L (by omega) Z.out.2.2.2.2.2.1;have f2:=U.out 0 1 _ w7 L (by omega) Z.out.2.2.2.2.2.2;simp only[Nat.add_zero]at r1 r2 f1 f2;go_upto_region 11 with(fail);have E1:=hid (And.intro hO an);clear hO an;have E2:=hid (uw (x:=.int .i64 xs) (y:=.int .i64 xd) r1 r2);have E3:Kept [w.heap.size] w7 ((w7.setCell ⟨w.heap.size,0,none⟩ (.int .i64 xs)).setCell ⟨w.heap.size,1,none⟩ (.int .i64 xd)).drew:=(((Kept.refl _ _).setCell (.inl (by simp))).setCell (.inl (by simp))).drew
  go_region;go_wp2;obtain⟨q1,q2⟩:=E2.out;generalize ((w7.setCell ⟨w.heap.size,0,none⟩ (.int .i64 xs)).setCell ⟨w.heap.size,1,none⟩ (.int .i64 xd)).drew=w8 at q1 q2 E3⊢;refine bodyPost_ret (v:=.tuple #[.int .i64 xi,.agg #[.int .i64 xs,.int .i64 xd],.bool true]) (by simp[results,Tryz.results149,go_sem,q1,q2]) rfl ?_;exact Gq a5.out J.out E1.out.1 E1.out.2 E3 bj.out
end Go.Proofs.YtokhnobcincfjaaGreatDoor
namespace Go.Proofs.YtokhnobcincfjaaGreatDoor
open Go.Lib (hid)
open Go.RowKit Go.Sort
open Go.ChangeMaps (setBlock)
def aO{K:Type}(kf:K->Value)(w:World)(b r:Nat)(m:K->Option Value)(left:K->Prop)(cnt:Nat):Prop:=
 ∃es clk since seen c0,w.heap[b]? =some (.map es clk)/\MapKept.Stamped es clk/\(∀e∈es.toList,∃k,e.key=kf k/\m k=some e.val)/\(∀k v,m k=some v->∃e∈es.toList,e.key=kf k/\e.val=v)/\
  w.heap[r]? =some (.mapIter (some b) since seen c0)/\(∀x∈es.toList,x.born<since)/\(leftOf es seen).size=cnt/\(∀x∈es.toList,∀k,x.key=kf k->(left k↔seen.contains x.born=false))/\(∀k,left k->m k≠none)/\since<=c0/\since<=clk
section
variable {Q:Exit->Act->World->Prop}
variable {P:Program} {kt et mt:TypeId} {K:Type} {kf:K->Value} {w:World} {b r n cnt:Nat} {m:K->Option Value} {left:K->Prop}
theorem aO.map(h:aO kf w b r m left cnt):∃n,MapAt kf w b m n:=by
 obtain⟨z,g,k,u,L,B,F,I,J,_⟩:=h;exact⟨_,z,g,B,F,rfl,I,J⟩
theorem aO.lt(h:aO kf w b r m left cnt):b<w.heap.size/\r<w.heap.size:=by
 obtain⟨I,u,g,k,F,z,J,L,M,B,_⟩:=h;exact⟨(Array.getElem?_eq_some_iff.1 z).1,(Array.getElem?_eq_some_iff.1 B).1⟩
theorem aO.kept{S:List Nat}{w':World}(h:aO kf w b r m left cnt)(z:Kept S w w')(R:b∉S)(T:r∉S):aO kf w' b r m left cnt:=by
 obtain⟨U,Z⟩:=h.lt;obtain⟨F,u,g,k,B,I,J,L,M,O,P⟩:=h;exact⟨F,u,g,k,B,(z.block b U R).trans I,J,L,M,(z.block r Z T).trans O,P⟩
theorem aO.below{w':World}(h:aO kf w b r m left cnt)(g:Below w.heap.size w w'):aO kf w' b r m left cnt:=h.kept (S:=[]) (.of_below g) (by simp) (by simp)
theorem aO.left_eq(h:aO kf w b r m left cnt):w.rangeLeft b r=cnt:=by
 obtain⟨J,u,g,k,I,z,_,_,_,B,_,F,_⟩:=h;simp only[World.rangeLeft,z,B];exact F
theorem aO.iff{g:K->Prop}(h:aO kf w b r m left cnt)(J:∀k,left k↔g k):aO kf w b r m g cnt:=by
 obtain⟨M,B,u,z,L,O,P,R,S,T,U,Z,Q,h9,F⟩:=h;exact⟨M,B,u,z,L,O,P,R,S,T,U,Z,λx hx k I=>(J k).symm.trans (Q x hx k I),λk I=>h9 k ((J k).2 I),F⟩
theorem MapAt.range(inj:∀a b,kf a=kf b->a=b)(S:P.underlying mt=some (.map kt et))(h:MapAt kf w b m n):∃o,(Instr.range mt (.map (some b))).run P w=.ok (.pointer (some ⟨w.heap.size,0,none⟩)) (w.alloc o)/\aO kf (w.alloc o) b w.heap.size m (λk=>m k≠none) n:=by
 have z:=h.lt;obtain⟨B,g,J,I,R,F,O⟩:=h;refine⟨_,run_range_map w mt kt et b B g S J,B,g,g,#[],g,((MapKept.heap_alloc w _).2 b z).trans J,I,F,O,(MapKept.heap_alloc w _).1,I.1,by subst R;simp[leftOf],λx T k u=>?_,λk u=>u,Nat.le_refl _,Nat.le_refl _⟩;obtain⟨U,L,M⟩:=F x T;obtain rfl:=inj _ _ (u.symm.trans L);simp[M]
theorem aO.next(inj:∀a b,kf a=kf b->a=b)(h:aO kf w b r m left cnt)(ty:TypeId):(cnt=0/\(∀k,¬left k)/\(Instr.next (.pointer (some ⟨r,0,none⟩)) false ty).run P w=.ok (.tuple #[.bool false]) w)\/∃k v T J,m k=some v/\left k/\(Instr.next (.pointer (some ⟨r,0,none⟩)) false ty).run P w=.ok (.tuple #[.bool true,kf k,v]) T/\aO kf T b r m (λj=>left j/\j≠k) J/\J<cnt/\Kept [r] w T/\T.heap.size=w.heap.size/\(Instr.entry (.pointer (some ⟨r,0,none⟩))).run P T=.ok (.tuple #[kf k,v]) T:=by
 obtain⟨L,z,g,u,c0,hb,hS,h3,h4,hr,M,rfl,R,ac,ao,ad⟩:=h
 have am:r≠b:=by
  intro e;rw[e,hb]at hr;cases hr
 rcases run_next_at (P:=P) w ty r b g c0 u L z hr hb M ao with⟨h0,B⟩|⟨e,he,w1,I,B⟩
 .refine .inl ⟨h0,λk hk=>?_,B⟩
  cases hm:m k with
  |none=>exact ac k hk hm
  |some v=>
   obtain⟨e,he,U,e2⟩:=h4 k v hm;have:=(R e he k U).1 hk;rw[all_seen L u h0 e he]at this;cases this
 .obtain⟨F,al⟩:=mem_left he
  obtain⟨k,Z,hv⟩:=h3 e F;have an:w1.heap[r]? =some (.mapIter (some b) g u c0):=by rcases I with rfl|rfl<;>exact hr
  have ag:w1.heap[b]? =some (.map L z):=by rcases I with rfl|rfl<;>exact hb
  have hset:=MapKept.heap_set (o':=.mapIter (some b) g (u.push e.born) z) an;have Q:(setBlock w1 r (.mapIter (some b) g (u.push e.born) z)).heap[b]? =some (.map L z):=(hset.2 b (λU=>am U.symm)).trans ag;have S:=(MapKept.stamped_iff L z).1 hS;rw[Z]at B;have ab:=run_entry_at (P:=P) _ r b g u L z e hset.1 Q F S.2.1;rw[Z]at ab;refine .inr ⟨k,e.val,_,_,hv,(R e F k Z).2 al,B,⟨L,z,g,u.push e.born,z,Q,hS,h3,h4,hset.1,M,rfl,λx hx k' O=>?_,λj hj=>ac j hj.1,ad,ad⟩,left_shrinks L u e he,?_,?_,ab⟩
  .show(left k'/\k'≠k)↔_
   rw[R x hx k' O,contains_push,Bool.or_eq_false_iff]
   have:x.born=e.born↔k'=k:=by
    constructor
    .intro ai
     obtain rfl:=born_inj S.2.1 hx F ai;exact inj _ _ (O.symm.trans Z)
    .rintro rfl
     exact congrArg MapEntry.born (entry_eq_of_key S.2.2 hx F (O.trans Z.symm))
   constructor
   .rintro⟨a1,a2⟩
    exact⟨a1,by rw[beq_eq_false_iff_ne];exactλhh=>a2 (this.1 hh)⟩
   .rintro⟨a1,a2⟩
    exact⟨a1,λhh=>by rw[beq_eq_false_iff_ne]at a2;exact a2 (this.2 hh)⟩
  .rcases I with rfl|rfl<;>exact⟨rfl,rfl,rfl,by simp[setBlock],λi _ hi=>hset.2 i (λU=>hi (by rw[U];simp))⟩
  .rcases I with rfl|rfl<;>simp[setBlock]
theorem eB{z:Array Oper}{g:List Oper}{o:Oper}{a:Act}(M:o.guard=none)(J:Operand)(I:o.op=Op.range mt J)(inj:∀a b,kf a=kf b->a=b)(R:P.underlying mt=some (.map kt et))(h:MapAt kf w b m n)(O:a.eval J=.map (some b))(L:∀B,aO kf B b w.heap.size m (λk=>m k≠none) n->Below w.heap.size w B->B.heap.size=w.heap.size+1->wpList P z Q g (a.put o.dst (.pointer (some ⟨w.heap.size,0,none⟩))) B):wpList P z Q (o::g) a w:=by
 refine wpList_plain M λT F=>?_;obtain⟨U,u,S⟩:=h.range inj R;unfold Oper.wp;simp[execOp,I,O,u,Result.andThen];exact F _ _ (L _ S ((Below.refl _ _).alloc (Nat.le_refl _) _) (by simp))
theorem fB{J:Array Oper}{z:List Oper}{o:Oper}{a:Act}(hg:o.guard=none)(R:Operand)(O:o.op=Op.next R false)(inj:∀a b,kf a=kf b->a=b)(h:aO kf w b r m left cnt)(M:a.eval R=.pointer (some ⟨r,0,none⟩))(F:cnt=0->(∀k,¬left k)->wpList P J Q z (a.put o.dst (.tuple #[.bool false])) w)(I:∀(k:K)(v:Value)(B:World)(g:Nat),m k=some v->left k->aO kf B b r m (λj=>left j/\j≠k) g->g<cnt->Kept [r] w B->B.heap.size=w.heap.size->(Instr.entry (.pointer (some ⟨r,0,none⟩))).run P B=.ok (.tuple #[kf k,v]) B->wpList P J Q z (a.put o.dst (.tuple #[.bool true,kf k,v])) B):wpList P J Q (o::z) a w:=by
 refine wpList_plain hg λK' L=>?_;unfold Oper.wp;rcases h.next (P:=P) inj o.type with⟨S,hl,u⟩|⟨k,v,B,g,T,U,u,Z,h4,h5,h6,h7⟩
 .simp[execOp,O,M,u,Result.andThen]
  exact L _ _ (F S hl)
 .simp[execOp,O,M,u,Result.andThen]
  exact L _ _ (I k v B g T U Z h4 h5 h6 h7)
end
end Go.Proofs.YtokhnobcincfjaaGreatDoor
