/- Lemmas of this claim: Sr6, AppN. -/
import Derived.Test.YtokhnobcincfjaaGreatDoorSr5
set_option linter.unusedVariables false
set_option linter.unusedSimpArgs false
set_option maxHeartbeats 6400000
set_option maxRecDepth 100000
namespace Go.Proofs.YtokhnobcincfjaaGreatDoor
open Go.Lib (hid)
open Go.RowKit Go.Sort FR Go.Lib
variable {m n:Nat}
abbrev bJ(W:List Nat):List Int:=W.map λn:Nat=>(n:Int)
def Uk(w:World)(S:LS)(bk:Nat->Int)(g:G)(fin:Nat->Option C)(out:List Ed)(cT:C)(e:Ending)(w':World):Prop:=
 ∃A m Wy,e=.returned (.slice A Wy.length m)/\Wy.length<=m/\Ints w' A Wy.length (λk=>(bJ Wy).getD k 0)/\(∀ad,A=some ad->w.heap.size<=ad.block)/\Wy.length<=2000000/\(Az g fin out cT Wy/\∃P,CW bk (bk 256) P/\Ap S P.reverse Wy)/\Below w.heap.size w w'
def TV(w:World)(S:LS)(g:G)(fin:Nat->Option C)(out:List Ed)(cT:C)(P:List Nat)(lv:Value)(i:Nat)(wr:World):Prop:=
 ∃gl m Wy n,lv=.slice (some ⟨gl,0,none⟩) n m/\Wy.length=n/\0<n/\n<=m/\Ints wr (some ⟨gl,0,none⟩) n (λk=>(bJ Wy).getD k 0)/\w.heap.size<=gl/\n<=1+i*4200/\(Ka S g fin out cT P i Wy/\Ap S (P.take i) Wy)/\Below w.heap.size w wr
theorem Ap.next{S:LS}{P W L:List Nat}{j a b:Nat}(h:Ap S (P.take (j+1)) W)(g:P[j]? =some a)(k:P[j+1]? =some b)(u:LS.Fa S a b L):Ap S (P.take (j+1+1)) (W++L.tail):=by
 obtain⟨z,B⟩:=List.getElem?_eq_some_iff.1 k;obtain⟨F,I⟩:=List.getElem?_eq_some_iff.1 g;rw[List.take_succ_eq_append_getElem z,B];refine .snoc h ?_ u;rw[List.take_succ_eq_append_getElem F,I];simp
theorem yE{g n m:Nat}(u:1<n)(z:n<=m)(w:World):(Instr.sliceAt 22 (.slice (some ⟨g,0,none⟩) n m) (some (.int .i64 1)) none none).run Tryz.prog w=.ok (.slice (some ⟨g,1,none⟩) (n-1) (m-1)) w:=by
 have k:¬m=1:=by omega
 unfold Instr.sliceAt;go_simp;intro q;omega
theorem bF(W:List Nat):(bJ W).length=W.length:=List.length_map _
theorem mF{W:List Nat}{k a:Nat}(h:W[k]? =some a):(bJ W)[k]? =some ((a:Nat):Int):=by rw[List.getElem?_map,h];rfl
theorem xY{W:List Nat}{k a:Nat}(h:W[k]? =some a):(bJ W).getD k 0=((a:Nat):Int):=by rw[List.getD_eq_getElem?_getD,mF h];rfl
theorem Tq(W w:World)(x l cv ct nl mk me mc mb q:Nat)(gv:Value)(Sh Sb:List Nat)(cS cA:Int->Option Value)(mark:Nat->Bool)(fin:Nat->Option C)(lab hp hp0:Nat->Option C)(F:Nat->Int)(g:G)(tp:Nat)(S:LS)(out:List Ed)(h:Nat->C)(k gk:Nat)(cY:tp<=6)(G0:J8 g tp S out fin h)(ca:cz W l cv ct Sb (tp:Nat) (bH g S) nl (gK g S))(hS:oh W w x l mk me mc mb q gv Sh cS cA lab hp0 F)(I:tX g tp S mark fin out h lab hp F k (λ_ _=>False) (λ_ _=>False) gk)(cT:C)(hT:lab 256=some cT):Calls Tryz.prog 150 #[.pointer (some ⟨x,0,none⟩)] w (Uk w S F g fin out cT):=by
 have cM:=G.bR G0.ok;obtain⟨k0,_,_,_,_,k5,_⟩:=hS.cells;obtain⟨nB,cb⟩:=hS.mapB;obtain⟨cB,bd⟩:=Nv.start G0 I hT
 have bm:∀w',Below w.heap.size w w'->∀a:Nat,lab a≠none->(Instr.lookup 142 (.map (some mb)) (.int .i64 ((a:Nat):Int)) false).run Tryz.prog w'=.ok (.int .i64 (F a)) w':=λw' hb a ha=>by
  have:=((cb.below hb).look (aG Tryz.underlying3) Tryz.underlying142 (qy w') ((a:Nat):Int)).2;rw[fM]at this;unfold QX at this;cases hl:lab a with
  |none=>exact absurd hl ha
  |some c=>rw[hl]at this;exact this
 have a5:=bm w (Below.refl _ _) 256 (by rw[hT];simp);have a5:(Instr.lookup 142 (.map (some mb)) (.int .i64 256) false).run Tryz.prog w=.ok (.int .i64 (F 256)) w:=a5;obtain⟨z0,bv⟩:∃z,F 256=z:=⟨_,rfl⟩;rw[bv]at a5 bd;have a1:∀R,CW F z0 R->CW F z0 ([]++R):=λR hR=>hR;replace a1:=hid a1;have cy:=hid bv;have cw:=hid bm;have HS:=hid hS;have HG:=hid (And.intro G0 (And.intro ca I));clear cb bm hS G0 ca I hT bv;go_enter Tryz.func150,Tryz.ntmps150;go_wp2_with fail;clear a5
 go_loopg [3,4] cB (λgk uv nv wr=>∃(L:List Nat)(n:Int),nv=.int .i64 n/\aI wr w.heap.size uv (bJ L)/\Nv S g fin out lab cT L n gk/\Hid (∀R,CW F n R->CW F z0 (L++R))/\Below w.heap.size w wr)
 case atStart=>exact⟨[],z0,rfl,aI.nil _ _,bd,a1,Below.refl _ _⟩
 case round=>
  obtain⟨L,n,rfl,hO,hC,a2,hB⟩:=hrel;clear bd a1;have k0:=ae hB k0;have k5:=ae hB k5;have HO:=hid hO;by_cases cn:0<=n
  .obtain⟨a,rfl⟩:=Int.eq_ofNat_of_zero_le cn
   obtain⟨cC,cl,ag⟩:=Nv.step HG.out.1 HG.out.2.2 hC
   have a8:lab a≠none:=by
    obtain⟨p,e,d,t,_,_,h3⟩:=hC;rcases h3 with⟨a',e1,_,h4,_⟩|⟨e1,_⟩
    .obtain rfl:a=a':=by omega
     rw[h4];simp
    .omega
   have bg:L.length<=258:=by
    obtain⟨p,e,d,t,_,_,h3⟩:=hC;rcases h3 with⟨_,_,_,_,_,_,_,h8⟩|⟨e1,_⟩
    .omega
    .omega
   have cJ:(bJ L).length<1099511627776:=by rw[List.length_map];omega
   have aE:=hid ag;have cx:=hid a8;have bb:bJ (L++[a])=bJ L++[((a:Nat):Int)]:=by simp
   have b4:=hid bb;have cX:=hB.size;clear hC hO ag a8 bb;go_upto_region 4 with(at_builtin;(refine bK _ rfl _ _ rfl w.heap.size _ (bJ L) ((a:Nat):Int) rfl (HO.out.alloc _) ⟨wr.heap.size,0,none⟩ rfl (dm _ _ _) cJ (by simp;omega) ?_);intro v' w9 u aw);have aS:Below w.heap.size w w9:=below_grown (af hB) (by simp;omega) (HO.out.alloc _) aw;rw[<-b4.out]at u;have b0:=hid u;have a6:=cw.out w9 aS a cx.out;have k0:=HG.out;have k5:w9.cell? ⟨x,5,none⟩=some (.map (some mb)):=(HS.out.below aS).cells.2.2.2.2.2.1;obtain⟨za,cs⟩:∃z,F a=z:=⟨_,rfl⟩;have ag:=aE.out;have ao:∀R,CW F (F a) R->CW F z0 ((L++[a])++R):=λR hR=>by rw[List.append_assoc];exact a2.out _ (.cons hR)
   rw[cs]at a6 ag ao;have aE:=hid ag;replace ao:=hid ao;clear aw u HO cs ag k0 a2;go_wp2;go_roundg cC
   case measure=>omega
   case rel=>first|exact⟨L++[a],za,rfl,b0.out,aE.out,ao,aS⟩|((repeat apply Exists.intro);exact⟨⟨L++[a],za,rfl,b0.out,aE.out,ao,aS⟩,rfl⟩)
  .obtain⟨s,P,Z,a4⟩:=Ka.start (S:=S) (g:=g) (by omega:n<0) hC
   have bg:L.length<=258:=by
    obtain⟨p,e,d,t,_,_,h3⟩:=hC;rcases h3 with⟨a',e1,_⟩|⟨_,_,_,_,_,_,_,_,h8⟩
    .omega
    .exact h8
   have ay:(bJ L).reverse=bJ (s::P):=by rw[<-Z];exact List.map_reverse.symm
   have cd:(s::P).length<=258:=by rw[<-Z,List.length_reverse];exact bg
   have cR:=BG wr w.heap.size _ _ hO (by rw[bF];omega) hB.size;rw[ay]at cR;have cR:=hid cR
   have an:CW F (F 256) (s::P).reverse:=by
    have:=a2.out [] (.nil (by omega));rw[List.append_nil,<-cy.out]at this;rw[<-Z,List.reverse_reverse];exact this
   obtain⟨Q,hQ⟩:∃Q,s::P=Q:=⟨_,rfl⟩;have ce:0<Q.length:=by rw[<-hQ];simp
   have a4:Ka S g fin out cT Q 1 [s]:=by rw[<-hQ];exact a4
   have cg:Q[0]? =some s:=by rw[<-hQ];rfl
   rw[hQ]at cR cd an
   have b8:Ap S (Q.take 1) [s]:=by
    have e1:Q.take 1=[s]:=by rw[<-hQ];simp
    rw[e1];exact .one s
   have b1:=hid (And.intro (And.intro a4 b8) cg);have bx:=hid an;clear hC hO HO Z ay bg a4 b8 hQ cg an a2;go_wp2_with fail;(with_reducible refine cR.out.mono ?_);rintro e w2 ⟨rfl,ai,b7⟩;have bw:Below w.heap.size w w2:=hB.trans b7;obtain⟨B,mu,rfl,cm⟩:=ai.addr (by rw[bF];exact ce);rw[bF]at cm⊢;obtain⟨nP,br⟩:∃z,Q.length=z:=⟨_,rfl⟩;have cH:w.heap.size<=B:=(World.ownsRow.lt ai B rfl).1;have ar:=λ(k:Nat)(a:Nat)(hk:Q[k]? =some a)=>ai.cell (mF hk);have ac:=hid (And.intro ar br)
   have cq:TV w S g fin out cT Q (.slice (some ⟨B,0,none⟩) 1 mu) 1 w2:=by
    refine⟨B,mu,[s],1,rfl,rfl,by omega,by omega,λ_=>⟨_,rfl,(World.ownsRow.lt ai B rfl).2,λk hk=>?_⟩,cH,by omega,b1.out.1,bw⟩;obtain rfl:k=0:=by omega
    have:=ai.cell (mF b1.out.2);rw[Addr.add_lit];exact this
   have k0:=(HS.out.below bw).cells.1;rw[br]at cm ce cd⊢;clear ar ai br cR b7 hB k5;go_wp2_with fail;obtain⟨wz,rfl⟩:∃wz:World,wz=w2:=⟨_,rfl⟩
   go_loopw [5,6] (λlv iv wr=>∃(j:Nat)(xi:Int),iv=.int .i64 xi/\xi=(j:Int)+1/\j+1<=nP/\TV w S g fin out cT Q lv (j+1) wr/\Below wz.heap.size wz wr) (λ_ iv _=>nP-(intOf iv).toNat)
   case atStart=>exact⟨0,1,rfl,rfl,by omega,cq,Below.refl _ _⟩
   case round=>
    obtain⟨j,xi,rfl,bt,hj,cF,am⟩:=hrel;clear cq;obtain⟨gl,ml,Wy,n1,rfl,J,cL,cN,a3,cG,cW,al,a0⟩:=cF;by_cases cl:j+1<nP
    .obtain⟨a,ha⟩:∃a,Q[j]? =some a:=⟨_,List.getElem?_eq_getElem (by rw[ac.out.2];omega)⟩
     obtain⟨b,hb⟩:∃b,Q[j+1]? =some b:=⟨_,List.getElem?_eq_getElem (by rw[ac.out.2];omega)⟩;obtain⟨c,m,bo,ax⟩:=al.1.step (by omega) (x:=a) (by simpa using ha) hb;obtain⟨aq,ci,_⟩:=HG.out.1.fn.bG a b (by rw[bo];simp);have a8:=HG.out.1.fn.levs a aq;have cI:=HG.out.1.fn.levs b ci;obtain⟨O,u1,u2,u3,u4⟩:=LH l cv ct nl Sb g S tp (tp:Nat) HG.out.1.ok HG.out.1.fn 12 a b c m (by omega) (by omega) bo
     have b9:O.length<=4097/\2<=O.length:=by
      have cV:2^12=4096:=by decide
      obtain⟨M,hM⟩:=u1.ends;refine⟨by omega,?_⟩;rw[hM];simp
     have cp:=And.intro (ax O u1 u2) (al.2.next ha hb u1);have hd:=ah (Below.refl wr.heap.size wr);have cU:=hid (u4 wr.drew (HG.out.2.1.below (aa HS.out.bel (aa a0 hd))));have c1:wr.cell? ⟨B,j,none⟩=some (.int .i64 (a:Nat)):=ae am (ac.out.1 j a ha);have c2:wr.cell? ⟨B,j+1,none⟩=some (.int .i64 (b:Nat)):=ae am (ac.out.1 (j+1) b hb);have k0:=ae am k0;have q0:wr.drew.cell? ⟨x,0,none⟩=some (.pointer (some ⟨l,0,none⟩))/\wr.drew.cell? ⟨B,j,none⟩=some (.int .i64 (a:Nat))/\wr.drew.cell? ⟨B,j+1,none⟩=some (.int .i64 (b:Nat)):=⟨ae hd k0,ae hd c1,ae hd c2⟩;have cP:IntKind.i64.wrap (xi-1)=((j:Nat):Int):=by rw[IntWalk.i64_in _ (by omega)];omega
     have cj:∀wx,(Instr.indexAt 22 (.slice (some ⟨B,0,none⟩) nP mu) (.int .i64 ((j:Nat):Int))).run Tryz.prog wx=.ok (.pointer (some ⟨B,j,none⟩)) wx:=λwx=>by
      have:=aX (A:=some ⟨B,0,none⟩) (m:=mu) rfl (show j<nP by omega) wx;rw[Addr.add_lit,Nat.zero_add]at this;exact this
     have ck:∀wx,(Instr.indexAt 22 (.slice (some ⟨B,0,none⟩) nP mu) (.int .i64 xi)).run Tryz.prog wx=.ok (.pointer (some ⟨B,j+1,none⟩)) wx:=λwx=>by
      have:=aX (A:=some ⟨B,0,none⟩) (m:=mu) rfl cl wx;rw[Addr.add_lit,Nat.zero_add,show((j+1:Nat):Int)=xi by omega]at this;exact this
     have cQ:xi<(nP:Int):=by omega
     have c0:IntKind.i64.wrap (xi+1)=xi+1:=IntWalk.i64_in _ (by omega);have b6:=hid bt;have Hn:=hid (And.intro cp (And.intro b9 J));have ab:=hid a3;clear ha hb bo ax aq ci a8 cI u1 u2 u3 u4 b9 cp bt J a3 al k0 c1 c2;go_upto_region 11 with(fail)
     go_region_held3 (λw'=>w'.cell? ⟨x,0,none⟩=some (.pointer (some ⟨l,0,none⟩))/\w'.cell? ⟨B,j,none⟩=some (.int .i64 (a:Nat))/\w'.cell? ⟨B,j+1,none⟩=some (.int .i64 (b:Nat)))
      (first
       |exact q0
       |exact q1)
      (first
       |(go_at_call 201
         refine cU.out.mono ?_;rintro e w5 ⟨vU,rfl,bh,ap⟩;have q1:w5.cell? ⟨x,0,none⟩=some (.pointer (some ⟨l,0,none⟩))/\w5.cell? ⟨B,j,none⟩=some (.int .i64 (a:Nat))/\w5.cell? ⟨B,j+1,none⟩=some (.int .i64 (b:Nat)):=⟨ae ap q0.1,ae ap q0.2.1,ae ap q0.2.2⟩))
     have T:=aa hd ap;have bc:=hid (And.intro (aa a0 T) (aa am T));obtain⟨g2,mU,rfl,bq⟩:=bh.addr (by rw[List.length_map];have:=Hn.out.2.1.2;omega);rw[List.length_map]at bq⊢;obtain⟨nU,a9⟩:∃z,O.length=z:=⟨_,rfl⟩
     have aq:∀(k:Nat)(z:Int),(bJ O.tail)[k]? =some z->w5.cell? ((⟨g2,1,none⟩:Addr).add k)=some (.int .i64 z):=λk z hz=>by
      rw[Addr.add_lit];refine bh.cell (k:=1+k) ?_;rw[List.getElem?_map,List.getElem?_tail]at hz;rw[List.getElem?_map,Nat.add_comm];exact hz
     have b2:=hid (And.intro aq a9);have ab:=hid (ab.out.below T);have cD:1<nU:=by have:=Hn.out.2.1.2;omega
     rw[a9]at bq⊢;have bi:(bJ O.tail).length=nU-1:=by rw[List.length_map,List.length_tail,a9]
     have co:n1+(nU-1)<1099511627776:=by have:=Hn.out.2.1.1;omega
     have J:(bJ Wy).length=n1:=by rw[bF];exact Hn.out.2.2
     clear aq bh a9 q0 q1 cU hd ap T a0 am cj ck cP cQ;have a7:=ah (Below.refl w5.heap.size w5);have ab:=hid (ab.out.below a7);have b3:=hid (λk z hz=>ae a7 (b2.out.1 k z hz));have cO:=yE (g:=g2) cD bq;go_upto_region 12 with(fail);go_still_tail 8,(by kernel_rfl);change wpList _ _ _ _ _ w5.drew;go_wp2_with (at_builtin;(refine iI _ rfl _ _ rfl (some ⟨gl,0,none⟩) n1 (bJ Wy) (bJ O.tail) rfl J cL ab.out ⟨g2,1,none⟩ (nU-1) _ rfl bi (by omega) b3.out co ?_);intro v' w9 u a6)
     have U:(bJ (Wy++O.tail)).length=n1+(nU-1):=by rw[bF,List.length_append,<-bF Wy,J,<-bF O.tail,bi]
     have ba:bJ Wy++bJ O.tail=bJ (Wy++O.tail):=by simp
     rw[ba]at u;obtain⟨g9,m9,rfl,bp⟩:=u.addr (by rw[U];omega);have h9:=(World.ownsRow.lt u g9 rfl).1;have bj:=aa a7 a6
     have be:Ints w9 (some ⟨g9,0,none⟩) (bJ (Wy++O.tail)).length (λk=>(bJ (Wy++O.tail)).getD k 0):=by
      obtain⟨A',m',e1,e2⟩:=u.ints;injection e1 with e1 _ _
      rw[e1];exact e2
     rw[U]at bp be⊢
     have hF:TV w S g fin out cT Q (.slice (some ⟨g9,0,none⟩) (n1+(nU-1)) m9) (j+1+1) w9:=by
      refine⟨g9,m9,Wy++O.tail,_,rfl,by rw[<-U,bF],by omega,bp,be,?_,?_,Hn.out.1,aa bc.out.1 bj⟩
      .have:=bc.out.1.size;have:=a7.size;omega
      .have:=Hn.out.2.1.1;rw[b2.out.2]at this;omega
     have hF:=hid (And.intro hF (aa bc.out.2 bj));clear u a6 U ba be bp h9 bj bi co J ab b3 cO;have cr:xi+1=((j+1:Nat):Int)+1:=by have:=b6.out;omega
     have b5:=hid cr;clear cr;go_wp2;go_roundw
     case rel=>first|exact⟨j+1,_,rfl,b5.out,by omega,hF.out.1,hF.out.2⟩|((repeat apply Exists.intro);exact⟨⟨j+1,_,rfl,b5.out,by omega,hF.out.1,hF.out.2⟩,rfl⟩)
     case measure=>have:=b6.out;simp[intOf];omega
    .obtain rfl:nP=j+1:=by omega
     have hF:Uk w S F g fin out cT (.returned (.slice (some ⟨gl,0,none⟩) n1 ml)) wr:=by
      have ch:Ka S g fin out cT Q Q.length Wy:=by rw[ac.out.2];exact al.1
      have cE:Ap S Q Wy:=by
       have:=al.2;rwa[List.take_of_length_le (by rw[ac.out.2];exact Nat.le_refl _)]at this
      subst J;exact⟨_,ml,Wy,rfl,cN,a3,(λad e=>by injection e with e;rw[<-e];exact cG),by omega,⟨ch.fin,Q.reverse,bx.out,by rw[List.reverse_reverse];exact cE⟩,a0⟩
     have hF:=hid hF;have c4:¬xi<((j+1:Nat):Int):=by omega
     clear bt J a3 al;go_wp2;go_ret;exact hF.out
theorem tV(w:World)(ty:TypeId)(B:Nat)(v:Value)(L O:List Int)(I:aI w B v L)(h0:0<L.length)(ad:Addr)(m c:Nat)(hm:O.length=m)(hc:∀k z,O[k]? =some z->w.cell? (ad.add k)=some (.int .i64 z))(hl:L.length+m<1099511627776)(hB:B<=w.heap.size):∃Z w',(Builtin.append_ #[22,22] ty #[v,.slice (some ad) m c]).run Tryz.prog w=.ok Z w'/\aI w' B Z (L++O)/\w.grownBy w' v.ownBlock/\∀k,Z.ownBlock=some k->v.ownBlock=some k\/w.heap.size<=k:=by
 obtain⟨i0,hi,T,M,U⟩:=info_parts mD;have hn:(O.map (Value.int .i64)).length=m*i0.size:=by rw[List.length_map,hm,M,Nat.mul_one]
 have F:∀(j:Nat)(u:Value),(O.map (Value.int .i64))[j]? =some u->w.cell? (ad.add j)=some u:=λj u hu=>by
  rw[List.getElem?_map]at hu;obtain⟨z,hz,rfl⟩:=Option.map_eq_some_iff.1 hu;exact hc j z hz
 have Q:∀u∈O.map (Value.int .i64),u.oneCell'=true:=λu hu=>by
  obtain⟨z,_,rfl⟩:=List.mem_map.1 hu;rfl
 obtain⟨Z,w',hr,h2,h3,_⟩:=run_append_own (P:=Tryz.prog) w B 22 ty 3 i0 (.int .i64 0) 1 8 Tryz.underlying22 hi T M U rfl (by decide) v L.length (L.map (Value.int .i64)) I ad m c (O.map (Value.int .i64)) (by rw[List.length_map];omega) F Q (by unfold maxLen;omega) (by omega) hB;refine⟨Z,w',hr,?_,h3,?_⟩
 .unfold aI
  rw[List.length_append,hm,List.map_append];exact h2
 .intro k hk
  rcases I.2 with⟨_,hz⟩|⟨g,R,ab,rfl,ai,hg,am,al,ac,ag⟩
  .omega
  .by_cases S:L.length+m<=R
   .have J:=run_append_room (P:=Tryz.prog) w 22 ty 3 i0 Tryz.underlying22 hi g L.length R ab hg ad m c (O.map (Value.int .i64)) hn F Q S (by rw[hn,M,ac];omega)
    rw[hr]at J;injection J with e1 e2
    rw[e1]at hk;exact .inl hk
   .have J:=run_append_grow (P:=Tryz.prog) w 22 ty 3 i0 (.int .i64 0) Tryz.underlying22 hi T ⟨g,0,none⟩ L.length R (L.map (Value.int .i64)) (by rw[List.length_map,M,Nat.mul_one]) (World.ownsRow.cells I (g:=g) rfl) ad m c (O.map (Value.int .i64)) hn F (by omega) (by omega) (growslice_fits (by omega) (by rw[U];omega))
    rw[hr]at J;injection J with e1 e2
    rw[e1]at hk;simp[Value.ownBlock]at hk;exact .inr (by omega)
theorem nZ{F:Array Oper}{g:List Oper}{o:Oper}{a:Act}{Q:Exit->Act->World->Prop}(w:World)(O:o.guard=none)(s x:Operand)(ho:o.op=.call {callee:=.builtin .append,args:=#[s,x],argTypes:=#[22,22]})(B:Nat)(v:Value)(L M:List Int)(hs:a.eval s=v)(u:aI w B v L)(P:0<L.length)(ad:Addr)(m c:Nat)(hx:a.eval x=.slice (some ad) m c)(hm:M.length=m)(hc:∀k z,M[k]? =some z->w.cell? (ad.add k)=some (.int .i64 z))(hl:L.length+m<1099511627776)(U:B<=w.heap.size)(h:∀I J,aI J B I (L++M)->w.grownBy J v.ownBlock->(∀k,I.ownBlock=some k->v.ownBlock=some k\/w.heap.size<=k)->wpList Tryz.prog F Q g (a.put o.dst I) J):wpList Tryz.prog F Q (o::g) a w:=by
 refine wpList_plain O λK Z=>?_;obtain⟨I,J,hr,R,S,T⟩:=tV w o.type B v L M u P ad m c hm hc hl U;unfold Oper.wp execOp;simp only[ho,resolve,invoke,builtin,Sem.run_bind,Sem.run_pure,Result.andThen_ok,List.map_toArray,List.map_cons,List.map_nil,hs,hx,hr];exact Z _ _ (h I J R S T)
theorem EF{ad:Addr}(g:0<n)(k:n<=m)(w:World):(Instr.sliceAt 22 (.slice (some ad) n m) none (some (.int .i64 (n:Nat))) (some (.int .i64 (n:Nat)))).run Tryz.prog w=.ok (.slice (some ad) n n) w:=by
 unfold Instr.sliceAt;go_simp
theorem EJ{g n m:Nat}(F:0<n)(z:n<=m):∃o,(1<n->o=1)/\∀w,(Instr.sliceAt 22 (.slice (some ⟨g,0,none⟩) n m) (some (.int .i64 1)) none none).run Tryz.prog w=.ok (.slice (some ⟨g,o,none⟩) (n-1) (m-1)) w:=by
 by_cases u:1<n
 .exact⟨1,λ_=>rfl,λw=>yE u z w⟩
 .obtain rfl:n=1:=by omega
  by_cases k:m=1
  .subst k
   refine⟨0,λh=>absurd h (by omega),λw=>?_⟩;unfold Instr.sliceAt;go_simp
  .refine⟨1,λh=>absurd h (by omega),λw=>?_⟩
   have B:¬m=1:=k;unfold Instr.sliceAt;go_simp;try (intro q;omega)
