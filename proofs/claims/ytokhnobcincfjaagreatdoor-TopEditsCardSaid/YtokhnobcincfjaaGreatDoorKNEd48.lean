/- Lemmas of this claim: NavTop, RRight, Asks, SameA, AnsOwn. -/
import Derived.Test.YtokhnobcincfjaaGreatDoorKNEd43
import Derived.Test.YtokhnobcincfjaaGreatDoorRTx2
set_option linter.unusedVariables false
set_option linter.unusedSimpArgs false
set_option maxHeartbeats 6400000
set_option maxRecDepth 100000
namespace Go.Proofs.YtokhnobcincfjaaGreatDoor
open Go.Lib (hid)
open Go.RowKit Go.Sort FR Go.Lib
variable {g:G}{x y:Int}{S:List Nat}{B b er k most n o:Nat}{f:Nat->Int×Int}{A:Option Addr}{v:Value}{w w':World}
theorem BJ{e:Ending}(h:Laid w e w'):(e=.returned (.tuple #[.pointer none,.pointer none,.bool false])/\Below w.heap.size w w')\/∃p q g v,e=.returned (.tuple #[.pointer (some ⟨p,0,none⟩),.pointer (some ⟨q,0,none⟩),.bool true])/\aB w' q g v/\(w.heap.size<=q/\0<=v/\v<=300)/\Below w.heap.size w w':=by
 rcases h with h|⟨p,q,g,v,u,M,O,L,z,I,J,F⟩
 .exact .inl h
 .exact .inr ⟨p,q,g,v,u,z,⟨by omega,I,J⟩,F⟩
def R6(g:G):G:=match bZ (di g)with
 |.ok a b R=>eU a b R (b*a)
 |.bad _=>g
def TH(g2 g:G):Prop:=g2=R6 g/\bX g2 g
theorem ow(w:World)(Q:pQ w)(g:G)(F:g.ok)(m:Nat)(B:1<=m)(S:m<=6):Calls Tryz.prog 17 #[.string (bs (di g)),.int .i64 (m:Nat)] w λe I=>∃s L,e=.returned (.tuple #[.pointer (some ⟨s,0,none⟩),.nilIface])/\TH L g/\iE w.heap.size I s L ((gB g.b g.n:Nat):Int) m/\Below w.heap.size w I:=by
 refine(Gd w Q (di g) (m:Nat)).mono ?_;obtain⟨J,hp1,_,u⟩:=mG g F;rintro e I (⟨k,_,_,_,h|⟨_,h,_⟩⟩|⟨a,b,R,Z,s,O,hm,_,_,U,M,T⟩)
 .rw[hp1]at h;cases h
 .omega
 .rw[hp1]at O
  cases O;obtain rfl:Z=m:=by omega
  have P:gB (gI g.w J) (g.h*g.w)=gB g.b g.n:=by
   rw[Nat.mul_comm];exact oV (λc z=>u c z)
  rw[P]at M;refine⟨s,eU g.w g.h J (g.h*g.w),U,⟨by unfold R6;rw[hp1],rfl,rfl,λc z=>?_⟩,M,T⟩;rw[<-u c z];unfold eU;simp only;rw[decide_eq_true (by rw[Nat.mul_comm];exact z),Bool.true_and]
def J6(w:World)(most:Int)(e:Ending)(w':World):Prop:=
 Below w.heap.size w w'/\((∃x p,e=.returned (.tuple #[x,.pointer p,.bool false]))\/
  ∃s q g g2 v m,e=.returned (.tuple #[.pointer (some ⟨s,0,none⟩),.pointer (some ⟨q,0,none⟩),.bool true])/\TH g2 g/\(aB w' q g v/\0<=v/\v<=300/\g.n<=120/\w.heap.size<=q)/\iE (q+1) w' s g2 ((gB g.b g.n:Nat):Int) m/\most=((m:Nat):Int))
theorem Js(Q:World)(hV:pQ Q)(a b:Int)(A:Option Addr)(n m:Nat)(f:Nat->Int)(h:Ints Q A n f)(hn:n<=9223372036854775807)(most:Int):Calls Tryz.prog 12 #[.agg #[.int .i64 a,.int .i64 b,.slice A n m],.int .i64 most] Q (J6 Q most):=by
 replace hV:=hid hV;replace hn:=hid hn;go_enter Tryz.func12,Tryz.ntmps12;go_upto_region 1 with(fail);refine au ?_;intro W hW;have HW:Below Q.heap.size Q W:=by rw[hW];(repeat' (first|exact Below.refl _ _|assumption|apply aj|apply ah|apply af|(refine aa ?_ (by assumption))))
 have c0:W.cell? ⟨Q.heap.size,0,none⟩=some (.int .i64 a):=by rw[hW];go_simp
 have c1:W.cell? ⟨Q.heap.size,1,none⟩=some (.int .i64 b):=by rw[hW];go_simp
 have c2:W.cell? ⟨Q.heap.size,2,none⟩=some (.slice A n m):=by rw[hW];go_simp
 clear hW;go_wp2_with fail;refine(Lp a b A n m f _ (h.below HW) hn.out).mono ?_;intro e Z hL
 rcases BJ hL with⟨rfl,u⟩|⟨p,q,g,v,rfl,S,hq,u⟩
 .have L:=aa HW u
  clear hL c0 c1 c2 HW u;go_upto_region 2 with(fail);refine wp_region_quiet_below (by kernel_rfl) (by kernel_rfl) ?_;repeat (first|go_big_quiet_step (fail)|quiet_step (fail))
  refine wpQuiet_nil ?_;intro _ P;obtain⟨⟨J,osq⟩,F⟩:=P;have z:=aa L (below_regrown Z J osq);have u:=below_regrown Z J osq;subst F;generalize grow (redrawn Z J) osq=w3 at z u⊢;go_wp2_with fail;go_ret3;exact⟨z,.inl ⟨_,_,rfl⟩⟩
 have L:=aa HW u;have ao:=HW.size;replace hq:=hid hq;clear hL c0 c1 c2 HW u;obtain⟨s1,s2⟩:=S.size;have U:=S.1;have ad:=G.bR U;have en:((g.n:Nat):Int)=(g.w:Int)*g.h:=by unfold G.n;simp
 have hw:IntKind.i64.wrap ((g.w:Int)*g.h)=(g.w:Int)*g.h:=IntWalk.i64_in _ (by omega);have ai:=cell_regrown s1;have al:=cell_regrown s2;replace U:=hid U;replace S:=hid S;by_cases B:120<(g.w:Int)*g.h
 .have hd:decide (120<(g.w:Int)*g.h)=true:=by simp;omega
  clear B en ad;go_upto_region 2 with(fail);refine wp_region_quiet_below (by kernel_rfl) (by kernel_rfl) ?_;repeat (first|go_big_quiet_step (fail)|quiet_step (fail))
  refine wpQuiet_nil ?_;intro _ P;obtain⟨⟨J,osq⟩,F⟩:=P;have z:=aa L (below_regrown Z J osq);have u:=below_regrown Z J osq;subst F;generalize grow (redrawn Z J) osq=w3 at z u⊢;go_wp2_with fail;go_ret3;exact⟨z,.inl ⟨_,_,rfl⟩⟩
 have hd:decide (120<(g.w:Int)*g.h)=false:=by simp;omega
 have ab:g.n<=120:=by omega
 clear B en ad;go_upto_region 2 with(fail);refine wp_region_quiet_below (by kernel_rfl) (by kernel_rfl) ?_;repeat (first|go_big_quiet_step (fail)|quiet_step (fail))
 refine wpQuiet_nil ?_;intro _ P;obtain⟨⟨J,osq⟩,F⟩:=P;have z:=aa L (below_regrown Z J osq);have u:=below_regrown Z J osq;subst F;generalize grow (redrawn Z J) osq=w3 at z u⊢;have I:=hid (S.out.below u S.out.lt);clear s1 s2 ai al hw hd S L u osq J;have cP:=hid (ME w3 q g v I.out);go_wp2_with fail;refine cP.out.mono ?_;rintro e w4 ⟨rfl,M⟩;have T:=aa z M;have an:=I.out.lt
 by_cases hm:1<=most/\most<=6
 .obtain⟨m,rfl⟩:=Int.eq_ofNat_of_zero_le (show 0<=most by omega)
  have cL:=hid (ow w4 (hV.out.below T) g U.out m (by omega) (by omega));have am:=M.size;replace I:=hid (I.out.below M I.out.lt);clear cP M z hm;go_wp2_with fail;refine cL.out.mono ?_;rintro e w5 ⟨s,g2,rfl,ac,hS,O⟩
  have hF:J6 Q ((m:Nat):Int) (.returned (.tuple #[.pointer (some ⟨s,0,none⟩),.pointer (some ⟨q,0,none⟩),.bool true])) w5:=
   ⟨aa T O,.inr ⟨s,q,g,g2,v,m,rfl,ac,⟨I.out.below O I.out.lt,hq.out.2.1,hq.out.2.2,ab,by have:=hq.out.1;omega⟩,hS.mono (by omega),rfl⟩⟩
  replace hF:=hid hF;clear hS ac O;go_wp2_with fail;go_ret3;exact hF.out
 .have cL:=hid (Gd w4 (hV.out.below T) (di g) most)
  clear cP M z;go_wp2_with fail;refine cL.out.mono ?_
  rintro e w5 (⟨k,hk,rfl,O,_⟩|⟨a',b',R,m',s,hp,rfl,h1,h2,_⟩)
  .have ag:=aa T O
   clear hm;go_wp2_with fail;go_ret3;exact⟨ag,.inl ⟨_,_,rfl⟩⟩
  .exact absurd (by omega) hm
def g22:G:=⟨2,2,λ_=>false⟩
theorem Bp:g22.dz 0 3:=by
 have e:g22.E 0 3 (g22.bV 0 3):=⟨by decide,3,by decide,by decide+kernel,by decide+kernel,by decide+kernel⟩;have:=Walk.snoc (.nil 0) e;rwa[C.zero_add]at this
theorem LX(w:World):Calls Tryz.prog 30 #[.int .i64 2,.int .i64 2,.int .i64 1] w (P6 w g22 0 1):=by
 go_enter Tryz.func30,Tryz.ntmps30;go_wp2_with fail;(with_reducible refine(o6 2 2 _ (by decide)).mono ?_);rintro e O ⟨M,rfl,hp0,I,z⟩;have L:=hid (vD O M g22 0 1 I (by decide) (by decide));clear I;go_wp2_with fail;refine L.out.mono ?_;intro e P J;obtain⟨s,rfl,u,F⟩:=J.fr z hp0;replace u:=hid u;clear J;go_wp2_with fail;go_ret2;exact⟨s,rfl,u.out,F⟩
theorem Sz{W:List Nat}{c:C}(h:cu g22 0 3 W c er):er=0/\c=⟨0,1⟩/\W.length=2:=by
 rcases h with⟨h,_⟩|⟨a,b,P,Q,J,L,M,O,I⟩
 .exact absurd (by decide+kernel) h
 .obtain rfl:a=0:=by omega
  obtain rfl:b=3:=by omega
  rcases I with⟨h,_⟩|⟨u,z,F,_⟩
  .exact absurd Bp (h _)
  .obtain rfl:c=⟨0,1⟩:=bP.unique u (G.x8.1 Bp)
   have:=Ef F;simp only at this;exact⟨z,rfl,by omega⟩
theorem ET(w:World):Calls Tryz.prog 11 #[] w λe U=>e=.returned (.bool true)/\Below w.heap.size w U:=by
 go_enter Tryz.func11,Tryz.ntmps11;go_wp2_with fail;refine(LX w).mono ?_;rintro e Z ⟨s,rfl,Q,I⟩;have O:=hid (Eh Z s g22 0 1 Q.RO 0 3);clear Q;go_wp2_with fail;refine O.out.mono ?_;rintro e z ⟨W,c,S,A,m,P,rfl,R,_,J⟩;obtain⟨rfl,rfl,T⟩:=Sz P;rw[T];have M:=aa I J;clear P R O
 rw[show(Value.agg #[.slice A 2 m,.int .i64 (⟨0,1⟩:C).s,.int .i64 (⟨0,1⟩:C).d,.int .i64 ((0:Nat):Int)])=.agg #[.slice A 2 m,.int .i64 0,.int .i64 1,.int .i64 0]from rfl];go_upto_region 5 with(fail);refine au ?_;intro F u;have L:Below z.heap.size z F:=by rw[u];(repeat' (first|exact Below.refl _ _|assumption|apply aj|apply ah|apply af|(refine aa ?_ (by assumption))))
 have g:F.cell? ⟨z.heap.size,0,none⟩=some (.slice A 2 m):=by rw[u];go_simp
 have k:F.cell? ⟨z.heap.size,1,none⟩=some (.int .i64 0):=by rw[u];go_simp
 have B:F.cell? ⟨z.heap.size,2,none⟩=some (.int .i64 1):=by rw[u];go_simp
 have c3:F.cell? ⟨z.heap.size,3,none⟩=some (.int .i64 0):=by rw[u];go_simp
 replace M:=aa M L;clear u L I J;go_wp2_with fail;go_ret;exact⟨rfl,M⟩
theorem RG(w:World)(xb q:Nat)(g:G)(v:Int)(hx:w.cell? ⟨xb,0,none⟩=some (.pointer (some ⟨q,0,none⟩)))(P:aB w q g v)(fr al:Int)(A:Option Addr)(n m:Nat)(Wy:List Nat)(hn:Wy.length=n)(cs cd:Int)(er:Nat)(hA:cu g fr al Wy ⟨cs,cd⟩ er)(hI:Ints w A n (λk=>(bJ Wy).getD k 0)):Calls Tryz.prog 27 #[.pointer (some ⟨xb,0,none⟩),.int .i64 fr,.int .i64 al,.agg #[.slice A n m,.int .i64 cs,.int .i64 cd,.int .i64 (er:Nat)]] w λe w'=>e=.returned (.bool true)/\Below w.heap.size w w':=by
 go_enter Tryz.func27,Tryz.ntmps27;go_upto_region 1 with(fail);refine au ?_;intro W hW;have HW:Below w.heap.size w W:=by rw[hW];(repeat' (first|exact Below.refl _ _|assumption|apply aj|apply ah|apply af|(refine aa ?_ (by assumption))))
 have Q:W.cell? ⟨w.heap.size,0,none⟩=some (.slice A n m):=by rw[hW];go_simp
 have U:W.cell? ⟨w.heap.size,1,none⟩=some (.int .i64 cs):=by rw[hW];go_simp
 have B:W.cell? ⟨w.heap.size,2,none⟩=some (.int .i64 cd):=by rw[hW];go_simp
 have c3:W.cell? ⟨w.heap.size,3,none⟩=some (.int .i64 (er:Nat)):=by rw[hW];go_simp
 obtain⟨b7,br⟩:∃z,w.heap.size=z:=⟨_,rfl⟩;rw[br]at Q U B c3⊢;clear hW br;replace hx:=ae HW hx;replace P:=hid (P.below HW P.lt);replace hI:=hid (hI.below HW);replace hA:=hid hA;replace hn:=hid hn;by_cases ag:g.fault fr=0
 case neg=>
  obtain⟨fz,an⟩:∃z:Int,((g.fault fr:Nat):Int)=z:=⟨_,rfl⟩;have S:=vM W q g v fr P.out;rw[an]at S;replace S:=hid S;have h1:eP g fr al=g.fault fr:=by unfold eP;rw[if_pos ag]
  have hz:=hA.out;rcases hz with⟨_,rfl,rfl,he⟩|⟨a,b,rfl,rfl,a1,a2,a3,a4,_⟩
  case inr=>exact absurd (by rw[G.aN a1,a3];rfl) ag
  cases he;have ai:=hn.out;simp only[List.length_nil]at ai;subst ai;rw[h1,an]at c3;have p1:¬fz=0:=by omega
  have p2:(fz==0)=false:=by rw[beq_eq_false_iff_ne];exact p1
  have p3:(0:Int)<fz:=by omega
  clear ag an h1 hI hA hn;go_wp2_with fail;refine S.out.mono ?_;rintro e w1 ⟨rfl,u⟩;replace Q:=ae u Q;replace U:=ae u U;replace B:=ae u B;replace c3:=ae u c3;have ao:=aa HW u;clear S u
  go_upto_region 5 with(fail);refine au ?_;intro W2 M;have F:Below w1.heap.size w1 W2:=by rw[M];(repeat' (first|exact Below.refl _ _|assumption|apply aj|apply ah|apply af|(refine aa ?_ (by assumption))))
  replace Q:=ae F Q;replace U:=ae F U;replace B:=ae F B;replace c3:=ae F c3;have a8:=aa ao F;clear M F;go_wp2_with fail;go_ret;exact⟨rfl,a8⟩
 have ap:=vM W q g v fr P.out;rw[ag]at ap;replace ap:=hid ap;go_wp2_with fail;refine ap.out.mono ?_;rintro e w0 ⟨rfl,R⟩;replace Q:=ae R Q;replace U:=ae R U;replace B:=ae R B;replace c3:=ae R c3;replace hx:=ae R hx;replace P:=hid (P.out.below R P.out.lt);replace hI:=hid (hI.out.below R);have a7:=aa HW R;clear R ap HW
 by_cases ax:g.fault al=0
 case neg=>
  obtain⟨fz,an⟩:∃z:Int,((g.fault al:Nat):Int)=z:=⟨_,rfl⟩;have S:=vM w0 q g v al P.out;rw[an]at S;replace S:=hid S;have h1:eP g fr al=g.fault al:=by unfold eP;rw[if_neg (λk=>k ag)]
  have hz:=hA.out;rcases hz with⟨_,rfl,rfl,he⟩|⟨a,b,rfl,rfl,a1,a2,a3,a4,_⟩
  case inr=>exact absurd (by rw[G.aN a2,a4];rfl) ax
  cases he;have ai:=hn.out;simp only[List.length_nil]at ai;subst ai;rw[h1,an]at c3;have p1:¬fz=0:=by omega
  have p2:(fz==0)=false:=by rw[beq_eq_false_iff_ne];exact p1
  have p3:(0:Int)<fz:=by omega
  clear ag ax an h1 hI hA hn;go_wp2_with fail;refine S.out.mono ?_;rintro e w1 ⟨rfl,u⟩;replace Q:=ae u Q;replace U:=ae u U;replace B:=ae u B;replace c3:=ae u c3;have ao:=aa a7 u;clear S u
  go_upto_region 5 with(fail);refine au ?_;intro W2 M;have F:Below w1.heap.size w1 W2:=by rw[M];(repeat' (first|exact Below.refl _ _|assumption|apply aj|apply ah|apply af|(refine aa ?_ (by assumption))))
  replace Q:=ae F Q;replace U:=ae F U;replace B:=ae F B;replace c3:=ae F c3;have a8:=aa ao F;clear M F;go_wp2_with fail;go_ret;exact⟨rfl,a8⟩
 obtain⟨a,rfl,ha,fa⟩:=G.gN ag;obtain⟨b,rfl,hb,fb⟩:=G.gN ax;have S:=vM w0 q g v (b:Nat) P.out;rw[ax]at S;replace S:=hid S;clear ag ax;have b8:=G.bR P.out.1;have ay:=hid (And.intro ha (And.intro hb (And.intro fa fb)));clear fa fb;go_wp2_with fail;refine S.out.mono ?_;rintro e w1 ⟨rfl,u⟩;replace Q:=ae u Q;replace U:=ae u U;replace B:=ae u B
 replace c3:=ae u c3;replace hx:=ae u hx;replace P:=hid (P.out.below u P.out.lt);replace hI:=hid (hI.out.below u);have ao:=aa a7 u;clear S u a7;go_upto_region 5 with(fail);refine au ?_;intro W2 M;have F:Below w1.heap.size w1 W2:=by rw[M];(repeat' (first|exact Below.refl _ _|assumption|apply aj|apply ah|apply af|(refine aa ?_ (by assumption))))
 obtain⟨J,O⟩:∃z,w1.heap.size=z:=⟨_,rfl⟩;have z0:W2.cell? ⟨J,0,none⟩=some (.int .i64 0):=by rw[M,<-O];go_simp
 have a0:W2.cell? ⟨J,1,none⟩=some (.int .i64 0):=by rw[M,<-O];go_simp
 have f0:W2.frozen? ⟨J,0,none⟩=false:=by rw[M,<-O];go_simp
 have f1:W2.frozen? ⟨J,1,none⟩=false:=by rw[M,<-O];go_simp
 have be:J<W2.heap.size:=by rw[M,<-O];simp
 rw[O];have b5:=ae F hx;have bg:w1.heap.size<=J:=Nat.le_of_eq O;clear M O;go_wp2_with fail;(with_reducible refine(RF _ q g v a (P.out.below F P.out.lt) ha).mono ?_);rintro e w3 ⟨fa,ia,rfl,bq,ba⟩;obtain⟨Z1,aq⟩:∃Z,Z=rowOf (eO fa) 512:=⟨_,rfl⟩;obtain⟨Z2,ar⟩:∃Z,Z=rowOf (eT ia) 256:=⟨_,rfl⟩;have z1:Z1.size=512:=by rw[aq,dI]
 have z2:Z2.size=256:=by rw[ar,dI]
 have o1:Z1.all (·.oneCell')=true:=by rw[aq];exact Array.all_eq_true_iff_forall_mem.2 (λv hv=>row_one (f:=eO fa) (λk=>by unfold eO;split<;>rfl) 512 v (by simpa using hv))
 have o2:Z2.all (·.oneCell')=true:=by rw[ar];exact Array.all_eq_true_iff_forall_mem.2 (λv hv=>row_one (f:=eT ia) (λk=>rfl) 256 v (by simpa using hv))
 rw[<-aq,<-ar];have bk:=hid aq;have bm:=hid ar;clear aq ar;obtain⟨W3,W4,r1,r2,hA1,hA2,bt⟩:=ER w3 Z1 Z2 z1 z2 o1 o2;rw[bk.out]at hA1;rw[bm.out]at hA2;have hA1:=hid hA1;have hA2:=hid hA2;clear bk bm o1 o2;have am:=aa ba bt;replace z0:=ae am z0;replace a0:=ae am a0;replace f0:=(am.frozen (p:=⟨J,0,none⟩) be).trans f0;replace f1:=(am.frozen (p:=⟨J,1,none⟩) be).trans f1;have bp:=aa F am;go_upto_region 7 with(fail);obtain⟨b2,a5⟩:∃b,w3.heap.size=b:=⟨_,rfl⟩;rw[a5]at hA1 hA2⊢;obtain⟨bo,a6⟩:∃b,b2+1=b:=⟨_,rfl⟩;rw[a6]at hA2⊢;have ci:=QS hA2.out (Below.refl _ _) (show b<256 by omega);obtain⟨x1,x2⟩:=QT hA1.out (Below.refl _ _) (show b<256 by omega);have q0:(0:Int)<=(b:Int):=by omega
 have q1:(b:Int)<256:=by omega
 have ab:=bq b;obtain⟨⟨xs,xd⟩,b0⟩:∃z,fa b=z:=⟨_,rfl⟩;rw[b0]at x1 x2 ab;simp only at x1 x2;replace ab:=hid ab;have bh:bo≠J:=by have:=am.size;have:=ba.size;omega
 clear r1 r2 a5 a6 bt F ba z1 z2 hA1 hA2 bq b0 am;go_upto_region 8 with(fail);refine au ?_;intro I aE;have T:Below w1.heap.size w1 I:=by rw[aE];exact(bp.setCell (p:=⟨J,0,none⟩) bg _).setCell (p:=⟨J,1,none⟩) bg _
 obtain⟨y0,y1⟩:I.cell? ⟨J,0,none⟩=some (.int .i64 xs)/\I.cell? ⟨J,1,none⟩=some (.int .i64 xd):=by rw[aE];exact dF z0 a0
 have b3:I.cell? ⟨bo,b,none⟩=some (.bool (ia b)):=by
  rw[aE];exact(World.cell?_of_block ((Below.heap_setCell _ _ _ _ (by exact bh)).trans (Below.heap_setCell _ _ _ _ (by exact bh)))).trans ci
 replace Q:=ae T Q;replace U:=ae T U;replace B:=ae T B;replace c3:=ae T c3;replace hx:=ae T hx;replace P:=hid (P.out.below T P.out.lt);replace hI:=hid (hI.out.below T);have bj:=aa ao T;clear aE ci x1 x2 z0 a0 f0 f1 bh bp bg be T ao b5;have h0:eP g (a:Nat) (b:Nat)=0:=gP (by rw[G.aN ay.out.1,ay.out.2.2.1];rfl) (by rw[G.aN ay.out.2.1,ay.out.2.2.2];rfl);obtain⟨a',b',e1,e2,_,_,_,_,hh⟩:=hA.out.cells h0;obtain rfl:a=a':=Int.ofNat_inj.1 e1;obtain rfl:b=b':=Int.ofNat_inj.1 e2;clear e1 e2 h0;obtain⟨ib,bv⟩:∃z,ia b=z:=⟨_,rfl⟩;rw[bv]at b3 ab;clear bv;cases ib with
 |false=>
  have bx:=ab.out.2 rfl;rcases hh with⟨_,rfl,rfl,he⟩|⟨h1,_⟩
  case inr=>exact absurd h1.1 (bx _)
  cases he;have ai:=hn.out;simp only[List.length_nil]at ai;subst ai;have c3:I.cell? ⟨b7,3,none⟩=some (.int .i64 5):=c3;clear bx hI hA hn ab;go_wp2_with fail;go_ret;exact⟨rfl,bj⟩
 |true=>
  obtain⟨hD,_⟩:=ab.out.1 rfl;rcases hh with⟨h1,_⟩|⟨h1,rfl,hl,bc,bd⟩
  .exact absurd hD.1 (h1 _)
  have b4:=bP.unique h1 hD;injection b4 with ea eb
  subst ea;subst eb;obtain⟨l1,l2,_⟩:=hA.out.len P.out.1 rfl;have bi:=hA.out.qY P.out.1 rfl;rw[hn.out]at l1 l2 bi;obtain⟨ad,a9,_,hc⟩:=hI.out l2;have e0:=hc 0 l2;have el:=hc (n-1) (by omega);rw[List.head?_eq_getElem?]at bc;rw[List.getLast?_eq_getElem?,hn.out]at bd;simp only[xY bc,add_zero']at e0;simp only[xY bd]at el;have b6:∀wx,(Instr.indexAt 22 (.slice A n m) (.int .i64 0)).run Tryz.prog wx=.ok (.pointer (some ad)) wx:=λwx=>by have:=aX (m:=m) (k:=0) a9 l2 wx;rw[add_zero']at this;exact this
  have bw:=λwx=>aX (m:=m) (n:=n) (k:=n-1) a9 (by omega) wx;rw[show((n-1:Nat):Int)=(n:Int)-1 by omega]at bw;have b9:IntKind.i64.wrap ((n:Int)-1)=(n:Int)-1:=IntWalk.i64_in _ (by omega);have cW:=λw'(hb:Below I.heap.size I w')=>Tm w' q g v A n m _ (P.out.below hb P.out.lt) (hI.out.below hb) (by omega);rw[bi]at cW;replace cW:=hid cW;have c3:I.cell? ⟨b7,3,none⟩=some (.int .i64 0):=c3;clear bi a9 hc bc bd hl h1 hD ab hA hn;have hd:=ah (Below.refl I.heap.size I);have j1:I.drew.cell? ⟨xb,0,none⟩=some (.pointer (some ⟨q,0,none⟩)):=ae hd hx;have j2:I.drew.cell? ⟨b7,0,none⟩=some (.slice A n m):=ae hd Q;go_upto_region 12 with(fail);have aw:Below I.heap.size I (I.alloc (.cells #[.int .i64 0,.int .i64 0] 44)).drew:=ah (af (Below.refl _ _));have j3:=ae aw hx;have j4:=ae aw Q
  go_region_with
   (first
    |(go_at_call 63
      (with_reducible refine(cW.out _ hd).mono ?_);rintro e wA ⟨bb,ac⟩;obtain rfl:e=.returned (.tuple #[.agg #[.int .i64 cs,.int .i64 cd],.int .i64 0]):=bb)
    |(go_at_call 63
      (with_reducible refine(cW.out _ aw).mono ?_);rintro e wA ⟨bb,ac⟩;obtain rfl:e=.returned (.tuple #[.agg #[.int .i64 cs,.int .i64 cd],.int .i64 0]):=bb;have s0:wA.cell? ⟨I.heap.size,0,none⟩=some (.int .i64 0):=ae ac (by go_simp);have s1:wA.cell? ⟨I.heap.size,1,none⟩=some (.int .i64 0):=ae ac (by go_simp);have s2:wA.frozen? ⟨I.heap.size,0,none⟩=false:=(ac.frozen (p:=⟨I.heap.size,0,none⟩) (by simp)).trans (by go_simp);have s3:wA.frozen? ⟨I.heap.size,1,none⟩=false:=(ac.frozen (p:=⟨I.heap.size,1,none⟩) (by simp)).trans (by go_simp)))
  all_goals
   clear j1 j2 j3 j4 cW
   first
    |(have L:Below I.heap.size I (wA.alloc (.cells #[.int .i64 cs,.int .i64 cd] 44)):=af (aa hd ac)
      have u0:(wA.alloc (.cells #[.int .i64 cs,.int .i64 cd] 44)).cell? ⟨wA.heap.size,0,none⟩=some (.int .i64 cs):=by go_simp
      have u1:(wA.alloc (.cells #[.int .i64 cs,.int .i64 cd] 44)).cell? ⟨wA.heap.size,1,none⟩=some (.int .i64 cd):=by go_simp
      obtain⟨W6,aS⟩:∃z,wA.alloc (.cells #[.int .i64 cs,.int .i64 cd] 44)=z:=⟨_,rfl⟩;rw[aS]at L u0 u1⊢)
    |(have L:Below I.heap.size I ((wA.setCell ⟨I.heap.size,0,none⟩ (.int .i64 cs)).setCell ⟨I.heap.size,1,none⟩ (.int .i64 cd)):=((aa aw ac).setCell (p:=⟨I.heap.size,0,none⟩) (Nat.le_refl _) _).setCell (p:=⟨I.heap.size,1,none⟩) (Nat.le_refl _) _
      obtain⟨u0,u1⟩:=dF (x:=.int .i64 cs) (y:=.int .i64 cd) s0 s1;obtain⟨W6,aS⟩:∃z,(wA.setCell ⟨I.heap.size,0,none⟩ (.int .i64 cs)).setCell ⟨I.heap.size,1,none⟩ (.int .i64 cd)=z:=⟨_,rfl⟩;rw[aS]at L u0 u1⊢;clear s0 s1 s2 s3)
   replace Q:=ae L Q;replace U:=ae L U;replace B:=ae L B;replace c3:=ae L c3;replace y0:=ae L y0;replace y1:=ae L y1;replace e0:=ae L e0;replace el:=ae L el;have b1:=aa bj L;clear aS L ac hd aw;go_wp2;go_ret;exact⟨rfl,b1⟩
def oF(W:World)(A:Option Addr)(n:Nat)(f:Nat->Int×Int):Prop:=
 0<n->∃b o,A=some ⟨b,o,none⟩/\b<W.heap.size/\∀k,k<n->W.cell? ⟨b,o+k*2,none⟩=some (.int .i64 (f k).1)/\W.cell? ⟨b,o+k*2+1,none⟩=some (.int .i64 (f k).2)
structure TS (W:World) (A:Option Addr) (n:Nat) (f:Nat->Int×Int):Prop where
 ask:oF W A n f
 len:n<=9223372036854775807
theorem oF.below(h:oF w A n f)(u:Below w.heap.size w w'):oF w' A n f:=λJ=>by
 obtain⟨b,o,e,I,z⟩:=h J;exact⟨b,o,e,Nat.lt_of_lt_of_le I u.size,λk F=>⟨ae u (z k F).1,ae u (z k F).2⟩⟩
theorem Le{b o n m k:Nat}(h:A=some ⟨b,o,none⟩)(z:k<n)(u:World):(Instr.indexAt 54 (.slice A n m) (.int .i64 (k:Nat))).run Tryz.prog u=.ok (.pointer (some ⟨b,o+k*2,none⟩)) u:=by
 subst h;have q:(k:Int)<(n:Int):=by omega
 go_simp
theorem gZ{w X:World}(h:Below B w X)(u:B<=b)(k:Nat)(x:Value):Below B w (X.setCell ⟨b,k,none⟩ x):=h.setCell (p:=⟨b,k,none⟩) u x
def yN(wr:World)(g:G)(x y:Int)(sv:Value)(wx:World):Prop:=
 ∃bt Wy cs cd er A mw,sv=.pointer (some ⟨bt,0,none⟩)/\cu g x y Wy ⟨cs,cd⟩ er/\wx.heap[bt]? =some (.cells #[.slice A Wy.length mw,.int .i64 cs,.int .i64 cd,.int .i64 (er:Nat)] 47 (0,0))/\Below wr.heap.size wr wx
theorem yN.new{wr u:World}{z:List Nat}{cs F:Int}{er L:Nat}(I:cu g x y z ⟨cs,F⟩ er)(J:Below wr.heap.size wr u):yN wr g x y (.pointer (some ⟨u.heap.size,0,none⟩)) (u.alloc (.cells #[.slice A z.length L,.int .i64 cs,.int .i64 F,.int .i64 (er:Nat)] 47 (0,0))):=
 ⟨_,_,_,_,_,_,_,rfl,I,heap_alloc_new _ _,af J⟩
theorem yN.old{wr z:World}{F:List Nat}{cs I:Int}{er O b:Nat}{u0 u1 u2 u3:Value}(J:cu g x y F ⟨cs,I⟩ er)(L:z.heap[b]? =some (.cells #[u0,u1,u2,u3] 47 (0,0)))(M:Below wr.heap.size wr z)(u:wr.heap.size<=b):yN wr g x y (.pointer (some ⟨b,0,none⟩)) ((((z.setCell ⟨b,0,none⟩ (.slice A F.length O)).setCell ⟨b,1,none⟩ (.int .i64 cs)).setCell ⟨b,2,none⟩ (.int .i64 I)).setCell ⟨b,3,none⟩ (.int .i64 (er:Nat))):=
 ⟨_,_,_,_,_,_,_,rfl,J,qQ _ _ _ _ L,gZ (gZ (gZ (gZ M u 0 _) u 1 _) u 2 _) u 3 _⟩
structure jW where
 A:Option Addr
 n:Nat
 m:Nat
 s:Int
 d:Int
 e:Int
instance:Inhabited jW:=⟨⟨none,0,0,0,0,0⟩⟩
def TW(x:jW):List Value:=[.slice x.A x.n x.m,.int .i64 x.s,.int .i64 x.d,.int .i64 x.e]
def TY(L:List jW):List Value:=L.flatMap TW
def pR(w:World)(B:Nat)(v:Value)(L:List jW):Prop:=w.ownsRow B 47 4 v L.length (TY L)
theorem pR.nil(w:World)(B:Nat):pR w B (.slice none 0 0) []:=⟨rfl,.inl ⟨rfl,rfl⟩⟩
theorem pR.below{L:List jW}(h:pR w B v L)(u:Below w.heap.size w w'):pR w' B v L:=
 World.ownsRow.kept (row:=none) h ⟨u.os,u.tape,u.output,u.size,λk z _=>u.block k z⟩ (by cases F:v.ownBlock<;>simp)
def xC(W:World)(A:Option Addr)(L:List jW):Prop:=
 ∀k x,L[k]? =some x->∃b,A=some ⟨b,0,none⟩/\W.cell? ⟨b,k*4,none⟩=some (.slice x.A x.n x.m)/\W.cell? ⟨b,k*4+1,none⟩=some (.int .i64 x.s)/\W.cell? ⟨b,k*4+2,none⟩=some (.int .i64 x.d)/\W.cell? ⟨b,k*4+3,none⟩=some (.int .i64 x.e)
theorem xC.below{L:List jW}(h:xC w A L)(u:Below w.heap.size w w'):xC w' A L:=λk x O=>by
 obtain⟨b,z,F,I,J,M⟩:=h k x O;exact⟨b,z,ae u F,ae u I,ae u J,ae u M⟩
def jV(w:World)(B:Nat)(g:G)(most:Nat)(x y:Int)(a:jW):Prop:=
 ∃(W:List Nat)(c:C)(er:Nat),wY g most x y W c er/\a.n=W.length/\a.s=c.s/\a.d=c.d/\a.e=(er:Nat)/\Ints w a.A W.length (λk=>(bJ W).getD k 0)/\(∀ad,a.A=some ad->B<=ad.block)/\(0<a.n->PT w a.A)
theorem jV.kept{a:jW}(h:jV w B g most x y a)(I:Kept S w w')(F:0<a.n->∀u,a.A=some u->u.block∉S):jV w' B g most x y a:=by
 obtain⟨W,c,J,L,M,O,P,Q,R,T,U⟩:=h;exact⟨W,c,J,L,M,O,P,Q,R.qA I (λz u e=>F (by omega) u e),T,λz=>(U z).kept I (F z)⟩
theorem jV.below{a:jW}(h:jV w B g most x y a)(u:Below w.heap.size w w'):jV w' B g most x y a:=h.kept (S:=[]) (.of_below u) (λ_ _ _=>by simp)
def wX(w:World)(B:Nat)(g:G)(most:Nat)(f:Nat->Int×Int)(k:Nat)(v:Value):Prop:=
 ∃L:List jW,L.length=k/\pR w B v L/\∀i a,L[i]? =some a->jV w B g most (f i).1 (f i).2 a/\(0<a.n->∀ad,a.A=some ad->v.ownBlock≠some ad.block)
theorem wX.below(h:wX w B g most f k v)(z:Below w.heap.size w w'):wX w' B g most f k v:=by
 obtain⟨L,I,J,u⟩:=h;exact⟨L,I,J.below z,λi a F=>⟨(u i a F).1.below z,(u i a F).2⟩⟩
theorem wX.nil(w:World)(B:Nat)(g:G)(most:Nat)(f:Nat->Int×Int):wX w B g most f 0 (.slice none 0 0):=⟨[],rfl,pR.nil w B,λi a h=>by simp at h⟩
theorem wX.push{v J:Value}{L:List jW}{e:jW}(Z:L.length=k)(h2:pR w B v L)(S:∀i a,L[i]? =some a->jV w B g most (f i).1 (f i).2 a/\(0<a.n->∀u,a.A=some u->v.ownBlock≠some u.block))(he:jV w B g most (f k).1 (f k).2 e)(R:0<e.n->∀u,e.A=some u->v.ownBlock≠some u.block)(ho:pR w' B J (L++[e]))(z:w.grownBy w' v.ownBlock)(Q:J.ownBlock=v.ownBlock\/J.ownBlock=some w.heap.size):wX w' B g most f (k+1) J:=by
 have hk:Kept v.ownBlock.toList w w':=⟨z.os,z.tape,z.output,z.size,λq hq O=>z.block q hq (λe=>O (by rw[<-e];simp))⟩
 have I:∀(a:jW)(x y:Int),jV w B g most x y a->(0<a.n->∀u,a.A=some u->v.ownBlock≠some u.block)->jV w' B g most x y a/\(0<a.n->∀u,a.A=some u->J.ownBlock≠some u.block):=by
  intro a x y ha O;refine⟨ha.kept hk (λP u e hm=>O P u e (by rw[Option.mem_toList]at hm;exact hm)),λP u e=>?_⟩;rcases Q with q|q
  .rw[q];exact O P u e
  .rw[q]
   intro U;injection U with U
   obtain⟨W,c,er,_,T,_,_,_,q6,_⟩:=ha;obtain⟨ab,M,hl,_⟩:=q6 (by omega);rw[e]at M;injection M with M;subst M
   omega
 refine⟨L++[e],by simp[Z],ho,λi a F=>?_⟩;by_cases ac:i<k
 .rw[List.getElem?_append_left (by omega)]at F
  exact I a _ _ (S i a F).1 (S i a F).2
 .rw[List.getElem?_append_right (by omega)]at F
  obtain⟨q1,T⟩:=List.getElem?_eq_some_iff.1 F;simp at q1;obtain rfl:i=k:=by omega
  simp[Z]at T;subst T;exact I e _ _ he R
theorem wX.kept(h:wX w B g most f k v)(R:Kept S w w')(P:∀q∈S,q<B):wX w' B g most f k v:=by
 obtain⟨L,h1,F,I⟩:=h;refine⟨L,h1,?_,λi a J=>⟨(I i a J).1.kept R (λ_ T e M=>?_),(I i a J).2⟩⟩
 .rcases F.2 with⟨U,h0⟩|⟨O,u,z,Z,hb,Q,hr⟩
  .exact⟨F.1,.inl ⟨U,h0⟩⟩
  .exact⟨F.1,.inr ⟨O,u,z,Z,hb,(R.block O (Array.getElem?_eq_some_iff.1 Q).1 (λM=>by have:=P _ M;omega)).trans Q,hr⟩⟩
 .obtain⟨_,_,_,_,_,_,_,_,_,q,_⟩:=(I i a J).1
  have:=q T e;have:=P _ M;omega
def yM(w:World)(B:Nat)(a:jW):Prop:=∃f,Ints w a.A a.n f/\(0<a.n->PT w a.A)/\∀ad,a.A=some ad->B<=ad.block
theorem jV.m{a:jW}(h:jV w B g most x y a):yM w B a:=by
 obtain⟨W,c,J,L,u,M,O,P,z,F,I⟩:=h;exact⟨_,by rw[u];exact z,I,F⟩
theorem yM.below{a:jW}(h:yM w B a)(u:Below w.heap.size w w'):yM w' B a:=by
 obtain⟨f,F,I,J⟩:=h;exact⟨f,F.below u,λz=>(I z).kept (S:=[]) (.of_below u) (λ_ _=>by simp),J⟩
theorem yM.cell{a:jW}(h:yM w B a)(O:k<a.n):∃b o z,(∀L,(Instr.indexAt 22 (.slice a.A a.n a.m) (.int .i64 (k:Nat))).run Tryz.prog L=.ok (.pointer (some ⟨b,o,none⟩)) L)/\w.cell? ⟨b,o,none⟩=some (.int .i64 z)/\w.frozen? ⟨b,o,none⟩=false/\B<=b/\∃u,a.A=some u/\u.block=b:=by
 obtain⟨f,P,Q,R⟩:=h;obtain⟨u,e,U,T⟩:=P (by omega);have F:=T k O
 obtain⟨b,o,I⟩:∃b o,u.add k=⟨b,o,none⟩:=by
  have J:(u.add k).spot=none:=by
   unfold World.cell? at F;split at F
   .cases J:(u.add k).spot with
    |none=>rfl
    |some s=>simp[J]at F
   .cases F
  generalize u.add k=p at J;obtain⟨b,o,s⟩:=p;simp only at J;subst J;exact⟨b,o,rfl⟩
 have M:u.block=b:=by rw[<-add_block u k,I]
 refine⟨b,o,f k,λL=>?_,by rw[<-I];exact F,?_,by rw[<-M];exact R u e,u,e,M⟩
 .rw[<-I];exact aX e O L
 .rw[<-M];exact((Q (by omega)) u e).2 o
theorem yM.set{a:jW}(h:yM w B a){z L:Int}(Q:w.cell? ⟨b,o,none⟩=some (.int .i64 z)):yM (w.setCell ⟨b,o,none⟩ (.int .i64 L)) B a:=by
 obtain⟨f,M,O,P⟩:=h;refine⟨λk=>match a.A with|some u=>if u.add k=⟨b,o,none⟩then L else f k|none=>0,λI=>?_,λI u e=>?_,P⟩
 .obtain⟨u,e,T,J⟩:=M I
  refine⟨u,e,by simpa using T,λk R=>?_⟩;rw[e];simp only;by_cases F:u.add k=⟨b,o,none⟩
  .rw[if_pos F,F];exact World.cell?_setCell_same (w:=_) (a:=_) (v:=_) Q
  .rw[if_neg F,World.cell?_setCell_other (w:=_) (a:=_) (b:=_) (v:=_) (λe=>F e.symm)];exact J k R
 .obtain⟨Z,g⟩:=O I u e
  exact⟨by simpa using Z,λU=>by rw[World.frozen?_setCell];exact g U⟩
theorem xC.set{L:List jW}(h:xC w A L)(Q:∀z,A=some z->z.block≠b):xC (w.setCell ⟨b,o,none⟩ v) A L:=λk x R=>by
 obtain⟨g,F,J,M,O,P⟩:=h k x R;have I:=Q _ F;simp only at I;have u:∀j,(w.setCell ⟨b,o,none⟩ v).cell? ⟨g,j,none⟩=w.cell? ⟨g,j,none⟩:=λj=>World.cell?_setCell_other (w:=_) (a:=_) (b:=_) (v:=_) (λe=>I (by injection e with e;exact e.symm));exact⟨g,F,by rw[u];exact J,by rw[u];exact M,by rw[u];exact O,by rw[u];exact P⟩
theorem oF.kept(h:oF w A n f)(F:Kept S w w')(M:0<n->∀I,A=some I->I.block∉S):oF w' A n f:=λL=>by
 obtain⟨b,o,e,O,J⟩:=h L;have u:b∉S:=M L ⟨b,o,none⟩ e;exact⟨b,o,e,Nat.lt_of_lt_of_le O F.size,λk z=>⟨aJ (p:=⟨b,_,none⟩) F u (J k z).1,aJ (p:=⟨b,_,none⟩) F u (J k z).2⟩⟩
theorem Kept.two{S u:List Nat}{w w1 w2:World}(h:Kept S w w1)(k:Kept u w1 w2)(I:∀q∈u,q∈S\/w.heap.size<=q):Kept S w w2:=
 ⟨k.os.trans h.os,k.tape.trans h.tape,k.output.trans h.output,Nat.le_trans h.size k.size,λq F z=>(k.block q (Nat.lt_of_lt_of_le F h.size) (λJ=>by
  rcases I q J with r|r
  .exact z r
  .omega)).trans (h.block q F z)⟩
