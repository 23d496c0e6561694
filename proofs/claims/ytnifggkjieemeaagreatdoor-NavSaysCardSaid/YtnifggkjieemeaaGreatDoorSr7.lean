/- Lemmas of this claim: Sr7. -/
import Derived.Test.YtnifggkjieemeaaGreatDoorKNNs34
set_option linter.unusedVariables false
set_option linter.unusedSimpArgs false
set_option maxHeartbeats 6400000
set_option maxRecDepth 100000
open Go.Proofs.Tryz
namespace Go.Proofs.YtnifggkjieemeaaGreatDoor
open Go.Lib (hid)
open Go.RowKit Go.Sort FR Go.Lib
variable {g:G}{enM mkM:Int->Option Value}{out:List Ed}{hp lab:Nat->Option C}{W:World}
theorem mE.below{W k:World}{u:Nat}{m:Array Value}{h:Nat->C}(z:mE W u m g h)(B:Below W.heap.size W k):mE k u m g h:=⟨z.1,λw I n F=>z.2 w (ae B I) n F⟩
theorem qh.Vr{W w w':World}{x l F me S R q n:Nat}{P:Value}{I:List Nat}{mkM enM u:Int->Option Value}{J:Nat->Int}(h:qh W w x l F me S R q P I mkM enM lab hp J)(h1:x≠me)(h2:F≠me)(h3:W.heap.size<=me)(B:MapAt iK w' me u n)(z:Kept [me] w w'):qh W w' x l F me S R q P I mkM u lab hp J:=by
 obtain⟨l1,l2,l3,l4,l5,_⟩:=h.qp;obtain⟨hx,⟨n1,g1⟩,_,⟨n3,g3⟩,⟨n4,g4⟩,hh,⟨e1,e2,e3,e4,M,O,e7⟩,⟨T,U,L,Z,g⟩,⟨o1,o2,o3⟩,Q⟩:=h;refine⟨(z.block x l1 (by simpa using h1)).trans hx,⟨n1,g1.kept z (by simpa using h2)⟩,⟨n,B⟩,⟨n3,g3.kept z (by simpa using M.symm)⟩,⟨n4,g4.kept z (by simpa using O.symm)⟩,?_,⟨e1,e2,e3,e4,M,O,e7⟩,⟨T,U,L,Z,g⟩,⟨o1,o2,o3⟩,?_⟩
 .exact hh.kept z λk m B=>by simp at B;subst B;exact L m
 .refine Kept.below Q z Q.size ?_
  intro k m;simp at m;subst m;exact h3
def Ja(g:G)(out:List Ed)(k:Nat)(s:Nat)(c:C):Prop:=g.av s/\∃(i:Nat)(e:Ed),k<=i/\out[i]? =some e/\e.to_=(s:Nat)/\e.c=c
theorem Ja.of{s:Nat}{c:C}(h:lM g out s c):Ja g out 0 s c:=by
 obtain⟨z,i,e,_,k,m,u⟩:=h;exact⟨z,i,e,Zw _,k,m,u⟩
theorem Ja.next{k:Nat}{e:Ed}(I:out[k]? =some e)(s:Nat)(c:C)(h:Ja g out k s c):Ja g out (k+1) s c\/(e.to_=(s:Nat)/\g.av s/\e.c=c):=by
 obtain⟨B,i,x,J,m,u,z⟩:=h;by_cases F:i=k
 .subst F
  rw[I]at m;injection m with m;subst m
  exact .inr ⟨u,B,z⟩
 .exact .inl ⟨B,i,x,om,m,u,z⟩
theorem Ja.over(s:Nat)(c:C):¬Ja g out out.length s c:=by
 rintro⟨_,i,x,m,k,_⟩;have:=(Zb.1 k).1;omega
def xA(g:G)(tp:Nat)(S:LS)(h:Nat->C)(out inn:List Ed)(Wy:List Nat):Prop:=
 ∃(mkB:Nat->Bool)(f:Int->Option C)(i:Nat)(V:Cb)(d:C)(P:List Nat),(∀b,mkB b=true↔Uc g S inn b)/\qD inn inn.length f/\KO (Dr S tp mkB (zQ f)) (lM g out) h i V/\BP V.hp 256 d/\KI V.bk (V.bk 256) P/\Nk S P.reverse Wy
def XG(w:World)(g:G)(tp:Nat)(S:LS)(h:Nat->C)(out inn:List Ed)(e:Ending)(w':World):Prop:=
 ∃v c fd,e=.returned (.tuple #[v,oD c,.bool fd])/\uj g out inn c fd/\(fd=false->v=.slice none 0 0)/\Below w.heap.size w w'/\
  (fd=true->∃A m Wy f,v=.slice A Wy.length m/\Wy.length<=m/\Ints w' A Wy.length (λk=>(cK Wy).getD k 0)/\(∀ad,A=some ad->w.heap.size<=ad.block)/\Wy.length<=2000000/\qD inn inn.length f/\Jg g (zQ f) out c Wy/\xA g tp S h out inn Wy)
def Xr(W:World)(x l mk me mc mb q:Nat)(gv:Value)(Sh:List Nat)(mkB:Nat->Bool)(inn:List Ed)(k:Nat)(wr:World):Prop:=
 ∃f,qD inn k f/\qh W wr x l mk me mc mb q gv Sh (eQ (mkV mkB)) (nZ f) (λ_=>none) (λ_=>none) (λ_=>0)
def Xt(W:World)(x l mk me mc mb q:Nat)(gv:Value)(g:G)(tp:Nat)(S:LS)(mkB:Nat->Bool)(f:Int->Option C)(out:List Ed)(h:Nat->C)(gk k:Nat)(wr:World):Prop:=
 ∃Sh lab hp bk,qh W wr x l mk me mc mb q gv Sh (eQ (mkV mkB)) (nZ f) lab hp bk/\Gt g tp S mkB (zQ f) out h lab hp bk 0 (λ_ _=>False) (Ja g out k) gk
def XF(W:World)(x l mk me mc mb q:Nat)(gv:Value)(g:G)(tp:Nat)(S:LS)(mkB:Nat->Bool)(f:Int->Option C)(out:List Ed)(h:Nat->C)(gk:Nat)(wr:World):Prop:=
 ∃Sh lab hp bk k,qh W wr x l mk me mc mb q gv Sh (eQ (mkV mkB)) (nZ f) lab hp bk/\WJ g tp S mkB (zQ f) out h lab hp bk k (λ_ _=>False) (λ_ _=>False) gk
theorem O4{W w:World}{x l F me k B q:Nat}{z:Value}{m:List Nat}{u:Nat->Int}(h:qh W w x l F me k B q z m mkM enM lab hp u):w.cell? ⟨x,4,none⟩=some (.map (some k)):=h.cells.2.2.2.2.1
theorem TN(w:World)(l bc bb nl:Nat)(Sb:List Nat)(tp:Nat)(g:G)(S:LS)(cB:g.ok)(H:LS.Fin g tp S)(eh:tp<=6)(cX:dF w l bc bb Sb (tp:Nat) (bN g S) nl (eZ g S))(A1:Option Addr)(n1 m1:Nat)(out:List Ed)(cQ:uk w A1 out)(dt:out.length=n1)(c6:n1<=1000)(ho:xU out)(A2:Option Addr)(n2 m2:Nat)(inn:List Ed)(cT:uk w A2 inn)(du:inn.length=n2)(d6:n2<=1000)(hi:xU inn)(gf:Nat)(gc:Array Value)(h:Nat->C)(hg:mE w gf gc g h)(dy:∀j,g.av j->0<=(h j).s/\(h j).s<=1000/\0<=(h j).d/\(h j).d<=1000)(b9:h 256=C.zero)(hh:∀(B:Nat->Bool)(f:Int->Option C),qD inn inn.length f->∀j t d,Walk (Dr S tp B (zQ f)) j t d->t=256->C.le (h j) d):Calls prog 90 #[vP l,.slice A1 n1 m1,.slice A2 n2 m2,.func (.func gf) #[] gc] w (XG w g tp S h out inn):=by
 have hn:=G.bA cB;have ee:=@run_makeMap prog;have U:=hid (rN cB (rN H (rN dy (rN b9 hh))));have HO:=hid (rN ho hi);have Hn:=hid (rN dt du);have cF:=hid cX;have cm:=hid cQ;have bx:=hid cT;have cJ:=hid hg;clear cB H dy b9 hh ho hi dt du cX cQ cT hg;go_enter func90,ntmps90;go_upto_region 1 with(fail);refine aB ?_;intro O b3;have Z:Below w.heap.size w O:=by rw[b3];exact be
 have cD:O.heap[w.heap.size]? =some (.cells #[rI 0,rI 0] 53 (0,0)):=by rw[b3];exact heap_alloc_new _ _
 have eg:O.heap.size=w.heap.size+1:=by rw[b3];simp
 obtain⟨r9,bw⟩:=rX w.heap.size;rw[bw]at cD eg⊢;have d2:=hid cD;have HL:=hid (cF.out.below Z);have cm:=hid (cm.out.below Z);have bx:=hid (bx.out.below Z);have Hg:=hid (cJ.out.below Z);have cM:=hid (QI O l bc bb nl Sb (tp:Nat) g S U.out.1 (λa b d5=>U.out.2.1.dw a b d5) HL.out A2 n2 m2 inn bx.out Hn.out.2 d6);have Z:=hid (rN Z bw);clear b3 cD cF cJ bw;go_wp2_with fail;(with_reducible refine cM.out.mono ?_);rintro e w1 ⟨mk,B,rfl,⟨nK,cv⟩,ed,bi,ai⟩;have co:=hid ai.1
 have cL:Hid (∀b,B b=true↔Uc g S inn b):=hid (λb=>⟨ai.2 b,λ⟨t,c,⟨e,he,ht⟩,hc,hw⟩=>ai.1 (λt=>@ite _ (∃e∈inn,e.to_=(t:Nat)) (Classical.propDecidable _) (some C.zero) none) (λt ht=>by
  apply Zu;intro hn;exact ht (if_neg hn)) b ⟨t,c,⟨hc,by rw[if_pos ⟨e,he,ht⟩];simp⟩,hw⟩⟩)
 have ap:=cv.lt;have cG:=hid cv;have q1:MapAt iK (w1.alloc (.map #[] 0)) w1.heap.size (λ_=>none) 0:=MapAt.made w1;have q2:MapAt iK ((w1.alloc (.map #[] 0)).alloc (.map #[] 0)) (w1.alloc (.map #[] 0)).heap.size (λ_=>none) 0:=MapAt.made _;have q3:MapAt iK (((w1.alloc (.map #[] 0)).alloc (.map #[] 0)).alloc (.map #[] 0)) ((w1.alloc (.map #[] 0)).alloc (.map #[] 0)).heap.size (λ_=>none) 0:=MapAt.made _;have z1:(w1.alloc (.map #[] 0)).heap.size=w1.heap.size+1:=rS;have z2:((w1.alloc (.map #[] 0)).alloc (.map #[] 0)).heap.size=w1.heap.size+1+1:=rS;rw[z1]at q2;rw[z2]at q3;have q1:=(q1.below (ah br (o:=.map #[] 0))).below (ah br (o:=.map #[] 0));have q2:=q2.below (ah br (o:=.map #[] 0));have ao:Below w1.heap.size w1 (((w1.alloc (.map #[] 0)).alloc (.map #[] 0)).alloc (.map #[] 0)):=ah (ah (ah br));have Hq:=hid (rN q1 (rN q2 (rN q3 ao)))
 have c6:=bi.size;clear cv ai q1 q2 q3 z1 z2 ao cM;go_wp2_with fail;(with_reducible refine(JN _).mono ?_);rintro e w4 ⟨q,S0,rfl,hH,ab,bj⟩;have ca:∀k∈S0,w1.heap.size+3<=k:=λk hk=>by have:=ab k hk;simp at this;omega
 have b2:∀k∈S0,k<w4.heap.size:=hH.lt;have g1:=Hq.out.1.below bj;have g2:=Hq.out.2.1.below bj;have g3:=Hq.out.2.2.1.below bj;have al:=ae Hq.out.2.2.2 bj;have ea:=g3.lt;have HH:=hid (rN hH (rN ca (rN b2 (rN g1 (rN g2 (rN g3 al))))));clear hH ab ca b2 g1 g2 g3 al bj Hq;go_upto_region 2 with(fail);refine aB ?_;intro W5 cx;obtain⟨x,hx⟩:=rX w4.heap.size;obtain⟨me,bv⟩:=rX w1.heap.size;obtain⟨mc,b8⟩:=rX (me+1);obtain⟨mb,b7⟩:=rX (mc+1)
 have c4:qh O W5 x l mk me mc mb q (.func (.func gf) #[] gc) S0 (eQ (mkV B)) (nZ (λ_=>none)) (λ_=>none) (λ_=>none) (λ_=>0):=by
  obtain⟨hH,ab,b2,g1,g2,g3,al⟩:=HH.out;have a8:Below w4.heap.size w4 W5:=by rw[cx];exact be
  rw[bv]at g1 g2 g3 ab;rw[b8]at g2 g3;rw[b7]at g3;refine⟨?_,⟨nK,(cG.out.below al).below a8⟩,⟨0,?_⟩,⟨0,?_⟩,⟨0,?_⟩,?_,⟨om,om,om,om,om,om,om⟩,⟨λhm=>?_,λhm=>?_,λhm=>?_,λhm=>?_,λhm=>?_⟩,⟨om,om,λk hk=>?_⟩,ae (ae bi al) a8⟩
  .rw[cx,<-hx,<-bv,<-b7,<-b8,<-bv]
   exact heap_alloc_new _ _
  .exact g1.below a8
  .rw[<-show(λ_=>none:Int->Option Value)=eQ (eP λ_=>none)from(lY (λ_=>rfl)).symm]
   exact g2.below a8
  .rw[<-show(λ_=>none:Int->Option Value)=eQ (Vk (λ_=>none) (λ_=>0))from(lY (λ_=>rfl)).symm]
   exact g3.below a8
  .rw[pz,<-EF]
   exact hH.below a8
  .have:=b2 _ hm;omega
  .have:=ab _ hm;omega
  .have:=ab _ hm;omega
  .have:=ab _ hm;omega
  .have:=ab _ hm;omega
  .have:=ab _ hk;omega
 have cl:x≠me/\mk≠me/\O.heap.size<=me/\r9≠x:=om;rw[bv,hx];rw[b8,b7];have cO:Xr O x l mk me mc mb q (.func (.func gf) #[] gc) S0 B inn 0 W5:=⟨_,qD.start inn,c4⟩;have a0:=hid cl;clear cx c4 HH cG hx bv b8 b7 cl ea ap ed bi c6 ee;go_wp2_with fail;go_loopw [36] (λkv wr=>∃k:Nat,kv=rI k/\k<=n2/\Xr O x l mk me mc mb q (.func (.func gf) #[] gc) S0 B inn k wr) (λkv _=>n2-(intOf kv).toNat)
 case atStart=>exact⟨0,rfl,om,cO⟩
 case round=>
  obtain⟨k,rfl,hk,f,L,R⟩:=hrel;clear cO;by_cases bq:k<n2
  .obtain⟨e,he⟩:∃e,inn[k]? =some e:=⟨inn[k]'(by rw[Hn.out.2];exact bq),Zc _⟩
   obtain⟨gb,ob,hA,a1,a2,a3,a4⟩:=(bx.out.below R.bel).get he;have cA:=λwx=>Vx (m:=m2) hA bq wx;have ac:=HO.out.2 e (Ze he);obtain⟨nE,bd⟩:=R.mapE;have ax:=L.step he;obtain⟨xt,⟨xs,xd⟩,xm⟩:=e;simp only at a1 a2 a3 a4 ac ax;obtain⟨ds,dd,is,bo,ci,ap⟩:=JJ bd xt
   have db:is=true->0<=ds/\ds<=1048576/\0<=dd/\dd<=1048576:=λq=>by
    obtain⟨y,hy,_,e2⟩:=L.some_ _ _ (bo q);have:=HO.out.2 y hy;rw[e2]at this;exact this
   have cn:=hid (rN bo (rN ci db));have HF:=hid (rN ax ac);have HS:=hid R;have k3:=R.cells.2.2.2.1;have ec:=R.qp;have b1:=hid ap;have ei:=R.qp.1;have d9:=R.qp.2.2.1;clear hA he L ax ac bd bo ci db ap R ec;go_upto_region 5 with(fail);refine aB ?_;intro F Q;have ar:Below wr.heap.size wr F:=by rw[Q];exact be
   have o0:F.cell? ⟨wr.heap.size,0,none⟩=some (rI xt):=by rw[Q];go_simp
   have o1:F.cell? ⟨wr.heap.size,1,none⟩=some (rI xs):=by rw[Q];go_simp
   have o2:F.cell? ⟨wr.heap.size,2,none⟩=some (rI xd):=by rw[Q];go_simp
   have o3:F.cell? ⟨wr.heap.size,3,none⟩=some (rI xm):=by rw[Q];go_simp
   obtain⟨I,ao⟩:=rX wr.heap.size;have k3:=af ar k3;have J:=hid (HS.out.below ar);have aS:Hid (∀T,Below F.heap.size F T->(Instr.lookup 242 (.map (some me)) (rI xt) true).run prog T=.ok (.tuple #[.agg #[rI ds,rI dd],.bool is]) T):=hid (λT hb=>b1.out T (ae ar hb));rw[ao]at o0 o1 o2 o3⊢;have c8:I≠me:=om;clear Q ar HS a1 a2 a3 a4 cA ao b1 ei d9;go_cut [14,15] (λs t wx=>s=.pointer (some ⟨F.heap.size,0,none⟩)/\t=.bool is/\wx.cell? ⟨F.heap.size,0,none⟩=some (rI ds)/\wx.cell? ⟨F.heap.size,1,none⟩=some (rI dd)/\Below F.heap.size F wx)
   case first=>
    have hd:=aj (Below.refl F.heap.size F);have da:=ah hd (o:=.cells #[rI 0,rI 0] 53);have q0:F.drew.cell? ⟨x,3,none⟩=some (.map (some me))/\F.drew.cell? ⟨I,0,none⟩=some (rI xt):=⟨af hd k3,af hd o0⟩;have q1:(F.drew.alloc (.cells #[rI 0,rI 0] 53)).cell? ⟨x,3,none⟩=some (.map (some me))/\(F.drew.alloc (.cells #[rI 0,rI 0] 53)).cell? ⟨I,0,none⟩=some (rI xt):=⟨af da k3,af da o0⟩;have ej:=aS.out _ hd;have ek:=aS.out _ (aj (ah (Below.refl F.heap.size F) (o:=.cells #[rI 0,rI 0] 53)));clear aS J
    go_region_held3 (λT=>T.cell? ⟨x,3,none⟩=some (.map (some me))/\T.cell? ⟨I,0,none⟩=some (rI xt))
     (first
      |exact q0
      |exact q1
      |go_keep)
     (fail)
    all_goals
     have d7:Below F.heap.size F (F.alloc (.cells #[rI ds,rI dd] 53)).drew:=aj (ah br);have d0:(F.alloc (.cells #[rI ds,rI dd] 53)).drew.cell? ⟨F.heap.size,0,none⟩=some (rI ds):=by go_simp
     have d1:(F.alloc (.cells #[rI ds,rI dd] 53)).drew.cell? ⟨F.heap.size,1,none⟩=some (rI dd):=by go_simp
     go_wp2;go_meet
     case rel=>exact⟨rfl,rfl,d0,d1,d7⟩
   case rest=>
    obtain⟨rfl,rfl,d0,d1,M⟩:=hcut;obtain⟨ep,ce⟩:=rX F.heap.size;have k3:=af M k3;have o0:=af M o0;have o1:=af M o1;have o2:=af M o2;have cH:=hid (J.out.below M);rw[ce]at d0 d1⊢;have dg:aT xs/\aT xd:=by have:=HF.out.2;unfold aT;omega
    obtain⟨tb,aE⟩:∃z,Ih f xt ⟨xs,xd⟩=z:=⟨_,rfl⟩;have cp:=hid aE;have eb:I<wc.heap.size:=ZF _ _ o0;clear aS J M ce aE;go_upto_region 6 with(fail);go_cut [57] (λs wx=>s=.bool tb/\Below wc.heap.size wc wx)
    case first=>
     cases is with
     |false=>
      have e:=cp.out;unfold Ih at e;rw[(cn.out.2.1 rfl).1]at e;subst e;go_wp2;go_meet
      case rel=>exact⟨rfl,be⟩
     |true=>
      have e:=cp.out;have hd:=cn.out.1 rfl;unfold Ih at e;rw[hd]at e;have d8:=cn.out.2.2 rfl;simp only at e;have bm:aT ds/\aT dd:=by unfold aT;omega
      have cC:=hid (rZ xs xd ds dd wc dg.1 dg.2 bm.1 bm.2);rw[e]at cC;clear hd d8 bm e;go_wp2_with fail;(with_reducible refine cC.out.mono ?_);rintro e w9 ⟨rfl,a9⟩;go_wp2;go_meet
      case rel=>exact⟨rfl,a9⟩
    case rest=>
     obtain⟨rfl,M⟩:=hcut;have b0:=hid (cH.out.below M);have k3:=af M k3;have o0:=af M o0;have o1:=af M o1;have o2:=af M o2;have ax:=HF.out.1;rw[cp.out]at ax;have bz:=hid ax;clear cH M d0 d1 ax eb;cases tb with
     |false=>
      have hE:Xr O x l mk me mc mb q (.func (.func gf) #[] gc) S0 B inn (k+1) wc:=⟨f,bz.out,b0.out⟩;have hE:=hid hE;clear b0 k3 o0 o1 o2 bz;go_wp2;go_roundw
      case rel=>refine rR ?_;exact⟨k+1,by go_num,om,hE.out⟩
      case measure=>exact rM
     |true=>
      have bl:=aj (Below.refl wc.heap.size wc);have cw:=b0.out.below bl;obtain⟨nE,bd⟩:=cw.mapE;obtain⟨w7,ef,dr,ba⟩:=bd.store (aF underlying3) underlying242 xt (.agg #[rI xs,rI xd]);have bt:=dr;rw[show(some (Value.agg #[rI xs,rI xd]):Option Value)=some (oD ⟨xs,xd⟩)from rfl,OX]at bt;have hE:Xr O x l mk me mc mb q (.func (.func gf) #[] gc) S0 B inn (k+1) w7:=⟨_,bz.out,cw.Vr a0.out.1 a0.out.2.1 a0.out.2.2.1 bt ba⟩;have hE:=hid hE;have dT:x∉[me]:=by simpa using a0.out.1
      have b4:I∉[me]:=by simpa using c8
      have q0:wc.drew.cell? ⟨x,3,none⟩=some (.map (some me))/\wc.drew.cell? ⟨I,0,none⟩=some (rI xt)/\wc.drew.cell? ⟨I,1,none⟩=some (rI xs)/\wc.drew.cell? ⟨I,2,none⟩=some (rI xd):=⟨af bl k3,af bl o0,af bl o1,af bl o2⟩;have q7:w7.cell? ⟨x,3,none⟩=some (.map (some me))/\w7.cell? ⟨I,0,none⟩=some (rI xt)/\w7.cell? ⟨I,1,none⟩=some (rI xs)/\w7.cell? ⟨I,2,none⟩=some (rI xd):=⟨aZ ba dT q0.1,aZ ba b4 q0.2.1,aZ ba b4 q0.2.2.1,aZ ba b4 q0.2.2.2⟩;clear dr bt ba dT b4 bd cw b0 k3 o0 o1 o2 bz;go_upto_region 7 with(fail)
      go_region_held3 (λT=>T.cell? ⟨x,3,none⟩=some (.map (some me))/\T.cell? ⟨I,0,none⟩=some (rI xt)/\T.cell? ⟨I,1,none⟩=some (rI xs)/\T.cell? ⟨I,2,none⟩=some (rI xd))
       (first
        |exact q0
        |exact q7)
       (fail)
      clear q0 q7 ef;go_wp2;go_roundw
      case rel=>refine rR ?_;exact⟨k+1,by go_num,om,hE.out⟩
      case measure=>exact rM
  .obtain rfl:k=n2:=om
   have cq:qD inn inn.length f:=by rw[Hn.out.2];exact L
   have cr:NW g tp S out (zQ f) h:=⟨U.out.1,U.out.2.1,HO.out.1,λt e he=>by
    obtain⟨y,hy,_,e2⟩:=cq.some_ _ _ he;have:=HO.out.2 y hy;rw[e2]at this;exact this,U.out.2.2.1,U.out.2.2.2.1⟩
   have ct:Gt g tp S B (zQ f) out h (λ_=>none) (λ_=>none) (λ_=>0) 0 (λ_ _=>False) (Ja g out 0) (2*SB.me g.n 256 2100000 4000 2100000 (λ_=>none)):=(Gt.start U.out.1 cr 0).weak (λ_ _ h=>h) (λs c h=>Ja.of h);obtain⟨aw,ch⟩:∃z,2*SB.me g.n 256 2100000 4000 2100000 (λ_=>none)=z:=⟨_,rfl⟩;rw[ch]at ct;have c0:Xt O x l mk me mc mb q (.func (.func gf) #[] gc) g tp S B f out h aw 0 wr:=⟨_,_,_,_,R,ct⟩;have HF:=hid (rN cq cr);clear L cq cr ct R ch;go_wp2_with fail;go_loopw [69] (λkv wr=>∃k:Nat,kv=rI k/\k<=n1/\Xt O x l mk me mc mb q (.func (.func gf) #[] gc) g tp S B f out h aw k wr) (λkv _=>n1-(intOf kv).toNat)
   case atStart=>exact⟨0,rfl,om,c0⟩
   case round=>
    obtain⟨k,rfl,hk,Sh,aa,hp,bk,R,hI⟩:=hrel;clear c0;by_cases bq:k<n1
    .obtain⟨e,he⟩:∃e,out[k]? =some e:=⟨out[k]'(by rw[Hn.out.1];exact bq),Zc _⟩
     obtain⟨gb,ob,hA,a1,a2,a3,a4⟩:=(cm.out.below R.bel).get he;have cA:=λwx=>Vx (m:=m1) hA bq wx;have ac:=HO.out.1 e (Ze he);obtain⟨xt,⟨xs,xd⟩,xm⟩:=e;simp only at a1 a2 a3 a4 ac;have He:=hid (rN he ac);have HS:=hid R;have HI:=hid hI;clear hA he ac R hI;go_upto_region 12 with(fail);refine aB ?_;intro F Q;have ar:Below wr.heap.size wr F:=by rw[Q];exact be
     have o0:F.cell? ⟨wr.heap.size,0,none⟩=some (rI xt):=by rw[Q];go_simp
     have o1:F.cell? ⟨wr.heap.size,1,none⟩=some (rI xs):=by rw[Q];go_simp
     have o2:F.cell? ⟨wr.heap.size,2,none⟩=some (rI xd):=by rw[Q];go_simp
     obtain⟨er,cg⟩:=rX wr.heap.size;have J:=hid (HS.out.below ar);rw[cg]at o0 o1 o2⊢;clear Q ar HS a1 a2 a3 a4 cA cg;by_cases a6:∃t:Nat,xt=t/\g.av t
     .obtain⟨t,rfl,b6⟩:=a6
      have cj:=gq (g:=g) (S:=S) b6;have cV:=hid (jN F l bc bb nl Sb (tp:Nat) (bN g S) (eZ g S) (HL.out.below J.out.bel) (t:Nat) _ cj);obtain⟨tb,aE⟩:∃z,lower? aa t ⟨xs,xd⟩=z:=⟨_,rfl⟩;have ac:=He.out.2;have cR:=hid (Dh O F x l mk me mc mb q gf gc Sh (eQ (mkV B)) (nZ f) aa hp bk g h U.out.1 J.out Hg.out U.out.2.2.2.1 U.out.2.2.1 t (.inl b6) (t:Nat) rfl (-1) xs xd om tb aE (λd hd=>by have:=HI.out.small U.out.1 hd;omega) (λh1=>HI.out.low aE h1))
      have am:Gt g tp S B (zQ f) out h (pushed aa t ⟨xs,xd⟩ tb) (pushed hp t (C.add ⟨xs,xd⟩ (h t)) tb) (if tb=true then FR.upd bk t (-1)else bk) 0 (λ_ _=>False) (Ja g out (k+1)) aw:=by
       refine HI.out.step HF.out.2 (.inl b6) (.inr (λ_ _ h=>h)) ⟨b6,k,_,(Zb.1 He.out.1).1,He.out.1,rfl,rfl⟩ (λ_ _ h=>h.elim) (λs c hs=>?_) aE;rcases Ja.next He.out.1 s c hs with r|⟨r1,_,r3⟩
       .exact .inl r
       .refine .inr ⟨by simp only at r1;omega,?_⟩
        rw[<-r3];exact C.le_refl _
      have cE:=hid am;clear cj aE ac am HI;go_wp2_with fail;(with_reducible refine cV.out.mono ?_);rintro e T ⟨rfl,rfl⟩;clear cV;go_wp2_with fail;(with_reducible refine cR.out.mono ?_);rintro e w7 hR;obtain⟨S7,c2,_⟩:=hR.out;obtain⟨rfl,_⟩:=hR;have L:Xt O x l mk me mc mb q (.func (.func gf) #[] gc) g tp S B f out h aw (k+1) w7:=⟨_,_,_,_,c2,cE.out⟩;have L:=hid L;clear c2 cE J o0 o1 o2 cR;go_wp2;go_roundw
      case rel=>refine rR ?_;exact⟨k+1,by go_num,om,L.out⟩
      case measure=>exact rM
     .have dv:¬(0<=xt/\g.av xt.toNat):=λ⟨h1,h2⟩=>a6 ⟨xt.toNat,om,h2⟩
      have cV:=hid (wQ F l bc bb nl Sb (tp:Nat) (bN g S) (eZ g S) (HL.out.below J.out.bel) xt (pJ dv))
      have L:Xt O x l mk me mc mb q (.func (.func gf) #[] gc) g tp S B f out h aw (k+1) F:=⟨_,_,_,_,J.out,HI.out.weak (λ_ _ h=>h) (λs c hs=>by
       rcases Ja.next He.out.1 s c hs with r|⟨r1,r2,_⟩
       .exact r
       .exact absurd ⟨s,r1,r2⟩ a6)⟩
      have L:=hid L;clear a6 dv J HI;go_wp2_with fail;(with_reducible refine cV.out.mono ?_);rintro e T ⟨rfl,rfl⟩;clear cV o0 o1 o2;go_wp2;go_roundw
      case rel=>refine rR ?_;exact⟨k+1,by go_num,om,L.out⟩
      case measure=>exact rM
    .obtain rfl:k=n1:=om
     have cU:XF O x l mk me mc mb q (.func (.func gf) #[] gc) g tp S B f out h aw wr:=⟨_,_,_,_,0,R,Gt.run (hI.weak (λ_ _ h=>h) (λs c hs=>Ja.over s c (by rw[Hn.out.1];exact hs)))⟩;clear R hI;go_wp2_with fail;go_loopg [] aw (λgk wr=>XF O x l mk me mc mb q (.func (.func gf) #[] gc) g tp S B f out h gk wr)
     case atStart=>exact cU
     case round=>
      obtain⟨Sh,aa,hp,bk,kk,R,hI⟩:=hrel;clear cU;have k6:=R.cells.2.2.2.2.2.2
      have hm:∀b,LS.qG S (λt=>g.av t/\f (t:Nat)≠none) b->B b=true:=co.out (zQ f) (λt ht=>by
       cases de:f (t:Nat)with
       |none=>exact absurd de ht
       |some c=>
        obtain⟨y,hy,h1,_⟩:=HF.out.1.some_ _ _ de;exact⟨y,hy,h1⟩)
      have ck:∀u,Below O.heap.size O u->u.cell? ⟨r9,0,none⟩=some (rI 0)/\u.cell? ⟨r9,1,none⟩=some (rI 0)/\u.frozen? ⟨r9,0,none⟩=false/\u.frozen? ⟨r9,1,none⟩=false:=λu hu=>by
       have:=(hu.block r9 om).trans d2.out;simp[World.cell?,World.frozen?,this]
      have dx:∀u(p v:Value),Below O.heap.size O u->Below w.heap.size w ((u.setCell ⟨r9,0,none⟩ p).setCell ⟨r9,1,none⟩ v):=λu p v hu=>((ae Z.out.1 hu).setCell (p:=⟨r9,0,none⟩) (by have:=Z.out.2;simp;omega) p).setCell (p:=⟨r9,1,none⟩) (by have:=Z.out.2;simp;omega) v;have Hm:=hid (rN hm (rN ck dx));clear hm ck dx;by_cases h0:bJ hp 257=0
      .have hH:=R.heap
       rw[h0]at hH;have ay:∀j,hp j=none:=Ar h0 (hI.hpr U.out.1)
       have bp:aa 256=none:=by
        cases hl:aa 256 with
        |none=>rfl
        |some c=>exact absurd (ay 256) (hI.tin (by rw[hl];simp))
       have hB:=KY U.out.2.1 U.out.1 HF.out.1 Hm.out.1 (λd=>Hu.lost (k:=256) (U.out.2.2.2.2 B f HF.out.1) hI.hu ay bp d);have HB:=hid (rN hB R.bel);clear ay bp hB hI;go_wp2_with fail;(with_reducible refine(sN _ Sh q (rJ hp) hH).mono ?_);rintro e w6 ⟨rfl,c7⟩;have en:=ae HB.out.2 c7;clear hH R k6 c7;go_upto_region 18 with(fail);refine aB ?_;intro W7 bg;have a7:Below O.heap.size O W7:=by rw[bg];exact be
       obtain⟨r0,r1,f0,f1⟩:=Hm.out.2.1 W7 a7;have L:XG w g tp S h out inn (.returned (.tuple #[.slice none 0 0,.agg #[rI 0,rI 0],.bool false])) ((W7.setCell ⟨r9,0,none⟩ (rI 0)).setCell ⟨r9,1,none⟩ (rI 0)):=⟨_,C.zero,false,rfl,HB.out.1,λ_=>rfl,Hm.out.2.2 _ _ _ a7,(λh=>nomatch h)⟩;have L:=hid L;clear bg;go_wp2;have e2:=dJ (x:=rI 0) (y:=rI 0) r0 r1;refine bodyPost_ret (v:=.tuple #[.slice none 0 0,.agg #[rI 0,rI 0],.bool false]) (by simp[results,results90,go_sem,e2]) rfl ?_;exact L.out
      .have HI:=hid hI
       have HS:=hid R;have cP:=hid (EE wr Sh q 257 hp R.heap (hI.hpr U.out.1) om h0);clear R hI h0;go_wp2_with fail;(with_reducible refine cP.out.mono ?_);rintro e w6 ⟨k2,ds,dd,dj,dk,rfl,dl,dn⟩;have J:=hid (HS.out.popped dl dn);have Hk:=hid (rN dj dk);clear cP dj dk dl dn HS k6;go_upto_region 17 with(fail);refine aB ?_;intro W7 bg;have cI:Below w6.heap.size w6 W7:=by rw[bg];exact be
       have aq:=hid (J.out.below cI);clear bg cI J;by_cases ag:k2=256
       .subst ag
        obtain⟨hl,hR⟩:=Hu.found (k:=256) (U.out.2.2.2.2 B f HF.out.1) U.out.2.2.2.1 HI.out.hu Hk.out.1 (λj d hd=>It.Xa (Hk.out.2 j d hd));have hB:=Gx U.out.2.1 U.out.1 HF.out.1 Hm.out.1 hR;have hd:=aj (Below.refl W7.heap.size W7);have cW:=hid (Xq O W7.drew x l bc bb nl mk me mc mb q (.func (.func gf) #[] gc) Sh Sb (eQ (mkV B)) (nZ f) B (zQ f) aa hp _ bk g tp S out h kk gk eh HF.out.2 HL.out (aq.out.below hd) HI.out.toxB ⟨ds,dd⟩ hl)
        have a5:=hid (show∀Wy,(∃P,KI bk (bk 256) P/\Nk S P.reverse Wy)->xA g tp S h out inn Wy from λWy⟨P,q1,q2⟩=>by
         obtain⟨i,q3⟩:=HI.out.run;exact⟨B,f,i,⟨aa,hp,bk⟩,_,P,cL.out,HF.out.1,q3,Hk.out,q1,q2⟩)
        obtain⟨nC,cY⟩:=aq.out.mapC
        have ap:∀T,Below W7.heap.size W7 T->(Instr.lookup 242 (.map (some mc)) (rI 256) false).run prog T=.ok (.agg #[rI ds,rI dd]) T:=λT hb=>by
         have:=((cY.below hb).look (aF underlying3) underlying242 (jr T) ((256:Nat):Int)).2;rw[fF]at this;unfold eP at this;rw[hl]at this;exact this
        have dp:=ap _ hd;have b1:=hid ap;have k4:=O4 aq.out;have q0:=af hd k4;have a7:=aq.out.bel;have HB:=hid hB;clear hl hR hB cY ap aq HI Hk k4;go_upto_region 20 with(fail)
        go_region_held3 (λT=>T.cell? ⟨x,4,none⟩=some (.map (some mc)))
         (first
          |exact q0
          |exact q1
          |exact q2 _ _)
         (first
          |(go_at_call 150
            refine cW.out.mono ?_;rintro e w9 ⟨A,m,Wy,rfl,d4,c5,cy,d3,⟨cb,bh⟩,a9⟩;have bh:=a5.out _ bh;have q1:=af a9 q0;have dq:=b1.out w9 (ae hd a9);have cN:=ae a7 (ae hd a9);obtain⟨r0,r1,f0,f1⟩:=Hm.out.2.1 w9 cN
            have q2:∀p v:Value,((w9.setCell ⟨r9,0,none⟩ p).setCell ⟨r9,1,none⟩ v).cell? ⟨x,4,none⟩=some (.map (some mc)):=λp v=>
             ((World.cell?_setCell_other (w:=w9.setCell ⟨r9,0,none⟩ p) (a:=⟨r9,1,none⟩) (b:=⟨x,4,none⟩) (v:=v) rS).trans (World.cell?_setCell_other (w:=w9) (a:=⟨r9,0,none⟩) (b:=⟨x,4,none⟩) (v:=p) rS)).trans q1))
        all_goals
         have L:XG w g tp S h out inn (.returned (.tuple #[.slice A Wy.length m,.agg #[rI ds,rI dd],.bool true])) ((w9.setCell ⟨r9,0,none⟩ (rI ds)).setCell ⟨r9,1,none⟩ (rI dd)):=by
          refine⟨_,⟨ds,dd⟩,true,rfl,HB.out,(λh=>nomatch h),Hm.out.2.2 _ _ _ cN,λ_=>⟨A,m,Wy,f,rfl,d4,?_,?_,d3,HF.out.1,cb,bh⟩⟩
          .refine Ints.kept (S:=[r9]) c5 ((Kept.refl _ _).setCell (.inl rS) |>.setCell (.inl rS)) (λad e=>?_)
           have:=cy ad e;have:=hd.size;have:=a7.size;simp;omega
          .intro ad e
           have:=cy ad e;have:=hd.size;have:=a7.size;have:=Z.out.2;omega
         have L:=hid L;have e2:=dJ (x:=rI ds) (y:=rI dd) r0 r1;clear c5 cy cb a9 dp dq cW HB q0 q1;go_wp2;refine bodyPost_ret (v:=.tuple #[.slice A Wy.length m,.agg #[rI ds,rI dd],.bool true]) (by simp[results,results90,go_sem,e2]) rfl ?_;exact L.out
       .have et:(((k2:Nat):Int)==256)=false:=so
        obtain⟨c,b5,_⟩:=HI.out.hu.key _ _ Hk.out.1;obtain⟨cs,cd⟩:=c;have c9:g.av k2:=(HI.out.cor k2 (by rw[b5];simp)).resolve_right ag;obtain⟨am,el⟩:=HI.out.pop U.out.1 Hk.out.1 b5 ag;have a5:=hid (rN HI.out.run (show BP hp k2 ⟨ds,dd⟩from Hk.out));have cS:=hid (QJ ⟨aa,hp,bk⟩ O W7 x l bc bb nl mk me mc mb q gf gc Sh Sb f B aa _ bk g tp S out h k2 (gk-1) HF.out.2 HL.out aq.out Hg.out c9 cs cd b5 am);clear b5 c9 am aq HI Hk;go_wp2_with fail;(with_reducible refine cS.out.mono ?_);rintro e w8 ⟨rfl,eo,em,hp2,es,c1,am⟩;have L:XF O x l mk me mc mb q (.func (.func gf) #[] gc) g tp S B f out h (gk-1) w8:=⟨_,_,_,_,_,c1,am.run a5.out.1 a5.out.2 ag⟩;have L:=hid L;clear c1 am cS;go_wp2;go_roundg (gk-1)
        case measure=>omega
        case rel=>exact L.out
