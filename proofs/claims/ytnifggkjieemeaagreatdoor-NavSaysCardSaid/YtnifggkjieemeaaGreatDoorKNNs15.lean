/- Lemmas of this claim: Reach2, Reach3, Reach4. -/
import Derived.Test.YtnifggkjieemeaaGreatDoorReach1
set_option linter.unusedVariables false
set_option linter.unusedSimpArgs false
set_option maxHeartbeats 3200000
set_option maxRecDepth 100000
open Go.Proofs.Tryz
namespace Go.Proofs.YtnifggkjieemeaaGreatDoor
open Go.Lib (hid)
open Go.RowKit Go.Sort FR
variable {Q:Exit->Act->World->Prop}{w:World}
def dB(g:G)(ca cb i j:Nat):Bool:=decide (i<g.fI ca cb)&&g.may (g.fx ca cb i j) (g.fy ca cb i j) (g.sG ca cb)
def sB(g:G)(ca cb i j:Nat):Bool:=decide (j<g.fJ ca cb)&&g.may (g.fx ca cb i j) (g.fy ca cb i j) (g.gJ ca cb)
theorem yB{g:G}{ca cb i j:Nat}:dB g ca cb i j=true↔g.Eg ca cb i j:=by unfold dB G.Eg;simp
theorem IK{g:G}{ca cb i j:Nat}:sB g ca cb i j=true↔g.Np ca cb i j:=by unfold sB G.Np;simp
theorem uG(w:World)(b gp mo mk:Nat)(g:G)(v:Int)(ca cb:Nat)(S T:Int×Int->Prop)(i j:Nat)(td ts:Bool)(h:bG w b gp mo mk g v ca cb S T)(hi:i<=g.fI ca cb)(hj:j<=g.fJ ca cb)(k:dB g ca cb i j=td)(m:sB g ca cb i j=ts):Calls prog 142 #[vP b,rI (i:Nat),rI (j:Nat)] w (Rt w (.tuple #[.bool td,.bool ts])):=by
 have ac:=h.ok;obtain⟨f1,f2,f3,f4⟩:=G.R8 ac h.cells.2 h.cells.1 hi hj;obtain⟨o1,o2,o3,o4⟩:=ac;have cP:=fieldPlace w b gp mo mk g v ca cb S T i j h hi hj;obtain⟨k0,k1,k2,k3,k4,k5,k6,k7,k8⟩:=h.cell;have al:=h.lt;have HG:=hid h.grid;have ag:=h.grid.lt;unfold dB at k;unfold sB at m;obtain⟨x,hx⟩:=rX (g.fx ca cb i j);obtain⟨y,hy⟩:=rX (g.fy ca cb i j);rw[hx,hy]at cP k m;rw[hx]at f1 f2;rw[hy]at f3 f4;obtain⟨d,hd⟩:=rX (g.sG ca cb);obtain⟨s,hs⟩:=rX (g.gJ ca cb);have ad:d<8:=by rw[<-hd];exact kg _ _
 have ai:s<8:=by rw[<-hs];exact kg _ _
 rw[hd]at k3 k;rw[hs]at k4 m;obtain⟨I,hI⟩:=rX (g.fI ca cb);obtain⟨J,hJ⟩:=rX (g.fJ ca cb);rw[hI]at k5 hi k;rw[hJ]at k6 hj m;obtain⟨m1,Z⟩:=rX (g.may x y d);obtain⟨m2,Q⟩:=rX (g.may x y s);rw[Z]at k;rw[Q]at m;have aa:=hid (λw'(hg:aC w' gp g v)=>NH w' gp g v x y d m1 hg ad (by unfold yQ;omega) (by unfold yQ;omega) Z);have ab:=hid (λw'(hg:aC w' gp g v)=>NH w' gp g v x y s m2 hg ai (by unfold yQ;omega) (by unfold yQ;omega) Q);have cP:=hid cP;clear hx hy hd hs hI hJ Z Q h k1 k2 k7 k8;go_enter func142,ntmps142;go_wp2_with fail;(with_reducible refine cP.out.mono ?_);rintro e O ⟨rfl,u⟩;have k0:=af u k0;have k3:=af u k3;have k4:=af u k4;have k5:=af u k5;have k6:=af u k6;have l1:=u.size;have am:=ZE k0;have ao:=ZE k3;have ap:=ZE k4;have aq:=ZE k5;have ar:=ZE k6;have M:=hid (HG.out.below u ag);have F:=M.out.lt;have L:=Below.refl O.heap.size O
 by_cases c1:i<I<;>by_cases c2:j<J
 .have P:td=m1:=by rw[<-k];simp[c1]
  have R:ts=m2:=by rw[<-m];simp[c2]
  subst P;subst R;clear k m;have q1:(i:Int)<(I:Int):=om;have q2:(j:Int)<(J:Int):=om;go_upto_region 2 with(fail);refine qb L (rN (λx(z:Below O.heap.size O x)=>aa.out x (M.out.below (L.trans (z.mono L.size)) F)) (λx(z:Below O.heap.size O x)=>ab.out x (M.out.below (L.trans (z.mono L.size)) F))) λw2 B U=>?_;go_wp2;go_ret2;exact⟨rfl,ae u B⟩
 .have P:td=m1:=by rw[<-k];simp[c1]
  have R:ts=false:=by rw[<-m];simp[c2]
  subst P;subst R;clear k m;have q1:(i:Int)<(I:Int):=om;have q2:¬(j:Int)<(J:Int):=om;go_upto_region 2 with(fail);refine qb L (λx(z:Below O.heap.size O x)=>aa.out x (M.out.below (L.trans (z.mono L.size)) F)) λw2 B U=>?_;go_wp2;go_ret2;exact⟨rfl,ae u B⟩
 .have P:td=false:=by rw[<-k];simp[c1]
  have R:ts=m2:=by rw[<-m];simp[c2]
  subst P;subst R;clear k m;have q1:¬(i:Int)<(I:Int):=om;have q2:(j:Int)<(J:Int):=om;go_upto_region 2 with(fail);refine qb L (λx(z:Below O.heap.size O x)=>ab.out x (M.out.below (L.trans (z.mono L.size)) F)) λw2 B U=>?_;go_wp2;go_ret2;exact⟨rfl,ae u B⟩
 .have P:td=false:=by rw[<-k];simp[c1]
  have R:ts=false:=by rw[<-m];simp[c2]
  subst P;subst R;clear k m;have q1:¬(i:Int)<(I:Int):=om;have q2:¬(j:Int)<(J:Int):=om;go_upto_region 2 with(fail);refine qb L trivial λw2 B U=>?_;go_wp2;go_ret2;exact⟨rfl,ae u B⟩
theorem vN{P:Program}{o:Oper}{a:Act}{w w':World}{K:Act->World->Prop}{mt:TypeId}(mo m u:Operand)(k:o.op=.mapUpdate mt mo m u)(z:o.dst=none)(g:(Instr.mapUpdate mt (a.eval mo) (a.eval m) (a.eval u)).run P w=.ok () w')(h:K a w'):o.wp P a w K Q:=by
 unfold Oper.wp;simp[execOp,k,g,Result.andThen];show K (a.put o.dst undef) w';rw[z];exact h
theorem bB{P:Program}{m:Array Oper}{g:List Oper}{o:Oper}{a:Act}{w w':World}{mt:TypeId}(J:o.guard=none)(mo B F:Operand)(z:o.op=.mapUpdate mt mo B F)(I:o.dst=none)(k:(Instr.mapUpdate mt (a.eval mo) (a.eval B) (a.eval F)).run P w=.ok () w')(h:wpList P m Q g a w'):wpList P m Q (o::g) a w:=by
 refine wpList_plain J λL u=>?_;exact vN mo B F z I k (u _ _ h)
def Jd(w:World)(b gp mo mk:Nat)(g:G)(v:Int)(ca cb:Nat)(S T:Int×Int->Prop)(e:Ending)(w':World):Prop:=e=.returned (.tuple #[])/\bG w' b gp mo mk g v ca cb S T/\Kept [mo,mk] w w'
theorem Er(w:World)(b gp mo mk:Nat)(g:G)(v:Int)(ca cb:Nat)(S T:Int×Int->Prop)(i j:Nat)(h:bG w b gp mo mk g v ca cb S T)(hi:i<=g.fI ca cb)(hj:j<=g.fJ ca cb):Calls prog 187 #[vP b,.map (some mo),rI (i:Nat),rI (j:Nat)] w (Jd w b gp mo mk g v ca cb (λk=>S k\/(g.Eg ca cb i j/\k=(((i+1:Nat):Int),(j:Int)))\/(g.Np ca cb i j/\k=((i:Int),((j+1:Nat):Int)))) T):=by
 obtain⟨l1,l2⟩:=G.wG h.ok h.cells.2 h.cells.1;obtain⟨td,aa⟩:=rX (dB g ca cb i j);obtain⟨ts,ab⟩:=rX (sB g ca cb i j);have cN:=uG w b gp mo mk g v ca cb S T i j td ts h hi hj aa ab;have CN:=hid cN;have H:=hid h;have ad:=hid aa;have ag:=hid ab;obtain⟨n1,n2,n3,n4,n5⟩:=h.ne;have ao:i<=15:=om;have ap:j<=15:=om;clear h hi hj l1 l2 aa ab cN;go_enter func187,ntmps187;go_wp2_with fail;(with_reducible refine CN.out.mono ?_);rintro e w1 ⟨rfl,O⟩;have F:=H.out.below O;obtain⟨w2,u,ai,J⟩:=F.on.put ((i+1:Nat):Int) (j:Int);have ei:(((i+1:Nat):Int))=(i:Int)+1:=om;have ej:(((j+1:Nat):Int))=(j:Int)+1:=om
 -- what holds behind the first store,or without it
 have am:∃U:World,(U=if td=true then w2 else w1)/\bG U b gp mo mk g v ca cb (λk=>S k\/(g.Eg ca cb i j/\k=(((i+1:Nat):Int),(j:Int)))) T/\Kept [mo,mk] w U:=by
  cases td with
  |true=>
   refine⟨w2,rfl,⟨(J.block b F.lt (by simpa using n1)).trans F.hb,F.grid.EK J (by simpa using n3),ai.iff (λk=>?_),F.bk.kept J (by simpa using Ne.symm n5),F.ne,F.cells⟩,(Kept.of_below O).trans (J.wid rS)⟩;have:=yB.1 ad.out;constructor
   .rintro(x|x)
    .exact .inl x
    .exact .inr ⟨this,x⟩
   .rintro(x|x)
    .exact .inl x
    .exact .inr x.2
  |false=>
   refine⟨w1,rfl,⟨F.hb,F.grid,F.on.iff (λk=>?_),F.bk,F.ne,F.cells⟩,Kept.of_below O⟩;constructor
   .exact .inl
   .rintro(x|x)
    .exact x
    .exact absurd (yB.2 x.1) (by rw[ad.out];simp)
 obtain⟨U,P,I,Q⟩:=am;obtain⟨w4,m,al,L⟩:=I.on.put (i:Int) ((j+1:Nat):Int);rw[ei]at u;rw[ej]at m
 have R:∀wE,(wE=if ts=true then w4 else U)->Jd w b gp mo mk g v ca cb (λk=>S k\/(g.Eg ca cb i j/\k=(((i+1:Nat):Int),(j:Int)))\/(g.Np ca cb i j/\k=((i:Int),((j+1:Nat):Int)))) T (.returned (.tuple #[])) wE:=by
  intro wE hE;cases ts with
  |true=>
   have hE:wE=w4:=hE;subst hE;refine⟨rfl,⟨(L.block b I.lt (by simpa using n1)).trans I.hb,I.grid.EK L (by simpa using n3),al.iff (λk=>?_),I.bk.kept L (by simpa using Ne.symm n5),I.ne,I.cells⟩,Q.trans (L.wid rS)⟩;have:=IK.1 ag.out;constructor
   .rintro((x|x)|x)
    .exact .inl x
    .exact .inr (.inl x)
    .exact .inr (.inr ⟨this,x⟩)
   .rintro(x|x|x)
    .exact .inl (.inl x)
    .exact .inl (.inr x)
    .exact .inr x.2
  |false=>
   have hE:wE=U:=hE;subst hE;refine⟨rfl,⟨I.hb,I.grid,I.on.iff (λk=>?_),I.bk,I.ne,I.cells⟩,Q⟩;constructor
   .rintro(x|x)
    .exact .inl x
    .exact .inr (.inl x)
   .rintro(x|x|x)
    .exact .inl x
    .exact .inr x
    .exact absurd (IK.2 x.1) (by rw[ag.out];simp)
 have B:=hid R;clear R ai J al L I Q F O ei ej;cases td with
 |true=>
  have M:U=w2:=P;clear P;subst M;cases ts with
  |true=>
   go_wp2_with (at_mapUpdate;first|refine bB rfl _ _ _ rfl rfl u ?_|refine bB rfl _ _ _ rfl rfl m ?_)
   go_end0;exact B.out _ rfl
  |false=>
   clear m;go_wp2_with (at_mapUpdate;refine bB rfl _ _ _ rfl rfl u ?_);go_end0;exact B.out _ rfl
 |false=>
  have M:U=w1:=P;clear P;have z:=m;rw[M]at z;have Z:=B.out;rw[M]at Z;have ac:=hid Z;clear u M m B Z;cases ts with
  |true=>
   go_wp2_with (at_mapUpdate;refine bB rfl _ _ _ rfl rfl z ?_);go_end0;exact ac.out _ rfl
  |false=>
   clear z;go_wp2;go_end0;exact ac.out _ rfl
def T9(w:World)(b gp mo mk:Nat)(g:G)(v:Int)(ca cb:Nat)(S T:Int×Int->Prop)(e:Ending)(w':World):Prop:=e=.returned (.tuple #[])/\bG w' b gp mo mk g v ca cb S T/\Kept [mk] w w'
theorem Lr(w:World)(b gp mo mk:Nat)(g:G)(v:Int)(ca cb:Nat)(S T:Int×Int->Prop)(i j:Nat)(h:bG w b gp mo mk g v ca cb S T)(hi:i<=g.fI ca cb)(hj:j<=g.fJ ca cb):Calls prog 188 #[vP b,rI (i:Nat),rI (j:Nat)] w (T9 w b gp mo mk g v ca cb S (λk=>T k\/(((g.Eg ca cb i j/\T (((i+1:Nat):Int),(j:Int)))\/(g.Np ca cb i j/\T ((i:Int),((j+1:Nat):Int))))/\k=((i:Int),(j:Int))))):=by
 obtain⟨l1,l2⟩:=G.wG h.ok h.cells.2 h.cells.1;obtain⟨td,O⟩:=rX (dB g ca cb i j);obtain⟨ts,P⟩:=rX (sB g ca cb i j);have cN:=uG w b gp mo mk g v ca cb S T i j td ts h hi hj O P;have CN:=hid cN;have H:=hid h;have aa:=hid O;have ab:=hid P;obtain⟨n1,n2,n3,n4,n5⟩:=h.ne;have ac:i<=15:=om;have ad:j<=15:=om;clear h hi hj l1 l2 O P cN;go_enter func188,ntmps188;go_wp2_with fail;(with_reducible refine CN.out.mono ?_);rintro e w1 ⟨rfl,I⟩;have z:=H.out.below I;obtain⟨t1,Z,J⟩:=z.bk.look ((i+1:Nat):Int) (j:Int);obtain⟨t2,Q,B⟩:=z.bk.look (i:Int) ((j+1:Nat):Int);have J:=J w1 br;have B:=B w1 br;obtain⟨w2,u,U,F⟩:=z.bk.put (i:Int) (j:Int);have ei:(((i+1:Nat):Int))=(i:Int)+1:=om;have ej:(((j+1:Nat):Int))=(j:Int)+1:=om
 have L:∀wE(r:Bool),r=(td&&t1||ts&&t2)->(wE=if r=true then w2 else w1)->T9 w b gp mo mk g v ca cb S (λk=>T k\/(((g.Eg ca cb i j/\T (((i+1:Nat):Int),(j:Int)))\/(g.Np ca cb i j/\T ((i:Int),((j+1:Nat):Int))))/\k=((i:Int),(j:Int)))) (.returned (.tuple #[])) wE:=by
  intro wE r hr R
  have M:r=true↔((g.Eg ca cb i j/\T (((i+1:Nat):Int),(j:Int)))\/(g.Np ca cb i j/\T ((i:Int),((j+1:Nat):Int)))):=by
   rw[hr,<-yB,<-IK,aa.out,ab.out,<-Z,<-Q];simp
  cases r with
  |true=>
   have R:wE=w2:=R;subst R;refine⟨rfl,⟨(F.block b z.lt (by simpa using n2)).trans z.hb,z.grid.EK F (by simpa using n4),z.on.kept F (by simpa using n5),U.iff (λk=>?_),z.ne,z.cells⟩,(Kept.of_below I).trans F⟩;have:=M.1 rfl;constructor
   .rintro(x|x)
    .exact .inl x
    .exact .inr ⟨this,x⟩
   .rintro(x|x)
    .exact .inl x
    .exact .inr x.2
  |false=>
   have R:wE=w1:=R;subst R;refine⟨rfl,⟨z.hb,z.grid,z.on,z.bk.iff (λk=>?_),z.ne,z.cells⟩,Kept.of_below I⟩;constructor
   .exact .inl
   .rintro(x|x)
    .exact x
    .exact absurd (M.2 x.1) rS
 have m:=hid L;obtain⟨_,_,_,_,_,_,_,_,k8⟩:=z.cell;rw[ei]at J;rw[ej]at B;clear L U F z I ei ej Z Q;cases td with
 |true=>
  cases t1 with
  |true=>
   clear B;go_wp2_with (at_mapUpdate;refine bB rfl _ _ _ rfl rfl u ?_);go_end0
   exact m.out _ true rS rfl
  |false=>
   cases ts with
   |true=>
    cases t2 with
    |true=>
     go_wp2_with (at_mapUpdate;refine bB rfl _ _ _ rfl rfl u ?_);go_end0
     exact m.out _ true rS rfl
    |false=>
     clear u;go_wp2;go_end0;exact m.out _ false rS rfl
   |false=>
    clear u B;go_wp2;go_end0;exact m.out _ false rS rfl
 |false=>
  clear J;cases ts with
  |true=>
   cases t2 with
   |true=>
    go_wp2_with (at_mapUpdate;refine bB rfl _ _ _ rfl rfl u ?_);go_end0
    exact m.out _ true rS rfl
   |false=>
    clear u;go_wp2;go_end0;exact m.out _ false rS rfl
  |false=>
   clear u B;go_wp2;go_end0;exact m.out _ false rS rfl
theorem sH(w:World)(b gp mo mk:Nat)(g:G)(v:Int)(ca cb:Nat)(S T:Int×Int->Prop)(t:Bool)(h:bG w b gp mo mk g v ca cb S T)(Z:t=true↔S ((g.fI ca cb:Nat),(g.fJ ca cb:Nat))):Calls prog 141 #[vP b] w (Rt w (.bool t)):=by
 obtain⟨Q,k1,k2,k3,k4,L,M,k7,k8⟩:=h.cell;have U:=h.lt;obtain⟨O,u,k⟩:=h.on.look (g.fI ca cb:Nat) (g.fJ ca cb:Nat)
 obtain rfl:O=t:=by
  cases O<;>cases t<;>simp_all
 have k:=λp os=>k _ (ZC w p os);obtain⟨I,B⟩:=rX (g.fI ca cb);obtain⟨J,F⟩:=rX (g.fJ ca cb);rw[B]at L k;rw[F]at M k;clear B F Z u h Q k1 k2 k3 k4 k8;have aa:=ZE L;have ab:=ZE M;have ac:=ZE k7;have P:=Below.refl w.heap.size w;go_enter func141,ntmps141;go_upto_region 1 with(fail);refine qb P trivial λw2 m R=>?_;go_wp2;go_ret;exact⟨rfl,m⟩
def iQ(P:Nat->Nat->Prop):Int×Int->Prop:=λk=>∃p q:Nat,k=((p:Int),(q:Int))/\P p q
theorem l7{P Q:Nat->Nat->Prop}(h:∀p q,P p q↔Q p q)(k:Int×Int):iQ P k↔iQ Q k:=by
 unfold iQ;constructor
 .rintro⟨p,q,e,x⟩;exact⟨p,q,e,(h p q).1 x⟩
 .rintro⟨p,q,e,x⟩;exact⟨p,q,e,(h p q).2 x⟩
theorem nD{P:Nat->Nat->Prop}(p q:Nat):iQ P ((p:Int),(q:Int))↔P p q:=by
 unfold iQ;constructor
 .rintro⟨g,k,e,x⟩
  injection e with m u
  obtain rfl:p=g:=om;obtain rfl:q=k:=om;exact x
 .intro x;exact⟨p,q,rfl,x⟩
structure qE (w:World) (b gp mo mk:Nat) (x y:Int) (d s:Int) (i j:Int):Prop where
 hb:w.heap[b]? =some (.cells #[vP gp,rI x,rI y,rI d,rI s,rI i,rI j,.map (some mo),.map (some mk)] 235 (0,0))
 on:fe w mo (λk=>k=(0,0))
 bk:fe w mk (λk=>k=(i,j))
 ne:b≠mo/\b≠mk/\mo≠mk
def Jy(p:Int×Int):Obj:=.map #[{key:=kP p,val:=.bool true,born:=0}] 1
theorem JQ(p:Int×Int){b:Nat}(g:w.heap[b]? =some (.map #[] 0)):(Instr.mapUpdate 233 (.map (some b)) (kP p) (.bool true)).run prog w=.ok () {w with heap:=w.heap.setIfInBounds b (Jy p)}:=by
 have k:(Instr.findKey 229 (kP p) []).run prog w=.ok none w:=by
  rcases jP.find [] p w rS with⟨h,_⟩|⟨i,e,_,h,_⟩
  .exact h
  .simp at h
 simp[Instr.mapUpdate,run_underlying underlying233,MapKept.run_getObj_map g,jP.check,k,MapKept.run_setObj_map _ g,Result.andThen,Jy]
theorem Qr{α:Type}(g:Array α)(a b:α):(g.push a).setIfInBounds g.size b=g.push b:=by
 apply Array.ext_getElem?;intro i;simp only[Array.getElem?_setIfInBounds,Array.getElem?_push,Array.size_push];by_cases h:g.size=i
 .subst h;simp
 .simp[h,Ne.symm h]
theorem MM{α:Type}(g:Array α)(a b c:α):((g.push a).push c).setIfInBounds g.size b=(g.push b).push c:=by
 apply Array.ext_getElem?;intro i;simp only[Array.getElem?_setIfInBounds,Array.getElem?_push,Array.size_push];by_cases h:g.size=i
 .subst h;simp;omega
 .by_cases k:i=g.size+1
  .subst k;simp
  .simp[h,Ne.symm h,k]
theorem Pj(p:Int×Int)(w:World):(Instr.mapUpdate 233 (.map (some w.heap.size)) (kP p) (.bool true)).run prog (w.alloc (.map #[] 0)).drew=.ok () (w.alloc (Jy p)).drew:=by
 rw[JQ p (w:=(w.alloc (.map #[] 0)).drew) (MapKept.heap_alloc w _).1];show Result.ok () {(w.alloc (.map #[] 0)).drew with heap:=(w.heap.push (.map #[] 0)).setIfInBounds w.heap.size (Jy p)}=_;rw[Qr];rfl
theorem Uu(p:Int×Int)(w:World)(A:Obj):(Instr.mapUpdate 233 (.map (some (w.heap.size+1))) (kP p) (.bool true)).run prog ((w.alloc A).alloc (.map #[] 0)).drew=.ok () ((w.alloc A).alloc (Jy p)).drew:=by
 have:=Pj p (w.alloc A);simpa using this
theorem Uv(p:Int×Int)(w:World)(B:Obj):(Instr.mapUpdate 233 (.map (some w.heap.size)) (kP p) (.bool true)).run prog ((w.alloc (.map #[] 0)).alloc B).drew=.ok () ((w.alloc (Jy p)).alloc B).drew:=by
 rw[JQ p (w:=((w.alloc (.map #[] 0)).alloc B).drew) (((MapKept.heap_alloc (w.alloc (.map #[] 0)) B).2 w.heap.size rS).trans (MapKept.heap_alloc w _).1)];show Result.ok () {((w.alloc (.map #[] 0)).alloc B).drew with heap:=((w.heap.push (.map #[] 0)).push B).setIfInBounds w.heap.size (Jy p)}=_;rw[MM];rfl
theorem fe.one{b:Nat}(p:Int×Int)(h:w.heap[b]? =some (Jy p)):fe w b (λk=>k=p):=by
 refine⟨λk=>if k=p then some (.bool true)else none,1,⟨_,_,h,⟨rS,rS,rS⟩,rfl,?_,?_⟩,λk=>?_⟩
 .intro e m
  simp at m;subst m;exact⟨p,rfl,rS⟩
 .intro k v g
  simp only at g;by_cases e:k=p
  .rw[if_pos e]at g
   injection g with g
   exact⟨{key:=kP p,val:=.bool true,born:=0},rS,by rw[e],g⟩
  .rw[if_neg e]at g;cases g
 .by_cases e:k=p
  .exact .inl ⟨if_pos e,e⟩
  .exact .inr ⟨if_neg e,e⟩
namespace qE
open Go.Lib (hid)
variable {w w':World} {b gp mo mk:Nat} {x y d s i j:Int}
theorem lt(h:qE w b gp mo mk x y d s i j):b<w.heap.size:=(Za.1 h.hb).1
theorem below(h:qE w b gp mo mk x y d s i j)(g:Below w.heap.size w w'):qE w' b gp mo mk x y d s i j:=
 ⟨(g.block b h.lt).trans h.hb,h.on.below g,h.bk.below g,h.ne⟩
theorem frozen(h:qE w b gp mo mk x y d s i j)(k:Nat):w.frozen? ⟨b,k,none⟩=false:=by
 unfold World.frozen?;simp[h.hb]
theorem c3(h:qE w b gp mo mk x y d s i j):w.cell? ⟨b,3,none⟩=some (rI d)/\w.cell? ⟨b,4,none⟩=some (rI s):=by
 simp[World.cell?,h.hb]
theorem Sw(h:qE w b gp mo mk x y d s i j){a:Addr}(m:a.block=b)(v:Value):fe (w.setCell a v) mo (λk=>k=(0,0))/\fe (w.setCell a v) mk (λk=>k=(i,j)):=by
 have g:Kept [b] w (w.setCell a v):=(Kept.refl [b] w).setCell (.inl (by rw[m];simp));exact⟨h.on.kept g (by have:=h.ne.1;simp;omega),h.bk.kept g (by have:=h.ne.2.1;simp;omega)⟩
theorem X7(h:qE w b gp mo mk x y d s i j)(z:Int):qE (w.setCell ⟨b,3,none⟩ (rI z)) b gp mo mk x y z s i j:=by
 refine⟨?_,(h.Sw rfl _).1,(h.Sw rfl _).2,h.ne⟩;rw[gz _ _ _ _ _ _ h.hb];rfl
theorem Xo(h:qE w b gp mo mk x y d s i j)(z:Int):qE (w.setCell ⟨b,4,none⟩ (rI z)) b gp mo mk x y d z i j:=by
 refine⟨?_,(h.Sw rfl _).1,(h.Sw rfl _).2,h.ne⟩;rw[gz _ _ _ _ _ _ h.hb];rfl
end qE
variable {a:Addr}{p:Nat}{P Q:Nat->Nat->Prop}{A:Obj}{v:Value}{w:World}
theorem o9(w:World)(o:Obj){k:Nat}{x:Option Obj}(g:k<w.heap.size)(h:w.heap[k]? =x):(w.alloc o).heap[k]? =x:=(Below.heap_alloc _ _ _ g).trans h
theorem uA(w:World)(o:Obj){k:Nat}(g:k=w.heap.size):(w.alloc o).heap[k]? =some o:=by rw[g];exact heap_alloc_new w o
def UO(W:World)(p:Nat)(x y i j:Int)(s:Value)(wx:World):Prop:=∃b mo mk,s=vP b/\qE wx b p mo mk x y 0 0 i j/\(W.heap.size<=b/\W.heap.size<=mo/\W.heap.size<=mk)/\Below W.heap.size W wx
theorem Vt{W:World}{x y i j:Int}{g k:Obj}(h:Jy (0,0)=g/\Jy (i,j)=k):UO W p x y i j (.pointer (some ⟨W.heap.size+1+1,0,none⟩)) (((W.alloc g).alloc k).alloc (.cells #[vP p,rI x,rI y,rI 0,rI 0,rI i,rI j,.map (some W.heap.size),.map (some (W.heap.size+1))] 235)).drew:=by
 obtain⟨rfl,rfl⟩:=h;refine⟨W.heap.size+1+1,W.heap.size,W.heap.size+1,rfl,⟨?_,fe.one (0,0) ?_,fe.one (i,j) ?_,om⟩,om,be⟩
 .exact uA _ _ rS
 .exact o9 _ _ so (o9 _ _ rS (uA _ _ rfl))
 .exact o9 _ _ rS (uA _ _ rS)
theorem Vu{W:World}{x y i j:Int}{g k:Obj}(h:Jy (0,0)=g/\Jy (i,j)=k):UO W p x y i j (.pointer (some ⟨W.heap.size+1+1,0,none⟩)) (((W.alloc k).alloc g).alloc (.cells #[vP p,rI x,rI y,rI 0,rI 0,rI i,rI j,.map (some (W.heap.size+1)),.map (some W.heap.size)] 235)).drew:=by
 obtain⟨rfl,rfl⟩:=h;refine⟨W.heap.size+1+1,W.heap.size+1,W.heap.size,rfl,⟨?_,fe.one (0,0) ?_,fe.one (i,j) ?_,om⟩,om,be⟩
 .exact uA _ _ rS
 .exact o9 _ _ rS (uA _ _ rS)
 .exact o9 _ _ so (o9 _ _ rS (uA _ _ rfl))
theorem Ux(h:w.cell? a=some v):(w.alloc A).drew.cell? a=some v:=aD h
theorem Uy{A B:Obj}(h:w.cell? a=some v):((w.alloc A).alloc B).drew.cell? a=some v:=aD (aD h)
theorem Uz{A B D:Obj}(h:w.cell? a=some v):(((w.alloc A).alloc B).alloc D).drew.cell? a=some v:=aD (aD (aD h))
theorem IQ{d s:Prop}{i j:Nat}(h:∀p q,Q p q↔P p q\/(d/\p=i+1/\q=j)\/(s/\p=i/\q=j+1))(k:Int×Int):(iQ P k\/(d/\k=(((i+1:Nat):Int),(j:Int)))\/(s/\k=((i:Int),((j+1:Nat):Int))))↔iQ Q k:=by
 constructor
 .rintro(⟨p,q,e,x⟩|⟨x,e⟩|⟨x,e⟩)
  .exact⟨p,q,e,(h p q).2 (.inl x)⟩
  .exact⟨i+1,j,e,(h _ _).2 (.inr (.inl ⟨x,rfl,rfl⟩))⟩
  .exact⟨i,j+1,e,(h _ _).2 (.inr (.inr ⟨x,rfl,rfl⟩))⟩
 .rintro⟨p,q,e,x⟩
  rcases(h p q).1 x with y|⟨y,rfl,rfl⟩|⟨y,rfl,rfl⟩
  .exact .inl ⟨p,q,e,y⟩
  .exact .inr (.inl ⟨y,e⟩)
  .exact .inr (.inr ⟨y,e⟩)
theorem Pv{d s:Prop}{i j:Nat}(h:∀p q,Q p q↔P p q\/(((d/\P (i+1) j)\/(s/\P i (j+1)))/\p=i/\q=j))(k:Int×Int):(iQ P k\/(((d/\iQ P (((i+1:Nat):Int),(j:Int)))\/(s/\iQ P ((i:Int),((j+1:Nat):Int))))/\k=((i:Int),(j:Int))))↔iQ Q k:=by
 rw[nD,nD];constructor
 .rintro(⟨p,q,e,x⟩|⟨x,e⟩)
  .exact⟨p,q,e,(h p q).2 (.inl x)⟩
  .exact⟨i,j,e,(h _ _).2 (.inr ⟨x,rfl,rfl⟩)⟩
 .rintro⟨p,q,e,x⟩
  rcases(h p q).1 x with y|⟨y,rfl,rfl⟩
  .exact .inl ⟨p,q,e,y⟩
  .exact .inr ⟨y,e⟩
def Ny(w:World)(p:Nat)(g:G)(v:Int)(ca cb:Nat)(e:Ending)(w':World):Prop:=
 ∃b mo mk,e=.returned (vP b)/\bG w' b p mo mk g v ca cb (iQ (g.Rc ca cb)) (iQ (g.TY ca cb))/\Below w.heap.size w w'
theorem OV{b p mo mk:Nat}{g:G}{v:Int}{ca cb:Nat}(m:qE w b p mo mk (g.X ca:Nat) (g.Y ca:Nat) (g.sG ca cb:Nat) (g.gJ ca cb:Nat) (g.fI ca cb:Nat) (g.fJ ca cb:Nat))(F:aC w p g v)(B:p≠mo/\p≠mk)(u:ca<g.n)(z:cb<g.n):bG w b p mo mk g v ca cb (iQ (g.Gn ca cb 0 0)) (iQ λp q=>p=g.fI ca cb/\q=g.fJ ca cb):=
 ⟨m.hb,F,m.on.iff (λk=>⟨λe=>⟨0,0,e,G.Bg.2 ⟨rfl,rfl⟩⟩,λ⟨p,q,e,x⟩=>by obtain⟨rfl,rfl⟩:=G.Bg.1 x;exact e⟩),
  m.bk.iff (λk=>⟨λe=>⟨_,_,e,rfl,rfl⟩,λ⟨p,q,e,x⟩=>by obtain⟨rfl,rfl⟩:=x;exact e⟩),⟨m.ne.1,m.ne.2.1,B.1,B.2,m.ne.2.2⟩,u,z⟩
theorem bG.iff{b gp mo mk:Nat}{g:G}{v:Int}{ca cb:Nat}{S T m T':Int×Int->Prop}(h:bG w b gp mo mk g v ca cb S T)(u:∀k,S k↔m k)(z:∀k,T k↔T' k):bG w b gp mo mk g v ca cb m T':=
 ⟨h.hb,h.grid,h.on.iff u,h.bk.iff z,h.ne,h.cells⟩
theorem newField(w:World)(p:Nat)(g:G)(v:Int)(ca cb:Nat)(h:aC w p g v)(S:ca<g.n)(T:cb<g.n):Calls prog 140 #[vP p,rI (ca:Nat),rI (cb:Nat)] w (Ny w p g v ca cb):=by
 have ax:=h.1;obtain⟨o1,o2,o3,o4⟩:=h.1;have hX:=G.ji ax ca;have cd:=G.ji ax cb;have hY:=G.iJ S;have ce:=G.iJ T;have bm:=hid (λw' h'=>aU w' p g v ca h' S);have bo:=hid (λw' h'=>aU w' p g v cb h' T);have a3:=G.nG (g:=g) (a:=ca) (b:=cb);have cO:=λw=>qL (g.X ca:Nat) (g.Y ca:Nat) (g.X cb:Nat) (g.Y cb:Nat) w om om om om;have b9:dD ((g.X ca:Nat)-(g.X cb:Nat)) ((g.Y ca:Nat)-(g.Y cb:Nat))=⟨g.fJ ca cb,g.fI ca cb⟩:=a3;rw[b9]at cO;have cO:=hid cO;have b5:=h.lt;have HG:=hid h;have bi:=hid h;clear b9 a3 h;go_enter func140,ntmps140;go_wp2_with fail;(with_reducible refine(bm.out _ HG.out).mono ?_);rintro e w1 ⟨rfl,ba⟩;have bj:=hid (HG.out.below ba b5);go_wp2_with fail;(with_reducible refine(bo.out _ bj.out).mono ?_);rintro e w2 ⟨rfl,b2⟩;have F:=ae ba b2;clear HG bj ba b2 bm bo;go_wp2_with fail;(with_reducible refine(cO.out _).mono ?_);rintro e w3 ⟨rfl,b3⟩;have M:=ae F b3;clear b3 cO F
 go_upto_region 5 with(fail);refine aB ?_;intro W4 a1;have bk:Below w3.heap.size w3 W4:=by rw[a1];exact be
 have c0:W4.cell? ⟨w3.heap.size,0,none⟩=some (rI (g.fJ ca cb:Nat)):=by rw[a1];go_simp
 have c1:W4.cell? ⟨w3.heap.size,1,none⟩=some (rI (g.fI ca cb:Nat)):=by rw[a1];go_simp
 have ab:=ae M bk;obtain⟨bp,a2⟩:=rX w3.heap.size;rw[a2]at c0 c1⊢;clear a1 bk M a2;have hm:=@run_makeMap prog;have i1:=Pj (0,0) W4;have i2:=Pj ((g.fI ca cb:Nat),(g.fJ ca cb:Nat)) W4;have i3:=Uu (0,0) W4;have i4:=Uu ((g.fI ca cb:Nat),(g.fJ ca cb:Nat)) W4;have i5:=Uv (0,0) W4;have i6:=Uv ((g.fI ca cb:Nat),(g.fJ ca cb:Nat)) W4;obtain⟨cp,ar⟩:∃z,Jy (0,0)=z:=⟨_,rfl⟩;obtain⟨cq,aw⟩:∃z,Jy ((g.fI ca cb:Nat),(g.fJ ca cb:Nat))=z:=⟨_,rfl⟩;rw[ar]at i1 i3 i5;rw[aw]at i2 i4 i6;have a6:=hid (rN ar aw);clear ar aw;unfold kP at i1 i2 i3 i4 i5 i6;simp only at i1 i2 i3 i4 i5 i6;go_cut [16] (λs wx=>UO W4 p (g.X ca:Nat) (g.Y ca:Nat) (g.fI ca cb:Nat) (g.fJ ca cb:Nat) s wx)
 case first=>
  go_region_held3 (λw'=>w'.cell? ⟨bp,0,none⟩=some (rI (g.fJ ca cb:Nat))/\w'.cell? ⟨bp,1,none⟩=some (rI (g.fI ca cb:Nat)))
   (first|exact⟨Ux c0,Ux c1⟩|exact⟨Uy c0,Uy c1⟩|exact⟨Uz c0,Uz c1⟩|(go_keep;done))
   (fail)
  all_goals
   clear i1 i2 i3 i4 i5 i6 hm;go_wp2;go_meet
   case rel=>first|exact Vt a6.out|exact Vu a6.out
 case rest=>
 clear i1 i2 i3 i4 i5 i6 hm c0 c1 a6;obtain⟨b,mo,mk,rfl,L,⟨g1,g2,g3⟩,hdr⟩:=hcut;have cm:=ab.size;have a4:=ae ab hdr;clear hdr ab;obtain⟨U,ao⟩:=rX (((g.X cb:Nat):Int)-(g.X ca:Nat));obtain⟨Z,ap⟩:=rX (((g.Y cb:Nat):Int)-(g.Y ca:Nat));rw[ao,ap];have d1:-16<=U:=om;have d2:U<=16:=om;have d3:-16<=Z:=om;have d4:Z<=16:=om;have bq:g.JF ca cb=zJ U:=by rw[<-ao];rfl
 have bt:g.JG ca cb=zJ Z:=by rw[<-ap];rfl
 have bv:g.JH ca cb=if Z.natAbs<=U.natAbs then zJ U else 0:=by rw[<-ao,<-ap];rfl
 have bw:g.JI ca cb=if Z.natAbs<=U.natAbs then 0 else zJ Z:=by rw[<-ao,<-ap];rfl
 have cD:=λw=>jT w (zJ U) (zJ Z);have ed:kX (zJ U) (zJ Z)=g.sG ca cb:=by unfold G.sG;rw[bq,bt]
 rw[ed]at cD;have cD:=hid cD;have a7:=hid (λw=>Bu w U om);have a8:=hid (λw=>Bu w Z om);have HF:=hid L;have am:=hid (rN bv bw);clear ao ap bq bt bv bw ed L;obtain⟨wB,b8⟩:∃z:World,wc=z:=⟨_,rfl⟩;rw[b8]at HF a4⊢;clear b8;go_wp2_with fail;(with_reducible refine(a7.out _).mono ?_);rintro e w' ⟨rfl,rfl⟩;go_wp2_with fail;(with_reducible refine(a8.out _).mono ?_);rintro e w' ⟨rfl,rfl⟩;go_wp2_with fail;(with_reducible refine(cD.out _).mono ?_);rintro e w6 ⟨rfl,bb⟩;have B:=HF.out.below bb;have bh:=ae a4 bb;have k3:=B.c3.1;have f3:=B.frozen 3;have ad:=hid (B.X7 (g.sG ca cb:Nat));have ac:Below w.heap.size w (w6.setCell ⟨b,3,none⟩ (rI (g.sG ca cb:Nat))):=bh.setCell so _;clear HF B bb a4 cD bh;go_upto_region 7 with(fail);clear k3 f3;obtain⟨w7,b6⟩:∃z:World,(w6.setCell ⟨b,3,none⟩ (rI (g.sG ca cb:Nat)))=z:=⟨_,rfl⟩;rw[b6]at ad ac⊢;clear b6;go_upto_if 81 with(fail)
 obtain⟨m1,bd⟩:=rX (max U (-U));obtain⟨m2,bg⟩:=rX (max Z (-Z));have e1:m1=(U.natAbs:Int):=by rw[<-bd];omega
 have e2:m2=(Z.natAbs:Int):=by rw[<-bg];omega
 rw[bd,bg];have Hm:=hid (rN e1 e2);clear bd bg e1 e2;go_cut [] (λwx=>qE wx b p mo mk (g.X ca:Nat) (g.Y ca:Nat) (g.sG ca cb:Nat) (g.gJ ca cb:Nat) (g.fI ca cb:Nat) (g.fJ ca cb:Nat)/\Below w.heap.size w wx)
 case first=>
  by_cases ai:Z.natAbs<=U.natAbs
  .have ht:decide (m2<=m1)=true:=by rw[decide_eq_true_iff,Hm.out.1,Hm.out.2];omega
   have es:kX (zJ U) 0=g.gJ ca cb:=by unfold G.gJ;rw[am.out.1,am.out.2,if_pos ai,if_pos ai]
   have cE:=λw=>jT w (zJ U) 0;rw[es]at cE;have cE:=hid cE;rw[ht];clear ht es ai;go_wp2_with fail;(with_reducible refine(a7.out _).mono ?_);rintro e w' ⟨rfl,rfl⟩;go_wp2_with fail;(with_reducible refine(cE.out _).mono ?_);rintro e w8 ⟨rfl,aa⟩;have O:=ad.out.below aa;have al:=ae ac aa;have k4:=O.c3.2;have f4:=O.frozen 4;have a5:=hid (O.Xo (g.gJ ca cb:Nat));have R:Below w.heap.size w (w8.setCell ⟨b,4,none⟩ (rI (g.gJ ca cb:Nat))):=al.setCell so _;clear ad O aa ac cE al;go_wp2;go_meet
   case rel=>exact⟨a5.out,R⟩
  .have ht:decide (m2<=m1)=false:=by rw[decide_eq_false_iff_not,Hm.out.1,Hm.out.2];omega
   have es:kX 0 (zJ Z)=g.gJ ca cb:=by unfold G.gJ;rw[am.out.1,am.out.2,if_neg ai,if_neg ai]
   have cE:=λw=>jT w 0 (zJ Z);rw[es]at cE;have cE:=hid cE;rw[ht];clear ht es ai;go_wp2_with fail;(with_reducible refine(a8.out _).mono ?_);rintro e w' ⟨rfl,rfl⟩;go_wp2_with fail;(with_reducible refine(cE.out _).mono ?_);rintro e w8 ⟨rfl,aa⟩;have O:=ad.out.below aa;have al:=ae ac aa;have k4:=O.c3.2;have f4:=O.frozen 4;have a5:=hid (O.Xo (g.gJ ca cb:Nat));have R:Below w.heap.size w (w8.setCell ⟨b,4,none⟩ (rI (g.gJ ca cb:Nat))):=al.setCell so _;clear ad O aa ac cE al;go_wp2;go_meet
   case rel=>exact⟨a5.out,R⟩
 case rest=>
 obtain⟨L,R⟩:=hcut;clear ad ac am a7 a8 d1 d2 d3 d4;obtain⟨w9,b7⟩:∃z:World,wc=z:=⟨_,rfl⟩;rw[b7]at L R⊢;clear b7;have bz:=bi.out.below R b5;have hp1:p≠mo/\p≠mk:=om;have a9:=OV L bz hp1 S T;obtain⟨q1,q2⟩:=G.wG ax T S;obtain⟨I,hI⟩:=rX (g.fI ca cb);obtain⟨J,hJ⟩:=rX (g.fJ ca cb);rw[hI,hJ]at a9;rw[hI]at q1;rw[hJ]at q2;have m:=hid (rN hI hJ);have aE:=hid ax;clear L bz hp1 hI hJ ax bi hX cd hY ce;have b4:∀k,k∈[mo,mk]->w.heap.size<=k:=so;have bl:=hid b4;clear b4;go_wp2_with fail;go_loopw [17] (λkv wr=>∃i:Nat,i<=I+1/\kv=rI i/\bG wr b p mo mk g v ca cb (iQ (g.Gn ca cb i 0)) (iQ λp q=>p=I/\q=J)/\Below w.heap.size w wr) (λkv _=>I+1-(intOf kv).toNat)
 case atStart=>exact⟨0,om,rfl,a9,R⟩
 case round=>
  obtain⟨i,hi,rfl,L,HB⟩:=hrel;clear a9 R;obtain⟨_,_,_,_,_,k5,k6,_,_⟩:=L.cell;rw[m.out.1]at k5;rw[m.out.2]at k6;have L:=hid L;by_cases bc:i<=I
  .have ch:(i:Int)<=(I:Int):=om
   go_wp2_with fail;clear k5 k6;obtain⟨wo,rfl⟩:∃wo:World,wo=wr:=⟨_,rfl⟩
   go_loopw [18] (λkv wr=>∃j:Nat,j<=J+1/\kv=rI j/\bG wr b p mo mk g v ca cb (iQ (g.Gn ca cb i j)) (iQ λp q=>p=I/\q=J)/\Below w.heap.size w wr) (λkv _=>J+1-(intOf kv).toNat)
   case atStart=>exact⟨0,om,rfl,L.out,HB⟩
   case round=>
    obtain⟨j,hj,rfl,ag,F⟩:=hrel;clear L HB;obtain⟨_,_,_,_,_,_,k6,k7,_⟩:=ag.cell;rw[m.out.2]at k6;by_cases aq:j<=J
    .have cg:(j:Int)<=(J:Int):=om
     obtain⟨t,ht,hl⟩:=ag.on.look (i:Int) (j:Int);have hl:=hl wr br;rw[nD,G.VM aE.out T S (by rw[m.out.1];exact bc) (by rw[m.out.2];exact aq)]at ht;have Ht:=hid ht;have ay:=hid ag;clear ht ag;cases t with
     |true=>
      have a0:=Er wr b p mo mk g v ca cb _ _ i j ay.out (by rw[m.out.1];exact bc) (by rw[m.out.2];exact aq);have a0:=hid a0;go_wp2_with fail;(with_reducible refine a0.out.mono ?_);rintro e w2 ⟨rfl,P,b0⟩;have u:=P.iff (IQ (λp q=>G.Qk (by rw[m.out.1];exact bc) (by rw[m.out.2];exact aq) (by have:=Ht.out;simpa using this))) (λk=>Iff.rfl);have M:=Kept.below F b0 F.size bl.out;have u:=hid u;clear P b0 a0 hl k6 k7 ay;go_wp2;go_roundw
      case rel=>refine rR ?_;exact⟨j+1,om,by go_num,u.out,M⟩
      case measure=>exact rM
     |false=>
      have u:=ay.out.iff (l7 (λp q=>(G.VN (p:=p) (q:=q) (λh=>by have:=Ht.out.2 h;simp at this)).symm)) (λk=>Iff.rfl);have u:=hid u;clear ay;go_wp2;go_roundw
      case rel=>refine rR ?_;exact⟨j+1,om,by go_num,u.out,F⟩
      case measure=>exact rM
    .obtain rfl:j=J+1:=om
     have u:=ag.iff (l7 (Q:=g.Gn ca cb (i+1) 0) (λp q=>by have:=G.Tj (g:=g) (a:=ca) (b:=cb) (i:=i) (p:=p) (q:=q);rw[m.out.2]at this;exact this)) (λk=>Iff.rfl);have u:=hid u;clear ag;go_wp2;go_roundw
     case rel=>refine rR ?_;exact⟨i+1,om,by go_num,u.out,F⟩
     case measure=>exact rM
  .obtain rfl:i=I+1:=om
   have u:=L.out.iff (l7 (Q:=g.Rc ca cb) (λp q=>by have:=G.Ti aE.out T S (p:=p) (q:=q);rw[m.out.1]at this;exact this)) (l7 (Q:=g.Gd ca cb (I+1) (J+1)) (λp q=>by have:=G.K4 (g:=g) (a:=ca) (b:=cb) (p:=p) (q:=q);rw[m.out.1,m.out.2]at this;exact this.symm));have u:=hid u;clear L;go_wp2_with fail;clear k5 k6;obtain⟨wo,rfl⟩:∃wo:World,wo=wr:=⟨_,rfl⟩
   go_loopw [19] (λkv wr=>∃(k:Nat)(x:Int),k<=I+1/\kv=rI x/\x=(k:Int)-1/\bG wr b p mo mk g v ca cb (iQ (g.Rc ca cb)) (iQ (g.Gd ca cb k (J+1)))/\Below w.heap.size w wr) (λkv _=>(intOf kv+1).toNat)
   case atStart=>exact⟨I+1,_,om,rfl,om,u.out,HB⟩
   case round=>
    obtain⟨k,x,hk,rfl,hx,L,F⟩:=hrel;clear u HB;obtain⟨_,_,_,_,_,k5,k6,_,_⟩:=L.cell;rw[m.out.1]at k5;rw[m.out.2]at k6;have L:=hid L;by_cases ck:0<k
    .obtain⟨i,rfl⟩:∃i,k=i+1:=⟨k-1,om⟩
     obtain rfl:x=(i:Int):=om;clear hx;have ci:(0:Int)<=(i:Int):=om;go_wp2_with fail;clear k5 k6;obtain⟨wo,rfl⟩:∃wo:World,wo=wr:=⟨_,rfl⟩
     go_loopw [20] (λkv wr=>∃(l:Nat)(y:Int),l<=J+1/\kv=rI y/\y=(l:Int)-1/\bG wr b p mo mk g v ca cb (iQ (g.Rc ca cb)) (iQ (g.Gd ca cb (i+1) l))/\Below w.heap.size w wr) (λkv _=>(intOf kv+1).toNat)
     case atStart=>exact⟨J+1,_,om,rfl,om,L.out,F⟩
     case round=>
      obtain⟨l,y,hl,rfl,hy,P,M⟩:=hrel;clear L F;by_cases cl:0<l
      .obtain⟨j,rfl⟩:∃j,l=j+1:=⟨l-1,om⟩
       obtain rfl:y=(j:Int):=om;clear hy;have cj:(0:Int)<=(j:Int):=om;have aS:=Lr wr b p mo mk g v ca cb _ _ i j P (by rw[m.out.1];omega) (by rw[m.out.2];omega);have aS:=hid aS;clear P;go_wp2_with fail;(with_reducible refine aS.out.mono ?_);rintro e w2 ⟨rfl,bx,b1⟩;have B:=bx.iff (λk=>Iff.rfl) (Pv (Q:=g.Gd ca cb (i+1) j) (λp q=>G.Oi aE.out T S (by rw[m.out.1];omega) (by rw[m.out.2];omega)));have ab:=Kept.below M b1 M.size (λk hk=>bl.out k (by simp at hk⊢;exact .inr hk));have B:=hid B;clear bx b1 aS;go_wp2;go_roundw
       case rel=>refine rR ?_;exact⟨j,_,om,rfl,om,B.out,ab⟩
       case measure=>simp[intOf]
      .obtain rfl:l=0:=om
       have co:y<0:=om;have B:=P.iff (λk=>Iff.rfl) (l7 (Q:=g.Gd ca cb i (J+1)) (λp q=>by have:=G.RJ (g:=g) (a:=ca) (b:=cb) (i:=i) (p:=p) (q:=q);rw[m.out.2]at this;exact this));have B:=hid B;clear P;go_wp2;go_roundw
       case rel=>refine rR ?_;exact⟨i,_,om,rfl,om,B.out,M⟩
       case measure=>simp[intOf]
    .obtain rfl:k=0:=om
     have cn:x<0:=om;have B:=L.out.iff (λk=>Iff.rfl) (l7 (Q:=g.TY ca cb) (λp q=>G.RI aE.out T S));have hD:Ny w p g v ca cb (.returned (vP b)) wr:=⟨b,mo,mk,rfl,B,F⟩;clear B L hx;go_wp2;go_ret;exact hD
end Go.Proofs.YtnifggkjieemeaaGreatDoor
