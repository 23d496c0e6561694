/- Lemmas of this claim: Reach2, Reach3, Reach4. -/
import Derived.Test.YtokhnobcincfjaaGreatDoorReach1
set_option linter.unusedVariables false
set_option linter.unusedSimpArgs false
set_option maxHeartbeats 3200000
set_option maxRecDepth 100000
namespace Go.Proofs.YtokhnobcincfjaaGreatDoor
open Go.Lib (hid)
open Go.RowKit Go.Sort FR
variable {Q:Exit->Act->World->Prop}{w:World}
def dB(g:G)(ca cb i j:Nat):Bool:=decide (i<g.fI ca cb)&&g.may (g.fx ca cb i j) (g.fy ca cb i j) (g.qh ca cb)
def sB(g:G)(ca cb i j:Nat):Bool:=decide (j<g.fJ ca cb)&&g.may (g.fx ca cb i j) (g.fy ca cb i j) (g.fK ca cb)
theorem uQ{g:G}{ca k i j:Nat}:dB g ca k i j=true↔g.Bb ca k i j:=by unfold dB G.Bb;simp
theorem EG{g:G}{ca k i j:Nat}:sB g ca k i j=true↔g.JI ca k i j:=by unfold sB G.JI;simp
theorem rG(w:World)(b gp mo mk:Nat)(g:G)(v:Int)(ca cb:Nat)(S T:Int×Int->Prop)(i j:Nat)(td ts:Bool)(h:bA w b gp mo mk g v ca cb S T)(hi:i<=g.fI ca cb)(hj:j<=g.fJ ca cb)(k:dB g ca cb i j=td)(u:sB g ca cb i j=ts):Calls Tryz.prog 140 #[.pointer (some ⟨b,0,none⟩),.int .i64 (i:Nat),.int .i64 (j:Nat)] w λe w'=>e=.returned (.tuple #[.bool td,.bool ts])/\Below w.heap.size w w':=by
 have ai:=h.ok;obtain⟨f1,f2,f3,f4⟩:=G.Oq ai h.cells.2 h.cells.1 hi hj;obtain⟨o1,o2,o3,o4⟩:=ai;have cP:=fieldPlace w b gp mo mk g v ca cb S T i j h hi hj;obtain⟨k0,k1,k2,k3,k4,k5,k6,k7,k8⟩:=h.cell;have ao:=h.lt;have HG:=hid h.grid;have am:=h.grid.lt;unfold dB at k;unfold sB at u;obtain⟨x,hx⟩:∃z,g.fx ca cb i j=z:=⟨_,rfl⟩;obtain⟨y,hy⟩:∃z,g.fy ca cb i j=z:=⟨_,rfl⟩;rw[hx,hy]at cP k u;rw[hx]at f1 f2;rw[hy]at f3 f4;obtain⟨d,hd⟩:∃z,g.qh ca cb=z:=⟨_,rfl⟩;obtain⟨s,hs⟩:∃z,g.fK ca cb=z:=⟨_,rfl⟩;have al:d<8:=by rw[<-hd];exact jE _ _
 have an:s<8:=by rw[<-hs];exact jE _ _
 rw[hd]at k3 k;rw[hs]at k4 u;obtain⟨I,hI⟩:∃z,g.fI ca cb=z:=⟨_,rfl⟩;obtain⟨J,hJ⟩:∃z,g.fJ ca cb=z:=⟨_,rfl⟩;rw[hI]at k5 hi k;rw[hJ]at k6 hj u;obtain⟨m1,ad⟩:∃z,g.may x y d=z:=⟨_,rfl⟩;obtain⟨m2,ag⟩:∃z,g.may x y s=z:=⟨_,rfl⟩;rw[ad]at k;rw[ag]at u;have ab:=hid (λw'(hg:az w' gp g v)=>JV w' gp g v x y d m1 hg al (by unfold wW;omega) (by unfold wW;omega) ad);have ac:=hid (λw'(hg:az w' gp g v)=>JV w' gp g v x y s m2 hg an (by unfold wW;omega) (by unfold wW;omega) ag);have cP:=hid cP;clear hx hy hd hs hI hJ ad ag h k1 k2 k7 k8;go_enter Tryz.func140,Tryz.ntmps140;go_wp2_with fail;(with_reducible refine cP.out.mono ?_);rintro e O ⟨rfl,L⟩;have k0:=ae L k0;have k3:=ae L k3;have k4:=ae L k4;have k5:=ae L k5;have k6:=ae L k6;have l1:=L.size;have ap:=cell_regrown k0;have aq:=cell_regrown k3;have ar:=cell_regrown k4;have aw:=cell_regrown k5;have ax:=cell_regrown k6;have R:=hid (HG.out.below L am);have B:=R.out.lt;have P:=Below.refl O.heap.size O
 by_cases c1:i<I<;>by_cases c2:j<J
 .have e1:td=m1:=by rw[<-k];simp[c1]
  have e2:ts=m2:=by rw[<-u];simp[c2]
  subst e1;subst e2;clear k u;have q1:(i:Int)<(I:Int):=by omega
  have q2:(j:Int)<(J:Int):=by omega
  go_upto_region 2 with(fail);refine wp_region_quiet_below (by kernel_rfl) (by kernel_rfl) ?_;repeat (first|go_big_quiet_step ((with_reducible first|exact Calls.regrown_of (ab.out _ (R.out.below (P.trans ((below_regrown O _ _).mono P.size)) B))|exact Calls.regrown_of (ac.out _ (R.out.below (P.trans ((below_regrown O _ _).mono P.size)) B))))|quiet_step ((with_reducible first|exact Calls.regrown_of (ab.out _ (R.out.below (P.trans ((below_regrown O _ _).mono P.size)) B))|exact Calls.regrown_of (ac.out _ (R.out.below (P.trans ((below_regrown O _ _).mono P.size)) B)))))
  refine wpQuiet_nil ?_;intro _ Q;obtain⟨⟨U,osq⟩,M⟩:=Q;have F:=aa P (below_regrown O U osq);have Z:=below_regrown O U osq;subst M;generalize grow (redrawn O U) osq=w2 at F Z⊢;go_wp2;go_ret2;exact⟨rfl,aa L F⟩
 .have e1:td=m1:=by rw[<-k];simp[c1]
  have e2:ts=false:=by rw[<-u];simp[c2]
  subst e1;subst e2;clear k u;have q1:(i:Int)<(I:Int):=by omega
  have q2:¬(j:Int)<(J:Int):=by omega
  go_upto_region 2 with(fail);refine wp_region_quiet_below (by kernel_rfl) (by kernel_rfl) ?_;repeat (first|go_big_quiet_step ((with_reducible exact Calls.regrown_of (ab.out _ (R.out.below (P.trans ((below_regrown O _ _).mono P.size)) B))))|quiet_step ((with_reducible exact Calls.regrown_of (ab.out _ (R.out.below (P.trans ((below_regrown O _ _).mono P.size)) B)))))
  refine wpQuiet_nil ?_;intro _ Q;obtain⟨⟨U,osq⟩,M⟩:=Q;have F:=aa P (below_regrown O U osq);have Z:=below_regrown O U osq;subst M;generalize grow (redrawn O U) osq=w2 at F Z⊢;go_wp2;go_ret2;exact⟨rfl,aa L F⟩
 .have e1:td=false:=by rw[<-k];simp[c1]
  have e2:ts=m2:=by rw[<-u];simp[c2]
  subst e1;subst e2;clear k u;have q1:¬(i:Int)<(I:Int):=by omega
  have q2:(j:Int)<(J:Int):=by omega
  go_upto_region 2 with(fail);refine wp_region_quiet_below (by kernel_rfl) (by kernel_rfl) ?_;repeat (first|go_big_quiet_step ((with_reducible exact Calls.regrown_of (ac.out _ (R.out.below (P.trans ((below_regrown O _ _).mono P.size)) B))))|quiet_step ((with_reducible exact Calls.regrown_of (ac.out _ (R.out.below (P.trans ((below_regrown O _ _).mono P.size)) B)))))
  refine wpQuiet_nil ?_;intro _ Q;obtain⟨⟨U,osq⟩,M⟩:=Q;have F:=aa P (below_regrown O U osq);have Z:=below_regrown O U osq;subst M;generalize grow (redrawn O U) osq=w2 at F Z⊢;go_wp2;go_ret2;exact⟨rfl,aa L F⟩
 .have e1:td=false:=by rw[<-k];simp[c1]
  have e2:ts=false:=by rw[<-u];simp[c2]
  subst e1;subst e2;clear k u;have q1:¬(i:Int)<(I:Int):=by omega
  have q2:¬(j:Int)<(J:Int):=by omega
  go_upto_region 2 with(fail);refine wp_region_quiet_below (by kernel_rfl) (by kernel_rfl) ?_;repeat (first|go_big_quiet_step (fail)|quiet_step (fail))
  refine wpQuiet_nil ?_;intro _ Q;obtain⟨⟨U,osq⟩,M⟩:=Q;have F:=aa P (below_regrown O U osq);have Z:=below_regrown O U osq;subst M;generalize grow (redrawn O U) osq=w2 at F Z⊢;go_wp2;go_ret2;exact⟨rfl,aa L F⟩
theorem su{P:Program}{o:Oper}{a:Act}{w w':World}{K:Act->World->Prop}{mt:TypeId}(mo u z:Operand)(k:o.op=.mapUpdate mt mo u z)(B:o.dst=none)(g:(Instr.mapUpdate mt (a.eval mo) (a.eval u) (a.eval z)).run P w=.ok () w')(h:K a w'):o.wp P a w K Q:=by
 unfold Oper.wp;simp[execOp,k,g,Result.andThen];show K (a.put o.dst undef) w';rw[B];exact h
theorem aY{P:Program}{u:Array Oper}{g:List Oper}{o:Oper}{a:Act}{w w':World}{mt:TypeId}(L:o.guard=none)(mo F I:Operand)(B:o.op=.mapUpdate mt mo F I)(J:o.dst=none)(k:(Instr.mapUpdate mt (a.eval mo) (a.eval F) (a.eval I)).run P w=.ok () w')(h:wpList P u Q g a w'):wpList P u Q (o::g) a w:=by
 refine wpList_plain L λM z=>?_;exact su mo F I B J k (z _ _ h)
def E8(w:World)(b gp mo mk:Nat)(g:G)(v:Int)(ca cb:Nat)(S T:Int×Int->Prop)(e:Ending)(w':World):Prop:=e=.returned (.tuple #[])/\bA w' b gp mo mk g v ca cb S T/\Kept [mo,mk] w w'
theorem Bl(w:World)(b gp mo mk:Nat)(g:G)(v:Int)(ca I:Nat)(S T:Int×Int->Prop)(i j:Nat)(h:bA w b gp mo mk g v ca I S T)(hi:i<=g.fI ca I)(hj:j<=g.fJ ca I):Calls Tryz.prog 193 #[.pointer (some ⟨b,0,none⟩),.map (some mo),.int .i64 (i:Nat),.int .i64 (j:Nat)] w (E8 w b gp mo mk g v ca I (λk=>S k\/(g.Bb ca I i j/\k=(((i+1:Nat):Int),(j:Int)))\/(g.JI ca I i j/\k=((i:Int),((j+1:Nat):Int)))) T):=by
 obtain⟨l1,l2⟩:=G.sQ h.ok h.cells.2 h.cells.1;obtain⟨td,ad⟩:∃t,dB g ca I i j=t:=⟨_,rfl⟩;obtain⟨ts,ag⟩:∃t,sB g ca I i j=t:=⟨_,rfl⟩;have cN:=rG w b gp mo mk g v ca I S T i j td ts h hi hj ad ag;have CN:=hid cN;have H:=hid h;have al:=hid ad;have am:=hid ag;obtain⟨n1,n2,n3,n4,n5⟩:=h.ne;have aq:i<=15:=by omega
 have ar:j<=15:=by omega
 clear h hi hj l1 l2 ad ag cN;go_enter Tryz.func193,Tryz.ntmps193;go_wp2_with fail;(with_reducible refine CN.out.mono ?_);rintro e w1 ⟨rfl,R⟩;have J:=H.out.below R;obtain⟨w2,z,an,M⟩:=J.on.put ((i+1:Nat):Int) (j:Int);have ei:(((i+1:Nat):Int))=(i:Int)+1:=by omega
 have ej:(((j+1:Nat):Int))=(j:Int)+1:=by omega
 -- what holds behind the first store,or without it
 have ap:∃Q:World,(Q=if td=true then w2 else w1)/\bA Q b gp mo mk g v ca I (λk=>S k\/(g.Bb ca I i j/\k=(((i+1:Nat):Int),(j:Int)))) T/\Kept [mo,mk] w Q:=by
  cases td with
  |true=>
   refine⟨w2,rfl,⟨(M.block b J.lt (by simpa using n1)).trans J.hb,J.grid.BI M (by simpa using n3),an.iff (λk=>?_),J.bk.kept M (by simpa using Ne.symm n5),J.ne,J.cells⟩,(Kept.of_below R).trans (M.wid (by simp))⟩;have:=uQ.1 al.out;constructor
   .rintro(x|x)
    .exact .inl x
    .exact .inr ⟨this,x⟩
   .rintro(x|x)
    .exact .inl x
    .exact .inr x.2
  |false=>
   refine⟨w1,rfl,⟨J.hb,J.grid,J.on.iff (λk=>?_),J.bk,J.ne,J.cells⟩,Kept.of_below R⟩;constructor
   .exact .inl
   .rintro(x|x)
    .exact x
    .exact absurd (uQ.2 x.1) (by rw[al.out];simp)
 obtain⟨Q,U,L,ac⟩:=ap;obtain⟨w4,u,ao,O⟩:=L.on.put (i:Int) ((j+1:Nat):Int);rw[ei]at z;rw[ej]at u
 have Z:∀wE,(wE=if ts=true then w4 else Q)->E8 w b gp mo mk g v ca I (λk=>S k\/(g.Bb ca I i j/\k=(((i+1:Nat):Int),(j:Int)))\/(g.JI ca I i j/\k=((i:Int),((j+1:Nat):Int)))) T (.returned (.tuple #[])) wE:=by
  intro wE hE;cases ts with
  |true=>
   have hE:wE=w4:=hE;subst hE;refine⟨rfl,⟨(O.block b L.lt (by simpa using n1)).trans L.hb,L.grid.BI O (by simpa using n3),ao.iff (λk=>?_),L.bk.kept O (by simpa using Ne.symm n5),L.ne,L.cells⟩,ac.trans (O.wid (by simp))⟩;have:=EG.1 am.out;constructor
   .rintro((x|x)|x)
    .exact .inl x
    .exact .inr (.inl x)
    .exact .inr (.inr ⟨this,x⟩)
   .rintro(x|x|x)
    .exact .inl (.inl x)
    .exact .inl (.inr x)
    .exact .inr x.2
  |false=>
   have hE:wE=Q:=hE;subst hE;refine⟨rfl,⟨L.hb,L.grid,L.on.iff (λk=>?_),L.bk,L.ne,L.cells⟩,ac⟩;constructor
   .rintro(x|x)
    .exact .inl x
    .exact .inr (.inl x)
   .rintro(x|x|x)
    .exact .inl x
    .exact .inr x
    .exact absurd (EG.2 x.1) (by rw[am.out];simp)
 have F:=hid Z;clear Z an M ao O L ac J R ei ej;cases td with
 |true=>
  have P:Q=w2:=U;clear U;subst P;cases ts with
  |true=>
   go_wp2_with (at_mapUpdate;first|refine aY rfl _ _ _ rfl rfl z ?_|refine aY rfl _ _ _ rfl rfl u ?_)
   go_end0;exact F.out _ rfl
  |false=>
   clear u;go_wp2_with (at_mapUpdate;refine aY rfl _ _ _ rfl rfl z ?_);go_end0;exact F.out _ rfl
 |false=>
  have P:Q=w1:=U;clear U;have B:=u;rw[P]at B;have ab:=F.out;rw[P]at ab;have ai:=hid ab;clear z P u F ab;cases ts with
  |true=>
   go_wp2_with (at_mapUpdate;refine aY rfl _ _ _ rfl rfl B ?_);go_end0;exact ai.out _ rfl
  |false=>
   clear B;go_wp2;go_end0;exact ai.out _ rfl
def PU(w:World)(b gp mo mk:Nat)(g:G)(v:Int)(ca cb:Nat)(S T:Int×Int->Prop)(e:Ending)(w':World):Prop:=e=.returned (.tuple #[])/\bA w' b gp mo mk g v ca cb S T/\Kept [mk] w w'
theorem Il(w:World)(b gp mo mk:Nat)(g:G)(v:Int)(ca F:Nat)(S T:Int×Int->Prop)(i j:Nat)(h:bA w b gp mo mk g v ca F S T)(hi:i<=g.fI ca F)(hj:j<=g.fJ ca F):Calls Tryz.prog 194 #[.pointer (some ⟨b,0,none⟩),.int .i64 (i:Nat),.int .i64 (j:Nat)] w (PU w b gp mo mk g v ca F S (λk=>T k\/(((g.Bb ca F i j/\T (((i+1:Nat):Int),(j:Int)))\/(g.JI ca F i j/\T ((i:Int),((j+1:Nat):Int))))/\k=((i:Int),(j:Int))))):=by
 obtain⟨l1,l2⟩:=G.sQ h.ok h.cells.2 h.cells.1;obtain⟨td,R⟩:∃t,dB g ca F i j=t:=⟨_,rfl⟩;obtain⟨ts,U⟩:∃t,sB g ca F i j=t:=⟨_,rfl⟩;have cN:=rG w b gp mo mk g v ca F S T i j td ts h hi hj R U;have CN:=hid cN;have H:=hid h;have ad:=hid R;have ag:=hid U;obtain⟨n1,n2,n3,n4,n5⟩:=h.ne;have ai:i<=15:=by omega
 have al:j<=15:=by omega
 clear h hi hj l1 l2 R U cN;go_enter Tryz.func194,Tryz.ntmps194;go_wp2_with fail;(with_reducible refine CN.out.mono ?_);rintro e w1 ⟨rfl,L⟩;have B:=H.out.below L;obtain⟨t1,ab,M⟩:=B.bk.look ((i+1:Nat):Int) (j:Int);obtain⟨t2,ac,I⟩:=B.bk.look (i:Int) ((j+1:Nat):Int);have M:=M w1 (Below.refl _ _);have I:=I w1 (Below.refl _ _);obtain⟨w2,z,Q,J⟩:=B.bk.put (i:Int) (j:Int);have ei:(((i+1:Nat):Int))=(i:Int)+1:=by omega
 have ej:(((j+1:Nat):Int))=(j:Int)+1:=by omega
 have O:∀wE(r:Bool),r=(td&&t1||ts&&t2)->(wE=if r=true then w2 else w1)->PU w b gp mo mk g v ca F S (λk=>T k\/(((g.Bb ca F i j/\T (((i+1:Nat):Int),(j:Int)))\/(g.JI ca F i j/\T ((i:Int),((j+1:Nat):Int))))/\k=((i:Int),(j:Int)))) (.returned (.tuple #[])) wE:=by
  intro wE r hr Z
  have P:r=true↔((g.Bb ca F i j/\T (((i+1:Nat):Int),(j:Int)))\/(g.JI ca F i j/\T ((i:Int),((j+1:Nat):Int)))):=by
   rw[hr,<-uQ,<-EG,ad.out,ag.out,<-ab,<-ac];simp
  cases r with
  |true=>
   have Z:wE=w2:=Z;subst Z;refine⟨rfl,⟨(J.block b B.lt (by simpa using n2)).trans B.hb,B.grid.BI J (by simpa using n4),B.on.kept J (by simpa using n5),Q.iff (λk=>?_),B.ne,B.cells⟩,(Kept.of_below L).trans J⟩;have:=P.1 rfl;constructor
   .rintro(x|x)
    .exact .inl x
    .exact .inr ⟨this,x⟩
   .rintro(x|x)
    .exact .inl x
    .exact .inr x.2
  |false=>
   have Z:wE=w1:=Z;subst Z;refine⟨rfl,⟨B.hb,B.grid,B.on,B.bk.iff (λk=>?_),B.ne,B.cells⟩,Kept.of_below L⟩;constructor
   .exact .inl
   .rintro(x|x)
    .exact x
    .exact absurd (P.2 x.1) (by simp)
 have u:=hid O;obtain⟨_,_,_,_,_,_,_,_,k8⟩:=B.cell;rw[ei]at M;rw[ej]at I;clear O Q J B L ei ej ab ac;cases td with
 |true=>
  cases t1 with
  |true=>
   clear I;go_wp2_with (at_mapUpdate;refine aY rfl _ _ _ rfl rfl z ?_);go_end0
   exact u.out _ true (by simp) rfl
  |false=>
   cases ts with
   |true=>
    cases t2 with
    |true=>
     go_wp2_with (at_mapUpdate;refine aY rfl _ _ _ rfl rfl z ?_);go_end0
     exact u.out _ true (by simp) rfl
    |false=>
     clear z;go_wp2;go_end0;exact u.out _ false (by simp) rfl
   |false=>
    clear z I;go_wp2;go_end0;exact u.out _ false (by simp) rfl
 |false=>
  clear M;cases ts with
  |true=>
   cases t2 with
   |true=>
    go_wp2_with (at_mapUpdate;refine aY rfl _ _ _ rfl rfl z ?_);go_end0
    exact u.out _ true (by simp) rfl
   |false=>
    clear z;go_wp2;go_end0;exact u.out _ false (by simp) rfl
  |false=>
   clear z I;go_wp2;go_end0;exact u.out _ false (by simp) rfl
theorem qi(w:World)(b gp mo mk:Nat)(g:G)(v:Int)(ca k:Nat)(S T:Int×Int->Prop)(t:Bool)(h:bA w b gp mo mk g v ca k S T)(ht:t=true↔S ((g.fI ca k:Nat),(g.fJ ca k:Nat))):Calls Tryz.prog 139 #[.pointer (some ⟨b,0,none⟩)] w λe w'=>e=.returned (.bool t)/\Below w.heap.size w w':=by
 obtain⟨k0,k1,k2,k3,k4,Z,Q,k7,k8⟩:=h.cell;have ab:=h.lt;obtain⟨t',O,F⟩:=h.on.look (g.fI ca k:Nat) (g.fJ ca k:Nat)
 obtain rfl:t'=t:=by
  cases t'<;>cases t<;>simp_all
 have F:=λp os=>F _ (below_regrown w p os);obtain⟨I,R⟩:∃z,g.fI ca k=z:=⟨_,rfl⟩;obtain⟨J,U⟩:∃z,g.fJ ca k=z:=⟨_,rfl⟩;rw[R]at Z F;rw[U]at Q F;clear R U ht O h k0 k1 k2 k3 k4 k8;have ac:=cell_regrown Z;have ad:=cell_regrown Q;have ag:=cell_regrown k7;have HB:=Below.refl w.heap.size w;go_enter Tryz.func139,Tryz.ntmps139;go_upto_region 1 with(fail);refine wp_region_quiet_below (by kernel_rfl) (by kernel_rfl) ?_;repeat (first|go_big_quiet_step (fail)|quiet_step (fail))
 refine wpQuiet_nil ?_;intro _ P;obtain⟨⟨L,osq⟩,B⟩:=P;have u:=aa HB (below_regrown w L osq);have M:=below_regrown w L osq;subst B;generalize grow (redrawn w L) osq=w2 at u M⊢;go_wp2;go_ret;exact⟨rfl,u⟩
def gQ(P:Nat->Nat->Prop):Int×Int->Prop:=λk=>∃p q:Nat,k=((p:Int),(q:Int))/\P p q
theorem kG{P Q:Nat->Nat->Prop}(h:∀p q,P p q↔Q p q)(k:Int×Int):gQ P k↔gQ Q k:=by
 unfold gQ;constructor
 .rintro⟨p,q,e,x⟩;exact⟨p,q,e,(h p q).1 x⟩
 .rintro⟨p,q,e,x⟩;exact⟨p,q,e,(h p q).2 x⟩
theorem lD{P:Nat->Nat->Prop}(p q:Nat):gQ P ((p:Int),(q:Int))↔P p q:=by
 unfold gQ;constructor
 .rintro⟨g,k,e,x⟩
  injection e with u z
  obtain rfl:p=g:=by omega
  obtain rfl:q=k:=by omega
  exact x
 .intro x;exact⟨p,q,rfl,x⟩
structure oI (w:World) (b gp mo mk:Nat) (x y:Int) (d s:Int) (i j:Int):Prop where
 hb:w.heap[b]? =some (.cells #[.pointer (some ⟨gp,0,none⟩),.int .i64 x,.int .i64 y,.int .i64 d,.int .i64 s,.int .i64 i,.int .i64 j,.map (some mo),.map (some mk)] 236 (0,0))
 on:dK w mo (λk=>k=(0,0))
 bk:dK w mk (λk=>k=(i,j))
 ne:b≠mo/\b≠mk/\mo≠mk
def FC(p:Int×Int):Obj:=.map #[{key:=kP p,val:=.bool true,born:=0}] 1
theorem FX(p:Int×Int){b:Nat}(g:w.heap[b]? =some (.map #[] 0)):(Instr.mapUpdate 234 (.map (some b)) (kP p) (.bool true)).run Tryz.prog w=.ok () {w with heap:=w.heap.setIfInBounds b (FC p)}:=by
 have k:(Instr.findKey 239 (kP p) []).run Tryz.prog w=.ok none w:=by
  rcases jh.find [] p w (by simp)with⟨h,_⟩|⟨i,e,_,h,_⟩
  .exact h
  .simp at h
 simp[Instr.mapUpdate,run_underlying Tryz.underlying234,MapKept.run_getObj_map g,jh.check,k,MapKept.run_setObj_map _ g,Result.andThen,FC]
theorem Mx{α:Type}(g:Array α)(a b:α):(g.push a).setIfInBounds g.size b=g.push b:=by
 apply Array.ext_getElem?;intro i;simp only[Array.getElem?_setIfInBounds,Array.getElem?_push,Array.size_push];by_cases h:g.size=i
 .subst h;simp
 .simp[h,Ne.symm h]
theorem Jn{α:Type}(g:Array α)(a b c:α):((g.push a).push c).setIfInBounds g.size b=(g.push b).push c:=by
 apply Array.ext_getElem?;intro i;simp only[Array.getElem?_setIfInBounds,Array.getElem?_push,Array.size_push];by_cases h:g.size=i
 .subst h;simp;omega
 .by_cases k:i=g.size+1
  .subst k;simp
  .simp[h,Ne.symm h,k]
theorem Lg(p:Int×Int)(w:World):(Instr.mapUpdate 234 (.map (some w.heap.size)) (kP p) (.bool true)).run Tryz.prog (w.alloc (.map #[] 0)).drew=.ok () (w.alloc (FC p)).drew:=by
 rw[FX p (w:=(w.alloc (.map #[] 0)).drew) (MapKept.heap_alloc w _).1];show Result.ok () {(w.alloc (.map #[] 0)).drew with heap:=(w.heap.push (.map #[] 0)).setIfInBounds w.heap.size (FC p)}=_;rw[Mx];rfl
theorem Qf(p:Int×Int)(w:World)(A:Obj):(Instr.mapUpdate 234 (.map (some (w.heap.size+1))) (kP p) (.bool true)).run Tryz.prog ((w.alloc A).alloc (.map #[] 0)).drew=.ok () ((w.alloc A).alloc (FC p)).drew:=by
 have:=Lg p (w.alloc A);simpa using this
theorem Qg(p:Int×Int)(w:World)(B:Obj):(Instr.mapUpdate 234 (.map (some w.heap.size)) (kP p) (.bool true)).run Tryz.prog ((w.alloc (.map #[] 0)).alloc B).drew=.ok () ((w.alloc (FC p)).alloc B).drew:=by
 rw[FX p (w:=((w.alloc (.map #[] 0)).alloc B).drew) (((MapKept.heap_alloc (w.alloc (.map #[] 0)) B).2 w.heap.size (by simp)).trans (MapKept.heap_alloc w _).1)];show Result.ok () {((w.alloc (.map #[] 0)).alloc B).drew with heap:=((w.heap.push (.map #[] 0)).push B).setIfInBounds w.heap.size (FC p)}=_;rw[Jn];rfl
theorem dK.one{b:Nat}(p:Int×Int)(h:w.heap[b]? =some (FC p)):dK w b (λk=>k=p):=by
 refine⟨λk=>if k=p then some (.bool true)else none,1,⟨_,_,h,⟨by simp,by simp,by simp⟩,rfl,?_,?_⟩,λk=>?_⟩
 .intro e u
  simp at u;subst u;exact⟨p,rfl,by simp⟩
 .intro k v g
  simp only at g;by_cases e:k=p
  .rw[if_pos e]at g
   injection g with g
   exact⟨{key:=kP p,val:=.bool true,born:=0},by simp,by rw[e],g⟩
  .rw[if_neg e]at g;cases g
 .by_cases e:k=p
  .exact .inl ⟨if_pos e,e⟩
  .exact .inr ⟨if_neg e,e⟩
namespace oI
open Go.Lib (hid)
variable {w w':World} {b gp mo mk:Nat} {x y d s i j:Int}
theorem lt(h:oI w b gp mo mk x y d s i j):b<w.heap.size:=(Array.getElem?_eq_some_iff.1 h.hb).1
theorem below(h:oI w b gp mo mk x y d s i j)(g:Below w.heap.size w w'):oI w' b gp mo mk x y d s i j:=
 ⟨(g.block b h.lt).trans h.hb,h.on.below g,h.bk.below g,h.ne⟩
theorem frozen(h:oI w b gp mo mk x y d s i j)(k:Nat):w.frozen? ⟨b,k,none⟩=false:=by
 unfold World.frozen?;simp[h.hb]
theorem c3(h:oI w b gp mo mk x y d s i j):w.cell? ⟨b,3,none⟩=some (.int .i64 d)/\w.cell? ⟨b,4,none⟩=some (.int .i64 s):=by
 simp[World.cell?,h.hb]
theorem OG(h:oI w b gp mo mk x y d s i j){a:Addr}(u:a.block=b)(v:Value):dK (w.setCell a v) mo (λk=>k=(0,0))/\dK (w.setCell a v) mk (λk=>k=(i,j)):=by
 have g:Kept [b] w (w.setCell a v):=(Kept.refl [b] w).setCell (.inl (by rw[u];simp));exact⟨h.on.kept g (by have:=h.ne.1;simp;omega),h.bk.kept g (by have:=h.ne.2.1;simp;omega)⟩
theorem Ue(h:oI w b gp mo mk x y d s i j)(z:Int):oI (w.setCell ⟨b,3,none⟩ (.int .i64 z)) b gp mo mk x y z s i j:=by
 refine⟨?_,(h.OG rfl _).1,(h.OG rfl _).2,h.ne⟩;rw[fA _ _ _ _ _ _ h.hb];rfl
theorem Tn(h:oI w b gp mo mk x y d s i j)(z:Int):oI (w.setCell ⟨b,4,none⟩ (.int .i64 z)) b gp mo mk x y d z i j:=by
 refine⟨?_,(h.OG rfl _).1,(h.OG rfl _).2,h.ne⟩;rw[fA _ _ _ _ _ _ h.hb];rfl
end oI
variable {a:Addr}{p:Nat}{P Q:Nat->Nat->Prop}{A:Obj}{v:Value}{w:World}
theorem mX(w:World)(o:Obj){k:Nat}{x:Option Obj}(g:k<w.heap.size)(h:w.heap[k]? =x):(w.alloc o).heap[k]? =x:=(Below.heap_alloc _ _ _ g).trans h
theorem rz(w:World)(o:Obj){k:Nat}(g:k=w.heap.size):(w.alloc o).heap[k]? =some o:=by rw[g];exact heap_alloc_new w o
def QD(W:World)(p:Nat)(x y i j:Int)(s:Value)(wx:World):Prop:=∃b mo mk,s=.pointer (some ⟨b,0,none⟩)/\oI wx b p mo mk x y 0 0 i j/\(W.heap.size<=b/\W.heap.size<=mo/\W.heap.size<=mk)/\Below W.heap.size W wx
theorem Rc{W:World}{x y i j:Int}{g k:Obj}(h:FC (0,0)=g/\FC (i,j)=k):QD W p x y i j (.pointer (some ⟨W.heap.size+1+1,0,none⟩)) (((W.alloc g).alloc k).alloc (.cells #[.pointer (some ⟨p,0,none⟩),.int .i64 x,.int .i64 y,.int .i64 0,.int .i64 0,.int .i64 i,.int .i64 j,.map (some W.heap.size),.map (some (W.heap.size+1))] 236)).drew:=by
 obtain⟨rfl,rfl⟩:=h;refine⟨W.heap.size+1+1,W.heap.size,W.heap.size+1,rfl,⟨?_,dK.one (0,0) ?_,dK.one (i,j) ?_,by omega⟩,by omega,by(repeat' (first|exact Below.refl _ _|assumption|apply aj|apply ah|apply af|(refine aa ?_ (by assumption))))⟩
 .exact rz _ _ (by simp)
 .exact mX _ _ (by simp;omega) (mX _ _ (by simp) (rz _ _ rfl))
 .exact mX _ _ (by simp) (rz _ _ (by simp))
theorem Re{W:World}{x y i j:Int}{g k:Obj}(h:FC (0,0)=g/\FC (i,j)=k):QD W p x y i j (.pointer (some ⟨W.heap.size+1+1,0,none⟩)) (((W.alloc k).alloc g).alloc (.cells #[.pointer (some ⟨p,0,none⟩),.int .i64 x,.int .i64 y,.int .i64 0,.int .i64 0,.int .i64 i,.int .i64 j,.map (some (W.heap.size+1)),.map (some W.heap.size)] 236)).drew:=by
 obtain⟨rfl,rfl⟩:=h;refine⟨W.heap.size+1+1,W.heap.size+1,W.heap.size,rfl,⟨?_,dK.one (0,0) ?_,dK.one (i,j) ?_,by omega⟩,by omega,by(repeat' (first|exact Below.refl _ _|assumption|apply aj|apply ah|apply af|(refine aa ?_ (by assumption))))⟩
 .exact rz _ _ (by simp)
 .exact mX _ _ (by simp) (rz _ _ (by simp))
 .exact mX _ _ (by simp;omega) (mX _ _ (by simp) (rz _ _ rfl))
theorem Qi(h:w.cell? a=some v):(w.alloc A).drew.cell? a=some v:=aC h
theorem Qj{A B:Obj}(h:w.cell? a=some v):((w.alloc A).alloc B).drew.cell? a=some v:=aC (aC h)
theorem Qk{A B D:Obj}(h:w.cell? a=some v):(((w.alloc A).alloc B).alloc D).drew.cell? a=some v:=aC (aC (aC h))
theorem EK{d s:Prop}{i j:Nat}(h:∀p q,Q p q↔P p q\/(d/\p=i+1/\q=j)\/(s/\p=i/\q=j+1))(k:Int×Int):(gQ P k\/(d/\k=(((i+1:Nat):Int),(j:Int)))\/(s/\k=((i:Int),((j+1:Nat):Int))))↔gQ Q k:=by
 constructor
 .rintro(⟨p,q,e,x⟩|⟨x,e⟩|⟨x,e⟩)
  .exact⟨p,q,e,(h p q).2 (.inl x)⟩
  .exact⟨i+1,j,e,(h _ _).2 (.inr (.inl ⟨x,rfl,rfl⟩))⟩
  .exact⟨i,j+1,e,(h _ _).2 (.inr (.inr ⟨x,rfl,rfl⟩))⟩
 .rintro⟨p,q,e,x⟩
  rcases(h p q).1 x with y|⟨y,rfl,rfl⟩|⟨y,rfl,rfl⟩
  .exact .inl ⟨p,q,e,y⟩
  .exact .inr (.inl ⟨y,e⟩)
  .exact .inr (.inr ⟨y,e⟩)
theorem Lv{d s:Prop}{i j:Nat}(h:∀p q,Q p q↔P p q\/(((d/\P (i+1) j)\/(s/\P i (j+1)))/\p=i/\q=j))(k:Int×Int):(gQ P k\/(((d/\gQ P (((i+1:Nat):Int),(j:Int)))\/(s/\gQ P ((i:Int),((j+1:Nat):Int))))/\k=((i:Int),(j:Int))))↔gQ Q k:=by
 rw[lD,lD];constructor
 .rintro(⟨p,q,e,x⟩|⟨x,e⟩)
  .exact⟨p,q,e,(h p q).2 (.inl x)⟩
  .exact⟨i,j,e,(h _ _).2 (.inr ⟨x,rfl,rfl⟩)⟩
 .rintro⟨p,q,e,x⟩
  rcases(h p q).1 x with y|⟨y,rfl,rfl⟩
  .exact .inl ⟨p,q,e,y⟩
  .exact .inr ⟨y,e⟩
def JO(w:World)(p:Nat)(g:G)(v:Int)(ca cb:Nat)(e:Ending)(w':World):Prop:=
 ∃b mo mk,e=.returned (.pointer (some ⟨b,0,none⟩))/\bA w' b p mo mk g v ca cb (gQ (g.Nk ca cb)) (gQ (g.PS ca cb))/\Below w.heap.size w w'
theorem KS{b p mo mk:Nat}{g:G}{v:Int}{ca u:Nat}(z:oI w b p mo mk (g.X ca:Nat) (g.Y ca:Nat) (g.qh ca u:Nat) (g.fK ca u:Nat) (g.fI ca u:Nat) (g.fJ ca u:Nat))(J:az w p g v)(I:p≠mo/\p≠mk)(B:ca<g.n)(F:u<g.n):bA w b p mo mk g v ca u (gQ (g.C8 ca u 0 0)) (gQ λp q=>p=g.fI ca u/\q=g.fJ ca u):=
 ⟨z.hb,J,z.on.iff (λk=>⟨λe=>⟨0,0,e,G.yl.2 ⟨rfl,rfl⟩⟩,λ⟨p,q,e,x⟩=>by obtain⟨rfl,rfl⟩:=G.yl.1 x;exact e⟩),
  z.bk.iff (λk=>⟨λe=>⟨_,_,e,rfl,rfl⟩,λ⟨p,q,e,x⟩=>by obtain⟨rfl,rfl⟩:=x;exact e⟩),⟨z.ne.1,z.ne.2.1,I.1,I.2,z.ne.2.2⟩,B,F⟩
theorem bA.iff{b gp mo mk:Nat}{g:G}{v:Int}{ca z:Nat}{S T u T':Int×Int->Prop}(h:bA w b gp mo mk g v ca z S T)(B:∀k,S k↔u k)(F:∀k,T k↔T' k):bA w b gp mo mk g v ca z u T':=
 ⟨h.hb,h.grid,h.on.iff B,h.bk.iff F,h.ne,h.cells⟩
theorem newField(w:World)(p:Nat)(g:G)(v:Int)(ca u:Nat)(h:az w p g v)(U:ca<g.n)(Z:u<g.n):Calls Tryz.prog 138 #[.pointer (some ⟨p,0,none⟩),.int .i64 (ca:Nat),.int .i64 (u:Nat)] w (JO w p g v ca u):=by
 have ay:=h.1;obtain⟨o1,o2,o3,o4⟩:=h.1;have hX:=G.jw ay ca;have ce:=G.jw ay u;have hY:=G.iM U;have cg:=G.iM Z;have bo:=hid (λw' h'=>aU w' p g v ca h' U);have bp:=hid (λw' h'=>aU w' p g v u h' Z);have a4:=G.lF (g:=g) (a:=ca) (b:=u);have cO:=λw=>oW (g.X ca:Nat) (g.Y ca:Nat) (g.X u:Nat) (g.Y u:Nat) w (by omega) (by omega) (by omega) (by omega);have cd:dh ((g.X ca:Nat)-(g.X u:Nat)) ((g.Y ca:Nat)-(g.Y u:Nat))=⟨g.fJ ca u,g.fI ca u⟩:=a4;rw[cd]at cO;have cO:=hid cO;have b6:=h.lt;have HG:=hid h;have bi:=hid h;clear cd a4 h;go_enter Tryz.func138,Tryz.ntmps138;go_wp2_with fail;(with_reducible refine(bo.out _ HG.out).mono ?_);rintro e w1 ⟨rfl,bb⟩;have bj:=hid (HG.out.below bb b6);go_wp2_with fail;(with_reducible refine(bp.out _ bj.out).mono ?_);rintro e w2 ⟨rfl,b3⟩;have M:=aa bb b3;clear HG bj bb b3 bo bp;go_wp2_with fail;(with_reducible refine(cO.out _).mono ?_);rintro e w3 ⟨rfl,b4⟩;have R:=aa M b4;clear b4 cO M
 go_upto_region 5 with(fail);refine au ?_;intro W4 a2;have bk:Below w3.heap.size w3 W4:=by rw[a2];(repeat' (first|exact Below.refl _ _|assumption|apply aj|apply ah|apply af|(refine aa ?_ (by assumption))))
 have c0:W4.cell? ⟨w3.heap.size,0,none⟩=some (.int .i64 (g.fJ ca u:Nat)):=by rw[a2];go_simp
 have c1:W4.cell? ⟨w3.heap.size,1,none⟩=some (.int .i64 (g.fI ca u:Nat)):=by rw[a2];go_simp
 have ad:=aa R bk;obtain⟨bq,a3⟩:∃z,w3.heap.size=z:=⟨_,rfl⟩;rw[a3]at c0 c1⊢;clear a2 bk R a3;have hm:=@run_makeMap Tryz.prog;have i1:=Lg (0,0) W4;have i2:=Lg ((g.fI ca u:Nat),(g.fJ ca u:Nat)) W4;have i3:=Qf (0,0) W4;have i4:=Qf ((g.fI ca u:Nat),(g.fJ ca u:Nat)) W4;have i5:=Qg (0,0) W4;have i6:=Qg ((g.fI ca u:Nat),(g.fJ ca u:Nat)) W4;obtain⟨cq,aw⟩:∃z,FC (0,0)=z:=⟨_,rfl⟩;obtain⟨cr,ax⟩:∃z,FC ((g.fI ca u:Nat),(g.fJ ca u:Nat))=z:=⟨_,rfl⟩;rw[aw]at i1 i3 i5;rw[ax]at i2 i4 i6;have a7:=hid (And.intro aw ax);clear aw ax;unfold kP at i1 i2 i3 i4 i5 i6;simp only at i1 i2 i3 i4 i5 i6;go_cut [16] (λs wx=>QD W4 p (g.X ca:Nat) (g.Y ca:Nat) (g.fI ca u:Nat) (g.fJ ca u:Nat) s wx)
 case first=>
  go_region_held3 (λw'=>w'.cell? ⟨bq,0,none⟩=some (.int .i64 (g.fJ ca u:Nat))/\w'.cell? ⟨bq,1,none⟩=some (.int .i64 (g.fI ca u:Nat)))
   (first|exact⟨Qi c0,Qi c1⟩|exact⟨Qj c0,Qj c1⟩|exact⟨Qk c0,Qk c1⟩|(go_keep;done))
   (fail)
  all_goals
   clear i1 i2 i3 i4 i5 i6 hm;go_wp2;go_meet
   case rel=>first|exact Rc a7.out|exact Re a7.out
 case rest=>
 clear i1 i2 i3 i4 i5 i6 hm c0 c1 a7;obtain⟨b,mo,mk,rfl,O,⟨g1,g2,g3⟩,hdr⟩:=hcut;have cn:=ad.size;have a5:=aa ad hdr;clear hdr ad;obtain⟨P,ap⟩:∃z,((g.X u:Nat):Int)-(g.X ca:Nat)=z:=⟨_,rfl⟩;obtain⟨dy,aq⟩:∃z,((g.Y u:Nat):Int)-(g.Y ca:Nat)=z:=⟨_,rfl⟩;rw[ap,aq];have d1:-16<=P:=by omega
 have d2:P<=16:=by omega
 have d3:-16<=dy:=by omega
 have d4:dy<=16:=by omega
 have br:g.FJ ca u=vX P:=by rw[<-ap];rfl
 have bt:g.FK ca u=vX dy:=by rw[<-aq];rfl
 have bv:g.FL ca u=if dy.natAbs<=P.natAbs then vX P else 0:=by rw[<-ap,<-aq];rfl
 have bw:g.FN ca u=if dy.natAbs<=P.natAbs then 0 else vX dy:=by rw[<-ap,<-aq];rfl
 have cD:=λw=>jm w (vX P) (vX dy);have ed:jQ (vX P) (vX dy)=g.qh ca u:=by unfold G.qh;rw[br,bt]
 rw[ed]at cD;have cD:=hid cD;have a8:=hid (λw=>yA w P (by omega));have a9:=hid (λw=>yA w dy (by omega));have HF:=hid O;have ao:=hid (And.intro bv bw);clear ap aq br bt bv bw ed O;obtain⟨wB,b9⟩:∃z:World,wc=z:=⟨_,rfl⟩;rw[b9]at HF a5⊢;clear b9;go_wp2_with fail;(with_reducible refine(a8.out _).mono ?_);rintro e w' ⟨rfl,rfl⟩;go_wp2_with fail;(with_reducible refine(a9.out _).mono ?_);rintro e w' ⟨rfl,rfl⟩;go_wp2_with fail;(with_reducible refine(cD.out _).mono ?_);rintro e w6 ⟨rfl,bc⟩;have L:=HF.out.below bc;have bh:=aa a5 bc;have k3:=L.c3.1;have f3:=L.frozen 3;have ai:=hid (L.Ue (g.qh ca u:Nat));have ag:Below w.heap.size w (w6.setCell ⟨b,3,none⟩ (.int .i64 (g.qh ca u:Nat))):=bh.setCell (by simp;omega) _;clear HF L bc a5 cD bh;go_upto_region 7 with(fail);clear k3 f3;obtain⟨w7,b7⟩:∃z:World,(w6.setCell ⟨b,3,none⟩ (.int .i64 (g.qh ca u:Nat)))=z:=⟨_,rfl⟩;rw[b7]at ai ag⊢;clear b7
 go_upto_if 81 with(fail)
 obtain⟨m1,be⟩:∃z,max P (-P)=z:=⟨_,rfl⟩;obtain⟨m2,bg⟩:∃z,max dy (-dy)=z:=⟨_,rfl⟩;have e1:m1=(P.natAbs:Int):=by rw[<-be];omega
 have e2:m2=(dy.natAbs:Int):=by rw[<-bg];omega
 rw[be,bg];have Hm:=hid (And.intro e1 e2);clear be bg e1 e2;go_cut [] (λwx=>oI wx b p mo mk (g.X ca:Nat) (g.Y ca:Nat) (g.qh ca u:Nat) (g.fK ca u:Nat) (g.fI ca u:Nat) (g.fJ ca u:Nat)/\Below w.heap.size w wx)
 case first=>
  by_cases am:dy.natAbs<=P.natAbs
  .have ht:decide (m2<=m1)=true:=by rw[decide_eq_true_iff,Hm.out.1,Hm.out.2];omega
   have es:jQ (vX P) 0=g.fK ca u:=by unfold G.fK;rw[ao.out.1,ao.out.2,if_pos am,if_pos am]
   have cE:=λw=>jm w (vX P) 0;rw[es]at cE;have cE:=hid cE;rw[ht];clear ht es am;go_wp2_with fail;(with_reducible refine(a8.out _).mono ?_);rintro e w' ⟨rfl,rfl⟩;go_wp2_with fail;(with_reducible refine(cE.out _).mono ?_);rintro e w8 ⟨rfl,ac⟩;have S:=ai.out.below ac;have an:=aa ag ac;have k4:=S.c3.2;have f4:=S.frozen 4;have a6:=hid (S.Tn (g.fK ca u:Nat));have T:Below w.heap.size w (w8.setCell ⟨b,4,none⟩ (.int .i64 (g.fK ca u:Nat))):=an.setCell (by simp;omega) _;clear ai S ac ag cE an;go_wp2;go_meet
   case rel=>exact⟨a6.out,T⟩
  .have ht:decide (m2<=m1)=false:=by rw[decide_eq_false_iff_not,Hm.out.1,Hm.out.2];omega
   have es:jQ 0 (vX dy)=g.fK ca u:=by unfold G.fK;rw[ao.out.1,ao.out.2,if_neg am,if_neg am]
   have cE:=λw=>jm w 0 (vX dy);rw[es]at cE;have cE:=hid cE;rw[ht];clear ht es am;go_wp2_with fail;(with_reducible refine(a9.out _).mono ?_);rintro e w' ⟨rfl,rfl⟩;go_wp2_with fail;(with_reducible refine(cE.out _).mono ?_);rintro e w8 ⟨rfl,ac⟩;have S:=ai.out.below ac;have an:=aa ag ac;have k4:=S.c3.2;have f4:=S.frozen 4;have a6:=hid (S.Tn (g.fK ca u:Nat));have T:Below w.heap.size w (w8.setCell ⟨b,4,none⟩ (.int .i64 (g.fK ca u:Nat))):=an.setCell (by simp;omega) _;clear ai S ac ag cE an;go_wp2;go_meet
   case rel=>exact⟨a6.out,T⟩
 case rest=>
 obtain⟨O,T⟩:=hcut;clear ai ag ao a8 a9 d1 d2 d3 d4;obtain⟨w9,b8⟩:∃z:World,wc=z:=⟨_,rfl⟩;rw[b8]at O T⊢;clear b8;have b0:=bi.out.below T b6;have hp1:p≠mo/\p≠mk:=by omega
 have ba:=KS O b0 hp1 U Z;obtain⟨q1,q2⟩:=G.sQ ay Z U;obtain⟨I,hI⟩:∃z,g.fI ca u=z:=⟨_,rfl⟩;obtain⟨J,hJ⟩:∃z,g.fJ ca u=z:=⟨_,rfl⟩;rw[hI,hJ]at ba;rw[hI]at q1;rw[hJ]at q2;have B:=hid (And.intro hI hJ);have aS:=hid ay;clear O b0 hp1 hI hJ ay bi hX ce hY cg;have b5:∀k,k∈[mo,mk]->w.heap.size<=k:=by simp;omega
 have bm:=hid b5;clear b5;go_wp2_with fail;go_loopw [17] (λkv wr=>∃i:Nat,i<=I+1/\kv=.int .i64 i/\bA wr b p mo mk g v ca u (gQ (g.C8 ca u i 0)) (gQ λp q=>p=I/\q=J)/\Below w.heap.size w wr) (λkv _=>I+1-(intOf kv).toNat)
 case atStart=>exact⟨0,by omega,rfl,ba,T⟩
 case round=>
  obtain⟨i,hi,rfl,O,HB⟩:=hrel;clear ba T;obtain⟨_,_,_,_,_,k5,k6,_,_⟩:=O.cell;rw[B.out.1]at k5;rw[B.out.2]at k6;have O:=hid O;by_cases bd:i<=I
  .have ci:(i:Int)<=(I:Int):=by omega
   go_wp2_with fail;clear k5 k6;obtain⟨wo,rfl⟩:∃wo:World,wo=wr:=⟨_,rfl⟩
   go_loopw [18] (λkv wr=>∃j:Nat,j<=J+1/\kv=.int .i64 j/\bA wr b p mo mk g v ca u (gQ (g.C8 ca u i j)) (gQ λp q=>p=I/\q=J)/\Below w.heap.size w wr) (λkv _=>J+1-(intOf kv).toNat)
   case atStart=>exact⟨0,by omega,rfl,O.out,HB⟩
   case round=>
    obtain⟨j,hj,rfl,al,M⟩:=hrel;clear O HB;obtain⟨_,_,_,_,_,_,k6,k7,_⟩:=al.cell;rw[B.out.2]at k6;by_cases ar:j<=J
    .have ch:(j:Int)<=(J:Int):=by omega
     obtain⟨t,ht,hl⟩:=al.on.look (i:Int) (j:Int);have hl:=hl wr (Below.refl _ _);rw[lD,G.Ry aS.out Z U (by rw[B.out.1];exact bd) (by rw[B.out.2];exact ar)]at ht;have Ht:=hid ht;have aE:=hid al;clear ht al;cases t with
     |true=>
      have a1:=Bl wr b p mo mk g v ca u _ _ i j aE.out (by rw[B.out.1];exact bd) (by rw[B.out.2];exact ar);have a1:=hid a1;go_wp2_with fail;(with_reducible refine a1.out.mono ?_);rintro e w2 ⟨rfl,ab,b1⟩;have F:=ab.iff (EK (λp q=>G.Mk (by rw[B.out.1];exact bd) (by rw[B.out.2];exact ar) (by have:=Ht.out;simpa using this))) (λk=>Iff.rfl);have R:=Kept.below M b1 M.size bm.out;have F:=hid F;clear ab b1 a1 hl k6 k7 aE;go_wp2;go_roundw
      case rel=>first|exact⟨j+1,by omega,by go_num,F.out,R⟩|((repeat apply Exists.intro);exact⟨⟨j+1,by omega,by go_num,F.out,R⟩,rfl⟩)
      case measure=>simp[intOf];omega
     |false=>
      have F:=aE.out.iff (kG (λp q=>(G.Rz (p:=p) (q:=q) (λh=>by have:=Ht.out.2 h;simp at this)).symm)) (λk=>Iff.rfl);have F:=hid F;clear aE;go_wp2;go_roundw
      case rel=>first|exact⟨j+1,by omega,by go_num,F.out,M⟩|((repeat apply Exists.intro);exact⟨⟨j+1,by omega,by go_num,F.out,M⟩,rfl⟩)
      case measure=>simp[intOf];omega
    .obtain rfl:j=J+1:=by omega
     have F:=al.iff (kG (Q:=g.C8 ca u (i+1) 0) (λp q=>by have:=G.Pb (g:=g) (a:=ca) (b:=u) (i:=i) (p:=p) (q:=q);rw[B.out.2]at this;exact this)) (λk=>Iff.rfl);have F:=hid F;clear al;go_wp2;go_roundw
     case rel=>first|exact⟨i+1,by omega,by go_num,F.out,M⟩|((repeat apply Exists.intro);exact⟨⟨i+1,by omega,by go_num,F.out,M⟩,rfl⟩)
     case measure=>simp[intOf];omega
  .obtain rfl:i=I+1:=by omega
   have F:=O.out.iff (kG (Q:=g.Nk ca u) (λp q=>by have:=G.O9 aS.out Z U (p:=p) (q:=q);rw[B.out.1]at this;exact this)) (kG (Q:=g.CV ca u (I+1) (J+1)) (λp q=>by have:=G.G6 (g:=g) (a:=ca) (b:=u) (p:=p) (q:=q);rw[B.out.1,B.out.2]at this;exact this.symm));have F:=hid F;clear O;go_wp2_with fail;clear k5 k6;obtain⟨wo,rfl⟩:∃wo:World,wo=wr:=⟨_,rfl⟩
   go_loopw [19] (λkv wr=>∃(k:Nat)(x:Int),k<=I+1/\kv=.int .i64 x/\x=(k:Int)-1/\bA wr b p mo mk g v ca u (gQ (g.Nk ca u)) (gQ (g.CV ca u k (J+1)))/\Below w.heap.size w wr) (λkv _=>(intOf kv+1).toNat)
   case atStart=>exact⟨I+1,_,by omega,rfl,by omega,F.out,HB⟩
   case round=>
    obtain⟨k,x,hk,rfl,hx,O,M⟩:=hrel;clear F HB;obtain⟨_,_,_,_,_,k5,k6,_,_⟩:=O.cell;rw[B.out.1]at k5;rw[B.out.2]at k6;have O:=hid O;by_cases cl:0<k
    .obtain⟨i,rfl⟩:∃i,k=i+1:=⟨k-1,by omega⟩
     obtain rfl:x=(i:Int):=by omega
     clear hx;have cj:(0:Int)<=(i:Int):=by omega
     go_wp2_with fail;clear k5 k6;obtain⟨wo,rfl⟩:∃wo:World,wo=wr:=⟨_,rfl⟩
     go_loopw [20] (λkv wr=>∃(l:Nat)(y:Int),l<=J+1/\kv=.int .i64 y/\y=(l:Int)-1/\bA wr b p mo mk g v ca u (gQ (g.Nk ca u)) (gQ (g.CV ca u (i+1) l))/\Below w.heap.size w wr) (λkv _=>(intOf kv+1).toNat)
     case atStart=>exact⟨J+1,_,by omega,rfl,by omega,O.out,M⟩
     case round=>
      obtain⟨l,y,hl,rfl,hy,ab,R⟩:=hrel;clear O M;by_cases cm:0<l
      .obtain⟨j,rfl⟩:∃j,l=j+1:=⟨l-1,by omega⟩
       obtain rfl:y=(j:Int):=by omega
       clear hy;have ck:(0:Int)<=(j:Int):=by omega
       have a0:=Il wr b p mo mk g v ca u _ _ i j ab (by rw[B.out.1];omega) (by rw[B.out.2];omega);have a0:=hid a0;clear ab;go_wp2_with fail;(with_reducible refine a0.out.mono ?_);rintro e w2 ⟨rfl,bx,b2⟩;have L:=bx.iff (λk=>Iff.rfl) (Lv (Q:=g.CV ca u (i+1) j) (λp q=>G.Kl aS.out Z U (by rw[B.out.1];omega) (by rw[B.out.2];omega)));have ad:=Kept.below R b2 R.size (λk hk=>bm.out k (by simp at hk⊢;exact .inr hk));have L:=hid L;clear bx b2 a0;go_wp2;go_roundw
       case rel=>first|exact⟨j,_,by omega,rfl,by omega,L.out,ad⟩|((repeat apply Exists.intro);exact⟨⟨j,_,by omega,rfl,by omega,L.out,ad⟩,rfl⟩)
       case measure=>simp[intOf]
      .obtain rfl:l=0:=by omega
       have cp:y<0:=by omega
       have L:=ab.iff (λk=>Iff.rfl) (kG (Q:=g.CV ca u i (J+1)) (λp q=>by have:=G.NR (g:=g) (a:=ca) (b:=u) (i:=i) (p:=p) (q:=q);rw[B.out.2]at this;exact this));have L:=hid L;clear ab;go_wp2;go_roundw
       case rel=>first|exact⟨i,_,by omega,rfl,by omega,L.out,R⟩|((repeat apply Exists.intro);exact⟨⟨i,_,by omega,rfl,by omega,L.out,R⟩,rfl⟩)
       case measure=>simp[intOf]
    .obtain rfl:k=0:=by omega
     have co:x<0:=by omega
     have L:=O.out.iff (λk=>Iff.rfl) (kG (Q:=g.PS ca u) (λp q=>G.NQ aS.out Z U));have hD:JO w p g v ca u (.returned (.pointer (some ⟨b,0,none⟩))) wr:=⟨b,mo,mk,rfl,L,M⟩;clear L O hx;go_wp2;go_ret;exact hD
end Go.Proofs.YtokhnobcincfjaaGreatDoor
