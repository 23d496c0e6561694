/- Lemmas of this claim: Flood, Pend, Flood2, Flood3, Flood4, Flood5, Flood6, Flood7, RFlood. -/
import Derived.Test.YtokhnobcincfjaaGreatDoorKNEd9
import Derived.Test.YtokhnobcincfjaaGreatDoorKNEd2
import Derived.Sort.OwnSortedInts
set_option linter.unusedVariables false
set_option linter.unusedSimpArgs false
set_option maxHeartbeats 3200000
set_option maxRecDepth 100000
namespace Go.Proofs.YtokhnobcincfjaaGreatDoor
open Go.Lib (hid)
open Go.RowKit Go.Sort FR
variable {a:Addr}{g:G}{m:Int->Option Value}{S todo:List Nat}{N b bc bi fr i j k n:Nat}{is:Nat->Bool}{c:Nat->C}{pend:Nat->C->Prop}{f:Nat->Int}{hp:Nat->Option C}{o:Obj}{v:Value}{W w w' w7 wr:World}
def eD(f:Nat->Option Value)(z:Int):Option Value:=if 0<=z then f z.toNat else none
theorem fM(f:Nat->Option Value)(n:Nat):eD f (n:Nat)=f n:=by unfold eD;rw[if_pos (by omega)];rfl
theorem qD(f:Nat->Option Value)(n:Nat)(v:Option Value):aL (eD f) (n:Nat) v=eD (upd f n v):=by
 funext z;unfold aL eD upd;by_cases h:0<=z
 .rw[if_pos h,if_pos h]
  by_cases e:z=(n:Nat)
  .rw[if_pos e,if_pos (by omega)]
  .rw[if_neg e,if_neg (by omega)]
 .rw[if_neg h,if_neg h,if_neg (by omega)]
def oo(c:C):Value:=.agg #[.int .i64 c.s,.int .i64 c.d]
def fH(d:Nat->Option C)(j:Nat):Option Value:=(d j).map oo
theorem xR(d:Nat->Option C)(k:Nat)(c:C):upd (fH d) k (some (oo c))=fH (upd d k (some c)):=by
 funext j;unfold upd fH;split<;>simp_all
theorem az.BI{p:Nat}{v:Int}(h:az w p g v)(I:Kept S w w')(L:p∉S):az w' p g v:=by
 have J:=h.lt;obtain⟨u,M,z,B,F⟩:=h;exact⟨u,M,z,(I.block p J L).trans B,F⟩
theorem kr(w:World):(zeroValue 44).run Tryz.prog w=.ok (.agg #[.int .i64 0,.int .i64 0]) w:=by kernel_rfl
theorem jD(h:MapAt (λz:Int=>Value.int .i64 z) w b m N){z:Int}(u:m z=some v):(Instr.lookup 246 (.map (some b)) (.int .i64 z) true).run Tryz.prog w=.ok (.tuple #[v,.bool true]) w:=by
 have:=(h.look (aG Tryz.underlying3) Tryz.underlying246 (kr w) z).1;rw[u]at this;exact this
theorem iO(h:MapAt (λz:Int=>Value.int .i64 z) w b m N){z:Int}(u:m z=none):(Instr.lookup 246 (.map (some b)) (.int .i64 z) true).run Tryz.prog w=.ok (.tuple #[.agg #[.int .i64 0,.int .i64 0],.bool false]) w:=by
 have:=(h.look (aG Tryz.underlying3) Tryz.underlying246 (kr w) z).1;rw[u]at this;exact this
theorem Im(w:World)(d:Nat)(z:d<8):Calls Tryz.prog 95 #[.int .i64 (d:Nat)] w λe u=>e=.returned (.agg #[.int .i64 (aW d).s,.int .i64 (aW d).d])/\Below w.heap.size w u:=by
 rcases(show d=0\/d=1\/d=2\/d=3\/d=4\/d=5\/d=6\/d=7 by omega)with rfl|rfl|rfl|rfl|rfl|rfl|rfl|rfl
 all_goals
  go_enter Tryz.func95,Tryz.ntmps95;go_wp2
  first
   |(refine bodyPost_ret (v:=.agg #[.int .i64 1,.int .i64 0]) (by simp[results,Tryz.results95,go_sem]) rfl ?_
     exact⟨rfl,by(repeat' (first|exact Below.refl _ _|assumption|apply aj|apply ah|apply af|(refine aa ?_ (by assumption))))⟩)
   |(refine bodyPost_ret (v:=.agg #[.int .i64 0,.int .i64 1]) (by simp[results,Tryz.results95,go_sem]) rfl ?_
     exact⟨rfl,by(repeat' (first|exact Below.refl _ _|assumption|apply aj|apply ah|apply af|(refine aa ?_ (by assumption))))⟩)
theorem dF{x y u v:Value}(z:w.cell? ⟨b,0,none⟩=some u)(B:w.cell? ⟨b,1,none⟩=some v):((w.setCell ⟨b,0,none⟩ x).setCell ⟨b,1,none⟩ y).cell? ⟨b,0,none⟩=some x/\((w.setCell ⟨b,0,none⟩ x).setCell ⟨b,1,none⟩ y).cell? ⟨b,1,none⟩=some y:=uw z B
theorem Ints.SG{ad:Addr}(h:Ints w (some ad) n f)(B:0<n):ad.block<w.heap.size:=by
 obtain⟨u,e,z,_⟩:=h B;injection e with e;subst e;exact z
theorem qF(B:j<(fF g k).length):∃d:Nat,d<8/\g.dN k d=true/\(fF g k).getD j 0=(d:Int)/\(g.moves k)[j]? =some d:=by
 have F:(fF g k).length=(g.moves k).length:=by rw[iU,List.length_map]
 have u:j<(g.moves k).length:=by omega
 have z:=List.getElem_mem u;unfold G.moves at z;have:=List.mem_filter.1 z;refine⟨(g.moves k)[j],List.mem_range.1 this.1,this.2,?_,List.getElem?_eq_getElem u⟩;rw[iU];simp[List.getD,u]
theorem ae(h:Below w.heap.size w w')(u:w.cell? a=some v):w'.cell? a=some v:=(h.cell (World.block_lt_of_cell? w _ u)).trans u
theorem aC(h:w.cell? a=some v):(w.alloc o).cell? a=some v:=by
 rw[World.cell?_alloc_old w _ _ (Nat.ne_of_lt (World.block_lt_of_cell? w _ h))];exact h
theorem pE(d:Nat):∃z u:Int,aW d=⟨z,u⟩/\(d:Int).tmod 2=u/\1-u=z/\0<=u/\u<=1:=by
 refine⟨1-((d%2:Nat):Int),((d%2:Nat):Int),?_,?_,rfl,by omega,by omega⟩
 .unfold aW
  rcases Nat.mod_two_eq_zero_or_one d with h|h<;>simp[h]
 .rw[Int.tmod_eq_emod_of_nonneg (by omega)];simp
def xD(g:G)(k j:Nat)(b:Nat)(e:C):Prop:=∃d,d∈(g.moves k).drop j/\b=g.to k d/\e=aW d
theorem yu{k j d B:Nat}(I:(g.moves k)[j]? =some d)(L:g.to k d=B):∀b e,xD g k j b e->xD g k (j+1) b e\/(b=B/\e=aW d):=by
 rintro b e ⟨F,u,rfl,rfl⟩;obtain⟨J,z⟩:=List.getElem?_eq_some_iff.1 I;rw[List.drop_eq_getElem_cons J,z]at u;rcases List.mem_cons.1 u with rfl|u
 .exact .inr ⟨L,rfl⟩
 .exact .inl ⟨F,u,rfl,rfl⟩
theorem Jk{k z:Nat}(h:(fF g k).length=z):∀b e,xD g k z b e->False:=by
 rintro b e ⟨d,u,_⟩;rw[iU,List.length_map]at h;rw[List.drop_eq_nil_of_le (by omega)]at u;cases u
theorem MS(d:Nat):aW d≠C.zero:=by unfold aW C.zero;split<;>simp
theorem MR(d:Nat):C.le (aW d) ⟨0,1⟩:=by unfold aW;split<;>decide
def pM(hp:Nat->Option C)(z:Int):Option C:=if 0<=z then hp z.toNat else none
theorem uh(u:Nat->Option C)(n:Nat):pM u (n:Nat)=u n:=by unfold pM;rw[if_pos (by omega)];rfl
theorem zA(u:Nat->Option C)(n:Nat)(v:Option C):hset (pM u) (n:Nat) v=pM (upd u n v):=by
 funext z;unfold hset pM upd;by_cases h:0<=z
 .rw[if_pos h,if_pos h]
  by_cases e:z=(n:Nat)
  .rw[if_pos e,if_pos (by omega)]
  .rw[if_neg e,if_neg (by omega)]
 .rw[if_neg h,if_neg h,if_neg (by omega)]
theorem BC:(λ_=>none:Int->Option C)=pM (λ_=>none):=by funext z;unfold pM;split<;>rfl
theorem mZ(N:Nat):bC (λ_=>none) N=0:=by unfold bC;exact xM N
def pushed(hp:Nat->Option C)(k:Nat)(c:C)(t:Bool):Nat->Option C:=if t=true then upd hp k (some c)else hp
def lower?(hp:Nat->Option C)(k:Nat)(c:C):Bool:=match hp k with|none=>true|some d=>decide (C.cmp c d<0)
theorem nz{c:C}(h:lower? hp k c=true):∀d,hp k=some d->C.lt c d:=by
 intro d u;unfold lower? at h;rw[u]at h;simp at h;exact C.fo.1 h
theorem vB{c:C}(h:lower? hp k c=false):∃d,hp k=some d/\C.le d c:=by
 unfold lower? at h;cases u:hp k with
 |none=>rw[u]at h;cases h
 |some d=>
  rw[u]at h;simp at h;exact⟨d,rfl,C.uL.1 h⟩
theorem rP(w:World)(S:List Nat)(q N:Nat)(u:Nat->Option C)(k:Nat)(B z:Int)(t:Bool)(h:bf w S q (bC u N) (pM u))(R:k<N)(Q:N<=1000000)(L:jA ⟨B,z⟩)(M:lower? u k ⟨B,z⟩=t):Calls Tryz.prog 197 #[.pointer (some ⟨q,0,none⟩),.int .i64 (k:Nat),.agg #[.int .i64 B,.int .i64 z]] w (pO w S q (bC (pushed u k ⟨B,z⟩ t) N) (pM (pushed u k ⟨B,z⟩ t)) (.bool t)):=by
 cases F:u k with
 |none=>
  have e:t=true:=by rw[<-M];unfold lower?;rw[F]
  subst e;have:=zu w S q (bC u N) (pM u) (k:Nat) B z h (by rw[uh];exact F) L (Nat.le_trans (jB _ _) Q);rw[zA]at this;unfold pushed;rw[if_pos rfl,kg R F];exact this
 |some d=>
  obtain⟨J,I⟩:=d;have e:decide (C.cmp ⟨B,z⟩ ⟨J,I⟩<0)=t:=by rw[<-M];unfold lower?;rw[F]
  have:=zw w S q (bC u N) (pM u) (k:Nat) B z J I t h (by rw[uh];exact F) L e
  have O:(if t=true then hset (pM u) (k:Nat) (some ⟨B,z⟩)else pM u)=pM (pushed u k ⟨B,z⟩ t):=by
   unfold pushed;split
   .rw[zA]
   .rfl
  have P:bC (pushed u k ⟨B,z⟩ t) N=bC u N:=by
   unfold pushed bC;split
   .exact xO N (by rw[F];simp) _
   .rfl
  rw[O]at this;rw[P];exact this
def TM(w:World)(S:List Nat)(q N:Nat)(hp:Nat->Option C)(e:Ending)(w':World):Prop:=
 ∃k ds dd,hp k=some ⟨ds,dd⟩/\(∀j d,hp j=some d->C.le ⟨ds,dd⟩ d)/\e=.returned (.tuple #[.int .i64 (k:Nat),.agg #[.int .i64 ds,.int .i64 dd],.bool true])/\bf w' S q (bC (upd hp k none) N) (pM (upd hp k none))/\Kept S w w'
theorem It.Tc{a b:It}(h:It.le a b):C.le a.c b.c:=by
 unfold It.le It.lt at h;intro u;exact h (.inl u)
def TK(w:World)(S:List Nat)(q N:Nat)(hp:Nat->Option C)(e:Ending)(w':World):Prop:=
 ∃k ds dd,hp k=some ⟨ds,dd⟩/\(∀j d,hp j=some d->It.le ⟨⟨ds,dd⟩,(k:Nat)⟩ ⟨d,(j:Nat)⟩)/\e=.returned (.tuple #[.int .i64 (k:Nat),.agg #[.int .i64 ds,.int .i64 dd],.bool true])/\bf w' S q (bC (upd hp k none) N) (pM (upd hp k none))/\Kept S w w'
theorem BB(w:World)(S:List Nat)(q N:Nat)(u:Nat->Option C)(h:bf w S q (bC u N) (pM u))(hr:∀j,u j≠none->j<N)(hN:N<=1000000)(h0:bC u N≠0):Calls Tryz.prog 149 #[.pointer (some ⟨q,0,none⟩)] w (TK w S q N u):=by
 obtain⟨k,Z⟩:∃k,bC u N=k+1:=⟨bC u N-1,by omega⟩;rw[Z]at h;refine(zt w S q k (pM u) h (by have:=jB u N;omega)).mono ?_;rintro e w' ⟨id,J,I,B,O,P,Q,R⟩
 have F:0<=id:=by
  apply Classical.byContradiction;intro g;unfold pM at B;rw[if_neg g]at B;cases B
 obtain⟨j,rfl⟩:=Int.eq_ofNat_of_zero_le F;have z:u j=some ⟨J,I⟩:=by rw[<-uh u j];exact B
 have U:j<N:=hr j (by rw[z];simp);have M:bC u N=bC (upd u j none) N+1:=Ba U (by rw[z];simp);refine⟨j,J,I,z,λi d T=>O (i:Nat) d (by rw[uh];exact T),P,?_,R⟩;have L:bf w' S q k (hset (pM u) (j:Nat) none):=Q;rw[zA,show k=bC (upd u j none) N by omega]at L;exact L
theorem K8(w:World)(S:List Nat)(q N:Nat)(u:Nat->Option C)(h:bf w S q (bC u N) (pM u))(R:∀j,u j≠none->j<N)(P:N<=1000000)(F:bC u N≠0):Calls Tryz.prog 149 #[.pointer (some ⟨q,0,none⟩)] w (TM w S q N u):=
 (BB w S q N u h R P F).mono λ_ _⟨k,B,z,I,J,L,M,O⟩=>⟨k,B,z,I,λj d Q=>It.Tc (J j d Q),L,M,O⟩
theorem aT{b o:Nat}(h:Kept S w w')(z:b∉S)(u:w.cell? ⟨b,o,none⟩=some v):w'.cell? ⟨b,o,none⟩=some v:=by
 have B:=World.block_lt_of_cell? _ _ u;have e:w'.cell? ⟨b,o,none⟩=w.cell? ⟨b,o,none⟩:=World.cell?_of_block (h.block b B z);rw[e];exact u
theorem MV(d:Nat):0<=(aW d).s/\(aW d).s<=1/\0<=(aW d).d/\(aW d).d<=1:=by unfold aW;split<;>simp
theorem nA{f:Nat->Option Value}(h:∀j,f j=none):eD f=λ_=>none:=by
 funext z;unfold eD;split
 .exact h _
 .rfl
theorem xN(h:bC hp N=0)(z:∀j,hp j≠none->j<N):∀j,hp j=none:=by
 intro j;cases u:hp j with
 |none=>rfl
 |some c=>
  have:=Ia h j (z j (by rw[u];simp));rw[u]at this;cases this
theorem BG(w:World)(B:Nat)(v:Value)(u:List Int)(F:aI w B v u)(hl:u.length<=1000000000)(hB:B<=w.heap.size):Calls Tryz.prog 200 #[v] w λe I=>e=.returned (.tuple #[])/\aI I B v u.reverse/\Below B w I:=by
 rcases F.2 with⟨rfl,hn⟩|⟨g,J,L,rfl,hg,T,S,hm,hs,U⟩
 .have:u=[]:=List.eq_nil_of_length_eq_zero hn
  subst this;refine(Tryz.slices_Reverse_int_empty none 0 w).mono ?_;rintro e I ⟨M,O⟩;subst O;exact⟨M,aI.nil _ _,Below.refl _ _⟩
 .have Q:L.toList.take u.length=u.map (Value.int .i64):=by rw[Nat.mul_one]at U;exact U
  refine(Tryz.slices_Reverse_int g 0 J u w (holds_of_blockI T Q) (by omega)).mono ?_;rintro e I ⟨M,n,O⟩;have Z:I=grow (putRow (Value.int .i64) (Sort.ahead w n) g 0 u.reverse.toArray) #[]:=by rw[grow_empty];exact O
  have R:=ownsRow_sortedI (w:=w) (n:=n) (os:=#[]) (ss:=u) (ts:=u.reverse) (by simp) hg T S hm hs;have z:=grownBy_sortedI (w:=w) (g:=g) (n:=n) (os:=#[]) u.reverse.toArray;rw[<-Z]at R z;refine⟨M,?_,⟨z.os,z.tape,z.output,z.size,λk hk=>?_⟩⟩
  .unfold aI;rw[List.length_reverse];exact R
  .by_cases P:k<w.heap.size
   .exact z.block k P (by intro e;injection e with e;omega)
   .omega
theorem RX(w:World)(b1 b2 b3 b4 Q:Nat)(g:G)(v:Int)(A:Option Addr)(n m:Nat)(f:Nat->Int)(i P k d:Nat)(cell z:Int)(t:Bool)(Z:az w Q g v)(S:Ints w A n f)(L:i<n)(ac:P=i+1)(ap:P<=1000000)(J:f i=(k:Nat))(M:k<g.n)(hd:d<8)(hz:g.Ai k d=z)(ht:(z==cell)=t)(c1:w.cell? ⟨b1,0,none⟩=some (.pointer (some ⟨Q,0,none⟩)))(c2:w.cell? ⟨b2,0,none⟩=some (.slice A n m))(c3:w.cell? ⟨b3,0,none⟩=some (.int .i64 (P:Nat)))(c4:w.cell? ⟨b4,0,none⟩=some (.int .i64 cell)):Calls Tryz.prog 92 #[.int .i64 (d:Nat),.pointer (some ⟨b1,0,none⟩),.pointer (some ⟨b2,0,none⟩),.pointer (some ⟨b3,0,none⟩),.pointer (some ⟨b4,0,none⟩)] w λe w'=>e=.returned (.bool t)/\Below w.heap.size w w':=by
 obtain⟨ad,U⟩:=S.addr (by omega);have u:=S;rw[U]at u;have aq:=λR=>aX (m:=m) U L R;have hE:=u.cell (Below.refl _ _) L;rw[J]at hE
 have ar:IntKind.i64.wrap ((P:Int)-1)=(i:Int):=by
  rw[show(P:Int)-1=(i:Int)by omega];exact IntWalk.i64_in _ (by omega)
 have hp:=hid Z.lt;have ai:=cell_regrown c1;have al:=cell_regrown c2;have am:=cell_regrown c3;have an:=cell_regrown c4;have ao:=cell_regrown hE;have F:=Below.refl w.heap.size w;have B:∀R wy,Ending.returned (Value.bool (z==cell))=.returned (.bool t)/\Below w.heap.size R wy↔Below w.heap.size R wy:=λ_ _=>by rw[ht];simp
 have B:=hid B;have HG:=hid Z;have Hz:=hid hz;clear U S u J Z ac ht hz;go_enter Tryz.func92,Tryz.ntmps92;go_wp2_with fail;refine wp_region_quiet_below (by kernel_rfl) (by kernel_rfl) ?_;repeat (first|go_big_quiet_step ((with_reducible exact Calls.regrown_of (P8 _ Q g v k d _ (HG.out.below (F.trans ((below_regrown w _ _).mono F.size)) hp.out) M hd Hz.out)))|quiet_step ((with_reducible exact Calls.regrown_of (P8 _ Q g v k d _ (HG.out.below (F.trans ((below_regrown w _ _).mono F.size)) hp.out) M hd Hz.out))))
 refine wpQuiet_nil ?_;intro _ ag;obtain⟨⟨T,osq⟩,O⟩:=ag;have I:=aa F (below_regrown w T osq);have ab:=below_regrown w T osq;subst O;generalize grow (redrawn w T) osq=w2 at I ab⊢;go_wp2;go_ret;exact(B.out _ _).2 I
def Ox(o:Option Nat):Int:=match o with|some i=>(i:Nat)|none=>-1
theorem idxFunc(w:World)(b1 b2 b3 b4 gp:Nat)(g:G)(v:Int)(A A1:Option Addr)(n m m1 M:Nat)(f:Nat->Int)(i iv k c:Nat)(hG:az w gp g v)(hI:Ints w A n f)(an:i<n)(ao:iv=i+1)(am:iv<=1000000)(ai:f i=(k:Nat))(aw:k<g.n)(ad:Ints w A1 M (λx=>(fF g k).getD x 0))(R:(fF g k).length=M)(c1:w.cell? ⟨b1,0,none⟩=some (.pointer (some ⟨gp,0,none⟩)))(c2:w.cell? ⟨b2,0,none⟩=some (.slice A n m))(c3:w.cell? ⟨b3,0,none⟩=some (.int .i64 (iv:Nat)))(c4:w.cell? ⟨b4,0,none⟩=some (.int .i64 (c:Nat))):Calls Tryz.prog 91 #[.slice A1 M m1,.func (.func 92) #[] #[.pointer (some ⟨b1,0,none⟩),.pointer (some ⟨b2,0,none⟩),.pointer (some ⟨b3,0,none⟩),.pointer (some ⟨b4,0,none⟩)]] w λe w'=>e=.returned (.int .i64 (Ox (g.mP k c)))/\Below w.heap.size w w':=by
 have aE:M<=8:=by rw[<-R];exact jq _ _
 have ab:=hid R;have cC:=hid (λw'(T:Below w.heap.size w w')d z t hd hz ht=>RX w' b1 b2 b3 b4 gp g v A n m f i iv k d (c:Nat) z t (hG.below T hG.lt) (hI.below T) an ao am ai aw hd hz ht (ae T c1) (ae T c2) (ae T c3) (ae T c4));have S:=hid ad;clear hG hI an ao am ai c1 c2 c3 c4 ad R;go_enter Tryz.func91,Tryz.ntmps91;go_wp2_with fail;go_loopw [8] (λkv wr=>∃j:Nat,j<=M/\kv=.int .i64 j/\(∀I d:Nat,I<j->(g.moves k)[I]? =some d->g.to k d≠c)/\Below w.heap.size w wr) (λkv _=>M-(intOf kv).toNat)
 case atStart=>exact⟨0,by omega,rfl,λI d h=>by omega,Below.refl _ _⟩
 case round=>
  obtain⟨j,hj,rfl,F,U⟩:=hrel;have F:=hid F;by_cases Q:j<M
  .obtain⟨aS,hA1⟩:=S.out.addr (by omega)
   have P:=S.out;rw[hA1]at P;have ay:=λwx=>aX (m:=m1) hA1 Q wx;have ac:=P.cell U Q;obtain⟨d,ar,J,al,L⟩:=qF (g:=g) (k:=k) (j:=j) (by rw[ab.out];exact Q);rw[al]at ac;obtain⟨ap,ax⟩:=to_eq J;obtain⟨t,ht⟩:∃t,(((g.to k d:Nat):Int)==(c:Nat))=t:=⟨_,rfl⟩;have cD:=hid (cC.out wr U d _ t ar ap ht);have Ht:=hid ht;have u:=hid L;clear hA1 P al ap ht L J ax;go_wp2_with fail;(with_reducible refine(cD.out).mono ?_);rintro e w2 ⟨rfl,ag⟩;have Z:=aa U ag;clear cD U ag ac;cases t with
   |true=>
    have hr:Ox (g.mP k c)=(j:Nat):=by
     have aq:g.to k d=c:=by have:=Ht.out;simp at this;omega
     cases hw:g.mP k c with
     |none=>exact absurd aq (G.sj hw j d u.out)
     |some i'=>
      obtain⟨O,h1,h2,h3⟩:=G.gV hw;rw[(h3 j d u.out).1 aq];rfl
    have Hr:=hid hr;clear hr;go_wp2;go_ret;exact⟨by rw[Hr.out];rfl,Z⟩
   |false=>
    have B:∀I O:Nat,I<j+1->(g.moves k)[I]? =some O->g.to k O≠c:=by
     intro I O h1 h2;by_cases e:I=j
     .subst e
      have:=u.out;rw[h2]at this;injection this with this;subst this
      have:=Ht.out;simp at this;omega
     .exact F.out I O (by omega) h2
    have B:=hid B;go_wp2;go_roundw
    case rel=>exact⟨j+1,by omega,by go_num,B.out,Z⟩
    case measure=>simp[intOf];omega
  .obtain rfl:j=M:=by omega
   have hr:Ox (g.mP k c)= -1:=by
    cases hw:g.mP k c with
    |none=>rfl
    |some i'=>
     obtain⟨O,h1,h2,h3⟩:=G.gV hw;have a1:=(List.getElem?_eq_some_iff.1 h1).1;have a0:(g.moves k).length=j:=by rw[<-ab.out,iU,List.length_map]
     exact absurd h2 (F.out i' O (by omega) h1)
   have Hr:=hid hr;clear hr;go_wp2;go_ret;exact⟨by rw[Hr.out];rfl,U⟩
def Rb(k:Nat):Value:=if k=0 then .nilIface else .iface 45 (.int .i64 (k:Nat))
def Kz(x:C×Nat):Value:=.tuple #[.agg #[.int .i64 x.1.s,.int .i64 x.1.d],Rb x.2]
def Np(W:World)(b6:Nat)(g:G)(f:Nat->Int)(i:Nat)(wr:World):Prop:=∃cs cd,g.dX f i=.inr ⟨cs,cd⟩/\wr.cell? ⟨b6,0,none⟩=some (.int .i64 cs)/\wr.cell? ⟨b6,1,none⟩=some (.int .i64 cd)/\wr.frozen? ⟨b6,0,none⟩=false/\wr.frozen? ⟨b6,1,none⟩=false/\Kept [b6] W wr
def Uy(w:World)(x:C×Nat)(e:Ending)(w':World):Prop:=e=.returned (Kz x)/\Below w.heap.size w w'
theorem rR{b o:Nat}(h:Kept S w w')(u:b∉S)(B:b<w.heap.size){t:Bool}(z:w.frozen? ⟨b,o,none⟩=t):w'.frozen? ⟨b,o,none⟩=t:=by
 have e:w'.frozen? ⟨b,o,none⟩=w.frozen? ⟨b,o,none⟩:=by simp only[World.frozen?,h.block b B u]
 rw[e];exact z
theorem Ints.qA{A:Option Addr}(h:Ints w A n f)(I:Kept S w w')(M:0<n->∀u,A=some u->u.block∉S):Ints w' A n f:=by
 intro J;obtain⟨u,B,F,L⟩:=h J
 exact⟨u,B,Nat.lt_of_lt_of_le F I.size,λk z=>by
  have e:w'.cell? (u.add k)=w.cell? (u.add k):=World.cell?_of_block (by rw[add_block];exact I.block _ F (M J u B));rw[e];exact L k z⟩
theorem Np.Er{W w7 B:World}{z i:Nat}{x y:Int}{u v:Value}(L:Kept [z] W w7)(P:Below w7.heap.size w7 B)(F:g.dX f i=.inr ⟨x,y⟩)(I:B.cell? ⟨z,0,none⟩=some u)(J:B.cell? ⟨z,1,none⟩=some v)(M:B.frozen? ⟨z,0,none⟩=false)(O:B.frozen? ⟨z,1,none⟩=false):Np W z g f i ((B.setCell ⟨z,0,none⟩ (.int .i64 x)).setCell ⟨z,1,none⟩ (.int .i64 y)):=by
 have e:=dF (x:=.int .i64 x) (y:=.int .i64 y) I J;refine⟨x,y,F,e.1,e.2,by simpa using M,by simpa using O,?_⟩;exact L.trans (((Kept.of_below P).setCell (.inl (by simp))).setCell (.inl (by simp)))
theorem aQ{t:Bool}(h:Below w.heap.size w w')(z:a.block<w.heap.size)(u:w.frozen? a=t):w'.frozen? a=t:=(h.frozen z).trans u
theorem Io(w:World)(p:Nat)(g:G)(v:Int)(A:Option Addr)(n m:Nat)(f:Nat->Int)(hG:az w p g v)(hI:Ints w A n f)(hn:n<=1000000):Calls Tryz.prog 47 #[.pointer (some ⟨p,0,none⟩),.slice A n m] w (Uy w (g.qY f n)):=by
 go_enter Tryz.func47,Tryz.ntmps47;go_upto_region 2 with(fail);refine au ?_;intro W hW;have HW:Below w.heap.size w W:=by rw[hW];(repeat' (first|exact Below.refl _ _|assumption|apply aj|apply ah|apply af|(refine aa ?_ (by assumption))))
 obtain⟨b2,Z⟩:∃b,w.heap.size=b:=⟨_,rfl⟩;have bk:W.heap.size=b2+1+1+1+1:=by rw[hW];simp;omega
 have q2:W.cell? ⟨b2,0,none⟩=some (.pointer (some ⟨p,0,none⟩)):=by rw[hW,<-Z];go_simp
 have q3:W.cell? ⟨b2+1,0,none⟩=some (.slice A n m):=by rw[hW,<-Z];go_simp
 have z:W.cell? ⟨b2+1+1,0,none⟩=some (.int .i64 0):=by rw[hW,<-Z];go_simp
 have B:W.cell? ⟨b2+1+1,1,none⟩=some (.int .i64 0):=by rw[hW,<-Z];go_simp
 have M:W.frozen? ⟨b2+1+1,0,none⟩=false:=by rw[hW,<-Z];go_simp
 have O:W.frozen? ⟨b2+1+1,1,none⟩=false:=by rw[hW,<-Z];go_simp
 have aS:W.cell? ⟨b2+1+1+1,0,none⟩=some (.int .i64 0):=by rw[hW,<-Z];go_simp
 have a0:W.cell? ⟨b2+1+1+1,1,none⟩=some (.int .i64 0):=by rw[hW,<-Z];go_simp
 have F:W.frozen? ⟨b2+1+1+1,0,none⟩=false:=by rw[hW,<-Z];go_simp
 have I:W.frozen? ⟨b2+1+1+1,1,none⟩=false:=by rw[hW,<-Z];go_simp
 have ct:=hid (hG.below HW hG.lt);have cv:=hid (hI.below HW);have cL:=hG.lt;rw[Z]at cL⊢;obtain⟨b3,cy⟩:∃b,b2+1=b:=⟨_,rfl⟩;rw[cy]at bk q3 z B M O aS a0 F I⊢;obtain⟨b4,cB⟩:∃b,b3+1=b:=⟨_,rfl⟩;rw[cB]at bk z B M O aS a0 F I⊢;obtain⟨b6,cC⟩:∃b,b4+1=b:=⟨_,rfl⟩;rw[cC]at bk aS a0 F I⊢;have cJ:=hG.1;have cV:=G.bR cJ;clear hW hG
 have bh:0<n->∀ad,A=some ad->ad.block<b2:=λh0 ad e=>by
  obtain⟨cO,e',bt,_⟩:=hI h0;rw[e']at e;injection e with e;subst e;omega
 have bh:=hid bh;clear hI;have hstart:Np W b6 g f 0 W:=⟨0,0,rfl,aS,a0,F,I,Kept.refl _ _⟩;go_wp2_with fail;go_loopw [16] (λkv wr=>∃i:Nat,i<=n/\kv=.int .i64 i/\Np W b6 g f i wr) (λkv _=>n-(intOf kv).toNat)
 case atStart=>exact⟨0,by omega,rfl,hstart⟩
 case round=>
  obtain⟨i,hi,rfl,cs,cd,al,P,Q,F,I,hK⟩:=hrel;clear hstart aS a0;have q2:=aT hK (by simp;omega) q2;have q3:=aT hK (by simp;omega) q3;have z:=aT hK (by simp;omega) z;have B:=aT hK (by simp;omega) B;have M:=rR hK (by simp;omega) (by omega) M;have O:=rR hK (by simp;omega) (by omega) O;have bi:=hid (ct.out.BI hK (by simp;omega));have a6:=hid (cv.out.qA hK (λh0 ad e=>by have:=bh.out h0 ad e;simp;omega));have am:Below w.heap.size w wr:=Kept.below HW hK HW.size (by simp;omega);have am:=hid am;have HK:=hid hK;have c8:=hK.size;clear hK;by_cases bt:i<n
  .obtain⟨ad,hA⟩:=a6.out.addr (by omega)
   have U:=a6.out;rw[hA]at U;have a8:=λwx=>aX (m:=m) hA bt wx;have hE:=U.cell (Below.refl _ _) bt;have ag:=hid al;clear hA U al;obtain⟨fi,bp⟩:∃fi,f i=fi:=⟨_,rfl⟩;rw[bp]at hE;have a2:=hid bp;clear bp;go_upto_region 5 with(fail);refine au ?_;intro W5 ax;have R:Below wr.heap.size wr W5:=by rw[ax];(repeat' (first|exact Below.refl _ _|assumption|apply aj|apply ah|apply af|(refine aa ?_ (by assumption))))
   obtain⟨b7,bm⟩:∃b,wr.heap.size=b:=⟨_,rfl⟩;have cM:W5.heap.size=b7+1+1:=by rw[ax];simp;omega
   have q7:W5.cell? ⟨b7,0,none⟩=some (.int .i64 (i:Nat)):=by rw[ax,<-bm];go_simp
   have q8:W5.cell? ⟨b7+1,0,none⟩=some (.int .i64 fi):=by rw[ax,<-bm];go_simp
   rw[bm]at⊢;obtain⟨b8,cD⟩:∃b,b7+1=b:=⟨_,rfl⟩;rw[cD]at cM q8⊢;have q2:=ae R q2;have q3:=ae R q3;have z:=ae R z;have B:=ae R B;have M:=aQ R (by simp only;omega) M;have O:=aQ R (by simp only;omega) O;have P:=ae R P;have Q:=ae R Q;have F:=aQ R (by simp only;omega) F;have I:=aQ R (by simp only;omega) I;have hE:=ae R hE;have ar:=hid (bi.out.below R bi.out.lt);have cb:=hid (a6.out.below R);have a3:=hid (aa am.out R);have ce:=hid (HK.out.trans (Kept.of_below R));clear ax R bi a6 am HK a8 hE;by_cases ac:0<=fi/\fi<g.n
   .obtain⟨co,cN⟩:=ac
    obtain⟨c,hc⟩:=Int.eq_ofNat_of_zero_le co;subst hc;have bo:c<g.n:=by omega
    have cF:=dC W5 p g v c ar.out bo;cases a7:g.b c with
    |true=>
     rw[a7]at cF
     have S:g.qY f n=(C.zero,4):=by
      have cm:g.fault (f i)=4:=by rw[a2.out,G.aN bo,a7];rfl
      have:=G.mQ (G.pG ag.out (by rw[cm];decide)) (n:=n) (by omega);rw[cm]at this;exact this
     have S:=hid S;go_wp2_with fail;(with_reducible refine cF.mono ?_);rintro e w6 ⟨rfl,u⟩;have z:=ae u z;have B:=ae u B;have M:=aQ u (by simp only;omega) M;have O:=aQ u (by simp only;omega) O;clear cF;go_wp2;have e2:=dF (x:=.int .i64 0) (y:=.int .i64 0) z B;refine bodyPost_ret (v:=.tuple #[.agg #[.int .i64 0,.int .i64 0],.iface 45 (.int .i64 4)]) (by simp[results,Tryz.results47,go_sem,e2]) rfl ?_;exact⟨by rw[S.out];rfl,((aa a3.out u).setCell (by simp only;omega) _).setCell (by simp only;omega) _⟩
    |false=>
     rw[a7]at cF;have ck:g.fault (f i)=0:=by rw[a2.out,G.aN bo,a7];rfl
     have b0:=hid ck;clear ck;go_wp2_with fail;(with_reducible refine cF.mono ?_);rintro e w6 ⟨rfl,u⟩;have c5:=u.size;have q2:=ae u q2;have q3:=ae u q3;have z:=ae u z;have B:=ae u B;have q7:=ae u q7;have q8:=ae u q8;have M:=aQ u (by simp only;omega) M;have O:=aQ u (by simp only;omega) O;have P:=ae u P;have Q:=ae u Q;have F:=aQ u (by simp only;omega) F;have I:=aQ u (by simp only;omega) I;have aw:=hid (ar.out.below u ar.out.lt);have a5:=hid (cb.out.below u);have b9:=hid (aa a3.out u);have bj:=hid (ce.out.trans (Kept.of_below u));clear cF u ar cb a3 ce;rcases Nat.eq_zero_or_pos i with ap|ap
     .subst ap
      have hz:cs=0/\cd=0:=by
       have h:=ag.out;unfold G.dX at h;injection h with h
       unfold C.zero at h;injection h with h1 h2
       exact⟨h1.symm,h2.symm⟩
      obtain⟨rfl,rfl⟩:=hz;have ac:Np W b6 g f 1 w6:=⟨0,0,G.pI b0.out,P,Q,F,I,bj.out⟩;have ac:=hid ac;clear P Q F I z B M O;go_wp2;go_roundw
      case rel=>exact⟨1,by omega,by go_num,ac.out⟩
      case measure=>simp[intOf];omega
     .obtain⟨i',ay⟩:∃i',i=i'+1:=⟨i-1,by omega⟩
      have aE:i'<n:=by omega
      have cH:((i:Int)==0)=false:=by simp;omega
      have T:=ag.out;rw[ay]at T;obtain⟨k,bq,cp,cW⟩:=G.uB T;have ch:=G.Ab T;simp only at ch;obtain⟨cQ,cR,cT,cU⟩:=ch;have aq:=hid T;have a1:g.fault (f (i'+1))=0:=by rw[<-ay];exact b0.out
      have a1:=hid a1;have Hc:f (i'+1)=(c:Nat):=by rw[<-ay];exact a2.out
      have Hc:=hid Hc;obtain⟨ad,hA⟩:=a5.out.addr (by omega);have U:=a5.out;rw[hA]at U;have a8:=λwx=>aX (m:=m) hA aE wx;have hE:=U.cell (Below.refl _ _) aE;rw[bq]at hE
      have c9:IntKind.i64.wrap ((i:Int)-1)=(i':Int):=by
       rw[show(i:Int)-1=(i':Int)by omega];exact IntWalk.i64_in _ (by omega)
      have bg:=hid ay;have be:=hid bq;clear hA U T bq ay;go_upto_region 11 with(fail)
      go_region_held3 (λw'=>w'.cell? ⟨b2,0,none⟩=some (.pointer (some ⟨p,0,none⟩))/\w'.cell? ⟨b3,0,none⟩=some (.slice A n m)/\w'.cell? ⟨b7,0,none⟩=some (.int .i64 (i:Nat))/\w'.cell? (ad.add i')=some (.int .i64 (k:Nat)))
       (first
        |(go_keep;done)
        |(go_split_ands
          exact⟨ae ao (by assumption),ae ao (by assumption),ae ao (by assumption),ae ao (by assumption)⟩))
       (first
        |(go_at_call 90
          refine(D6 _ p g v k (aw.out.below (ah (Below.refl _ _)) aw.out.lt) cp).mono ?_;rintro e wM ⟨A1,m1,rfl,a4,cx,ao⟩))
      have L:Below w6.heap.size w6 wM:=aa (ah (Below.refl _ _)) ao;have c7:=L.size;have q2:=ae L q2;have q3:=ae L q3;have z:=ae L z;have B:=ae L B;have q7:=ae L q7;have q8:=ae L q8;have M:=aQ L (by simp only;omega) M;have O:=aQ L (by simp only;omega) O;have P:=ae L P;have Q:=ae L Q;have F:=aQ L (by simp only;omega) F;have I:=aQ L (by simp only;omega) I;have ca:=hid (aa b9.out L);have cg:=hid (bj.out.trans (Kept.of_below L));obtain⟨nl,a9⟩:∃nl,(fF g k).length=nl:=⟨_,rfl⟩;rw[a9]at a4⊢;obtain⟨r,hr⟩:∃r,Ox (g.mP k c)=r:=⟨_,rfl⟩;have cI:=idxFunc wM b2 b3 b7 b8 p g v A A1 n m m1 nl f i' i k c (aw.out.below L aw.out.lt) (a5.out.below L) aE bg.out (by omega) be.out cp a4 a9 q2 q3 q7 q8;rw[hr]at cI;have cI:=hid cI;have bx:=hid a4;have b5:=hid a9;clear aw a5 b9 bj L ao a8 hE a4 cx a9 q2 q3 q7 q8;go_wp2_with fail;(with_reducible refine cI.out.mono ?_);rintro e w7 ⟨rfl,J⟩;have c6:=J.size;have z:=ae J z;have B:=ae J B
      have M:=aQ J (by simp only;omega) M;have O:=aQ J (by simp only;omega) O;have P:=ae J P;have Q:=ae J Q;have F:=aQ J (by simp only;omega) F;have I:=aQ J (by simp only;omega) I;have cr:=hid (aa ca.out J);have cw:=hid (cg.out.trans (Kept.of_below J));have bd:=hid (bx.out.below J);clear ca cg bx J cI;cases hw:g.mP k c with
      |none=>
       rw[hw]at hr;have bv:r= -1:=hr.symm;subst bv;have S:=hid (G.mQ (G.yL aq.out a1.out be.out Hc.out hw) (n:=n) (by have:=bg.out;omega));clear hr hw P Q F I;go_wp2;have e2:=dF (x:=.int .i64 0) (y:=.int .i64 0) z B;refine bodyPost_ret (v:=.tuple #[.agg #[.int .i64 0,.int .i64 0],.iface 45 (.int .i64 7)]) (by simp[results,Tryz.results47,go_sem,e2]) rfl ?_;exact⟨by rw[S.out];rfl,(cr.out.setCell (by simp only;omega) _).setCell (by simp only;omega) _⟩
      |some kk=>
       rw[hw]at hr;have bv:r=(kk:Nat):=hr.symm;subst bv;obtain⟨d',cj,cE,_⟩:=G.gV hw
       have br:kk<nl:=by
        have h1:=(List.getElem?_eq_some_iff.1 cj).1;have h2:(g.moves k).length=nl:=by rw[<-b5.out,iU,List.length_map]
        omega
       obtain⟨d,cG,cq,cn,bb⟩:=qF (g:=g) (k:=k) (j:=kk) (by rw[b5.out];exact br);have bc:g.Aj k kk=aW d:=by unfold G.Aj;rw[List.getD_eq_getElem?_getD,bb];rfl
       have ai:=G.sw aq.out a1.out be.out Hc.out hw;rw[bc]at ai;obtain⟨es,ed,bw,_,_,cY,c0⟩:=pE d;have ba:=MV d;rw[bw]at ba ai;simp only at ba;obtain⟨ba,c1,c2,c4⟩:=ba;have cS:=hid (λw=>Im w d cG);rw[bw]at cS;have cA:=hid (λw=>ng cs cd es ed w (by unfold aV;omega) (by unfold aV;omega) (by unfold aV;omega) (by unfold aV;omega));obtain⟨cP,hA1⟩:=bd.out.addr (by omega);have U:=bd.out;rw[hA1]at U;have a8:=λwx=>aX (m:=m1) hA1 br wx;have hE:=U.cell (Below.refl _ _) br;rw[cn]at hE;have b1:=hid ai;have cX:((kk:Int)<0)=False:=by simp
       clear hr hw cj cE cq cn bb bc ai bw hA1 U bd;go_upto_region 15 with(fail);clear z B M O
       go_region_with (first
        |(go_at_call 95
          refine(cS.out _).mono ?_;rintro e wS ⟨rfl,ab⟩;have P:=ae ab P;have Q:=ae ab Q;have F:=aQ ab (by simp only;simp;omega) F;have I:=aQ ab (by simp only;simp;omega) I)
        |(go_at_call 94
          refine(cA.out _).mono ?_;rintro e wA ⟨rfl,an⟩;have P:=ae an P;have Q:=ae an Q;have F:=aQ an (by simp only;have:=ab.size;simp at this;omega) F;have I:=aQ an (by simp only;have:=ab.size;simp at this;omega) I))
       all_goals
        have ci:Below w7.heap.size w7 wA:=aa (aa (ah (Below.refl w7.heap.size w7)) ab) an;have ac:=hid (Np.Er cw.out ci (by rw[bg.out];exact b1.out:g.dX f (i+1)=.inr ⟨cs+es,cd+ed⟩) P Q F I);clear P Q F I ab an ci;go_wp2;go_roundw
        case rel=>first|exact⟨i+1,by omega,by go_num,ac.out⟩|((repeat apply Exists.intro);exact⟨⟨i+1,by omega,by go_num,ac.out⟩,rfl⟩)
        case measure=>simp[intOf];omega
   .have S:g.qY f n=(C.zero,1):=by
     have cl:g.fault (f i)=1:=by rw[a2.out];exact G.rE (by omega)
     have:=G.mQ (G.pG ag.out (by rw[cl];decide)) (n:=n) (by omega);rw[cl]at this;exact this
    have S:=hid S;go_wp2_with fail;(with_reducible refine(iR _ p g v fi ar.out (by omega)).mono ?_);rintro e w6 ⟨rfl,u⟩;have z:=ae u z;have B:=ae u B;have M:=aQ u (by simp only;omega) M;have O:=aQ u (by simp only;omega) O;go_wp2;have e2:=dF (x:=.int .i64 0) (y:=.int .i64 0) z B;refine bodyPost_ret (v:=.tuple #[.agg #[.int .i64 0,.int .i64 0],.iface 45 (.int .i64 1)]) (by simp[results,Tryz.results47,go_sem,e2]) rfl ?_;exact⟨by rw[S.out];rfl,((aa a3.out u).setCell (by simp only;omega) _).setCell (by simp only;omega) _⟩
  .obtain rfl:i=n:=by omega
   rcases Nat.eq_zero_or_pos i with ap|ap
   .subst ap
    go_wp2;have e2:=dF (x:=.int .i64 0) (y:=.int .i64 0) z B;refine bodyPost_ret (v:=.tuple #[.agg #[.int .i64 0,.int .i64 0],.iface 45 (.int .i64 7)]) (by simp[results,Tryz.results47,go_sem,e2]) rfl ?_;exact⟨rfl,(am.out.setCell (by simp only;omega) _).setCell (by simp only;omega) _⟩
   .have cH:((i:Int)==0)=false:=by simp;omega
    have S:=hid (G.uA al ap);clear al;go_wp2;have e2:=dF (x:=.int .i64 cs) (y:=.int .i64 cd) z B;refine bodyPost_ret (v:=.tuple #[.agg #[.int .i64 cs,.int .i64 cd],.nilIface]) (by simp[results,Tryz.results47,go_sem,e2]) rfl ?_;exact⟨by rw[S.out];rfl,(am.out.setCell (by simp only;omega) _).setCell (by simp only;omega) _⟩
def eO(c:Nat->C)(k:Nat):Value:=if k%2=0 then .int .i64 (c (k/2)).s else .int .i64 (c (k/2)).d
def eT(b:Nat->Bool)(k:Nat):Value:=.bool (b k)
theorem pK:Tryz.zeroCells127=rowOf (eO λ_=>C.zero) 512:=by kernel_rfl
theorem pJ:Tryz.zeroCells31=rowOf (eT λ_=>false) 256:=by kernel_rfl
theorem alloc_old(w:World)(o:Obj){x:Option Obj}(u:k<w.heap.size)(h:w.heap[k]? =x):(w.alloc o).heap[k]? =x:=(Below.heap_alloc _ _ _ u).trans h
theorem alloc_at(w:World)(o:Obj)(u:k=w.heap.size):(w.alloc o).heap[k]? =some o:=by rw[u];exact heap_alloc_new w o
theorem Kc(w:World)(a b c d:Obj):((((w.alloc a).alloc b).alloc c).alloc d).heap[w.heap.size]? =some a:=
 alloc_old _ _ (by simp;omega) (alloc_old _ _ (by simp;omega) (alloc_old _ _ (by simp) (alloc_at _ _ rfl)))
theorem Ke(w:World)(a b c d:Obj):((((w.alloc a).alloc b).alloc c).alloc d).heap[w.heap.size+1]? =some b:=
 alloc_old _ _ (by simp) (alloc_old _ _ (by simp) (alloc_at _ _ (by simp)))
theorem Kg(w:World)(a b c d:Obj):((((w.alloc a).alloc b).alloc c).alloc d).heap[w.heap.size+1+1]? =some c:=
 alloc_old _ _ (by simp) (alloc_at _ _ (by simp))
theorem Kh(w:World)(a b c d:Obj):((((w.alloc a).alloc b).alloc c).alloc d).heap[w.heap.size+1+1+1]? =some d:=alloc_at _ _ (by simp)
def yQ(g:G)(fr:Nat)(c:Nat->C)(is:Nat->Bool):Prop:=∀t,(is t=true->bP g.E fr t (c t)/\t<g.n)/\(is t=false->∀d,¬Walk g.E fr t d)
def QE(w:World)(g:G)(fr:Nat)(e:Ending)(w':World):Prop:=∃c is,e=.returned (.tuple #[.agg (rowOf (eO c) 512),.agg (rowOf (eT is) 256)])/\yQ g fr c is/\Below w.heap.size w w'
theorem aI.D9{B:Nat}{J:List Int}(h:aI w B v J)(O:Kept S w w')(L:∀s∈S,s<B):aI w' B v J:=by
 refine⟨h.1,?_⟩;rcases h.2 with Q|⟨g,F,I,rfl,M,u,z⟩
 .exact .inl Q
 .refine .inr ⟨g,F,I,rfl,M,?_,z⟩
  rw[O.block g (Array.getElem?_eq_some_iff.1 u).1 (λP=>by have:=L g P;omega)];exact u
structure lV (W wr:World) (bc bi:Nat) (v:Value) (c:Nat->C) (is:Nat->Bool) (todo:List Nat):Prop where
 hc:wr.heap[bc]? =some (.cells (rowOf (eO c) 512) 127 (0,0))
 hi:wr.heap[bi]? =some (.cells (rowOf (eT is) 256) 31 (0,0))
 own:aI wr W.heap.size v (todo.map λn:Nat=>(n:Int))
 kept:Kept [bc,bi] W wr
theorem lV.below(h:lV W wr bc bi v c is todo)(u:Below wr.heap.size wr w'):lV W w' bc bi v c is todo:=
 ⟨(u.block bc (Array.getElem?_eq_some_iff.1 h.hc).1).trans h.hc,(u.block bi (Array.getElem?_eq_some_iff.1 h.hi).1).trans h.hi,h.own.below (B':=0) u,h.kept.trans (Kept.of_below u)⟩
theorem lV.cell(h:lV W wr bc bi v c is todo){t:Nat}(B:t<256):wr.cell? ⟨bc,t*2,none⟩=some (.int .i64 (c t).s)/\wr.cell? ⟨bc,t*2+1,none⟩=some (.int .i64 (c t).d)/\wr.cell? ⟨bi,t,none⟩=some (.bool (is t)):=by
 refine⟨?_,?_,?_⟩
 .simp only[World.cell?,h.hc,bM _ _ _ (show t*2<512 by omega)]
  simp[eO]
 .simp only[World.cell?,h.hc,bM _ _ _ (show t*2+1<512 by omega)]
  have u:(t*2+1)%2=1:=by omega
  have z:(t*2+1)/2=t:=by omega
  simp[eO,u,z]
 .simp[World.cell?,h.hi,bM _ _ _ B,eT]
theorem lV.free(h:lV W wr bc bi v c is todo)(k:Nat):wr.frozen? ⟨bc,k,none⟩=false/\wr.frozen? ⟨bi,k,none⟩=false:=by
 simp[World.frozen?,h.hc,h.hi]
theorem G9(c:Nat->C)(t:Nat)(x:C):eO (upd c t x)=upd (upd (eO c) (t*2) (.int .i64 x.s)) (t*2+1) (.int .i64 x.d):=by
 funext k;unfold eO;by_cases u:k=t*2+1
 .subst u
  rw[upd_same,if_neg (by omega),show(t*2+1)/2=t by omega,upd_same]
 .rw[upd_ne _ _ u]
  by_cases z:k=t*2
  .subst z
   rw[upd_same,if_pos (by omega),show t*2/2=t by omega,upd_same]
  .rw[upd_ne _ _ z,upd_ne _ _ (by omega)]
theorem lV.set(h:lV W wr bc bi v c is todo)(u:bc≠bi){t:Nat}(x:C)(J:bc<W.heap.size)(I:bi<W.heap.size):lV W (((wr.setCell ⟨bc,t*2,none⟩ (.int .i64 x.s)).setCell ⟨bc,t*2+1,none⟩ (.int .i64 x.d)).setCell ⟨bi,t,none⟩ (.bool true)) bc bi v (upd c t x) (upd is t true) todo:=by
 have B:Kept [bc,bi] wr (((wr.setCell ⟨bc,t*2,none⟩ (.int .i64 x.s)).setCell ⟨bc,t*2+1,none⟩ (.int .i64 x.d)).setCell ⟨bi,t,none⟩ (.bool true)):=(((Kept.refl _ _).setCell (.inl (by simp))).setCell (.inl (by simp))).setCell (.inl (by simp));refine⟨?_,?_,?_,h.kept.trans B⟩
 .rw[Below.heap_setCell _ _ _ _ (by simpa using u),aH _ _ _ _ _ _ (aH _ _ _ _ _ _ h.hc),G9,
   nO (eO c) (upd (eO c) (t*2) (.int .i64 x.s)) 512 (t*2) _ (upd_same _ _ _) (λi z=>upd_ne _ _ z),
   nO (upd (eO c) (t*2) (.int .i64 x.s)) (upd (upd (eO c) (t*2) (.int .i64 x.s)) (t*2+1) (.int .i64 x.d)) 512 (t*2+1) _ (upd_same _ _ _) (λi z=>upd_ne _ _ z)]
 .have F:((wr.setCell ⟨bc,t*2,none⟩ (.int .i64 x.s)).setCell ⟨bc,t*2+1,none⟩ (.int .i64 x.d)).heap[bi]? =some (.cells (rowOf (eT is) 256) 31 (0,0)):=by
   rw[Below.heap_setCell _ _ _ _ (by simpa using Ne.symm u),Below.heap_setCell _ _ _ _ (by simpa using Ne.symm u)];exact h.hi
  rw[aH _ _ _ _ _ _ F,nO (eT is) (eT (upd is t true)) 256 t _ (by unfold eT;rw[upd_same]) (λi z=>by unfold eT;rw[upd_ne _ _ z])]
 .exact h.own.D9 B (by simp;omega)
theorem iV.weaken{E:Nat->Nat->C->Prop}{u n:Nat}{pend pend':Nat->C->Prop}(H:iV E u n c is todo i k pend)(F:∀b e,pend b e->pend' b e):iV E u n c is todo i k pend':=
 ⟨H.i0,H.i1,H.i2,λa b e z B=>(H.i3 a b e z B).imp_right (λh=>h.imp_left λ⟨x,y⟩=>⟨x,F _ _ y⟩),H.i4⟩
def TG(W:World)(g:G)(fr bc bi M0 gk:Nat)(v:Value)(i:Nat)(wr:World):Prop:=∃c is todo k0,i<=todo.length/\lV W wr bc bi v c is todo/\iV g.E fr g.n c is todo i k0 (λ_ _=>False)/\todo.length+iV.meas g.n c is<=M0/\2*iV.meas g.n c is+(todo.length-i)<=gk
theorem Rm{i L:Nat}(H:iV g.E fr g.n c is todo i L pend)(Q:g.n<=256)(z:is k=true):0<=(c k).s/\(c k).s<=512/\0<=(c k).d/\(c k).d<=512:=by
 have B:=H.i4 k z;have u:=G.Nt (H.i1 k z).1;have M:=iN is g.n;have F:=C.dZ u (b:=⟨0,dG is g.n⟩) ⟨by simp,by simp⟩ B;obtain⟨I,J⟩:=F;obtain⟨O,P⟩:=u;simp only at I J;omega
theorem FY{i L:Nat}(H:iV g.E fr g.n c is todo i L pend)(Q:g.n<=256)(z:is k=true):jA (c k):=by
 have B:=H.i4 k z;have u:=G.Nt (H.i1 k z).1;have M:=iN is g.n;have F:=C.dZ u (b:=⟨0,dG is g.n⟩) ⟨by simp,by simp⟩ B;obtain⟨I,J⟩:=F;obtain⟨O,P⟩:=u;simp only at I J;refine⟨?_,?_⟩<;>unfold aV<;>omega
theorem oP{o o':Obj}(u:a.block≠w.heap.size)(h:(w.alloc o).cell? a=some v):(w.alloc o').cell? a=some v:=by
 rw[World.cell?_alloc_old w _ _ u]at h;rw[World.cell?_alloc_old w _ _ u];exact h
theorem SF{W w1:World}(u:Below W.heap.size W w1):(∀b o,b<W.heap.size->w1.cell? ⟨b,o,none⟩=W.cell? ⟨b,o,none⟩)/\(∀b o,b<W.heap.size->w1.frozen? ⟨b,o,none⟩=W.frozen? ⟨b,o,none⟩):=
 ⟨λb o h=>u.cell (p:=⟨b,o,none⟩) h,λb o h=>u.frozen (p:=⟨b,o,none⟩) h⟩
theorem iV.weaken'{u:Nat}(H:iV g.E fr n c is todo i u (g.E u))(e:u=k):iV g.E fr n c is todo i k (xD g k 0):=by
 subst e;refine iV.weaken H ?_;rintro b e ⟨_,d,z,B,rfl,rfl⟩;exact⟨d,by simpa[G.moves]using⟨z,B⟩,rfl,rfl⟩
theorem row_one{f:Nat->Value}(h:∀k,(f k).oneCell'=true)(n:Nat):∀v∈(rowOf f n).toList,v.oneCell'=true:=by
 intro v u;simp[rowOf]at u;obtain⟨k,_,rfl⟩:=u;exact h k
theorem yx{f:Nat->Value}{T:TypeId}(h:w.heap[b]? =some (.cells (rowOf f n) T (0,0))):w.rangeAt b 0 (rowOf f n).toList:=by
 intro j v u;simp only[World.cell?,h,Nat.zero_add];simpa using u
theorem yJ{f:Nat->Value}{T:TypeId}(h:w.heap[b]? =some (.cells (rowOf f n) T (0,0))):w.there b 0 n:=by
 intro j u;simp only[World.cell?,World.frozen?,h,Nat.zero_add,bM _ _ _ u];simp
theorem iG{B b:Nat}{a:World}(u:B<=b):∀(z:List Value)(o:Nat)(w:World),Below B a w->Below B a (w.setCells b o z)
 |[],_,_,h=>h
 |v::r,o,w,h=>iG u r (o+1) _ (h.setCell u v)
def QC(W:World)(g:G)(fr bc bi M0 gk k i:Nat)(A1:Option Addr)(nl:Nat)(v:Value)(j:Nat)(wr:World):Prop:=∃c is todo,lV W wr bc bi v c is todo/\iV g.E fr g.n c is todo i k (xD g k j)/\i<=todo.length/\todo.length+iV.meas g.n c is<=M0/\2*iV.meas g.n c is+(todo.length-i)<gk/\Ints wr A1 nl (λx=>(fF g k).getD x 0)/\(0<nl->∀ad,A1=some ad->v.ownBlock≠some ad.block/\ad.block∉[bc,bi])/\is k=true
theorem lV.grown{W w7 F:World}{v M:Value}(h:lV W w7 bc bi v c is todo)(P:aI F W.heap.size M (todo.map (λn:Nat=>(n:Int))++[(b:Int)]))(z:(w7.alloc o).grownBy F v.ownBlock)(I:bc<W.heap.size)(J:bi<W.heap.size):lV W F bc bi M c is (todo++[b]):=by
 have Q:=h.kept.size;have L:∀k,k<W.heap.size->some k≠v.ownBlock:=λk B e=>by have:=(World.ownsRow.lt h.own k e.symm).1;omega
 have u:∀k,k<W.heap.size->F.heap[k]? =w7.heap[k]?:=λk B=>(z.block k (by simp;omega) (L k B)).trans (Below.heap_alloc _ _ _ (by omega));refine⟨(u bc I).trans h.hc,(u bi J).trans h.hi,by simpa using P,?_⟩;exact⟨z.os.trans h.kept.os,z.tape.trans h.kept.tape,z.output.trans h.kept.output,Nat.le_trans Q (Nat.le_trans (by simp) z.size),λk B O=>(u k B).trans (h.kept.block k B O)⟩
theorem QC.push{W w7 M:World}{fr bc bi M0 gk k i nl j b:Nat}{O:Option Addr}{v L:Value}{c J:Nat->C}{is z:Nat->Bool}(h:lV W w7 bc bi v J z todo)(ho:aI M W.heap.size L (todo.map (λn:Nat=>(n:Int))++[(b:Int)]))(S:(w7.alloc o).grownBy M v.ownBlock)(T:L.ownBlock=v.ownBlock\/L.ownBlock=some (w7.alloc o).heap.size)(U:bc<W.heap.size)(Z:bi<W.heap.size)(F:iV g.E fr g.n J z (todo++[b]) i k (xD g k (j+1)))(hm:iV.meas g.n J z<iV.meas g.n c is)(hi:i<=todo.length)(ac:todo.length+iV.meas g.n c is<=M0)(ag:2*iV.meas g.n c is+(todo.length-i)<gk)(hI:Ints w7 O nl (λx=>(fF g k).getD x 0))(R:0<nl->∀u,O=some u->v.ownBlock≠some u.block/\u.block∉[bc,bi])(hk:z k=true):QC W g fr bc bi M0 gk k i O nl L (j+1) M:=by
 refine⟨J,z,todo++[b],h.grown ho S U Z,F,by simp;omega,by simp;omega,by simp;omega,?_,?_,hk⟩
 .intro B
  obtain⟨u,e,I,hc⟩:=hI B;refine⟨u,e,Nat.lt_of_lt_of_le I (Nat.le_trans (by simp) S.size),λx hx=>?_⟩;have e1:M.cell? (u.add x)=(w7.alloc o).cell? (u.add x):=S.cell_far _ (by rw[add_block];simp;omega) (by rw[add_block];exact Ne.symm (R B u e).1);rw[e1,World.cell?_alloc_old w7 _ _ (by rw[add_block];omega)];exact hc x hx
 .intro B u e
  refine⟨?_,(R B u e).2⟩;rcases T with Q|Q
  .rw[Q];exact(R B u e).1
  .rw[Q]
   intro P;injection P with P
   obtain⟨ab,e',I,_⟩:=hI B;rw[e']at e;injection e with e
   subst e;simp at P;omega
theorem RF(w:World)(p:Nat)(g:G)(v:Int)(fr:Nat)(h:aB w p g v)(hf:fr<g.n):Calls Tryz.prog 62 #[.pointer (some ⟨p,0,none⟩),.int .i64 (fr:Nat)] w (QE w g fr):=by
 have hn:=G.bR h.1;go_enter Tryz.func62,Tryz.ntmps62;go_upto_region 3 with(fail);refine au ?_;intro W hW;have HW:Below w.heap.size w W:=by rw[hW];(repeat' (first|exact Below.refl _ _|assumption|apply aj|apply ah|apply af|(refine aa ?_ (by assumption))))
 have c9:W.heap.size=w.heap.size+4:=by rw[hW];simp
 have b0:W.heap[w.heap.size]? =some (.cells (rowOf (eO λ_=>C.zero) 512) 127 (0,0)):=by rw[hW,pK];exact Kc _ _ _ _ _
 have b1:W.heap[w.heap.size+1]? =some (.cells (rowOf (eT λ_=>false) 256) 31 (0,0)):=by rw[hW,pJ];exact Ke _ _ _ _ _
 have b2:W.heap[w.heap.size+1+1]? =some (.cells (rowOf (eO λ_=>C.zero) 512) 127 (0,0)):=by rw[hW,pK];exact Kg _ _ _ _ _
 have b3:W.heap[w.heap.size+1+1+1]? =some (.cells (rowOf (eT λ_=>false) 256) 31 (0,0)):=by rw[hW,pJ];exact Kh _ _ _ _ _
 have hp:=h.lt;have cF:=hid (h.below HW h.lt);clear hW h;obtain⟨I,M⟩:∃I,w.heap.size+1+1=I:=⟨_,rfl⟩;rw[M]at b2 b3⊢;obtain⟨F,db⟩:∃F,I+1=F:=⟨_,rfl⟩;rw[db]at b3⊢;have k3:W.cell? ⟨F,fr,none⟩=some (.bool false):=by simp[World.cell?,b3,bM _ _ _ (show fr<256 by omega),eT]
 have f3:W.frozen? ⟨F,fr,none⟩=false:=by simp[World.frozen?,b3]
 have hK:Kept [I,F] W (W.setCell ⟨F,fr,none⟩ (.bool true)):=(Kept.refl _ _).setCell (.inl (by simp));have hC:(W.setCell ⟨F,fr,none⟩ (.bool true)).heap[I]? =some (.cells (rowOf (eO λ_=>C.zero) 512) 127 (0,0)):=(Below.heap_setCell W ⟨F,fr,none⟩ (.bool true) I (by simp;omega)).trans b2
 have hI:(W.setCell ⟨F,fr,none⟩ (.bool true)).heap[F]? =some (.cells (rowOf (eT (upd (λ_=>false) fr true)) 256) 31 (0,0)):=by
  rw[aH _ _ _ _ _ _ b3,nO (eT λ_=>false) (eT (upd (λ_=>false) fr true)) 256 fr _ (by unfold eT;rw[upd_same]) (λi hi=>by unfold eT;rw[upd_ne _ _ hi])]
 have a5:(W.setCell ⟨F,fr,none⟩ (.bool true)).heap.size=w.heap.size+4:=by simp[World.setCell,c9]
 have hK:=hid hK;have hC:=hid hC;have hI:=hid hI;have B0:=hid b0;have B1:=hid b1;have q0:(fr:Int)<256:=by omega
 clear b0 b1 b2 b3;go_upto_region 5 with(fail);clear k3 f3;generalize (W.setCell ⟨F,fr,none⟩ (.bool true))=w1 at*;have a5:w1.heap.size=w.heap.size+4:=a5;refine au ?_;intro w2 cg;have am:Below w1.heap.size w1 w2:=by rw[cg];(repeat' (first|exact Below.refl _ _|assumption|apply aj|apply ah|apply af|(refine aa ?_ (by assumption))))
 have hO:aI w2 W.heap.size (.slice (some ⟨w.heap.size+4,0,none⟩) 1 1) (([fr]:List Nat).map λn:Nat=>(n:Int)):=by
  rw[cg];refine⟨rfl,.inr ⟨w.heap.size+4,1,#[.int .i64 (fr:Nat)],rfl,by omega,alloc_at _ _ a5.symm,by simp,by decide,rfl,rfl⟩⟩
 have L:lV W w2 I F (.slice (some ⟨w.heap.size+4,0,none⟩) 1 1) (λ_=>C.zero) (upd (λ_=>false) fr true) [fr]:=
  ⟨(am.block I (by omega)).trans hC.out,(am.block F (by omega)).trans hI.out,hO,hK.out.trans (Kept.of_below am)⟩
 have u:iV g.E fr g.n (λ_=>C.zero) (upd (λ_=>false) fr true) [fr] 0 0 (λ_ _=>False):=iV.start hf;obtain⟨M0,cA⟩:∃M0,M0=1+iV.meas g.n (λ_=>C.zero) (upd (λ_=>false) fr true):=⟨_,rfl⟩
 have dr:M0<=67371521:=by
  have:=iV.OV g.n (λ_=>C.zero) (upd (λ_=>false) fr true);have h2:g.n*((iV.BX+1)*(iV.BX+1)+1)<=256*((iV.BX+1)*(iV.BX+1)+1):=Nat.mul_le_mul_right _ hn;have h3:256*((iV.BX+1)*(iV.BX+1)+1)=67371520:=by decide
  omega
 obtain⟨N0,cB⟩:∃N0,N0=2*iV.meas g.n (λ_=>C.zero) (upd (λ_=>false) fr true)+1:=⟨_,rfl⟩;have hstart:TG W g fr I F M0 N0 (.slice (some ⟨w.heap.size+4,0,none⟩) 1 1) 0 w2:=⟨_,_,[fr],0,by simp,L,u,by rw[cA];simp,by rw[cB];simp⟩;clear cg am hO L u cA cB hC hI hK;go_wp2_with fail;go_loopg [8,9] N0 (λgk v iv wr=>∃i,iv=.int .i64 (i:Nat)/\TG W g fr I F M0 gk v i wr)
 case atStart=>exact⟨0,rfl,hstart⟩
 case round=>
  obtain⟨i,rfl,c,is,z,k0,hi,L,u,ay,dc⟩:=hrel;clear hstart;obtain⟨A,m,rfl,U⟩:=L.own.ints;obtain⟨nt,be⟩:∃nt,z.length=nt:=⟨_,rfl⟩;have a3:(z.map λn:Nat=>(n:Int)).length=nt:=by rw[List.length_map,be]
  rw[a3]at U L⊢;rw[be]at hi ay dc;have ac:=hid be;have dp:=hid a3;have L:=hid L;have u:=hid u;clear be a3;have ds:nt<=67371521:=by omega
  by_cases R:i<nt
  .obtain⟨ad,hA⟩:=U.addr (by omega)
   have bw:=U;rw[hA]at bw;have an:=λwx=>aX (m:=m) hA R wx;have hE:=bw.cell (Below.refl _ _) R;obtain⟨k,hk⟩:∃k,z[i]'(by rw[ac.out];exact R)=k:=⟨_,rfl⟩;have aE:(z.map λn:Nat=>(n:Int)).getD i 0=(k:Nat):=by simp[List.getD,show i<z.length by rw[ac.out];exact R,hk]
   rw[aE]at hE;have B:is k=true:=u.out.i2 k (by rw[<-hk];exact List.getElem_mem _);have b8:k<g.n:=(u.out.i1 k (u.out.i2 k (by rw[<-hk];exact List.getElem_mem _))).2;have cR:=hid (u.out.next (by rw[ac.out];exact R));have Hk:=hid hk;have cS:p∉[I,F]:=by simp;omega
   have hR:=cF.out.kept L.out.kept cS;clear hA bw U aE hk;go_wp2_with fail;(with_reducible refine(Gt _ p g v k hR b8).mono ?_);rintro e w3 ⟨A1,m1,rfl,bt,cD,cI⟩;have cy:=L.out.below cI
   have ax:0<(fF g k).length->∀ad,A1=some ad->(Value.slice A nt m).ownBlock≠some ad.block/\ad.block∉[I,F]:=λ_ ad e=>by
    have h1:=cD ad e;have h2:=L.out.kept.size;refine⟨λe2=>?_,by simp;omega⟩;have:=(World.ownsRow.lt L.out.own _ e2).2;omega
   clear cD;obtain⟨nl,bd⟩:∃nl,(fF g k).length=nl:=⟨_,rfl⟩;rw[bd]at bt ax⊢;have du:nl<=8:=by rw[<-bd];exact jq _ _
   have cm:=hid bd;have cO:QC W g fr I F M0 gk k (i+1) A1 nl (.slice A nt m) 0 w3:=⟨c,is,z,cy,iV.weaken' cR.out Hk.out,by rw[ac.out];omega,by rw[ac.out];omega,by rw[ac.out];omega,bt,ax,B⟩;clear L u ax bd cI cR hE an cy B bt;go_wp2_with fail;obtain⟨wo,rfl⟩:∃wo:World,wo=wr:=⟨_,rfl⟩
   go_loopw [8,12] (λv kv wr=>∃j:Nat,j<=nl/\kv=.int .i64 j/\QC W g fr I F M0 gk k (i+1) A1 nl v j wr) (λ_ kv _=>nl-(intOf kv).toNat)
   case atStart=>exact⟨0,by omega,rfl,cO⟩
   case round=>
    obtain⟨j,hj,rfl,c,is,z,L,u,bb,ay,aS,a8,cE,B⟩:=hrel;have bk:=hid cE;clear cE;have B:=hid B;clear cO;have L:=hid L;have u:=hid u;by_cases ca:j<nl
    .have cx:=hid a8
     obtain⟨cn,hA1⟩:=a8.addr (by omega);have aq:=a8;rw[hA1]at aq;have dt:=λwx=>aX (m:=m1) hA1 ca wx;have cw:=aq.cell (Below.refl _ _) ca;have cH:=aq.SG (by omega);obtain⟨d,cM,a2,aE,bj⟩:=qF (g:=g) (k:=k) (j:=j) (by rw[cm.out];exact ca);rw[aE]at cw;obtain⟨cb,cW⟩:=to_eq a2;obtain⟨O,ce⟩:∃O,g.to k d=O:=⟨_,rfl⟩;rw[ce]at cb cW;have cT:=hid (λw' h'=>MG w' p g v k d (O:Nat) h' b8 cM cb);have Hd:=hid (And.intro a2 (And.intro ce bj));have c8:=cF.out.kept L.out.kept cS;have HI:=hid aq;clear hA1 a8 aq aE cb a2 ce bj;go_wp2_with fail;(with_reducible refine(cT.out _ c8).mono ?_);rintro e w4 ⟨rfl,ba⟩;have bx:=hid (L.out.below ba);have c6:=hid (cx.out.below ba);have br:=(ba.cell (by rw[add_block];exact cH)).trans cw;obtain⟨k1,k2,_⟩:=bx.out.cell (t:=k) (by omega);go_upto_region 14 with(fail);have ch:=FY u.out hn B.out;obtain⟨⟨cs,cd⟩,b5⟩:∃x,c k=x:=⟨_,rfl⟩;have cJ:=Rm u.out hn B.out;rw[b5]at ch k1 k2 cJ;obtain⟨co,cp,cq,cr⟩:=cJ;simp only at k1 k2 co cp cq cr;have bm:=hid b5;obtain⟨es,ed,cV,d4,cU,dd,de⟩:=pE d
     have cP:=hid (λw=>Gw cs cd es ed w ch.1 ch.2 (by unfold aV;omega) (by unfold aV;omega));have bp:=hid cV;have d3:(k:Int)<256:=by omega
     have d7:IntKind.i64.wrap (1-ed)=es:=by rw[<-cU];exact IntWalk.i64_in _ (by omega)
     have d8:(0:Int)<=(j:Int):=by omega
     have d9:(j:Int)<(nl:Int):=by omega
     have ee:(0:Int)<=(k:Int):=by omega
     have dk:aV (cs+es):=by unfold aV;omega
     have dj:aV (cd+ed):=by unfold aV;omega
     clear cU dd de co cp cq cr;have d0:(0:Int)<=(d:Int):=by omega
     clear b5 cV;have eg:I<w4.heap.size:=World.block_lt_of_cell? _ _ k1;have ef:cn.block<w4.heap.size:=Nat.lt_of_lt_of_le cH ba.size;have n1:=World.new_ne w4 _ k1;have n2:=World.new_ne w4 _ br;have cj:=λo=>aC (o:=o) k1;have ck:=λo=>aC (o:=o) k2;have ap:=λo=>aC (o:=o) br;go_cut [14] (λs wx=>∃D,s=.pointer (some ⟨D,0,none⟩)/\w4.heap.size<=D/\wx.cell? ⟨D,0,none⟩=some (.int .i64 (cs+es))/\wx.cell? ⟨D,1,none⟩=some (.int .i64 (cd+ed))/\Below w4.heap.size w4 wx)
     case first=>
      go_region_held3 (λw'=>w'.cell? ⟨I,k*2,none⟩=some (.int .i64 cs)/\w'.cell? ⟨I,k*2+1,none⟩=some (.int .i64 cd)/\w'.cell? (cn.add j)=some (.int .i64 (d:Nat)))
       (first
        |(go_keep;done)
        |(go_split_ands
          exact⟨ae J (by assumption),ae J (by assumption),ae J (by assumption)⟩)
        |(go_split_ands
          exact⟨oP (by have:=J.size;simp;simp at this;omega) (by assumption),oP (by have:=J.size;simp;simp at this;omega) (by assumption),oP (by have:=J.size;rw[add_block];simp at this;omega) (by assumption)⟩)
        |(go_split_ands
          refine⟨?_,?_,?_⟩<;>(go_keep;done)))
       (first
        |(go_at_call 113
          refine(cP.out _).mono ?_;rintro e wP ⟨rfl,J⟩;obtain⟨cL,cN⟩:=SF J))
      .have a6:=hid J
       clear cL cN J cj ck ap;go_wp2;go_meet
       case rel=>exact⟨_,rfl,a6.out.size,by go_simp,by go_simp,af (aa (ah (Below.refl _ _)) a6.out)⟩
      .have a6:=hid J
       have q1:wP.cell? ⟨w4.heap.size,0,none⟩=some (.int .i64 0):=ae J (by go_simp);have q2:wP.cell? ⟨w4.heap.size,1,none⟩=some (.int .i64 0):=ae J (by go_simp);have Q:=hid (uw (x:=.int .i64 (cs+es)) (y:=.int .i64 (cd+ed)) q1 q2);clear cL cN J q1 q2 cj ck ap;go_wp2;go_meet
       case rel=>exact⟨_,rfl,Nat.le_refl _,Q.out.1,Q.out.2,((aa (ah (af (Below.refl _ _))) a6.out).setCell (by simp) _).setCell (by simp) _⟩
     case rest=>
      obtain⟨D,rfl,dy,a7,bq,M⟩:=hcut;have b4:=hid (bx.out.below M);have c7:=hid (c6.out.below M);have ct:=World.block_lt_of_cell? _ _ a7;clear k1 k2 cj ck ap br n1 n2 bx M cP;obtain⟨k3,k4,k5⟩:=b4.out.cell (t:=O) (by omega);have d6:(O:Int)<256:=by omega
      go_upto_region 15 with(fail);obtain⟨⟨xs,xd⟩,b6⟩:∃x,c O=x:=⟨_,rfl⟩;rw[b6]at k3 k4;simp only at k3 k4;have bo:=hid b6;obtain⟨ci,a1⟩:∃b,is O=b:=⟨_,rfl⟩;rw[a1]at k5;have ao:=hid a1;obtain⟨t,ht⟩:∃t,(!ci||decide (C.cmp ⟨cs+es,cd+ed⟩ ⟨xs,xd⟩<0))=t:=⟨_,rfl⟩;have Ht:=hid ht;clear b6 a1 ht;go_cut [72] (λs wx=>s=.bool t/\Below wc.heap.size wc wx)
      case first=>
       cases ci with
       |false=>
        have ht:t=true:=by rw[<-Ht.out];rfl
        subst ht;go_quiet (fail);go_wp2;go_meet
        case rel=>exact⟨rfl,by(repeat' (first|exact Below.refl _ _|assumption|apply aj|apply ah|apply af|(refine aa ?_ (by assumption))))⟩
       |true=>
        have an:=FY u.out hn ao.out;rw[bo.out]at an;have cC:=ED (cs+es) (cd+ed) xs xd;obtain⟨cv,b7⟩:∃cv,C.cmp ⟨cs+es,cd+ed⟩ ⟨xs,xd⟩=cv:=⟨_,rfl⟩;have ht:t=decide (cv<0):=by rw[<-Ht.out,b7];rfl
        rw[b7]at cC;have cC:=hid (λw=>cC w dk dj an.1 an.2);have c2:=hid ht;have HB:=Below.refl wc.heap.size wc;have ea:=cell_regrown k3;have eb:=cell_regrown k4;have ec:=cell_regrown k5;have dv:=cell_regrown a7;have dx:=cell_regrown bq;clear b7 an ht;refine wp_region_quiet_below (by kernel_rfl) (by kernel_rfl) ?_;repeat (first|go_big_quiet_step (with_reducible exact Calls.regrown_of (cC.out _))|quiet_step (with_reducible exact Calls.regrown_of (cC.out _)))
        refine wpQuiet_nil ?_;intro _ dg;obtain⟨⟨dq,osq⟩,cX⟩:=dg;have cl:=aa HB (below_regrown wc dq osq);have da:=below_regrown wc dq osq;subst cX;generalize grow (redrawn wc dq) osq=w8 at cl da⊢;go_wp2;go_meet
        case rel=>exact⟨by rw[c2.out],cl⟩
      case rest=>
       obtain⟨rfl,M⟩:=hcut;have ag:=hid (b4.out.below M);have bv:=hid (c7.out.below M);have d1:=(M.cell (by exact ct)).trans a7;have d2:=(M.cell (by exact ct)).trans bq;clear b4 M a7 bq k3 k4 k5;cases t with
       |false=>
        have b9:is O=true/\C.le (c O) (C.add (c k) (aW d)):=by
         have h:=Ht.out;cases ci with
         |false=>simp at h
         |true=>
          refine⟨ao.out,?_⟩;rw[bo.out,bm.out,bp.out];intro R;have:=C.fo.2 R;simp at h;unfold C.add at this;simp only at this;omega
        have hF:QC W g fr I F M0 gk k (i+1) A1 nl _ (j+1) _:=⟨c,is,z,ag.out,u.out.keep b9.1 b9.2 (yu Hd.out.2.2 Hd.out.2.1),bb,ay,aS,bv.out,bk.out,B.out⟩;have hF:=hid hF;clear b9 d1 d2;go_wp2;go_roundw
        case rel=>first|exact⟨j+1,by omega,by go_num,hF.out⟩|((repeat apply Exists.intro);exact⟨⟨j+1,by omega,by go_num,hF.out⟩,rfl⟩)
        case measure=>simp[intOf];omega
       |true=>
        have R:is O=true->C.lt (C.add (c k) (aW d)) (c O):=by
         intro h1;have h:=Ht.out;rw[ao.out]at h1;rw[h1]at h;simp at h;rw[bo.out,bm.out,bp.out];exact C.fo.1 (by unfold C.add;exact h)
        have ab:=iV.lower (λ_ _ _=>G.yP) u.out bb B.out (b:=O) (e:=aW d) ⟨b8,d,cM,Hd.out.1,Hd.out.2.1.symm,rfl⟩ cW hn (MS d) (MR d) R (yu Hd.out.2.2 Hd.out.2.1);have bg:C.add (c k) (aW d)=⟨cs+es,cd+ed⟩:=by rw[bm.out,bp.out];rfl
        rw[bg]at ab;have ab:=hid ab;have a9:=hid (ag.out.set (by omega) (t:=O) ⟨cs+es,cd+ed⟩ (by omega) (by omega));obtain⟨k3,k4,k5⟩:=ag.out.cell (t:=O) (by omega);have f1:=(ag.out.free (O*2)).1;have f2:=(ag.out.free (O*2+1)).1;have f3:=(ag.out.free O).2;clear R bg
        have al:Ints (((wc.setCell ⟨I,O*2,none⟩ (.int .i64 (cs+es))).setCell ⟨I,O*2+1,none⟩ (.int .i64 (cd+ed))).setCell ⟨F,O,none⟩ (.bool true)) A1 nl (λx=>(fF g k).getD x 0):=
         bv.out.kept (S:=[I,F]) ((((Kept.refl _ _).setCell (.inl (by simp))).setCell (.inl (by simp))).setCell (.inl (by simp))) (λad e=>(bk.out (by omega) ad e).2)
        have al:=hid al;have d5:z.length<=67371521:=by omega
        have cQ:(z.map λn:Nat=>(n:Int)).length<1099511627776:=by rw[List.length_map];omega
        have dT:=a9.out.kept.size;go_upto_region 18 with(fail);clear k3 k4 k5 f1 f2 f3 d1 d2 ag bv;generalize (((wc.setCell ⟨I,O*2,none⟩ (.int .i64 (cs+es))).setCell ⟨I,O*2+1,none⟩ (.int .i64 (cd+ed))).setCell ⟨F,O,none⟩ (.bool true))=w7 at*;go_wp2_with (at_builtin;(refine dR _ rfl _ _ rfl W.heap.size _ _ _ rfl (a9.out.own.alloc _) ⟨w7.heap.size,0,none⟩ rfl (dm _ _ _) cQ (by simp;omega) ?_);intro v' w9 a4 a0 cG)
        have hF:QC W g fr I F M0 gk k (i+1) A1 nl v' (j+1) w9:=QC.push a9.out a4 a0 cG (by omega) (by omega) ab.out.1 ab.out.2 bb ay aS al.out bk.out (by unfold upd;split;rfl;exact B.out);have hF:=hid hF;clear a4 a0 cG a9 al cQ;go_wp2;go_roundw
        case rel=>first|exact⟨j+1,by omega,by go_num,hF.out⟩|((repeat apply Exists.intro);exact⟨⟨j+1,by omega,by go_num,hF.out⟩,rfl⟩)
        case measure=>simp[intOf];omega
    .obtain rfl:j=nl:=by omega
     have hF:TG W g fr I F M0 (2*iV.meas g.n c is+(z.length-(i+1))) _ (i+1) _:=⟨c,is,z,k,bb,L.out,iV.weaken u.out (Jk cm.out),ay,Nat.le_refl _⟩;have hF:=hid hF;go_wp2;go_roundg (2*iV.meas g.n c is+(z.length-(i+1)))
     case measure=>exact aS
     case rel=>exact⟨i+1,by go_num,hF.out⟩
  .obtain rfl:i=nt:=by omega
   have bh:=hid (iV.fin u.out (by rw[ac.out];exact Nat.le_refl _));obtain⟨T,ar⟩:∃T,(rowOf (eO c) 512).toList=T:=⟨_,rfl⟩;obtain⟨Z,aw⟩:∃Z,(rowOf (eT is) 256).toList=Z:=⟨_,rfl⟩;have l1:T.length=512:=by rw[<-ar];simp[rowOf]
   have l2:Z.length=256:=by rw[<-aw];simp[rowOf]
   have o1:∀v∈T,v.oneCell'=true:=by rw[<-ar];exact row_one (λk=>by unfold eO;split<;>rfl) 512
   have o2:∀v∈Z,v.oneCell'=true:=by rw[<-aw];exact row_one (λk=>rfl) 256
   have u1:=Tryz.underlying127;have u2:=Tryz.underlying31;have s1:(Tryz.prog.info? 127).map (·.size)=some T.length:=by rw[l1];kernel_rfl
   have s2:(Tryz.prog.info? 31).map (·.size)=some Z.length:=by rw[l2];kernel_rfl
   have hz:w.heap.size≠I/\w.heap.size≠F/\w.heap.size+1≠I/\w.heap.size+1≠F:=by omega
   have r1:wr.rangeAt I 0 T:=by rw[<-ar];exact yx L.out.hc
   have r2:wr.rangeAt F 0 Z:=by rw[<-aw];exact yx L.out.hi
   have t1:wr.there w.heap.size 0 512:=yJ ((L.out.kept.block w.heap.size (by omega) (by simp;omega)).trans B0.out);have t2:wr.there (w.heap.size+1) 0 256:=yJ ((L.out.kept.block (w.heap.size+1) (by omega) (by simp;omega)).trans B1.out);have c0:=hid ar;have c1:=hid aw;clear ar aw;go_upto_region 19 with(fail);have z1:T.toArray.size=512:=l1;have z2:Z.toArray.size=256:=l2;refine wp_region_noPanic ?_;refine wp_region_held_drew (S:=λw'=>w'.rangeAt F 0 Z/\w'.rangeAt I 0 T/\w'.there w.heap.size 0 512/\w'.there (w.heap.size+1) 0 256) (by kernel_rfl) ⟨r2,r1,t1,t2⟩ (λc5=>?_);refine' wpAnyH_take (i:=0) (oi:={dst:=some 82,op:=.load 127 (.tmp 6),type:=127,pos:= "parts.go:393",after:=#[],guard:=none}) (v:=_) rfl (by kernel_rfl) (by kernel_rfl) (by kernel_rfl) (λ_ _ _ h=>h) (yieldsIf_load_mid (by rfl) 127 (.tmp 6) rfl I 0 rfl T _ (λw h=>h.2.1) u1 rfl s1) (by assumption) ?_;simp only[Act.put,List.setIfInBounds_toArray,List.set_cons_zero,List.set_cons_succ]
   refine' wpAnyH_take (i:=1) (oi:={dst:=some 83,op:=.load 31 (.tmp 7),type:=31,pos:= "parts.go:393",after:=#[{on:=2,ground:=.gcOnly .lateStores}],guard:=none}) (v:=_) rfl (by kernel_rfl) (by kernel_rfl) (by kernel_rfl) (λ_ _ _ h=>h) (yieldsIf_load_mid (by rfl) 31 (.tmp 7) rfl F 0 rfl Z _ (λw h=>h.1) u2 rfl s2) (by assumption) ?_;simp only[Act.put,List.setIfInBounds_toArray,List.set_cons_zero,List.set_cons_succ];refine wpAnyH_ready (rs:=[2]) (by kernel_rfl) (by simp) ?_;refine AllReadyH.cons rfl (λK hK=>?_) .nil;rw[if_pos (by rfl)];refine wp_store_mid _ _ _ rfl w.heap.size 0 T.toArray rfl rfl (by rw[z1];exact t1) (by rw[z1,<-l1];exact s1) (all_oneCell_toArray o1) ?_;simp only[Act.put,List.setIfInBounds_toArray,List.set_cons_zero,List.set_cons_succ,List.toList_toArray];refine hK.out _ _ (by go_keep_ranges) (λai=>?_);clear hK K;refine wpAnyH_ready (rs:=[3]) (by kernel_rfl) (by simp) ?_;refine AllReadyH.cons rfl (λK hK=>?_) .nil
   rw[if_pos (by rfl)];refine wp_store_mid _ _ _ rfl (w.heap.size+1) 0 Z.toArray rfl rfl (by rw[z2];exact ai.2.2.2) (by rw[z2,<-l2];exact s2) (all_oneCell_toArray o2) ?_;simp only[Act.put,List.setIfInBounds_toArray,List.set_cons_zero,List.set_cons_succ,List.toList_toArray];refine hK.out _ _ (by go_keep_ranges) (λcY=>?_);clear hK K;refine wpAnyH_done (by kernel_rfl) ?_ _;refine NoPanic.normal ?_;have g1:(wr.drew.setCells w.heap.size 0 T).rangeAt w.heap.size 0 T:=World.rangeAt_setCells_same _ _ _ _ (by rw[l1];exact t1);have g2:((wr.drew.setCells w.heap.size 0 T).setCells (w.heap.size+1) 0 Z).rangeAt (w.heap.size+1) 0 Z:=World.rangeAt_setCells_same _ _ _ _ (by rw[l2];exact ai.2.2.2);go_wp2;have g3:((wr.drew.setCells w.heap.size 0 T).setCells (w.heap.size+1) 0 Z).rangeAt w.heap.size 0 T:=World.rangeAt_setCells_apart g1 _ _ _ (.inl (by omega));have dl:=run_loadVar_mid (P:=Tryz.prog) _ w.heap.size 0 127 T _ g3 u1 rfl s1;have dn:=run_loadVar_mid (P:=Tryz.prog) _ (w.heap.size+1) 0 31 Z _ g2 u2 rfl s2
   have c4:Below w.heap.size w ((wr.drew.setCells w.heap.size 0 T).setCells (w.heap.size+1) 0 Z):=
    iG (Nat.le_succ _) _ _ _ (iG (Nat.le_refl _) _ _ _ (ah (Kept.below HW L.out.kept (by omega) (by simp;omega))))
   generalize (wr.drew.setCells w.heap.size 0 T).setCells (w.heap.size+1) 0 Z=wE at*;refine bodyPost_ret (v:=.tuple #[.agg T.toArray,.agg Z.toArray]) (by simp[results,Tryz.results62,Sem.run_bind,Sem.run_pure,Result.andThen_ok,asAddr,dl,dn]) rfl ?_;refine⟨c,is,?_,λt=>⟨λh=>⟨(bh.out t).1 h,(u.out.i1 t h).2⟩,(bh.out t).2⟩,c4⟩;rw[<-c0.out,<-c1.out]
