/- Lemmas of this claim: Heap, Heap2, Heap3, Heap4, Heap5, Heap6, Heap7, Heap8. -/
import Derived.Test.YtnifggkjieemeaaGreatDoorKNNs5
import Derived.Test.YtnifggkjieemeaaGreatDoorKNNs6
import Derived.StillTailTactics
import Derived.Deep.AppendLies
import Derived.Deep.RegionLaw
import Derived.Deep.RegionHeld3
set_option linter.unusedVariables false
set_option linter.unusedSimpArgs false
set_option maxHeartbeats 3200000
set_option maxRecDepth 100000
open Go.Proofs.Tryz
namespace Go.Proofs.YtnifggkjieemeaaGreatDoor
open Go.Lib (hid)
open Go.RowKit Go.Sort FR
variable {hp:Int->Option C}{m:Int->Option Value}{x:It}{S T:List Nat}{xs:List Value}{N b cap j k mb n rb:Nat}{c c0:Nat->It}{sl:Value}{a w w' w0:World}
instance (a b:It):Decidable (It.lt a b):=by unfold It.lt;infer_instance
def kZ(c:C):Prop:=aT c.s/\aT c.d
theorem PI(a b:It)(k:Int)(g:C.cmp a.c b.c=k):It.lt a b↔k<0\/(k=0/\a.id<b.id):=by
 subst g;unfold It.lt;rw[C.dP,C.yu]
theorem oI(a b:It)(t:Bool)(ht:decide (It.lt a b)=t)(h1:kZ a.c)(h2:kZ b.c)(w:World):Calls prog 228 #[.agg #[rI a.c.s,rI a.c.d,rI a.id],.agg #[rI b.c.s,rI b.c.d,rI b.id]] w (Rt w (.bool t)):=by
 obtain⟨⟨I,J⟩,P⟩:=a;obtain⟨⟨L,M⟩,Q⟩:=b;obtain⟨k,R⟩:∃k,C.cmp ⟨I,J⟩ ⟨L,M⟩=k:=⟨_,rfl⟩;have B:=PI ⟨⟨I,J⟩,P⟩ ⟨⟨L,M⟩,Q⟩ k R;obtain⟨Z,m⟩:=h1;obtain⟨S,T⟩:=h2;simp only at*;have O:=vZ I J L M;rw[R]at O;have O:=hid (λw=>O w Z m S T);have F:t=decide (k<0\/(k=0/\P<Q)):=by rw[<-ht];exact decide_eq_decide.2 B
 have Ht:=hid F;clear B ht F R Z m S T;go_enter func228,ntmps228;go_upto_region 1 with(fail);refine aB ?_;intro W z;have HW:Below w.heap.size w W:=by rw[z];exact be
 have k1:∀g,Below W.heap.size W g->g.cell? ⟨w.heap.size,0,none⟩=some (rI I:Value):=λg u=>(u.cell (p:=⟨w.heap.size,0,none⟩) (by rw[z];simp<;>omega)).trans (by rw[z];go_simp);have k2:∀g,Below W.heap.size W g->g.cell? ⟨w.heap.size,1,none⟩=some (rI J:Value):=λg u=>(u.cell (p:=⟨w.heap.size,1,none⟩) (by rw[z];simp<;>omega)).trans (by rw[z];go_simp);have k3:∀g,Below W.heap.size W g->g.cell? ⟨w.heap.size,2,none⟩=some (rI P:Value):=λg u=>(u.cell (p:=⟨w.heap.size,2,none⟩) (by rw[z];simp<;>omega)).trans (by rw[z];go_simp);have k4:∀g,Below W.heap.size W g->g.cell? ⟨w.heap.size+1,0,none⟩=some (rI L:Value):=λg u=>(u.cell (p:=⟨w.heap.size+1,0,none⟩) (by rw[z];simp<;>omega)).trans (by rw[z];go_simp);have k5:∀g,Below W.heap.size W g->g.cell? ⟨w.heap.size+1,1,none⟩=some (rI M:Value):=λg u=>(u.cell (p:=⟨w.heap.size+1,1,none⟩) (by rw[z];simp<;>omega)).trans (by rw[z];go_simp)
 have k6:∀g,Below W.heap.size W g->g.cell? ⟨w.heap.size+1,2,none⟩=some (rI Q:Value):=λg u=>(u.cell (p:=⟨w.heap.size+1,2,none⟩) (by rw[z];simp<;>omega)).trans (by rw[z];go_simp);clear z;have U:=Below.refl W.heap.size W;go_wp2_with fail;(with_reducible refine(O.out _).mono ?_);rintro e w1 ⟨rfl,U⟩;go_wp2
 all_goals
  go_ret;refine⟨KA ?_,ae HW U⟩;rw[Ht.out];first
  |exact(decide_eq_true om).symm
  |exact(decide_eq_false om).symm
  |exact decide_eq_decide.2 om
def aY(w:World)(b cap n:Nat)(c:Nat->It):Prop:=
 n<=cap/\cap<=maxLen/\∃cur,w.heap[b]? =some (.cells cur 282 (0,0))/\cur.size=cap*3/\∀k,k<n->cur[k*3]? =some (rI (c k).c.s)/\cur[k*3+1]? =some (rI (c k).c.d)/\cur[k*3+2]? =some (rI (c k).id)
theorem aY.lt(h:aY w b cap n c):b<w.heap.size:=by
 obtain⟨_,_,g,u,_⟩:=h;exact(Za.1 u).1
theorem aY.kept(h:aY w b cap n c)(J:Kept S w w')(I:b∉S):aY w' b cap n c:=by
 have L:=h.lt;obtain⟨u,z,g,B,F⟩:=h;exact⟨u,z,g,(J.block b L I).trans B,F⟩
theorem aY.below(h:aY w b cap n c)(g:Below w.heap.size w w'):aY w' b cap n c:=h.kept (S:=[]) (.of_below g) rS
theorem aY.cells(h:aY w b cap n c)(B:k<n):w.cell? ⟨b,k*3,none⟩=some (rI (c k).c.s)/\w.cell? ⟨b,k*3+1,none⟩=some (rI (c k).c.d)/\w.cell? ⟨b,k*3+2,none⟩=some (rI (c k).id):=by
 obtain⟨L,M,g,u,O,z⟩:=h;obtain⟨F,I,J⟩:=z k B;refine⟨?_,?_,?_⟩<;>simp only[World.cell?,u]<;>simpa using by assumption
theorem aY.frozen(h:aY w b cap n c)(k:Nat):w.frozen? ⟨b,k,none⟩=false:=by
 obtain⟨z,B,g,u,F,I⟩:=h;simp[World.frozen?,u]
theorem gz(w:World)(p k:Nat)(cs:Array Value)(T:TypeId)(x:Value)(h:w.heap[p]? =some (.cells cs T (0,0))):(w.setCell ⟨p,k,none⟩ x).heap[p]? =some (.cells (cs.setIfInBounds k x) T (0,0)):=by
 simp[World.setCell,Array.getElem?_modify,h]
theorem aY.set(h:aY w b cap n c){i:Nat}(P:i<n)(x:It):aY (((w.setCell ⟨b,i*3,none⟩ (rI x.c.s)).setCell ⟨b,i*3+1,none⟩ (rI x.c.d)).setCell ⟨b,i*3+2,none⟩ (rI x.id)) b cap n (upd c i x):=by
 obtain⟨F,I,B,J,L,M⟩:=h;refine⟨F,I,_,gz _ _ _ _ _ _ (gz _ _ _ _ _ _ (gz _ _ _ _ _ _ J)),by simp[L],?_⟩;intro k O;obtain⟨g,u,z⟩:=M k O;by_cases e:k=i
 .subst e
  simp only[Array.getElem?_setIfInBounds,Array.size_setIfInBounds,upd];simp;omega
 .simp only[Array.getElem?_setIfInBounds,upd,if_neg e]
  rw[if_neg om,if_neg om,if_neg om,if_neg om,if_neg om,if_neg om,if_neg om,if_neg om,if_neg om];exact⟨g,u,z⟩
def fu(w:World)(b rb cap n mb:Nat)(c:Nat->It):Prop:=w.heap[b]? =some (.cells #[.slice (some ⟨rb,0,none⟩) n cap,.map (some mb)] 279 (0,0))/\aY w rb cap n c
theorem Kept.wid{a b:World}(h:Kept S a b)(B:∀k∈S,k∈T):Kept T a b:=⟨h.os,h.tape,h.output,h.size,λk g z=>h.block k g λu=>z (B k u)⟩
theorem LV{a b:World}(h:Below a.heap.size a b):Kept S a b:=Kept.of_below h
theorem Kept.We{a b c:World}(h:Kept S a b)(k:Kept S b c):Kept S a c:=h.trans k
theorem iB(w:World)(b g u n I N:Nat)(c:Nat->It)(m:Int->Option Value)(i:Nat)(x:It)(h:fu w b g u n I c)(hm:MapAt (λz:Int=>Value.int .i64 z) w I m N)(hi:i<n)(h1:b≠g)(h2:b≠I)(h3:g≠I):Calls prog 192 #[vP b,rI i,.agg #[rI x.c.s,rI x.c.d,rI x.id]] w λe w'=>e=.returned (.tuple #[])/\fu w' b g u n I (upd c i x)/\(∃N,MapAt (λz:Int=>Value.int .i64 z) w' I (aN m x.id (some (rI i))) N)/\Kept [g,I] w w':=by
 obtain⟨⟨xs,xd⟩,O⟩:=x;simp only at*;obtain⟨hb,hR⟩:=h;have aE:=hR.lt;have aS:=hm.lt;have ax:b<w.heap.size:=(Za.1 hb).1;go_enter func192,ntmps192;go_upto_region 1 with(fail);refine aB ?_;intro W k;have HW:Below w.heap.size w W:=by rw[k];exact be
 have am:w.heap.size<W.heap.size:=by rw[k];simp
 have k1:W.cell? ⟨w.heap.size,0,none⟩=some (rI xs):=by rw[k];go_simp
 have k2:W.cell? ⟨w.heap.size,1,none⟩=some (rI xd):=by rw[k];go_simp
 have k3:W.cell? ⟨w.heap.size,2,none⟩=some (rI O):=by rw[k];go_simp
 clear k;have B:=hR.below HW;have ap:=hm.below HW;have Q:=(HW.block b ax).trans hb;have U:W.cell? ⟨b,0,none⟩=some (.slice (some ⟨g,0,none⟩) n u):=by simp[World.cell?,Q]
 have Z:W.cell? ⟨b,1,none⟩=some (.map (some I)):=by simp[World.cell?,Q]
 have ay:=B.1;have ad:=B.frozen (i*3);have ag:=B.frozen (i*3+1);have ai:=B.frozen (i*3+2);obtain⟨c1,c2,c3⟩:=B.cells hi;go_wp2;go_still_tail 7,kr;change wpList _ _ _ _ _ W.drew;have Hd:Below w.heap.size w W.drew:=aj HW;have F:aY W.drew g u n c:=B;have ab:MapAt (λz:Int=>Value.int .i64 z) W.drew I m N:=ap;have S:W.drew.heap[b]? =some (.cells #[.slice (some ⟨g,0,none⟩) n u,.map (some I)] 279 (0,0)):=Q;have k4:W.drew.cell? ⟨w.heap.size,2,none⟩=some (rI O):=k3;have ad:=F.frozen (i*3);have ag:=F.frozen (i*3+1);have ai:=F.frozen (i*3+2);obtain⟨c1,c2,c3⟩:=F.cells hi;have aa:w.heap.size<W.drew.heap.size:=by have:=am;simpa using this
 clear k1 k2 k3 U Z;generalize W.drew=w2 at*;go_wp2;have P:=F.set hi ⟨⟨xs,xd⟩,O⟩;have L:Kept [g] w2 (((w2.setCell ⟨g,i*3,none⟩ (rI xs)).setCell ⟨g,i*3+1,none⟩ (rI xd)).setCell ⟨g,i*3+2,none⟩ (rI O)):=(((Kept.refl _ _).setCell (.inl rS)).setCell (.inl rS)).setCell (.inl rS);simp only at P;generalize ((w2.setCell ⟨g,i*3,none⟩ (rI xs)).setCell ⟨g,i*3+1,none⟩ (rI xd)).setCell ⟨g,i*3+2,none⟩ (rI O)=J at*;have aw:w.heap.size<w2.heap.size:=aa;have M:=(L.block b om (by simpa using h1)).trans S;have ac:=ab.kept L (by simpa using Ne.symm h3);have U:J.cell? ⟨b,0,none⟩=some (.slice (some ⟨g,0,none⟩) n u):=by simp[World.cell?,M]
 have Z:J.cell? ⟨b,1,none⟩=some (.map (some I)):=by simp[World.cell?,M]
 have k5:J.cell? ⟨w.heap.size,2,none⟩=some (rI O):=by
  have:=L.block w.heap.size aw so;simpa[World.cell?,this]using k4
 clear F ab S k4 ad ag ai c1 c2 c3;go_still_tail 7,kr;change wpList _ _ _ _ _ J.drew;have aq:MapAt (λz:Int=>Value.int .i64 z) J.drew I m N:=ac;have T:J.drew.heap[b]? =some (.cells #[.slice (some ⟨g,0,none⟩) n u,.map (some I)] 279 (0,0)):=M;have al:aY J.drew g u n (upd c i ⟨⟨xs,xd⟩,O⟩):=P;have ao:Below J.heap.size J J.drew:=(Below.refl _ _).drew;clear ac M P U Z k5;generalize J.drew=w4 at*;refine bV rfl _ _ _ rfl (aF underlying3) underlying129 aq rfl O rfl (rI i) rfl ?_;intro w5 ar R;go_wp2;go_end0;refine⟨rfl,⟨?_,?_⟩,⟨_,ar⟩,?_⟩
 .exact(R.block b (Za.1 T).1 (by simpa using h2)).trans T
 .exact al.kept R (by simpa using h3)
 .exact(LV Hd).We ((L.wid rS).trans ((Kept.of_below ao).trans (R.wid rS)))
def PosMap(n:Nat)(c:Nat->It)(m:Int->Option Value):Prop:=∀z v,m z=some v↔∃k,k<n/\v=rI (k:Nat)/\(c k).id=z
def vW(w:World)(b mb:Nat)(sl:Value)(n:Nat)(c:Nat->It)(S:List Nat):Prop:=
 (sl=.slice none 0 0/\n=0/\S=[b,mb])\/∃rb cap,sl=.slice (some ⟨rb,0,none⟩) n cap/\aY w rb cap n c/\b≠rb/\rb≠mb/\S=[b,rb,mb]
def bU(w:World)(S:List Nat)(b n:Nat)(hp:Int->Option C):Prop:=
 ∃mb m N c sl,w.heap[b]? =some (.cells #[sl,.map (some mb)] 279 (0,0))/\MapAt (λz:Int=>Value.int .i64 z) w mb m N/\b≠mb/\vW w b mb sl n c S/\PosMap n c m/\Holds n c hp/\xq n c/\qg n c/\∀z d,hp z=some d->kZ d
def jd(n:Nat)(g:Nat->It)(m:Int->Option Value)(i:Int):Prop:=∀z v,z≠i->(m z=some v↔∃k,k<n/\v=rI (k:Nat)/\(g k).id=z)
structure il (w0 w:World) (b rb cap n mb:Nat) (x:It) (j:Nat) (c0:Nat->It) (c:Nat->It) (m:Int->Option Value) (N:Nat):Prop where
 lt:j<n
 here:fu w b rb cap n mb c
 map:MapAt (λz:Int=>Value.int .i64 z) w mb m N
 cc:∀k,k<n->kZ (upd c j x k).c
 dst:xq n (upd c j x)
 pos:jd n (upd c j x) m x.id
 same:∀y,(∃k,k<n/\upd c j x k=y)↔∃k,k<n/\c0 k=y
 kept:Kept [rb,mb] w0 w
theorem mh(c:Nat->It)(i:Nat):upd c i (c i)=c:=by
 funext k;unfold upd;split<;>simp_all
theorem jd.fill{g:Nat->It}(h:jd n g m x.id)(I:j<n)(F:g j=x)(J:xq n g):PosMap n g (aN m x.id (some (rI (j:Nat)))):=by
 intro z v;unfold aN;by_cases e:z=x.id
 .rw[if_pos e]
  constructor
  .intro u;injection u with u;exact⟨j,I,u.symm,by rw[F,e]⟩
  .rintro⟨k,L,rfl,B⟩
   rw[J k j L I (by rw[B,F,e])]
 .rw[if_neg e];exact h z v e
theorem jb(u:j≠k):upd (upd c j (c k)) k x=swp (upd c j x) j k:=by
 funext i;rw[eU];unfold upd;by_cases g:i=k
 .subst g;simp
 .by_cases z:i=j
  .subst z;simp[g,Ne.symm u]
  .simp[g,z]
theorem jd.move{g:Nat->It}{x y:It}(h:jd n g m x.id)(M:j<n)(S:k<n)(O:j≠k)(Q:g j=x)(R:g k=y)(Z:xq n g):jd n (swp g j k) (aN m y.id (some (rI (j:Nat)))) x.id:=by
 intro z v P;unfold aN;have L:=KE M S Z;have I:swp g j k j=y:=by rw[eU,if_neg O,if_pos rfl,R]
 have U:swp g j k k=x:=by rw[eU,if_pos rfl,Q]
 by_cases e:z=y.id
 .rw[if_pos e]
  constructor
  .intro J;injection J with J;exact⟨j,M,J.symm,by rw[I,e]⟩
  .rintro⟨F,B,rfl,u⟩
   rw[L F j B M (by rw[u,I,e])]
 .rw[if_neg e,h z v P]
  constructor
  .rintro⟨F,B,rfl,u⟩
   refine⟨F,B,rfl,?_⟩;rw[eU,if_neg (by rintro rfl;rw[R]at u;exact e u.symm),if_neg (by rintro rfl;rw[Q]at u;exact P u.symm)];exact u
  .rintro⟨F,B,rfl,u⟩
   have T:F≠k:=by rintro rfl;rw[U]at u;exact P u.symm
   have n2:F≠j:=by rintro rfl;rw[I]at u;exact e u.symm
   rw[eU,if_neg T,if_neg n2]at u;exact⟨F,B,rfl,u⟩
theorem il.move{N F:Nat}(h:il w0 w b rb cap n mb x j c0 c m N)(u:k<n)(g:j≠k)(L:fu w' b rb cap n mb (upd c j (c k)))(M:MapAt (λz:Int=>Value.int .i64 z) w' mb (aN m (c k).id (some (rI (j:Nat)))) F)(O:Kept [rb,mb] w w'):il w0 w' b rb cap n mb x k c0 (upd c j (c k)) (aN m (c k).id (some (rI (j:Nat)))) F:=by
 have B:=h.lt;have I:upd c j x k=c k:=by unfold upd;rw[if_neg (Ne.symm g)]
 have J:upd c j x j=x:=by unfold upd;rw[if_pos rfl]
 refine⟨u,L,M,?_,?_,?_,?_,h.kept.trans O⟩
 .intro i P
  rw[jb g,eU];split
  .exact h.cc j B
  .split
   .exact h.cc k u
   .exact h.cc i P
 .rw[jb g];exact KE B u h.dst
 .rw[jb g];exact h.pos.move B u g J I h.dst
 .intro y;rw[jb g,TT B u];exact h.same y
theorem il.start(J:j<n)(g:fu w0 b rb cap n mb c)(u:MapAt (λz:Int=>Value.int .i64 z) w0 mb m N)(B:∀k,k<n->kZ (c k).c)(F:xq n c)(I:jd n c m (c j).id):il w0 w0 b rb cap n mb (c j) j c c m N:=
 ⟨J,g,u,by rw[mh];exact B,by rw[mh];exact F,by rw[mh];exact I,by rw[mh];exactλ_=>Iff.rfl,Kept.refl _ _⟩
def um(w0 w:World)(b rb cap n mb:Nat)(c0:Nat->It):Prop:=∃c m N,fu w b rb cap n mb c/\MapAt (λz:Int=>Value.int .i64 z) w mb m N/\qg n c/\xq n c/\PosMap n c m/\(∀y,(∃k,k<n/\c k=y)↔∃k,k<n/\c0 k=y)/\Kept [rb,mb] w0 w
theorem il.fill{N g:Nat}(h:il w0 w b rb cap n mb x j c0 c m N)(I:qg n (upd c j x))(u:fu w' b rb cap n mb (upd c j x))(B:MapAt (λz:Int=>Value.int .i64 z) w' mb (aN m x.id (some (rI (j:Nat)))) g)(F:Kept [rb,mb] w w'):um w0 w' b rb cap n mb c0:=
 ⟨_,_,_,u,B,I,h.dst,h.pos.fill h.lt (by unfold upd;rw[if_pos rfl]) h.dst,h.same,h.kept.trans F⟩
theorem fu.below(h:fu w b rb cap n mb c)(g:Below w.heap.size w w'):fu w' b rb cap n mb c:=
 ⟨(g.block b (Za.1 h.1).1).trans h.1,h.2.below g⟩
theorem il.on(h:il w0 w b rb cap n mb x j c0 c m N)(g:Below w.heap.size w w'):il w0 w' b rb cap n mb x j c0 c m N:=
 ⟨h.lt,h.here.below g,h.map.below g,h.cc,h.dst,h.pos,h.same,h.kept.trans (Kept.of_below g)⟩
theorem Tm(j:Nat)(h:0<j):((j:Int)-1).tdiv 2=(par j:Nat):=by
 rw[Int.tdiv_eq_ediv_of_nonneg om];unfold par;omega
theorem Pb(w:World)(b P B n Z N:Nat)(c:Nat->It)(m:Int->Option Value)(i:Nat)(h:fu w b P B n Z c)(hm:MapAt (λz:Int=>Value.int .i64 z) w Z m N)(hi:i<n)(h1:b≠P)(h2:b≠Z)(h3:P≠Z)(hC:∀k,k<n->kZ (c k).c)(hU:kT n c i)(hD:xq n c)(hP:jd n c m (c i).id):Calls prog 227 #[vP b,rI i] w λe w'=>e=.returned (.tuple #[])/\um w w' b P B n Z c:=by
 have hS:=il.start hi h hm hC hD hP;obtain⟨hb,hR⟩:=h;have ar:=hR.1;have bj:b<w.heap.size:=(Za.1 hb).1;have bi:=hm.lt;have bh:=hR.lt;have U:w.cell? ⟨b,0,none⟩=some (.slice (some ⟨P,0,none⟩) n B):=by simp[World.cell?,hb]
 obtain⟨⟨⟨O,L⟩,M⟩,hx⟩:=rX (c i);obtain⟨c1,c2,c3⟩:=hR.cells hi;have T:kT n (upd c i (c i)) i:=by rw[mh];exact hU
 rw[hx]at c1 c2 c3 hS T;simp only at c1 c2 c3;have hS:=hid hS;have T:=hid T;clear hx hb hR hC hU hD hP hm;go_enter func227,ntmps227;go_upto_region 1 with(fail);refine aB ?_;intro W hW;have HW:Below w.heap.size w W:=by rw[hW];exact be
 have ao:W.heap[w.heap.size]? =some (.cells #[rI O,rI L,rI M] 282 (0,0)):=by rw[hW];exact heap_alloc_new _ _
 clear hW c1 c2 c3 U;go_loopw [1] (λiv wr=>∃(j:Nat)(I:Nat->It)(m':Int->Option Value)(N':Nat),iv=rI j/\il w wr b P B n Z ⟨⟨O,L⟩,M⟩ j c I m' N'/\kT n (upd I j ⟨⟨O,L⟩,M⟩) j/\wr.heap[w.heap.size]? =some (.cells #[rI O,rI L,rI M] 282 (0,0))) (λiv _=>(intOf iv).toNat)
 case atStart=>exact⟨i,c,m,N,rfl,hS.out.on HW,T.out,ao⟩
 case round=>
  obtain⟨j,I,m',N',rfl,hH,al,F⟩:=hrel;have ap:=hH.here.1;have U:wr.cell? ⟨b,0,none⟩=some (.slice (some ⟨P,0,none⟩) n B):=by simp[World.cell?,ap]
  have x1:wr.cell? ⟨w.heap.size,0,none⟩=some (rI O):=by simp[World.cell?,F]
  have x2:wr.cell? ⟨w.heap.size,1,none⟩=some (rI L):=by simp[World.cell?,F]
  have x3:wr.cell? ⟨w.heap.size,2,none⟩=some (rI M):=by simp[World.cell?,F]
  have R:=hH.lt;have HB:=Below.refl wr.heap.size wr;have u:=hid hH;have Q:=hid al;clear hH al ap;by_cases aS:j=0
  .subst aS
   go_upto_region 1 with(fail);refine qb HB trivial λw2 g am=>?_;have ax:=(g.cell (by exact(Za.1 F).1)).trans x1;have ay:=(g.cell (by exact(Za.1 F).1)).trans x2;have aE:=(g.cell (by exact(Za.1 F).1)).trans x3;go_wp2_with fail;refine(iB w2 b P B n Z N' I m' 0 ⟨⟨O,L⟩,M⟩ (u.out.here.below g) (u.out.map.below g) R h1 h2 h3).mono ?_;rintro e w3 ⟨rfl,hI,⟨N2,hM⟩,S⟩;have hF:=(u.out.on g).fill (QY Q.out (.inl rfl)) hI hM S;clear hI hM S;go_wp2;go_end0;exact⟨rfl,hF⟩
  .obtain⟨p,hp⟩:=rX (par j)
   have bg:p<j:=by rw[<-hp];exact jQ om
   have hq:((j:Int)-1).tdiv 2=(p:Nat):=by rw[<-hp];exact Tm j om
   have ab:p<n:=om;obtain⟨r1,r2,r3⟩:=u.out.here.2.cells ab;obtain⟨⟨⟨ys,yd⟩,yi⟩,hy⟩:=rX (I p);have ac:=u.out.cc p ab;have ad:=u.out.cc j R;have e1:upd I j ⟨⟨O,L⟩,M⟩ p=⟨⟨ys,yd⟩,yi⟩:=by unfold upd;rw[if_neg om,hy]
   have e2:upd I j ⟨⟨O,L⟩,M⟩ j=⟨⟨O,L⟩,M⟩:=by unfold upd;rw[if_pos rfl]
   rw[e1]at ac;rw[e2]at ad;rw[hy]at r1 r2 r3;simp only at r1 r2 r3;obtain⟨t,ht⟩:∃t,decide (It.lt ⟨⟨O,L⟩,M⟩ ⟨⟨ys,yd⟩,yi⟩)=t:=⟨_,rfl⟩;have cL:=hid (oI ⟨⟨O,L⟩,M⟩ ⟨⟨ys,yd⟩,yi⟩ t ht ad ac);have Ht:=hid ht;have He:=hid (rN e1 e2);have Hy:=hid hy;have Hp:=hid hp;have ba:decide ((0:Int)<(j:Int))=true:=so;have bb:decide (0<j)=true:=so;have bc:0<j:=om;have bd:(j:Int)<=9223372036854775807:=by have:=ar;have hm:=u.out.here.2.2.1;unfold maxLen at hm;omega
   clear ht e1 e2 hy ac ad hp;have a7:=ZE x1;have a8:=ZE x2;have a9:=ZE x3;have aw:=ZE U;have a4:=ZE r1;have a5:=ZE r2;have a6:=ZE r3;go_upto_region 1 with(fail);refine qb HB cL.out λw2 g am=>?_;have l1:w.heap.size<wr.heap.size:=(Za.1 F).1;have l2:b<wr.heap.size:=(Za.1 u.out.here.1).1;have l3:P<wr.heap.size:=u.out.here.2.lt;have ax:=(g.cell (by exact l1)).trans x1;have ay:=(g.cell (by exact l1)).trans x2;have aE:=(g.cell (by exact l1)).trans x3;have a0:=(g.cell (by exact l2)).trans U;have a1:=(g.cell (by exact l3)).trans r1;have a2:=(g.cell (by exact l3)).trans r2;have a3:=(g.cell (by exact l3)).trans r3;have J:=hid (u.out.on g);have aa:=(g.block _ l1).trans F;clear x1 x2 x3 U r1 r2 r3 a7 a8 a9 aw a4 a5 a6 am F;cases t with
   |false=>
    go_wp2_with fail;refine(iB w2 b P B n Z N' I m' j ⟨⟨O,L⟩,M⟩ J.out.here J.out.map R h1 h2 h3).mono ?_;rintro e w3 ⟨rfl,hI,⟨N2,hM⟩,S⟩
    have hF:=J.out.fill (QY Q.out (.inr (by rw[Hp.out,He.out.1,He.out.2];exact of_decide_eq_false Ht.out))) hI hM S;clear hI hM S;go_wp2;go_end0;exact⟨rfl,hF⟩
   |true=>
    go_wp2_with fail;refine(iB w2 b P B n Z N' I m' j ⟨⟨ys,yd⟩,yi⟩ J.out.here J.out.map R h1 h2 h3).mono ?_;rintro e w3 ⟨rfl,hI,⟨N2,hM⟩,S⟩
    have ag:fu w3 b P B n Z (upd I j (I p)):=by rw[Hy.out];exact hI
    have ai:MapAt (λz:Int=>Value.int .i64 z) w3 Z (aN m' (I p).id (some (rI (j:Nat)))) N2:=by rw[Hy.out];exact hM
    have hN:=hid (J.out.move ab om ag ai S)
    have hV:kT n (upd (upd I j (I p)) p ⟨⟨O,L⟩,M⟩) p:=by
     rw[jb om];have:=TV R om Q.out (by rw[Hp.out,He.out.1,He.out.2];exact of_decide_eq_true Ht.out);rw[Hp.out]at this;exact this
    have hV:=hid hV;have aq:=(S.block w.heap.size (by have:=g.size;omega) so).trans aa;clear hI hM S ag ai ax ay aE a0 a1 a2 a3 aa;go_wp2;go_roundw
    case rel=>exact⟨p,_,_,_,rfl,hN.out,hV.out,aq⟩
    case measure=>exact rM
theorem O7(w:World)(b rb Z n mb N:Nat)(c:Nat->It)(m:Int->Option Value)(i:Nat)(h:fu w b rb Z n mb c)(hm:MapAt (λz:Int=>Value.int .i64 z) w mb m N)(hi:i<n)(hn:n<=1099511627776)(h1:b≠rb)(h2:b≠mb)(h3:rb≠mb)(hC:∀k,k<n->kZ (c k).c)(hU:kR n c i)(hD:xq n c)(hP:jd n c m (c i).id):Calls prog 193 #[vP b,rI i] w λe w'=>e=.returned (.tuple #[])/\um w w' b rb Z n mb c:=by
 have hS:=il.start hi h hm hC hD hP;obtain⟨hb,hR⟩:=h;have bw:=hR.1;have b9:b<w.heap.size:=(Za.1 hb).1;have b8:=hm.lt;have b7:=hR.lt;have ao:w.cell? ⟨b,0,none⟩=some (.slice (some ⟨rb,0,none⟩) n Z):=by simp[World.cell?,hb]
 obtain⟨⟨⟨O,L⟩,M⟩,hx⟩:=rX (c i);obtain⟨c1,c2,c3⟩:=hR.cells hi;have bb:kR n (upd c i (c i)) i:=by rw[mh];exact hU
 rw[hx]at c1 c2 c3 hS bb;simp only at c1 c2 c3;have hS:=hid hS;have bb:=hid bb;clear hx hb hR hC hU hD hP hm;go_enter func193,ntmps193;go_upto_region 1 with(fail);refine aB ?_;intro W hW;have HW:Below w.heap.size w W:=by rw[hW];exact be
 have bh:W.heap[w.heap.size]? =some (.cells #[rI O,rI L,rI M] 282 (0,0)):=by rw[hW];exact heap_alloc_new _ _
 clear hW c1 c2 c3 ao;go_loopw [1,5] (λiv kv wr=>∃(j:Nat)(u:Nat->It)(m':Int->Option Value)(N':Nat),iv=rI j/\il w wr b rb Z n mb ⟨⟨O,L⟩,M⟩ j c u m' N'/\kR n (upd u j ⟨⟨O,L⟩,M⟩) j/\wr.heap[w.heap.size]? =some (.cells #[rI O,rI L,rI M] 282 (0,0))) (λiv _ _=>n-(intOf iv).toNat)
 case atStart=>exact⟨i,c,m,N,rfl,hS.out.on HW,bb.out,bh⟩
 case round=>
  obtain⟨j,u,m',N',rfl,hH,bg,ag⟩:=hrel;have bi:=hH.here.1;have ao:wr.cell? ⟨b,0,none⟩=some (.slice (some ⟨rb,0,none⟩) n Z):=by simp[World.cell?,bi]
  have x1:wr.cell? ⟨w.heap.size,0,none⟩=some (rI O):=by simp[World.cell?,ag]
  have x2:wr.cell? ⟨w.heap.size,1,none⟩=some (rI L):=by simp[World.cell?,ag]
  have x3:wr.cell? ⟨w.heap.size,2,none⟩=some (rI M):=by simp[World.cell?,ag]
  have am:=hH.lt;have HB:=Below.refl wr.heap.size wr;have I:=hid hH;have ai:=hid bg;clear hH bg bi;by_cases b5:2*j+1<n
  .obtain⟨J,b0⟩:=rX (2*j+1)
   have R:J<n:=om;have hz:2*(j:Int)+1=(J:Nat):=om;by_cases hs:J+1<n
   .obtain⟨k2,b4⟩:=rX (J+1)
    have ap:k2<n:=om;have b6:(J:Int)+1=(k2:Nat):=om;have bt:decide ((k2:Int)<(n:Int))=true:=so;have bz:(k2:Int)<(n:Int):=om;obtain⟨a1,a2,a3⟩:=I.out.here.2.cells R;obtain⟨b1,b2,b3⟩:=I.out.here.2.cells ap;obtain⟨⟨⟨us,ud⟩,ui⟩,hu⟩:=rX (u J);obtain⟨⟨⟨vs,vd⟩,vi⟩,hv⟩:=rX (u k2);rw[hu]at a1 a2 a3;rw[hv]at b1 b2 b3;simp only at a1 a2 a3 b1 b2 b3;have S:=I.out.cc J R;have T:=I.out.cc k2 ap;have e1:upd u j ⟨⟨O,L⟩,M⟩ J=⟨⟨us,ud⟩,ui⟩:=by unfold upd;rw[if_neg om,hu]
    have e2:upd u j ⟨⟨O,L⟩,M⟩ k2=⟨⟨vs,vd⟩,vi⟩:=by unfold upd;rw[if_neg om,hv]
    rw[e1]at S;rw[e2]at T;obtain⟨s,bd⟩:∃s,decide (It.lt ⟨⟨vs,vd⟩,vi⟩ ⟨⟨us,ud⟩,ui⟩)=s:=⟨_,rfl⟩;have cM:=hid (oI ⟨⟨vs,vd⟩,vi⟩ ⟨⟨us,ud⟩,ui⟩ s bd T S);have Hs:=hid bd;have hE:=hid (rN e1 e2);have bk:=ZE a1;have bl:=ZE a2;have bm:=ZE a3;have bo:=ZE b1;have bp:=ZE b2;have bq:=ZE b3;have a0:=ZE ao;clear bd e1 e2 hu hv S T;go_upto_region 3 with(fail);refine qb HB cM.out λw2 F ab=>?_;clear a1 a2 a3 b1 b2 b3 bk bl bm bo bp bq a0;cases s with
    |true=>
     have ax:par k2=j:=by unfold par;omega
     have ad:∀k,k<n->0<k->par k=j->It.le (upd u j ⟨⟨O,L⟩,M⟩ k2) (upd u j ⟨⟨O,L⟩,M⟩ k):=by
      intro k hk _ hp;rcases(show k=J\/k=k2 by unfold par at hp;omega)with rfl|rfl
      .rw[hE.out.1,hE.out.2];exact It.le_of_lt (of_decide_eq_true Hs.out)
      .exact It.le_refl _
     obtain⟨⟨⟨ys,yd⟩,yi⟩,hy⟩:=rX (u k2);have aE:=hid ax;have bj:j<k2:=by have:=ax;unfold par at this;omega
     have U:w.heap.size<wr.heap.size:=(Za.1 ag).1;have l2:b<wr.heap.size:=(Za.1 I.out.here.1).1;have aa:=hid (I.out.on F);obtain⟨r1,r2,r3⟩:=aa.out.here.2.cells ap;rw[hy]at r1 r2 r3;simp only at r1 r2 r3;have S:=I.out.cc k2 ap;have T:=I.out.cc j am;have e1:upd u j ⟨⟨O,L⟩,M⟩ k2=⟨⟨ys,yd⟩,yi⟩:=by unfold upd;rw[if_neg om,hy]
     have e2:upd u j ⟨⟨O,L⟩,M⟩ j=⟨⟨O,L⟩,M⟩:=by unfold upd;rw[if_pos rfl]
     rw[e1]at S;rw[e2]at T;have ac:=hid ad;obtain⟨t,ht⟩:∃t,decide (It.lt ⟨⟨ys,yd⟩,yi⟩ ⟨⟨O,L⟩,M⟩)=t:=⟨_,rfl⟩;have cL:=hid (oI ⟨⟨ys,yd⟩,yi⟩ ⟨⟨O,L⟩,M⟩ t ht S T);have Ht:=hid ht;have He:=hid (rN e1 e2);have Hy:=hid hy;have y1:=(F.cell (by exact U)).trans x1;have y2:=(F.cell (by exact U)).trans x2;have y3:=(F.cell (by exact U)).trans x3;have yb:=(F.cell (by exact l2)).trans ao;have P:=(F.block _ U).trans ag;have a7:=ZE y1;have a8:=ZE y2;have a9:=ZE y3;have ba:=ZE yb;have a4:=ZE r1;have a5:=ZE r2;have a6:=ZE r3;have HC:=Below.refl w2.heap.size w2;clear ht e1 e2 hy S T ad x1 x2 x3 ao ag ab;go_upto_region 5 with(fail);refine ZH kr kr ?_;repeat (first|go_big_quiet_step (with_reducible exact ZG (cL.out _))|quiet_step (with_reducible exact ZG (cL.out _)))
     refine wpQuiet_nil ?_;intro _ aS;obtain⟨⟨dq,osq⟩,ay⟩:=aS;have g:=ae HC (ZC w2 dq osq);have ab:=ZC w2 dq osq;subst ay;generalize grow (redrawn w2 dq) osq=w4 at g ab⊢;have B:=hid (aa.out.on g);have U:w.heap.size<w2.heap.size:=(Za.1 P).1;have l2:b<w2.heap.size:=(Za.1 aa.out.here.1).1;have l3:rb<w2.heap.size:=aa.out.here.2.lt;have z1:=(g.cell (by exact U)).trans y1;have z2:=(g.cell (by exact U)).trans y2;have z3:=(g.cell (by exact U)).trans y3;have zb:=(g.cell (by exact l2)).trans yb;have q1:=(g.cell (by exact l3)).trans r1;have q2:=(g.cell (by exact l3)).trans r2;have q3:=(g.cell (by exact l3)).trans r3;have Q:=(g.block _ U).trans P;clear y1 y2 y3 yb r1 r2 r3 a7 a8 a9 ba a4 a5 a6 P ab U l2 l3;cases t with
     |false=>
      have al:=hid (qP ai.out (λk' a1 a2 a3=>It.le_trans (by rw[He.out.1,He.out.2];exact of_decide_eq_false Ht.out) (ac.out k' a1 a2 a3)));go_wp2_with fail;refine(iB w4 b rb Z n mb N' u m' j ⟨⟨O,L⟩,M⟩ B.out.here B.out.map am h1 h2 h3).mono ?_;rintro e w3 ⟨rfl,hI,⟨N2,hM⟩,hK⟩;have hF:=B.out.fill al.out hI hM hK;clear hI hM hK;go_wp2;go_end0;exact⟨rfl,hF⟩
     |true=>
      go_wp2_with fail;refine(iB w4 b rb Z n mb N' u m' j ⟨⟨ys,yd⟩,yi⟩ B.out.here B.out.map am h1 h2 h3).mono ?_;rintro e w3 ⟨rfl,hI,⟨N2,hM⟩,hK⟩
      have aq:fu w3 b rb Z n mb (upd u j (u k2)):=by rw[Hy.out];exact hI
      have ar:MapAt (λz:Int=>Value.int .i64 z) w3 mb (aN m' (u k2).id (some (rI (j:Nat)))) N2:=by rw[Hy.out];exact hM
      have hN:=hid (B.out.move ap om aq ar hK)
      have hV:kR n (upd (upd u j (u k2)) k2 ⟨⟨O,L⟩,M⟩) k2:=by
       rw[jb om];exact mP ap om aE.out ai.out (by rw[He.out.1,He.out.2];exact of_decide_eq_true Ht.out) ac.out
      have hV:=hid hV;have aw:=(hK.block w.heap.size (Za.1 Q).1 so).trans Q;clear hI hM hK aq ar z1 z2 z3 zb q1 q2 q3 Q;go_wp2;go_roundw
      case rel=>exact⟨k2,_,_,_,rfl,hN.out,hV.out,aw⟩
      case measure=>exact rM
    |false=>
     have ax:par J=j:=by unfold par;omega
     have ad:∀k,k<n->0<k->par k=j->It.le (upd u j ⟨⟨O,L⟩,M⟩ J) (upd u j ⟨⟨O,L⟩,M⟩ k):=by
      intro k hk _ hp;rcases(show k=J\/k=k2 by unfold par at hp;omega)with rfl|rfl
      .exact It.le_refl _
      .rw[hE.out.1,hE.out.2];exact of_decide_eq_false Hs.out
     obtain⟨⟨⟨ys,yd⟩,yi⟩,hy⟩:=rX (u J);have aE:=hid ax;have bj:j<J:=by have:=ax;unfold par at this;omega
     have U:w.heap.size<wr.heap.size:=(Za.1 ag).1;have l2:b<wr.heap.size:=(Za.1 I.out.here.1).1;have aa:=hid (I.out.on F);obtain⟨r1,r2,r3⟩:=aa.out.here.2.cells R;rw[hy]at r1 r2 r3;simp only at r1 r2 r3;have S:=I.out.cc J R;have T:=I.out.cc j am;have e1:upd u j ⟨⟨O,L⟩,M⟩ J=⟨⟨ys,yd⟩,yi⟩:=by unfold upd;rw[if_neg om,hy]
     have e2:upd u j ⟨⟨O,L⟩,M⟩ j=⟨⟨O,L⟩,M⟩:=by unfold upd;rw[if_pos rfl]
     rw[e1]at S;rw[e2]at T;have ac:=hid ad;obtain⟨t,ht⟩:∃t,decide (It.lt ⟨⟨ys,yd⟩,yi⟩ ⟨⟨O,L⟩,M⟩)=t:=⟨_,rfl⟩;have cL:=hid (oI ⟨⟨ys,yd⟩,yi⟩ ⟨⟨O,L⟩,M⟩ t ht S T);have Ht:=hid ht;have He:=hid (rN e1 e2);have Hy:=hid hy;have y1:=(F.cell (by exact U)).trans x1;have y2:=(F.cell (by exact U)).trans x2;have y3:=(F.cell (by exact U)).trans x3;have yb:=(F.cell (by exact l2)).trans ao;have P:=(F.block _ U).trans ag;have a7:=ZE y1;have a8:=ZE y2;have a9:=ZE y3;have ba:=ZE yb;have a4:=ZE r1;have a5:=ZE r2;have a6:=ZE r3;have HC:=Below.refl w2.heap.size w2;clear ht e1 e2 hy S T ad x1 x2 x3 ao ag ab;go_upto_region 5 with(fail);refine ZH kr kr ?_;repeat (first|go_big_quiet_step (with_reducible exact ZG (cL.out _))|quiet_step (with_reducible exact ZG (cL.out _)))
     refine wpQuiet_nil ?_;intro _ aS;obtain⟨⟨dq,osq⟩,ay⟩:=aS;have g:=ae HC (ZC w2 dq osq);have ab:=ZC w2 dq osq;subst ay;generalize grow (redrawn w2 dq) osq=w4 at g ab⊢;have B:=hid (aa.out.on g);have U:w.heap.size<w2.heap.size:=(Za.1 P).1;have l2:b<w2.heap.size:=(Za.1 aa.out.here.1).1;have l3:rb<w2.heap.size:=aa.out.here.2.lt;have z1:=(g.cell (by exact U)).trans y1;have z2:=(g.cell (by exact U)).trans y2;have z3:=(g.cell (by exact U)).trans y3;have zb:=(g.cell (by exact l2)).trans yb;have q1:=(g.cell (by exact l3)).trans r1;have q2:=(g.cell (by exact l3)).trans r2;have q3:=(g.cell (by exact l3)).trans r3;have Q:=(g.block _ U).trans P;clear y1 y2 y3 yb r1 r2 r3 a7 a8 a9 ba a4 a5 a6 P ab U l2 l3;cases t with
     |false=>
      have al:=hid (qP ai.out (λk' a1 a2 a3=>It.le_trans (by rw[He.out.1,He.out.2];exact of_decide_eq_false Ht.out) (ac.out k' a1 a2 a3)));go_wp2_with fail;refine(iB w4 b rb Z n mb N' u m' j ⟨⟨O,L⟩,M⟩ B.out.here B.out.map am h1 h2 h3).mono ?_;rintro e w3 ⟨rfl,hI,⟨N2,hM⟩,hK⟩;have hF:=B.out.fill al.out hI hM hK;clear hI hM hK;go_wp2;go_end0;exact⟨rfl,hF⟩
     |true=>
      go_wp2_with fail;refine(iB w4 b rb Z n mb N' u m' j ⟨⟨ys,yd⟩,yi⟩ B.out.here B.out.map am h1 h2 h3).mono ?_;rintro e w3 ⟨rfl,hI,⟨N2,hM⟩,hK⟩
      have aq:fu w3 b rb Z n mb (upd u j (u J)):=by rw[Hy.out];exact hI
      have ar:MapAt (λz:Int=>Value.int .i64 z) w3 mb (aN m' (u J).id (some (rI (j:Nat)))) N2:=by rw[Hy.out];exact hM
      have hN:=hid (B.out.move R om aq ar hK)
      have hV:kR n (upd (upd u j (u J)) J ⟨⟨O,L⟩,M⟩) J:=by
       rw[jb om];exact mP R om aE.out ai.out (by rw[He.out.1,He.out.2];exact of_decide_eq_true Ht.out) ac.out
      have hV:=hid hV;have aw:=(hK.block w.heap.size (Za.1 Q).1 so).trans Q;clear hI hM hK aq ar z1 z2 z3 zb q1 q2 q3 Q;go_wp2;go_roundw
      case rel=>exact⟨J,_,_,_,rfl,hN.out,hV.out,aw⟩
      case measure=>exact rM
   .go_upto_region 3 with(fail)
    have bv:¬((J:Int)+1<(n:Int)):=om;have bt:decide ((J:Int)+1<(n:Int))=false:=decide_eq_false bv;have a0:=ZE ao;refine qb HB trivial λw2 F ab=>?_;have ax:par J=j:=by unfold par;omega
    have ad:∀k,k<n->0<k->par k=j->It.le (upd u j ⟨⟨O,L⟩,M⟩ J) (upd u j ⟨⟨O,L⟩,M⟩ k):=by
     intro k hk _ hp;obtain rfl:k=J:=by unfold par at hp;omega
     exact It.le_refl _
    clear a0;obtain⟨⟨⟨ys,yd⟩,yi⟩,hy⟩:=rX (u J);have aE:=hid ax;have bj:j<J:=by have:=ax;unfold par at this;omega
    have U:w.heap.size<wr.heap.size:=(Za.1 ag).1;have l2:b<wr.heap.size:=(Za.1 I.out.here.1).1;have aa:=hid (I.out.on F);obtain⟨r1,r2,r3⟩:=aa.out.here.2.cells R;rw[hy]at r1 r2 r3;simp only at r1 r2 r3;have S:=I.out.cc J R;have T:=I.out.cc j am;have e1:upd u j ⟨⟨O,L⟩,M⟩ J=⟨⟨ys,yd⟩,yi⟩:=by unfold upd;rw[if_neg om,hy]
    have e2:upd u j ⟨⟨O,L⟩,M⟩ j=⟨⟨O,L⟩,M⟩:=by unfold upd;rw[if_pos rfl]
    rw[e1]at S;rw[e2]at T;have ac:=hid ad;obtain⟨t,ht⟩:∃t,decide (It.lt ⟨⟨ys,yd⟩,yi⟩ ⟨⟨O,L⟩,M⟩)=t:=⟨_,rfl⟩;have cL:=hid (oI ⟨⟨ys,yd⟩,yi⟩ ⟨⟨O,L⟩,M⟩ t ht S T);have Ht:=hid ht;have He:=hid (rN e1 e2);have Hy:=hid hy;have y1:=(F.cell (by exact U)).trans x1;have y2:=(F.cell (by exact U)).trans x2;have y3:=(F.cell (by exact U)).trans x3;have yb:=(F.cell (by exact l2)).trans ao;have P:=(F.block _ U).trans ag;have a7:=ZE y1;have a8:=ZE y2;have a9:=ZE y3;have ba:=ZE yb;have a4:=ZE r1;have a5:=ZE r2;have a6:=ZE r3;have HC:=Below.refl w2.heap.size w2;clear ht e1 e2 hy S T ad x1 x2 x3 ao ag ab;go_upto_region 5 with(fail);refine ZH kr kr ?_;repeat (first|go_big_quiet_step (with_reducible exact ZG (cL.out _))|quiet_step (with_reducible exact ZG (cL.out _)))
    refine wpQuiet_nil ?_;intro _ aS;obtain⟨⟨dq,osq⟩,ay⟩:=aS;have g:=ae HC (ZC w2 dq osq);have ab:=ZC w2 dq osq;subst ay;generalize grow (redrawn w2 dq) osq=w4 at g ab⊢;have B:=hid (aa.out.on g);have U:w.heap.size<w2.heap.size:=(Za.1 P).1;have l2:b<w2.heap.size:=(Za.1 aa.out.here.1).1;have l3:rb<w2.heap.size:=aa.out.here.2.lt;have z1:=(g.cell (by exact U)).trans y1;have z2:=(g.cell (by exact U)).trans y2;have z3:=(g.cell (by exact U)).trans y3;have zb:=(g.cell (by exact l2)).trans yb;have q1:=(g.cell (by exact l3)).trans r1;have q2:=(g.cell (by exact l3)).trans r2;have q3:=(g.cell (by exact l3)).trans r3;have Q:=(g.block _ U).trans P;clear y1 y2 y3 yb r1 r2 r3 a7 a8 a9 ba a4 a5 a6 P ab U l2 l3;cases t with
    |false=>
     have al:=hid (qP ai.out (λk' a1 a2 a3=>It.le_trans (by rw[He.out.1,He.out.2];exact of_decide_eq_false Ht.out) (ac.out k' a1 a2 a3)));go_wp2_with fail;refine(iB w4 b rb Z n mb N' u m' j ⟨⟨O,L⟩,M⟩ B.out.here B.out.map am h1 h2 h3).mono ?_;rintro e w3 ⟨rfl,hI,⟨N2,hM⟩,hK⟩;have hF:=B.out.fill al.out hI hM hK;clear hI hM hK;go_wp2;go_end0;exact⟨rfl,hF⟩
    |true=>
     go_wp2_with fail;refine(iB w4 b rb Z n mb N' u m' j ⟨⟨ys,yd⟩,yi⟩ B.out.here B.out.map am h1 h2 h3).mono ?_;rintro e w3 ⟨rfl,hI,⟨N2,hM⟩,hK⟩
     have aq:fu w3 b rb Z n mb (upd u j (u J)):=by rw[Hy.out];exact hI
     have ar:MapAt (λz:Int=>Value.int .i64 z) w3 mb (aN m' (u J).id (some (rI (j:Nat)))) N2:=by rw[Hy.out];exact hM
     have hN:=hid (B.out.move R om aq ar hK)
     have hV:kR n (upd (upd u j (u J)) J ⟨⟨O,L⟩,M⟩) J:=by
      rw[jb om];exact mP R om aE.out ai.out (by rw[He.out.1,He.out.2];exact of_decide_eq_true Ht.out) ac.out
     have hV:=hid hV;have aw:=(hK.block w.heap.size (Za.1 Q).1 so).trans Q;clear hI hM hK aq ar z1 z2 z3 zb q1 q2 q3 Q;go_wp2;go_roundw
     case rel=>exact⟨J,_,_,_,rfl,hN.out,hV.out,aw⟩
     case measure=>exact rM
  .have bx:¬(2*(j:Int)+1<(n:Int)):=om
   have bc:∀k,k<n->0<k->par k=j->It.le (upd u j ⟨⟨O,L⟩,M⟩ j) (upd u j ⟨⟨O,L⟩,M⟩ k):=by intro k hk _ hp;unfold par at hp;omega
   have al:=hid (qP ai.out bc);clear bc;go_wp2_with fail;refine(iB wr b rb Z n mb N' u m' j ⟨⟨O,L⟩,M⟩ I.out.here I.out.map am h1 h2 h3).mono ?_;rintro e w3 ⟨rfl,hI,⟨N2,hM⟩,hK⟩;have hF:=I.out.fill al.out hI hM hK;clear hI hM hK;go_wp2;go_end0;exact⟨rfl,hF⟩
def Gm(xs:List Value)(n:Nat)(c:Nat->It):Prop:=∀k,k<n->xs[k*3]? =some (rI (c k).c.s)/\xs[k*3+1]? =some (rI (c k).c.d)/\xs[k*3+2]? =some (rI (c k).id)
theorem aY.owns(h:aY w b cap n c):∃z,w.ownsRow 0 282 3 (.slice (some ⟨b,0,none⟩) n cap) n z/\Gm z n c:=by
 obtain⟨J,L,g,M,u,O⟩:=h;refine⟨g.toList.take (n*3),⟨?_,.inr ⟨b,cap,g,rfl,Zw _,M,J,L,u,rfl⟩⟩,?_⟩
 .rw[List.length_take,Array.length_toList,u];omega
 .intro k P
  obtain⟨B,F,I⟩:=O k P;rw[ZA,if_pos om,ZA,if_pos om,ZA,if_pos om];simpa using⟨B,F,I⟩
theorem aY.Tf{B b cap n:Nat}(h:w.ownsRow B 282 3 (.slice (some ⟨b,0,none⟩) n cap) n xs)(U:Gm xs n c):aY w b cap n c:=by
 rcases h.2 with⟨u,_⟩|⟨Z,P,J,u,_,Q,O,L,M,g⟩
 .simp at u
 .simp only[Value.slice.injEq,Option.some.injEq,Addr.mk.injEq,and_true,true_and]at u
  obtain⟨rfl,rfl⟩:=u;refine⟨O,L,J,Q,M,?_⟩;intro k R;obtain⟨z,F,I⟩:=U k R;rw[<-g,ZA,if_pos om]at z;rw[<-g,ZA,if_pos om]at F;rw[<-g,ZA,if_pos om]at I;rw[ZB]at z F I;exact⟨z,F,I⟩
theorem Gm.push(h:Gm xs n c)(B:xs.length=n*3)(x:It):Gm (xs++[rI x.c.s,rI x.c.d,rI x.id]) (n+1) (upd c n x):=by
 intro k F;by_cases e:k=n
 .subst e
  unfold upd;rw[if_pos rfl,Zz om,Zz om,Zz om,B];simp
 .obtain⟨g,u,z⟩:=h k om
  unfold upd;rw[if_neg e,List.getElem?_append_left om,List.getElem?_append_left om,List.getElem?_append_left om];exact⟨g,u,z⟩
theorem vW.owns(h:vW w b mb sl n c S):∃g,w.ownsRow 0 282 3 sl n g/\Gm g n c:=by
 rcases h with⟨rfl,rfl,_⟩|⟨F,u,rfl,z,_⟩
 .exact⟨[],⟨rfl,.inl ⟨rfl,rfl⟩⟩,λk B=>absurd B om⟩
 .exact z.owns
def hset(hp:Int->Option C)(i:Int)(c:Option C):Int->Option C:=λz=>if z=i then c else hp z
theorem Holds.push{n:Nat}{c:Nat->It}{z:Int->Option C}(h:Holds n c z)(x:It)(I:z x.id=none):Holds (n+1) (upd c n x) (hset z x.id (some x.c)):=by
 intro B d;unfold hset;constructor
 .intro g
  by_cases e:B=x.id
  .rw[if_pos e]at g
   injection g with g
   exact⟨n,om,by rw[upd_same,e,<-g]⟩
  .rw[if_neg e]at g
   obtain⟨k,F,u⟩:=(h B d).1 g;exact⟨k,om,by rw[upd_ne _ _ om,u]⟩
 .rintro⟨k,F,g⟩
  by_cases e:k=n
  .subst e
   rw[upd_same]at g;subst g;rw[if_pos rfl]
  .rw[upd_ne _ _ e]at g
   have:=(h B d).2 ⟨k,om,g⟩;rw[if_neg,this];rintro rfl;rw[I]at this;cases this
theorem xq.push(h:xq n c)(B:Holds n c hp)(x:It)(I:hp x.id=none):xq (n+1) (upd c n x):=by
 have g:∀k,k<n->(c k).id≠x.id:=by
  intro k F e;have:=(B (c k).id (c k).c).2 ⟨k,F,rfl⟩;rw[e,I]at this;cases this
 intro i j J L e;by_cases z:i=n
 .by_cases u:j=n
  .omega
  .subst z
   rw[upd_same,upd_ne _ _ u]at e;exact absurd e.symm (g j om)
 .by_cases u:j=n
  .subst u
   rw[upd_same,upd_ne _ _ z]at e;exact absurd e (g i om)
  .rw[upd_ne _ _ z,upd_ne _ _ u]at e
   exact h i j om om e
theorem PosMap.push{n:Nat}{c:Nat->It}{m:Int->Option Value}(h:PosMap n c m)(x:It):jd (n+1) (upd c n x) m x.id:=by
 intro z v F;rw[h z v];constructor
 .rintro⟨k,B,u,g⟩
  exact⟨k,om,u,by rw[upd_ne _ _ om];exact g⟩
 .rintro⟨k,B,u,g⟩
  by_cases e:k=n
  .subst e;rw[upd_same]at g;exact absurd g.symm F
  .rw[upd_ne _ _ e]at g;exact⟨k,om,u,g⟩
theorem PosMap.turn{n:Nat}{c:Nat->It}{m:Int->Option Value}(h:PosMap n c m){k:Nat}(J:k<n)(x:It)(I:x.id=(c k).id):jd n (upd c k x) m x.id:=by
 intro z v F;rw[h z v];constructor
 .rintro⟨j,u,B,g⟩
  exact⟨j,u,B,by rw[upd_ne _ _ (by rintro rfl;rw[I]at F;exact F g.symm)];exact g⟩
 .rintro⟨j,u,B,g⟩
  by_cases e:j=k
  .subst e;rw[upd_same]at g;exact absurd g.symm F
  .rw[upd_ne _ _ e]at g;exact⟨j,u,B,g⟩
theorem xq.turn(h:xq n c)(F:k<n)(x:It)(B:x.id=(c k).id):xq n (upd c k x):=by
 have e:∀j,(upd c k x j).id=(c j).id:=by
  intro j;by_cases e:j=k
  .subst e;rw[upd_same,B]
  .rw[upd_ne _ _ e]
 intro i j u z g;rw[e,e]at g;exact h i j u z g
theorem Holds.turn{n:Nat}{c:Nat->It}{J:Int->Option C}(h:Holds n c J)(L:xq n c){k:Nat}(I:k<n)(x:It)(B:x.id=(c k).id):Holds n (upd c k x) (hset J x.id (some x.c)):=by
 intro F d;unfold hset;constructor
 .intro g
  by_cases e:F=x.id
  .rw[if_pos e]at g
   injection g with g
   exact⟨k,I,by rw[upd_same,e,<-g]⟩
  .rw[if_neg e]at g
   obtain⟨j,z,u⟩:=(h F d).1 g;refine⟨j,z,?_⟩;rw[upd_ne,u];rintro rfl;rw[u]at B;exact e B.symm
 .rintro⟨j,z,g⟩
  by_cases e:j=k
  .subst e
   rw[upd_same]at g;subst g;rw[if_pos rfl]
  .rw[upd_ne _ _ e]at g
   rw[if_neg,(h F d).2 ⟨j,z,g⟩];rintro rfl;apply e;exact L j k z I (by rw[g,<-B])
theorem Holds.same{n:Nat}{c g:Nat->It}{u:Int->Option C}(h:Holds n c u)(B:∀y,(∃k,k<n/\g k=y)↔∃k,k<n/\c k=y):Holds n g u:=by
 intro z d;rw[h z d];exact(B ⟨d,z⟩).symm
theorem Holds.pop{n:Nat}{c:Nat->It}{I:Int->Option C}(h:Holds (n+1) c I)(M:xq (n+1) c):Holds n (upd c 0 (c n)) (hset I (c 0).id none):=by
 intro z d;unfold hset;constructor
 .intro g
  by_cases e:z=(c 0).id
  .rw[if_pos e]at g;cases g
  .rw[if_neg e]at g
   obtain⟨k,O,u⟩:=(h z d).1 g;have Q:k≠0:=by rintro rfl;rw[u]at e;exact e rfl
   by_cases L:k=n
   .subst L;exact⟨0,om,by rw[upd_same,u]⟩
   .exact⟨k,om,by rw[upd_ne _ _ Q,u]⟩
 .rintro⟨k,O,g⟩
  have F:∀j,j<n+1->j≠0->c j=⟨d,z⟩->(if z=(c 0).id then none else I z)=some d:=by
   intro j J P B;rw[if_neg,(h z d).2 ⟨j,J,B⟩];intro e;exact P (M j 0 J om (by rw[B,<-e]))
  by_cases e:k=0
  .subst e
   rw[upd_same]at g;exact F n om om g
  .rw[upd_ne _ _ e]at g
   exact F k om e g
theorem xq.pop(z:xq (n+1) c):xq n (upd c 0 (c n)):=by
 intro i j B F e;by_cases g:i=0<;>by_cases u:j=0
 .omega
 .subst g
  rw[upd_same,upd_ne _ _ u]at e;have:=z n j om om e;omega
 .subst u
  rw[upd_same,upd_ne _ _ g]at e;have:=z i n om om e;omega
 .rw[upd_ne _ _ g,upd_ne _ _ u]at e
  exact z i j om om e
theorem PosMap.pop{n:Nat}{c:Nat->It}{m:Int->Option Value}(h:PosMap (n+1) c m)(M:xq (n+1) c)(x:Value):jd n (upd c 0 (c n)) (aN (aN m (c 0).id none) (c n).id (some x)) (c n).id:=by
 intro z v I;unfold aN;rw[if_neg I];by_cases B:z=(c 0).id
 .rw[if_pos B]
  constructor
  .intro L;cases L
  .rintro⟨k,J,F,g⟩
   by_cases u:k=0
   .subst u;rw[upd_same]at g;exact absurd g.symm I
   .rw[upd_ne _ _ u]at g
    exact absurd (M k 0 om om (by rw[g,B])) u
 .rw[if_neg B,h z v]
  constructor
  .rintro⟨k,J,F,g⟩
   have O:k≠0:=by rintro rfl;exact B g.symm
   have P:k≠n:=by rintro rfl;exact I g.symm
   exact⟨k,om,F,by rw[upd_ne _ _ O];exact g⟩
  .rintro⟨k,J,F,g⟩
   by_cases u:k=0
   .subst u;rw[upd_same]at g;exact absurd g.symm I
   .rw[upd_ne _ _ u]at g
    exact⟨k,om,F,g⟩
theorem PosMap.VP{c:Nat->It}{m:Int->Option Value}(h:PosMap 1 c m):PosMap 0 c (aN m (c 0).id none):=by
 intro z v;unfold aN;constructor
 .intro g
  by_cases e:z=(c 0).id
  .rw[if_pos e]at g;cases g
  .rw[if_neg e,h z v]at g
   obtain⟨k,B,_,u⟩:=g;obtain rfl:k=0:=om;exact absurd u.symm e
 .rintro⟨k,B,_⟩;omega
theorem Holds.VP{c:Nat->It}{u:Int->Option C}(h:Holds 1 c u):Holds 0 c (hset u (c 0).id none):=by
 intro z d;unfold hset;constructor
 .intro g
  by_cases e:z=(c 0).id
  .rw[if_pos e]at g;cases g
  .rw[if_neg e]at g
   obtain⟨k,F,B⟩:=(h z d).1 g;obtain rfl:k=0:=om;rw[B]at e;exact absurd rfl e
 .rintro⟨k,F,_⟩;omega
theorem Holds.cc{n:Nat}{c:Nat->It}{g:Int->Option C}(h:Holds n c g)(u:∀z d,g z=some d->kZ d):∀k,k<n->kZ (c k).c:=
 λk B=>u _ _ ((h (c k).id (c k).c).2 ⟨k,B,rfl⟩)
theorem bU.lt(h:bU w S b n hp):∀k∈S,k<w.heap.size:=by
 obtain⟨O,m,N,c,Q,I,B,_,F,_⟩:=h;have J:=(Za.1 I).1;have L:=B.lt;rcases F with⟨_,_,rfl⟩|⟨P,u,_,z,_,_,rfl⟩
 .intro k g;simp at g;rcases g with rfl|rfl<;>assumption
 .have M:=z.lt
  intro k g;simp at g;rcases g with rfl|rfl|rfl<;>assumption
theorem bU.self(h:bU w S b n hp):b∈S:=by
 obtain⟨I,m,N,c,L,F,B,_,u,_⟩:=h;rcases u with⟨_,_,rfl⟩|⟨J,g,_,z,_,_,rfl⟩<;>simp
theorem vW.kept(h:vW w b mb sl n c S)(M:Kept T w w')(L:∀k∈S,k∉T):vW w' b mb sl n c S:=by
 rcases h with h|⟨z,g,B,F,I,J,u⟩
 .exact .inl h
 .exact .inr ⟨z,g,B,F.kept M (L z (by rw[u];simp)),I,J,u⟩
theorem bU.kept(h:bU w S b n hp)(u:Kept T w w')(g:∀k∈S,k∉T):bU w' S b n hp:=by
 have P:=h.lt;have F:=h.self;obtain⟨z,m,N,c,R,J,L,M,B,O⟩:=h;have Q:z∈S:=by rcases B with⟨_,_,rfl⟩|⟨Z,I,_,U,_,_,rfl⟩<;>simp
 exact⟨z,m,N,c,R,(u.block b (P b F) (g b F)).trans J,L.kept u (g z Q),M,B.kept u g,O⟩
theorem bU.below(h:bU w S b n hp)(g:Below w.heap.size w w'):bU w' S b n hp:=h.kept (T:=[]) (.of_below g) rS
def Nz(w:World)(e:Ending)(w':World):Prop:=∃b S,e=.returned (vP b)/\bU w' S b 0 (λ_=>none)/\(∀k∈S,w.heap.size<=k)/\Below w.heap.size w w'
theorem JN(w:World):Calls prog 145 #[] w (Nz w):=by
 have B:=@run_makeMap prog;go_enter func145,ntmps145;go_wp2;go_ret;have u:MapAt (λz:Int=>Value.int .i64 z) (w.alloc (.map #[] 0)) w.heap.size (λ_=>none) 0:=MapAt.made w;refine⟨w.heap.size+1,[w.heap.size+1,w.heap.size],rfl,⟨w.heap.size,λ_=>none,0,λ_=>⟨⟨0,0⟩,0⟩,.slice none 0 0,?_,u.below ?_,om,.inl ⟨rfl,rfl,rfl⟩,?_,?_,?_,?_,?_⟩,?_,?_⟩
 .have:=heap_alloc_new (w.alloc (.map #[] 0)) (.cells #[.slice none 0 0,.map (some w.heap.size)] 279 (0,0))
  simpa using this
 .exact ah br
 .intro z v;constructor
  .intro h;cases h
  .rintro⟨k,g,_⟩;omega
 .intro z v;constructor
  .intro h;cases h
  .rintro⟨k,g,_⟩;omega
 .intro i j F;omega
 .intro j I;omega
 .intro z d h;cases h
 .intro k g;simp at g;omega
 ·exact be
theorem sO(w:World):(zeroValue 3).run prog w=.ok (rI 0) w:=kr
theorem Ik(h:MapAt (λz:Int=>Value.int .i64 z) w b m N){z:Int}{v:Value}(g:m z=some v):(Instr.lookup 129 (.map (some b)) (rI z) true).run prog w=.ok (.tuple #[v,.bool true]) w:=by
 have:=(h.look (aF underlying3) underlying129 (sO w) z).1;rw[g]at this;exact this
theorem EW(h:MapAt (λz:Int=>Value.int .i64 z) w b m N){z:Int}(g:m z=none):(Instr.lookup 129 (.map (some b)) (rI z) true).run prog w=.ok (.tuple #[rI 0,.bool false]) w:=by
 have:=(h.look (aF underlying3) underlying129 (sO w) z).1;rw[g]at this;exact this
theorem PosMap.none{n:Nat}{c:Nat->It}{m:Int->Option Value}{g:Int->Option C}(h:PosMap n c m)(B:Holds n c g){z:Int}(J:g z=none):m z=none:=by
 cases I:m z with
 |none=>rfl
 |some v=>
  obtain⟨k,F,_,u⟩:=(h z v).1 I;have:=(B (c k).id (c k).c).2 ⟨k,F,rfl⟩;rw[u,J]at this;cases this
theorem PosMap.some{n:Nat}{c:Nat->It}{m:Int->Option Value}{B:Int->Option C}(h:PosMap n c m)(F:Holds n c B){z:Int}{d:C}(I:B z=some d):∃k,k<n/\c k=⟨d,z⟩/\m z=Option.some (rI (k:Nat)):=by
 obtain⟨k,u,g⟩:=(F z d).1 I;exact⟨k,u,g,(h z _).2 ⟨k,u,rfl,by rw[g]⟩⟩
def rO(w:World)(S:List Nat)(b n:Nat)(hp:Int->Option C)(v:Value)(e:Ending)(w':World):Prop:=
 e=.returned v/\∃S',bU w' S' b n hp/\(∀k∈S',k∈S\/w.heap.size<=k)/\Kept S w w'
theorem um.O8(h:um w0 w b rb cap n mb c0)(O:b≠rb)(P:b≠mb)(Q:rb≠mb)(U:Holds n c0 hp)(R:∀z d,hp z=some d->kZ d):bU w [b,rb,mb] b n hp/\Kept [rb,mb] w0 w:=by
 obtain⟨c,m,N,⟨g,u⟩,B,F,I,J,L,M⟩:=h;exact⟨⟨mb,m,N,c,_,g,B,P,.inr ⟨rb,cap,rfl,u,O,Q,rfl⟩,J,Holds.same U L,I,F,R⟩,M⟩
theorem JO{i:Int}{c:C}(h:∀z d,hp z=some d->kZ d)(u:kZ c):∀z d,hset hp i (some c) z=some d->kZ d:=by
 intro z d g;unfold hset at g;by_cases e:z=i
 .rw[if_pos e]at g;injection g with g;rwa[<-g]
 .rw[if_neg e]at g;exact h z d g
theorem LU:(prog.info? 282).map (λi=>(i.zero,i.size,i.bytes))=some (some (.agg #[rI 0,rI 0,rI 0]),3,24):=kr
theorem vW.own(h:vW w b mb sl n c S)(F:b≠mb):sl.ownBlock≠some b/\sl.ownBlock≠some mb/\(∀k,sl.ownBlock=some k->k∈S)/\b∈S/\mb∈S:=by
 rcases h with⟨rfl,rfl,rfl⟩|⟨I,g,rfl,B,u,z,rfl⟩
 .refine⟨by simp[Value.ownBlock],by simp[Value.ownBlock],by simp[Value.ownBlock],rS,rS⟩
 .refine⟨?_,?_,?_,rS,rS⟩<;>simp[Value.ownBlock]
  .exactλe=>u e.symm
  .exact z
theorem MapAt.grown{row:Option Nat}(h:MapAt (λz:Int=>Value.int .i64 z) w b m N)(J:w.grownBy w' row)(I:row≠some b):MapAt (λz:Int=>Value.int .i64 z) w' b m N:=by
 have L:=h.lt;obtain⟨u,g,B,F⟩:=h;exact⟨u,g,(J.block b L (Ne.symm I)).trans B,F⟩
theorem Kept.grown{row:Option Nat}(h:Kept S a w)(g:w.grownBy w' row)(F:∀k,row=some k->k∈S\/a.heap.size<=k):Kept S a w':=by
 refine⟨g.os.trans h.os,g.tape.trans h.tape,g.output.trans h.output,Zg h.size g.size,λk z B=>?_⟩;refine(g.block k (Zf z h.size) ?_).trans (h.block k z B);intro e;rcases F k e.symm with u|u
 .exact B u
 .omega
theorem Qq{w Q w1:World}{b mb n N g cap:Nat}(hb:w.heap[b]? =some (.cells #[sl,.map (some mb)] 279 (0,0)))(hM:MapAt (λz:Int=>Value.int .i64 z) w mb m N)(P:b≠mb)(U:sl.ownBlock≠some b)(Z:sl.ownBlock≠some mb)(R:∀k,sl.ownBlock=some k->k∈S)(ab:b∈S)(I:Below w.heap.size w Q)(F:w1.ownsRow 0 282 3 (.slice (some ⟨g,0,none⟩) (n+1) cap) (n+1) xs)(hl:Gm xs (n+1) (upd c n x))(O:Q.grownBy w1 sl.ownBlock)(u:sl.ownBlock=some g\/w.heap.size<=g):fu (w1.setCell ⟨b,0,none⟩ (.slice (some ⟨g,0,none⟩) (n+1) cap)) b g cap (n+1) mb (upd c n x)/\MapAt (λz:Int=>Value.int .i64 z) (w1.setCell ⟨b,0,none⟩ (.slice (some ⟨g,0,none⟩) (n+1) cap)) mb m N/\b≠g/\g≠mb/\Kept S w (w1.setCell ⟨b,0,none⟩ (.slice (some ⟨g,0,none⟩) (n+1) cap))/\(g∈S\/w.heap.size<=g):=by
 have lb:=(Za.1 hb).1;have lm:=hM.lt
 have T:b≠g:=by
  rintro rfl;rcases u with h|h
  .exact U h
  .omega
 have gm:g≠mb:=by
  rintro rfl;rcases u with h|h
  .exact Z h
  .omega
 have M:w1.heap[b]? =some (.cells #[sl,.map (some mb)] 279 (0,0)):=(O.block b (Zf lb I.size) (Ne.symm U)).trans ((I.block b lb).trans hb);have L:=(hM.below I).grown O Z;have hI:=aY.Tf F hl;have J:Kept S w w1:=(Kept.of_below I).grown O (λk e=>.inl (R k e));have B:Kept [b] w1 (w1.setCell ⟨b,0,none⟩ (.slice (some ⟨g,0,none⟩) (n+1) cap)):=(Kept.refl _ _).setCell (.inl rS);refine⟨⟨?_,hI.kept B (by simpa using Ne.symm T)⟩,L.kept B (by simpa using Ne.symm P),T,gm,J.setCell (.inl ab),?_⟩
 .rw[gz _ _ _ _ _ _ M];rfl
 .rcases u with h|h
  .exact .inl (R g h)
  .exact .inr h
theorem yP{w M O:World}{b n g cap mb:Nat}(m:um M O b g cap n mb c)(Q:b≠g)(R:b≠mb)(U:g≠mb)(T:Holds n c hp)(Z:∀z d,hp z=some d->kZ d)(u:Kept S w M)(P:b∈S)(B:mb∈S)(F:g∈S\/w.heap.size<=g)(t:Value):rO w S b n hp t (.returned t) O:=by
 obtain⟨q1,J⟩:=m.O8 Q R U T Z;refine⟨rfl,_,q1,?_,?_⟩
 .intro k I
  simp at I;rcases I with rfl|rfl|rfl
  .exact .inl P
  .exact F
  .exact .inl B
 .refine⟨J.os.trans u.os,J.tape.trans u.tape,J.output.trans u.output,Zg u.size J.size,λk I L=>?_⟩
  refine(J.block k (Zf I u.size) ?_).trans (u.block k I L);simp;constructor
  .rintro rfl
   rcases F with F|F
   .exact L F
   .omega
  .rintro rfl;exact L B
theorem Cz(w:World)(S:List Nat)(b n:Nat)(hp:Int->Option C)(I F B:Int)(h:bU w S b n hp)(hz:hp I=none)(hc:kZ ⟨F,B⟩)(hn:n<=1000000):Calls prog 191 #[vP b,rI I,.agg #[rI F,rI B]] w (rO w S b (n+1) (hset hp I (some ⟨F,B⟩)) (.bool true)):=by
 have al:=h.lt;obtain⟨mb,m,N,c,sl,R,hM,M,hR,hP,hH,hD,hL,hC⟩:=h;have lb:=(Za.1 R).1;have lm:=hM.lt;have Z:=hid (Holds.push hH ⟨⟨F,B⟩,I⟩ hz);have ac:=hid (xq.push hD hH ⟨⟨F,B⟩,I⟩ hz);have ai:=hid (hP.push ⟨⟨F,B⟩,I⟩);have ad:=hid (LK (x:=⟨⟨F,B⟩,I⟩) hL);have U:=hid (JO (i:=I) hC hc);obtain⟨ag,am,aS,ab,aa⟩:=hR.own M;have aS:=hid aS;obtain⟨xs,J,z⟩:=hR.owns;have hl:=EW (hM.below (w':=w.alloc (.cells #[rI F,rI B] 53)) (ah br)) (hP.none hH hz);have z:=hid (z.push J.1 ⟨⟨F,B⟩,I⟩);obtain⟨i0,ap,ar,aw,ax⟩:=info_parts LU;have k0:w.cell? ⟨b,0,none⟩=some sl:=by simp[World.cell?,R]
 have k1:w.cell? ⟨b,1,none⟩=some (.map (some mb)):=by simp[World.cell?,R]
 have kf:w.frozen? ⟨b,0,none⟩=false:=by simp[World.frozen?,R]
 have Hb:=hid R;have HM:=hid hM;clear R hM hR hP hH hD hL hC hz;go_enter func191,ntmps191;go_upto_region 1 with(fail);refine aB ?_;intro W P;have HW:Below w.heap.size w W:=by rw[P];exact be
 have a0:w.heap.size<W.heap.size:=by rw[P];simp
 have d1:W.cell? ⟨w.heap.size,0,none⟩=some (rI F):=by rw[P];go_simp
 have d2:W.cell? ⟨w.heap.size,1,none⟩=some (rI B):=by rw[P];go_simp
 rw[<-P]at hl;have Q:W.ownsRow 0 282 3 sl n xs:=by rw[P];exact J.alloc _
 clear P
 have an:sl.ownBlock≠some w.heap.size:=by
  intro e;have:=aS.out _ e;have:=al _ this;omega
 have w0:=(HW.cell (p:=⟨b,0,none⟩) lb).trans k0;have w1:=(HW.cell (p:=⟨b,1,none⟩) lb).trans k1;have wf:=(HW.frozen (p:=⟨b,0,none⟩) lb).trans kf
 have aE:∀o,(W.alloc o).drew.frozen? ⟨b,0,none⟩=false:=λo=>by
  have:=((ah (Below.refl _ W) (o:=o)).drew.frozen (p:=⟨b,0,none⟩) so).trans wf;exact this
 have ay:∀o,(W.alloc o).drew.cell? ⟨b,0,none⟩=some sl:=λo=>by
  have:=((ah (Below.refl _ W) (o:=o)).drew.cell (p:=⟨b,0,none⟩) so).trans w0;exact this
 clear k0 k1 kf J;go_upto_region 3 with(fail)
 go_region_law
  ((refine step_append_lies _ (by rfl) _ _ _ (by rfl) 0 282 i0 _ 3 24 underlying277 ap ar aw ax rfl om sl n xs (by rfl) ((Q.alloc _).drew)
     ⟨W.heap.size,0,none⟩ 1 1 [rI F,rI B,rI I] (by rfl) (by rfl) (World.news_of_block (cs:=#[rI F,rI B,rI I]) (t:=282) (fr:=(0,0)) (heap_alloc_new W _)) (by simp[Value.oneCell'])
     om (by unfold maxLen;omega) om rS (W.heap.size+1) rS ?_;intro g O w1 L u T aq;have u0:=(u.cell_far ⟨b,0,none⟩ so (Ne.symm ag)).trans (ay _);have u1:=(u.frozen_far ⟨b,0,none⟩ so (Ne.symm ag)).trans (aE _)))
 all_goals
  obtain⟨hI,k,bg,gm,hK,ao⟩:=Qq (x:=⟨⟨F,B⟩,I⟩) (S:=S) Hb.out HM.out M ag am aS.out ab (ae HW (aj (ah br))) L z.out u (T.imp_right λe=>om);clear L u T aq u0 u1;generalize (w1.setCell ⟨b,0,none⟩ (.slice (some ⟨g,0,none⟩) (n+1) O))=w3 at*;have kb:=hI.1;have x0:w3.cell? ⟨b,0,none⟩=some (.slice (some ⟨g,0,none⟩) (n+1) O):=by simp[World.cell?,kb]
  have cU:=hid (Pb w3 b g O (n+1) mb N (upd c n ⟨⟨F,B⟩,I⟩) m n hI k om bg M gm (Holds.cc Z.out U.out) ad.out ac.out (by rw[upd_same];exact ai.out));clear kb hI k;go_wp2_with fail;(with_reducible refine(cU.out).mono ?_);rintro e w4 ⟨rfl,hF⟩;have hE:=yP hF bg M gm Z.out U.out hK ab aa ao (.bool true);clear hF hK;go_wp2;go_ret;exact hE
theorem aY.set2(h:aY w b cap n c){i:Nat}(Q:i<n)(x:It)(P:x.id=(c i).id):aY ((w.setCell ⟨b,i*3,none⟩ (rI x.c.s)).setCell ⟨b,i*3+1,none⟩ (rI x.c.d)) b cap n (upd c i x):=by
 obtain⟨F,I,B,J,L,M⟩:=h;refine⟨F,I,_,gz _ _ _ _ _ _ (gz _ _ _ _ _ _ J),by simp[L],?_⟩;intro k O;obtain⟨u,z,g⟩:=M k O;by_cases e:k=i
 .subst e
  simp only[Array.getElem?_setIfInBounds,Array.size_setIfInBounds,upd];simp[g,P];omega
 .simp only[Array.getElem?_setIfInBounds,upd,if_neg e]
  rw[if_neg om,if_neg om,if_neg om,if_neg om,if_neg om,if_neg om];exact⟨u,z,g⟩
theorem CB(w:World)(S:List Nat)(b n:Nat)(hp:Int->Option C)(J u g es ed:Int)(t:Bool)(h:bU w S b n hp)(hz:hp J=some ⟨es,ed⟩)(hc:kZ ⟨u,g⟩)(ht:decide (C.cmp ⟨u,g⟩ ⟨es,ed⟩<0)=t):Calls prog 191 #[vP b,rI J,.agg #[rI u,rI g]] w (rO w S b n (if t=true then hset hp J (some ⟨u,g⟩)else hp) (.bool t)):=by
 have h0:=h;have H0:=hid h0;obtain⟨mb,m,N,c,sl,hb,hM,al,hR,hP,hH,hD,hL,hC⟩:=h;have lb:=(Za.1 hb).1;have lm:=hM.lt;obtain⟨k,O,F,a4⟩:=hP.some hH hz;have hl:=Ik (hM.below (w':=w.alloc (.cells #[rI u,rI g] 53)) (ah br)) a4;obtain⟨ag,am,aS,ab,a7⟩:=hR.own al;rcases hR with⟨_,bj,_⟩|⟨I,Q,rfl,hI,ai,ap,hS⟩
 .omega
 have lr:=hI.lt;have bi:=hI.1;have ao:I∈S:=by rw[hS];simp
 have T:=hC _ _ hz;have ar:=hid (Holds.turn hH hD O ⟨⟨u,g⟩,J⟩ (by rw[F]));have bc:=hid (xq.turn hD O ⟨⟨u,g⟩,J⟩ (by rw[F]));have bg:=hid (hP.turn O ⟨⟨u,g⟩,J⟩ (by rw[F]));have aq:=hid (JO (i:=J) hC hc)
 have ac:t=true->kT n (upd c k ⟨⟨u,g⟩,J⟩) k:=by
  intro e;refine LJ O hL (It.le_of_lt ?_);rw[F];rw[e]at ht;exact .inl (C.dP.1 (of_decide_eq_true ht))
 have ac:=hid ac;have a3:=hid (show(⟨⟨u,g⟩,J⟩:It).id=(c k).id by rw[F]);obtain⟨U,Z,c3⟩:=hI.cells O;rw[F]at U Z c3;simp only at U Z c3;have k0:w.cell? ⟨b,0,none⟩=some (.slice (some ⟨I,0,none⟩) n Q):=by simp[World.cell?,hb]
 have k1:w.cell? ⟨b,1,none⟩=some (.map (some mb)):=by simp[World.cell?,hb]
 have cL:=rZ u g es ed;rw[ht]at cL;have cL:=hid (λw=>cL w hc.1 hc.2 T.1 T.2);have Hb:=hid hb;have HM:=hid hM;have HI:=hid hI;clear hb hM hP hH hD hL hC hz F a4 ht hI hS T aS c3 h0;go_enter func191,ntmps191;go_upto_region 1 with(fail);refine aB ?_;intro W hW;have HW:Below w.heap.size w W:=by rw[hW];exact be
 have a0:w.heap.size<W.heap.size:=by rw[hW];simp
 have d1:W.cell? ⟨w.heap.size,0,none⟩=some (rI u):=by rw[hW];go_simp
 have d2:W.cell? ⟨w.heap.size,1,none⟩=some (rI g):=by rw[hW];go_simp
 rw[<-hW]at hl;clear hW;have w0:=(HW.cell (p:=⟨b,0,none⟩) lb).trans k0;have w1:=(HW.cell (p:=⟨b,1,none⟩) lb).trans k1;have e1:=(HW.cell (p:=⟨I,k*3,none⟩) lr).trans U;have e2:=(HW.cell (p:=⟨I,k*3+1,none⟩) lr).trans Z;clear k0 k1 U Z;have a8:=ZE d1;have a9:=ZE d2;have bh:=ZE w0;have ba:=ZE e1;have bb:=ZE e2;have HB:=Below.refl W.heap.size W;go_upto_region 6 with(fail);refine qb HB cL.out λw2 P ad=>?_;have B:=ae HW P;have d1:=(P.cell (by exact a0)).trans d1;have d2:=(P.cell (by exact a0)).trans d2;have w0:=(B.cell (p:=⟨b,0,none⟩) lb).trans (by simp[World.cell?,Hb.out]:w.cell? ⟨b,0,none⟩=some (.slice (some ⟨I,0,none⟩) n Q));clear a8 a9 bh ba bb e1 e2 w1 hl ad;cases t with
 |false=>
  go_wp2;go_ret;exact⟨rfl,S,H0.out.below B,λk O=>.inl O,.of_below B⟩
 |true=>
  have R:=HI.out.below B;have bd:=HM.out.below B;have ad:=(B.block b lb).trans Hb.out;have a5:=R.frozen (k*3);have a6:=R.frozen (k*3+1);obtain⟨U,Z,c3⟩:=R.cells O;clear c3;go_wp2_with fail;go_still_tail 8,kr;change wpList _ _ _ _ _ w2.drew;have L:Below w.heap.size w w2.drew:=aj B;clear R bd ad a5 a6 U Z d1 d2 w0 P;generalize w2.drew=w3 at*;have M:=HI.out.below L;have ay:=HM.out.below L;have a1:=(L.block b lb).trans Hb.out;have a5:=M.frozen (k*3);have a6:=M.frozen (k*3+1);obtain⟨U,Z,c3⟩:=M.cells O;clear c3;have aw:=M.set2 O ⟨⟨u,g⟩,J⟩ a3.out;have aa:Kept [I] w3 ((w3.setCell ⟨I,k*3,none⟩ (rI u)).setCell ⟨I,k*3+1,none⟩ (rI g)):=(((Kept.refl _ _).setCell (.inl rS)).setCell (.inl rS));have ax:Kept S w ((w3.setCell ⟨I,k*3,none⟩ (rI u)).setCell ⟨I,k*3+1,none⟩ (rI g)):=((Kept.of_below L).setCell (.inl ao)).setCell (.inl ao);have aE:=ay.kept aa (by simpa using Ne.symm ap);have a2:=(aa.block b (by have:=L.size;omega) (by simpa using ai)).trans a1
  have H4:=hid (show fu _ b I Q n mb (upd c k ⟨⟨u,g⟩,J⟩)/\MapAt (λz:Int=>Value.int .i64 z) _ mb m N/\Kept S w _ from⟨⟨a2,aw⟩,aE,ax⟩);clear M ay a1 aw aa aE a2 ax;go_wp2_with fail;generalize ((w3.setCell ⟨I,k*3,none⟩ (rI u)).setCell ⟨I,k*3+1,none⟩ (rI g))=w4 at*;have cU:=hid (Pb w4 b I Q n mb N (upd c k ⟨⟨u,g⟩,J⟩) m k H4.out.1 H4.out.2.1 O ai al ap (Holds.cc ar.out aq.out) (ac.out rS) bc.out (by rw[upd_same];exact bg.out));have hK:=H4.out.2.2;clear H4;(with_reducible refine(cU.out).mono ?_);rintro e w5 ⟨rfl,hF⟩;have hE:=yP hF ai al ap ar.out aq.out hK ab a7 (.inl ao) (.bool true);clear hF hK;go_wp2;go_ret;exact hE
def Wz(w:World)(S:List Nat)(b n:Nat)(hp:Int->Option C)(e:Ending)(w':World):Prop:=
 ∃id ds dd,hp id=some ⟨ds,dd⟩/\(∀id' d',hp id'=some d'->It.le ⟨⟨ds,dd⟩,id⟩ ⟨d',id'⟩)/\e=.returned (.tuple #[rI id,.agg #[rI ds,rI dd],.bool true])/\
  bU w' S b n (hset hp id none)/\Kept S w w'
theorem CF{i:Int}(h:∀z d,hp z=some d->kZ d):∀z d,hset hp i none z=some d->kZ d:=by
 intro z d g;unfold hset at g;by_cases e:z=i
 .rw[if_pos e]at g;cases g
 .rw[if_neg e]at g;exact h z d g
theorem aY.take(h:aY w b cap n c)(k:Nat)(L:k<=n):aY w b cap k c:=by
 obtain⟨I,u,g,z,B,F⟩:=h;exact⟨om,u,g,z,B,λj J=>F j om⟩
theorem tX{x y u v:Value}(B:w.cell? ⟨b,0,none⟩=some u)(F:w.cell? ⟨b,1,none⟩=some v):((w.setCell ⟨b,0,none⟩ x).setCell ⟨b,1,none⟩ y).drew.cell? ⟨b,0,none⟩=some x/\((w.setCell ⟨b,0,none⟩ x).setCell ⟨b,1,none⟩ y).drew.cell? ⟨b,1,none⟩=some y:=by
 have g:((w.setCell ⟨b,0,none⟩ x).setCell ⟨b,1,none⟩ y).cell? ⟨b,0,none⟩=some x:=
  (World.cell?_setCell_other (w:=w.setCell ⟨b,0,none⟩ x) (a:=⟨b,1,none⟩) (b:=⟨b,0,none⟩) (v:=y) rS).trans (World.cell?_setCell_same (w:=w) (a:=⟨b,0,none⟩) (v:=x) B)
 have z:((w.setCell ⟨b,0,none⟩ x).setCell ⟨b,1,none⟩ y).cell? ⟨b,1,none⟩=some y:=
  World.cell?_setCell_same (w:=w.setCell ⟨b,0,none⟩ x) (a:=⟨b,1,none⟩) (v:=y) ((World.cell?_setCell_other (w:=w) (a:=⟨b,0,none⟩) (b:=⟨b,1,none⟩) (v:=x) rS).trans F)
 exact⟨g,z⟩
theorem Kk{w M P:World}{L J F:Int}(Z:hp F=some ⟨L,J⟩)(z:∀B O,hp B=some O->It.le ⟨⟨L,J⟩,F⟩ ⟨O,B⟩)(Q:bU M S b k (hset hp F none))(u:Kept S w M)(g:Kept [w.heap.size] M P)(R:∀j∈S,j<w.heap.size):Wz w S b k hp (.returned (.tuple #[rI F,.agg #[rI L,rI J],.bool true])) P:=by
 refine⟨F,L,J,Z,z,rfl,Q.kept g ?_,?_⟩
 .intro j I e;simp at e;have:=R j I;omega
 .refine⟨g.os.trans u.os,g.tape.trans u.tape,g.output.trans u.output,Zg u.size g.size,λj I U=>?_⟩
  exact(g.block j (Zf I u.size) so).trans (u.block j I U)
theorem Tp(B:qg n c)(z:Holds n c hp):∀g u,hp g=some u->It.le (c 0) ⟨u,g⟩:=by
 intro I d h;obtain⟨k,F,e⟩:=(z I d).1 h;rw[<-e];exact Pf B k F
theorem sN(w:World)(S:List Nat)(b:Nat)(R:Int->Option C)(h:bU w S b 0 R):Calls prog 149 #[vP b] w (Rt w (.tuple #[rI 0,.agg #[rI 0,rI 0],.bool false])):=by
 obtain⟨T,m,N,c,F,z,O,Q,B,P,L,J,M,I⟩:=h;have k:=(Za.1 z).1;have Z:w.cell? ⟨b,0,none⟩=some F:=by simp[World.cell?,z]
 obtain⟨A,g,rfl⟩:∃A g,F=.slice A 0 g:=by
  rcases B with⟨u,_⟩|⟨rb,g,u,_⟩
  .exact⟨_,_,u⟩
  .exact⟨_,_,u⟩
 clear z O B P L J M I;go_enter func149,ntmps149;go_wp2;refine bodyPost_ret (v:=.tuple #[rI 0,.agg #[rI 0,rI 0],.bool false]) (by simp[results,results149,go_sem]) rfl ?_;exact⟨rfl,be⟩
theorem Cy(w:World)(S:List Nat)(b k:Nat)(hp:Int->Option C)(h:bU w S b (k+1) hp)(hn:k<=1000000):Calls prog 149 #[vP b] w (Wz w S b k hp):=by
 have bk:=hid h.lt;obtain⟨Q,m,N,c,sl,hb,hM,P,hR,hP,hH,hD,hL,hC⟩:=h;have lb:=(Za.1 hb).1;have lm:=hM.lt;obtain⟨ag,am,aS,ab,bp⟩:=hR.own P;rcases hR with⟨_,b8,_⟩|⟨F,z,rfl,hI,ap,aq,hS⟩
 .omega
 have lr:=hI.lt;have bx:=hI.1;have b9:F∈S:=by rw[hS];simp
 obtain⟨⟨⟨xs,xd⟩,xi⟩,hx⟩:=rX (c 0);obtain⟨⟨⟨ys,yd⟩,yi⟩,hy⟩:=rX (c k);have M:=Holds.pop hH hD;have ac:=@Holds.VP c hp;have aw:=xq.pop hD;have R:=hP.pop hD (rI (0:Nat));have ao:=@PosMap.VP c m;have J:=Tp hL hH;have a5:hp xi=some ⟨xs,xd⟩:=(hH _ _).2 ⟨0,om,hx⟩;have aE:=Si (n:=k) (y:=c k) (λj hj j0=>hL j om j0);have aa:=CF (i:=xi) hC;have bz:kZ (⟨ys,yd⟩:C):=hC _ _ ((hH yi ⟨ys,yd⟩).2 ⟨k,om,hy⟩);obtain⟨a1,a2,a3⟩:=hI.cells (k:=0) om;obtain⟨b1,b2,b3⟩:=hI.cells (k:=k) om;rw[hx]at a1 a2 a3 M ac R ao J;rw[hy]at b1 b2 b3 M aw R aE;simp only[Nat.zero_mul,Zx]at a1 a2 a3 b1 b2 b3 M ac R ao;have M:=hid M;have ac:=hid ac;have aw:=hid aw;have R:=hid R;have ao:=hid ao;have J:=hid J;have a5:=hid a5;have aE:=hid aE;have aa:=hid aa;have bq:=hid hH;have bt:=hid hP;have b4:=hid hD;have Hb:=hid hb;have HM:=hid hM;have HI:=hid hI;have HS:=hid hS;have Hx:=hid hx
 have k0:w.cell? ⟨b,0,none⟩=some (.slice (some ⟨F,0,none⟩) (k+1) z):=by simp[World.cell?,hb]
 have k1:w.cell? ⟨b,1,none⟩=some (.map (some Q)):=by simp[World.cell?,hb]
 have kf:w.frozen? ⟨b,0,none⟩=false:=by simp[World.frozen?,hb]
 clear hb hM hP hH hD hL hC hI hS hx hy aS;go_enter func149,ntmps149;go_upto_region 6 with(fail);refine aB ?_;intro W U;have HW:Below w.heap.size w W:=by rw[U];exact be
 have b5:w.heap.size+2<W.heap.size:=by rw[U];simp
 have z1:W.cell? ⟨w.heap.size+1,0,none⟩=some (rI xs):=by rw[U];go_simp
 have z2:W.cell? ⟨w.heap.size+1,1,none⟩=some (rI xd):=by rw[U];go_simp
 have z3:W.cell? ⟨w.heap.size+1,2,none⟩=some (rI xi):=by rw[U];go_simp
 have y1:W.cell? ⟨w.heap.size+1+1,0,none⟩=some (rI ys):=by rw[U];go_simp
 have y2:W.cell? ⟨w.heap.size+1+1,1,none⟩=some (rI yd):=by rw[U];go_simp
 have y3:W.cell? ⟨w.heap.size+1+1,2,none⟩=some (rI yi):=by rw[U];go_simp
 have r1:W.cell? ⟨w.heap.size,0,none⟩=some (rI 0):=by rw[U];go_simp
 have r2:W.cell? ⟨w.heap.size,1,none⟩=some (rI 0):=by rw[U];go_simp
 have f1:W.frozen? ⟨w.heap.size,0,none⟩=false:=by rw[U];go_simp
 have f2:W.frozen? ⟨w.heap.size,1,none⟩=false:=by rw[U];go_simp
 clear U a1 a2 a3 b1 b2 b3;have k0:=(HW.cell (p:=⟨b,0,none⟩) lb).trans k0;have kf:=(HW.frozen (p:=⟨b,0,none⟩) lb).trans kf;go_upto_region 7 with(fail);have bl:=(HW.block b lb).trans Hb.out;have a8:=HI.out.below HW;have bh:=HM.out.below HW;have O:Kept [b] W (W.setCell ⟨b,0,none⟩ (.slice (some ⟨F,0,none⟩) k z)):=(Kept.refl _ _).setCell (.inl rS);have a4:(W.setCell ⟨b,0,none⟩ (.slice (some ⟨F,0,none⟩) k z)).heap[b]? =some (.cells #[.slice (some ⟨F,0,none⟩) k z,.map (some Q)] 279 (0,0)):=by rw[gz _ _ _ _ _ _ bl];rfl
 have a9:=(a8.kept O (by simpa using Ne.symm ap)).take k om;have bi:=bh.kept O (by simpa using Ne.symm P);have e3:∀j u,W.cell? ⟨w.heap.size+1,j,none⟩=some u->(W.setCell ⟨b,0,none⟩ (.slice (some ⟨F,0,none⟩) k z)).cell? ⟨w.heap.size+1,j,none⟩=some u:=λj u hu=>(World.cell?_of_block (O.block (w.heap.size+1) om so)).trans hu;have v3:=e3 _ _ z3;have hK:Kept S w (W.setCell ⟨b,0,none⟩ (.slice (some ⟨F,0,none⟩) k z)):=(Kept.of_below HW).setCell (.inl ab);clear e3 bl a8 bh k0 kf k1;generalize (W.setCell ⟨b,0,none⟩ (.slice (some ⟨F,0,none⟩) k z))=w3 at*;have b0:w3.cell? ⟨b,0,none⟩=some (.slice (some ⟨F,0,none⟩) k z):=by simp[World.cell?,a4]
 have b1:w3.cell? ⟨b,1,none⟩=some (.map (some Q)):=by simp[World.cell?,a4]
 have bw:=O.size;have a7:=hid a4;clear a4;go_still_tail 6,kr;change wpList _ _ _ _ _ w3.drew;refine ug rfl _ _ rfl (aF underlying3) underlying129 (w:=w3.drew) (n:=N) (m:=m) (b:=Q) bi rfl xi rfl ?_;intro B a0 bc;have I:Kept [Q] w3 B:=(Kept.refl _ _).drew.trans bc;have ay:Kept [b,Q] W B:=(O.more rS).trans (I.more rS);have ax:Kept S w B:=hK.trans (I.more (by simp;exact bp));have bm:=(I.block b (by have:=O.size;have:=HW.size;omega) (by simpa using P)).trans a7.out;have ba:=a9.kept I (by simpa using aq);have ca:=ay.size
 have g:∀(o j:Nat)u w6,Kept [b,F,Q] B w6->o<=2->W.cell? ⟨w.heap.size+o,j,none⟩=some u->w6.cell? ⟨w.heap.size+o,j,none⟩=some u:=by
  intro o j u w6 a6 ho hu;refine(World.cell?_of_block (a6.block (w.heap.size+o) om so)).trans ?_;exact(World.cell?_of_block (ay.block (w.heap.size+o) om so)).trans hu
 have T:∀(o j:Nat)u w6,Kept [b,F,Q] B w6->o<=2->W.frozen? ⟨w.heap.size+o,j,none⟩=u->w6.frozen? ⟨w.heap.size+o,j,none⟩=u:=by
  intro o j u w6 a6 ho hu;refine(World.frozen?_of_block (a6.block (w.heap.size+o) om so)).trans ?_;exact(World.frozen?_of_block (ay.block (w.heap.size+o) om so)).trans hu
 have g:=hid g;have T:=hid T;have Z:=hid (rN z1 (rN z2 (rN z3 (rN r1 (rN r2 (rN f1 f2))))));have ad:=hid (show fu B b F z k Q c from⟨bm,ba⟩);clear a9 bi O I hK v3 b0 b1 bw a7 HI HM Hb z1 z2 z3 r1 r2 f1 f2 bm ba ay bc;by_cases bv:k=0
 .subst bv
  have L:=Kept.refl [b,F,Q] B;clear y1 y2 y3;have hO:bU B S b 0 (hset hp xi none):=⟨Q,_,_,c,_,ad.out.1,a0,P,.inr ⟨F,z,rfl,ad.out.2,ap,aq,HS.out⟩,ao.out bt.out,ac.out bq.out,λi j hi=>om,λj hj=>om,aa.out⟩;have al:=ax;clear a0 ax;have z1:=g.out 1 0 _ B L om Z.out.1;have z2:=g.out 1 1 _ B L om Z.out.2.1;have z3:=g.out 1 2 _ B L om Z.out.2.2.1;have r1:=g.out 0 0 _ B L om Z.out.2.2.2.1;have r2:=g.out 0 1 _ B L om Z.out.2.2.2.2.1;have f1:=T.out 0 0 _ B L om Z.out.2.2.2.2.2.1;have f2:=T.out 0 1 _ B L om Z.out.2.2.2.2.2.2;simp only[Nat.add_zero]at r1 r2 f1 f2;go_upto_region 11 with(fail);have E1:=hid (rN hO al);clear hO al;have E2:=hid (tX (x:=rI xs) (y:=rI xd) r1 r2);have E3:Kept [w.heap.size] B ((B.setCell ⟨w.heap.size,0,none⟩ (rI xs)).setCell ⟨w.heap.size,1,none⟩ (rI xd)).drew:=(((Kept.refl _ _).setCell (.inl rS)).setCell (.inl rS)).drew;go_region;go_wp2;obtain⟨q1,q2⟩:=E2.out
  generalize ((B.setCell ⟨w.heap.size,0,none⟩ (rI xs)).setCell ⟨w.heap.size,1,none⟩ (rI xd)).drew=w8 at q1 q2 E3⊢;refine bodyPost_ret (v:=.tuple #[rI xi,.agg #[rI xs,rI xd],.bool true]) (by simp[results,results149,go_sem,q1,q2]) rfl ?_;exact Kk a5.out J.out E1.out.1 E1.out.2 E3 bk.out
 .have ar:=Kept.refl [b,F,Q] B
  have y1:=g.out 2 0 _ B ar om y1;have y2:=g.out 2 1 _ B ar om y2;have y3:=g.out 2 2 _ B ar om y3;have bo:0<k:=om;have b6:decide (0<(k:Int))=true:=so;have b7:decide (0<k)=true:=so;have cP:=hid (iB B b F z k Q _ c _ 0 ⟨⟨ys,yd⟩,yi⟩ ad.out a0 bo ap P aq);clear a0;go_wp2_with fail;refine(cP.out).mono ?_;rintro e w6 ⟨rfl,bb,⟨N6,bj⟩,bd⟩
  have cD:=hid (O7 w6 b F z k Q N6 _ _ 0 bb bj bo om ap P aq (Holds.cc M.out aa.out) aE.out aw.out (by rw[upd_same];exact R.out));clear bb bj y1 y2 y3 cP ar;go_wp2_with fail;refine(cD.out).mono ?_;rintro e w7 ⟨rfl,hF⟩;obtain⟨hO,bg⟩:=hF.O8 ap P aq M.out aa.out;rw[<-HS.out]at hO
  have ai:Kept [b,F,Q] B w7:=(bd.more rS).trans (bg.more rS);have al:Kept S w w7:=ax.trans (ai.more (by rw[HS.out];simp));have L:=ai;clear hF bd bg ai cD ax;have z1:=g.out 1 0 _ w7 L om Z.out.1;have z2:=g.out 1 1 _ w7 L om Z.out.2.1;have z3:=g.out 1 2 _ w7 L om Z.out.2.2.1;have r1:=g.out 0 0 _ w7 L om Z.out.2.2.2.1;have r2:=g.out 0 1 _ w7 L om Z.out.2.2.2.2.1;have f1:=T.out 0 0 _ w7 L om Z.out.2.2.2.2.2.1;have f2:=T.out 0 1 _ w7 L om Z.out.2.2.2.2.2.2;simp only[Nat.add_zero]at r1 r2 f1 f2;go_upto_region 11 with(fail);have E1:=hid (rN hO al);clear hO al;have E2:=hid (tX (x:=rI xs) (y:=rI xd) r1 r2);have E3:Kept [w.heap.size] w7 ((w7.setCell ⟨w.heap.size,0,none⟩ (rI xs)).setCell ⟨w.heap.size,1,none⟩ (rI xd)).drew:=(((Kept.refl _ _).setCell (.inl rS)).setCell (.inl rS)).drew;go_region;go_wp2;obtain⟨q1,q2⟩:=E2.out;generalize ((w7.setCell ⟨w.heap.size,0,none⟩ (rI xs)).setCell ⟨w.heap.size,1,none⟩ (rI xd)).drew=w8 at q1 q2 E3⊢
  refine bodyPost_ret (v:=.tuple #[rI xi,.agg #[rI xs,rI xd],.bool true]) (by simp[results,results149,go_sem,q1,q2]) rfl ?_;exact Kk a5.out J.out E1.out.1 E1.out.2 E3 bk.out
