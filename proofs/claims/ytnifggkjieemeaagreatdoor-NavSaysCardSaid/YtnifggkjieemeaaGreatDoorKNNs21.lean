/- Lemmas of this claim: FloodSays, RRay, RRay2, RRay3. -/
import Derived.Test.YtnifggkjieemeaaGreatDoorRWalk
import Derived.Laws.CopyOwn
import Derived.Test.YtnifggkjieemeaaGreatDoorKNNs3
set_option linter.unusedVariables false
set_option linter.unusedSimpArgs false
set_option maxHeartbeats 3200000
set_option maxRecDepth 100000
open Go.Proofs.Tryz
namespace Go.Proofs.YtnifggkjieemeaaGreatDoor
open Go.Lib (hid)
open Go.RowKit Go.Sort FR
variable {b:Nat}{w w':World}
theorem gV{P:Program}(w:World)(g:Nat)(t z:TypeId)(k cells:Array Value)(F:w.heap[g]? =some (.cells k t (0,0)))(m:(P.info? z).map (·.size)=some cells.size)(I:k.size=cells.size)(B:cells.all (·.oneCell')=true):(storeCells ⟨g,0,none⟩ cells.toList).run P w=.ok () (w.setRow g cells):=by
 have:=run_storeVar_row (P:=P) w g t z k cells F m I B;cases u:P.info? z with
 |none=>simp[u]at m
 |some i=>
  have J:cells.size=i.size:=by simp[u]at m;omega
  simpa[storeVar,sizeOf,typeInfo,u,Value.cells,J]using this
theorem oQ(w:World)(g k:Nat)(cs:Array Value)(h:k≠g):(w.setRow g cs).heap[k]? =w.heap[k]?:=by
 simp[World.setRow,Array.getElem?_modify,Ne.symm h]
theorem IY(w:World)(g k:Array Value)(F:g.size=512)(I:k.size=256)(M:g.all (·.oneCell')=true)(O:k.all (·.oneCell')=true):∃u m,(storeCells ⟨w.heap.size,0,none⟩ g.toList).run prog ((w.alloc (.cells zeroCells100 100)).alloc (.cells zeroCells36 36))=.ok () u/\(storeCells ⟨w.heap.size+1,0,none⟩ k.toList).run prog u=.ok () m/\m.heap[w.heap.size]? =some (.cells g 100 (0,0))/\m.heap[w.heap.size+1]? =some (.cells k 36 (0,0))/\Below w.heap.size w m:=by
 have R:(prog.info? 100).map (·.size)=some g.size:=by rw[F];kernel_rfl
 have S:(prog.info? 36).map (·.size)=some k.size:=by rw[I];kernel_rfl
 have P:(zeroCells100).size=g.size:=by rw[rG,di,F]
 have Q:(zeroCells36).size=k.size:=by rw[rF,di,I]
 have L:Below w.heap.size w ((w.alloc (.cells zeroCells100 100)).alloc (.cells zeroCells36 36)):=be
 have z:((w.alloc (.cells zeroCells100 100)).alloc (.cells zeroCells36 36)).heap[w.heap.size]? =some (.cells zeroCells100 100 (0,0)):=alloc_old _ _ rS (alloc_at _ _ rfl);have J:((w.alloc (.cells zeroCells100 100)).alloc (.cells zeroCells36 36)).heap[w.heap.size+1]? =some (.cells zeroCells36 36 (0,0)):=alloc_at _ _ rS;generalize (w.alloc (.cells zeroCells100 100)).alloc (.cells zeroCells36 36)=W at*;have B:(W.setRow w.heap.size g).heap[w.heap.size+1]? =some (.cells zeroCells36 36 (0,0)):=by rw[oQ _ _ _ _ om];exact J
 refine⟨_,_,gV W w.heap.size _ _ _ g z R P M,gV _ (w.heap.size+1) _ _ _ k B S Q O,?_,setRow_heap _ _ _ _ _ _ B,?_⟩
 .rw[oQ _ _ _ _ om];exact setRow_heap _ _ _ _ _ _ z
 .exact below_setRow (below_setRow L (Zi _) _) om _
theorem add_zero'(a:Addr):a.add 0=a:=by
 obtain⟨b,o,s⟩:=a;cases s<;>simp[Addr.add]
theorem Su{B p:Nat}{x y v:Value}(g:p≠B)(h:w.cell? ⟨p,0,none⟩=some v):((w.setCell ⟨B,0,none⟩ x).setCell ⟨B,1,none⟩ y).cell? ⟨p,0,none⟩=some v:=by
 have k:Kept [B] w ((w.setCell ⟨B,0,none⟩ x).setCell ⟨B,1,none⟩ y):=((Kept.refl [B] w).setCell (.inl rS)).setCell (.inl rS);exact(World.cell?_of_block (a:=⟨p,0,none⟩) (k.block p (ZF w _ h) (by simpa using g))).trans h
theorem Xk(w:World)(p:Nat)(g:G)(v:Int)(a b:Nat)(x:C)(h:aG w p g v)(ha:a<g.n)(hb:b<g.n)(hx:g.cZ a b=x):Calls prog 160 #[vP p,rI (a:Nat),rI (b:Nat)] w (Rt w (.agg #[rI x.s,rI x.d])):=by
 have m:=h.1;obtain⟨o1,o2,o3,o4⟩:=h.1;have l1:=G.ji m a;have l2:=G.ji m b;have l3:=G.iJ ha;have l4:=G.iJ hb;have aa:=G.bA m;have z:=λw=>MW (g.X a:Nat) (g.Y a:Nat) (g.X b:Nat) (g.Y b:Nat) w om om om om;have B:dD ((g.X a:Nat)-(g.X b:Nat)) ((g.Y a:Nat)-(g.Y b:Nat))=x:=hx;rw[B]at z;have S:((g.X a:Nat):Int)=(a:Int)%g.w:=by unfold G.X;simp
 have T:((g.Y a:Nat):Int)=(a:Int)/g.w:=by unfold G.Y;simp
 have U:((g.X b:Nat):Int)=(b:Int)%g.w:=by unfold G.X;simp
 have Z:((g.Y b:Nat):Int)=(b:Int)/g.w:=by unfold G.Y;simp
 have p1:0<=(a:Int)/g.w:=om;have p2:(a:Int)/g.w<=256:=om;have p3:0<=(b:Int)/g.w:=om;have p4:(b:Int)/g.w<=256:=om;have w1:IntKind.i64.wrap ((a:Int)/g.w)=(a:Int)/g.w:=IntWalk.i64_in _ om;have w2:IntKind.i64.wrap ((b:Int)/g.w)=(b:Int)/g.w:=IntWalk.i64_in _ om;have w3:(b:Int).tmod g.w=(b:Int)%g.w:=Int.tmod_eq_emod_of_nonneg om;have w4:(a:Int).tmod g.w=(a:Int)%g.w:=Int.tmod_eq_emod_of_nonneg om;rw[S,T,U,Z]at z;have z:=hid z;have F:=h.size.1;have P:p≠w.heap.size:=by have:=h.lt;omega
 obtain⟨xs,xd⟩:=x;clear hx B S T U Z l1 l2 l3 l4 h m;go_enter func160,ntmps160;go_upto_region 1 with(fail);refine aB ?_;intro W u;have R:Below w.heap.size w W:=by rw[u];exact be
 have J:W.cell? ⟨w.heap.size,0,none⟩=some (rI 0):=by rw[u];go_simp
 have L:W.cell? ⟨w.heap.size,1,none⟩=some (rI 0):=by rw[u];go_simp
 have M:W.frozen? ⟨w.heap.size,0,none⟩=false:=by rw[u];go_simp
 have O:W.frozen? ⟨w.heap.size,1,none⟩=false:=by rw[u];go_simp
 have hs:w.heap.size<W.heap.size:=by rw[u];simp
 have F:=af R F;have I:=hid (rN J (rN L (rN M O)));clear u J L M O;have z1:((g.w:Int)==0)=false:=by rw[Zq];omega
 have z2:(0:Int)<g.w:=om;have z3:(0:Int)<=(a:Int):=om;have z4:(0:Int)<=(b:Int):=om;have z5:¬(g.w:Int)=0:=om;have z6:¬g.w=0:=om
 go_region_held3 (λQ=>Q.cell? ⟨p,0,none⟩=some (rI g.w))
  (first|exact Su P F|(go_keep;done))
  ((go_at_call 209;(with_reducible refine(z.out _).mono ?_);rintro e wA ⟨rfl,k⟩;have J:=af k I.out.1;have L:=af k I.out.2.1;have M:=(k.frozen (p:=⟨w.heap.size,0,none⟩) hs).trans I.out.2.2.1;have O:=(k.frozen (p:=⟨w.heap.size,1,none⟩) hs).trans I.out.2.2.2;have F:=af k F))
 all_goals
  go_wp2;have e5:=dJ (x:=rI xs) (y:=rI xd) J L;refine bodyPost_ret (v:=.agg #[rI xs,rI xd]) (by simp[results,results160,go_sem,e5]) rfl ?_;exact⟨rfl,((ae R (ae (aj br) k)).setCell rS _).setCell rS _⟩
def gP(a:Nat)(c:Nat->C)(is:Nat->Bool)(k:Nat):Value:=if k=0 then rI (a:Nat)else if k<513 then dG c (k-1)else eB is (k-513)
def dX(a:Nat)(c:Nat->C)(is:Nat->Bool):Array Value:=rowOf (gP a c is) 769
theorem uh:zeroCells198=dX 0 (λ_=>C.zero) (λ_=>false):=kr
theorem xN(a:Nat)(c:Nat->C)(is:Nat->Bool):(dX a c is).all (·.oneCell')=true:=
 Array.all_eq_true_iff_forall_mem.2 (λv g=>row_one (f:=gP a c is) (λk=>by unfold gP dG eB;repeat' split
                                                                          all_goals rfl) 769 v (by simpa[dX]using g))
theorem fZ(a:Nat)(c:Nat->C)(is:Nat->Bool):(dX a c is).size=769:=di _ _
theorem oO{b o:Nat}{g ys:List Value}(m:w.rangeAt b o g)(u:w.rangeAt b (o+g.length) ys):w.rangeAt b o (g++ys):=by
 intro j v k;by_cases h:j<g.length
 .rw[List.getElem?_append_left h]at k;exact m j v k
 .rw[Zz om]at k
  have:=u _ v k;rw[show o+g.length+(j-g.length)=o+j by omega]at this;exact this
theorem Dc(f:Nat->Value)(n:Nat):(rowOf f n).toList=(List.range n).map f:=by simp[rowOf]
theorem MV(a:Nat)(c:Nat->C)(is:Nat->Bool):(dX a c is).toList=[Value.int .i64 (a:Nat)]++((rowOf (dG c) 512).toList++(rowOf (eB is) 256).toList):=by
 apply List.ext_getElem?;intro k;unfold dX;simp only[Dc];by_cases g:k=0
 .subst g;simp[gP]
 .by_cases m:k<513
  .rw[Zz so,List.getElem?_append_left so]
   simp[gP,g,m,show k<769 by omega,show k-1<512 by omega]
  .rw[Zz so,Zz so]
   simp only[Zy,Zr,List.length_range,List.length_singleton];rw[show k-1-512=k-513 by omega];by_cases u:k<769
   .simp[gP,g,m,u,show k-513<256 by omega]
   .simp[u,show¬k-513<256 by omega]
theorem lh{S:List Nat}{a:World}(k:b∈S):∀(g:List Value)(o:Nat)(w:World),Kept S a w->Kept S a (w.setCells b o g)
 |[],_,_,h=>h
 |v::g,o,w,h=>lh k g (o+1) _ (h.setCell (.inl k))
theorem FQ{b o:Nat}{Z:Array Value}(k:w.there b o Z.size)(m:Z.all (·.oneCell')=true):(storeCells ⟨b,o,none⟩ Z.toList).run prog w=.ok () (w.setCells b o Z.toList):=by
 have:=run_storeCells_cells (P:=prog) b o Z.toList 0 w (λj g=>by simpa using(k j (by simpa using g)).1) (λj g=>by simpa using(k j (by simpa using g)).2)
  (λv u=>(Array.all_eq_true_iff_forall_mem.1 m) v (by simpa using u))
 simpa using this
theorem Br(a:Nat):(zeroCells198.setIfInBounds 0 (rI (a:Nat)))=dX a (λ_=>C.zero) (λ_=>false):=by
 rw[uh];exact nH _ _ _ _ _ rfl (λi g=>by unfold gP;rw[if_neg g,if_neg g])
theorem jR:(prog.info? 198).map (·.size)=some 769:=kr
theorem IG(w:World)(a:Nat):∃g,(storeCells ⟨w.heap.size+1,0,none⟩ (zeroCells198.toList.set 0 (rI (a:Nat)))).run prog ((w.alloc (.cells zeroCells198 198)).alloc (.cells zeroCells198 198))=.ok () g/\g.heap[w.heap.size]? =some (.cells zeroCells198 198 (0,0))/\g.heap[w.heap.size+1]? =some (.cells (dX a (λ_=>C.zero) (λ_=>false)) 198 (0,0))/\Below w.heap.size w g:=by
 have u:((w.alloc (.cells zeroCells198 198)).alloc (.cells zeroCells198 198)).heap[w.heap.size]? =some (.cells zeroCells198 198 (0,0)):=alloc_old _ _ rS (alloc_at _ _ rfl);have k:((w.alloc (.cells zeroCells198 198)).alloc (.cells zeroCells198 198)).heap[w.heap.size+1]? =some (.cells zeroCells198 198 (0,0)):=alloc_at _ _ rS;have z:Below w.heap.size w ((w.alloc (.cells zeroCells198 198)).alloc (.cells zeroCells198 198)):=be
 generalize (w.alloc (.cells zeroCells198 198)).alloc (.cells zeroCells198 198)=W at*;have m:=gV (P:=prog) W (w.heap.size+1) _ 198 _ (dX a (λ_=>C.zero) (λ_=>false)) k (by rw[fZ];exact jR) (by rw[uh,fZ,fZ]) (xN _ _ _);rw[<-Br,Array.toList_setIfInBounds,Br]at m;refine⟨_,m,?_,setRow_heap _ _ _ _ _ _ k,below_setRow z om _⟩;rw[oQ _ _ _ _ om];exact u
def XN(w:World)(g:G)(a:Nat)(e:Ending)(w':World):Prop:=∃c is,e=.returned (.agg (dX a c is))/\ik g a c is/\Below w.heap.size w w'
theorem Xi(w:World)(p:Nat)(g:G)(v:Int)(a:Nat)(h:aG w p g v)(ha:a<g.n):Calls prog 109 #[vP p,rI (a:Nat)] w (XN w g a):=by
 obtain⟨W1,r0,J,R,ac⟩:=IG w a;have aq:=h.below ac h.lt;go_enter func109,ntmps109;go_upto_region 2 with(fail);obtain⟨P,ad⟩:=rX w.heap.size;have aw:w.heap.size<=P:=om;rw[ad]at J R⊢;obtain⟨m,ar⟩:=rX (P+1);rw[ar]at R⊢;clear r0 ad;go_wp2_with fail;(with_reducible refine(Qu _ p g v a aq ha).mono ?_);rintro e L ⟨c,is,rfl,ap,O⟩;obtain⟨B,F⟩:∃Z,Z=rowOf (dG c) 512:=⟨_,rfl⟩;obtain⟨M,I⟩:∃Z,Z=rowOf (eB is) 256:=⟨_,rfl⟩;have z1:B.size=512:=by rw[F,di]
 have z2:M.size=256:=by rw[I,di]
 have o1:B.all (·.oneCell')=true:=by rw[F];exact Array.all_eq_true_iff_forall_mem.2 (λv hv=>row_one (f:=dG c) (λk=>by unfold dG;split<;>rfl) 512 v (by simpa using hv))
 have o2:M.all (·.oneCell')=true:=by rw[I];exact Array.all_eq_true_iff_forall_mem.2 (λv hv=>row_one (f:=eB is) (λk=>rfl) 256 v (by simpa using hv))
 rw[<-F,<-I];have J:=(O.block P (Za.1 J).1).trans J;have R:=(O.block m (Za.1 R).1).trans R;have aa:=ae ac O;have t0:L.there m 0 769:=vD R;have t1:L.there m 1 512:=λj hj=>by have:=t0 (1+j) om;rwa[Zx]at this
 have e1:=FQ (Z:=B) (by rw[z1];exact t1) o1;have ab:Kept [m] L (L.setCells m 1 B.toList):=lh rS _ _ _ (Kept.refl _ _);have t2:(L.setCells m 1 B.toList).there m 513 256:=World.there_setCells (λj hj=>by have:=t0 (513+j) om;rwa[Zx]at this) _ _ _;have e2:=FQ (Z:=M) (by rw[z2];exact t2) o2
 have Q:L.rangeAt m 0 [rI (a:Nat)]:=λj u hu=>by
  cases j with
  |zero=>
   simp at hu;subst hu;simp[World.cell?,R,dX,bI,gP]
  |succ j=>simp at hu
 have Q:=World.rangeAt_setCells_apart Q m 1 B.toList (.inr (.inl rS));have U:(L.setCells m 1 B.toList).rangeAt m 1 B.toList:=World.rangeAt_setCells_same _ _ _ _ (by rw[Array.length_toList,z1];exact t1);have Q:=World.rangeAt_setCells_apart Q m 513 M.toList (.inr (.inl rS));have U:=World.rangeAt_setCells_apart U m 513 M.toList (.inr (.inl (by simp[z1])));have g2:((L.setCells m 1 B.toList).setCells m 513 M.toList).rangeAt m 513 M.toList:=World.rangeAt_setCells_same _ _ _ _ (by rw[Array.length_toList,z2];exact t2);have T:Kept [m] L ((L.setCells m 1 B.toList).setCells m 513 M.toList):=lh rS _ _ _ ab;have J:=(T.block P (Za.1 J).1 so).trans J;have S:=Kept.below aa T aa.size so;obtain⟨wA,ai⟩:=rX (L.setCells m 1 B.toList);rw[ai]at e1 e2 Q U g2 J S;obtain⟨wB,al⟩:=rX (wA.setCells m 513 M.toList);rw[al]at e2 Q U g2 J S;have am:B.toList.length=512:=by simp[z1]
 have hR:=oO (ys:=B.toList++M.toList) Q (oO U (by rw[am];exact g2));rw[F,I,<-MV]at hR;have hR:=hid hR;have K1:=hid J;clear J R Q U g2 t0 t1 t2 ab T ai al o1 o2 F I O;go_upto_region 3 with(fail);refine wp_region_lit ?_;refine wpList_load_mid rfl 198 (.tmp 5) rfl m 0 rfl _ _ hR.out underlying198 rfl (by rw[Array.length_toList,fZ];exact jR) ?_;go_frame;rw[Array.toArray_toList];obtain⟨Z,hZ⟩:=rX (dX a c is);have zs:Z.size=769:=by rw[<-hZ,fZ]
 have zo:Z.all (·.oneCell')=true:=by rw[<-hZ];exact xN _ _ _
 rw[hZ];refine wpList_store_row rfl 198 (.tmp 4) (.tmp 16) rfl P Z rfl rfl _ _ K1.out (by rw[zs];exact jR) (by rw[uh,fZ,zs]) zo ?_;go_frame;have ag:=setRow_heap wB P _ Z _ _ K1.out;have ao:=below_setRow S aw Z;clear e1 e2 hR K1;generalize wB.setRow P Z=wE at*;go_wp2;refine bodyPost_ret (v:=.agg Z) (results_cell_row rfl _ _ P _ Z _ _ rfl ag underlying198 rfl (by rw[zs];exact jR)) rfl ?_;exact⟨c,is,by rw[hZ],ap,ao⟩
theorem Uk(P:Prop):∃t:Bool,t=true↔P:=by
 by_cases h:P
 .exact⟨true,by simp[h]⟩
 .exact⟨false,by simp[h]⟩
theorem iA{r:Bool}{P:Prop}(h:r=true↔P)(g:¬P):r=false:=by
 cases r with
 |false=>rfl
 |true=>exact absurd (h.1 rfl) g
theorem Vf{is:Nat->Bool}{t:Nat}(h:w.heap[b]? =some (.cells (rowOf (eB is) 256) 36 (0,0)))(g:Below w.heap.size w w')(k:t<256):w'.cell? ⟨b,t,none⟩=some (.bool (is t)):=
 (World.cell?_of_block (w:=w) (w':=w') (a:=⟨b,t,none⟩) (g.block b (Za.1 h).1)).trans (by simp[World.cell?,h,bI _ _ _ k,eB])
theorem Vg{c:Nat->C}{t:Nat}(h:w.heap[b]? =some (.cells (rowOf (dG c) 512) 100 (0,0)))(g:Below w.heap.size w w')(u:t<256):w'.cell? ⟨b,t*2,none⟩=some (rI (c t).s)/\w'.cell? ⟨b,t*2+1,none⟩=some (rI (c t).d):=by
 have k:(t*2+1)%2=1:=om;have m:(t*2+1)/2=t:=om
 exact⟨(World.cell?_of_block (w:=w) (w':=w') (a:=⟨b,t*2,none⟩) (g.block b (Za.1 h).1)).trans (by simp[World.cell?,h,bI _ _ _ (show t*2<512 by omega),dG]),
  (World.cell?_of_block (w:=w) (w':=w') (a:=⟨b,t*2+1,none⟩) (g.block b (Za.1 h).1)).trans (by simp[World.cell?,h,bI _ _ _ (show t*2+1<512 by omega),dG,k,m])⟩
theorem zA{b a:Nat}{c:Nat->C}{is:Nat->Bool}{Z:Array Value}(h:w.heap[b]? =some (.cells Z 198 (0,0)))(m:dX a c is=Z)(u:Below w.heap.size w w'):w'.cell? ⟨b,0,none⟩=some (rI (a:Nat))/\∀t,t<256->w'.cell? ⟨b,1+t*2,none⟩=some (rI (c t).s)/\w'.cell? ⟨b,1+t*2+1,none⟩=some (rI (c t).d)/\w'.cell? ⟨b,513+t,none⟩=some (.bool (is t)):=by
 subst m;have B:=(Za.1 h).1
 have g:∀k,k<769->w'.cell? ⟨b,k,none⟩=some (gP a c is k):=λk z=>
  (World.cell?_of_block (w:=w) (w':=w') (a:=⟨b,k,none⟩) (u.block b B)).trans (by simp[World.cell?,h,dX,bI _ _ _ z])
 refine⟨g 0 om,λt F=>⟨?_,?_,?_⟩⟩
 .rw[g _ om]
  unfold gP dG;rw[if_neg om,if_pos om,if_pos om,show(1+t*2-1)/2=t by omega]
 .rw[g _ om]
  unfold gP dG;rw[if_neg om,if_pos om,if_neg om,show(1+t*2+1-1)/2=t by omega]
 .rw[g _ om]
  unfold gP eB;rw[if_neg om,if_neg om,show 513+t-513=t by omega]
def NI(g:G)(ca cb:Nat)(c1 c2:Nat->C)(i1 i2:Nat->Bool)(k:Nat):Prop:=k≠ca/\k≠cb/\i1 k=true/\i2 k=true/\C.add (c1 k) (c2 k)=g.cZ ca cb
theorem PU{g:G}{ca cb:Nat}{Q R:Nat->C}{B F:Nat->Bool}(L:ik g ca Q B)(M:ik g cb R F)(k:Nat):NI g ca cb Q R B F k↔k≠ca/\k≠cb/\g.Mid ca cb k:=by
 have z:∀a b c,g.E a b c->g.E b a c:=λ_ _ _ he=>G.kQ he;constructor
 .rintro⟨I,J,U,Z,a5⟩
  exact⟨I,J,_,_,((L k).1 U).1.1,Walk.rev z ((M k).1 Z).1.1,a5⟩
 .rintro⟨I,J,p,q,O,P,b3⟩
  have m:B k=true:=by
   cases h:B k with
   |true=>rfl
   |false=>exact absurd O ((L k).2 h _)
  have u:F k=true:=by
   cases h:F k with
   |true=>rfl
   |false=>exact absurd (Walk.rev z P) ((M k).2 h _)
  have S:=((L k).1 m).1;have T:=((M k).1 u).1;have l1:=S.2 _ O;have l2:=T.2 _ (Walk.rev z P);refine⟨I,J,m,u,C.le_antisymm ?_ ?_⟩
  .rw[<-b3];exact C.add_le_add l1 l2
  .exact G.Io (S.1.trans (Walk.rev z T.1))
theorem y9{g:G}{ca cb:Nat}{u:Nat->C}{k:Nat->Bool}(m:ik g ca u k):g.dL ca cb↔k cb=true/\u cb=g.cZ ca cb:=by
 rw[G.Bb];constructor
 .intro h
  have:k cb=true:=by
   cases F:k cb with
   |true=>rfl
   |false=>exact absurd h.1 ((m cb).2 F _)
  exact⟨this,((m cb).1 this).1.unique h⟩
 .rintro⟨z,B⟩
  rw[<-B];exact((m cb).1 z).1
