/- Lemmas of this claim: ShSort, Graph5. -/
import Derived.Shelf.Sort.Plain
import Derived.Test.YtokhnobcincfjaaGreatDoorKNEd17
set_option linter.unusedVariables false
set_option linter.unusedSimpArgs false
set_option maxHeartbeats 1600000
set_option maxRecDepth 100000
namespace Go.Proofs
open Go.Lib (hid)
open Go.Shelf
def Tryz.lays189_ren:Go.Shelf.Ren:=⟨λ|189=>97|125=>156|257=>155|128=>211|129=>212|294=>202|295=>203|296=>204|297=>205|298=>206|299=>207|216=>208|300=>209|301=>210|328=>240|329=>241|330=>242|331=>243|332=>244|215=>245|343=>264|n=>n,λ|28=>22|3=>3|46=>260|0=>0|51=>300|53=>175|4=>4|183=>294|182=>293|131=>150|5=>5|9=>9|218=>320|222=>324|228=>341|229=>71|n=>n,λ|n=>n⟩
theorem Tryz.lays189:Go.Proofs.Lays.n189 Tryz.prog Tryz.lays189_ren:={
 mixed:=by kernel_rfl
 f125:=Tryz.func156.trans (congrArg some (by kernel_rfl))
 f128:=Tryz.func211.trans (congrArg some (by kernel_rfl))
 f129:=Tryz.func212.trans (congrArg some (by kernel_rfl))
 f189:=Tryz.func97.trans (congrArg some (by kernel_rfl))
 f215:=Tryz.func245.trans (congrArg some (by kernel_rfl))
 f216:=Tryz.func208.trans (congrArg some (by kernel_rfl))
 f257:=Tryz.func155.trans (congrArg some (by kernel_rfl))
 f294:=Tryz.func202.trans (congrArg some (by kernel_rfl))
 f295:=Tryz.func203.trans (congrArg some (by kernel_rfl))
 f296:=Tryz.func204.trans (congrArg some (by kernel_rfl))
 f297:=Tryz.func205.trans (congrArg some (by kernel_rfl))
 f298:=Tryz.func206.trans (congrArg some (by kernel_rfl))
 f299:=Tryz.func207.trans (congrArg some (by kernel_rfl))
 f300:=Tryz.func209.trans (congrArg some (by kernel_rfl))
 f301:=Tryz.func210.trans (congrArg some (by kernel_rfl))
 f328:=Tryz.func240.trans (congrArg some (by kernel_rfl))
 f329:=Tryz.func241.trans (congrArg some (by kernel_rfl))
 f330:=Tryz.func242.trans (congrArg some (by kernel_rfl))
 f331:=Tryz.func243.trans (congrArg some (by kernel_rfl))
 f332:=Tryz.func244.trans (congrArg some (by kernel_rfl))
 f343:=Tryz.func264.trans (congrArg some (by kernel_rfl))
 t0:=Tryz.underlying0
 a0:=Tryz.isAgg0
 z0:=Tryz.sizeOf0
 v0:=Tryz.zeroValue0
 t3:=Tryz.underlying3
 a3:=Tryz.isAgg3
 z3:=Tryz.sizeOf3
 v3:=Tryz.zeroValue3
 t4:=Tryz.underlying4
 a4:=Tryz.isAgg4
 z4:=Tryz.sizeOf4
 v4:=Tryz.zeroValue4
 t5:=Tryz.underlying5
 a5:=Tryz.isAgg5
 z5:=Tryz.sizeOf5
 v5:=Tryz.zeroValue5
 t9:=Tryz.underlying9
 a9:=Tryz.isAgg9
 z9:=Tryz.sizeOf9
 v9:=Tryz.zeroValue9
 t28:=Tryz.underlying22
 a28:=Tryz.isAgg22
 z28:=Tryz.sizeOf22
 v28:=Tryz.zeroValue22
 t46:=Tryz.underlying260
 a46:=Tryz.isAgg260
 z46:=Tryz.sizeOf260
 v46:=Tryz.zeroValue260
 t51:=Tryz.underlying300
 a51:=Tryz.isAgg300
 z51:=Tryz.sizeOf300
 v51:=Tryz.zeroValue300
 t53:=Tryz.underlying175
 a53:=Tryz.isAgg175
 z53:=Tryz.sizeOf175
 v53:=Tryz.zeroValue175
 t131:=Tryz.underlying150
 a131:=Tryz.isAgg150
 z131:=Tryz.sizeOf150
 v131:=Tryz.zeroValue150
 t182:=Tryz.underlying293
 a182:=Tryz.isAgg293
 z182:=Tryz.sizeOf293
 v182:=Tryz.zeroValue293
 t183:=Tryz.underlying294
 a183:=Tryz.isAgg294
 z183:=Tryz.sizeOf294
 v183:=Tryz.zeroValue294
 t218:=Tryz.underlying320
 a218:=Tryz.isAgg320
 z218:=Tryz.sizeOf320
 v218:=Tryz.zeroValue320
 t222:=Tryz.underlying324
 a222:=Tryz.isAgg324
 z222:=Tryz.sizeOf324
 v222:=Tryz.zeroValue324
 t228:=Tryz.underlying341
 a228:=Tryz.isAgg341
 z228:=Tryz.sizeOf341
 v228:=Tryz.zeroValue341
 t229:=Tryz.underlying71
 a229:=Tryz.isAgg71
 z229:=Tryz.sizeOf71
 v229:=Tryz.zeroValue71}
open Go.Sort Go.RowKit in
theorem Tryz.slices_Sort_int(g k u:Nat)(B:List Int)(w:World)(I:Holds (Value.int .i64) w g k B.toArray)(z:g<w.heap.size)(F:B.length<4611686018427387904):Calls Tryz.prog 97 #[.slice (some ⟨g,k,none⟩) B.length u] w λe L=>e=.returned (.tuple #[])/\∃n J,L=grow (putRow (Value.int .i64) (Sort.ahead w n) g k (B.mergeSort λx y=>decide (x<=y)).toArray) J:=Any.slices_Sort_int Tryz.lays189 g k u B w I z F
end Go.Proofs
namespace Go.Proofs.YtokhnobcincfjaaGreatDoor
open Go.Lib (hid)
open Go.RowKit Go.Sort FR
variable {L:List Int}
theorem Rk(p:Option Addr)(g:Nat)(w:World):Calls Tryz.prog 202 #[.slice p 0 g,.int .i64 0,.int .i64 0] w λe k=>e=.returned (.tuple #[])/\k=w:=by
 go_enter Tryz.func202,Tryz.ntmps202;go_wp2;refine wp_loop_rounds 1 ?_;rw[rounds_succ];go_wp2;go_end0;exact⟨rfl,rfl⟩
theorem RA(p:Option Addr)(g:Nat)(w:World):Calls Tryz.prog 155 #[.slice p 0 g,.int .i64 0,.int .i64 0,.int .i64 0] w λe k=>e=.returned (.tuple #[])/\k=w:=by
 go_enter Tryz.func155,Tryz.ntmps155;go_wp2;refine wp_loop_rounds 1 ?_;rw[rounds_succ];go_wp2_with (first|(go_at_call 202;refine(Rk p g _).mono ?_;rintro e k ⟨rfl,rfl⟩))
 refine bodyPost_ret (results_none rfl _ _ _) rfl ?_;exact⟨rfl,rfl⟩
theorem LB(w:World):Calls Tryz.prog 212 #[.int .u64 0] w λe k=>e=.returned (.int .i64 0)/\k=w:=by
 have g:wrap64 (wrap64 (Lib.len8 0))=0:=by decide+kernel
 go_enter Tryz.func212,Tryz.ntmps212;go_wp2;go_ret;exact⟨by simp[g],rfl⟩
theorem Ro(w:World):Calls Tryz.prog 156 #[.int .u64 0] w λe g=>e=.returned (.int .i64 0)/\g=w:=by
 go_enter Tryz.func156,Tryz.ntmps156;go_wp2_with (first|(go_at_call 212;refine(LB _).mono ?_;rintro e g ⟨rfl,rfl⟩))
 go_ret;exact⟨rfl,rfl⟩
theorem Pz(p:Option Addr)(g:Nat)(w:World):Calls Tryz.prog 97 #[.slice p 0 g] w λe k=>e=.returned (.tuple #[])/\k=w:=by
 go_enter Tryz.func97,Tryz.ntmps97
 go_wp2_with (first
  |(go_at_call 156;refine(Ro _).mono ?_;rintro e k ⟨rfl,rfl⟩)
  |(go_at_call 155;refine(RA p g _).mono ?_;rintro e k ⟨rfl,rfl⟩))
 go_end0;exact⟨rfl,rfl⟩
theorem BH(w:World)(B:Nat)(v:Value)(u:List Int)(I:aI w B v u)(hl:u.length<=1000000000)(hB:B<=w.heap.size):Calls Tryz.prog 97 #[v] w λe M=>e=.returned (.tuple #[])/\aI M B v (u.mergeSort λx y=>decide (x<=y))/\Below B w M:=by
 rcases I.2 with⟨rfl,hn⟩|⟨g,O,P,rfl,hg,S,hc,hm,hs,L⟩
 .have:u=[]:=List.eq_nil_of_length_eq_zero hn
  subst this;refine(Pz none 0 w).mono ?_;rintro e M ⟨Q,R⟩;subst R;exact⟨Q,by rw[List.mergeSort_nil];exact aI.nil _ _,Below.refl _ _⟩
 .have U:P.toList.take u.length=u.map (Value.int .i64):=by rw[Nat.mul_one]at L;exact L
  refine(Tryz.slices_Sort_int g 0 O u w (holds_of_blockI S U) (Array.getElem?_eq_some_iff.1 S).1 (by omega)).mono ?_;rintro e M ⟨Q,n,J,R⟩;have z:(u.mergeSort λx y=>decide (x<=y)).length=u.length:=List.length_mergeSort _;have Z:=ownsRow_sortedI (w:=w) (n:=n) (os:=J) (ss:=u) (ts:=u.mergeSort λx y=>decide (x<=y)) z hg S hc hm hs;have F:=grownBy_sortedI (w:=w) (g:=g) (n:=n) (os:=J) (u.mergeSort λx y=>decide (x<=y)).toArray;rw[<-R]at Z F;refine⟨Q,?_,⟨F.os,F.tape,F.output,F.size,λk hk=>?_⟩⟩
  .unfold aI;rw[z];exact Z
  .by_cases T:k<w.heap.size
   .exact F.block k T (by intro e;injection e with e;omega)
   .omega
theorem vQ:∀{L M:List Int},L.Pairwise (· < ·)->M.Pairwise (· < ·)->(∀z,z∈L↔z∈M)->L=M
 |[],[],_,_,_=>rfl
 |[],y::M,_,_,h=>by have:=(h y).2 (by simp);simp at this
 |x::L,[],_,_,h=>by have:=(h x).1 (by simp);simp at this
 |x::L,y::M,k,u,h=>by
  rw[List.pairwise_cons]at k u
  have B:x=y:=by
   have a:=(h x).1 (by simp);have b:=(h y).2 (by simp);rcases List.mem_cons.1 a with a|a
   .exact a
   .rcases List.mem_cons.1 b with b|b
    .exact b.symm
    .have:=u.1 x a;have:=k.1 y b;omega
  subst B;rw[vQ k.2 u.2 (λz=>?_)];constructor
  .intro g
   have:=(h z).1 (List.mem_cons_of_mem _ g);rcases List.mem_cons.1 this with e|e
   .subst e;have:=k.1 z g;omega
   .exact e
  .intro g
   have:=(h z).2 (List.mem_cons_of_mem _ g);rcases List.mem_cons.1 this with e|e
   .subst e;have:=u.1 z g;omega
   .exact e
theorem PE(u:L.Nodup):(L.mergeSort λx y=>decide (x<=y)).Pairwise (· < ·):=by
 have k:=List.pairwise_mergeSort (le:=λx y:Int=>decide (x<=y)) (λa b c k g=>by simp at*;omega) (λa b=>by simp;omega) L;have g:(L.mergeSort λx y=>decide (x<=y)).Nodup:=(List.mergeSort_perm L _).nodup_iff.2 u;rw[List.Nodup]at g;exact(k.and g).imp (λh=>by simp at h;omega)
theorem yg{n:Nat}(h:L.Nodup)(J:∀z∈L,0<=z/\z<n):L.length<=n:=by
 have I:=PE h;have P:(L.mergeSort λx y=>decide (x<=y)).length=L.length:=List.length_mergeSort _;have u:∀z∈(L.mergeSort λx y=>decide (x<=y)),0<=z/\z<n:=λz g=>J z (List.mem_mergeSort.1 g);generalize (L.mergeSort λx y=>decide (x<=y))=M at I P u
 have B:∀(j:Nat)(z:Int),M[j]? =some z->(j:Int)<=z:=by
  intro j
  induction j with
  |zero=>intro z g;exact(u z (List.mem_of_getElem? g)).1
  |succ j Q=>
   intro z g;have O:=(List.getElem?_eq_some_iff.1 g).1;have a:=Q (M[j]'(by omega)) (List.getElem?_eq_getElem _);have b:=(List.pairwise_iff_getElem.1 I) j (j+1) (by omega) O (by omega);have c:M[j+1]=z:=(List.getElem?_eq_some_iff.1 g).2;omega
 cases R:M.length with
 |zero=>omega
 |succ k=>
  have F:k<M.length:=by omega
  have a:=B k (M[k]) (List.getElem?_eq_getElem F);have b:=(u (M[k]) (List.getElem_mem F)).2;omega
theorem tF{L M:List Int}(u:L.Nodup)(B:M.Pairwise (· < ·))(h:∀z,z∈L↔z∈M):(L.mergeSort λx y=>decide (x<=y))=M:=by
 refine vQ ?_ B (λz=>by rw[List.mem_mergeSort];exact h z);have k:=List.pairwise_mergeSort (le:=λx y:Int=>decide (x<=y)) (λa b c k g=>by simp at*;omega) (λa b=>by simp;omega) L;have g:(L.mergeSort λx y=>decide (x<=y)).Nodup:=(List.mergeSort_perm L _).nodup_iff.2 u;rw[List.Nodup]at g;exact(k.and g).imp (λh=>by simp at h;omega)
theorem mr:∀a b:Int,iK a=iK b->a=b:=λa b h=>by injection h
def QI(W:World)(mb r:Nat)(V:Int->Option Value)(lv:Value)(wr:World):Prop:=
 ∃left cnt zs,aO iK wr mb r V left cnt/\aI wr (r+1) lv zs/\zs.Nodup/\(∀z,z∈zs↔V z≠none/\¬left z)/\Below W.heap.size W wr
theorem jG(w:World)(b p mb:Nat)(S:List Nat)(g:G)(v:Int)(E:Int->Option (List Ed))(h:aD w b p mb S g v E)(hE:∀z:Int,E z≠none↔∃c:Nat,z=c/\g.ak c):Calls Tryz.prog 53 #[.pointer (some ⟨b,0,none⟩)] w (pU w (aA g)):=by
 obtain⟨g1,g2,⟨V,N,q1,q2,q3,q4,q5,q6,q7⟩,g4⟩:=h;have ba:w.cell? ⟨b,1,none⟩=some (.map (some mb)):=by simp[World.cell?,g1]
 have hV:∀z:Int,V z≠none↔∃c:Nat,z=c/\g.ak c:=λz=>by rw[<-hE z];exact(not_congr (q2 z)).symm
 have bb:=q1.lt;have bd:=G.bR g2.1;clear g1 g2 q2 q3 q4 q5 q6 q7 g4 hE;have HV:=hid hV;clear hV;go_enter Tryz.func53,Tryz.ntmps53;go_wp2_with (at_range;refine eB rfl _ rfl mr Tryz.underlying137 q1 rfl ?_;intro w1 I aS a8);go_frame;obtain⟨r,hr⟩:∃z,w.heap.size=z:=⟨_,rfl⟩
 rw[hr]at I⊢;have hstart:QI w mb r V (.slice none 0 0) w1:=⟨_,N,[],I,aI.nil _ _,by simp,λz=>by simp,aS⟩
 have J:∀L:List Int,L.Nodup->(∀z∈L,V z≠none)->L.length<=256:=λL h1 h2=>by
  refine yg h1 (λz hz=>?_);obtain⟨c,rfl,hc⟩:=(HV.out z).1 (h2 z hz);have:=hc.1;omega
 have ab:=hid J;have bh:w.heap.size<=r:=by omega
 have be:mb<r:=by omega
 clear I aS a8 q1 ba J hr;go_loopw [3] (λlv wr=>QI w mb r V lv wr) (λ_ wr=>wr.rangeLeft mb r)
 case atStart=>exact hstart
 case round=>
  obtain⟨left,cnt,L,I,hO,ao,O,hB⟩:=hrel;clear hstart;have hleft:=hid I.left_eq;have ap:=hid ao;have M:=hid O;have a7:=ab.out L ao (λz hz=>((O z).1 hz).1);clear ao O;go_wp2_with (at_next;refine fB rfl _ rfl mr I rfl ?_ ?_)
  .intro h0 hl
   have ad:∀z,z∈L↔z∈aA g:=λz=>by
    rw[M.out z,and_iff_left (hl z),HV.out z];constructor
    .rintro⟨c,rfl,hc⟩
     obtain⟨i,hi,rfl⟩:=oU hc;rw[<-(dS hi).1,List.getD_eq_getElem?_getD,List.getElem?_eq_getElem hi];exact List.getElem_mem hi
    .intro hz
     obtain⟨i,hi⟩:=List.getElem?_of_mem hz;have a2:=(List.getElem?_eq_some_iff.1 hi).1;have e:=(dS a2).1;rw[List.getD_eq_getElem?_getD,hi]at e;exact⟨_,e,(dS a2).2⟩
   have Z:=tF ap.out (iX g) ad;have al:=hid Z;have cS:=hid (BH wr (r+1) _ L hO (by omega) (by have:=I.lt.2;omega));clear hl ad Z I;go_wp2_with fail;(with_reducible refine cS.out.mono ?_);rintro e w2 ⟨rfl,am,a0⟩;rw[al.out]at am;have ay:Below w.heap.size w w2:=hB.trans (a0.mono (by omega));have F:=hid (rY (aI.mono am (by omega)) ay);clear am a0 ay;go_wp2;go_ret;exact F.out
  .intro k u w4 aw hk a4 R a5 aE a9 a1
   have ac:=hO.D9 (S:=[r]) aE (by simp);have a6:Below w.heap.size w w4:=Kept.below hB aE hB.size (by simp;omega);have bg:=R.lt;have a3:k∉L:=λh=>((M.out k).1 h).2 a4
   have ag:(L++[k]).Nodup:=by
    rw[List.nodup_append];exact⟨ap.out,by simp,λa ha b hb=>by simp at hb;subst hb;intro e;subst e;exact a3 ha⟩
   have P:∀z,z∈L++[k]↔V z≠none/\¬(left z/\¬z=k):=λz=>by
    rw[List.mem_append,M.out z,List.mem_singleton];constructor
    .rintro(⟨a,c⟩|rfl)
     .exact⟨a,λh=>c h.1⟩
     .exact⟨by rw[hk];simp,λh=>h.2 rfl⟩
    .rintro⟨a,c⟩
     by_cases e:z=k
     .exact .inr e
     .exact .inl ⟨a,λh=>c ⟨h,e⟩⟩
   have aq:=hid ag;have ai:=hid P;have ar:=hid R;have bc:r+1<=w4.heap.size:=by omega
   rw[show iK k=.int .i64 k from rfl]at a1⊢;clear I hO hB a3 ag P R a4 hk a9;go_wp2_with (at_builtin;(refine bK _ rfl _ _ rfl (r+1) _ _ _ rfl (ac.alloc _) ⟨w4.heap.size,0,none⟩ rfl (dm _ _ _) (by omega) (by simp;omega) ?_);intro v' w9 Q B)
   have ax:=below_grown (a6.alloc (by omega) _) (by simp;omega) ((aI.mono ac (show w.heap.size<=r+1 by omega)).alloc _) B;have U:∀q,_=some q->r+1<=q:=λq hq=>(World.ownsRow.lt ac q hq).1
   have T:=(ar.out.below (af (Below.refl _ _))).kept (w':=w9) (S:=(Value.ownBlock _).toList) ⟨B.os,B.tape,B.output,B.size,λq hq hn=>B.block q hq (λe=>hn (by rw[<-e];simp))⟩
    (by intro hh;rw[Option.mem_toList]at hh;have:=U _ hh;omega) (by intro hh;rw[Option.mem_toList]at hh;have:=U _ hh;omega)
   have F:QI w mb r V v' w9:=⟨_,aw,_,T,Q,aq.out,ai.out,ax⟩;have an:=T.left_eq;have an:=hid an;have F:=hid F;clear Q B ac ax T U a1;go_wp2;go_roundw
   case rel=>first|exact F.out|((repeat apply Exists.intro);exact⟨F.out,rfl⟩)
   case measure=>rw[hleft.out,an.out];exact a5
end Go.Proofs.YtokhnobcincfjaaGreatDoor
