/- Lemmas of this claim: ShSort, Graph5. -/
import Derived.Shelf.Sort.Plain
import Derived.Test.YtnifggkjieemeaaGreatDoorKNNs18
set_option linter.unusedVariables false
set_option linter.unusedSimpArgs false
set_option maxHeartbeats 1600000
set_option maxRecDepth 100000
namespace Go.Proofs
open Go.Lib (hid)
open Go.Shelf
def Tryz.lays189_ren:Go.Shelf.Ren:=⟨λ|189=>106|125=>157|257=>156|128=>207|129=>208|294=>198|295=>199|296=>200|297=>201|298=>202|299=>203|216=>204|300=>205|301=>206|328=>234|329=>235|330=>236|331=>237|332=>238|215=>239|343=>257|n=>n,λ|28=>51|3=>3|46=>257|0=>0|51=>295|53=>143|4=>4|183=>289|182=>288|131=>137|5=>5|9=>9|218=>313|222=>317|228=>331|229=>48|n=>n,λ|n=>n⟩
theorem Tryz.lays189:Go.Proofs.Lays.n189 Tryz.prog Tryz.lays189_ren:=by repeat' first|(intros;kernel_rfl)|decide|constructor
open Go.Sort Go.RowKit in
theorem Tryz.slices_Sort_int(g k m:Nat)(z:List Int)(w:World)(F:Holds (Value.int .i64) w g k z.toArray)(u:g<w.heap.size)(B:z.length<4611686018427387904):Calls Tryz.prog 106 #[.slice (some ⟨g,k,none⟩) z.length m] w λe J=>e=.returned (.tuple #[])/\∃n I,J=grow (putRow (Value.int .i64) (Sort.ahead w n) g k (z.mergeSort λx y=>decide (x<=y)).toArray) I:=Any.slices_Sort_int Tryz.lays189 g k m z w F u B
end Go.Proofs
namespace Go.Proofs.YtnifggkjieemeaaGreatDoor
open Go.Lib (hid)
open Go.RowKit Go.Sort FR
variable {L:List Int}
theorem Vy(p:Option Addr)(g:Nat)(w:World):Calls Tryz.prog 198 #[.slice p 0 g,rI 0,rI 0] w λe k=>e=.returned (.tuple #[])/\k=w:=by
 go_enter Tryz.func198,Tryz.ntmps198;go_wp2;refine wp_loop_rounds 1 ?_;rw[rounds_succ];go_wp2;go_end0;exact⟨rfl,rfl⟩
theorem VO(p:Option Addr)(g:Nat)(w:World):Calls Tryz.prog 156 #[.slice p 0 g,rI 0,rI 0,rI 0] w λe k=>e=.returned (.tuple #[])/\k=w:=by
 go_enter Tryz.func156,Tryz.ntmps156;go_wp2;refine wp_loop_rounds 1 ?_;rw[rounds_succ];go_wp2_with (first|(go_at_call 198;refine(Vy p g _).mono ?_;rintro e k ⟨rfl,rfl⟩))
 refine bodyPost_ret (results_none rfl _ _ _) rfl ?_;exact⟨rfl,rfl⟩
theorem Pw(w:World):Calls Tryz.prog 208 #[.int .u64 0] w λe k=>e=.returned (rI 0)/\k=w:=by
 have g:wrap64 (wrap64 (Lib.len8 0))=0:=by decide+kernel
 go_enter Tryz.func208,Tryz.ntmps208;go_wp2;go_ret;exact⟨by simp[g],rfl⟩
theorem VE(w:World):Calls Tryz.prog 157 #[.int .u64 0] w λe g=>e=.returned (rI 0)/\g=w:=by
 go_enter Tryz.func157,Tryz.ntmps157;go_wp2_with (first|(go_at_call 208;refine(Pw _).mono ?_;rintro e g ⟨rfl,rfl⟩))
 go_ret;exact⟨rfl,rfl⟩
theorem TJ(p:Option Addr)(g:Nat)(w:World):Calls Tryz.prog 106 #[.slice p 0 g] w λe k=>e=.returned (.tuple #[])/\k=w:=by
 go_enter Tryz.func106,Tryz.ntmps106
 go_wp2_with (first
  |(go_at_call 157;refine(VE _).mono ?_;rintro e k ⟨rfl,rfl⟩)
  |(go_at_call 156;refine(VO p g _).mono ?_;rintro e k ⟨rfl,rfl⟩))
 go_end0;exact⟨rfl,rfl⟩
theorem EJ(w:World)(B:Nat)(v:Value)(m:List Int)(F:aL w B v m)(hl:m.length<=1000000000)(hB:B<=w.heap.size):Calls Tryz.prog 106 #[v] w λe J=>e=.returned (.tuple #[])/\aL J B v (m.mergeSort λx y=>decide (x<=y))/\Below B w J:=by
 rcases F.2 with⟨rfl,hn⟩|⟨g,M,O,rfl,hg,R,L,hm,hs,Z⟩
 .have:m=[]:=List.eq_nil_of_length_eq_zero hn
  subst this;refine(TJ none 0 w).mono ?_;rintro e J ⟨P,Q⟩;subst Q;exact⟨P,by rw[List.mergeSort_nil];exact aL.nil _ _,br⟩
 .have T:O.toList.take m.length=m.map (Value.int .i64):=by rw[Nat.mul_one]at Z;exact Z
  refine(Tryz.slices_Sort_int g 0 M m w (holds_of_blockI R T) (Za.1 R).1 om).mono ?_;rintro e J ⟨P,n,I,Q⟩;have u:(m.mergeSort λx y=>decide (x<=y)).length=m.length:=List.length_mergeSort _;have U:=ownsRow_sortedI (w:=w) (n:=n) (os:=I) (ss:=m) (ts:=m.mergeSort λx y=>decide (x<=y)) u hg R L hm hs;have z:=grownBy_sortedI (w:=w) (g:=g) (n:=n) (os:=I) (m.mergeSort λx y=>decide (x<=y)).toArray;rw[<-Q]at U z;refine⟨P,?_,⟨z.os,z.tape,z.output,z.size,λk hk=>?_⟩⟩
  .unfold aL;rw[u];exact U
  .by_cases S:k<w.heap.size
   .exact z.block k S (by intro e;injection e with e;omega)
   .omega
theorem zC:∀{L M:List Int},L.Pairwise (· < ·)->M.Pairwise (· < ·)->(∀z,z∈L↔z∈M)->L=M
 |[],[],_,_,_=>rfl
 |[],y::M,_,_,h=>by have:=(h y).2 rS;simp at this
 |x::L,[],_,_,h=>by have:=(h x).1 rS;simp at this
 |x::L,y::M,k,m,h=>by
  rw[List.pairwise_cons]at k m
  have u:x=y:=by
   have a:=(h x).1 rS;have b:=(h y).2 rS;rcases Zd.1 a with a|a
   .exact a
   .rcases Zd.1 b with b|b
    .exact b.symm
    .have:=m.1 x a;have:=k.1 y b;omega
  subst u;rw[zC k.2 m.2 (λz=>?_)];constructor
  .intro g
   have:=(h z).1 (List.mem_cons_of_mem _ g);rcases Zd.1 this with e|e
   .subst e;have:=k.1 z g;omega
   .exact e
  .intro g
   have:=(h z).2 (List.mem_cons_of_mem _ g);rcases Zd.1 this with e|e
   .subst e;have:=m.1 z g;omega
   .exact e
theorem TM(m:L.Nodup):(L.mergeSort λx y=>decide (x<=y)).Pairwise (· < ·):=by
 have k:=List.pairwise_mergeSort (le:=λx y:Int=>decide (x<=y)) (λa b c k g=>by simp at*;omega) (λa b=>so) L;have g:(L.mergeSort λx y=>decide (x<=y)).Nodup:=(List.mergeSort_perm L _).nodup_iff.2 m;rw[List.Nodup]at g;exact(k.and g).imp (λh=>by simp at h;omega)
theorem Be{n:Nat}(h:L.Nodup)(I:∀z∈L,0<=z/\z<n):L.length<=n:=by
 have F:=TM h;have O:(L.mergeSort λx y=>decide (x<=y)).length=L.length:=List.length_mergeSort _;have m:∀z∈(L.mergeSort λx y=>decide (x<=y)),0<=z/\z<n:=λz g=>I z (List.mem_mergeSort.1 g);generalize (L.mergeSort λx y=>decide (x<=y))=M at F O m
 have u:∀(j:Nat)(z:Int),M[j]? =some z->(j:Int)<=z:=by
  intro j
  induction j with
  |zero=>intro z g;exact(m z (Ze g)).1
  |succ j P=>
   intro z g;have J:=(Zb.1 g).1;have a:=P (M[j]'om) (Zc _);have b:=(List.pairwise_iff_getElem.1 F) j (j+1) om J om;have c:M[j+1]=z:=(Zb.1 g).2;omega
 cases Q:M.length with
 |zero=>omega
 |succ k=>
  have B:k<M.length:=om;have a:=u k (M[k]) (Zc B);have b:=(m (M[k]) (List.getElem_mem B)).2;omega
theorem xc{L M:List Int}(m:L.Nodup)(u:M.Pairwise (· < ·))(h:∀z,z∈L↔z∈M):(L.mergeSort λx y=>decide (x<=y))=M:=by
 refine zC ?_ u (λz=>by rw[List.mem_mergeSort];exact h z);have k:=List.pairwise_mergeSort (le:=λx y:Int=>decide (x<=y)) (λa b c k g=>by simp at*;omega) (λa b=>so) L;have g:(L.mergeSort λx y=>decide (x<=y)).Nodup:=(List.mergeSort_perm L _).nodup_iff.2 m;rw[List.Nodup]at g;exact(k.and g).imp (λh=>by simp at h;omega)
theorem kY:∀a b:Int,iK a=iK b->a=b:=λa b h=>by injection h
def UZ(W:World)(mb r:Nat)(V:Int->Option Value)(lv:Value)(wr:World):Prop:=
 ∃left cnt zs,aO iK wr mb r V left cnt/\aL wr (r+1) lv zs/\zs.Nodup/\(∀z,z∈zs↔V z≠none/\¬left z)/\Below W.heap.size W wr
theorem kC(w:World)(b p mb:Nat)(S:List Nat)(g:G)(v:Int)(E:Int->Option (List Ed))(h:aJ w b p mb S g v E)(hE:∀z:Int,E z≠none↔∃c:Nat,z=c/\g.av c):Calls Tryz.prog 55 #[vP b] w (rP w (aA g)):=by
 obtain⟨g1,g2,⟨V,N,q1,q2,q3,q4,q5,q6,q7⟩,g4⟩:=h;have a9:w.cell? ⟨b,1,none⟩=some (.map (some mb)):=by simp[World.cell?,g1]
 have hV:∀z:Int,V z≠none↔∃c:Nat,z=c/\g.av c:=λz=>by rw[<-hE z];exact(not_congr (q2 z)).symm
 have ba:=q1.lt;have bd:=G.bA g2.1;clear g1 g2 q2 q3 q4 q5 q6 q7 g4 hE;have HV:=hid hV;clear hV;go_enter Tryz.func55,Tryz.ntmps55;go_wp2_with (at_range;refine dY rfl _ rfl kY Tryz.underlying124 q1 rfl ?_;intro w1 F aE a7);go_frame;obtain⟨r,hr⟩:=rX w.heap.size
 rw[hr]at F⊢;have hstart:UZ w mb r V (.slice none 0 0) w1:=⟨_,N,[],F,aL.nil _ _,rS,λz=>rS,aE⟩
 have I:∀Z:List Int,Z.Nodup->(∀z∈Z,V z≠none)->Z.length<=256:=λZ h1 h2=>by
  refine Be h1 (λz hz=>?_);obtain⟨c,rfl,hc⟩:=(HV.out z).1 (h2 z hz);have:=hc.1;omega
 have L:=hid I;have bi:w.heap.size<=r:=om;have bg:mb<r:=om;clear F aE a7 q1 a9 I hr;go_loopw [3] (λlv wr=>UZ w mb r V lv wr) (λ_ wr=>wr.rangeLeft mb r)
 case atStart=>exact hstart
 case round=>
  obtain⟨left,bc,Z,F,hO,am,M,hB⟩:=hrel;clear hstart;have hleft:=hid F.left_eq;have ao:=hid am;have J:=hid M;have a6:=L.out Z am (λz hz=>((M z).1 hz).1);clear am M;go_wp2_with (at_next;refine fD rfl _ rfl kY F rfl ?_ ?_)
  .intro h0 hl
   have ab:∀z,z∈Z↔z∈aA g:=λz=>by
    rw[J.out z,and_iff_left (hl z),HV.out z];constructor
    .rintro⟨c,rfl,hc⟩
     obtain⟨i,hi,rfl⟩:=mM hc;rw[<-(bW hi).1,Zk,Zc hi];exact List.getElem_mem hi
    .intro hz
     obtain⟨i,hi⟩:=Zo hz;have a1:=(Zb.1 hi).1;have e:=(bW a1).1;rw[Zk,hi]at e;exact⟨_,e,(bW a1).2⟩
   have U:=xc ao.out (jG g) ab;have ag:=hid U;have cS:=hid (EJ wr (r+1) _ Z hO om (by have:=F.lt.2;omega));clear hl ab U F;go_wp2_with fail;(with_reducible refine cS.out.mono ?_);rintro e w2 ⟨rfl,ai,aS⟩;rw[ag.out]at ai;have ax:Below w.heap.size w w2:=hB.trans (aS.mono om);have B:=hid (uY (aL.mono ai om) ax);clear ai aS ax;go_wp2;go_ret;exact B.out
  .intro k u w4 ar hk a3 Q a4 ay a8 a0
   have aa:=hO.Ic (S:=[r]) ay rS;have a5:Below w.heap.size w w4:=Kept.below hB ay hB.size so;have bh:=Q.lt;have a2:k∉Z:=λh=>((J.out k).1 h).2 a3
   have ac:(Z++[k]).Nodup:=by
    rw[List.nodup_append];exact⟨ao.out,rS,λa ha b hb=>by simp at hb;subst hb;intro e;subst e;exact a2 ha⟩
   have O:∀z,z∈Z++[k]↔V z≠none/\¬(left z/\¬z=k):=λz=>by
    rw[Zl,J.out z,List.mem_singleton];constructor
    .rintro(⟨a,c⟩|rfl)
     .exact⟨a,λh=>c h.1⟩
     .exact⟨by rw[hk];simp,λh=>h.2 rfl⟩
    .rintro⟨a,c⟩
     by_cases e:z=k
     .exact .inr e
     .exact .inl ⟨a,λh=>c ⟨h,e⟩⟩
   have ap:=hid ac;have ad:=hid O;have aq:=hid Q;have bb:r+1<=w4.heap.size:=om;rw[show iK k=rI k from rfl]at a0⊢;clear F hO hB a2 ac O Q a3 hk a8;go_wp2_with (at_builtin;(refine bH _ rfl _ _ rfl (r+1) _ _ _ rfl (aa.alloc _) ⟨w4.heap.size,0,none⟩ rfl (dh _ _ _) om so ?_);intro v' w9 P m)
   have aw:=below_grown (a5.alloc om _) so ((aL.mono aa (show w.heap.size<=r+1 by omega)).alloc _) m;have T:∀q,_=some q->r+1<=q:=λq hq=>(World.ownsRow.lt aa q hq).1
   have R:=(aq.out.below (ah br)).kept (w':=w9) (S:=(Value.ownBlock _).toList) ⟨m.os,m.tape,m.output,m.size,λq hq hn=>m.block q hq (λe=>hn (by rw[<-e];simp))⟩
    (by intro hh;rw[Zv]at hh;have:=T _ hh;omega) (by intro hh;rw[Zv]at hh;have:=T _ hh;omega)
   have B:UZ w mb r V v' w9:=⟨_,ar,_,R,P,ap.out,ad.out,aw⟩;have al:=R.left_eq;have al:=hid al;have B:=hid B;clear P m aa aw R T a0;go_wp2;go_roundw
   case rel=>exact rR B.out
   case measure=>rw[hleft.out,al.out];exact a4
end Go.Proofs.YtnifggkjieemeaaGreatDoor
