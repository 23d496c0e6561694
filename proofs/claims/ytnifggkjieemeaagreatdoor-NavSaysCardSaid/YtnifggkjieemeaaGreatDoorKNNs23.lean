/- Lemmas of this claim: Rays, REdges, RGraph, RConn, Conn, Lv1, Lv2, Lv3, Lv4, LvM, Lv5, Bst0, MathFree, AsGraph, Links. -/
import Derived.Test.YtnifggkjieemeaaGreatDoorKNNs22
import Derived.Test.YtnifggkjieemeaaGreatDoorKNNs20
set_option linter.unusedVariables false
set_option linter.unusedSimpArgs false
set_option maxHeartbeats 6400000
set_option maxRecDepth 100000
open Go.Proofs.Tryz
namespace Go.Proofs.YtnifggkjieemeaaGreatDoor
section
open Go.Lib (hid)
open Go.RowKit Go.Sort FR Go.Lib
variable {a:Act}{ops:Array Oper}{self:Bool}{Q:Exit->Act->World->Prop}{g:G}{E:Int->Option (List Ed)}{V:Int->Option Value}{Zs:List (Array Value)}{S:List Nat}{B b ca k:Nat}{o:Oper}{A:Option Addr}{v:Value}{w w':World}
theorem MS:(prog.info? 198).map (λi=>(i.zero.map λz=>z.cells.size,i.size,i.bytes))=some (some 769,769,4360):=kr
theorem MU:∃i z,prog.info? 198=some i/\i.zero=some z/\i.size=769/\i.bytes=4360/\z.cells.size=769:=by
 obtain⟨i,J,h⟩:=Option.map_eq_some_iff.1 MS;simp only[Prod.mk.injEq]at h;obtain⟨m,u,F⟩:=h;obtain⟨z,L,I⟩:=Option.map_eq_some_iff.1 m;exact⟨i,z,J,L,u,F,I⟩
def qc(Zs:List (Array Value)):List Value:=Zs.flatMap (·.toList)
def uo(w:World)(B:Nat)(v:Value)(Zs:List (Array Value)):Prop:=w.ownsRow B 198 769 v Zs.length (qc Zs)/\∀Z∈Zs,Z.size=769
theorem uo.nil(w:World)(B:Nat):uo w B (.slice none 0 0) []:=⟨⟨rfl,.inl ⟨rfl,rfl⟩⟩,rS⟩
theorem Fy(L M:List (Array Value)):qc (L++M)=qc L++qc M:=by simp[qc]
theorem Fz:∀(L:List (Array Value))(_:∀Z∈L,Z.size=769)(i:Nat)(Z:Array Value),L[i]? =some Z->∀j v,Z.toList[j]? =some v->(qc L)[i*769+j]? =some v
 |[],_,i,Z,h=>by simp at h
 |X::L,u,0,Z,h=>by
  simp at h;subst h;intro j v m;have e:qc (X::L)=X.toList++qc L:=by simp[qc]
  have I:=(Zb.1 m).1;rw[e,List.getElem?_append_left om];simpa using m
 |X::L,u,i+1,Z,h=>by
  simp at h;intro j v m;have e:qc (X::L)=X.toList++qc L:=by simp[qc]
  have F:=u X rS;rw[e,Zz (by rw[Array.length_toList];omega),Array.length_toList,F];have:=Fz L (λY z=>u Y (by simp[z])) i Z h j v m;rw[show(i+1)*769+j-769=i*769+j by omega];exact this
def mF(w:World)(A:Option Addr)(Zs:List (Array Value)):Prop:=0<Zs.length->∃g,A=some ⟨g,0,none⟩/\g<w.heap.size/\∀i Z,Zs[i]? =some Z->w.rangeAt g (i*769) Z.toList
theorem uo.X6(h:uo w B v Zs):∃A m,v=.slice A Zs.length m/\mF w A Zs/\∀z,A=some z->B<=z.block/\z.block<w.heap.size:=by
 obtain⟨h,O⟩:=h;rcases h.2 with⟨rfl,J⟩|⟨g,m,I,rfl,L,F,_,_,_,u⟩
 .exact⟨none,0,by rw[J],(λh=>om),λz e=>by cases e⟩
 .refine⟨_,m,rfl,λ_=>⟨g,rfl,(Za.1 F).1,λi Z M j v P=>?_⟩,λz e=>?_⟩
  .have:=Fz Zs O i Z M j v P
   rw[<-u,ZA]at this;split at this
   .rw[ZB]at this
    simp[World.cell?,F,this]
   .cases this
  .injection e with e
   subst e;exact⟨L,(Za.1 F).1⟩
theorem mF.below(h:mF w A Zs)(m:Below w.heap.size w w'):mF w' A Zs:=λJ=>by
 obtain⟨g,u,z,F⟩:=h J;exact⟨g,u,Zf z m.size,λi Z I=>dE (F i Z I) m⟩
theorem Pg{g n m k:Nat}(h:A=some ⟨g,0,none⟩)(z:k<n)(u:World):(Instr.indexAt 196 (.slice A n m) (rI (k:Nat))).run prog u=.ok (.pointer (some ⟨g,k*769,none⟩)) u:=by
 subst h;have q:(k:Int)<(n:Int):=om;go_simp
theorem Es:∀(l:List Value)(k:Nat)(m:Array Value),k+l.length<=m.size->
 ∀i,((l.zipIdx k).foldl (λm(x:Value×Nat)=>m.setIfInBounds (0+x.2) x.1) m)[i]? =if k<=i/\i<k+l.length then l[i-k]? else m[i]?
 |[],k,m,_,i=>so
 |v::l,k,m,h,i=>by
  simp only[List.zipIdx_cons,List.foldl_cons];rw[Es l (k+1) _ (by simp at h⊢;omega) i];simp at h;by_cases e:i=k
  .subst e
   rw[if_neg om,if_pos ⟨om,rS⟩];rw[Zx,Array.getElem?_setIfInBounds_self_of_lt om];simp
  .by_cases u:k+1<=i/\i<k+1+l.length
   .rw[if_pos u,if_pos ⟨om,so⟩]
    obtain⟨j,z⟩:∃j,i-k=j+1:=⟨i-k-1,om⟩;rw[z,List.getElem?_cons_succ,show i-(k+1)=j by omega]
   .rw[if_neg u,if_neg so,Zx,Array.getElem?_setIfInBounds_ne om]
theorem OY{Z cs:Array Value}(h:cs.size=Z.size):Z.zipIdx.foldl (λcs(x:Value×Nat)=>cs.setIfInBounds (0+x.2) x.1) cs=Z:=by
 apply Array.ext_getElem?;intro i;have m:=Es Z.toList 0 cs so i
 have e:Z.zipIdx.foldl (λcs(x:Value×Nat)=>cs.setIfInBounds (0+x.2) x.1) cs=(Z.toList.zipIdx 0).foldl (λcs(x:Value×Nat)=>cs.setIfInBounds (0+x.2) x.1) cs:=by
  rw[<-Array.foldl_toList];simp
 rw[e,m];by_cases u:i<Z.size
 .rw[if_pos ⟨om,so⟩];simp
 .rw[if_neg so,Array.getElem?_eq_none om,Array.getElem?_eq_none om]
theorem De(w:World)(Z:Array Value)(M:Z.size=769):(Instr.buildSlice 196 1 #[(0,.agg Z)]).run prog w=.ok (.slice (some ⟨w.heap.size,0,none⟩) 1 1) (w.alloc (.cells Z 198 (0,0))):=by
 have F:(Value.agg Z).cells=Z:=rfl;have m:(Value.agg zeroCells198).cells=zeroCells198:=rfl;have L:zeroCells198.size=769:=by rw[uh,fZ]
 obtain⟨z,u⟩:∃z,(Array.range (1*769)).map (λi=>zeroCells198[i%zeroCells198.size]!)=z:=⟨_,rfl⟩;have J:z.size=769:=by rw[<-u];simp
 have I:Instr.fill (λi=>some (i*769,769)) z [(0,.agg Z)]=some Z:=by
  simp only[Instr.fill,F];rw[if_neg so];congr 1;exact OY om
 unfold Instr.buildSlice;simp only[Sem.run_bind,Sem.run_pure,Result.andThen_ok,run_underlying underlying196,sizeOf198,zeroValue198,m];rw[if_neg rD,if_neg rD];simp only[Sem.run_bind,Sem.run_pure,Result.andThen_ok,zeroValue198,m,u,I];rfl
theorem Gb{P:Program}(w:World){m:List Oper}(u:o.guard=none)(t:TypeId)(x:Operand)(I:o.op=.buildSlice t 1 #[(0,x)])(v:Value)(L:a.eval x=v){z:Value}(J:(Instr.buildSlice t 1 #[(0,v)]).run P w=.ok z w')(h:wpList P ops Q m (a.put o.dst z) w'):wpList P ops Q (o::m) a w:=
 wpList_plain u λ_ F=>by
  unfold Oper.wp execOp;simp only[I,Sem.run_bind,Sem.run_pure,Result.andThen_ok,List.map_toArray,List.map_cons,List.map_nil,L,J];exact F _ _ h
theorem Aa{K:Act->World->Prop}{X:Prop}(S:o.guard=none)(s x:Operand)(ho:o.op=.call {callee:=.builtin .append,args:=#[s,x],argTypes:=#[119,119]})(B:Nat)(v:Value)(L:List Ed)(e:Ed)(hs:a.eval s=v)(F:bf w B v L)(ad:Addr)(hx:a.eval x=.slice (some ad) 1 1)(k:∀j u,e.cells[j]? =some u->w.cell? (ad.add j)=some u)(hl:L.length<=100000)(Z:B<=w.heap.size)(h:∀m z,bf z B m (L++[e])->w.grownBy z v.ownBlock->(m.ownBlock=v.ownBlock\/m.ownBlock=some w.heap.size)->K (a.put o.dst m) z):if Region.wanted o (yielded ops a.tmps)=true then Oper.wp prog o a w K Q else X:=by
 obtain⟨i0,z0,hi,I,J,M,O⟩:=fV;obtain⟨m,z,hr,R,T,h4,U⟩:=run_append_own_at (P:=prog) w B 119 o.type 192 i0 z0 4 32 underlying119 hi I J M O rD v L.length (dM L) F ad 1 1 e.cells rfl k (oG e) (by unfold maxLen;omega) om Z;have hw:Region.wanted o (yielded ops a.tmps)=true:=by simp[Region.wanted,S]
 rw[if_pos hw];unfold Oper.wp
 have g:bf z B m (L++[e]):=by
  unfold bf;rw[Zp,iO,dz,xG,List.append_nil];exact R
 simp[execOp,ho,resolve,invoke,builtin,hs,hx,hr,Result.andThen];exact h m z g T U
open Classical in
noncomputable def xC(g:G)(ca:Nat)(self:Bool)(k:Nat):List Ed:=
 ((List.range k).filter λi=>decide (g.aK ca (cf g i))&&(self|| !(cf g i==ca))).map λi=>⟨(cf g i:Nat),g.cZ ca (cf g i),-1⟩
theorem xD(g:G)(ca:Nat)(self:Bool)(k:Nat):(xC g ca self k).length<=k:=by
 unfold xC;rw[Zr];exact Zg (List.length_filter_le _ _) rS
open Classical in
theorem Jz(m:g.aK ca (cf g k))(u:self=true\/cf g k≠ca):xC g ca self (k+1)=xC g ca self k++[⟨(cf g k:Nat),g.cZ ca (cf g k),-1⟩]:=by
 unfold xC;rw[List.range_succ,List.filter_append,List.map_append]
 have:(decide (g.aK ca (cf g k))&&(self|| !(cf g k==ca)))=true:=by
  rcases u with h|h<;>simp[m,h]
 simp[this]
open Classical in
theorem GU(h:¬g.aK ca (cf g k)\/(self=false/\cf g k=ca)):xC g ca self (k+1)=xC g ca self k:=by
 unfold xC;rw[List.range_succ,List.filter_append,List.map_append]
 have:(decide (g.aK ca (cf g k))&&(self|| !(cf g k==ca)))=false:=by
  rcases h with h|⟨m,u⟩
  .simp[h]
  .simp[m,u]
 simp[this]
open Classical in
theorem kK{e:Ed}:e∈xC g ca self (aA g).length↔∃y:Nat,g.av y/\(self=true\/y≠ca)/\g.aK ca y/\e=⟨y,g.cZ ca y,-1⟩:=by
 unfold xC;rw[List.mem_map];constructor
 .rintro⟨i,u,rfl⟩
  rw[List.mem_filter,List.mem_range]at u;obtain⟨z,m⟩:=u;simp only[Bool.and_eq_true,decide_eq_true_eq,Bool.or_eq_true,Bool.not_eq_true',Zq]at m;exact⟨_,(bW z).2,m.2,m.1,rfl⟩
 .rintro⟨y,z,m,F,rfl⟩
  obtain⟨i,u,rfl⟩:=mM z;refine⟨i,?_,rfl⟩;rw[List.mem_filter,List.mem_range];refine⟨u,?_⟩;simp only[Bool.and_eq_true,decide_eq_true_eq,Bool.or_eq_true,Bool.not_eq_true',Zq];exact⟨F,m⟩
open Classical in
theorem TQ:(xC g ca self (aA g).length).Pairwise (λa b=>a.to_<b.to_):=by
 unfold xC;rw[List.pairwise_map];refine(List.Pairwise.filter _ (List.pairwise_lt_range.imp_of_mem ?_));intro i j z u m;rw[List.mem_range]at u;have:=D8 m u;simp only;omega
theorem bf.mono{B B':Nat}{L:List Ed}(h:bf w B v L)(F:B'<=B):bf w B' v L:=by
 refine⟨h.1,?_⟩;rcases h.2 with J|⟨g,u,z,rfl,I,m⟩
 .exact .inl J
 .exact .inr ⟨g,u,z,rfl,Zg F I,m⟩
def Ca(w:World)(L:List Ed)(e:Ending)(w':World):Prop:=∃vE,e=.returned vE/\bf w' w.heap.size vE L/\Below w.heap.size w w'
def NS(g:G)(Zs:List (Array Value)):Prop:=Zs.length=(aA g).length/\∀i Z,Zs[i]? =some Z->∃c is,Z=dX (cf g i) c is/\ik g (cf g i) c is
theorem VU(w:World)(p:Nat)(g:G)(v:Int)(ca:Nat)(c1:Nat->C)(i1:Nat->Bool)(Z1:Array Value)(AR A:Option Addr)(n mR m:Nat)(Zs:List (Array Value))(self:Bool)(h:aG w p g v)(bj:ca<g.n)(aw:dX ca c1 i1=Z1)(h1:ik g ca c1 i1)(hI:Ints w A n (λk=>(aA g).getD k 0))(hn:(aA g).length=n)(hR:mF w AR Zs)(bc:NS g Zs):Calls prog 110 #[vP p,.agg Z1,.slice AR n mR,.slice A n m,.bool self] w (Ca w (xC g ca self n)):=by
 have cd:=G.bA h.1;have b0:n<=256:=by rw[<-hn];exact bM h.1
 have b1:Z1.size=769:=by rw[<-aw,fZ]
 have cg:Z1.all (·.oneCell')=true:=by rw[<-aw];exact xN _ _ _
 have a8:=hid aw;have H1:=hid h1;have Hn:=hid hn;have HI:=hid hI;have HR:=hid hR;have aE:=hid bc;have HG:=hid h;have ab:=h.lt;clear aw h1 hn hI hR bc h;go_enter func110,ntmps110;go_upto_region 2 with(fail);refine aB ?_;intro W hW;have HW:Below w.heap.size w W:=by rw[hW];exact be
 have hA:W.heap[w.heap.size]? =some (.cells Z1 198 (0,0)):=by rw[hW];exact alloc_at _ _ rfl
 obtain⟨b6,a5⟩:=rX w.heap.size;have b7:=hid a5;rw[a5]at hA⊢;clear hW a5;have cA:=hid (λB hb=>zA (w':=B) hA a8.out hb);have g1:=hid (Bp hA);have bh:b6<W.heap.size:=(Za.1 hA).1;clear hA;go_wp2_with fail;go_loopw [11,12] (λlv kv wr=>∃i:Nat,kv=rI i/\i<=n/\bf wr W.heap.size lv (xC g ca self i)/\Below W.heap.size W wr) (λ_ kv _=>n-(intOf kv).toNat)
 case atStart=>exact⟨0,rfl,om,bf.nil _ _,br⟩
 case round=>
  obtain⟨i,rfl,hi,hO,hB⟩:=hrel;have HO:=hid hO;clear hO;by_cases aa:i<n
  .have ag:=(HI.out.below HW).below hB
   have b5:=hid ag;obtain⟨ad,hA⟩:=ag.addr om;rw[hA]at ag;have bx:=λwx=>aP (m:=m) hA aa wx;have hE:=ag.cell br aa;rw[(bW (by rw[Hn.out];exact aa)).1]at hE;obtain⟨y,hy⟩:=rX (cf g i);have bo:g.av y:=by rw[<-hy];exact(bW (by rw[Hn.out];exact aa)).2
   rw[hy]at hE;have Hy:=hid hy
   have b2:ad.block<W.heap.size:=by
    obtain⟨b9,e',bz,_⟩:=HI.out om;rw[hA]at e';injection e' with e'
    rw[e'];exact Zf bz HW.size
   have a0:=(cA.out wr hB).1;clear ag hA hy;have ao:self=false->y=ca->xC g ca self (i+1)=xC g ca self i:=λh1 h2=>GU (.inr ⟨h1,by rw[Hy.out];exact h2⟩);have a1:=hid ao;have ce:=xD g ca self i;clear ao;go_upto_region 5 with(fail);by_cases P:y=ca/\self=false
   .obtain⟨rfl,rfl⟩:=P
    have a6:((y:Int)==(y:Int))=true:=rS;go_quiet (fail);have O:=HO.out.kept (w':=wr.drewN nq) (T:=[]) (.of_below (ak br)) (λ_ _=>rS);rw[<-a1.out rfl rfl]at O;have O:=hid O;clear hE bx a0 HO a6;go_wp2
    first
     |exact⟨⟨i+1,by go_num,om,O.out,ak hB⟩,by simp[intOf];omega⟩
     |(go_roundw;(case rel=>exact⟨i+1,by go_num,om,O.out,ak hB⟩);(case measure=>exact rM))
   .have L:self=true\/y≠ca:=by
     by_cases h1:y=ca
     .left
      cases hs:self with
      |true=>rfl
      |false=>exact absurd ⟨h1,hs⟩ P
     .exact .inr h1
    have ac:=hid L;go_cut [30] (λs wx=>s=.bool false/\Below wr.heap.size wr wx)
    case first=>
     by_cases h1:y=ca
     .have hs:self=true:=by
       rcases ac.out with q|q
       .exact q
       .exact absurd h1 q
      subst h1;subst hs;have a6:((y:Int)==(y:Int))=true:=rS;clear P L;go_quiet (fail);go_wp2;go_meet
      case rel=>exact⟨rfl,ak br⟩
     .have a6:((y:Int)==(ca:Int))=false:=so
      clear P L;go_quiet (fail);go_wp2;go_meet
      case rel=>exact⟨rfl,ak br⟩
    case rest=>
    obtain⟨rfl,ai⟩:=hcut;have R:=ae hB ai;have bb:=hid (HO.out.kept (T:=[]) (.of_below ai) (λ_ _=>rS));have hE:=af ai hE;have a0:=af ai a0;have bd:=((HR.out.below HW).below R);obtain⟨gr,a9,_,bm⟩:=bd (by rw[aE.out.1,Hn.out];omega);have bp:i<Zs.length:=by rw[aE.out.1,Hn.out];exact aa
    obtain⟨Z2,a4⟩:∃Z,Zs[i]? =some Z:=⟨Zs[i]'bp,Zc _⟩;have g2:=bm i Z2 a4;obtain⟨c2,i2,ax,a2⟩:=aE.out.2 i Z2 a4;rw[Hy.out]at ax a2;have bk:=λwx=>Pg (n:=n) (m:=mR) a9 aa wx;obtain⟨t,ht⟩:=Jn (g.aK ca y);have Ht:=hid ht;have cD:=hid (λB(hb:Below wc.heap.size wc B)=>Fv B p g v ca y c1 c2 i1 i2 Z1 Z2 A n m t ((((HG.out.below HW ab).below R (Zf ab HW.size)).below hb (Zf ab (Zg HW.size R.size)))) bj bo.1 a8.out ax.symm H1.out a2 (((HI.out.below HW).below R).below hb) Hn.out ht);have bq:Z2.size=769:=by rw[ax,fZ]
    have s1:(prog.info? 198).map (·.size)=some Z1.toList.length:=by rw[Array.length_toList,b1];exact jR
    have s2:(prog.info? 198).map (·.size)=some Z2.toList.length:=by rw[Array.length_toList,bq];exact jR
    have u1:=underlying198;have e1:Z1.toList.toArray=Z1:=Array.toArray_toList ..;have e2:Z2.toList.toArray=Z2:=Array.toArray_toList ..;have gA:=dE g1.out R;clear P L ai a9 bm bp a4 ax a2 ht bd HO bq;go_upto_region 6 with(fail);refine wp_region_noPanic ?_;refine wp_region_held_drew (S:=λB=>B.rangeAt b6 0 Z1.toList/\B.rangeAt gr (i*769) Z2.toList) kr ⟨gA,g2⟩ (λa3=>?_);refine' wpAnyH_take (i:=1) (oi:={dst:=some 32,op:=.load 198 (.tmp 6),type:=198,pos:= "parts.go:563",after:=#[],guard:=none}) (v:=_) rfl kr kr kr (λ_ _ _ h=>h) (yieldsIf_load_mid (by rfl) 198 (.tmp 6) rfl b6 0 rfl Z1.toList _ (λw h=>h.1) u1 rfl s1) au ?_;simp only[Act.put,Zh,Zm,Zn];refine wpAnyH_take (i:=0) (oi:={dst:=some 31,op:=.move (.tmp 0),type:=39,pos:= "parts.go:563",after:=#[],guard:=none}) (v:=vP p) rfl kr kr kr (λ_ _ _ h=>h) (Or.inl ⟨by rfl,λw ar=>by go_simp⟩) au ?_
    simp only[Act.put,Zh,Zm,Zn];refine wpAnyH_take (i:=2) (oi:={dst:=some 33,op:=.move (.tmp 2),type:=196,pos:= "parts.go:563",after:=#[],guard:=none}) (v:=.slice AR n mR) rfl kr kr kr (λ_ _ _ h=>h) (Or.inl ⟨by rfl,λw ar=>by go_simp⟩) au ?_;simp only[Act.put,Zh,Zm,Zn];refine wpAnyH_take (i:=3) (oi:={dst:=some 34,op:=.move (.tmp 12),type:=3,pos:= "parts.go:563",after:=#[],guard:=none}) (v:=rI (i:Nat)) rfl kr kr kr (λ_ _ _ h=>h) (Or.inl ⟨by rfl,λw ar=>by go_simp⟩) au ?_;simp only[Act.put,Zh,Zm,Zn];refine wpAnyH_take (i:=4) (oi:={dst:=some 35,op:=.indexAddr 196 (.tmp 33) (.tmp 34),type:=0,pos:= "parts.go:563",after:=#[{on:=2,ground:=.data},{on:=3,ground:=.data}],guard:=none}) (v:=.pointer (some ⟨gr,i*769,none⟩)) rfl kr kr kr (λ_ _ _ h=>h) (Or.inl ⟨by rfl,λw ar=>by go_simp⟩) au ?_
    simp only[Act.put,Zh,Zm,Zn];refine' wpAnyH_take (i:=5) (oi:={dst:=some 36,op:=.load 198 (.tmp 35),type:=198,pos:= "parts.go:563",after:=#[{on:=4,ground:=.data}],guard:=none}) (v:=_) rfl kr kr kr (λ_ _ _ h=>h) (yieldsIf_load_mid (by rfl) 198 (.tmp 35) rfl gr (i*769) rfl Z2.toList _ (λw h=>h.2) u1 rfl s2) au ?_;simp only[Act.put,Zh,Zm,Zn];refine wpAnyH_take (i:=6) (oi:={dst:=some 37,op:=.move (.tmp 3),type:=51,pos:= "parts.go:563",after:=#[],guard:=none}) (v:=.slice A n m) rfl kr kr kr (λ_ _ _ h=>h) (Or.inl ⟨by rfl,λw ar=>by go_simp⟩) au ?_;simp only[Act.put,Zh,Zm,Zn];rw[e1,e2];refine wpAnyH_ready (rs:=[7]) kr rS ?_;refine AllReadyH.cons (o:={dst:=some 38,op:=.call {callee:=.value (.func 159),args:=#[.tmp 31,.tmp 32,.tmp 36,.tmp 37],argTypes:=#[39,198,198,51]},type:=4,pos:= "parts.go:563",after:=#[{on:=0,ground:=.data},{on:=1,ground:=.data},{on:=5,ground:=.data},{on:=6,ground:=.data}],guard:=none}) rfl (λK hK=>?_) .nil
    go_simp;go_at_call 159;(with_reducible refine(cD.out _ (aj br)).mono ?_);rintro e wB ⟨rfl,bi⟩;have I:=ae (aj (Below.refl wc.heap.size wc)) bi;dsimp only;refine hK.out _ _ ⟨dE gA I,dE g2 I⟩ (λap=>?_);clear hK K;try dsimp only
    try simp only[Act.put,Zh,Zm,Zn]
    refine wpAnyH_ready (rs:=[8]) kr rS ?_;refine AllReadyH.cons (o:={dst:=some 13,op:=.assign (.tmp 38),type:=4,pos:= "parts.go:563",after:=#[{on:=7,ground:=.data},{on:=7,ground:=.chain},{on:=0,ground:=.phase},{on:=1,ground:=.phase},{on:=2,ground:=.phase},{on:=3,ground:=.phase},{on:=4,ground:=.phase},{on:=5,ground:=.phase},{on:=6,ground:=.phase},{on:=7,ground:=.phase}],guard:=none}) rfl (λK hK=>?_) .nil;go_simp;refine hK.out _ _ ⟨dE gA I,dE g2 I⟩ (λaq=>?_);clear hK K;try dsimp only
    try simp only[Act.put,Zh,Zm,Zn]
    refine wpAnyH_done kr ?_ _;refine NoPanic.normal ?_;have Q:=hid (bb.out.kept (T:=[]) (.of_below I) (λ_ _=>rS));have M:=ae R I;have hE:=af I hE;have a0:=af I a0;clear a3 ap aq bi I gA g2 cD e1 e2 s1 s2 u1 bk bb R hB;cases t with
    |false=>
     have bl:¬g.aK ca y:=λhh=>by have:=Ht.out.2 hh;cases this
     have O:=Q.out;rw[<-GU (g:=g) (ca:=ca) (k:=i) (self:=self) (.inl (by rw[Hy.out];exact bl))]at O;have O:=hid O;clear bl Q hE a0 Ht;go_wp2
     first
      |exact⟨⟨i+1,by go_num,om,O.out,M⟩,by simp[intOf];omega⟩
      |(go_roundw;(case rel=>exact⟨i+1,by go_num,om,O.out,M⟩);(case measure=>exact rM))
    |true=>
     have ay:g.aK ca y:=Ht.out.1 rfl;obtain⟨⟨os,od⟩,a7⟩:=rX (g.cZ ca y);have cO:=hid (λB(hb:Below wB.heap.size wB B)=>Xk B p g v ca y ⟨os,od⟩ ((((HG.out.below HW ab).below M (Zf ab HW.size)).below hb (Zf ab (Zg HW.size M.size)))) bj bo.1 a7);have U:=Jz (g:=g) (ca:=ca) (k:=i) (self:=self) (by rw[Hy.out];exact ay) (by rw[Hy.out];exact ac.out);rw[Hy.out,a7]at U;have aS:=hid U;have b3:=ZF _ _ hE;have b4:b6<=wB.heap.size:=Zg (Nat.le_of_lt bh) M.size;have n1:=World.new_ne wB _ hE;have n2:=World.new_ne wB _ a0;have b8:=λo=>aD (o:=o) a0;have cb:=λo=>aD (o:=o) hE;clear ay a7 U Ht;go_upto_region 8 with(fail)
     go_region_held3 (λB=>B.cell? ⟨b6,0,none⟩=some (rI (ca:Nat))/\B.cell? (ad.add i)=some (rI (y:Nat)))
      (first
       |(go_keep;done)
       |(go_split_ands
         exact⟨af F au,af F au⟩)
       |(go_split_ands
         exact⟨aD au,aD au⟩)
       |exact bg
       |(go_split_ands
         refine⟨?_,?_⟩<;>(go_keep;done)))
      (first
       |(go_at_call 160
         refine(cO.out _ (aj br)).mono ?_;rintro e wP ⟨rfl,F⟩;obtain⟨bv,bw⟩:=Og F)
       |(refine Aa rfl _ _ rfl W.heap.size _ _ ⟨(y:Nat),⟨os,od⟩,-1⟩ (by simp[Act.eval,Act.put]) (Q.out.kept (T:=[]) (.of_below (ah (ae (aj br) F))) (λ_ _=>rS)) ⟨wP.heap.size,0,none⟩ (by simp[Act.eval,Act.put]) (λj u hu=>by rw[Addr.add_lit,Zx];exact dH (alloc_at wP _ rfl) j u hu) om (by have h1:=M.size;have h2:=F.size;simp;simp at h2;omega) ?_
         intro v' w9 am J bt
         have bg:w9.cell? ⟨b6,0,none⟩=some (rI (ca:Nat))/\w9.cell? (ad.add i)=some (rI (y:Nat)):=
          ⟨J.cell (aD (af (ae (aj br) F) a0)) (λe=>by have:=(World.ownsRow.lt Q.out _ e.symm).1;simp only at this;omega),
           J.cell (aD (af (ae (aj br) F) hE)) (λe=>by have:=(World.ownsRow.lt Q.out _ e.symm).1;rw[add_block]at this;omega)⟩))
     all_goals
      have O:=am;rw[<-aS.out]at O;have ba:Below W.heap.size W w9:=(ah (ae M (ae (aj br) F))).grown J (by have h1:=M.size;have h2:=F.size;simp;simp at h2;omega) (λk hk=>(World.ownsRow.lt Q.out k hk).1);have O:=hid O;clear am J bt bg bv bw F;go_wp2
      first
       |exact⟨⟨i+1,by go_num,om,O.out,ba⟩,by simp[intOf];omega⟩
       |(go_roundw;(case rel=>exact⟨i+1,by go_num,om,O.out,ba⟩);(case measure=>exact rM))
  .obtain rfl:i=n:=om
   have al:Ca w (xC g ca self i) (.returned _) wr:=⟨_,rfl,HO.out.mono HW.size,ae HW hB⟩;have al:=hid al;clear HO;go_wp2;go_ret;exact al.out
theorem cz.fresh{w g Q:World}{O N N2:Nat}{a:Int}{Z:Value}{L':List Ed}(h1:MapAt iK w O V N)(h2:∀k,E k=none↔V k=none)(h3:∀k u L,V k=some u->E k=some L->bf w 0 u L)(R:∀k u q,V k=some u->u.ownBlock=some q->q∈S)(h5:O∉S)(h6:∀k P u u' q,V k=some u->V P=some u'->u.ownBlock=some q->u'.ownBlock=some q->k=P)(B:∀s,s∈S->s<w.heap.size)(hb:Below w.heap.size w g)(hO:bf g w.heap.size Z L')(hM:MapAt iK Q O (aN V a (some Z)) N2)(U:Kept [O] g Q):cz Q (Z.ownBlock.toList++S) O (bT E a (some L')):=by
 have aa:=h1.lt;have z:∀q,Z.ownBlock=some q->w.heap.size<=q/\q<g.heap.size:=λq I=>World.ownsRow.lt hO q I;refine⟨_,N2,hM,λk=>?_,λk x L m J=>?_,λk x q m I=>?_,?_,λk P x x' q m F I M=>?_,λs hs=>?_⟩
 .unfold bT aN
  split
  .simp
  .exact h2 k
 .unfold bT at J
  unfold aN at m;split at m
  .rename_i e
   rw[if_pos e]at J;injection m with m
   injection J with J
   subst m;subst J;exact(hO.mono (Zw _)).kept U (λq I=>by have:=(z q I).1;simp;omega)
  .rename_i e
   rw[if_neg e]at J
   exact((h3 k x L m J).kept (T:=[]) (.of_below hb) (λ_ _=>rS)).kept U (λq I=>by
    have:=R k x q m I;simp;rintro rfl;exact h5 this)
 .unfold aN at m
  split at m
  .injection m with m
   subst m;exact List.mem_append_left _ (by rw[I];simp)
  .exact List.mem_append_right _ (R k x q m I)
 .rw[Zl]
  rintro(q|q)
  .rw[Zv]at q
   have:=(z O q).1;omega
  .exact h5 q
 .unfold aN at m F
  split at m
  .injection m with m
   subst m;split at F
   .rename_i e1 e2;rw[e1,e2]
   .have a1:=(z q I).1
    have a2:=B q (R P x' q F M);omega
  .split at F
   .injection F with F
    subst F;have a1:=(z q M).1;have a2:=B q (R k x q m I);omega
   .exact h6 k P x x' q m F I M
 .rcases Zl.1 hs with q|q
  .rw[Zv]at q
   exact Zf (z s q).2 U.size
  .exact Zf (B s q) (Zg hb.size U.size)
noncomputable def BL(g:G)(i:Nat):Int->Option (List Ed):=λz=>if ∃j,j<i/\z=(cf g j:Nat)then some (xC g z.toNat false (aA g).length)else none
theorem Nv(g:G):BL g 0=λ_=>none:=by
 funext z;unfold BL;rw[if_neg];rintro⟨j,h,_⟩;omega
theorem Nu(g:G)(i:Nat):bT (BL g i) (cf g i:Nat) (some (xC g (cf g i) false (aA g).length))=BL g (i+1):=by
 funext z;unfold bT BL;by_cases e:z=(cf g i:Nat)
 .rw[if_pos e,if_pos ⟨i,om,e⟩,e];simp
 .rw[if_neg e]
  by_cases h:∃j,j<i/\z=(cf g j:Nat)
  .obtain⟨j,u,m⟩:=h
   rw[if_pos ⟨j,u,m⟩,if_pos ⟨j,om,m⟩]
  .rw[if_neg h,if_neg]
   rintro⟨j,u,m⟩;by_cases q:j=i
   .subst q;exact e m
   .exact h ⟨j,om,m⟩
theorem Dv(g:G):bZ g (λ_ _=>True) (BL g (aA g).length):=by
 refine⟨λz=>?_,λc L m=>?_⟩
 .unfold BL
  constructor
  .intro h
   split at h
   .rename_i q
    obtain⟨j,u,F⟩:=q;exact⟨_,F,(bW u).2⟩
   .exact absurd rfl h
  .rintro⟨c,rfl,m⟩
   obtain⟨j,u,rfl⟩:=mM m;rw[if_pos ⟨j,u,rfl⟩];simp
 .unfold BL at m
  split at m
  .injection m with m
   subst m;simp only[Int.toNat_natCast];refine⟨?_,λe=>?_⟩
   .intro i j a b M O P
    have h:=List.pairwise_iff_getElem.1 (TQ (g:=g) (ca:=c) (self:=false));obtain⟨R,rfl⟩:=Zb.1 O;obtain⟨T,rfl⟩:=Zb.1 P;exact h i j R T M
   .rw[kK]
    constructor
    .rintro⟨y,u,F,I,J⟩;exact⟨y,u,F.resolve_left rS,trivial,I,J⟩
    .rintro⟨y,u,F,_,I,J⟩;exact⟨y,u,.inr F,I,J⟩
  .cases m
theorem tF{b o:Nat}{cs:List Value}(h:w.rangeAt b o cs)(u:Kept S w w')(m:b∉S):w'.rangeAt b o cs:=λj v z=>aH u m (h j v z)
theorem mF.kept(h:mF w A Zs)(u:Kept S w w')(J:∀m,A=some m->m.block∉S):mF w' A Zs:=by
 intro z;obtain⟨g,e,I,L⟩:=h z;exact⟨g,e,Zf I u.size,λi Z F=>tF (L i Z F) u (J _ e)⟩
def lK(w:World)(b mb:Nat)(S:List Nat)(A:Option Addr)(n m:Nat)(g:G):Prop:=
 w.heap[b]? =some (.cells #[.slice A n m,.map (some mb)] 126 (0,0))/\Ints w A n (λk=>(aA g).getD k 0)/\(aA g).length=n/\b∉S/\cz w S mb (BL g n)
def Jb(w:World)(g:G)(e:Ending)(w':World):Prop:=
 ∃b mb S A n m,e=.returned (vP b)/\lK w' b mb S A n m g/\(∀k∈b::mb::S,w.heap.size<=k)/\(b≠mb/\∀ad,A=some ad->w.heap.size<=ad.block)/\Below w.heap.size w w'
def BZ(g:G)(Zs:List (Array Value))(i:Nat):Prop:=Zs.length=i/\∀j Z,Zs[j]? =some Z->∃c is,Z=dX (cf g j) c is/\ik g (cf g j) c is
theorem uo.below(h:uo w B v Zs)(J:Below w.heap.size w w'):uo w' B v Zs:=by
 refine⟨⟨h.1.1,?_⟩,h.2⟩;rcases h.1.2 with L|⟨g,u,z,rfl,I,F,m⟩
 .exact .inl L
 .exact .inr ⟨g,u,z,rfl,I,(J.block g (Za.1 F).1).trans F,m⟩
theorem BZ.snoc{g:G}{u:List (Array Value)}{i:Nat}{Z:Array Value}{c:Nat->C}{is:Nat->Bool}(h:BZ g u i)(I:Z=dX (cf g i) c is)(z:ik g (cf g i) c is):BZ g (u++[Z]) (i+1):=by
 refine⟨by rw[Zp,h.1];rfl,λj X m=>?_⟩;by_cases e:j<u.length
 .rw[List.getElem?_append_left e]at m
  exact h.2 j X m
 .rw[Zz om]at m
  have F:j-u.length=0:=by
   have:=(Zb.1 m).1;simp at this;omega
  rw[F]at m;simp at m;subst m;have:j=i:=by have:=h.1;omega
  subst this;exact⟨c,is,I,z⟩
theorem uo.snoc{w':World}{B:Nat}{z:Value}{m:List (Array Value)}{Z:Array Value}(F:∀X∈m,X.size=769)(I:Z.size=769)(h:w'.ownsRow B 198 769 z (m.length+1) (qc m++Z.toList)):uo w' B z (m++[Z]):=by
 refine⟨?_,λX u=>?_⟩
 .rw[Zp,Fy]
  have:qc [Z]=Z.toList:=by simp[qc]
  rw[this];exact h
 .rw[Zl]at u
  rcases u with q|q
  .exact F X q
  .simp at q;rw[q];exact I
theorem TB(Z:Array Value)(h:Z.all (·.oneCell')=true):∀u∈Z.toList,u.oneCell'=true:=λu m=>(Array.all_eq_true_iff_forall_mem.1 h) u (by simpa using m)
theorem VV(w:World)(p:Nat)(g:G)(v:Int)(h:aG w p g v):Calls prog 57 #[vP p] w (Jb w g):=by
 have cD:=G.bA h.1;have cb:=h.lt;have bh:=@run_makeMap prog;have HG:=hid h;clear h;go_enter func57,ntmps57;go_wp2_with fail;(with_reducible refine(MO _ p g v HG.out).mono ?_);rintro e w1 ⟨v1,rfl,bw,bb⟩;obtain⟨A,m,rfl,hI,hA0⟩:=bw.JR;have cn:=hid hA0;clear bw hA0;go_upto_region 2 with(fail);clear bh;refine aB ?_;intro W hW;obtain⟨n,hn⟩:=rX ((aA g).length);have cw:n<=256:=by rw[<-hn];exact bM HG.out.1
 rw[hn]at hI hW⊢;have HW:Below w1.heap.size w1 W:=by rw[hW];exact be
 have ar:=ae bb HW;obtain⟨J,ap⟩:=rX w1.heap.size;have hM:MapAt iK W J (λ_=>none) 0:=by rw[hW,<-ap];exact(MapAt.made w1).below (ah br)
 have bd:W.heap[J+1]? =some (.cells #[.slice A n m,.map (some J)] 126 (0,0)):=by rw[hW,<-ap];exact alloc_at _ _ rS
 have cB:w.heap.size<=J:=by have:=bb.size;omega
 rw[ap];obtain⟨b,hb⟩:=rX (J+1);rw[hb]at bd⊢;have cG:W.heap.size=b+1:=by rw[hW];simp;omega
 have a0:∀ad,A=some ad->0<n->ad.block<J:=λad e h0=>by
  obtain⟨cC,e',hl,_⟩:=hI h0;rw[e]at e';injection e' with e'
  rw[e',<-ap];exact hl
 have aS:=hid a0;clear a0;have Hn:=hid hn;have HI:=hid (hI.below HW);have HM:=hid hM;have bo:=hid bd;have bj:=hid (HG.out.below ar cb);have ca:p<W.heap.size:=Zf cb ar.size;clear hn hI hM bd hW bb HW ap;go_wp2_with fail;go_loopw [4,5] (λlv kv wr=>∃(i:Nat)(Zs:List (Array Value)),kv=rI i/\i<=n/\uo wr W.heap.size lv Zs/\BZ g Zs i/\Below W.heap.size W wr) (λ_ kv _=>n-(intOf kv).toNat)
 case atStart=>exact⟨0,[],rfl,om,uo.nil _ _,⟨rfl,λj Z hZ=>by simp at hZ⟩,br⟩
 case round=>
  obtain⟨i,Zs,rfl,hi,hO,hZ,hB⟩:=hrel;have HO:=hid hO;have HZ:=hid hZ;clear hO hZ;have aa:wr.cell? ⟨b,0,none⟩=some (.slice A n m):=af hB (by simp[World.cell?,bo.out]);by_cases M:i<n
  .have O:=HI.out.below hB
   obtain⟨ad,hA⟩:=O.addr om;rw[hA]at O;have bg:=λwx=>aP (m:=m) hA M wx;have hE:=O.cell br M;rw[(bW (by rw[Hn.out];exact M)).1]at hE;obtain⟨y,hy⟩:=rX (cf g i);have bi:g.av y:=by rw[<-hy];exact(bW (by rw[Hn.out];exact M)).2
   rw[hy]at hE;have Hy:=hid hy;have cF:=hid (Xi wr p g v y (bj.out.below hB ca) bi.1);clear O hA hy;go_wp2_with fail;(with_reducible refine cF.out.mono ?_);rintro e B ⟨c,is,rfl,hF,bc⟩;have a9:=hid (HO.out.below bc);obtain⟨Z,hZ⟩:=rX (dX y c is);have zs:Z.size=769:=by rw[<-hZ,fZ]
   have zo:Z.all (·.oneCell')=true:=by rw[<-hZ];exact xN _ _ _
   have ch:=hid (HZ.out.snoc (Z:=Z) (c:=c) (is:=is) (by rw[Hy.out,hZ]) (by rw[Hy.out];exact hF));have a6:=ae hB bc;rw[hZ];clear hZ hF bc cF hE bg HO aa;obtain⟨i0,z0,b6,ci,cj,Q,ck⟩:=MU;have ac:=a9.out.1;rw[HZ.out.1]at ac;have ac:=hid ac;have b2:=hid (De B Z zs);have ab:=hid (rN b6 (rN ci (rN cj (rN Q ck))));have a4:=hid (rN zs zo);clear b6 ci cj Q ck zs zo
   go_wp2_with (first
    |((with_reducible refine Gb B (Eq.refl none) 196 (.tmp 30) (Eq.refl (Op.buildSlice 196 1 #[(0,.tmp 30)])) (.agg Z) (by with_unfolding_all rfl) b2.out ?_))
    |(at_builtin
      refine wpList_append_own_at (B.alloc (Obj.cells Z 198 (0,0))) rfl (.tmp 21) (.tmp 31) 196 rfl W.heap.size 198 i0 z0 769 4360 underlying196 ab.out.1 ab.out.2.1 ab.out.2.2.1 ab.out.2.2.2.1 ab.out.2.2.2.2 rD u4 i (qc Zs) ?_ ?_ ⟨B.heap.size,0,none⟩ 1 1 Z.toList ?_ ?_ ?_ ?_ ?_ ?_ ?_ ?_
      .rfl
      .exact ac.out.alloc _
      .rfl
      .rw[Array.length_toList,a4.out.1]
      .intro j u hu
       rw[Addr.add_lit];exact Bp (alloc_at B _ rfl) j u hu
      .exact TB Z a4.out.2
      .unfold maxLen;omega
      .omega
      .have:=a6.size;simp;omega
      intro v' w9 aq ao cx cs))
   have ay:uo w9 W.heap.size v' (Zs++[Z]):=uo.snoc a9.out.2 a4.out.1 (by rw[HZ.out.1];exact aq);have ay:=hid ay;have bq:Below W.heap.size W w9:=(ah a6).grown ao (by have:=a6.size;simp;omega) (λk hk=>(World.ownsRow.lt ac.out k hk).1);clear aq ao cs cx ac b2 ab a9
   first
    |exact⟨⟨i+1,_,by go_num,om,ay.out,ch.out,bq⟩,by simp[intOf];omega⟩
    |(go_roundw;(case rel=>exact⟨i+1,_,by go_num,om,ay.out,ch.out,bq⟩);(case measure=>exact rM))
  .obtain rfl:i=n:=om
   obtain⟨AR,mR,rfl,al,bx⟩:=HO.out.X6;have cg:=HZ.out.1;have bz:NS g Zs:=⟨by rw[cg,Hn.out],HZ.out.2⟩;obtain⟨nz,b8⟩:=rX Zs.length;have b9:nz=i:=om;subst b9;rw[b8];have a2:=hid al;have a3:=hid bz
   have bl:Hid (cz wr [] J (BL g 0)):=hid (by
    rw[Nv];exact⟨_,0,HM.out.below hB,λk=>rS,λk u L hu=>by simp at hu,λk u q hu=>by simp at hu,rS,λk k' u u' q hu=>by simp at hu,λs hs=>by simp at hs⟩)
   have hstart:∃S,cz wr S J (BL g 0)/\(∀s∈S,wr.heap.size<=s)/\Kept [J] wr wr:=⟨[],bl.out,rS,Kept.refl _ _⟩;have cv:=hid ((hB.block b om).trans bo.out);have cp:=hid (HI.out.below hB);have bk:=hid (bj.out.below hB ca);have ag:=hid hB;have bm:=hid bx;clear al bz cg b8 bl HO HZ hB bx;go_wp2_with fail;clear aa;obtain⟨B,rfl⟩:∃B:World,B=wr:=⟨_,rfl⟩
   go_loopw [6] (λkv wr=>∃i:Nat,kv=rI i/\i<=nz/\∃S,cz wr S J (BL g i)/\(∀s∈S,B.heap.size<=s)/\Kept [J] B wr) (λkv _=>nz-(intOf kv).toNat)
   case atStart=>exact⟨0,rfl,om,hstart⟩
   case round=>
    obtain⟨i,rfl,hi,S,hE,hS,hK⟩:=hrel;clear hstart;have ct:b<B.heap.size:=by have:=ag.out.size;omega
    have kb:wr.heap[b]? =some (.cells #[.slice A nz m,.map (some J)] 126 (0,0)):=(hK.block b ct so).trans cv.out;have aa:wr.cell? ⟨b,0,none⟩=some (.slice A nz m):=by simp[World.cell?,kb]
    have aE:wr.cell? ⟨b,1,none⟩=some (.map (some J)):=by simp[World.cell?,kb]
    have cr:=hid kb;have HE:=hid hE;have HS:=hid hS;have HK:=hid hK;have hp2:p<B.heap.size:=by have:=ag.out.size;omega
    have cd:p∉[J]:=so;have co:=hid (show aG wr p g v from⟨bk.out.1,(HK.out.block p hp2 cd).trans bk.out.2⟩);have cy:p<wr.heap.size:=Zf hp2 HK.out.size;have a1:=hid (cp.out.iC HK.out (λh0 ad e=>by have:=aS.out ad e h0;simp;omega));clear hE hS hK kb cd;by_cases M:i<nz
    .have O:=a1.out
     obtain⟨ad,hA⟩:=O.addr om;have cA:ad.block<J:=aS.out ad hA om;rw[hA]at O;have bg:=λwx=>aP (m:=m) hA M wx;have hE:=O.cell br M;rw[(bW (by rw[Hn.out];exact M)).1]at hE;obtain⟨y,hy⟩:=rX (cf g i);have bi:g.av y:=by rw[<-hy];exact(bW (by rw[Hn.out];exact M)).2
     rw[hy]at hE;have Hy:=hid hy;have cl:i<Zs.length:=by rw[a3.out.1,Hn.out];exact M
     have b0:mF wr AR Zs:=a2.out.kept HK.out (λad e=>by have:=(bm.out ad e).1;simp;omega);have cq:=hid b0;obtain⟨gr,a5,_,ce⟩:=b0 om;have b5:gr≠J:=by have:=(bm.out _ a5).1;simp only at this;omega
     obtain⟨Z,hZ⟩:∃Z,Zs[i]? =some Z:=⟨Zs[i]'cl,Zc _⟩;have g2:=ce i Z hZ;obtain⟨c2,i2,Q,a8⟩:=a3.out.2 i Z hZ;rw[Hy.out]at Q a8;have b7:=λwx=>Pg (n:=nz) (m:=mR) a5 M wx;have cm:Z.size=769:=by rw[Q,fZ]
     have s1:(prog.info? 198).map (·.size)=some Z.toList.length:=by rw[Array.length_toList,cm];exact jR
     have u1:=underlying198;have e1:Z.toList.toArray=Z:=Array.toArray_toList ..;have cE:=hid (λw'(hb:Below wr.heap.size wr w')=>VU w' p g v y c2 i2 Z AR A nz mR m Zs false (co.out.below hb cy) bi.1 Q.symm a8 (a1.out.below hb) Hn.out (cq.out.below hb) a3.out);clear O hA hy a5 ce cl hZ Q a8 cm;go_upto_region 10 with(fail);refine wp_region_noPanic ?_;refine wp_region_held_drew (S:=λw'=>w'.cell? ⟨b,0,none⟩=some (.slice A nz m)/\w'.cell? ⟨b,1,none⟩=some (.map (some J))/\w'.cell? (ad.add i)=some (rI (y:Nat))/\w'.rangeAt gr (i*769) Z.toList) kr ⟨aa,aE,hE,g2⟩ (λba=>?_);refine wpAnyH_take (i:=0) (oi:={dst:=Option.some 42,op:=Op.move (Operand.tmp 3),type:=122,pos:= "parts.go:595",after:=#[],guard:=Option.none}) (v:=vP b) rfl kr kr kr (λ_ _ _ h=>h) (Or.inl ⟨by rfl,λw F=>by obtain⟨R,T,U,-⟩:=F;go_simp⟩) au ?_;simp only[Act.put,Zh,Zm,Zn]
     refine wpAnyH_take (i:=1) (oi:={dst:=Option.some 43,op:=Op.nilCheck (Operand.tmp 42),type:=0,pos:= "parts.go:595",after:=#[{on:=0,ground:=Ground.data}],guard:=Option.none}) (v:=vP b) rfl kr kr kr (λ_ _ _ h=>h) (Or.inl ⟨by rfl,λw F=>by obtain⟨R,T,U,-⟩:=F;go_simp⟩) au ?_;simp only[Act.put,Zh,Zm,Zn];refine wpAnyH_take (i:=2) (oi:={dst:=Option.some 44,op:=Op.fieldAddr 126 (Operand.tmp 43) 1,type:=0,pos:= "parts.go:595",after:=#[{on:=1,ground:=Ground.data}],guard:=Option.none}) (v:=.pointer (some ⟨b,1,none⟩)) rfl kr kr kr (λ_ _ _ h=>h) (Or.inl ⟨by rfl,λw F=>by obtain⟨R,T,U,-⟩:=F;go_simp⟩) au ?_;simp only[Act.put,Zh,Zm,Zn];refine wpAnyH_take (i:=3) (oi:={dst:=Option.some 45,op:=Op.load 124 (Operand.tmp 44),type:=124,pos:= "parts.go:595",after:=#[{on:=2,ground:=Ground.data}],guard:=Option.none}) (v:=.map (some J)) rfl kr kr kr (λ_ _ _ h=>h) (Or.inl ⟨by rfl,λw F=>by obtain⟨R,T,U,-⟩:=F;go_simp⟩) au ?_
     simp only[Act.put,Zh,Zm,Zn];refine wpAnyH_take (i:=4) (oi:={dst:=Option.some 46,op:=Op.move (Operand.tmp 3),type:=122,pos:= "parts.go:595",after:=#[],guard:=Option.none}) (v:=vP b) rfl kr kr kr (λ_ _ _ h=>h) (Or.inl ⟨by rfl,λw F=>by obtain⟨R,T,U,-⟩:=F;go_simp⟩) au ?_;simp only[Act.put,Zh,Zm,Zn];refine wpAnyH_take (i:=5) (oi:={dst:=Option.some 47,op:=Op.nilCheck (Operand.tmp 46),type:=0,pos:= "parts.go:595",after:=#[{on:=4,ground:=Ground.data}],guard:=Option.none}) (v:=vP b) rfl kr kr kr (λ_ _ _ h=>h) (Or.inl ⟨by rfl,λw F=>by obtain⟨R,T,U,-⟩:=F;go_simp⟩) au ?_;simp only[Act.put,Zh,Zm,Zn];refine wpAnyH_take (i:=6) (oi:={dst:=Option.some 48,op:=Op.fieldAddr 126 (Operand.tmp 47) 0,type:=0,pos:= "parts.go:595",after:=#[{on:=5,ground:=Ground.data}],guard:=Option.none}) (v:=vP b) rfl kr kr kr (λ_ _ _ h=>h) (Or.inl ⟨by rfl,λw F=>by obtain⟨R,T,U,-⟩:=F;go_simp⟩) au ?_
     simp only[Act.put,Zh,Zm,Zn];refine wpAnyH_take (i:=7) (oi:={dst:=Option.some 49,op:=Op.load 51 (Operand.tmp 48),type:=51,pos:= "parts.go:595",after:=#[{on:=6,ground:=Ground.data}],guard:=Option.none}) (v:=.slice A nz m) rfl kr kr kr (λ_ _ _ h=>h) (Or.inl ⟨by rfl,λw F=>by obtain⟨R,T,U,-⟩:=F;go_simp⟩) au ?_;simp only[Act.put,Zh,Zm,Zn];refine wpAnyH_take (i:=8) (oi:={dst:=Option.some 50,op:=Op.move (Operand.tmp 6),type:=3,pos:= "parts.go:595",after:=#[],guard:=Option.none}) (v:=rI (i:Nat)) rfl kr kr kr (λ_ _ _ h=>h) (Or.inl ⟨by rfl,λw F=>by obtain⟨R,T,U,-⟩:=F;go_simp⟩) au ?_;simp only[Act.put,Zh,Zm,Zn];refine wpAnyH_take (i:=9) (oi:={dst:=Option.some 51,op:=Op.indexAddr 51 (Operand.tmp 49) (Operand.tmp 50),type:=0,pos:= "parts.go:595",after:=#[{on:=7,ground:=Ground.data},{on:=8,ground:=Ground.data}],guard:=Option.none}) (v:=.pointer (some (ad.add i))) rfl kr kr kr (λ_ _ _ h=>h) (Or.inl ⟨by rfl,λw F=>by obtain⟨R,T,U,-⟩:=F;go_simp⟩) au ?_
     simp only[Act.put,Zh,Zm,Zn];refine wpAnyH_take (i:=10) (oi:={dst:=Option.some 52,op:=Op.load 3 (Operand.tmp 51),type:=3,pos:= "parts.go:595",after:=#[{on:=9,ground:=Ground.data}],guard:=Option.none}) (v:=rI (y:Nat)) rfl kr kr kr (λ_ _ _ h=>h) (Or.inl ⟨by rfl,λw F=>by obtain⟨R,T,U,-⟩:=F;go_simp⟩) au ?_;simp only[Act.put,Zh,Zm,Zn];refine wpAnyH_take (i:=11) (oi:={dst:=Option.some 53,op:=Op.move (Operand.tmp 0),type:=39,pos:= "parts.go:595",after:=#[],guard:=Option.none}) (v:=vP p) rfl kr kr kr (λ_ _ _ h=>h) (Or.inl ⟨by rfl,λw F=>by obtain⟨R,T,U,-⟩:=F;go_simp⟩) au ?_;simp only[Act.put,Zh,Zm,Zn];refine wpAnyH_take (i:=12) (oi:={dst:=Option.some 54,op:=Op.move (Operand.tmp 4),type:=196,pos:= "parts.go:595",after:=#[],guard:=Option.none}) (v:=.slice AR nz mR) rfl kr kr kr (λ_ _ _ h=>h) (Or.inl ⟨by rfl,λw F=>by obtain⟨R,T,U,-⟩:=F;go_simp⟩) au ?_
     simp only[Act.put,Zh,Zm,Zn];refine wpAnyH_take (i:=13) (oi:={dst:=Option.some 55,op:=Op.move (Operand.tmp 6),type:=3,pos:= "parts.go:595",after:=#[],guard:=Option.none}) (v:=rI (i:Nat)) rfl kr kr kr (λ_ _ _ h=>h) (Or.inl ⟨by rfl,λw F=>by obtain⟨R,T,U,-⟩:=F;go_simp⟩) au ?_;simp only[Act.put,Zh,Zm,Zn];refine wpAnyH_take (i:=14) (oi:={dst:=Option.some 56,op:=Op.indexAddr 196 (Operand.tmp 54) (Operand.tmp 55),type:=0,pos:= "parts.go:595",after:=#[{on:=12,ground:=Ground.data},{on:=13,ground:=Ground.data}],guard:=Option.none}) (v:=.pointer (some ⟨gr,i*769,none⟩)) rfl kr kr kr (λ_ _ _ h=>h) (Or.inl ⟨by rfl,λw F=>by obtain⟨R,T,U,-⟩:=F;go_simp⟩) au ?_;simp only[Act.put,Zh,Zm,Zn];refine' wpAnyH_take (i:=15) (oi:={dst:=Option.some 57,op:=Op.load 198 (Operand.tmp 56),type:=198,pos:= "parts.go:595",after:=#[{on:=14,ground:=Ground.data}],guard:=Option.none}) (v:=_) rfl kr kr kr (λ_ _ _ h=>h) (yieldsIf_load_mid (by rfl) 198 (.tmp 56) rfl gr (i*769) rfl Z.toList _ (λw h=>h.2.2.2) u1 rfl s1) au ?_
     simp only[Act.put,Zh,Zm,Zn];refine wpAnyH_take (i:=16) (oi:={dst:=Option.some 58,op:=Op.move (Operand.tmp 4),type:=196,pos:= "parts.go:595",after:=#[],guard:=Option.none}) (v:=.slice AR nz mR) rfl kr kr kr (λ_ _ _ h=>h) (Or.inl ⟨by rfl,λw F=>by obtain⟨R,T,U,-⟩:=F;go_simp⟩) au ?_;simp only[Act.put,Zh,Zm,Zn];refine wpAnyH_take (i:=17) (oi:={dst:=Option.some 59,op:=Op.move (Operand.tmp 3),type:=122,pos:= "parts.go:595",after:=#[],guard:=Option.none}) (v:=vP b) rfl kr kr kr (λ_ _ _ h=>h) (Or.inl ⟨by rfl,λw F=>by obtain⟨R,T,U,-⟩:=F;go_simp⟩) au ?_;simp only[Act.put,Zh,Zm,Zn];refine wpAnyH_take (i:=18) (oi:={dst:=Option.some 60,op:=Op.nilCheck (Operand.tmp 59),type:=0,pos:= "parts.go:595",after:=#[{on:=17,ground:=Ground.data}],guard:=Option.none}) (v:=vP b) rfl kr kr kr (λ_ _ _ h=>h) (Or.inl ⟨by rfl,λw F=>by obtain⟨R,T,U,-⟩:=F;go_simp⟩) au ?_
     simp only[Act.put,Zh,Zm,Zn];refine wpAnyH_take (i:=19) (oi:={dst:=Option.some 61,op:=Op.fieldAddr 126 (Operand.tmp 60) 0,type:=0,pos:= "parts.go:595",after:=#[{on:=18,ground:=Ground.data}],guard:=Option.none}) (v:=vP b) rfl kr kr kr (λ_ _ _ h=>h) (Or.inl ⟨by rfl,λw F=>by obtain⟨R,T,U,-⟩:=F;go_simp⟩) au ?_;simp only[Act.put,Zh,Zm,Zn];refine wpAnyH_take (i:=20) (oi:={dst:=Option.some 62,op:=Op.load 51 (Operand.tmp 61),type:=51,pos:= "parts.go:595",after:=#[{on:=19,ground:=Ground.data}],guard:=Option.none}) (v:=.slice A nz m) rfl kr kr kr (λ_ _ _ h=>h) (Or.inl ⟨by rfl,λw F=>by obtain⟨R,T,U,-⟩:=F;go_simp⟩) au ?_;simp only[Act.put,Zh,Zm,Zn];rw[e1];refine wpAnyH_ready (rs:=[21]) kr rS ?_;refine AllReadyH.cons (o:={dst:=Option.some 63,op:=Op.call {callee:=Callee.value (.func 110),args:=#[Operand.tmp 53,Operand.tmp 57,Operand.tmp 58,Operand.tmp 62,Operand.const (Value.bool Bool.false)],argTypes:=#[39,198,196,51,4]},type:=119,pos:= "parts.go:595",after:=#[{on:=11,ground:=Ground.data},{on:=15,ground:=Ground.data},{on:=16,ground:=Ground.data},{on:=20,ground:=Ground.data}],guard:=Option.none}) rfl (λK hK=>?_) .nil
     go_simp;go_at_call 110;(with_reducible refine(cE.out _ (aj br)).mono ?_);rintro e wI ⟨v',rfl,ai,I⟩;have I:=ae (aj (Below.refl wr.heap.size wr)) I;have cH:=HE.out.lt;obtain⟨V,N,H1,H2,H3,H4,h5,H6,H7⟩:=HE.out;obtain⟨wU,hU,bv,P⟩:=(H1.below I).store (aF underlying3) underlying124 (y:Int) v';have hU:(Instr.mapUpdate 124 (.map (some J)) (rI (y:Nat)) v').run prog wI=.ok () wU:=hU;have b4:=hid (cz.fresh H1 H2 H3 H4 h5 H6 H7 I ai bv P);have P:=hid P;have ai:=hid ai;clear H1 H2 H3 H4 h5 H6 H7 bv;dsimp only;refine hK.out _ _ ⟨af I aa,af I aE,af I hE,dE g2 I⟩ (λaw=>?_);clear hK K;try dsimp only
     try simp only[Act.put,Zh,Zm,Zn]
     refine wpAnyH_ready (rs:=[22]) kr rS ?_;refine AllReadyH.cons (o:={dst:=Option.none,op:=Op.mapUpdate 124 (Operand.tmp 45) (Operand.tmp 52) (Operand.tmp 63),type:=0,pos:= "parts.go:595",after:=#[{on:=3,ground:=Ground.data},{on:=10,ground:=Ground.data},{on:=21,ground:=Ground.data},{on:=21,ground:=Ground.chain},{on:=0,ground:=Ground.phase},{on:=1,ground:=Ground.phase},{on:=2,ground:=Ground.phase},{on:=3,ground:=Ground.phase},{on:=4,ground:=Ground.phase},{on:=5,ground:=Ground.phase},{on:=6,ground:=Ground.phase},{on:=7,ground:=Ground.phase},{on:=8,ground:=Ground.phase},{on:=9,ground:=Ground.phase},{on:=10,ground:=Ground.phase},{on:=11,ground:=Ground.phase},{on:=12,ground:=Ground.phase},{on:=13,ground:=Ground.phase},{on:=14,ground:=Ground.phase},{on:=15,ground:=Ground.phase},{on:=16,ground:=Ground.phase},{on:=17,ground:=Ground.phase},{on:=18,ground:=Ground.phase},{on:=19,ground:=Ground.phase},{on:=20,ground:=Ground.phase},{on:=21,ground:=Ground.phase}],guard:=Option.none}) rfl (λK hK=>?_) .nil
     go_simp;refine hK.out _ _ ⟨aH P.out so (af I aa),aH P.out so (af I aE),aH P.out (by rw[add_block];simp;omega) (af I hE),tF (dE g2 I) P.out (by simpa using b5)⟩ (λax=>?_);clear hK K;try dsimp only
     try simp only[Act.put,Zh,Zm,Zn]
     refine wpAnyH_done kr ?_ _;refine NoPanic.normal ?_;have a7:=b4.out;rw[show bT (BL g i) (y:Int) (some (xC g y false nz))=BL g (i+1)by rw[<-Hy.out,<-Hn.out];exact Nu g i]at a7
     have b1:∀s∈v'.ownBlock.toList++S,B.heap.size<=s:=λs hs=>by
      rcases Zl.1 hs with q|q
      .rw[Zv]at q
       exact Zg HK.out.size (World.ownsRow.lt ai.out s q).1
      .exact HS.out s q
     have bt:Kept [J] B wU:=(HK.out.trans (Kept.of_below I)).trans P.out;have bp:=hid (show∃S,cz wU S J (BL g (i+1))/\(∀s∈S,B.heap.size<=s)/\Kept [J] B wU from⟨_,a7,b1,bt⟩);clear ba aw ax I hU b4 a7 b1 bt P ai g2 cE e1 s1 u1 b7 bg hE aa aE;go_wp2
     first
      |exact⟨⟨i+1,by go_num,om,bp.out⟩,by simp[intOf];omega⟩
      |(go_roundw;(case rel=>exact⟨i+1,by go_num,om,bp.out⟩);(case measure=>exact rM))
    .obtain rfl:i=nz:=om
     have bh:∀q∈[J],W.heap.size<=q\/w.heap.size<=q:=so;have b3:Below w.heap.size w wr:=Kept.below (ae ar ag.out) HK.out (by have:=(ae ar ag.out).size;omega) so
     have am:Jb w g (.returned (vP b)) wr:=⟨b,J,S,A,i,m,rfl,⟨cr.out,a1.out,Hn.out,λhh=>by have:=HS.out b hh;omega,HE.out⟩,by
      intro k hk;simp only[Zd]at hk;rcases hk with rfl|rfl|hk
      .omega
      .omega
      .have h1:=HS.out k hk;have h2:=ag.out.size;omega,⟨om,cn.out⟩,b3⟩
     have am:=hid am;clear HE HS HK bh b3;go_wp2;go_ret;exact am.out
theorem cu{m:List Oper}(w:World)(J:o.guard=none)(s x:Operand)(S:o.op=.call {callee:=.builtin .append,args:=#[s,x],argTypes:=#[119,119]})(B:Nat)(v:Value)(L:List Ed)(e:Ed)(hs:a.eval s=v)(z:bf w B v L)(ad:Addr)(hx:a.eval x=.slice (some ad) 1 1)(g:∀j u,e.cells[j]? =some u->w.cell? (ad.add j)=some u)(hl:L.length<=100000)(Z:B<=w.heap.size)(h:∀I F,bf F B I (L++[e])->w.grownBy F v.ownBlock->wpList prog ops Q m (a.put o.dst I) F):wpList prog ops Q (o::m) a w:=by
 obtain⟨i0,z0,k,M,O,P,R⟩:=fV;refine wpList_append_own_at w J s x 119 S B 192 i0 z0 4 32 underlying119 k M O P R rD v L.length (dM L) hs z ad 1 1 e.cells hx rfl g (oG e) ?_ ?_ Z ?_
 .unfold maxLen;omega
 .omega
 .intro I F T U _ _
  refine h I F ?_ U;unfold bf;rw[Zp,iO,dz,xG,List.append_nil];exact T
def vV(w:World)(L:List Ed)(e:Ending)(w':World):Prop:=∃vE,e=.returned (.tuple #[vE,.nilIface])/\bf w' w.heap.size vE L/\Below w.heap.size w w'
theorem sK(w:World)(b p mb:Nat)(S:List Nat)(g:G)(v:Int)(x:Nat)(E:Int->Option (List Ed))(h:aJ w b p mb S g v E)(hE:∀z:Int,E z≠none↔∃c:Nat,z=c/\g.av c)(hx:x<g.n)(am:g.b x=false):Calls prog 89 #[vP b,rI (x:Nat)] w (vV w (xC g x true (aA g).length)):=by
 have B:=h.2.1.1;have a6:=G.bA B;have F:w.cell? ⟨b,0,none⟩=some (vP p):=by simp[World.cell?,h.1]
 have cF:=hid (dQ w p g v x h.2.1 hx);rw[am]at cF;have H:=hid h;have HE:=hid hE;have a2:=hid B;have a0:=hid am;obtain⟨n,hn⟩:=rX ((aA g).length);have a3:n<=256:=by rw[<-hn];exact bM B
 have Hn:=hid hn;rw[hn];clear h hE B am hn;go_enter func89,ntmps89;go_wp2_with fail;(with_reducible refine cF.out.mono ?_);rintro e w1 ⟨rfl,ai⟩;have H1:=hid (H.out.below ai);have cN:=hid (kC w1 b p mb S g v E H1.out HE.out);have F:=af ai F;clear cF;go_wp2_with fail;(with_reducible refine cN.out.mono ?_);rintro e W ⟨A,m,rfl,_,hI,_,al⟩;rw[Hn.out]at hI⊢;have HW:=ae ai al;have H2:=hid (H1.out.below al);have HI:=hid hI;have F:=af al F;have a7:b<W.heap.size:=ZF _ _ F;have a1:=hid F;clear cN hI F;go_wp2_with fail;go_loopw [8,31] (λlv kv wr=>∃i:Nat,kv=rI i/\i<=n/\bf wr W.heap.size lv (xC g x true i)/\Below W.heap.size W wr) (λ_ kv _=>n-(intOf kv).toNat)
 case atStart=>exact⟨0,rfl,om,bf.nil _ _,br⟩
 case round=>
  obtain⟨i,rfl,hi,hO,hB⟩:=hrel;have HO:=hid hO;have F:=af hB a1.out;clear hO;by_cases Z:i<n
  .have R:=HI.out.below hB
   obtain⟨ad,hA⟩:=R.addr om;rw[hA]at R;have a8:=λwx=>aP (m:=m) hA Z wx;have hE:=R.cell br Z;rw[(bW (by rw[Hn.out];exact Z)).1]at hE;obtain⟨y,hy⟩:=rX (cf g i);have ap:g.av y:=by rw[<-hy];exact(bW (by rw[Hn.out];exact Z)).2
   rw[hy]at hE;have Hy:=hid hy;obtain⟨aS,aq⟩:=iW a2.out ap;obtain⟨t,ht⟩:=Jn (g.aK x y);have Ht:=hid ht;have aa:=hid (H2.out.2.1.below hB H2.out.2.1.lt);have cD:=hid (jS wr p g v x y t aa.out hx aS a0.out aq ht);have a9:=xD g x true i;have a5:=hid aq;have a4:=hid ap;clear R hA hy ht aq ap;go_wp2_with fail;(with_reducible refine cD.out.mono ?_);rintro e w2 ⟨rfl,U⟩;have ac:=ae hB U;have F:=af U F;have aw:=HO.out.kept (T:=[]) (.of_below U) (λ_ _=>rS);have P:=hid aw;clear cD aw HO hE;cases t with
   |false=>
    have aE:¬g.aK x y:=λhh=>by have:=Ht.out.2 hh;cases this
    have J:=P.out;rw[<-GU (g:=g) (ca:=x) (k:=i) (self:=true) (.inl (by rw[Hy.out];exact aE))]at J;have J:=hid J;clear aE P Ht;go_wp2
    first
     |exact⟨⟨i+1,by go_num,om,J.out,ac⟩,by simp[intOf];omega⟩
     |(go_roundw;(case rel=>exact⟨i+1,by go_num,om,J.out,ac⟩);(case measure=>exact rM))
   |true=>
    have Q:g.aK x y:=Ht.out.1 rfl;obtain⟨⟨os,od⟩,ao⟩:=rX (g.cZ x y);have cO:=hid (Cs w2 p g v x y ⟨os,od⟩ (aa.out.below U aa.out.lt) hx aS ao);have I:=Jz (g:=g) (ca:=x) (k:=i) (self:=true) (by rw[Hy.out];exact Q) (.inl rfl);rw[Hy.out,ao]at I;have ab:=hid I;clear Q ao I Ht;go_wp2_with fail;(with_reducible refine cO.out.mono ?_);rintro e w3 ⟨rfl,ay⟩;have ax:=hid (P.out.kept (T:=[]) (.of_below ay) (λ_ _=>rS));have ag:=ae ac ay;clear cO P;go_wp2_with (at_builtin;(refine cu _ rfl _ _ rfl W.heap.size _ _ ⟨(y:Nat),⟨os,od⟩,-1⟩ rfl (ax.out.kept (T:=[]) (.of_below (ah br)) (λ_ _=>rS)) ⟨w3.heap.size,0,none⟩ rfl (λj u hu=>by rw[Addr.add_lit,Zx];exact dH (alloc_at w3 _ rfl) j u hu) om (by have:=ag.size;simp;omega) ?_);intro v' w9 O M)
    have J:=O;rw[<-ab.out]at J;have ar:Below W.heap.size W w9:=(ah ag).grown M (by have:=ag.size;simp;omega) (λk hk=>(World.ownsRow.lt ax.out k hk).1);have J:=hid J;clear O M;go_wp2
    first
     |exact⟨⟨i+1,by go_num,om,J.out,ar⟩,by simp[intOf];omega⟩
     |(go_roundw;(case rel=>exact⟨i+1,by go_num,om,J.out,ar⟩);(case measure=>exact rM))
  .obtain rfl:i=n:=om
   have L:vV w (xC g x true i) (.returned (.tuple #[u8,.nilIface])) wr:=⟨_,rfl,HO.out.mono HW.size,ae HW hB⟩;have L:=hid L;clear HO;go_wp2;go_ret2;exact L.out
def dF(w:World)(b ml me:Nat)(S:List Nat)(top:Int)(V:Int->Option Value)(nl:Nat)(E:Int->Option (List Ed)):Prop:=
 w.heap[b]? =some (.cells #[.map (some ml),.map (some me),rI top] 171 (0,0))/\MapAt iK w ml V nl/\cz w S me E/\b∉S/\ml∉S/\b≠ml/\b≠me/\ml≠me
theorem dF.kept{b u me I:Nat}{S T:List Nat}{top:Int}(h:dF w b u me S top V I E)(z:Kept T w w')(m:∀k,k∈b::u::me::S->k∉T):dF w' b u me S top V I E:=by
 obtain⟨F,J,L,M⟩:=h;exact⟨(z.block b (Za.1 F).1 (m b rS)).trans F,J.kept z (m u rS),L.kept z (λs O=>m s (by simp[O])) (m me rS),M⟩
theorem dF.below{b m me u:Nat}{top:Int}(h:dF w b m me S top V u E)(z:Below w.heap.size w w'):dF w' b m me S top V u E:=h.kept (T:=[]) (.of_below z) (λ_ _=>rS)
def NA(V:Int->Option Value)(lev:Int->Int):Prop:=∀z,(V z).getD (rI 0)=rI (lev z)
def qj(lev:Int->Int)(L:List Ed):List Ed:=L.filter λe=>decide (lev e.to_=0)
theorem G9{lev:Int->Int}{L:List Ed}{i:Nat}{e:Ed}(h:L[i]? =some e):qj lev (L.take (i+1))=qj lev (L.take i)++(if lev e.to_=0 then[e]else[]):=by
 obtain⟨u,m⟩:=Zb.1 h;unfold qj;rw[Zt u,List.filter_append,m];by_cases q:lev e.to_=0<;>simp[q]
theorem JZ(w:World)(b ml me nl:Nat)(S:List Nat)(top:Int)(V:Int->Option Value)(lev:Int->Int)(E:Int->Option (List Ed))(c:Int)(L:List Ed)(h:dF w b ml me S top V nl E)(hV:NA V lev)(hL:E c=some L)(hl:L.length<=100000):Calls prog 136 #[vP b,rI c] w (Ca w (qj lev L)):=by
 obtain⟨g1,g2,⟨W3,N,q1,q2,q3,_,_,_,_⟩,_⟩:=h;have ax:w.cell? ⟨b,0,none⟩=some (.map (some ml)):=by simp[World.cell?,g1]
 have aE:w.cell? ⟨b,1,none⟩=some (.map (some me)):=by simp[World.cell?,g1]
 obtain⟨u,hu⟩:∃u,W3 c=some u:=by
  cases hV:W3 c with
  |none=>rw[(q2 c).2 hV]at hL;cases hL
  |some u=>exact⟨u,rfl⟩
 obtain⟨A,ac,rfl,ag⟩:=(q3 c u L hu hL).yI
 have ai:(Instr.lookup 124 (.map (some me)) (rI c) false).run prog w=.ok (.slice A L.length ac) w:=by
  have:=(q1.look (aF underlying3) underlying124 (z:=.slice none 0 0) (by simp[zeroValue119]) c).2;rw[hu]at this;exact this
 have ap:∀w',Below w.heap.size w w'->∀z:Int,(Instr.lookup 129 (.map (some ml)) (rI z) false).run prog w'=.ok (rI (lev z)) w':=λw' hb z=>by
  have:=((g2.below hb).look (aF underlying3) underlying129 (z:=rI 0) (by simp[zeroValue3]) z).2;rw[hV z]at this;exact this
 have ar:=hid ap;have aq:=hid ag;obtain⟨n,hn⟩:=rX L.length;rw[hn]at ai;have ay:n<=100000:=om;have Hn:=hid hn;clear g1 g2 q1 q2 q3 hu hV ap ag hn;go_enter func136,ntmps136;go_wp2_with fail;clear ai
 go_loopw [5,15] (λlv kv wr=>∃i:Nat,kv=rI i/\i<=n/\bf wr w.heap.size lv (qj lev (L.take i))/\Below w.heap.size w wr) (λ_ kv _=>n-(intOf kv).toNat)
 case atStart=>exact⟨0,rfl,om,bf.nil _ _,br⟩
 case round=>
  obtain⟨i,rfl,hi,hO,hB⟩:=hrel;have HO:=hid hO;have k0:=af hB ax;clear hO;by_cases am:i<n
  .obtain⟨e,he⟩:∃e,L[i]? =some e:=⟨L[i]'(by rw[Hn.out];exact am),Zc _⟩
   obtain⟨gb,hA,a1,a2,a3,a4⟩:=(aq.out.below hB).get he;have aw:=λwx=>gZ (m:=ac) hA am wx;have He:=hid he;obtain⟨B,⟨xs,xd⟩,xm⟩:=e;simp only at a1 a2 a3 a4;clear hA he;go_upto_region 5 with(fail);refine aB ?_;intro W hW;have HW:Below w.heap.size w W:=by rw[hW];exact ah hB
   have aa:Below wr.heap.size wr W:=by rw[hW];exact ah br
   obtain⟨b7,O⟩:=rX wr.heap.size;have o0:W.cell? ⟨b7,0,none⟩=some (rI B):=by rw[hW,<-O];go_simp
   have o1:W.cell? ⟨b7,1,none⟩=some (rI xs):=by rw[hW,<-O];go_simp
   have o2:W.cell? ⟨b7,2,none⟩=some (rI xd):=by rw[hW,<-O];go_simp
   have o3:W.cell? ⟨b7,3,none⟩=some (rI xm):=by rw[hW,<-O];go_simp
   have k0:=af aa k0;have Z:=hid (HO.out.kept (T:=[]) (.of_below aa) (λ_ _=>rS));obtain⟨t,ht⟩:=rX (lev B);have al:∀n,(Instr.lookup 129 (.map (some ml)) (rI B) false).run prog (W.drewN n)=.ok (rI t) (W.drewN n):=λn=>by rw[<-ht];exact ar.out _ (ak HW) B
   have g:=hid (G9 (lev:=lev) He.out)
   have ao:(qj lev (L.take i)).length<=100000:=by
    unfold qj;have h1:=List.length_filter_le (λe:Ed=>decide (lev e.to_=0)) (L.take i);have h2:(L.take i).length<=n:=by rw[List.length_take,Hn.out];omega
    have:=Hn.out;omega
   have Ht:=hid ht;rw[O];clear hW O aa HO a1 a2 a3 a4 aw hB ht;by_cases ab:t=0
   .subst ab
    have hd:((0:Int)==0)=true:=rfl;have F:=g.out;rw[if_pos (show lev (Ed.mk B ⟨xs,xd⟩ xm).to_=0 from Ht.out)]at F;have J:=hid F;clear F g;go_quiet (fail);have o0:=af (ak (n:=nq) (Below.refl W.heap.size W)) o0;have o1:=af (ak (n:=nq) (Below.refl W.heap.size W)) o1;have o2:=af (ak (n:=nq) (Below.refl W.heap.size W)) o2;have o3:=af (ak (n:=nq) (Below.refl W.heap.size W)) o3;have I:Below w.heap.size w (W.drewN nq):=ak HW;have Q:=hid (Z.out.kept (w':=W.drewN nq) (T:=[]) (.of_below (ak br)) (λ_ _=>rS));clear al k0 Z HW;generalize W.drewN nq=w5 at o0 o1 o2 o3 I Q⊢;go_wp2_with (at_builtin;(refine cu _ rfl _ _ rfl w.heap.size _ _ ⟨B,⟨xs,xd⟩,xm⟩ rfl (Q.out.kept (T:=[]) (.of_below (ah br)) (λ_ _=>rS)) ⟨w5.heap.size,0,none⟩ rfl (λj u hu=>by rw[Addr.add_lit,Zx];exact dH (alloc_at w5 _ rfl) j u hu) ao (by have:=I.size;simp;omega) ?_);intro v' w9 U R)
    have M:=U;rw[<-J.out]at M;have ad:Below w.heap.size w w9:=(ah I).grown R (by have:=I.size;simp;omega) (λk hk=>(World.ownsRow.lt Q.out k hk).1);have M:=hid M;clear U R;go_wp2
    first
     |exact⟨⟨i+1,by go_num,om,M.out,ad⟩,by simp[intOf];omega⟩
     |(go_roundw;(case rel=>exact⟨i+1,by go_num,om,M.out,ad⟩);(case measure=>exact rM))
   .have hd:(t==0)=false:=by simpa using ab
    have F:=g.out;rw[if_neg (show¬lev (Ed.mk B ⟨xs,xd⟩ xm).to_=0 by show¬lev B=0;rw[Ht.out];exact ab),List.append_nil]at F;have J:=hid F;clear F g;go_quiet (fail);have I:Below w.heap.size w (W.drewN nq):=ak HW;have M:=Z.out.kept (w':=W.drewN nq) (T:=[]) (.of_below (ak br)) (λ_ _=>rS);rw[<-J.out]at M;have M:=hid M;clear al k0 Z HW o0 o1 o2 o3;go_wp2
    first
     |exact⟨⟨i+1,by go_num,om,M.out,I⟩,by simp[intOf];omega⟩
     |(go_roundw;(case rel=>exact⟨i+1,by go_num,om,M.out,I⟩);(case measure=>exact rM))
  .obtain rfl:i=n:=om
   have M:=HO.out;rw[List.take_of_length_le (by rw[Hn.out];exact Zi _)]at M;have P:Ca w (qj lev L) (.returned u5) wr:=⟨_,rfl,M,hB⟩;have P:=hid P;clear HO M k0;go_wp2;go_ret;exact P.out
def Rm(W:World)(ml r:Nat)(V:Int->Option Value)(lev:Int->Int)(lv:Value)(wr:World):Prop:=
 ∃left cnt zs,aO iK wr ml r V left cnt/\aL wr (r+1) lv zs/\zs.Nodup/\(∀z,z∈zs↔(V z≠none/\lev z=0)/\¬left z)/\Below W.heap.size W wr
theorem VH(w:World)(b mb me nl:Nat)(S:List Nat)(top:Int)(V:Int->Option Value)(lev:Int->Int)(E:Int->Option (List Ed))(M:List Int)(h:dF w b mb me S top V nl E)(hV:∀z u,V z=some u->u=rI (lev z))(hM:M.Pairwise (· < ·))(hm:∀z,z∈M↔V z≠none/\lev z=0)(hb:∀z,V z≠none->0<=z/\z<256):Calls prog 135 #[vP b] w (rP w M):=by
 obtain⟨g1,q1,_⟩:=h;have bc:w.cell? ⟨b,0,none⟩=some (.map (some mb)):=by simp[World.cell?,g1]
 have bd:=q1.lt;have a9:=hid hV;have a8:=hid hM;have a7:=hid hm;have Hb:=hid hb;clear g1 hV hM hm hb;go_enter func135,ntmps135;go_wp2_with (at_range;refine dY rfl _ rfl kY underlying129 q1 rfl ?_;intro w1 J a3 bb);go_frame;obtain⟨r,hr⟩:=rX w.heap.size
 rw[hr]at J⊢;have hstart:Rm w mb r V lev (.slice none 0 0) w1:=⟨_,_,[],J,aL.nil _ _,rS,λz=>by simp;intro h _;exact h,a3⟩;have O:∀T:List Int,T.Nodup->(∀z∈T,V z≠none)->T.length<=256:=λT h1 h2=>Be h1 (λz hz=>Hb.out z (h2 z hz));have ag:=hid O;have bk:w.heap.size<=r:=om;have bi:mb<r:=om;clear J a3 bb q1 bc O hr;go_loopw [3] (λlv wr=>Rm w mb r V lev lv wr) (λ_ wr=>wr.rangeLeft mb r)
 case atStart=>exact hstart
 case round=>
  obtain⟨left,bh,T,J,hO,aE,B,hB⟩:=hrel;clear hstart;have hleft:=hid J.left_eq;have aq:=hid aE;have L:=hid B;have ba:=ag.out T aE (λz hz=>((B z).1 hz).1.1);clear aE B;go_wp2_with (at_next;refine fD rfl _ rfl kY J rfl ?_ ?_)
  .intro h0 hl
   have al:∀z,z∈T↔z∈M:=λz=>by
    rw[L.out z,and_iff_left (hl z),a7.out z]
   have ac:=xc aq.out a8.out al;have ar:=hid ac;have cS:=hid (EJ wr (r+1) _ T hO om (by have:=J.lt.2;omega));clear hl al ac J;go_wp2_with fail;(with_reducible refine cS.out.mono ?_);rintro e w2 ⟨rfl,ax,a4⟩;rw[ar.out]at ax;have a1:Below w.heap.size w w2:=hB.trans (a4.mono om);have m:=hid (uY (aL.mono ax om) a1);clear ax a4 a1;go_wp2;go_ret;exact m.out
  .intro k u w4 ai hk ay P am a2 a6 Z
   obtain rfl:=a9.out k u hk;have R:=hO.Ic (S:=[r]) a2 rS;have aw:Below w.heap.size w w4:=Kept.below hB a2 hB.size so;have bj:=P.lt;have U:=hid P;have bg:r+1<=w4.heap.size:=om;by_cases ad:lev k=0
   .have a5:k∉T:=λh=>((L.out k).1 h).2 ay
    have ao:(T++[k]).Nodup:=by
     rw[List.nodup_append];exact⟨aq.out,rS,λa ha b hb=>by simp at hb;subst hb;intro e;subst e;exact a5 ha⟩
    have I:∀z,z∈T++[k]↔(V z≠none/\lev z=0)/\¬(left z/\¬z=k):=λz=>by
     rw[Zl,L.out z,List.mem_singleton];constructor
     .rintro(⟨a,c⟩|rfl)
      .exact⟨a,λh=>c h.1⟩
      .exact⟨⟨by rw[hk];simp,ad⟩,λh=>h.2 rfl⟩
     .rintro⟨a,c⟩
      by_cases e:z=k
      .exact .inr e
      .exact .inl ⟨a,λh=>c ⟨h,e⟩⟩
    have aS:=hid ao;have ap:=hid I;rw[ad]at Z⊢;rw[show iK k=rI k from rfl]at Z⊢;clear J hO hB a5 ao I P ay hk a6;go_wp2_with (at_builtin;(refine bH _ rfl _ _ rfl (r+1) _ _ _ rfl (R.alloc _) ⟨w4.heap.size,0,none⟩ rfl (dh _ _ _) om so ?_);intro v' w9 Q F)
    have a0:=below_grown (aw.alloc om _) so ((aL.mono R (show w.heap.size<=r+1 by omega)).alloc _) F;have ab:∀q,_=some q->r+1<=q:=λq hq=>(World.ownsRow.lt R q hq).1
    have aa:=(U.out.below (ah br)).kept (w':=w9) (S:=(Value.ownBlock _).toList) ⟨F.os,F.tape,F.output,F.size,λq hq hn=>F.block q hq (λe=>hn (by rw[<-e];simp))⟩
     (by intro hh;rw[Zv]at hh;have:=ab _ hh;omega) (by intro hh;rw[Zv]at hh;have:=ab _ hh;omega)
    have m:Rm w mb r V lev v' w9:=⟨_,ai,_,aa,Q,aS.out,ap.out,a0⟩;have g:=aa.left_eq;have g:=hid g;have m:=hid m;clear Q F R a0 aa ab Z;go_wp2;go_roundw
    case rel=>exact rR m.out
    case measure=>rw[hleft.out,g.out];exact am
   .have I:∀z,z∈T↔(V z≠none/\lev z=0)/\¬(left z/\¬z=k):=λz=>by
     rw[L.out z];constructor
     .rintro⟨a,c⟩;exact⟨a,λh=>c h.1⟩
     .rintro⟨a,c⟩
      refine⟨a,λh=>c ⟨h,λe=>?_⟩⟩;subst e;exact ad a.2
    obtain⟨t,ht⟩:=rX (lev k);rw[ht]at Z ad⊢;rw[show iK k=rI k from rfl]at Z⊢;have hd:(t==0)=false:=by simpa using ad
    have m:Rm w mb r V lev _ w4:=⟨_,ai,_,U.out,R,aq.out,I,aw⟩;have g:=hid U.out.left_eq;have m:=hid m;clear J hO hB I P ay hk a6 R aw ht;go_wp2;go_roundw
    case rel=>exact rR m.out
    case measure=>rw[hleft.out,g.out];exact am
end
section
open Go.Lib (hid)
open Go.RowKit Go.Sort FR
theorem J2(w:World)(e:Ed)(t:Int)(g:aT e.to_)(k:aT t):Calls prog 184 #[.agg #[rI e.to_,rI e.c.s,rI e.c.d,rI e.mid],rI t] w (Rt w (rI (e.to_-t))):=by
 obtain⟨x,⟨s,d⟩,m⟩:=e;simp only at g⊢;unfold aT at g k;have z:IntKind.i64.wrap (x-t)=x-t:=IntWalk.i64_in _ om;go_enter func184,ntmps184;go_wp2;go_ret;exact⟨rfl,be⟩
theorem Xc(w:World)(A:Option Addr)(n ab:Nat)(L:List Ed)(t:Int)(h:bP w A L)(hn:L.length=n)(hs:rQ L)(hb:∀e∈L,aT e.to_)(ht:aT t)(hl:n<=100000):Calls prog 180 #[.slice A n ab,rI t,.func (.func 184) #[] #[]] w (BK w L t):=by
 have hs:=hid hs;have hb:=hid hb;have Hn:=hid hn;have h:=hid h;clear hn;go_enter func180,ntmps180;go_wp2_with fail;go_loopw [9,10] (λiv jv wr=>∃i j:Nat,iv=rI i/\jv=rI j/\i<=j/\j<=n/\(∀k e,L[k]? =some e->k<i->e.to_<t)/\(∀k e,L[k]? =some e->j<=k->t<=e.to_)/\Below w.heap.size w wr) (λiv jv _=>(intOf jv).toNat-(intOf iv).toNat)
 case atStart=>exact⟨0,n,rfl,rfl,om,om,λk e _ h=>om,λk e hk hj=>by have:=(Zb.1 hk).1;have:=Hn.out;omega,br⟩
 case round=>
  obtain⟨i,j,rfl,rfl,aw,ax,h1,h2,HB⟩:=hrel;have h1:=hid h1;have h2:=hid h2;by_cases ay:i<j
  .have aq:IntKind.i64.wrap ((i:Int)+(j:Int))=(i:Int)+(j:Int):=IntWalk.i64_in _ om
   go_upto_region 5 with(fail);have al:((i:Int)+(j:Int))/2=(((i+j)/2:Nat):Int):=om;have ao:i<=(i+j)/2:=om;have ap:(i+j)/2<j:=om;rw[al];obtain⟨m,hm⟩:=rX ((i+j)/2);rw[hm]at ao ap⊢;clear hm al aq;have am:m<n:=om;obtain⟨e,u⟩:∃e,L[m]? =some e:=⟨L[m]'(by rw[Hn.out];exact am),Zc _⟩;have He:=hid u;obtain⟨g,hA,a1,a2,a3,a4⟩:=(h.out.below HB).get u;have ad:=λwx=>gZ (m:=ab) hA am wx;have M:=hid (J2 wr e t (hb.out e (Ze u)) ht);have Q:aT e.to_:=hb.out e (Ze u)
   have F:e.to_<t->∀k x,L[k]? =some x->k<m+1->x.to_<t:=λhl k x J hk=>by
    by_cases e1:k=m
    .subst e1;rw[J]at u;injection u with u;rw[u];exact hl
    .exact Int.lt_trans (hs.out k m x e om J u) hl
   have I:t<=e.to_->∀k x,L[k]? =some x->m<=k->t<=x.to_:=λhl k x J hk=>by
    by_cases e1:k=m
    .subst e1;rw[J]at u;injection u with u;rw[u];exact hl
    .have:=hs.out m k e x om u J
     omega
   have F:=hid F;have I:=hid I;obtain⟨x,J⟩:=rX e.to_;rw[J]at a1 M Q F I;obtain⟨xs,T⟩:=rX e.c.s;obtain⟨xd,R⟩:=rX e.c.d;obtain⟨xm,S⟩:=rX e.mid;rw[T]at a2 M;rw[R]at a3 M;rw[S]at a4 M;clear hA u J T R S;go_wp2_with fail;(with_reducible refine M.out.mono ?_);rintro r w2 ⟨rfl,Z⟩;have U:=ae HB Z;clear a1 a2 a3 a4 M ad;unfold aT at Q;by_cases ar:x<t
   .have hd:decide (x-t<0)=true:=so
    have F:=hid (F.out ar);have aE:IntKind.i64.wrap ((m:Int)+1)=((m+1:Nat):Int):=by rw[IntWalk.i64_in _ om];omega
    clear I;go_wp2;go_roundw
    case rel=>exact⟨m+1,j,rfl,rfl,om,om,F.out,h2.out,U⟩
    case measure=>exact rM
   .have hd:decide (x-t<0)=false:=so
    have I:=hid (I.out om);clear F;go_wp2;go_roundw
    case rel=>exact⟨i,m,rfl,rfl,om,om,h1.out,I.out,U⟩
    case measure=>exact rM
  .obtain rfl:i=j:=om
   have hcut:∀k x,L[k]? =some x->(k<i↔x.to_<t):=λk x J=>by
    constructor
    .exactλhk=>h1.out k x J hk
    .intro hl
     by_cases hk:k<i
     .exact hk
     .have:=h2.out k x J om
      omega
   have aa:=hid hcut;clear hcut;clear h1 h2;by_cases Q:i<n
   .obtain⟨e,u⟩:∃e,L[i]? =some e:=⟨L[i]'(by rw[Hn.out];exact Q),Zc _⟩
    obtain⟨g,hA,a1,a2,a3,a4⟩:=(h.out.below HB).get u;have ad:=λwx=>gZ (m:=ab) hA Q wx;have M:=hid (J2 wr e t (hb.out e (Ze u)) ht);have ai:aT e.to_:=hb.out e (Ze u);obtain⟨fd,ac⟩:∃fd,(e.to_-t==0)=fd:=⟨_,rfl⟩
    have B:fd=true↔∃x,L[i]? =some x/\x.to_=t:=by
     rw[<-ac,u];simp;omega
    have O:=hid B;clear B;have ag:=hid ac;obtain⟨x,J⟩:=rX e.to_;rw[J]at a1 M ag;obtain⟨xs,T⟩:=rX e.c.s;obtain⟨xd,R⟩:=rX e.c.d;obtain⟨xm,S⟩:=rX e.mid;rw[T]at a2 M;rw[R]at a3 M;rw[S]at a4 M;have q:(i:Int)<(n:Int):=om;clear hA u J T R S ac ai;go_wp2_with fail;(with_reducible refine M.out.mono ?_);rintro r w2 ⟨rfl,Z⟩;have U:=ae HB Z;clear a1 a2 a3 a4 M ad Z;have z:BK w L t (.returned (.tuple #[rI (i:Nat),.bool fd])) w2:=⟨i,fd,rfl,by rw[Hn.out];omega,aa.out,O.out,U⟩;rw[<-ag.out]at z;have P:=hid z;clear z;go_wp2;go_ret2;exact P.out
   .obtain rfl:i=n:=om
    have B:false=true↔∃x,L[i]? =some x/\x.to_=t:=by
     rw[List.getElem?_eq_none (by rw[Hn.out];omega)];simp
    have O:=hid B;clear B;have z:BK w L t (.returned (.tuple #[rI (i:Nat),.bool false])) wr:=⟨i,false,rfl,by rw[Hn.out];omega,aa.out,O.out,HB⟩;have P:=hid z;clear z;go_wp2;go_ret2;exact P.out
theorem VF(w:World)(A:Option Addr)(n g:Nat)(L:List Ed)(t:Int)(h:bP w A L)(P:L.length=n)(m:rQ L)(M:∀e∈L,aT e.to_)(Q:aT t)(O:n<=100000):Calls prog 180 #[.slice A n g,rI t,.func (.func 184) #[] #[]] w (Rt w (.tuple #[rI (fE L t:Nat),.bool (gU L t)])):=by
 refine(Xc w A n g L t h P m M Q O).mono ?_;rintro r u ⟨i,B,rfl,F,I,k,J⟩;have e:=Ii F I;subst e;rw[qV m]at k;have z:B=gU L t:=Bool.eq_iff_iff.2 k;rw[z];exact⟨rfl,J⟩
theorem UB(w:World)(S:List Nat)(b ml O:Nat)(top:Int)(E:Int->Option (List Ed))(a:Int)(x:Ed)(L:List Ed)(hb:w.heap[b]? =some (.cells #[.map (some ml),.map (some O),rI top] 171 (0,0)))(hE:cz w S O E)(a8:b∉S)(b2:b≠O)(hL:E a=some L)(hs:rQ L)(ba:∀e∈L,aT e.to_)(hx:aT x.to_)(hl:L.length<=1000):Calls prog 138 #[vP b,rI a,.agg #[rI x.to_,rI x.c.s,rI x.c.d,rI x.mid]] w (Rq w S O (bT E a (some (qa L x)))):=by
 have cg:=hE.lt;obtain⟨V,N,h1,h2,h3,h4,h5,h6,h7⟩:=hE
 obtain⟨u,hu⟩:∃u,V a=some u:=by
  cases hV:V a with
  |none=>rw[(h2 a).2 hV]at hL;cases hL
  |some u=>exact⟨u,rfl⟩
 have hO:=h3 a u L hu hL;have bi:∀q,u.ownBlock=some q->q∈S:=λq hq=>h4 a u q hu hq;obtain⟨A,g,rfl,a4⟩:=hO.yI;have ci:b<w.heap.size:=(Za.1 hb).1
 have bb:∀w',Below w.heap.size w w'->(Instr.lookup 124 (.map (some O)) (rI a) false).run prog w'=.ok (.slice A L.length g) w':=λw' b3=>by
  have:=((h1.below b3).look (aF underlying3) underlying124 (z:=.slice none 0 0) (by simp[zeroValue119]) a).2;rw[hu]at this;exact this
 obtain⟨J,⟨R,P⟩,Q⟩:=x;simp only at hx⊢;have H1:=hid h1;have H2:=hid h2;have H3:=hid h3;have H4:=hid h4;have H6:=hid h6;have H7:=hid h7;have HO:=hid hO;have Hu:=hid hu;have ao:=hid bi;have ag:=hid bb;obtain⟨i,hi⟩:=rX (fE L J);obtain⟨fd,ar⟩:=rX (gU L J);have b8:i<=L.length:=by rw[<-hi];exact(sS hs J).1
 have cB:=hid (λw'(bz:Below w.heap.size w w')=>(show Calls prog 180 #[.slice A L.length g,rI J,.func (.func 184) #[] #[]] w' λr w2=>r=.returned (.tuple #[rI (i:Nat),.bool fd])/\Below w'.heap.size w' w2 by
  have:=VF w' A L.length g L J (a4.below bz) rfl hs ba hx om;rw[hi,ar]at this;exact this))
 have aS:ng L ⟨J,⟨R,P⟩,Q⟩=L.take i++(⟨J,⟨R,P⟩,Q⟩:Ed)::L.drop i:=by unfold ng;rw[<-hi]
 have bh:qa L ⟨J,⟨R,P⟩,Q⟩=if fd=true then L.set i ⟨J,⟨R,P⟩,Q⟩else L.take i++(⟨J,⟨R,P⟩,Q⟩:Ed)::L.drop i:=by
  unfold qa;rw[aS];simp only[ar,hi]
 rw[bh];have bm:=hid ar;have Hi:=hid hi;have bp:=hid hs;obtain⟨n,hn⟩:=rX L.length;rw[hn]at hl b8 HO ao Hu ag cB;have Hn:=hid hn;have ch:=hid hb;have bl:w.cell? ⟨b,1,none⟩=some (.map (some O)):=by simp[World.cell?,hb]
 have hx:=hid hx;clear h1 h2 h3 h4 h6 h7 hO hu bi bb a4 hi ar aS ba hs hL hn hb;go_enter func138,ntmps138;go_upto_region 1 with(fail);refine aB ?_;intro W hW;have HW:Below w.heap.size w W:=by rw[hW];exact be
 have c0:W.cell? ⟨w.heap.size,0,none⟩=some (rI J):=by rw[hW];go_simp
 have c1:W.cell? ⟨w.heap.size,1,none⟩=some (rI R):=by rw[hW];go_simp
 have c2:W.cell? ⟨w.heap.size,2,none⟩=some (rI P):=by rw[hW];go_simp
 have c3:W.cell? ⟨w.heap.size,3,none⟩=some (rI Q):=by rw[hW];go_simp
 obtain⟨U,b1⟩:=rX w.heap.size;have ce:b≠U:=om;have ab:O≠U:=om;have ax:∀q,(Value.slice A n g).ownBlock=some q->q≠U:=λq hq=>by have:=HO.out.lt hq;omega
 have aw:=hid ax;rw[b1]at c0 c1 c2 c3⊢;have k1:=af HW bl;have ca:∀d os,(Instr.lookup 124 (.map (some O)) (rI a) false).run prog (grow (redrawn W d) os)=.ok (.slice A n g) (grow (redrawn W d) os):=λd os=>ag.out _ (ae HW (ZC W d os));have bq:=ZE c0;have cb:=ZE k1;have HX:=Below.refl W.heap.size W;clear hW bl ax;refine qb HX (λx(z:Below W.heap.size W x)=>cB.out x (ae HW z)) λI HY b0=>?_;have c0:=af HY c0;have c1:=af HY c1;have c2:=af HY c2;have c3:=af HY c3;have k1:=af HY k1;have M:=ae HW HY;clear bq cb ca HX b0 HY;cases fd with
 |true=>
   have ay:gU L J=true:=bm.out;rw[if_pos rfl]
   have aE:i<n:=by
    obtain⟨e,he,_⟩:=(qV bp.out J).2 ay;have:=(Zb.1 he).1;rw[Hi.out]at this;have:=Hn.out;omega
   obtain⟨B,rfl,ai⟩:∃B,A=some ⟨B,0,none⟩/\pY w B g n L:=by
    rcases HO.out.2 with⟨_,h0⟩|⟨B,cd,ap,e0,_,hg,cn,b4,b6,a2⟩
    .have:=Hn.out;omega
    .injection e0 with e1 e2 e3
     subst e3;exact⟨B,e1,ap,hg,b6,by have:=Hn.out;omega,b4,Hn.out,by have:=Hn.out;rw[<-this];exact a2⟩
   have a9:B∈S:=ao.out B rfl;have ck:b≠B:=λe=>a8 (e▸a9);have b7:B≠O:=λe=>h5 (e▸a9);have cj:U≠B:=λe=>aw.out B rfl e.symm;have aa:=ai.below M;have bj:L[i]? =some (L[i]'(by have:=Hn.out;omega)):=Zc _;obtain⟨p1,p2,p3,p4⟩:=aa.get bj
   obtain⟨f1,f2,f3,f4⟩:I.frozen? ⟨B,i*4,none⟩=false/\I.frozen? ⟨B,i*4+1,none⟩=false/\I.frozen? ⟨B,i*4+2,none⟩=false/\I.frozen? ⟨B,i*4+3,none⟩=false:=by
    obtain⟨ap,q1,_⟩:=aa;simp[World.frozen?,q1]
   have b9:(Instr.lookup 124 (.map (some O)) (rI a) false).run prog I.drew=.ok (.slice (some ⟨B,0,none⟩) n g) I.drew:=ag.out _ (aj M);have cl:=λwx=>gZ (A:=some ⟨B,0,none⟩) (m:=g) (n:=n) (k:=i) rfl aE wx;have al:pY I.drew B g n L:=ai.below (aj M);have hset:=al.set aE ⟨J,⟨R,P⟩,Q⟩;have hK:Kept [B] I.drew ((((I.drew.setCell ⟨B,i*4,none⟩ (rI J)).setCell ⟨B,i*4+1,none⟩ (rI R)).setCell ⟨B,i*4+2,none⟩ (rI P)).setCell ⟨B,i*4+3,none⟩ (rI Q)):=((((Kept.refl _ _).setCell (.inl rS)).setCell (.inl rS)).setCell (.inl rS)).setCell (.inl rS);have HR:=hid (rN hset hK);clear ai aa al hset hK bj ay;go_upto_region 3 with(fail);go_region
   have hV:aN V a (some (.slice (some ⟨B,0,none⟩) n g))=V:=by
    funext z;unfold aN;split
    .rename_i e;rw[e,Hu.out]
    .rfl
   have aq:bf ((((I.drew.setCell ⟨B,i*4,none⟩ (rI J)).setCell ⟨B,i*4+1,none⟩ (rI R)).setCell ⟨B,i*4+2,none⟩ (rI P)).setCell ⟨B,i*4+3,none⟩ (rI Q)) 0 (.slice (some ⟨B,0,none⟩) n g) (L.set i ⟨J,⟨R,P⟩,Q⟩):=by
    obtain⟨ap,q1,q2,q3,q4,q5,q6⟩:=HR.out.1;have a1:(L.set i ⟨J,⟨R,P⟩,Q⟩).length=n:=q5;exact⟨by rw[bE],.inr ⟨B,g,ap,by rw[a1],Zw _,q1,by rw[a1];exact q3,q4,q2,by rw[a1];exact q6⟩⟩
   have F:I.drew.grownBy ((((I.drew.setCell ⟨B,i*4,none⟩ (rI J)).setCell ⟨B,i*4+1,none⟩ (rI R)).setCell ⟨B,i*4+2,none⟩ (rI P)).setCell ⟨B,i*4+3,none⟩ (rI Q)) (some B):=⟨HR.out.2.os,HR.out.2.tape,HR.out.2.output,HR.out.2.size,λk hk hn=>HR.out.2.block k hk (by simp;exactλe=>hn (by rw[e]))⟩
   have a6:MapAt iK ((((I.drew.setCell ⟨B,i*4,none⟩ (rI J)).setCell ⟨B,i*4+1,none⟩ (rI R)).setCell ⟨B,i*4+2,none⟩ (rI P)).setCell ⟨B,i*4+3,none⟩ (rI Q)) O (aN V a (some (.slice (some ⟨B,0,none⟩) n g))) N:=by
    rw[hV];exact(H1.out.below (aj M)).kept HR.out.2 (by simp;exact Ne.symm b7)
   have Z:=cz.put (w:=w) (w1:=I.drew) H1.out H2.out H3.out H4.out h5 H6.out H7.out Hu.out (aj M) aq F (.inl rfl) a6 (Kept.refl _ _);have Z:=hid Z;clear aq F a6 hV;clear p1 p2 p3 p4 f1 f2 f3 f4;go_wp2;go_end0;exact⟨rfl,Z.out⟩
 |false=>
   go_upto_region 4 with(fail);obtain⟨o,ho⟩:∃o,Obj.cells #[Value.int .i64 J,Value.int .i64 R,Value.int .i64 P,Value.int .i64 Q] 192 (0,0)=o:=⟨_,rfl⟩;have b9:(Instr.lookup 124 (.map (some O)) (rI a) false).run prog I.drew=.ok (.slice A n g) I.drew:=ag.out _ (aj M);have cm:∀o,(Instr.lookup 124 (.map (some O)) (rI a) false).run prog (I.alloc o).drew=.ok (.slice A n g) (I.alloc o).drew:=λo=>ag.out _ (aj (ah M));have a7:bf (I.alloc o).drew 0 (.slice A n g) L:=HO.out.kept (T:=[]) (.of_below (aj (ah M))) (λ_ _=>rS);have a5:MapAt iK (I.alloc o).drew O V N:=H1.out.below (aj (ah M));have bk:(I.alloc o).drew.heap[I.heap.size]? =some (.cells (Ed.cells ⟨J,⟨R,P⟩,Q⟩).toArray 192 (0,0)):=by rw[<-ho];exact alloc_at I _ rfl
   have a0:(Value.slice A n g).ownBlock≠some I.heap.size:=λe=>by have:=HO.out.lt e;have:=M.size;omega
   have bd:some b≠(Value.slice A n g).ownBlock:=λe=>a8 (ao.out b e.symm);have bc:some U≠(Value.slice A n g).ownBlock:=λe=>(aw.out U e.symm) rfl;have bg:some O≠(Value.slice A n g).ownBlock:=λe=>h5 (ao.out O e.symm);have a3:Below w.heap.size w (I.alloc o).drew:=aj (ah M);have HA:=hid (rN a7 (rN a5 (rN bk (rN a0 (rN bd (rN bc (rN bg a3)))))));have am:L.length<=100000:=by have:=Hn.out;omega
   have bo:i<=L.length:=by have:=Hn.out;omega
   have Ho:=hid ho;clear a7 a5 bk a0 bd bc bg a3;rw[<-ho]at HA;clear ho
   go_region_held3 (λw'=>w'.cell? ⟨b,1,none⟩=some (.map (some O))/\w'.cell? ⟨U,0,none⟩=some (rI J)/\w'.cell? ⟨U,1,none⟩=some (rI R)/\w'.cell? ⟨U,2,none⟩=some (rI P)/\w'.cell? ⟨U,3,none⟩=some (rI Q))
    (first
     |exact⟨k1,c0,c1,c2,c3⟩
     |exact⟨aD k1,aD c0,aD c1,aD c2,aD c3⟩
     |exact ad
     |exact bx)
    ((first
     |(go_at_call 182
       refine(JP _ 0 (.slice A n g) L i I.heap.size ⟨J,⟨R,P⟩,Q⟩ HA.out.1 bo HA.out.2.2.1 HA.out.2.2.2.1 (Zw _) am).mono ?_;rintro e wI ⟨v',rfl,aq,F,bt⟩
       have ad:wI.cell? ⟨b,1,none⟩=some (.map (some O))/\wI.cell? ⟨U,0,none⟩=some (rI J)/\wI.cell? ⟨U,1,none⟩=some (rI R)/\wI.cell? ⟨U,2,none⟩=some (rI P)/\wI.cell? ⟨U,3,none⟩=some (rI Q):=
        ⟨F.cell (aD k1) HA.out.2.2.2.2.1,F.cell (aD c0) HA.out.2.2.2.2.2.1,F.cell (aD c1) HA.out.2.2.2.2.2.1,F.cell (aD c2) HA.out.2.2.2.2.2.1,F.cell (aD c3) HA.out.2.2.2.2.2.1⟩
       have bv:MapAt iK wI O V N:=HA.out.2.1.kept (S:=(Value.slice A n g).ownBlock.toList) ⟨F.os,F.tape,F.output,F.size,λq hq hn=>F.block q hq (λe=>hn (by rw[<-e];simp))⟩ (by
        intro hh;have:=HA.out.2.2.2.2.2.2.1;cases hv:(Value.slice A n g).ownBlock with
        |none=>rw[hv]at hh;simp at hh
        |some r=>rw[hv]at hh this;simp at hh;exact this (by rw[hh]))
       obtain⟨wU,hU,bw,ac⟩:=bv.store (aF underlying3) underlying124 a v';have hU:(Instr.mapUpdate 124 (.map (some O)) (rI a) v').run prog wI=.ok () wU:=hU
       have bx:wU.cell? ⟨b,1,none⟩=some (.map (some O))/\wU.cell? ⟨U,0,none⟩=some (rI J)/\wU.cell? ⟨U,1,none⟩=some (rI R)/\wU.cell? ⟨U,2,none⟩=some (rI P)/\wU.cell? ⟨U,3,none⟩=some (rI Q):=
        ⟨aH ac (by simpa using b2) ad.1,aH ac (by simpa using Ne.symm ab) ad.2.1,aH ac (by simpa using Ne.symm ab) ad.2.2.1,aH ac (by simpa using Ne.symm ab) ad.2.2.2.1,aH ac (by simpa using Ne.symm ab) ad.2.2.2.2⟩)))
   all_goals
    have Z:=cz.put H1.out H2.out H3.out H4.out h5 H6.out H7.out Hu.out HA.out.2.2.2.2.2.2.2 aq F bt bw ac;go_end0;exact⟨rfl,by simpa using Z⟩
end
section
open Go.Lib (hid)
open Go.RowKit Go.Sort FR Go.Lib
variable {c:C}{e:Ed}{g:G}{cd cs z:Int}{S:LS}{L:List Ed}{N a b eb j k mo n q:Nat}{T:Nat->Nat->Prop}{hp hp2:Nat->Option C}{A1:Option Addr}{W w w':World}
def dZ(S:LS)(N n:Nat):List Ed:=(List.range N).filterMap λt=>(S.eg n t).map λcm=>⟨(t:Nat),cm.1,cm.2⟩
theorem eH:e∈dZ S N n↔∃t:Nat,t<N/\e.to_=t/\S.eg n t=some (e.c,e.mid):=by
 unfold dZ;simp only[List.mem_filterMap,List.mem_range,Option.map_eq_some_iff];constructor
 .rintro⟨t,B,⟨c,m⟩,u,rfl⟩;exact⟨t,B,rfl,u⟩
 .rintro⟨t,B,u,F⟩;exact⟨t,B,_,F,by cases e;simp at u⊢;exact u.symm⟩
theorem Iz(S:LS)(N n:Nat):(dZ S N n).Pairwise (λa b=>a.to_<b.to_):=by
 unfold dZ;refine List.Pairwise.filterMap _ (R:=(· < ·)) ?_ List.pairwise_lt_range;intro a B h b u F m;simp only[Option.map_eq_some_iff]at u m;obtain⟨_,_,rfl⟩:=u;obtain⟨_,_,rfl⟩:=m;simp only;omega
theorem kM(S:LS)(N n:Nat):rQ (dZ S N n):=zK.2 (Iz S N n)
theorem dS(S:LS)(N n:Nat):(dZ S N n).length<=N:=by
 unfold dZ;exact Zg (List.length_filterMap_le _ _) rS
open Classical in
noncomputable def bN(g:G)(S:LS)(z:Int):Option Value:=if 0<=z/\g.av z.toNat then some (rI (S.lev z.toNat:Nat))else none
open Classical in
noncomputable def eZ(g:G)(S:LS)(z:Int):Option (List Ed):=if 0<=z/\g.av z.toNat then some (dZ S g.n z.toNat)else none
open Classical in
noncomputable def uQ(g:G)(S:LS)(z:Int):Int:=if 0<=z/\g.av z.toNat then(S.lev z.toNat:Nat)else 0
theorem UA(g:G)(S:LS):NA (bN g S) (uQ g S):=λz=>by
 unfold bN uQ;split<;>rfl
theorem gq(h:g.av n):bN g S (n:Nat)=some (rI (S.lev n:Nat)):=by
 unfold bN;rw[if_pos ⟨om,by simpa using h⟩];simp
theorem fM(h:g.av n):eZ g S (n:Nat)=some (dZ S g.n n):=by
 unfold eZ;rw[if_pos ⟨om,by simpa using h⟩];simp
theorem nu(h:g.av n):uQ g S (n:Nat)=(S.lev n:Nat):=by
 unfold uQ;rw[if_pos ⟨om,by simpa using h⟩];simp
theorem pJ(h:¬(0<=z/\g.av z.toNat)):bN g S z=none:=by unfold bN;rw[if_neg h]
theorem sF(h:¬(0<=z/\g.av z.toNat)):eZ g S z=none:=by unfold eZ;rw[if_neg h]
theorem sQ:bN g S z≠none↔∃n:Nat,z=n/\g.av n:=by
 unfold bN;constructor
 .intro h
  split at h
  .rename_i q;exact⟨z.toNat,om,q.2⟩
  .exact absurd rfl h
 .rintro⟨n,rfl,h⟩
  rw[if_pos ⟨om,by simpa using h⟩];simp
theorem PG(z:Int)(u:Value)(h:bN g S z=some u):u=rI (uQ g S z):=by
 unfold bN at h;unfold uQ;split at h
 .rename_i q;rw[if_pos q];injection h with h;exact h.symm
 .cases h
def I4(g:G)(S:LS):Prop:=∀a b,S.eg a b≠none->g.av a/\g.av b/\a≠b
def rH(S:LS)(N n:Nat):List Ed:=(dZ S N n).filter λe=>decide (S.lev e.to_.toNat=0)
theorem Eu(h:I4 g S)(n:Nat):qj (uQ g S) (dZ S g.n n)=rH S g.n n:=by
 unfold qj rH;apply List.filter_congr;intro e F;obtain⟨t,I,m,u⟩:=eH.1 F;have B:=(h n t (by rw[u];simp)).2.1;rw[m,nu B];simp
theorem J7:e∈rH S N n↔∃t:Nat,t<N/\e.to_=t/\S.eg n t=some (e.c,e.mid)/\S.lev t=0:=by
 unfold rH;rw[List.mem_filter,eH];constructor
 .rintro⟨⟨t,B,m,F⟩,u⟩
  rw[m]at u;exact⟨t,B,m,F,by simpa using u⟩
 .rintro⟨t,B,m,F,u⟩
  exact⟨⟨t,B,m,F⟩,by rw[m];simpa using u⟩
theorem sP(S:LS)(N n:Nat):(rH S N n).length<=N:=Zg (List.length_filter_le _ _) (dS S N n)
theorem G8(S:LS)(N n:Nat):(rH S N n).map (λe=>e.to_.toNat)=S.nb N n:=by
 unfold rH dZ LS.nb;generalize List.range N=l
 induction l with
 |nil=>rfl
 |cons t l m=>
  cases h:S.eg n t with
  |none=>simp[List.filterMap_cons,List.filter_cons,h,m]
  |some cm=>
   by_cases u:S.lev t=0
   .simp[List.filterMap_cons,List.filter_cons,h,u,m]
   .simp[List.filterMap_cons,List.filter_cons,h,u,m]
theorem pI(S:LS)(N n:Nat):(rH S N n).length=(S.nb N n).length:=by rw[<-G8,Zr]
theorem qU{N n i:Nat}(h:(rH S N n)[i]? =some e):∃t:Nat,t<N/\e.to_=t/\S.eg n t=some (e.c,e.mid)/\S.lev t=0/\(S.nb N n)[i]? =some t/\S.cost n t=e.c:=by
 obtain⟨t,B,m,u,F⟩:=J7.1 (Ze h);refine⟨t,B,m,u,F,?_,LS.pF u⟩;rw[<-G8,Zy,h,Option.map_some,m];simp
def Wo(e:Ed):Value:=.agg #[rI e.to_,rI e.c.s,rI e.c.d,rI e.mid]
open Classical in
noncomputable def lu(S:LS)(n:Nat)(T:Nat->Nat->Prop)(k:Int×Int):Option Value:=
 if 0<=k.1/\0<=k.2/\T k.1.toNat k.2.toNat then some (Wo ⟨k.2,C.add (S.cost n k.1.toNat) (S.cost n k.2.toNat),(n:Nat)⟩)else none
theorem C8(h:T a b):lu S n T ((a:Nat),(b:Nat))=some (Wo ⟨(b:Nat),C.add (S.cost n a) (S.cost n b),(n:Nat)⟩):=by
 unfold lu;rw[if_pos ⟨rS,rS,by simpa using h⟩];simp
theorem ME{k:Int×Int}(h:lu S n T k≠none):∃a b:Nat,k=(((a:Nat):Int),((b:Nat):Int))/\T a b:=by
 unfold lu at h;split at h
 .rename_i q
  refine⟨k.1.toNat,k.2.toNat,?_,q.2.2⟩;obtain⟨m,u⟩:=k;simp at q⊢;omega
 .exact absurd rfl h
theorem Ql:aN (lu S n T) (((a:Nat):Int),((b:Nat):Int)) (some (Wo ⟨(b:Nat),C.add (S.cost n a) (S.cost n b),(n:Nat)⟩))=lu S n (λx y=>T x y\/(x=a/\y=b)):=by
 funext k;obtain⟨u,B⟩:=k;unfold aN;by_cases e:(u,B)=(((a:Nat):Int),((b:Nat):Int))
 .rw[if_pos e,e,C8 (.inr ⟨rfl,rfl⟩)]
 .rw[if_neg e]
  unfold lu;simp only;by_cases h:0<=u/\0<=B
  .by_cases m:T u.toNat B.toNat
   .rw[if_pos ⟨h.1,h.2,m⟩,if_pos ⟨h.1,h.2,.inl m⟩]
   .rw[if_neg (λq=>m q.2.2),if_neg]
    rintro⟨_,_,q|⟨F,I⟩⟩
    .exact m q
    .exact e (Prod.ext (by simp only;omega) (by simp only;omega))
  .rw[if_neg (λq=>h ⟨q.1,q.2.1⟩),if_neg (λq=>h ⟨q.1,q.2.1⟩)]
theorem Fu{n top a b:Nat}(ha:g.av a)(hb:g.av b)(Q:a≠b):bT (bT (eZ g (S.part n top T)) a (some (qa (dZ (S.part n top T) g.n a) ⟨b,C.add (S.cost n a) (S.cost n b),(n:Nat)⟩))) b (some (qa (dZ (S.part n top T) g.n b) ⟨a,C.add (S.cost n a) (S.cost n b),(n:Nat)⟩))=eZ g (S.part n top λx y=>T x y\/(x=a/\y=b)):=by
 have Z:∀(x y:Nat),g.av y->((x=a/\y=b)\/(x=b/\y=a))->qa (dZ (S.part n top T) g.n x) ⟨y,C.add (S.cost n a) (S.cost n b),(n:Nat)⟩=dZ (S.part n top λx y=>T x y\/(x=a/\y=b)) g.n x:=by
  intro x y hy u;refine tQ (zK.1 (FO (kM _ _ _) _)) (Iz _ _ _) λe=>?_
  have m:C.add (S.cost n a) (S.cost n b)=C.add (S.cost n x) (S.cost n y):=by
   rcases u with⟨rfl,rfl⟩|⟨rfl,rfl⟩
   .rfl
   .exact C.add_comm _ _
  have R:∀t,t≠y->((S.part n top λx y=>T x y\/(x=a/\y=b)).eg x t=(S.part n top T).eg x t):=by
   intro t ht;refine LS.Bj ?_
   .show((T x t\/(x=a/\t=b))\/(T t x\/(t=a/\x=b)))↔(T x t\/T t x)
    constructor
    .rintro((q|⟨J,M⟩)|(q|⟨J,M⟩))
     .exact .inl q
     .rcases u with⟨B,F⟩|⟨B,F⟩
      .exact absurd (M.trans F.symm) ht
      .exact absurd (J.symm.trans B) Q
     .exact .inr q
     .rcases u with⟨B,F⟩|⟨B,F⟩
      .exact absurd (B.symm.trans M) Q
      .exact absurd (J.trans F.symm) ht
    .rintro(q|q)
     .exact .inl (.inl q)
     .exact .inr (.inl q)
  have U:(S.part n top λx y=>T x y\/(x=a/\y=b)).eg x y=some (C.add (S.cost n x) (S.cost n y),(n:Int)):=by
   refine LS.zk ?_;rcases u with⟨B,F⟩|⟨B,F⟩
   .exact .inl (.inr ⟨B,F⟩)
   .exact .inr (.inr ⟨F,B⟩)
  rw[yV (kM _ _ _),eH,eH];constructor
  .rintro(rfl|⟨⟨t,h1,O,I⟩,h4⟩)
   .exact⟨y,hy.1,rfl,by rw[U,m]⟩
   .refine⟨t,h1,O,?_⟩
    rw[R t (by rintro rfl;exact h4 O)];exact I
  .rintro⟨t,h1,O,I⟩
   by_cases P:t=y
   .subst P
    rw[U]at I;left;injection I with I
    injection I with J M
    cases e;simp at O J M⊢;exact⟨O,by rw[m];exact J.symm,M.symm⟩
   .right
    rw[R t P]at I;exact⟨⟨t,h1,O,I⟩,by simp only;rw[O];omega⟩
 funext z;unfold bT;by_cases P:z=(b:Nat)
 .rw[if_pos P,P,fM hb,Z b a ha (.inr ⟨rfl,rfl⟩)]
 .rw[if_neg P]
  by_cases L:z=(a:Nat)
  .rw[if_pos L,L,fM ha,Z a b hb (.inl ⟨rfl,rfl⟩)]
  .rw[if_neg L]
   unfold eZ;by_cases k:0<=z/\g.av z.toNat
   .rw[if_pos k,if_pos k]
    congr 1;unfold dZ;congr 1;funext t
    have:(S.part n top T).eg z.toNat t=(S.part n top λx y=>T x y\/(x=a/\y=b)).eg z.toNat t:=by
     refine LS.Bj ?_
     .show(T z.toNat t\/T t z.toNat)↔((T z.toNat t\/(z.toNat=a/\t=b))\/(T t z.toNat\/(t=a/\z.toNat=b)))
      constructor
      .rintro(q|q)
       .exact .inl (.inl q)
       .exact .inr (.inl q)
      .rintro((q|⟨J,M⟩)|(q|⟨J,M⟩))
       .exact .inl q
       .omega
       .exact .inr q
       .omega
    rw[this]
   .rw[if_neg k,if_neg k]
structure Dx (W w:World) (mo q:Nat) (S:List Nat) (N:Nat) (done hp:Nat->Option C):Prop where
 mapC:MapAt iK w mo (eQ (eP done)) (bJ done N)
 heap:bU w S q (bJ hp N) (rJ hp)
 dis:mo∉S
 far:∀k∈S,W.heap.size<=k
 own:W.heap.size<=mo
 bel:Below W.heap.size W w
theorem Dx.below{S:List Nat}{done hp:Nat->Option C}(h:Dx W w mo q S N done hp)(m:Below w.heap.size w w'):Dx W w' mo q S N done hp:=
 ⟨h.mapC.below m,h.heap.below m,h.dis,h.far,h.own,h.bel.trans (m.mono h.bel.size)⟩
theorem Dx.pushed{S:List Nat}{done hp hp2:Nat->Option C}(h:Dx W w mo q S N done hp){u:Value}{e:Ending}(J:rO w S q (bJ hp2 N) (rJ hp2) u e w'):∃m,Dx W w' mo q m N done hp2/\(∀k∈m,k∈S\/w.heap.size<=k)/\Kept S w w':=by
 obtain⟨_,m,I,B,F⟩:=J;have P:=h.mapC.lt;refine⟨m,⟨h.mapC.kept F h.dis,I,λO=>?_,λk M=>?_,h.own,Kept.below h.bel F h.bel.size h.far⟩,B,F⟩
 .rcases B _ O with x|x
  .exact h.dis x
  .omega
 .rcases B _ M with x|x
  .exact h.far k x
  .exact Zg h.bel.size x
theorem Dx.popped{S:List Nat}{done hp hp2:Nat->Option C}(h:Dx W w mo q S N done hp)(u:bU w' S q (bJ hp2 N) (rJ hp2))(m:Kept S w w'):Dx W w' mo q S N done hp2:=
 ⟨h.mapC.kept m h.dis,u,h.dis,h.far,h.own,Kept.below h.bel m h.bel.size h.far⟩
theorem Dx.done{S:List Nat}{done hp:Nat->Option C}{u m:Int}(h:Dx W w mo q S N done hp)(O:k<N)(J:done k=none)(B:MapAt iK w' mo (aN (eQ (eP done)) (k:Nat) (some (.agg #[rI u,rI m]))) (if(eQ (eP done) (k:Nat)).isSome then bJ done N else bJ done N+1))(F:Kept [mo] w w'):Dx W w' mo q S N (upd done k (some ⟨u,m⟩)) hp:=by
 have e:(eQ (eP done) (k:Nat)).isSome=false:=by rw[fF];unfold eP;rw[J];rfl
 rw[lZ,show(some (Value.agg #[rI u,rI m]):Option Value)=some (oD ⟨u,m⟩)from rfl,pG,e]at B;simp only[Bool.false_eq_true,if_false]at B;rw[<-lQ O J ⟨u,m⟩]at B;refine⟨B,h.heap.kept F ?_,h.dis,h.far,h.own,Kept.below h.bel F h.bel.size ?_⟩
 .intro j M e
  simp at e;subst e;exact h.dis M
 .intro i I
  simp at I;subst I;exact h.own
def gD(L:List Ed)(n j:Nat)(b:Nat)(e:C):Prop:=∃(i:Nat)(x:Ed),j<=i/\L[i]? =some x/\x.to_=(b:Nat)/\x.c=e/\b≠n
theorem gD.first{e:C}(I:∀y c m,S.eg k y=some (c,m)->y<N)(h:S.Lw n k b e):gD (rH S N k) n 0 b e:=by
 obtain⟨⟨_,B,m,u⟩,M,F⟩:=h;have:(⟨(b:Nat),e,m⟩:Ed)∈rH S N k:=J7.2 ⟨b,I _ _ _ u,rfl,u,B⟩;obtain⟨i,J⟩:=Zo this;exact⟨i,_,Zw _,J,rfl,rfl,F⟩
theorem gD.next{n j t:Nat}{x:Ed}(J:L[j]? =some x)(O:x.to_=(t:Nat))(b:Nat)(e:C)(h:gD L n j b e):gD L n (j+1) b e\/(b=t/\e=x.c):=by
 obtain⟨i,y,M,m,F,u,I⟩:=h;by_cases B:i=j
 .subst B
  rw[J]at m;injection m with m;subst m
  right;exact⟨om,u.symm⟩
 .exact .inl ⟨i,y,om,m,F,u,I⟩
theorem gD.skip{x:Ed}(J:L[j]? =some x)(O:x.to_=(n:Nat))(b:Nat)(e:C)(h:gD L n j b e):gD L n (j+1) b e:=by
 obtain⟨i,y,M,m,F,I,u⟩:=h;by_cases B:i=j
 .subst B
  rw[J]at m;injection m with m;subst m
  exact absurd om u
 .exact⟨i,y,om,m,F,I,u⟩
theorem gD.over(b:Nat)(e:C):¬gD L n L.length b e:=by
 rintro⟨i,y,u,m,_⟩;have:=(Zb.1 m).1;omega
def XI(W:World)(mo q eb:Nat)(S:LS)(fr n k N:Nat)(L:List Ed)(A1:Option Addr)(done:Nat->Option C)(cs cd:Int)(j:Nat)(wr:World):Prop:=
 ∃Sb hp,Dx W wr mo q Sb N done hp/\FM (S.Lw n) fr N done hp k (gD L n j)/\bP wr A1 L/\(0<L.length->∀ad,A1=some ad->ad.block∉Sb/\ad.block≠mo)/\eb∉Sb/\eb≠mo/\
  wr.cell? ⟨eb,0,none⟩=some (rI cs)/\wr.cell? ⟨eb,1,none⟩=some (rI cd)
def Rb(W:World)(mo q eb N:Nat)(L:List Ed)(A1:Option Addr)(done hp:Nat->Option C)(cs cd:Int)(wr:World):Prop:=
 ∃Sb,Dx W wr mo q Sb N done hp/\bP wr A1 L/\(0<L.length->∀ad,A1=some ad->ad.block∉Sb/\ad.block≠mo)/\eb∉Sb/\eb≠mo/\wr.cell? ⟨eb,0,none⟩=some (rI cs)/\wr.cell? ⟨eb,1,none⟩=some (rI cd)
theorem Rb.Tg{J:List Nat}{done hp hp2:Nat->Option C}(h:Dx W w mo q J N done hp)(z:bP w A1 L)(O:0<L.length->∀F,A1=some F->F.block∉J/\F.block≠mo)(P:eb∉J)(Q:eb≠mo)(U:w.cell? ⟨eb,0,none⟩=some (rI cs))(T:w.cell? ⟨eb,1,none⟩=some (rI cd)){u:Value}{e:Ending}(hD:rO w J q (bJ hp2 N) (rJ hp2) u e w'):Rb W mo q eb N L A1 done hp2 cs cd w':=by
 obtain⟨S,h1,k,M⟩:=h.pushed hD;have l0:=ZF _ _ U;simp only at l0;refine⟨S,h1,?_,?_,?_,Q,aZ M P U,aZ M P T⟩
 .intro B
  obtain⟨g,m,I,hc⟩:=z B;have hg:=(O B _ m).1;exact⟨g,m,Zf I M.size,λj v hv=>aZ M hg (hc j v hv)⟩
 .intro B F m
  refine⟨λR=>?_,(O B F m).2⟩;obtain⟨g,Z,I,_⟩:=z B;rw[Z]at m;injection m with m;subst m
  rcases k _ R with x|x
  .exact(O B _ Z).1 x
  .simp only at x;omega
 .intro R
  rcases k _ R with x|x
  .exact P x
  .omega
theorem Rb.below{done hp:Nat->Option C}(h:Rb W mo q eb N L A1 done hp cs cd w)(m:Below w.heap.size w w'):Rb W mo q eb N L A1 done hp cs cd w':=by
 obtain⟨S,u,B,F,I,J,M,O⟩:=h;exact⟨S,u.below m,B.below m,F,I,J,af m M,af m O⟩
theorem Rb.to{fr n k N:Nat}{done hp:Nat->Option C}(h:Rb W mo q eb N L A1 done hp cs cd w)(P:FM (S.Lw n) fr N done hp k (gD L n j)):XI W mo q eb S fr n k N L A1 done cs cd j w:=by
 obtain⟨m,u,B,F,I,J,M,O⟩:=h;exact⟨m,hp,u,P,B,F,I,J,M,O⟩
def X9(w:World)(S:LS)(fr n N:Nat)(e:Ending)(w':World):Prop:=∃mo done,e=.returned (.map (some mo))/\MapAt iK w' mo (eQ (eP done)) (bJ done N)/\(∀t c,done t=some c->df (S.Lw n) fr t c)/\(∀t,done t=none->∀c,¬Walk (S.Lw n) fr t c)/\
 (∀t c,done t=some c->0<=c.s/\c.s<=512000/\0<=c.d/\c.d<=512000)/\w.heap.size<=mo/\Below w.heap.size w w'
def XJ(W:World)(mo q:Nat)(S:LS)(fr n N gk:Nat)(wr:World):Prop:=∃Sb done hp k0,Dx W wr mo q Sb N done hp/\FM (S.Lw n) fr N done hp k0 (λ_ _=>False)/\N-bJ done N<=gk
theorem PQ{n fr:Nat}(I:I4 g S)(u:g.av fr)(B:S.lev fr=0)(F:fr≠n)(h:Walk (S.Lw n) fr k c):g.av k/\S.lev k=0/\k≠n:=by
 cases h with
 |nil=>exact⟨u,B,F⟩
 |snoc _ he=>
  obtain⟨⟨_,J,m,M⟩,_,O⟩:=he;exact⟨(I _ _ (by rw[M];simp)).2.1,J,O⟩
def NU(S:LS):Prop:=∀a b c m,S.eg a b=some (c,m)->0<=c.s/\c.s<=2000/\0<=c.d/\c.d<=2000
theorem vz(h:NU S)(n:Nat):∀a b c,S.Lw n a b c->C.Nn c:=λa b c⟨⟨_,_,m,q⟩,_⟩=>by
 have:=h a b c m q;exact⟨this.1,this.2.2.1⟩
theorem SK(w:World)(b ml me nl:Nat)(Sb:List Nat)(top:Int)(g:G)(S:LS)(ct:g.ok)(hc:I4 g S)(hs:NU S)(fr n:Nat)(ce:g.av fr)(hl:S.lev fr=0)(cr:fr≠n)(h:dF w b ml me Sb top (bN g S) nl (eZ g S)):Calls prog 183 #[vP b,rI (fr:Nat),rI (n:Nat)] w (X9 w S fr n g.n):=by
 have hn:=G.bA ct;have cN:=@run_makeMap prog;have H:=hid h;have Hc:=hid hc;have Hs:=hid hs;have ao:=hid (rN ce (rN hl cr));have Hn:=hid hn;clear h hc hs ce hl cr ct hn;go_enter func183,ntmps183;go_upto_region 2 with(fail);refine aB ?_;intro W1 aE;have bq:Below w.heap.size w W1:=by rw[aE];exact be
 have ba:MapAt iK W1 w.heap.size (λ_=>none) 0:=by rw[aE];exact MapAt.made w
 have cQ:W1.heap.size=w.heap.size+1:=by rw[aE];simp
 obtain⟨mo,cO⟩:=rX w.heap.size;rw[cO]at ba⊢;clear aE cN;go_wp2_with fail;(with_reducible refine(JN W1).mono ?_);rintro e w4 ⟨q,S0,rfl,hH,bd,bg⟩;rw[EF,show(0:Nat)=bJ (λ_=>none) g.n from(pz _).symm]at hH
 have b1:Dx w w4 mo q S0 g.n (λ_=>none) (λ_=>none):=by
  refine⟨?_,hH,λhm=>?_,λk hk=>?_,om,ae bq bg⟩
  .rw[lY (f:=eP λ_=>none) (λ_=>rfl),pz]
   exact ba.below bg
  .have:=bd _ hm;omega
  .have:=bd _ hk;omega
 have aa:=hid b1;have cP:=hid (λw' h'=>uN w' S0 q g.n (λ_=>none) fr 0 0 true h' ao.out.1.1 (by have:=Hn.out;omega) ⟨by unfold aT;simp only;omega,by unfold aT;simp only;omega⟩ rfl);clear hH bd bg b1 ba bq cQ;go_wp2_with fail;(with_reducible refine(cP.out _ aa.out.heap).mono ?_);rintro e w5 hD;have hD:=hid hD;obtain⟨rfl,_⟩:=hD.out;obtain⟨S5,b2,_⟩:=aa.out.pushed hD.out;have b0:FM (S.Lw n) fr g.n (λ_=>none) (FR.upd (λ_=>none) fr (some C.zero)) fr (λ_ _=>False):=FM.start ao.out.1.1 fr;obtain⟨N0,cJ⟩:∃N0,N0=g.n:=⟨_,rfl⟩;have hstart:XJ w mo q S fr n g.n N0 w5:=⟨S5,_,_,fr,b2,b0,om⟩;clear hD aa b2 b0 cP cJ;go_wp2_with fail;go_loopg [] N0 (λgk wr=>XJ w mo q S fr n g.n gk wr)
 case atStart=>exact hstart
 case round=>
  obtain⟨Sh,done,hp,k0,hS,hF,cV⟩:=hrel;clear hstart;have HS:=hid hS;have T:=hid hF;by_cases h0:bJ hp g.n=0
  .have hH:=hS.heap
   rw[h0]at hH;go_wp2_with fail;(with_reducible refine(sN _ Sh q (rJ hp) hH).mono ?_);rintro e w6 ⟨rfl,b7⟩;have ap:=HS.out.below b7;have Z:=ap.below (w':=w6.alloc (.cells #[rI 0,rI 0] 53)) (ah br);have ag:=λt=>T.out.dij.fin (vz Hs.out n) (Ar h0 T.out.rngH) t
   have cd:X9 w S fr n g.n (.returned (.map (some mo))) (w6.alloc (.cells #[rI 0,rI 0] 53)):=
    ⟨mo,done,rfl,Z.mapC,λt=>(ag t).1,λt=>(ag t).2,λt c hc=>T.out.small (vz Hs.out n) Hn.out (.inl hc),Z.own,Z.bel⟩
   clear hS hF hH HS T b7 ap Z ag;go_wp2;go_ret;exact cd
  .go_wp2_with fail
   (with_reducible refine(O9 _ Sh q g.n hp hS.heap hF.rngH (by have:=Hn.out;omega) h0).mono ?_);rintro e w6 ⟨k,J,I,ar,cj,rfl,ck,cl⟩;have cn:k<g.n:=T.out.rngH k (by rw[ar];simp);have ca:done k=none:=(T.out.dij.i2 _ _ ar).1;have cm:=PQ Hc.out ao.out.1 ao.out.2.1 ao.out.2.2 (T.out.dij.i2 _ _ ar).2;have ap:=hS.popped ck cl;have ay:=hid (T.out.pop (vz Hs.out n) ar cj);have aw:=hid ap;have a9:=hid cm;clear ar cj ck cl hS hF HS T ap h0 cm;go_upto_region 7 with(fail);refine aB ?_;intro W6 aS;have bt:Below w6.heap.size w6 W6:=by rw[aS];exact be
   have d0:W6.cell? ⟨w6.heap.size,0,none⟩=some (rI J):=by rw[aS];go_simp
   have d1:W6.cell? ⟨w6.heap.size,1,none⟩=some (rI I):=by rw[aS];go_simp
   have Z:=aw.out.below bt;have l6:w6.heap.size≠mo:=by have:=aw.out.mapC.lt;omega
   have bo:w6.heap.size∉Sh:=λhm=>by have:=aw.out.heap.lt _ hm;omega
   obtain⟨eb,cb⟩:=rX w6.heap.size;rw[cb]at d0 d1 l6 bo⊢;clear aS aw bt cb;go_wp2_with (refine bV rfl _ _ _ rfl (aF underlying3) underlying242 Z.mapC rfl (k:Nat) rfl (.agg #[rI J,rI I]) rfl ?_;intro w8 cq a6);have bc:=Z.done cn ca cq a6
   have d0:=aZ a6 (by simpa using l6) d0;have d1:=aZ a6 (by simpa using l6) d1;have b9:=lQ cn ca ⟨J,I⟩;have b8:=jY (FR.upd done k (some ⟨J,I⟩)) g.n;have am:=hid bc;have cE:=hid (JZ w8 b ml me nl Sb top (bN g S) (uQ g S) (eZ g S) (k:Nat) (dZ S g.n k) (H.out.below bc.bel) (UA g S) (fM a9.out.1) (by have:=dS S g.n k;have:=Hn.out;omega));rw[Eu Hc.out]at cE;clear Z cq a6 bc;go_wp2_with fail;(with_reducible refine cE.out.mono ?_);rintro e w9 ⟨vE,rfl,bb,a0⟩;obtain⟨A1,m1,rfl,ax⟩:=bb.yI
   have hA1:0<(rH S g.n k).length->∀ad,A1=some ad->ad.block∉Sh/\ad.block≠mo:=λcv ad e=>by
    obtain⟨g',e1,_,_⟩:=ax cv;rw[e1]at e;injection e with e;subst e
    have:=(World.ownsRow.lt bb g' (by rw[e1];rfl)).1;exact⟨λhm=>by have:=am.out.heap.lt _ hm;simp only at this;omega,by have:=am.out.mapC.lt;simp only;omega⟩
   have ai:∀b e,S.Lw n k b e->gD (rH S g.n k) n 0 b e:=λb e h=>gD.first (λy c m hy=>(Hc.out _ _ (by rw[hy];simp)).2.1.1) h;obtain⟨L,hL⟩:=rX (rH S g.n k);rw[hL]at ax hA1 ai⊢;obtain⟨nl,a7⟩:=rX L.length;have cC:nl<=256:=by have:=sP S g.n k;rw[hL,a7]at this;exact Zg this Hn.out
   obtain⟨B,P⟩:∃d,FR.upd done k (some ⟨J,I⟩)=d:=⟨_,rfl⟩;have bi:B k=some ⟨J,I⟩:=by rw[<-P];exact upd_same _ _ _
   rw[P]at am ay b9 b8;have ci:XI w mo q eb S fr n k g.n L A1 B J I 0 w9:=⟨Sh,_,am.out.below a0,ay.out.weaken ai,ax,hA1,bo,l6,af a0 d0,af a0 d1⟩;have cL:=ay.out.small (vz Hs.out n) Hn.out (.inl bi);obtain⟨cF,cG,cH,cI⟩:=cL;simp only at cF cG cH cI;rw[a7];have HL:=hid hL;have bw:=hid a7;have bv:=hid bi;clear bb ax hA1 ai hL a7 P bi am ay d0 d1 cE a0 l6 bo;obtain⟨wz,rfl⟩:∃wz:World,wz=w9:=⟨_,rfl⟩;go_wp2_with fail;go_loopw [38] (λkv wr=>∃j:Nat,j<=nl/\kv=rI j/\XI w mo q eb S fr n k g.n L A1 B J I j wr) (λkv _=>nl-(intOf kv).toNat)
   case atStart=>exact⟨0,om,rfl,ci⟩
   case round=>
    obtain⟨j,hj,rfl,Sj,hp2,hS,hF,hI,hN,aq,bj,e0,e1⟩:=hrel;clear ci;have HS:=hid hS;have T:=hid hF;have HN:=hid hN;by_cases co:j<nl
    .have HI:=hid hI
     obtain⟨x,hx⟩:∃x,L[j]? =some x:=⟨L[j]'(by rw[bw.out];exact co),Zc _⟩;obtain⟨t,cw,cx,bl,cy,cR,cS⟩:=qU (S:=S) (N:=g.n) (n:=k) (by rw[HL.out];exact hx);obtain⟨gb,hA,a1,a2,a3,a4⟩:=hI.get hx;have cM:=λwx=>gZ (m:=m1) hA co wx;have bk:=Hs.out _ _ _ _ bl;obtain⟨xt,⟨xs,xd⟩,xm⟩:=x;simp only at a1 a2 a3 a4 cx bk;subst cx;have Hx:=hid (rN hx (rN bl cy));clear hA hx bl cy cR cS hS hF hN hI;go_upto_region 11 with(fail);refine aB ?_;intro W hW;have HW:Below wr.heap.size wr W:=by rw[hW];exact be
     have o0:W.cell? ⟨wr.heap.size,0,none⟩=some (rI (t:Nat)):=by rw[hW];go_simp
     have o1:W.cell? ⟨wr.heap.size,1,none⟩=some (rI xs):=by rw[hW];go_simp
     have o2:W.cell? ⟨wr.heap.size,2,none⟩=some (rI xd):=by rw[hW];go_simp
     have a5:wr.heap.size∉Sj:=λhm=>by have:=HS.out.heap.lt _ hm;omega
     obtain⟨F,a8⟩:=rX wr.heap.size;have e0:=af HW e0;have e1:=af HW e1;have cU:eb<W.heap.size:=ZF _ _ e0;have Q:=hid (HS.out.below HW);have al:=hid (HI.out.below HW);rw[a8]at o0 o1 o2 a5⊢;have cT:F<W.heap.size:=ZF _ _ o0;clear hW a8 HS HI HW a1 a2 a3 a4 cM;cases ac:B t with
     |some y=>
      obtain⟨ys,yd⟩:=y;have hl:=j5 Q.out.mapC (z:=(t:Nat)) (v:=.agg #[rI ys,rI yd]) (by rw[fF];unfold eP;rw[ac];rfl);have hP:Rb w mo q eb g.n L A1 B hp2 J I W:=⟨Sj,Q.out,al.out,HN.out,aq,bj,e0,e1⟩;have hP:=hid hP;have U:=hid (T.out.skip (pend':=gD L n (j+1)) (b:=t) (by rw[ac];simp) (λb' e' h=>(gD.next Hx.out.1 rfl b' e' h).imp_right And.left));clear ac Q al e0 e1;go_wp2;go_roundw
      case rel=>exact⟨j+1,om,by go_num,(hP.out.below (be)).to U.out⟩
      case measure=>exact rM
     |none=>
      have hl:=jl Q.out.mapC (z:=(t:Nat)) (by rw[fF];unfold eP;rw[ac];rfl);by_cases cB:t=n
      .subst cB
       have hP:Rb w mo q eb g.n L A1 B hp2 J I W:=⟨Sj,Q.out,al.out,HN.out,aq,bj,e0,e1⟩;have hP:=hid hP;have U:=hid (T.out.weaken (pend':=gD L t (j+1)) (λb' e' h=>gD.skip Hx.out.1 rfl b' e' h));clear ac Q al e0 e1;go_wp2;go_roundw
       case rel=>exact⟨j+1,om,by go_num,(hP.out.below (be)).to U.out⟩
       case measure=>exact rM
      .have cs:(((t:Nat):Int)!= ((n:Nat):Int))=true:=bne_iff_ne.2 om
       go_upto_region 13 with(fail);refine aB ?_;intro W4 b4;have R:Below W.heap.size W W4:=by rw[b4];exact be
       have e0:=af R e0;have e1:=af R e1;have o0:=af R o0;have o1:=af R o1;have o2:=af R o2;have aa:=hid (Q.out.below R);have bp:=hid (al.out.below R);clear b4 Q al hl R cU cT cs;have cA:=hid (λw=>pE J I xs xd w (by unfold aT;omega) (by unfold aT;omega) (by unfold aT;omega) (by unfold aT;omega));obtain⟨tb,bm⟩:∃b,lower? hp2 t ⟨J+xs,I+xd⟩=b:=⟨_,rfl⟩;have cP:=hid (λw' h'=>uN w' Sj q g.n hp2 t (J+xs) (I+xd) tb h' cw (by have:=Hn.out;omega) ⟨by unfold aT;simp only;omega,by unfold aT;simp only;omega⟩ bm);have bz:=hid bm;have cD:=hid ac;have bx:=hid bk;clear bm ac bk
       go_region_held3 (λw'=>w'.cell? ⟨eb,0,none⟩=some (rI J)/\w'.cell? ⟨eb,1,none⟩=some (rI I)/\w'.cell? ⟨F,0,none⟩=some (rI (t:Nat))/\w'.cell? ⟨F,1,none⟩=some (rI xs)/\w'.cell? ⟨F,2,none⟩=some (rI xd))
        (first
         |exact⟨e0,e1,o0,o1,o2⟩
         |exact M
         |exact b3)
        ((first
         |(go_at_call 97
           refine(cA.out _).mono ?_;rintro e wA ⟨rfl,O⟩;have M:wA.cell? ⟨eb,0,none⟩=some (rI J)/\wA.cell? ⟨eb,1,none⟩=some (rI I)/\wA.cell? ⟨F,0,none⟩=some (rI (t:Nat))/\wA.cell? ⟨F,1,none⟩=some (rI xs)/\wA.cell? ⟨F,2,none⟩=some (rI xd):=⟨af (w:=W4.drew) O e0,af (w:=W4.drew) O e1,af (w:=W4.drew) O o0,af (w:=W4.drew) O o1,af (w:=W4.drew) O o2⟩)
         |(go_at_call 191
           refine(cP.out _ ((aa.out.below (aj br)).below O).heap).mono ?_;rintro e wh ⟨rfl,S1,cg,ch,ab⟩;have b3:wh.cell? ⟨eb,0,none⟩=some (rI J)/\wh.cell? ⟨eb,1,none⟩=some (rI I)/\wh.cell? ⟨F,0,none⟩=some (rI (t:Nat))/\wh.cell? ⟨F,1,none⟩=some (rI xs)/\wh.cell? ⟨F,2,none⟩=some (rI xd):=⟨aZ ab aq M.1,aZ ab aq M.2.1,aZ ab a5 M.2.2.1,aZ ab a5 M.2.2.2.1,aZ ab a5 M.2.2.2.2⟩)))
       all_goals
        have bh:=aj (Below.refl W4.heap.size W4);have b5:=hid (Rb.Tg ((aa.out.below bh).below O) ((bp.out.below bh).below O) HN.out aq bj M.1 M.2.1 (u:=.bool tb) (e:=.returned (.bool tb)) (⟨rfl,S1,cg,ch,ab⟩:rO wA Sj q _ _ _ _ wh));have b6:C.add ⟨J,I⟩ ⟨xs,xd⟩=⟨J+xs,I+xd⟩:=rfl;have cp:S.Lw n k t ⟨xs,xd⟩:=⟨⟨a9.out.2.1,Hx.out.2.2,xm,Hx.out.2.1⟩,a9.out.2.2,cB⟩
        have U:FM (S.Lw n) fr g.n B (pushed hp2 t ⟨J+xs,I+xd⟩ tb) k (gD L n (j+1)):=by
         cases tb with
         |false=>
          obtain⟨d',q1,q2⟩:=yS bz.out;exact T.out.keep (b:=t) (e:=⟨xs,xd⟩) bv.out q1 q2 (gD.next Hx.out.1 rfl)
         |true=>
          exact T.out.push (vz Hs.out n) (b:=t) (e:=⟨xs,xd⟩) bv.out cp ⟨bx.out.2.1,bx.out.2.2.2⟩ cw cD.out (pK bz.out) (gD.next Hx.out.1 rfl)
        have U:=hid U;clear cA cP aa bp e0 e1 o0 o1 o2 b6 cp cg ch ab bh O M b3;go_wp2;go_roundw
        case rel=>refine rR ?_;exact⟨j+1,om,by go_num,b5.out.to U.out⟩
        case measure=>exact rM
    .obtain rfl:j=nl:=om
     have hF:XJ w mo q S fr n g.n (g.n-bJ B g.n) wr:=⟨Sj,_,hp2,k,hS,hF.weaken (λb e h=>by have:=gD.over b e (by rw[bw.out];exact h);exact this),Zi _⟩;have hF:=hid hF;clear HS T HN hS hI hN e0 e1;go_wp2;go_roundg (g.n-bJ B g.n)
     case measure=>omega
     case rel=>exact hF.out
def WK(g:G)(es:List Ed)(k:Nat):Nat->C->Prop:=λs c=>g.av s/\∃(i:Nat)(e:Ed),i<k/\es[i]? =some e/\e.to_=(s:Nat)/\e.c=c
abbrev lM(g:G)(es:List Ed):Nat->C->Prop:=WK g es es.length
def xU(es:List Ed):Prop:=∀e∈es,0<=e.c.s/\e.c.s<=1048576/\0<=e.c.d/\e.c.d<=1048576
theorem TP{out:List Ed}(h:xU out){k s:Nat}(u:WK g out k s c):C.Nn c:=by
 obtain⟨_,i,e,_,m,_,rfl⟩:=u;have:=h e (Ze m);exact⟨this.1,this.2.2.1⟩
theorem Ps(h:0<=c.s/\c.s<=1048576/\0<=c.d/\c.d<=1048576):C.le c ⟨0,((2100000:Nat):Int)⟩:=by
 obtain⟨s,d⟩:=c;simp only at h;refine C.le_trans (C.Pt h.1) (C.aM (Int.le_refl _) ?_);simp only;omega
def KP(g:G)(out inn:List Ed)(c:C):Prop:=∃(t:Nat)(c1:C)(e:Ed),FR.Reach g.GE (lM g out) t c1/\e∈inn/\e.to_=t/\c=C.add c1 e.c
def uj(g:G)(out inn:List Ed)(b:C)(fd:Bool):Prop:=(fd=false->b=C.zero/\∀c,¬KP g out inn c)/\(fd=true->KP g out inn b/\∀c,KP g out inn c->C.le b c)
theorem le_step(h:0<=c.s/\c.s<=2000/\0<=c.d/\c.d<=2000):C.le c ⟨0,((4000:Nat):Int)⟩:=by
 obtain⟨s,d⟩:=c;simp only at h;refine C.le_trans (C.Pt h.1) (C.aM (Int.le_refl _) ?_);simp only;omega
end
section
open Go.Lib (hid)
open FR
namespace G2
open Go.Lib (hid)
variable {g:G}
theorem sI:∀(n:Nat){a b:Nat}{c:C},(c.s+c.d).toNat<=n->g.av b->df g.E a b c->∃s m,g.av s/\g.aK a s/\Walk g.GE s b m/\C.add (g.cZ a s) m=c:=by
 intro n
 induction n using Nat.strongRecOn with
 |_ n ih=>
  intro a b c hn R h
  have split:∀{q:Nat}{I m:C},g.av q->df g.E a q I->df g.E q b m->C.add I m=c->m≠C.zero->∃s m,g.av s/\g.aK a s/\Walk g.GE s b m/\C.add (g.cZ a s) m=c:=by
   intro q I m L z u e Q;have l1:=G.sum_lt (G.Rj z.1) (G.Rj u.1) e Q;obtain⟨s,c3,q1,q2,q3,q4⟩:=ih _ (Zf l1 hn) (Zi _) L z;refine⟨s,C.add c3 m,q1,q2,q3.trans (G.yA _ (Zi _) L R u),?_⟩;rw[<-C.add_assoc,q4,e]
  by_cases J:c=g.cZ a b
  .by_cases S:g.aK a b
   .exact⟨b,C.zero,R,S,.nil _,by rw[C.add_zero,J]⟩
   .have B:g.dL a b:=by unfold G.dL;rw[<-J];exact h.1
    have:∃k,g.av k/\k≠a/\k≠b/\g.Mid a b k:=by
     apply Zu;intro O;exact S ⟨B,λk z u F T=>O ⟨k,z,u,F,T⟩⟩
    obtain⟨k,U,Z,M,p,q,z,u,F⟩:=this;rw[<-J]at F;refine split U ⟨z,λd P=>?_⟩ ⟨u,λd P=>?_⟩ F (λe=>M (pX u e).symm)
    .have:=h.2 _ (P.trans u);rw[<-F]at this;exact(C.add_le_right _).1 this
    .have:=h.2 _ (z.trans P);rw[<-F]at this;exact(C.add_le_left _).1 this
  .obtain⟨q,I,m,L,z,u,e,z1,Q⟩:=G.oF h J
   exact split L z u e Q
theorem OI{a b:Nat}{c:C}(h:df g.E a b c):df g.E b a c:=
 ⟨Walk.rev (E:=g.E) (λ_ _ _ k=>G.kQ k) h.1,λd m=>h.2 _ (Walk.rev (E:=g.E) (λ_ _ _ k=>G.kQ k) m)⟩
theorem yj{a b:Nat}{c:C}(h:df g.E a b c)(U:¬g.dL a b):∃s t k,g.av s/\g.av t/\g.aK a s/\g.aK b t/\Walk g.GE s t k/\C.add (C.add (g.cZ a s) k) (g.cZ b t)=c:=by
 have S:c≠g.cZ a b:=λe=>U (by unfold G.dL;rw[<-e];exact h.1);obtain⟨q,Z,k,u,Q,R,e,_,_⟩:=G.oF h S;obtain⟨s,P,z,B,F,I⟩:=sI _ (Zi _) u Q;obtain⟨t,m,J,L,M,O⟩:=sI _ (Zi _) u (OI R);refine⟨s,t,C.add P m,z,J,B,L,F.trans (Walk.rev (E:=g.GE) (λ_ _ _ T=>G.BN T) M),?_⟩;rw[<-C.add_assoc,I,C.add_assoc,C.add_comm m,O,e]
end G2
variable {c:C}{g:G}{x y:Nat}
noncomputable abbrev xw(g:G)(x:Nat):List Ed:=xC g x true (aA g).length
theorem Co{x s:Nat}:lM g (xw g x) s c↔g.av s/\g.aK x s/\c=g.cZ x s:=by
 constructor
 .rintro⟨k,i,e,_,z,B,F⟩
  obtain⟨y,J,_,I,rfl⟩:=kK.1 (Ze z);obtain rfl:y=s:=Int.ofNat_inj.1 B;exact⟨k,I,F.symm⟩
 .rintro⟨k,u,rfl⟩
  obtain⟨i,m⟩:=Zo (kK.2 ⟨s,k,.inl rfl,u,rfl⟩:(⟨(s:Nat),g.cZ x s,-1⟩:Ed)∈xw g x);exact⟨k,i,_,(Zb.1 m).1,m,rfl,rfl⟩
theorem OO(k:g.ok)(u:x<g.n):xU (xw g x):=λe m=>by
 obtain⟨y,z,_,_,rfl⟩:=kK.1 m;have:=G.Bf k z.1 u;simp only;omega
theorem Cq:KP g (xw g x) (xw g y) c↔∃s t k,g.av s/\g.av t/\g.aK x s/\g.aK y t/\Walk g.GE s t k/\C.add (C.add (g.cZ x s) k) (g.cZ y t)=c:=by
 constructor
 .rintro⟨t,Q,e,⟨s,P,d,m,u,rfl⟩,B,F,rfl⟩
  obtain⟨J,L,rfl⟩:=Co.1 m;obtain⟨z,M,_,O,rfl⟩:=kK.1 B;obtain rfl:z=t:=Int.ofNat_inj.1 F;exact⟨s,z,d,J,M,L,O,u,rfl⟩
 .rintro⟨s,t,k,m,u,I,B,F,rfl⟩
  exact⟨t,_,⟨(t:Nat),g.cZ y t,-1⟩,⟨s,_,k,Co.2 ⟨m,I,rfl⟩,F,rfl⟩,kK.2 ⟨t,u,.inl rfl,B,rfl⟩,rfl,rfl⟩
theorem QX(h:KP g (xw g x) (xw g y) c):Walk g.E x y c:=by
 obtain⟨s,t,I,J,L,k,m,u,rfl⟩:=Cq.1 h;have B:Walk g.E x s (g.cZ x s):=k.1;have F:Walk g.E y t (g.cZ y t):=m.1;exact(B.trans (G.BO u)).trans (Walk.rev (E:=g.E) (λ_ _ _ z=>G.kQ z) F)
theorem R5:∀e∈xw g y,∀t:Nat,e.to_=t->C.le (g.cZ t y) e.c:=λe k t m=>by
 obtain⟨z,_,_,_,rfl⟩:=kK.1 k;obtain rfl:z=t:=Int.ofNat_inj.1 m;rw[G.fH];exact C.le_refl _
