/- Lemmas of this claim: RRay4, RRay5, Rays, REdges, RGraph, RConn, Conn, Lv1, Lv2, Lv3, Lv4, LvM, Lv5, Bst0, MathFree. -/
import Derived.Test.YtokhnobcincfjaaGreatDoorKNEd20
import Derived.Test.YtokhnobcincfjaaGreatDoorKNEd19
set_option linter.unusedVariables false
set_option linter.unusedSimpArgs false
set_option maxHeartbeats 3200000
set_option maxRecDepth 100000
namespace Go.Proofs.YtokhnobcincfjaaGreatDoor
open Go.Lib (hid)
open Go.RowKit Go.Sort FR
theorem xy{w w':World}{b o:Nat}{cs:List Value}(h:w.rangeAt b o cs)(g:Below w.heap.size w w'):w'.rangeAt b o cs:=λj v k=>ae g (h j v k)
end Go.Proofs.YtokhnobcincfjaaGreatDoor
namespace Go.Proofs.YtokhnobcincfjaaGreatDoor
open Go.Lib (hid)
open Go.RowKit Go.Sort FR Go.Lib
variable {self:Bool}{g:G}{E:Int->Option (List Ed)}{V:Int->Option Value}{Zs:List (Array Value)}{S:List Nat}{B b ca:Nat}{v:Value}{w w':World}
def pz(Zs:List (Array Value)):List Value:=Zs.flatMap (·.toList)
def yT(w:World)(B:Nat)(v:Value)(Zs:List (Array Value)):Prop:=w.ownsRow B 211 769 v Zs.length (pz Zs)/\∀Z∈Zs,Z.size=769
theorem yT.nil(w:World)(B:Nat):yT w B (.slice none 0 0) []:=⟨⟨rfl,.inl ⟨rfl,rfl⟩⟩,by simp⟩
theorem Co(L M:List (Array Value)):pz (L++M)=pz L++pz M:=by simp[pz]
theorem Cq:∀(L:List (Array Value))(_:∀Z∈L,Z.size=769)(i:Nat)(Z:Array Value),L[i]? =some Z->∀j v,Z.toList[j]? =some v->(pz L)[i*769+j]? =some v
 |[],_,i,Z,h=>by simp at h
 |X::L,u,0,Z,h=>by
  simp at h;subst h;intro j v k;have e:pz (X::L)=X.toList++pz L:=by simp[pz]
  have I:=(List.getElem?_eq_some_iff.1 k).1;rw[e,List.getElem?_append_left (by omega)];simpa using k
 |X::L,u,i+1,Z,h=>by
  simp at h;intro j v k;have e:pz (X::L)=X.toList++pz L:=by simp[pz]
  have F:=u X (by simp);rw[e,List.getElem?_append_right (by rw[Array.length_toList];omega),Array.length_toList,F];have:=Cq L (λY z=>u Y (by simp[z])) i Z h j v k;rw[show(i+1)*769+j-769=i*769+j by omega];exact this
def oK(w:World)(A:Option Addr)(Zs:List (Array Value)):Prop:=0<Zs.length->∃g,A=some ⟨g,0,none⟩/\g<w.heap.size/\∀i Z,Zs[i]? =some Z->w.rangeAt g (i*769) Z.toList
theorem yT.UK(h:yT w B v Zs):∃A k,v=.slice A Zs.length k/\oK w A Zs/\∀z,A=some z->B<=z.block/\z.block<w.heap.size:=by
 obtain⟨h,O⟩:=h;rcases h.2 with⟨rfl,J⟩|⟨g,k,I,rfl,L,F,_,_,_,u⟩
 .exact⟨none,0,by rw[J],(λh=>by omega),λz e=>by cases e⟩
 .refine⟨_,k,rfl,λ_=>⟨g,rfl,(Array.getElem?_eq_some_iff.1 F).1,λi Z M j v P=>?_⟩,λz e=>?_⟩
  .have:=Cq Zs O i Z M j v P
   rw[<-u,List.getElem?_take]at this;split at this
   .rw[Array.getElem?_toList]at this
    simp[World.cell?,F,this]
   .cases this
  .injection e with e
   subst e;exact⟨L,(Array.getElem?_eq_some_iff.1 F).1⟩
theorem oK.below{A:Option Addr}(h:oK w A Zs)(k:Below w.heap.size w w'):oK w' A Zs:=λJ=>by
 obtain⟨g,u,z,F⟩:=h J;exact⟨g,u,Nat.lt_of_lt_of_le z k.size,λi Z I=>xy (F i Z I) k⟩
open Classical in
noncomputable def FD(g:G)(ca:Nat)(self:Bool)(k:Nat):List Ed:=
 ((List.range k).filter λi=>decide (g.aF ca (cf g i))&&(self|| !(cf g i==ca))).map λi=>⟨(cf g i:Nat),g.bV ca (cf g i),-1⟩
theorem zf(g:G)(ca:Nat)(self:Bool)(k:Nat):(FD g ca self k).length<=k:=by
 unfold FD;rw[List.length_map];exact Nat.le_trans (List.length_filter_le _ _) (by simp)
open Classical in
theorem Oi{ca k:Nat}(u:g.aF ca (cf g k))(z:self=true\/cf g k≠ca):FD g ca self (k+1)=FD g ca self k++[⟨(cf g k:Nat),g.bV ca (cf g k),-1⟩]:=by
 unfold FD;rw[List.range_succ,List.filter_append,List.map_append]
 have:(decide (g.aF ca (cf g k))&&(self|| !(cf g k==ca)))=true:=by
  rcases z with h|h<;>simp[u,h]
 simp[this]
open Classical in
theorem Q7{ca k:Nat}(h:¬g.aF ca (cf g k)\/(self=false/\cf g k=ca)):FD g ca self (k+1)=FD g ca self k:=by
 unfold FD;rw[List.range_succ,List.filter_append,List.map_append]
 have:(decide (g.aF ca (cf g k))&&(self|| !(cf g k==ca)))=false:=by
  rcases h with h|⟨u,z⟩
  .simp[h]
  .simp[u,z]
 simp[this]
open Classical in
theorem lu{e:Ed}:e∈FD g ca self (aA g).length↔∃y:Nat,g.ak y/\(self=true\/y≠ca)/\g.aF ca y/\e=⟨y,g.bV ca y,-1⟩:=by
 unfold FD;rw[List.mem_map];constructor
 .rintro⟨i,u,rfl⟩
  rw[List.mem_filter,List.mem_range]at u;obtain⟨z,k⟩:=u;simp only[Bool.and_eq_true,decide_eq_true_eq,Bool.or_eq_true,Bool.not_eq_true',beq_eq_false_iff_ne]at k;exact⟨_,(dS z).2,k.2,k.1,rfl⟩
 .rintro⟨y,z,k,F,rfl⟩
  obtain⟨i,u,rfl⟩:=oU z;refine⟨i,?_,rfl⟩;rw[List.mem_filter,List.mem_range];refine⟨u,?_⟩;simp only[Bool.and_eq_true,decide_eq_true_eq,Bool.or_eq_true,Bool.not_eq_true',beq_eq_false_iff_ne];exact⟨F,k⟩
theorem bU.mono{B B':Nat}{L:List Ed}(h:bU w B v L)(F:B'<=B):bU w B' v L:=by
 refine⟨h.1,?_⟩;rcases h.2 with J|⟨g,u,z,rfl,I,k⟩
 .exact .inl J
 .exact .inr ⟨g,u,z,rfl,Nat.le_trans F I,k⟩
def NF(w:World)(L:List Ed)(e:Ending)(w':World):Prop:=∃vE,e=.returned vE/\bU w' w.heap.size vE L/\Below w.heap.size w w'
theorem dL.fresh{w g wU:World}{P N N2:Nat}{a:Int}{Z:Value}{L':List Ed}(h1:MapAt iK w P V N)(h2:∀k,E k=none↔V k=none)(h3:∀k u L,V k=some u->E k=some L->bU w 0 u L)(R:∀k u q,V k=some u->u.ownBlock=some q->q∈S)(h5:P∉S)(h6:∀k Q u u' q,V k=some u->V Q=some u'->u.ownBlock=some q->u'.ownBlock=some q->k=Q)(B:∀s,s∈S->s<w.heap.size)(hb:Below w.heap.size w g)(hO:bU g w.heap.size Z L')(hM:MapAt iK wU P (aL V a (some Z)) N2)(U:Kept [P] g wU):dL wU (Z.ownBlock.toList++S) P (bO E a (some L')):=by
 have ab:=h1.lt;have F:∀q,Z.ownBlock=some q->w.heap.size<=q/\q<g.heap.size:=λq J=>World.ownsRow.lt hO q J;refine⟨_,N2,hM,λk=>?_,λk x L z M=>?_,λk x q z J=>?_,?_,λk Q x x' q z I J O=>?_,λs hs=>?_⟩
 .unfold bO aL
  split
  .simp
  .exact h2 k
 .unfold bO at M
  unfold aL at z;split at z
  .rename_i e
   rw[if_pos e]at M;injection z with z
   injection M with M
   subst z;subst M;exact(hO.mono (Nat.zero_le _)).kept U (λq J=>by have:=(F q J).1;simp;omega)
  .rename_i e
   rw[if_neg e]at M
   exact((h3 k x L z M).kept (T:=[]) (.of_below hb) (λ_ _=>by simp)).kept U (λq J=>by
    have:=R k x q z J;simp;rintro rfl;exact h5 this)
 .unfold aL at z
  split at z
  .injection z with z
   subst z;exact List.mem_append_left _ (by rw[J];simp)
  .exact List.mem_append_right _ (R k x q z J)
 .rw[List.mem_append]
  rintro(q|q)
  .rw[Option.mem_toList]at q
   have:=(F P q).1;omega
  .exact h5 q
 .unfold aL at z I
  split at z
  .injection z with z
   subst z;split at I
   .rename_i e1 e2;rw[e1,e2]
   .have a1:=(F q J).1
    have a2:=B q (R Q x' q I O);omega
  .split at I
   .injection I with I
    subst I;have a1:=(F q O).1;have a2:=B q (R k x q z J);omega
   .exact h6 k Q x x' q z I J O
 .rcases List.mem_append.1 hs with q|q
  .rw[Option.mem_toList]at q
   exact Nat.lt_of_lt_of_le (F s q).2 U.size
  .exact Nat.lt_of_lt_of_le (B s q) (Nat.le_trans hb.size U.size)
theorem zU{b o:Nat}{cs:List Value}(h:w.rangeAt b o cs)(u:Kept S w w')(k:b∉S):w'.rangeAt b o cs:=λj v z=>aJ u k (h j v z)
theorem oK.kept{A:Option Addr}(h:oK w A Zs)(u:Kept S w w')(J:∀k,A=some k->k.block∉S):oK w' A Zs:=by
 intro z;obtain⟨g,e,I,L⟩:=h z;exact⟨g,e,Nat.lt_of_lt_of_le I u.size,λi Z F=>zU (L i Z F) u (J _ e)⟩
def Da(g:G)(Zs:List (Array Value))(i:Nat):Prop:=Zs.length=i/\∀j Z,Zs[j]? =some Z->∃c is,Z=MH (cf g j) c is/\yQ g (cf g j) c is
theorem yT.below(h:yT w B v Zs)(J:Below w.heap.size w w'):yT w' B v Zs:=by
 refine⟨⟨h.1.1,?_⟩,h.2⟩;rcases h.1.2 with L|⟨g,u,z,rfl,I,F,k⟩
 .exact .inl L
 .exact .inr ⟨g,u,z,rfl,I,(J.block g (Array.getElem?_eq_some_iff.1 F).1).trans F,k⟩
theorem Da.snoc{g:G}{u:List (Array Value)}{i:Nat}{Z:Array Value}{c:Nat->C}{is:Nat->Bool}(h:Da g u i)(I:Z=MH (cf g i) c is)(z:yQ g (cf g i) c is):Da g (u++[Z]) (i+1):=by
 refine⟨by rw[List.length_append,h.1];rfl,λj X k=>?_⟩;by_cases e:j<u.length
 .rw[List.getElem?_append_left e]at k
  exact h.2 j X k
 .rw[List.getElem?_append_right (by omega)]at k
  have F:j-u.length=0:=by
   have:=(List.getElem?_eq_some_iff.1 k).1;simp at this;omega
  rw[F]at k;simp at k;subst k;have:j=i:=by have:=h.1;omega
  subst this;exact⟨c,is,I,z⟩
theorem yT.snoc{w':World}{B:Nat}{z:Value}{k:List (Array Value)}{Z:Array Value}(F:∀X∈k,X.size=769)(I:Z.size=769)(h:w'.ownsRow B 211 769 z (k.length+1) (pz k++Z.toList)):yT w' B z (k++[Z]):=by
 refine⟨?_,λX u=>?_⟩
 .rw[List.length_append,Co]
  have:pz [Z]=Z.toList:=by simp[pz]
  rw[this];exact h
 .rw[List.mem_append]at u
  rcases u with q|q
  .exact F X q
  .simp at q;rw[q];exact I
theorem lN{F:Array Oper}{k:List Oper}{o:Oper}{a:Act}{Q:Exit->Act->World->Prop}(w:World)(M:o.guard=none)(s x:Operand)(ho:o.op=.call {callee:=.builtin .append,args:=#[s,x],argTypes:=#[119,119]})(B:Nat)(v:Value)(L:List Ed)(e:Ed)(hs:a.eval s=v)(z:bU w B v L)(ad:Addr)(hx:a.eval x=.slice (some ad) 1 1)(S:∀j u,e.cells[j]? =some u->w.cell? (ad.add j)=some u)(hl:L.length<=100000)(g:B<=w.heap.size)(h:∀J I,bU I B J (L++[e])->w.grownBy I v.ownBlock->wpList Tryz.prog F Q k (a.put o.dst J) I):wpList Tryz.prog F Q (o::k) a w:=by
 obtain⟨i0,z0,hi,O,P,R,T⟩:=gM;refine wpList_append_own_at w M s x 119 ho B 182 i0 z0 4 32 Tryz.underlying119 hi O P R T (by decide) v L.length (dw L) hs z ad 1 1 e.cells hx rfl S (rD e) ?_ ?_ g ?_
 .unfold maxLen;omega
 .omega
 .intro J I U Z _ _
  refine h J I ?_ Z;unfold bU;rw[List.length_append,kW,dA,FH,List.append_nil];exact U
def sH(w:World)(L:List Ed)(e:Ending)(w':World):Prop:=∃vE,e=.returned (.tuple #[vE,.nilIface])/\bU w' w.heap.size vE L/\Below w.heap.size w w'
theorem qo(w:World)(b p mb:Nat)(S:List Nat)(g:G)(v:Int)(x:Nat)(E:Int->Option (List Ed))(h:aD w b p mb S g v E)(hE:∀z:Int,E z≠none↔∃c:Nat,z=c/\g.ak c)(hx:x<g.n)(an:g.b x=false):Calls Tryz.prog 85 #[.pointer (some ⟨b,0,none⟩),.int .i64 (x:Nat)] w (sH w (FD g x true (aA g).length)):=by
 have Z:=h.2.1.1;have a6:=G.bR Z;have F:w.cell? ⟨b,0,none⟩=some (.pointer (some ⟨p,0,none⟩)):=by simp[World.cell?,h.1]
 have cF:=hid (dC w p g v x h.2.1 hx);rw[an]at cF;have H:=hid h;have HE:=hid hE;have a2:=hid Z;have a0:=hid an;obtain⟨n,hn⟩:∃n,(aA g).length=n:=⟨_,rfl⟩;have a3:n<=256:=by rw[<-hn];exact eQ Z
 have Hn:=hid hn;rw[hn];clear h hE Z an hn;go_enter Tryz.func85,Tryz.ntmps85;go_wp2_with fail;(with_reducible refine cF.out.mono ?_);rintro e w1 ⟨rfl,al⟩;have H1:=hid (H.out.below al);have cN:=hid (jG w1 b p mb S g v E H1.out HE.out);have F:=ae al F;clear cF;go_wp2_with fail;(with_reducible refine cN.out.mono ?_);rintro e W ⟨A,m,rfl,_,hI,_,am⟩;rw[Hn.out]at hI⊢;have HW:=aa al am;have H2:=hid (H1.out.below am);have HI:=hid hI;have F:=ae am F;have a7:b<W.heap.size:=World.block_lt_of_cell? _ _ F;have a1:=hid F;clear cN hI F;go_wp2_with fail;go_loopw [8,31] (λlv kv wr=>∃i:Nat,kv=.int .i64 i/\i<=n/\bU wr W.heap.size lv (FD g x true i)/\Below W.heap.size W wr) (λ_ kv _=>n-(intOf kv).toNat)
 case atStart=>exact⟨0,rfl,by omega,bU.nil _ _,Below.refl _ _⟩
 case round=>
  obtain⟨i,rfl,hi,hO,hB⟩:=hrel;have HO:=hid hO;have F:=ae hB a1.out;clear hO;by_cases U:i<n
  .have Q:=HI.out.below hB
   obtain⟨ad,hA⟩:=Q.addr (by omega);rw[hA]at Q;have a8:=λwx=>aX (m:=m) hA U wx;have hE:=Q.cell (Below.refl _ _) U;rw[(dS (by rw[Hn.out];exact U)).1]at hE;obtain⟨y,hy⟩:∃y,cf g i=y:=⟨_,rfl⟩;have ap:g.ak y:=by rw[<-hy];exact(dS (by rw[Hn.out];exact U)).2
   rw[hy]at hE;have Hy:=hid hy;obtain⟨aS,aq⟩:=ig a2.out ap;obtain⟨t,ht⟩:=Kq (g.aF x y);have Ht:=hid ht;have ab:=hid (H2.out.2.1.below hB H2.out.2.1.lt);have cD:=hid (jl wr p g v x y t ab.out hx aS a0.out aq ht);have a9:=zf g x true i;have a5:=hid aq;have a4:=hid ap;clear Q hA hy ht aq ap;go_wp2_with fail;(with_reducible refine cD.out.mono ?_);rintro e w2 ⟨rfl,R⟩;have ag:=aa hB R;have F:=ae R F;have aw:=HO.out.kept (T:=[]) (.of_below R) (λ_ _=>by simp);have P:=hid aw;clear cD aw HO hE;cases t with
   |false=>
    have aE:¬g.aF x y:=λhh=>by have:=Ht.out.2 hh;cases this
    have J:=P.out;rw[<-Q7 (g:=g) (ca:=x) (k:=i) (self:=true) (.inl (by rw[Hy.out];exact aE))]at J;have J:=hid J;clear aE P Ht;go_wp2
    first
     |exact⟨⟨i+1,by go_num,by omega,J.out,ag⟩,by simp[intOf];omega⟩
     |(go_roundw;(case rel=>exact⟨i+1,by go_num,by omega,J.out,ag⟩);(case measure=>simp[intOf];omega))
   |true=>
    have B:g.aF x y:=Ht.out.1 rfl;obtain⟨⟨os,od⟩,ao⟩:∃z,g.bV x y=z:=⟨_,rfl⟩;have cO:=hid (zi w2 p g v x y ⟨os,od⟩ (ab.out.below R ab.out.lt) hx aS ao);have I:=Oi (g:=g) (ca:=x) (k:=i) (self:=true) (by rw[Hy.out];exact B) (.inl rfl);rw[Hy.out,ao]at I;have ac:=hid I;clear B ao I Ht;go_wp2_with fail;(with_reducible refine cO.out.mono ?_);rintro e w3 ⟨rfl,ay⟩;have ax:=hid (P.out.kept (T:=[]) (.of_below ay) (λ_ _=>by simp));have ai:=aa ag ay;clear cO P;go_wp2_with (at_builtin;(refine lN _ rfl _ _ rfl W.heap.size _ _ ⟨(y:Nat),⟨os,od⟩,-1⟩ rfl (ax.out.kept (T:=[]) (.of_below (af (Below.refl _ _))) (λ_ _=>by simp)) ⟨w3.heap.size,0,none⟩ rfl (λj u hu=>by rw[Addr.add_lit,Nat.zero_add];exact jg (alloc_at w3 _ rfl) j u hu) (by omega) (by have:=ai.size;simp;omega) ?_);intro v' w9 O M)
    have J:=O;rw[<-ac.out]at J;have ar:Below W.heap.size W w9:=(af ai).grown M (by have:=ai.size;simp;omega) (λk hk=>(World.ownsRow.lt ax.out k hk).1);have J:=hid J;clear O M;go_wp2
    first
     |exact⟨⟨i+1,by go_num,by omega,J.out,ar⟩,by simp[intOf];omega⟩
     |(go_roundw;(case rel=>exact⟨i+1,by go_num,by omega,J.out,ar⟩);(case measure=>simp[intOf];omega))
  .obtain rfl:i=n:=by omega
   have L:sH w (FD g x true i) (.returned (.tuple #[u8,.nilIface])) wr:=⟨_,rfl,HO.out.mono HW.size,aa HW hB⟩;have L:=hid L;clear HO;go_wp2;go_ret2;exact L.out
def cz(w:World)(b ml me:Nat)(S:List Nat)(top:Int)(V:Int->Option Value)(nl:Nat)(E:Int->Option (List Ed)):Prop:=
 w.heap[b]? =some (.cells #[.map (some ml),.map (some me),.int .i64 top] 180 (0,0))/\MapAt iK w ml V nl/\dL w S me E/\b∉S/\ml∉S/\b≠ml/\b≠me/\ml≠me
theorem cz.kept{b z me J:Nat}{S T:List Nat}{top:Int}(h:cz w b z me S top V J E)(F:Kept T w w')(u:∀k,k∈b::z::me::S->k∉T):cz w' b z me S top V J E:=by
 obtain⟨I,L,M,O⟩:=h;exact⟨(F.block b (Array.getElem?_eq_some_iff.1 I).1 (u b (by simp))).trans I,L.kept F (u z (by simp)),M.kept F (λs P=>u s (by simp[P])) (u me (by simp)),O⟩
theorem cz.below{b k me u:Nat}{top:Int}(h:cz w b k me S top V u E)(z:Below w.heap.size w w'):cz w' b k me S top V u E:=h.kept (T:=[]) (.of_below z) (λ_ _=>by simp)
def PV(V:Int->Option Value)(lev:Int->Int):Prop:=∀z,(V z).getD (.int .i64 0)=.int .i64 (lev z)
def ou(lev:Int->Int)(L:List Ed):List Ed:=L.filter λe=>decide (lev e.to_=0)
theorem DX{lev:Int->Int}{L:List Ed}{i:Nat}{e:Ed}(h:L[i]? =some e):ou lev (L.take (i+1))=ou lev (L.take i)++(if lev e.to_=0 then[e]else[]):=by
 obtain⟨u,k⟩:=List.getElem?_eq_some_iff.1 h;unfold ou;rw[List.take_succ_eq_append_getElem u,List.filter_append,k];by_cases q:lev e.to_=0<;>simp[q]
theorem F5(w:World)(b ml me nl:Nat)(S:List Nat)(top:Int)(V:Int->Option Value)(lev:Int->Int)(E:Int->Option (List Ed))(c:Int)(L:List Ed)(h:cz w b ml me S top V nl E)(hV:PV V lev)(hL:E c=some L)(hl:L.length<=100000):Calls Tryz.prog 166 #[.pointer (some ⟨b,0,none⟩),.int .i64 c] w (NF w (ou lev L)):=by
 obtain⟨g1,g2,⟨W3,N,q1,q2,q3,_,_,_,_⟩,_⟩:=h;have ax:w.cell? ⟨b,0,none⟩=some (.map (some ml)):=by simp[World.cell?,g1]
 have aE:w.cell? ⟨b,1,none⟩=some (.map (some me)):=by simp[World.cell?,g1]
 obtain⟨u,hu⟩:∃u,W3 c=some u:=by
  cases hV:W3 c with
  |none=>rw[(q2 c).2 hV]at hL;cases hL
  |some u=>exact⟨u,rfl⟩
 obtain⟨A,ad,rfl,ai⟩:=(q3 c u L hu hL).Ag
 have al:(Instr.lookup 137 (.map (some me)) (.int .i64 c) false).run Tryz.prog w=.ok (.slice A L.length ad) w:=by
  have:=(q1.look (aG Tryz.underlying3) Tryz.underlying137 (z:=.slice none 0 0) (by simp[Tryz.zeroValue119]) c).2;rw[hu]at this;exact this
 have ap:∀w',Below w.heap.size w w'->∀z:Int,(Instr.lookup 142 (.map (some ml)) (.int .i64 z) false).run Tryz.prog w'=.ok (.int .i64 (lev z)) w':=λw' hb z=>by
  have:=((g2.below hb).look (aG Tryz.underlying3) Tryz.underlying142 (z:=.int .i64 0) (by simp[Tryz.zeroValue3]) z).2;rw[hV z]at this;exact this
 have ar:=hid ap;have aq:=hid ai;obtain⟨n,hn⟩:∃n,L.length=n:=⟨_,rfl⟩;rw[hn]at al;have ay:n<=100000:=by omega
 have Hn:=hid hn;clear g1 g2 q1 q2 q3 hu hV ap ai hn;go_enter Tryz.func166,Tryz.ntmps166;go_wp2_with fail;clear al
 go_loopw [5,15] (λlv kv wr=>∃i:Nat,kv=.int .i64 i/\i<=n/\bU wr w.heap.size lv (ou lev (L.take i))/\Below w.heap.size w wr) (λ_ kv _=>n-(intOf kv).toNat)
 case atStart=>exact⟨0,rfl,by omega,bU.nil _ _,Below.refl _ _⟩
 case round=>
  obtain⟨i,rfl,hi,hO,hB⟩:=hrel;have HO:=hid hO;have k0:=ae hB ax;clear hO;by_cases an:i<n
  .obtain⟨e,he⟩:∃e,L[i]? =some e:=⟨L[i]'(by rw[Hn.out];exact an),List.getElem?_eq_getElem _⟩
   obtain⟨gb,hA,a1,a2,a3,a4⟩:=(aq.out.below hB).get he;have aw:=λwx=>jy (m:=ad) hA an wx;have He:=hid he;obtain⟨g,⟨xs,xd⟩,xm⟩:=e;simp only at a1 a2 a3 a4;clear hA he;go_upto_region 5 with(fail);refine au ?_;intro W hW;have HW:Below w.heap.size w W:=by rw[hW];exact af hB
   have ab:Below wr.heap.size wr W:=by rw[hW];exact af (Below.refl _ _)
   obtain⟨b7,O⟩:∃z,wr.heap.size=z:=⟨_,rfl⟩;have o0:W.cell? ⟨b7,0,none⟩=some (.int .i64 g):=by rw[hW,<-O];go_simp
   have o1:W.cell? ⟨b7,1,none⟩=some (.int .i64 xs):=by rw[hW,<-O];go_simp
   have o2:W.cell? ⟨b7,2,none⟩=some (.int .i64 xd):=by rw[hW,<-O];go_simp
   have o3:W.cell? ⟨b7,3,none⟩=some (.int .i64 xm):=by rw[hW,<-O];go_simp
   have k0:=ae ab k0;have U:=hid (HO.out.kept (T:=[]) (.of_below ab) (λ_ _=>by simp));obtain⟨t,ht⟩:∃t,lev g=t:=⟨_,rfl⟩;have am:∀n,(Instr.lookup 142 (.map (some ml)) (.int .i64 g) false).run Tryz.prog (W.drewN n)=.ok (.int .i64 t) (W.drewN n):=λn=>by rw[<-ht];exact ar.out _ (aj HW) g
   have Z:=hid (DX (lev:=lev) He.out)
   have ao:(ou lev (L.take i)).length<=100000:=by
    unfold ou;have h1:=List.length_filter_le (λe:Ed=>decide (lev e.to_=0)) (L.take i);have h2:(L.take i).length<=n:=by rw[List.length_take,Hn.out];omega
    have:=Hn.out;omega
   have Ht:=hid ht;rw[O];clear hW O ab HO a1 a2 a3 a4 aw hB ht;by_cases ac:t=0
   .subst ac
    have hd:((0:Int)==0)=true:=rfl;have F:=Z.out;rw[if_pos (show lev (Ed.mk g ⟨xs,xd⟩ xm).to_=0 from Ht.out)]at F;have J:=hid F;clear F Z;go_quiet (fail);have o0:=ae (aj (n:=nq) (Below.refl W.heap.size W)) o0;have o1:=ae (aj (n:=nq) (Below.refl W.heap.size W)) o1;have o2:=ae (aj (n:=nq) (Below.refl W.heap.size W)) o2;have o3:=ae (aj (n:=nq) (Below.refl W.heap.size W)) o3;have I:Below w.heap.size w (W.drewN nq):=aj HW;have B:=hid (U.out.kept (w':=W.drewN nq) (T:=[]) (.of_below (aj (Below.refl _ _))) (λ_ _=>by simp));clear am k0 U HW;generalize W.drewN nq=w5 at o0 o1 o2 o3 I B⊢;go_wp2_with (at_builtin;(refine lN _ rfl _ _ rfl w.heap.size _ _ ⟨g,⟨xs,xd⟩,xm⟩ rfl (B.out.kept (T:=[]) (.of_below (af (Below.refl _ _))) (λ_ _=>by simp)) ⟨w5.heap.size,0,none⟩ rfl (λj u hu=>by rw[Addr.add_lit,Nat.zero_add];exact jg (alloc_at w5 _ rfl) j u hu) ao (by have:=I.size;simp;omega) ?_);intro v' w9 R Q)
    have M:=R;rw[<-J.out]at M;have ag:Below w.heap.size w w9:=(af I).grown Q (by have:=I.size;simp;omega) (λk hk=>(World.ownsRow.lt B.out k hk).1);have M:=hid M;clear R Q;go_wp2
    first
     |exact⟨⟨i+1,by go_num,by omega,M.out,ag⟩,by simp[intOf];omega⟩
     |(go_roundw;(case rel=>exact⟨i+1,by go_num,by omega,M.out,ag⟩);(case measure=>simp[intOf];omega))
   .have hd:(t==0)=false:=by simpa using ac
    have F:=Z.out;rw[if_neg (show¬lev (Ed.mk g ⟨xs,xd⟩ xm).to_=0 by show¬lev g=0;rw[Ht.out];exact ac),List.append_nil]at F;have J:=hid F;clear F Z;go_quiet (fail);have I:Below w.heap.size w (W.drewN nq):=aj HW;have M:=U.out.kept (w':=W.drewN nq) (T:=[]) (.of_below (aj (Below.refl _ _))) (λ_ _=>by simp);rw[<-J.out]at M;have M:=hid M;clear am k0 U HW o0 o1 o2 o3;go_wp2
    first
     |exact⟨⟨i+1,by go_num,by omega,M.out,I⟩,by simp[intOf];omega⟩
     |(go_roundw;(case rel=>exact⟨i+1,by go_num,by omega,M.out,I⟩);(case measure=>simp[intOf];omega))
  .obtain rfl:i=n:=by omega
   have M:=HO.out;rw[List.take_of_length_le (by rw[Hn.out];exact Nat.le_refl _)]at M;have P:NF w (ou lev L) (.returned u5) wr:=⟨_,rfl,M,hB⟩;have P:=hid P;clear HO M k0;go_wp2;go_ret;exact P.out
def Nz(W:World)(ml r:Nat)(V:Int->Option Value)(lev:Int->Int)(lv:Value)(wr:World):Prop:=
 ∃left cnt zs,aO iK wr ml r V left cnt/\aI wr (r+1) lv zs/\zs.Nodup/\(∀z,z∈zs↔(V z≠none/\lev z=0)/\¬left z)/\Below W.heap.size W wr
theorem Rt(w:World)(b mb me nl:Nat)(S:List Nat)(top:Int)(V:Int->Option Value)(lev:Int->Int)(E:Int->Option (List Ed))(M:List Int)(h:cz w b mb me S top V nl E)(hV:∀z u,V z=some u->u=.int .i64 (lev z))(hM:M.Pairwise (· < ·))(hm:∀z,z∈M↔V z≠none/\lev z=0)(hb:∀z,V z≠none->0<=z/\z<256):Calls Tryz.prog 165 #[.pointer (some ⟨b,0,none⟩)] w (pU w M):=by
 obtain⟨g1,q1,_⟩:=h;have bd:w.cell? ⟨b,0,none⟩=some (.map (some mb)):=by simp[World.cell?,g1]
 have be:=q1.lt;have ba:=hid hV;have a9:=hid hM;have a8:=hid hm;have Hb:=hid hb;clear g1 hV hM hm hb;go_enter Tryz.func165,Tryz.ntmps165;go_wp2_with (at_range;refine eB rfl _ rfl mr Tryz.underlying142 q1 rfl ?_;intro w1 L a4 bc);go_frame;obtain⟨r,hr⟩:∃z,w.heap.size=z:=⟨_,rfl⟩
 rw[hr]at L⊢;have hstart:Nz w mb r V lev (.slice none 0 0) w1:=⟨_,_,[],L,aI.nil _ _,by simp,λz=>by simp;intro h _;exact h,a4⟩;have P:∀T:List Int,T.Nodup->(∀z∈T,V z≠none)->T.length<=256:=λT h1 h2=>yg h1 (λz hz=>Hb.out z (h2 z hz));have al:=hid P;have bj:w.heap.size<=r:=by omega
 have bh:mb<r:=by omega
 clear L a4 bc q1 bd P hr;go_loopw [3] (λlv wr=>Nz w mb r V lev lv wr) (λ_ wr=>wr.rangeLeft mb r)
 case atStart=>exact hstart
 case round=>
  obtain⟨left,cnt,T,L,hO,aS,B,hB⟩:=hrel;clear hstart;have hleft:=hid L.left_eq;have ar:=hid aS;have O:=hid B;have bb:=al.out T aS (λz hz=>((B z).1 hz).1.1);clear aS B;go_wp2_with (at_next;refine fB rfl _ rfl mr L rfl ?_ ?_)
  .intro h0 hl
   have an:∀z,z∈T↔z∈M:=λz=>by
    rw[O.out z,and_iff_left (hl z),a8.out z]
   have ag:=tF ar.out a9.out an;have aw:=hid ag;have cS:=hid (BH wr (r+1) _ T hO (by omega) (by have:=L.lt.2;omega));clear hl an ag L;go_wp2_with fail;(with_reducible refine cS.out.mono ?_);rintro e w2 ⟨rfl,ay,a5⟩;rw[aw.out]at ay;have a2:Below w.heap.size w w2:=hB.trans (a5.mono (by omega));have F:=hid (rY (aI.mono ay (by omega)) a2);clear ay a5 a2;go_wp2;go_ret;exact F.out
  .intro k u w4 am hk aE Q ao a3 a7 Z
   obtain rfl:=ba.out k u hk;have R:=hO.D9 (S:=[r]) a3 (by simp);have ax:Below w.heap.size w w4:=Kept.below hB a3 hB.size (by simp;omega);have bi:=Q.lt;have U:=hid Q;have bg:r+1<=w4.heap.size:=by omega
   by_cases ai:lev k=0
   .have a6:k∉T:=λh=>((O.out k).1 h).2 aE
    have ap:(T++[k]).Nodup:=by
     rw[List.nodup_append];exact⟨ar.out,by simp,λa ha b hb=>by simp at hb;subst hb;intro e;subst e;exact a6 ha⟩
    have J:∀z,z∈T++[k]↔(V z≠none/\lev z=0)/\¬(left z/\¬z=k):=λz=>by
     rw[List.mem_append,O.out z,List.mem_singleton];constructor
     .rintro(⟨a,c⟩|rfl)
      .exact⟨a,λh=>c h.1⟩
      .exact⟨⟨by rw[hk];simp,ai⟩,λh=>h.2 rfl⟩
     .rintro⟨a,c⟩
      by_cases e:z=k
      .exact .inr e
      .exact .inl ⟨a,λh=>c ⟨h,e⟩⟩
    have a0:=hid ap;have aq:=hid J;rw[ai]at Z⊢;rw[show iK k=.int .i64 k from rfl]at Z⊢;clear L hO hB a6 ap J Q aE hk a7;go_wp2_with (at_builtin;(refine bK _ rfl _ _ rfl (r+1) _ _ _ rfl (R.alloc _) ⟨w4.heap.size,0,none⟩ rfl (dm _ _ _) (by omega) (by simp;omega) ?_);intro v' w9 ab I)
    have a1:=below_grown (ax.alloc (by omega) _) (by simp;omega) ((aI.mono R (show w.heap.size<=r+1 by omega)).alloc _) I;have ad:∀q,_=some q->r+1<=q:=λq hq=>(World.ownsRow.lt R q hq).1
    have ac:=(U.out.below (af (Below.refl _ _))).kept (w':=w9) (S:=(Value.ownBlock _).toList) ⟨I.os,I.tape,I.output,I.size,λq hq hn=>I.block q hq (λe=>hn (by rw[<-e];simp))⟩
     (by intro hh;rw[Option.mem_toList]at hh;have:=ad _ hh;omega) (by intro hh;rw[Option.mem_toList]at hh;have:=ad _ hh;omega)
    have F:Nz w mb r V lev v' w9:=⟨_,am,_,ac,ab,a0.out,aq.out,a1⟩;have g:=ac.left_eq;have g:=hid g;have F:=hid F;clear ab I R a1 ac ad Z;go_wp2;go_roundw
    case rel=>first|exact F.out|((repeat apply Exists.intro);exact⟨F.out,rfl⟩)
    case measure=>rw[hleft.out,g.out];exact ao
   .have J:∀z,z∈T↔(V z≠none/\lev z=0)/\¬(left z/\¬z=k):=λz=>by
     rw[O.out z];constructor
     .rintro⟨a,c⟩;exact⟨a,λh=>c h.1⟩
     .rintro⟨a,c⟩
      refine⟨a,λh=>c ⟨h,λe=>?_⟩⟩;subst e;exact ai a.2
    obtain⟨t,ht⟩:∃t,lev k=t:=⟨_,rfl⟩;rw[ht]at Z ai⊢;rw[show iK k=.int .i64 k from rfl]at Z⊢;have hd:(t==0)=false:=by simpa using ai
    have F:Nz w mb r V lev _ w4:=⟨_,am,_,U.out,R,ar.out,J,ax⟩;have g:=hid U.out.left_eq;have F:=hid F;clear L hO hB J Q aE hk a7 R ax ht;go_wp2;go_roundw
    case rel=>first|exact F.out|((repeat apply Exists.intro);exact⟨F.out,rfl⟩)
    case measure=>rw[hleft.out,g.out];exact ao
end Go.Proofs.YtokhnobcincfjaaGreatDoor
namespace Go.Proofs.YtokhnobcincfjaaGreatDoor
open Go.Lib (hid)
open Go.RowKit Go.Sort FR
theorem F6(w:World)(e:Ed)(t:Int)(g:aV e.to_)(k:aV t):Calls Tryz.prog 220 #[.agg #[.int .i64 e.to_,.int .i64 e.c.s,.int .i64 e.c.d,.int .i64 e.mid],.int .i64 t] w λr u=>r=.returned (.int .i64 (e.to_-t))/\Below w.heap.size w u:=by
 obtain⟨x,⟨s,d⟩,m⟩:=e;simp only at g⊢;unfold aV at g k;have z:IntKind.i64.wrap (x-t)=x-t:=IntWalk.i64_in _ (by omega);go_enter Tryz.func220,Tryz.ntmps220;go_wp2;go_ret;exact⟨rfl,by(repeat' (first|exact Below.refl _ _|assumption|apply aj|apply ah|apply af|(refine aa ?_ (by assumption))))⟩
theorem Te(w:World)(A:Option Addr)(n ac:Nat)(L:List Ed)(t:Int)(h:bQ w A L)(hn:L.length=n)(hs:sJ L)(hb:∀e∈L,aV e.to_)(ht:aV t)(hl:n<=100000):Calls Tryz.prog 216 #[.slice A n ac,.int .i64 t,.func (.func 220) #[] #[]] w (yO w L t):=by
 have hs:=hid hs;have hb:=hid hb;have Hn:=hid hn;have h:=hid h;clear hn;go_enter Tryz.func216,Tryz.ntmps216;go_wp2_with fail;go_loopw [9,10] (λiv jv wr=>∃i j:Nat,iv=.int .i64 i/\jv=.int .i64 j/\i<=j/\j<=n/\(∀k e,L[k]? =some e->k<i->e.to_<t)/\(∀k e,L[k]? =some e->j<=k->t<=e.to_)/\Below w.heap.size w wr) (λiv jv _=>(intOf jv).toNat-(intOf iv).toNat)
 case atStart=>exact⟨0,n,rfl,rfl,by omega,by omega,λk e _ h=>by omega,λk e hk hj=>by have:=(List.getElem?_eq_some_iff.1 hk).1;have:=Hn.out;omega,Below.refl _ _⟩
 case round=>
  obtain⟨i,j,rfl,rfl,aw,ax,h1,h2,HB⟩:=hrel;have h1:=hid h1;have h2:=hid h2;by_cases ay:i<j
  .have aq:IntKind.i64.wrap ((i:Int)+(j:Int))=(i:Int)+(j:Int):=IntWalk.i64_in _ (by omega)
   go_upto_region 5 with(fail);have am:((i:Int)+(j:Int))/2=(((i+j)/2:Nat):Int):=by omega
   have ao:i<=(i+j)/2:=by omega
   have ap:(i+j)/2<j:=by omega
   rw[am];obtain⟨m,hm⟩:∃m,(i+j)/2=m:=⟨_,rfl⟩;rw[hm]at ao ap⊢;clear hm am aq;have an:m<n:=by omega
   obtain⟨e,u⟩:∃e,L[m]? =some e:=⟨L[m]'(by rw[Hn.out];exact an),List.getElem?_eq_getElem _⟩;have He:=hid u;obtain⟨g,hA,a1,a2,a3,a4⟩:=(h.out.below HB).get u;have ag:=λwx=>jy (m:=ac) hA an wx;have M:=hid (F6 wr e t (hb.out e (List.mem_of_getElem? u)) ht);have Q:aV e.to_:=hb.out e (List.mem_of_getElem? u)
   have F:e.to_<t->∀k x,L[k]? =some x->k<m+1->x.to_<t:=λhl k x J hk=>by
    by_cases e1:k=m
    .subst e1;rw[J]at u;injection u with u;rw[u];exact hl
    .exact Int.lt_trans (hs.out k m x e (by omega) J u) hl
   have I:t<=e.to_->∀k x,L[k]? =some x->m<=k->t<=x.to_:=λhl k x J hk=>by
    by_cases e1:k=m
    .subst e1;rw[J]at u;injection u with u;rw[u];exact hl
    .have:=hs.out m k e x (by omega) u J
     omega
   have F:=hid F;have I:=hid I;obtain⟨x,J⟩:∃x,e.to_=x:=⟨_,rfl⟩;rw[J]at a1 M Q F I;obtain⟨xs,T⟩:∃x,e.c.s=x:=⟨_,rfl⟩;obtain⟨xd,R⟩:∃x,e.c.d=x:=⟨_,rfl⟩;obtain⟨xm,S⟩:∃x,e.mid=x:=⟨_,rfl⟩;rw[T]at a2 M;rw[R]at a3 M;rw[S]at a4 M;clear hA u J T R S;go_wp2_with fail;(with_reducible refine M.out.mono ?_);rintro r w2 ⟨rfl,Z⟩;have U:=aa HB Z;clear a1 a2 a3 a4 M ag;unfold aV at Q;by_cases ar:x<t
   .have hd:decide (x-t<0)=true:=by simp;omega
    have F:=hid (F.out ar);have aE:IntKind.i64.wrap ((m:Int)+1)=((m+1:Nat):Int):=by rw[IntWalk.i64_in _ (by omega)];omega
    clear I;go_wp2;go_roundw
    case rel=>exact⟨m+1,j,rfl,rfl,by omega,by omega,F.out,h2.out,U⟩
    case measure=>simp[intOf];omega
   .have hd:decide (x-t<0)=false:=by simp;omega
    have I:=hid (I.out (by omega));clear F;go_wp2;go_roundw
    case rel=>exact⟨i,m,rfl,rfl,by omega,by omega,h1.out,I.out,U⟩
    case measure=>simp[intOf];omega
  .obtain rfl:i=j:=by omega
   have hcut:∀k x,L[k]? =some x->(k<i↔x.to_<t):=λk x J=>by
    constructor
    .exactλhk=>h1.out k x J hk
    .intro hl
     by_cases hk:k<i
     .exact hk
     .have:=h2.out k x J (by omega)
      omega
   have ab:=hid hcut;clear hcut;clear h1 h2;by_cases Q:i<n
   .obtain⟨e,u⟩:∃e,L[i]? =some e:=⟨L[i]'(by rw[Hn.out];exact Q),List.getElem?_eq_getElem _⟩
    obtain⟨g,hA,a1,a2,a3,a4⟩:=(h.out.below HB).get u;have ag:=λwx=>jy (m:=ac) hA Q wx;have M:=hid (F6 wr e t (hb.out e (List.mem_of_getElem? u)) ht);have al:aV e.to_:=hb.out e (List.mem_of_getElem? u);obtain⟨fd,ad⟩:∃fd,(e.to_-t==0)=fd:=⟨_,rfl⟩
    have B:fd=true↔∃x,L[i]? =some x/\x.to_=t:=by
     rw[<-ad,u];simp;omega
    have O:=hid B;clear B;have ai:=hid ad;obtain⟨x,J⟩:∃x,e.to_=x:=⟨_,rfl⟩;rw[J]at a1 M ai;obtain⟨xs,T⟩:∃x,e.c.s=x:=⟨_,rfl⟩;obtain⟨xd,R⟩:∃x,e.c.d=x:=⟨_,rfl⟩;obtain⟨xm,S⟩:∃x,e.mid=x:=⟨_,rfl⟩;rw[T]at a2 M;rw[R]at a3 M;rw[S]at a4 M;have q:(i:Int)<(n:Int):=by omega
    clear hA u J T R S ad al;go_wp2_with fail;(with_reducible refine M.out.mono ?_);rintro r w2 ⟨rfl,Z⟩;have U:=aa HB Z;clear a1 a2 a3 a4 M ag Z;have z:yO w L t (.returned (.tuple #[.int .i64 (i:Nat),.bool fd])) w2:=⟨i,fd,rfl,by rw[Hn.out];omega,ab.out,O.out,U⟩;rw[<-ai.out]at z;have P:=hid z;clear z;go_wp2;go_ret2;exact P.out
   .obtain rfl:i=n:=by omega
    have B:false=true↔∃x,L[i]? =some x/\x.to_=t:=by
     rw[List.getElem?_eq_none (by rw[Hn.out];omega)];simp
    have O:=hid B;clear B;have z:yO w L t (.returned (.tuple #[.int .i64 (i:Nat),.bool false])) wr:=⟨i,false,rfl,by rw[Hn.out];omega,ab.out,O.out,HB⟩;have P:=hid z;clear z;go_wp2;go_ret2;exact P.out
theorem Rq(w:World)(A:Option Addr)(n g:Nat)(L:List Ed)(t:Int)(h:bQ w A L)(Q:L.length=n)(u:sJ L)(O:∀e∈L,aV e.to_)(R:aV t)(P:n<=100000):Calls Tryz.prog 216 #[.slice A n g,.int .i64 t,.func (.func 220) #[] #[]] w λr z=>r=.returned (.tuple #[.int .i64 (dV L t:Nat),.bool (fV L t)])/\Below w.heap.size w z:=by
 refine(Te w A n g L t h Q u O R P).mono ?_;rintro r z ⟨i,F,rfl,I,J,k,M⟩;have e:=Ec I J;subst e;rw[o7 u]at k;have B:F=fV L t:=Bool.eq_iff_iff.2 k;rw[B];exact⟨rfl,M⟩
theorem Qn(w:World)(S:List Nat)(b ml O:Nat)(top:Int)(E:Int->Option (List Ed))(a:Int)(x:Ed)(L:List Ed)(hb:w.heap[b]? =some (.cells #[.map (some ml),.map (some O),.int .i64 top] 180 (0,0)))(hE:dL w S O E)(a9:b∉S)(b3:b≠O)(hL:E a=some L)(hs:sJ L)(bb:∀e∈L,aV e.to_)(hx:aV x.to_)(hl:L.length<=1000):Calls Tryz.prog 168 #[.pointer (some ⟨b,0,none⟩),.int .i64 a,.agg #[.int .i64 x.to_,.int .i64 x.c.s,.int .i64 x.c.d,.int .i64 x.mid]] w (ND w S O (bO E a (some (vL L x)))):=by
 have ci:=hE.lt;obtain⟨V,N,h1,h2,h3,h4,h5,h6,h7⟩:=hE
 obtain⟨u,hu⟩:∃u,V a=some u:=by
  cases hV:V a with
  |none=>rw[(h2 a).2 hV]at hL;cases hL
  |some u=>exact⟨u,rfl⟩
 have hO:=h3 a u L hu hL;have bi:∀q,u.ownBlock=some q->q∈S:=λq hq=>h4 a u q hu hq;obtain⟨A,g,rfl,a4⟩:=hO.Ag;have ck:b<w.heap.size:=(Array.getElem?_eq_some_iff.1 hb).1
 have bc:∀w',Below w.heap.size w w'->(Instr.lookup 137 (.map (some O)) (.int .i64 a) false).run Tryz.prog w'=.ok (.slice A L.length g) w':=λw' b4=>by
  have:=((h1.below b4).look (aG Tryz.underlying3) Tryz.underlying137 (z:=.slice none 0 0) (by simp[Tryz.zeroValue119]) a).2;rw[hu]at this;exact this
 obtain⟨J,⟨R,P⟩,Q⟩:=x;simp only at hx⊢;have H1:=hid h1;have H2:=hid h2;have H3:=hid h3;have H4:=hid h4;have H6:=hid h6;have H7:=hid h7;have HO:=hid hO;have Hu:=hid hu;have ao:=hid bi;have ai:=hid bc;obtain⟨i,hi⟩:∃i,dV L J=i:=⟨_,rfl⟩;obtain⟨fd,ar⟩:∃i,fV L J=i:=⟨_,rfl⟩;have b9:i<=L.length:=by rw[<-hi];exact(qC hs J).1
 have cB:=hid (λw'(b1:Below w.heap.size w w')=>(show Calls Tryz.prog 216 #[.slice A L.length g,.int .i64 J,.func (.func 220) #[] #[]] w' λr w2=>r=.returned (.tuple #[.int .i64 (i:Nat),.bool fd])/\Below w'.heap.size w' w2 by
  have:=Rq w' A L.length g L J (a4.below b1) rfl hs bb hx (by omega);rw[hi,ar]at this;exact this))
 have aS:ll L ⟨J,⟨R,P⟩,Q⟩=L.take i++(⟨J,⟨R,P⟩,Q⟩:Ed)::L.drop i:=by unfold ll;rw[<-hi]
 have bh:vL L ⟨J,⟨R,P⟩,Q⟩=if fd=true then L.set i ⟨J,⟨R,P⟩,Q⟩else L.take i++(⟨J,⟨R,P⟩,Q⟩:Ed)::L.drop i:=by
  unfold vL;rw[aS];simp only[ar,hi]
 rw[bh];have bp:=hid ar;have Hi:=hid hi;have br:=hid hs;obtain⟨n,hn⟩:∃n,L.length=n:=⟨_,rfl⟩;rw[hn]at hl b9 HO ao Hu ai cB;have Hn:=hid hn;have cj:=hid hb;have bo:w.cell? ⟨b,1,none⟩=some (.map (some O)):=by simp[World.cell?,hb]
 have hx:=hid hx;clear h1 h2 h3 h4 h6 h7 hO hu bi bc a4 hi ar aS bb hs hL hn hb;go_enter Tryz.func168,Tryz.ntmps168;go_upto_region 1 with(fail);refine au ?_;intro W hW;have HW:Below w.heap.size w W:=by rw[hW];(repeat' (first|exact Below.refl _ _|assumption|apply aj|apply ah|apply af|(refine aa ?_ (by assumption))))
 have c0:W.cell? ⟨w.heap.size,0,none⟩=some (.int .i64 J):=by rw[hW];go_simp
 have c1:W.cell? ⟨w.heap.size,1,none⟩=some (.int .i64 R):=by rw[hW];go_simp
 have c2:W.cell? ⟨w.heap.size,2,none⟩=some (.int .i64 P):=by rw[hW];go_simp
 have c3:W.cell? ⟨w.heap.size,3,none⟩=some (.int .i64 Q):=by rw[hW];go_simp
 obtain⟨U,b2⟩:∃z,w.heap.size=z:=⟨_,rfl⟩;have ch:b≠U:=by omega
 have ac:O≠U:=by omega
 have ax:∀q,(Value.slice A n g).ownBlock=some q->q≠U:=λq hq=>by have:=HO.out.lt hq;omega
 have aw:=hid ax;rw[b2]at c0 c1 c2 c3⊢;have k1:=ae HW bo;have cb:∀d os,(Instr.lookup 137 (.map (some O)) (.int .i64 a) false).run Tryz.prog (grow (redrawn W d) os)=.ok (.slice A n g) (grow (redrawn W d) os):=λd os=>ai.out _ (aa HW (below_regrown W d os));have bt:=cell_regrown c0;have ce:=cell_regrown k1;have HX:=Below.refl W.heap.size W;clear hW bo ax;refine wp_region_quiet_below (by kernel_rfl) (by kernel_rfl) ?_;repeat (first|go_big_quiet_step ((with_reducible exact Calls.regrown_of (cB.out _ (aa HW (below_regrown W _ _)))))|quiet_step ((with_reducible exact Calls.regrown_of (cB.out _ (aa HW (below_regrown W _ _))))))
 refine wpQuiet_nil ?_;intro _ cd;obtain⟨⟨dq,osq⟩,bj⟩:=cd;have HY:=aa HX (below_regrown W dq osq);have a8:=below_regrown W dq osq;subst bj;generalize grow (redrawn W dq) osq=I at HY a8⊢;have c0:=ae HY c0;have c1:=ae HY c1;have c2:=ae HY c2;have c3:=ae HY c3;have k1:=ae HY k1;have M:=aa HW HY;clear bt ce cb HX a8 HY;cases fd with
 |true=>
   have ay:fV L J=true:=bp.out;rw[if_pos rfl]
   have aE:i<n:=by
    obtain⟨e,he,_⟩:=(o7 br.out J).2 ay;have:=(List.getElem?_eq_some_iff.1 he).1;rw[Hi.out]at this;have:=Hn.out;omega
   obtain⟨B,rfl,al⟩:∃B,A=some ⟨B,0,none⟩/\nW w B g n L:=by
    rcases HO.out.2 with⟨_,h0⟩|⟨B,cg,ap,e0,_,hg,cp,b6,b7,a2⟩
    .have:=Hn.out;omega
    .injection e0 with e1 e2 e3
     subst e3;exact⟨B,e1,ap,hg,b7,by have:=Hn.out;omega,b6,Hn.out,by have:=Hn.out;rw[<-this];exact a2⟩
   have ba:B∈S:=ao.out B rfl;have cm:b≠B:=λe=>a9 (e▸ba);have b8:B≠O:=λe=>h5 (e▸ba);have cl:U≠B:=λe=>aw.out B rfl e.symm;have ab:=al.below M;have bk:L[i]? =some (L[i]'(by have:=Hn.out;omega)):=List.getElem?_eq_getElem _;obtain⟨p1,p2,p3,p4⟩:=ab.get bk
   obtain⟨f1,f2,f3,f4⟩:I.frozen? ⟨B,i*4,none⟩=false/\I.frozen? ⟨B,i*4+1,none⟩=false/\I.frozen? ⟨B,i*4+2,none⟩=false/\I.frozen? ⟨B,i*4+3,none⟩=false:=by
    obtain⟨ap,q1,_⟩:=ab;simp[World.frozen?,q1]
   have ca:(Instr.lookup 137 (.map (some O)) (.int .i64 a) false).run Tryz.prog I.drew=.ok (.slice (some ⟨B,0,none⟩) n g) I.drew:=ai.out _ (ah M);have cn:=λwx=>jy (A:=some ⟨B,0,none⟩) (m:=g) (n:=n) (k:=i) rfl aE wx;have am:nW I.drew B g n L:=al.below (ah M);have hset:=am.set aE ⟨J,⟨R,P⟩,Q⟩;have hK:Kept [B] I.drew ((((I.drew.setCell ⟨B,i*4,none⟩ (.int .i64 J)).setCell ⟨B,i*4+1,none⟩ (.int .i64 R)).setCell ⟨B,i*4+2,none⟩ (.int .i64 P)).setCell ⟨B,i*4+3,none⟩ (.int .i64 Q)):=((((Kept.refl _ _).setCell (.inl (by simp))).setCell (.inl (by simp))).setCell (.inl (by simp))).setCell (.inl (by simp));have HR:=hid (And.intro hset hK);clear al ab am hset hK bk ay;go_upto_region 3 with(fail);go_region
   have hV:aL V a (some (.slice (some ⟨B,0,none⟩) n g))=V:=by
    funext z;unfold aL;split
    .rename_i e;rw[e,Hu.out]
    .rfl
   have aq:bU ((((I.drew.setCell ⟨B,i*4,none⟩ (.int .i64 J)).setCell ⟨B,i*4+1,none⟩ (.int .i64 R)).setCell ⟨B,i*4+2,none⟩ (.int .i64 P)).setCell ⟨B,i*4+3,none⟩ (.int .i64 Q)) 0 (.slice (some ⟨B,0,none⟩) n g) (L.set i ⟨J,⟨R,P⟩,Q⟩):=by
    obtain⟨ap,q1,q2,q3,q4,q5,q6⟩:=HR.out.1;have a1:(L.set i ⟨J,⟨R,P⟩,Q⟩).length=n:=q5;exact⟨by rw[bz],.inr ⟨B,g,ap,by rw[a1],Nat.zero_le _,q1,by rw[a1];exact q3,q4,q2,by rw[a1];exact q6⟩⟩
   have F:I.drew.grownBy ((((I.drew.setCell ⟨B,i*4,none⟩ (.int .i64 J)).setCell ⟨B,i*4+1,none⟩ (.int .i64 R)).setCell ⟨B,i*4+2,none⟩ (.int .i64 P)).setCell ⟨B,i*4+3,none⟩ (.int .i64 Q)) (some B):=⟨HR.out.2.os,HR.out.2.tape,HR.out.2.output,HR.out.2.size,λk hk hn=>HR.out.2.block k hk (by simp;exactλe=>hn (by rw[e]))⟩
   have a6:MapAt iK ((((I.drew.setCell ⟨B,i*4,none⟩ (.int .i64 J)).setCell ⟨B,i*4+1,none⟩ (.int .i64 R)).setCell ⟨B,i*4+2,none⟩ (.int .i64 P)).setCell ⟨B,i*4+3,none⟩ (.int .i64 Q)) O (aL V a (some (.slice (some ⟨B,0,none⟩) n g))) N:=by
    rw[hV];exact(H1.out.below (ah M)).kept HR.out.2 (by simp;exact Ne.symm b8)
   have Z:=dL.put (w:=w) (w1:=I.drew) H1.out H2.out H3.out H4.out h5 H6.out H7.out Hu.out (ah M) aq F (.inl rfl) a6 (Kept.refl _ _);have Z:=hid Z;clear aq F a6 hV;clear p1 p2 p3 p4 f1 f2 f3 f4;go_wp2;go_end0;exact⟨rfl,Z.out⟩
 |false=>
   go_upto_region 4 with(fail);obtain⟨o,ho⟩:∃o,Obj.cells #[Value.int .i64 J,Value.int .i64 R,Value.int .i64 P,Value.int .i64 Q] 182 (0,0)=o:=⟨_,rfl⟩;have ca:(Instr.lookup 137 (.map (some O)) (.int .i64 a) false).run Tryz.prog I.drew=.ok (.slice A n g) I.drew:=ai.out _ (ah M);have co:∀o,(Instr.lookup 137 (.map (some O)) (.int .i64 a) false).run Tryz.prog (I.alloc o).drew=.ok (.slice A n g) (I.alloc o).drew:=λo=>ai.out _ (ah (af M));have a7:bU (I.alloc o).drew 0 (.slice A n g) L:=HO.out.kept (T:=[]) (.of_below (ah (af M))) (λ_ _=>by simp);have a5:MapAt iK (I.alloc o).drew O V N:=H1.out.below (ah (af M));have bm:(I.alloc o).drew.heap[I.heap.size]? =some (.cells (Ed.cells ⟨J,⟨R,P⟩,Q⟩).toArray 182 (0,0)):=by rw[<-ho];exact alloc_at I _ rfl
   have a0:(Value.slice A n g).ownBlock≠some I.heap.size:=λe=>by have:=HO.out.lt e;have:=M.size;omega
   have be:some b≠(Value.slice A n g).ownBlock:=λe=>a9 (ao.out b e.symm);have bd:some U≠(Value.slice A n g).ownBlock:=λe=>(aw.out U e.symm) rfl;have bg:some O≠(Value.slice A n g).ownBlock:=λe=>h5 (ao.out O e.symm);have a3:Below w.heap.size w (I.alloc o).drew:=ah (af M);have HA:=hid (And.intro a7 (And.intro a5 (And.intro bm (And.intro a0 (And.intro be (And.intro bd (And.intro bg a3)))))));have an:L.length<=100000:=by have:=Hn.out;omega
   have bq:i<=L.length:=by have:=Hn.out;omega
   have Ho:=hid ho;clear a7 a5 bm a0 be bd bg a3;rw[<-ho]at HA;clear ho
   go_region_held3 (λw'=>w'.cell? ⟨b,1,none⟩=some (.map (some O))/\w'.cell? ⟨U,0,none⟩=some (.int .i64 J)/\w'.cell? ⟨U,1,none⟩=some (.int .i64 R)/\w'.cell? ⟨U,2,none⟩=some (.int .i64 P)/\w'.cell? ⟨U,3,none⟩=some (.int .i64 Q))
    (first
     |exact⟨k1,c0,c1,c2,c3⟩
     |exact⟨aC k1,aC c0,aC c1,aC c2,aC c3⟩
     |exact ag
     |exact b0)
    ((first
     |(go_at_call 218
       refine(FW _ 0 (.slice A n g) L i I.heap.size ⟨J,⟨R,P⟩,Q⟩ HA.out.1 bq HA.out.2.2.1 HA.out.2.2.2.1 (Nat.zero_le _) an).mono ?_;rintro e wI ⟨v',rfl,aq,F,bv⟩
       have ag:wI.cell? ⟨b,1,none⟩=some (.map (some O))/\wI.cell? ⟨U,0,none⟩=some (.int .i64 J)/\wI.cell? ⟨U,1,none⟩=some (.int .i64 R)/\wI.cell? ⟨U,2,none⟩=some (.int .i64 P)/\wI.cell? ⟨U,3,none⟩=some (.int .i64 Q):=
        ⟨F.cell (aC k1) HA.out.2.2.2.2.1,F.cell (aC c0) HA.out.2.2.2.2.2.1,F.cell (aC c1) HA.out.2.2.2.2.2.1,F.cell (aC c2) HA.out.2.2.2.2.2.1,F.cell (aC c3) HA.out.2.2.2.2.2.1⟩
       have bw:MapAt iK wI O V N:=HA.out.2.1.kept (S:=(Value.slice A n g).ownBlock.toList) ⟨F.os,F.tape,F.output,F.size,λq hq hn=>F.block q hq (λe=>hn (by rw[<-e];simp))⟩ (by
        intro hh;have:=HA.out.2.2.2.2.2.2.1;cases hv:(Value.slice A n g).ownBlock with
        |none=>rw[hv]at hh;simp at hh
        |some r=>rw[hv]at hh this;simp at hh;exact this (by rw[hh]))
       obtain⟨wU,hU,bx,ad⟩:=bw.store (aG Tryz.underlying3) Tryz.underlying137 a v';have hU:(Instr.mapUpdate 137 (.map (some O)) (.int .i64 a) v').run Tryz.prog wI=.ok () wU:=hU
       have b0:wU.cell? ⟨b,1,none⟩=some (.map (some O))/\wU.cell? ⟨U,0,none⟩=some (.int .i64 J)/\wU.cell? ⟨U,1,none⟩=some (.int .i64 R)/\wU.cell? ⟨U,2,none⟩=some (.int .i64 P)/\wU.cell? ⟨U,3,none⟩=some (.int .i64 Q):=
        ⟨aJ ad (by simpa using b3) ag.1,aJ ad (by simpa using Ne.symm ac) ag.2.1,aJ ad (by simpa using Ne.symm ac) ag.2.2.1,aJ ad (by simpa using Ne.symm ac) ag.2.2.2.1,aJ ad (by simpa using Ne.symm ac) ag.2.2.2.2⟩)))
   all_goals
    have Z:=dL.put H1.out H2.out H3.out H4.out h5 H6.out H7.out Hu.out HA.out.2.2.2.2.2.2.2 aq F bv bx ad;go_end0;exact⟨rfl,by simpa using Z⟩
end Go.Proofs.YtokhnobcincfjaaGreatDoor
namespace Go.Proofs.YtokhnobcincfjaaGreatDoor
open Go.Lib (hid)
open Go.RowKit Go.Sort FR Go.Lib
variable {c:C}{e:Ed}{g:G}{cd cs z:Int}{S:LS}{L:List Ed}{N a b eb k mo n q:Nat}{T:Nat->Nat->Prop}{hp hp2:Nat->Option C}{A1:Option Addr}{W w w':World}
def gz(S:LS)(N n:Nat):List Ed:=(List.range N).filterMap λt=>(S.eg n t).map λcm=>⟨(t:Nat),cm.1,cm.2⟩
theorem fw:e∈gz S N n↔∃t:Nat,t<N/\e.to_=t/\S.eg n t=some (e.c,e.mid):=by
 unfold gz;simp only[List.mem_filterMap,List.mem_range,Option.map_eq_some_iff];constructor
 .rintro⟨t,B,⟨c,m⟩,u,rfl⟩;exact⟨t,B,rfl,u⟩
 .rintro⟨t,B,u,F⟩;exact⟨t,B,_,F,by cases e;simp at u⊢;exact u.symm⟩
theorem EB(S:LS)(N n:Nat):(gz S N n).Pairwise (λa b=>a.to_<b.to_):=by
 unfold gz;refine List.Pairwise.filterMap _ (R:=(· < ·)) ?_ List.pairwise_lt_range;intro a F h b B I u;simp only[Option.map_eq_some_iff]at B u;obtain⟨_,_,rfl⟩:=B;obtain⟨_,_,rfl⟩:=u;simp only;omega
theorem nQ(S:LS)(N n:Nat):sJ (gz S N n):=wF.2 (EB S N n)
theorem fq(S:LS)(N n:Nat):(gz S N n).length<=N:=by
 unfold gz;exact Nat.le_trans (List.length_filterMap_le _ _) (by simp)
open Classical in
noncomputable def bH(g:G)(S:LS)(z:Int):Option Value:=if 0<=z/\g.ak z.toNat then some (.int .i64 (S.lev z.toNat:Nat))else none
open Classical in
noncomputable def gK(g:G)(S:LS)(z:Int):Option (List Ed):=if 0<=z/\g.ak z.toNat then some (gz S g.n z.toNat)else none
open Classical in
noncomputable def vv(g:G)(S:LS)(z:Int):Int:=if 0<=z/\g.ak z.toNat then(S.lev z.toNat:Nat)else 0
theorem Qm(g:G)(S:LS):PV (bH g S) (vv g S):=λz=>by
 unfold bH vv;split<;>rfl
theorem fQ(h:g.ak n):bH g S (n:Nat)=some (.int .i64 (S.lev n:Nat)):=by
 unfold bH;rw[if_pos ⟨by omega,by simpa using h⟩];simp
theorem ja(h:g.ak n):gK g S (n:Nat)=some (gz S g.n n):=by
 unfold gK;rw[if_pos ⟨by omega,by simpa using h⟩];simp
theorem zH(h:g.ak n):vv g S (n:Nat)=(S.lev n:Nat):=by
 unfold vv;rw[if_pos ⟨by omega,by simpa using h⟩];simp
theorem rT(h:¬(0<=z/\g.ak z.toNat)):bH g S z=none:=by unfold bH;rw[if_neg h]
theorem Bh(h:¬(0<=z/\g.ak z.toNat)):gK g S z=none:=by unfold gK;rw[if_neg h]
theorem qB:bH g S z≠none↔∃n:Nat,z=n/\g.ak n:=by
 unfold bH;constructor
 .intro h
  split at h
  .rename_i q;exact⟨z.toNat,by omega,q.2⟩
  .exact absurd rfl h
 .rintro⟨n,rfl,h⟩
  rw[if_pos ⟨by omega,by simpa using h⟩];simp
theorem LD(z:Int)(u:Value)(h:bH g S z=some u):u=.int .i64 (vv g S z):=by
 unfold bH at h;unfold vv;split at h
 .rename_i q;rw[if_pos q];injection h with h;exact h.symm
 .cases h
def Nw(g:G)(S:LS):Prop:=∀a b,S.eg a b≠none->g.ak a/\g.ak b/\a≠b
def uX(S:LS)(N n:Nat):List Ed:=(gz S N n).filter λe=>decide (S.lev e.to_.toNat=0)
theorem Bn(h:Nw g S)(n:Nat):ou (vv g S) (gz S g.n n)=uX S g.n n:=by
 unfold ou uX;apply List.filter_congr;intro e I;obtain⟨t,J,u,B⟩:=fw.1 I;have F:=(h n t (by rw[B];simp)).2.1;rw[u,zH F];simp
theorem Gb:e∈uX S N n↔∃t:Nat,t<N/\e.to_=t/\S.eg n t=some (e.c,e.mid)/\S.lev t=0:=by
 unfold uX;rw[List.mem_filter,fw];constructor
 .rintro⟨⟨t,F,u,I⟩,B⟩
  rw[u]at B;exact⟨t,F,u,I,by simpa using B⟩
 .rintro⟨t,F,u,I,B⟩
  exact⟨⟨t,F,u,I⟩,by rw[u];simpa using B⟩
theorem zG(S:LS)(N n:Nat):(uX S N n).length<=N:=Nat.le_trans (List.length_filter_le _ _) (fq S N n)
theorem DW(S:LS)(N n:Nat):(uX S N n).map (λe=>e.to_.toNat)=S.nb N n:=by
 unfold uX gz LS.nb;generalize List.range N=l
 induction l with
 |nil=>rfl
 |cons t l u=>
  cases h:S.eg n t with
  |none=>simp[List.filterMap_cons,List.filter_cons,h,u]
  |some cm=>
   by_cases B:S.lev t=0
   .simp[List.filterMap_cons,List.filter_cons,h,B,u]
   .simp[List.filterMap_cons,List.filter_cons,h,B,u]
theorem ug(S:LS)(N n:Nat):(uX S N n).length=(S.nb N n).length:=by rw[<-DW,List.length_map]
theorem zh{N n i:Nat}(h:(uX S N n)[i]? =some e):∃t:Nat,t<N/\e.to_=t/\S.eg n t=some (e.c,e.mid)/\S.lev t=0/\(S.nb N n)[i]? =some t/\S.cost n t=e.c:=by
 obtain⟨t,F,u,B,I⟩:=Gb.1 (List.mem_of_getElem? h);refine⟨t,F,u,B,I,?_,LS.nu B⟩;rw[<-DW,List.getElem?_map,h,Option.map_some,u];simp
def R5(e:Ed):Value:=.agg #[.int .i64 e.to_,.int .i64 e.c.s,.int .i64 e.c.d,.int .i64 e.mid]
open Classical in
noncomputable def jT(S:LS)(n:Nat)(T:Nat->Nat->Prop)(k:Int×Int):Option Value:=
 if 0<=k.1/\0<=k.2/\T k.1.toNat k.2.toNat then some (R5 ⟨k.2,C.add (S.cost n k.1.toNat) (S.cost n k.2.toNat),(n:Nat)⟩)else none
theorem zS(h:T a b):jT S n T ((a:Nat),(b:Nat))=some (R5 ⟨(b:Nat),C.add (S.cost n a) (S.cost n b),(n:Nat)⟩):=by
 unfold jT;rw[if_pos ⟨by simp,by simp,by simpa using h⟩];simp
theorem Jd{k:Int×Int}(h:jT S n T k≠none):∃a b:Nat,k=(((a:Nat):Int),((b:Nat):Int))/\T a b:=by
 unfold jT at h;split at h
 .rename_i q
  refine⟨k.1.toNat,k.2.toNat,?_,q.2.2⟩;obtain⟨u,B⟩:=k;simp at q⊢;omega
 .exact absurd rfl h
theorem Ml:aL (jT S n T) (((a:Nat):Int),((b:Nat):Int)) (some (R5 ⟨(b:Nat),C.add (S.cost n a) (S.cost n b),(n:Nat)⟩))=jT S n (λx y=>T x y\/(x=a/\y=b)):=by
 funext k;obtain⟨B,F⟩:=k;unfold aL;by_cases e:(B,F)=(((a:Nat):Int),((b:Nat):Int))
 .rw[if_pos e,e,zS (.inr ⟨rfl,rfl⟩)]
 .rw[if_neg e]
  unfold jT;simp only;by_cases h:0<=B/\0<=F
  .by_cases u:T B.toNat F.toNat
   .rw[if_pos ⟨h.1,h.2,u⟩,if_pos ⟨h.1,h.2,.inl u⟩]
   .rw[if_neg (λq=>u q.2.2),if_neg]
    rintro⟨_,_,q|⟨I,J⟩⟩
    .exact u q
    .exact e (Prod.ext (by simp only;omega) (by simp only;omega))
  .rw[if_neg (λq=>h ⟨q.1,q.2.1⟩),if_neg (λq=>h ⟨q.1,q.2.1⟩)]
theorem Mq{n top a b:Nat}(ha:g.ak a)(hb:g.ak b)(R:a≠b):bO (bO (gK g (S.part n top T)) a (some (vL (gz (S.part n top T) g.n a) ⟨b,C.add (S.cost n a) (S.cost n b),(n:Nat)⟩))) b (some (vL (gz (S.part n top T) g.n b) ⟨a,C.add (S.cost n a) (S.cost n b),(n:Nat)⟩))=gK g (S.part n top λx y=>T x y\/(x=a/\y=b)):=by
 have k:∀(x y:Nat),g.ak y->((x=a/\y=b)\/(x=b/\y=a))->vL (gz (S.part n top T) g.n x) ⟨y,C.add (S.cost n a) (S.cost n b),(n:Nat)⟩=gz (S.part n top λx y=>T x y\/(x=a/\y=b)) g.n x:=by
  intro x y hy B;refine uu (wF.1 (MQ (nQ _ _ _) _)) (EB _ _ _) λe=>?_
  have u:C.add (S.cost n a) (S.cost n b)=C.add (S.cost n x) (S.cost n y):=by
   rcases B with⟨rfl,rfl⟩|⟨rfl,rfl⟩
   .rfl
   .exact C.add_comm _ _
  have U:∀t,t≠y->((S.part n top λx y=>T x y\/(x=a/\y=b)).eg x t=(S.part n top T).eg x t):=by
   intro t ht;refine LS.yo ?_
   .show((T x t\/(x=a/\t=b))\/(T t x\/(t=a/\x=b)))↔(T x t\/T t x)
    constructor
    .rintro((q|⟨M,O⟩)|(q|⟨M,O⟩))
     .exact .inl q
     .rcases B with⟨F,I⟩|⟨F,I⟩
      .exact absurd (O.trans I.symm) ht
      .exact absurd (M.symm.trans F) R
     .exact .inr q
     .rcases B with⟨F,I⟩|⟨F,I⟩
      .exact absurd (F.symm.trans O) R
      .exact absurd (M.trans I.symm) ht
    .rintro(q|q)
     .exact .inl (.inl q)
     .exact .inr (.inl q)
  have Z:(S.part n top λx y=>T x y\/(x=a/\y=b)).eg x y=some (C.add (S.cost n x) (S.cost n y),(n:Int)):=by
   refine LS.vH ?_;rcases B with⟨F,I⟩|⟨F,I⟩
   .exact .inl (.inr ⟨F,I⟩)
   .exact .inr (.inr ⟨I,F⟩)
  rw[LP (nQ _ _ _),fw,fw];constructor
  .rintro(rfl|⟨⟨t,h1,P,J⟩,h4⟩)
   .exact⟨y,hy.1,rfl,by rw[Z,u]⟩
   .refine⟨t,h1,P,?_⟩
    rw[U t (by rintro rfl;exact h4 P)];exact J
  .rintro⟨t,h1,P,J⟩
   by_cases Q:t=y
   .subst Q
    rw[Z]at J;left;injection J with J
    injection J with M O
    cases e;simp at P M O⊢;exact⟨P,by rw[u];exact M.symm,O.symm⟩
   .right
    rw[U t Q]at J;exact⟨⟨t,h1,P,J⟩,by simp only;rw[P];omega⟩
 funext z;unfold bO;by_cases Q:z=(b:Nat)
 .rw[if_pos Q,Q,ja hb,k b a ha (.inr ⟨rfl,rfl⟩)]
 .rw[if_neg Q]
  by_cases e2:z=(a:Nat)
  .rw[if_pos e2,e2,ja ha,k a b hb (.inl ⟨rfl,rfl⟩)]
  .rw[if_neg e2]
   unfold gK;by_cases L:0<=z/\g.ak z.toNat
   .rw[if_pos L,if_pos L]
    congr 1;unfold gz;congr 1;funext t
    have:(S.part n top T).eg z.toNat t=(S.part n top λx y=>T x y\/(x=a/\y=b)).eg z.toNat t:=by
     refine LS.yo ?_
     .show(T z.toNat t\/T t z.toNat)↔((T z.toNat t\/(z.toNat=a/\t=b))\/(T t z.toNat\/(t=a/\z.toNat=b)))
      constructor
      .rintro(q|q)
       .exact .inl (.inl q)
       .exact .inr (.inl q)
      .rintro((q|⟨M,O⟩)|(q|⟨M,O⟩))
       .exact .inl q
       .omega
       .exact .inr q
       .omega
    rw[this]
   .rw[if_neg L,if_neg L]
structure Aq (W w:World) (mo q:Nat) (S:List Nat) (N:Nat) (done hp:Nat->Option C):Prop where
 mapC:MapAt iK w mo (eD (fH done)) (bC done N)
 heap:bf w S q (bC hp N) (pM hp)
 dis:mo∉S
 far:∀k∈S,W.heap.size<=k
 own:W.heap.size<=mo
 bel:Below W.heap.size W w
theorem Aq.below{S:List Nat}{done hp:Nat->Option C}(h:Aq W w mo q S N done hp)(u:Below w.heap.size w w'):Aq W w' mo q S N done hp:=
 ⟨h.mapC.below u,h.heap.below u,h.dis,h.far,h.own,h.bel.trans (u.mono h.bel.size)⟩
theorem Aq.pushed{S:List Nat}{done hp hp2:Nat->Option C}(h:Aq W w mo q S N done hp){u:Value}{e:Ending}(M:pO w S q (bC hp2 N) (pM hp2) u e w'):∃B,Aq W w' mo q B N done hp2/\(∀k∈B,k∈S\/w.heap.size<=k)/\Kept S w w':=by
 obtain⟨_,B,J,F,I⟩:=M;have Q:=h.mapC.lt;refine⟨B,⟨h.mapC.kept I h.dis,J,λP=>?_,λk O=>?_,h.own,Kept.below h.bel I h.bel.size h.far⟩,F,I⟩
 .rcases F _ P with x|x
  .exact h.dis x
  .omega
 .rcases F _ O with x|x
  .exact h.far k x
  .exact Nat.le_trans h.bel.size x
theorem Aq.popped{S:List Nat}{done hp hp2:Nat->Option C}(h:Aq W w mo q S N done hp)(B:bf w' S q (bC hp2 N) (pM hp2))(u:Kept S w w'):Aq W w' mo q S N done hp2:=
 ⟨h.mapC.kept u h.dis,B,h.dis,h.far,h.own,Kept.below h.bel u h.bel.size h.far⟩
theorem Aq.done{S:List Nat}{done hp:Nat->Option C}{B u:Int}(h:Aq W w mo q S N done hp)(P:k<N)(M:done k=none)(F:MapAt iK w' mo (aL (eD (fH done)) (k:Nat) (some (.agg #[.int .i64 B,.int .i64 u]))) (if(eD (fH done) (k:Nat)).isSome then bC done N else bC done N+1))(I:Kept [mo] w w'):Aq W w' mo q S N (upd done k (some ⟨B,u⟩)) hp:=by
 have e:(eD (fH done) (k:Nat)).isSome=false:=by rw[fM];unfold fH;rw[M];rfl
 rw[qD,show(some (Value.agg #[.int .i64 B,.int .i64 u]):Option Value)=some (oo ⟨B,u⟩)from rfl,xR,e]at F;simp only[Bool.false_eq_true,if_false]at F;rw[<-kg P M ⟨B,u⟩]at F;refine⟨F,h.heap.kept I ?_,h.dis,h.far,h.own,Kept.below h.bel I h.bel.size ?_⟩
 .intro j O e
  simp at e;subst e;exact h.dis O
 .intro i J
  simp at J;subst J;exact h.own
def fD(L:List Ed)(n j:Nat)(b:Nat)(e:C):Prop:=∃(i:Nat)(x:Ed),j<=i/\L[i]? =some x/\x.to_=(b:Nat)/\x.c=e/\b≠n
theorem fD.first{e:C}(I:∀y c m,S.eg k y=some (c,m)->y<N)(h:S.Lw n k b e):fD (uX S N k) n 0 b e:=by
 obtain⟨⟨_,B,m,u⟩,M,F⟩:=h;have:(⟨(b:Nat),e,m⟩:Ed)∈uX S N k:=Gb.2 ⟨b,I _ _ _ u,rfl,u,B⟩;obtain⟨i,J⟩:=List.getElem?_of_mem this;exact⟨i,_,Nat.zero_le _,J,rfl,rfl,F⟩
theorem fD.next{L:List Ed}{n j t:Nat}{x:Ed}(M:L[j]? =some x)(P:x.to_=(t:Nat))(b:Nat)(e:C)(h:fD L n j b e):fD L n (j+1) b e\/(b=t/\e=x.c):=by
 obtain⟨i,y,O,u,I,B,J⟩:=h;by_cases F:i=j
 .subst F
  rw[M]at u;injection u with u;subst u
  right;exact⟨by omega,B.symm⟩
 .exact .inl ⟨i,y,by omega,u,I,B,J⟩
theorem fD.skip{n j:Nat}{x:Ed}(M:L[j]? =some x)(P:x.to_=(n:Nat))(b:Nat)(e:C)(h:fD L n j b e):fD L n (j+1) b e:=by
 obtain⟨i,y,O,u,I,J,B⟩:=h;by_cases F:i=j
 .subst F
  rw[M]at u;injection u with u;subst u
  exact absurd (by omega) B
 .exact⟨i,y,by omega,u,I,J,B⟩
theorem fD.over(b:Nat)(e:C):¬fD L n L.length b e:=by
 rintro⟨i,y,B,u,_⟩;have:=(List.getElem?_eq_some_iff.1 u).1;omega
def TI(W:World)(mo q eb:Nat)(S:LS)(fr n k N:Nat)(L:List Ed)(A1:Option Addr)(done:Nat->Option C)(cs cd:Int)(j:Nat)(wr:World):Prop:=
 ∃Sb hp,Aq W wr mo q Sb N done hp/\FM (S.Lw n) fr N done hp k (fD L n j)/\bQ wr A1 L/\(0<L.length->∀ad,A1=some ad->ad.block∉Sb/\ad.block≠mo)/\eb∉Sb/\eb≠mo/\
  wr.cell? ⟨eb,0,none⟩=some (.int .i64 cs)/\wr.cell? ⟨eb,1,none⟩=some (.int .i64 cd)
def Nj(W:World)(mo q eb N:Nat)(L:List Ed)(A1:Option Addr)(done hp:Nat->Option C)(cs cd:Int)(wr:World):Prop:=
 ∃Sb,Aq W wr mo q Sb N done hp/\bQ wr A1 L/\(0<L.length->∀ad,A1=some ad->ad.block∉Sb/\ad.block≠mo)/\eb∉Sb/\eb≠mo/\wr.cell? ⟨eb,0,none⟩=some (.int .i64 cs)/\wr.cell? ⟨eb,1,none⟩=some (.int .i64 cd)
theorem Nj.O7{M:List Nat}{done hp hp2:Nat->Option C}(h:Aq W w mo q M N done hp)(S:bQ w A1 L)(P:0<L.length->∀I,A1=some I->I.block∉M/\I.block≠mo)(Q:eb∉M)(R:eb≠mo)(Z:w.cell? ⟨eb,0,none⟩=some (.int .i64 cs))(c1:w.cell? ⟨eb,1,none⟩=some (.int .i64 cd)){u:Value}{e:Ending}(hD:pO w M q (bC hp2 N) (pM hp2) u e w'):Nj W mo q eb N L A1 done hp2 cs cd w':=by
 obtain⟨T,h1,z,O⟩:=h.pushed hD;have l0:=World.block_lt_of_cell? _ _ Z;simp only at l0;refine⟨T,h1,?_,?_,?_,R,aT O Q Z,aT O Q c1⟩
 .intro F
  obtain⟨g,B,J,hc⟩:=S F;have hg:=(P F _ B).1;exact⟨g,B,Nat.lt_of_lt_of_le J O.size,λj v hv=>aT O hg (hc j v hv)⟩
 .intro F I B
  refine⟨λU=>?_,(P F I B).2⟩;obtain⟨g,k,J,_⟩:=S F;rw[k]at B;injection B with B;subst B
  rcases z _ U with x|x
  .exact(P F _ k).1 x
  .simp only at x;omega
 .intro U
  rcases z _ U with x|x
  .exact Q x
  .omega
theorem Nj.below{done hp:Nat->Option C}(h:Nj W mo q eb N L A1 done hp cs cd w)(u:Below w.heap.size w w'):Nj W mo q eb N L A1 done hp cs cd w':=by
 obtain⟨S,B,F,I,J,M,O,P⟩:=h;exact⟨S,B.below u,F.below u,I,J,M,ae u O,ae u P⟩
theorem Nj.to{fr n k N:Nat}{done hp:Nat->Option C}{j:Nat}(h:Nj W mo q eb N L A1 done hp cs cd w)(Q:FM (S.Lw n) fr N done hp k (fD L n j)):TI W mo q eb S fr n k N L A1 done cs cd j w:=by
 obtain⟨u,B,F,I,J,M,O,P⟩:=h;exact⟨u,hp,B,Q,F,I,J,M,O,P⟩
def Ug(w:World)(S:LS)(fr n N:Nat)(e:Ending)(w':World):Prop:=∃mo done,e=.returned (.map (some mo))/\MapAt iK w' mo (eD (fH done)) (bC done N)/\(∀t c,done t=some c->bP (S.Lw n) fr t c)/\(∀t,done t=none->∀c,¬Walk (S.Lw n) fr t c)/\
 (∀t c,done t=some c->0<=c.s/\c.s<=512000/\0<=c.d/\c.d<=512000)/\w.heap.size<=mo/\Below w.heap.size w w'
def TJ(W:World)(mo q:Nat)(S:LS)(fr n N gk:Nat)(wr:World):Prop:=∃Sb done hp k0,Aq W wr mo q Sb N done hp/\FM (S.Lw n) fr N done hp k0 (λ_ _=>False)/\N-bC done N<=gk
theorem Tg{n fr:Nat}(I:Nw g S)(u:g.ak fr)(B:S.lev fr=0)(F:fr≠n)(h:Walk (S.Lw n) fr k c):g.ak k/\S.lev k=0/\k≠n:=by
 cases h with
 |nil=>exact⟨u,B,F⟩
 |snoc _ he=>
  obtain⟨⟨_,J,m,M⟩,_,O⟩:=he;exact⟨(I _ _ (by rw[M];simp)).2.1,J,O⟩
def Sr(S:LS):Prop:=∀a b c m,S.eg a b=some (c,m)->0<=c.s/\c.s<=2000/\0<=c.d/\c.d<=2000
theorem vY(h:Sr S)(n:Nat):∀a b c,S.Lw n a b c->C.Nn c:=λa b c⟨⟨_,_,m,q⟩,_⟩=>by
 have:=h a b c m q;exact⟨this.1,this.2.2.1⟩
theorem OP(w:World)(b ml me nl:Nat)(Sb:List Nat)(top:Int)(g:G)(S:LS)(ct:g.ok)(hc:Nw g S)(hs:Sr S)(fr n:Nat)(ce:g.ak fr)(hl:S.lev fr=0)(cr:fr≠n)(h:cz w b ml me Sb top (bH g S) nl (gK g S)):Calls Tryz.prog 219 #[.pointer (some ⟨b,0,none⟩),.int .i64 (fr:Nat),.int .i64 (n:Nat)] w (Ug w S fr n g.n):=by
 have hn:=G.bR ct;have cN:=@run_makeMap Tryz.prog;have H:=hid h;have Hc:=hid hc;have Hs:=hid hs;have ao:=hid (And.intro ce (And.intro hl cr));have Hn:=hid hn;clear h hc hs ce hl cr ct hn;go_enter Tryz.func219,Tryz.ntmps219;go_upto_region 2 with(fail);refine au ?_;intro W1 aE;have bq:Below w.heap.size w W1:=by rw[aE];(repeat' (first|exact Below.refl _ _|assumption|apply aj|apply ah|apply af|(refine aa ?_ (by assumption))))
 have ba:MapAt iK W1 w.heap.size (λ_=>none) 0:=by rw[aE];exact MapAt.made w
 have cQ:W1.heap.size=w.heap.size+1:=by rw[aE];simp
 obtain⟨mo,cO⟩:∃mo,w.heap.size=mo:=⟨_,rfl⟩;rw[cO]at ba⊢;clear aE cN;go_wp2_with fail;(with_reducible refine(FU W1).mono ?_);rintro e w4 ⟨q,S0,rfl,hH,bd,be⟩;rw[BC,show(0:Nat)=bC (λ_=>none) g.n from(mZ _).symm]at hH
 have b1:Aq w w4 mo q S0 g.n (λ_=>none) (λ_=>none):=by
  refine⟨?_,hH,λhm=>?_,λk hk=>?_,by omega,aa bq be⟩
  .rw[nA (f:=fH λ_=>none) (λ_=>rfl),mZ]
   exact ba.below be
  .have:=bd _ hm;omega
  .have:=bd _ hk;omega
 have ab:=hid b1;have cP:=hid (λw' h'=>rP w' S0 q g.n (λ_=>none) fr 0 0 true h' ao.out.1.1 (by have:=Hn.out;omega) ⟨by unfold aV;simp only;omega,by unfold aV;simp only;omega⟩ rfl);clear hH bd be b1 ba bq cQ;go_wp2_with fail;(with_reducible refine(cP.out _ ab.out.heap).mono ?_);rintro e w5 hD;have hD:=hid hD;obtain⟨rfl,_⟩:=hD.out;obtain⟨S5,b2,_⟩:=ab.out.pushed hD.out;have b0:FM (S.Lw n) fr g.n (λ_=>none) (FR.upd (λ_=>none) fr (some C.zero)) fr (λ_ _=>False):=FM.start ao.out.1.1 fr;obtain⟨N0,cJ⟩:∃N0,N0=g.n:=⟨_,rfl⟩;have hstart:TJ w mo q S fr n g.n N0 w5:=⟨S5,_,_,fr,b2,b0,by omega⟩;clear hD ab b2 b0 cP cJ;go_wp2_with fail;go_loopg [] N0 (λgk wr=>TJ w mo q S fr n g.n gk wr)
 case atStart=>exact hstart
 case round=>
  obtain⟨Sh,done,hp,k0,hS,hF,cV⟩:=hrel;clear hstart;have HS:=hid hS;have T:=hid hF;by_cases h0:bC hp g.n=0
  .have hH:=hS.heap
   rw[h0]at hH;go_wp2_with fail;(with_reducible refine(qw _ Sh q (pM hp) hH).mono ?_);rintro e w6 ⟨rfl,b7⟩;have ap:=HS.out.below b7;have Z:=ap.below (w':=w6.alloc (.cells #[.int .i64 0,.int .i64 0] 44)) (af (Below.refl _ _));have ai:=λt=>T.out.dij.fin (vY Hs.out n) (xN h0 T.out.rngH) t
   have cd:Ug w S fr n g.n (.returned (.map (some mo))) (w6.alloc (.cells #[.int .i64 0,.int .i64 0] 44)):=
    ⟨mo,done,rfl,Z.mapC,λt=>(ai t).1,λt=>(ai t).2,λt c hc=>T.out.small (vY Hs.out n) Hn.out (.inl hc),Z.own,Z.bel⟩
   clear hS hF hH HS T b7 ap Z ai;go_wp2;go_ret;exact cd
  .go_wp2_with fail
   (with_reducible refine(K8 _ Sh q g.n hp hS.heap hF.rngH (by have:=Hn.out;omega) h0).mono ?_);rintro e w6 ⟨k,J,I,ar,cj,rfl,ck,cl⟩;have cn:k<g.n:=T.out.rngH k (by rw[ar];simp);have ca:done k=none:=(T.out.dij.i2 _ _ ar).1;have cm:=Tg Hc.out ao.out.1 ao.out.2.1 ao.out.2.2 (T.out.dij.i2 _ _ ar).2;have ap:=hS.popped ck cl;have ay:=hid (T.out.pop (vY Hs.out n) ar cj);have aw:=hid ap;have a9:=hid cm;clear ar cj ck cl hS hF HS T ap h0 cm;go_upto_region 7 with(fail);refine au ?_;intro W6 aS;have br:Below w6.heap.size w6 W6:=by rw[aS];(repeat' (first|exact Below.refl _ _|assumption|apply aj|apply ah|apply af|(refine aa ?_ (by assumption))))
   have d0:W6.cell? ⟨w6.heap.size,0,none⟩=some (.int .i64 J):=by rw[aS];go_simp
   have d1:W6.cell? ⟨w6.heap.size,1,none⟩=some (.int .i64 I):=by rw[aS];go_simp
   have Z:=aw.out.below br;have l6:w6.heap.size≠mo:=by have:=aw.out.mapC.lt;omega
   have bo:w6.heap.size∉Sh:=λhm=>by have:=aw.out.heap.lt _ hm;omega
   obtain⟨eb,cb⟩:∃eb,w6.heap.size=eb:=⟨_,rfl⟩;rw[cb]at d0 d1 l6 bo⊢;clear aS aw br cb;go_wp2_with (refine dJ rfl _ _ _ rfl (aG Tryz.underlying3) Tryz.underlying246 Z.mapC rfl (k:Nat) rfl (.agg #[.int .i64 J,.int .i64 I]) rfl ?_;intro w8 cq a6);have bc:=Z.done cn ca cq a6
   have d0:=aT a6 (by simpa using l6) d0;have d1:=aT a6 (by simpa using l6) d1;have b9:=kg cn ca ⟨J,I⟩;have b8:=jB (FR.upd done k (some ⟨J,I⟩)) g.n;have an:=hid bc;have cE:=hid (F5 w8 b ml me nl Sb top (bH g S) (vv g S) (gK g S) (k:Nat) (gz S g.n k) (H.out.below bc.bel) (Qm g S) (ja a9.out.1) (by have:=fq S g.n k;have:=Hn.out;omega));rw[Bn Hc.out]at cE;clear Z cq a6 bc;go_wp2_with fail;(with_reducible refine cE.out.mono ?_);rintro e w9 ⟨vE,rfl,bb,a0⟩;obtain⟨A1,m1,rfl,ax⟩:=bb.Ag
   have hA1:0<(uX S g.n k).length->∀ad,A1=some ad->ad.block∉Sh/\ad.block≠mo:=λcv ad e=>by
    obtain⟨g',e1,_,_⟩:=ax cv;rw[e1]at e;injection e with e;subst e
    have:=(World.ownsRow.lt bb g' (by rw[e1];rfl)).1;exact⟨λhm=>by have:=an.out.heap.lt _ hm;simp only at this;omega,by have:=an.out.mapC.lt;simp only;omega⟩
   have al:∀b e,S.Lw n k b e->fD (uX S g.n k) n 0 b e:=λb e h=>fD.first (λy c m hy=>(Hc.out _ _ (by rw[hy];simp)).2.1.1) h;obtain⟨L,hL⟩:∃L,uX S g.n k=L:=⟨_,rfl⟩;rw[hL]at ax hA1 al⊢;obtain⟨nl,a7⟩:∃nl,L.length=nl:=⟨_,rfl⟩;have cC:nl<=256:=by have:=zG S g.n k;rw[hL,a7]at this;exact Nat.le_trans this Hn.out
   obtain⟨B,P⟩:∃d,FR.upd done k (some ⟨J,I⟩)=d:=⟨_,rfl⟩;have bh:B k=some ⟨J,I⟩:=by rw[<-P];exact upd_same _ _ _
   rw[P]at an ay b9 b8;have ci:TI w mo q eb S fr n k g.n L A1 B J I 0 w9:=⟨Sh,_,an.out.below a0,ay.out.weaken al,ax,hA1,bo,l6,ae a0 d0,ae a0 d1⟩;have cL:=ay.out.small (vY Hs.out n) Hn.out (.inl bh);obtain⟨cF,cG,cH,cI⟩:=cL;simp only at cF cG cH cI;rw[a7];have HL:=hid hL;have bv:=hid a7;have bt:=hid bh;clear bb ax hA1 al hL a7 P bh an ay d0 d1 cE a0 l6 bo;obtain⟨wz,rfl⟩:∃wz:World,wz=w9:=⟨_,rfl⟩;go_wp2_with fail;go_loopw [38] (λkv wr=>∃j:Nat,j<=nl/\kv=.int .i64 j/\TI w mo q eb S fr n k g.n L A1 B J I j wr) (λkv _=>nl-(intOf kv).toNat)
   case atStart=>exact⟨0,by omega,rfl,ci⟩
   case round=>
    obtain⟨j,hj,rfl,Sj,hp2,hS,hF,hI,hN,aq,bi,e0,e1⟩:=hrel;clear ci;have HS:=hid hS;have T:=hid hF;have HN:=hid hN;by_cases co:j<nl
    .have HI:=hid hI
     obtain⟨x,hx⟩:∃x,L[j]? =some x:=⟨L[j]'(by rw[bv.out];exact co),List.getElem?_eq_getElem _⟩;obtain⟨t,cw,cx,bk,cy,cR,cS⟩:=zh (S:=S) (N:=g.n) (n:=k) (by rw[HL.out];exact hx);obtain⟨gb,hA,a1,a2,a3,a4⟩:=hI.get hx;have cM:=λwx=>jy (m:=m1) hA co wx;have bj:=Hs.out _ _ _ _ bk;obtain⟨xt,⟨xs,xd⟩,xm⟩:=x;simp only at a1 a2 a3 a4 cx bj;subst cx;have Hx:=hid (And.intro hx (And.intro bk cy));clear hA hx bk cy cR cS hS hF hN hI;go_upto_region 11 with(fail);refine au ?_;intro W hW;have HW:Below wr.heap.size wr W:=by rw[hW];(repeat' (first|exact Below.refl _ _|assumption|apply aj|apply ah|apply af|(refine aa ?_ (by assumption))))
     have o0:W.cell? ⟨wr.heap.size,0,none⟩=some (.int .i64 (t:Nat)):=by rw[hW];go_simp
     have o1:W.cell? ⟨wr.heap.size,1,none⟩=some (.int .i64 xs):=by rw[hW];go_simp
     have o2:W.cell? ⟨wr.heap.size,2,none⟩=some (.int .i64 xd):=by rw[hW];go_simp
     have a5:wr.heap.size∉Sj:=λhm=>by have:=HS.out.heap.lt _ hm;omega
     obtain⟨F,a8⟩:∃z,wr.heap.size=z:=⟨_,rfl⟩;have e0:=ae HW e0;have e1:=ae HW e1;have cU:eb<W.heap.size:=World.block_lt_of_cell? _ _ e0;have Q:=hid (HS.out.below HW);have am:=hid (HI.out.below HW);rw[a8]at o0 o1 o2 a5⊢;have cT:F<W.heap.size:=World.block_lt_of_cell? _ _ o0;clear hW a8 HS HI HW a1 a2 a3 a4 cM;cases ag:B t with
     |some y=>
      obtain⟨ys,yd⟩:=y;have hl:=jD Q.out.mapC (z:=(t:Nat)) (v:=.agg #[.int .i64 ys,.int .i64 yd]) (by rw[fM];unfold fH;rw[ag];rfl);have hP:Nj w mo q eb g.n L A1 B hp2 J I W:=⟨Sj,Q.out,am.out,HN.out,aq,bi,e0,e1⟩;have hP:=hid hP;have U:=hid (T.out.skip (pend':=fD L n (j+1)) (b:=t) (by rw[ag];simp) (λb' e' h=>(fD.next Hx.out.1 rfl b' e' h).imp_right And.left));clear ag Q am e0 e1;go_wp2;go_roundw
      case rel=>exact⟨j+1,by omega,by go_num,(hP.out.below (by(repeat' (first|exact Below.refl _ _|assumption|apply aj|apply ah|apply af|(refine aa ?_ (by assumption)))))).to U.out⟩
      case measure=>simp[intOf];omega
     |none=>
      have hl:=iO Q.out.mapC (z:=(t:Nat)) (by rw[fM];unfold fH;rw[ag];rfl);by_cases cB:t=n
      .subst cB
       have hP:Nj w mo q eb g.n L A1 B hp2 J I W:=⟨Sj,Q.out,am.out,HN.out,aq,bi,e0,e1⟩;have hP:=hid hP;have U:=hid (T.out.weaken (pend':=fD L t (j+1)) (λb' e' h=>fD.skip Hx.out.1 rfl b' e' h));clear ag Q am e0 e1;go_wp2;go_roundw
       case rel=>exact⟨j+1,by omega,by go_num,(hP.out.below (by(repeat' (first|exact Below.refl _ _|assumption|apply aj|apply ah|apply af|(refine aa ?_ (by assumption)))))).to U.out⟩
       case measure=>simp[intOf];omega
      .have cs:(((t:Nat):Int)!= ((n:Nat):Int))=true:=bne_iff_ne.2 (by omega)
       go_upto_region 13 with(fail);refine au ?_;intro W4 b4;have R:Below W.heap.size W W4:=by rw[b4];(repeat' (first|exact Below.refl _ _|assumption|apply aj|apply ah|apply af|(refine aa ?_ (by assumption))))
       have e0:=ae R e0;have e1:=ae R e1;have o0:=ae R o0;have o1:=ae R o1;have o2:=ae R o2;have ab:=hid (Q.out.below R);have bp:=hid (am.out.below R);clear b4 Q am hl R cU cT cs;have cA:=hid (λw=>ng J I xs xd w (by unfold aV;omega) (by unfold aV;omega) (by unfold aV;omega) (by unfold aV;omega));obtain⟨tb,bm⟩:∃b,lower? hp2 t ⟨J+xs,I+xd⟩=b:=⟨_,rfl⟩;have cP:=hid (λw' h'=>rP w' Sj q g.n hp2 t (J+xs) (I+xd) tb h' cw (by have:=Hn.out;omega) ⟨by unfold aV;simp only;omega,by unfold aV;simp only;omega⟩ bm);have bx:=hid bm;have cD:=hid ag;have bw:=hid bj;clear bm ag bj
       go_region_held3 (λw'=>w'.cell? ⟨eb,0,none⟩=some (.int .i64 J)/\w'.cell? ⟨eb,1,none⟩=some (.int .i64 I)/\w'.cell? ⟨F,0,none⟩=some (.int .i64 (t:Nat))/\w'.cell? ⟨F,1,none⟩=some (.int .i64 xs)/\w'.cell? ⟨F,2,none⟩=some (.int .i64 xd))
        (first
         |exact⟨e0,e1,o0,o1,o2⟩
         |exact M
         |exact b3)
        ((first
         |(go_at_call 94
           refine(cA.out _).mono ?_;rintro e wA ⟨rfl,O⟩;have M:wA.cell? ⟨eb,0,none⟩=some (.int .i64 J)/\wA.cell? ⟨eb,1,none⟩=some (.int .i64 I)/\wA.cell? ⟨F,0,none⟩=some (.int .i64 (t:Nat))/\wA.cell? ⟨F,1,none⟩=some (.int .i64 xs)/\wA.cell? ⟨F,2,none⟩=some (.int .i64 xd):=⟨ae (w:=W4.drew) O e0,ae (w:=W4.drew) O e1,ae (w:=W4.drew) O o0,ae (w:=W4.drew) O o1,ae (w:=W4.drew) O o2⟩)
         |(go_at_call 197
           refine(cP.out _ ((ab.out.below (ah (Below.refl _ _))).below O).heap).mono ?_;rintro e wh ⟨rfl,S1,cg,ch,ac⟩;have b3:wh.cell? ⟨eb,0,none⟩=some (.int .i64 J)/\wh.cell? ⟨eb,1,none⟩=some (.int .i64 I)/\wh.cell? ⟨F,0,none⟩=some (.int .i64 (t:Nat))/\wh.cell? ⟨F,1,none⟩=some (.int .i64 xs)/\wh.cell? ⟨F,2,none⟩=some (.int .i64 xd):=⟨aT ac aq M.1,aT ac aq M.2.1,aT ac a5 M.2.2.1,aT ac a5 M.2.2.2.1,aT ac a5 M.2.2.2.2⟩)))
       all_goals
        have bg:=ah (Below.refl W4.heap.size W4);have b5:=hid (Nj.O7 ((ab.out.below bg).below O) ((bp.out.below bg).below O) HN.out aq bi M.1 M.2.1 (u:=.bool tb) (e:=.returned (.bool tb)) (⟨rfl,S1,cg,ch,ac⟩:pO wA Sj q _ _ _ _ wh));have b6:C.add ⟨J,I⟩ ⟨xs,xd⟩=⟨J+xs,I+xd⟩:=rfl;have cp:S.Lw n k t ⟨xs,xd⟩:=⟨⟨a9.out.2.1,Hx.out.2.2,xm,Hx.out.2.1⟩,a9.out.2.2,cB⟩
        have U:FM (S.Lw n) fr g.n B (pushed hp2 t ⟨J+xs,I+xd⟩ tb) k (fD L n (j+1)):=by
         cases tb with
         |false=>
          obtain⟨d',q1,q2⟩:=vB bx.out;exact T.out.keep (b:=t) (e:=⟨xs,xd⟩) bt.out q1 q2 (fD.next Hx.out.1 rfl)
         |true=>
          exact T.out.push (vY Hs.out n) (b:=t) (e:=⟨xs,xd⟩) bt.out cp ⟨bw.out.2.1,bw.out.2.2.2⟩ cw cD.out (nz bx.out) (fD.next Hx.out.1 rfl)
        have U:=hid U;clear cA cP ab bp e0 e1 o0 o1 o2 b6 cp cg ch ac bg O M b3;go_wp2;go_roundw
        case rel=>first|exact⟨j+1,by omega,by go_num,b5.out.to U.out⟩|((repeat apply Exists.intro);exact⟨⟨j+1,by omega,by go_num,b5.out.to U.out⟩,rfl⟩)
        case measure=>simp[intOf];omega
    .obtain rfl:j=nl:=by omega
     have hF:TJ w mo q S fr n g.n (g.n-bC B g.n) wr:=⟨Sj,_,hp2,k,hS,hF.weaken (λb e h=>by have:=fD.over b e (by rw[bv.out];exact h);exact this),Nat.le_refl _⟩;have hF:=hid hF;clear HS T HN hS hI hN e0 e1;go_wp2;go_roundg (g.n-bC B g.n)
     case measure=>omega
     case rel=>exact hF.out
def Sw(g:G)(es:List Ed)(k:Nat):Nat->C->Prop:=λs c=>g.ak s/\∃(i:Nat)(e:Ed),i<k/\es[i]? =some e/\e.to_=(s:Nat)/\e.c=c
abbrev jZ(g:G)(es:List Ed):Nat->C->Prop:=Sw g es es.length
def uD(es:List Ed):Prop:=∀e∈es,0<=e.c.s/\e.c.s<=1048576/\0<=e.c.d/\e.c.d<=1048576
theorem PH{out:List Ed}(h:uD out){k s:Nat}(B:Sw g out k s c):C.Nn c:=by
 obtain⟨_,i,e,_,u,_,rfl⟩:=B;have:=h e (List.mem_of_getElem? u);exact⟨this.1,this.2.2.1⟩
theorem Lt(h:0<=c.s/\c.s<=1048576/\0<=c.d/\c.d<=1048576):C.le c ⟨0,((2100000:Nat):Int)⟩:=by
 obtain⟨s,d⟩:=c;simp only at h;refine C.le_trans (C.Ql h.1) (C.aK (Int.le_refl _) ?_);simp only;omega
def GN(g:G)(out inn:List Ed)(c:C):Prop:=∃(t:Nat)(c1:C)(e:Ed),FR.Reach g.GE (jZ g out) t c1/\e∈inn/\e.to_=t/\c=C.add c1 e.c
def oG(g:G)(out inn:List Ed)(b:C)(fd:Bool):Prop:=(fd=false->b=C.zero/\∀c,¬GN g out inn c)/\(fd=true->GN g out inn b/\∀c,GN g out inn c->C.le b c)
theorem le_step(h:0<=c.s/\c.s<=2000/\0<=c.d/\c.d<=2000):C.le c ⟨0,((4000:Nat):Int)⟩:=by
 obtain⟨s,d⟩:=c;simp only at h;refine C.le_trans (C.Ql h.1) (C.aK (Int.le_refl _) ?_);simp only;omega
end Go.Proofs.YtokhnobcincfjaaGreatDoor
namespace Go.Proofs.YtokhnobcincfjaaGreatDoor
open Go.Lib (hid)
open FR
namespace G2
open Go.Lib (hid)
variable {g:G}
theorem qj:∀(n:Nat){a b:Nat}{c:C},(c.s+c.d).toNat<=n->g.ak b->bP g.E a b c->∃s u,g.ak s/\g.aF a s/\Walk g.GE s b u/\C.add (g.bV a s) u=c:=by
 intro n
 induction n using Nat.strongRecOn with
 |_ n ih=>
  intro a b c hn S h
  have split:∀{q:Nat}{J u:C},g.ak q->bP g.E a q J->bP g.E q b u->C.add J u=c->u≠C.zero->∃s u,g.ak s/\g.aF a s/\Walk g.GE s b u/\C.add (g.bV a s) u=c:=by
   intro q J u M B z e R;have l1:=G.sum_lt (G.Nt B.1) (G.Nt z.1) e R;obtain⟨s,c3,q1,q2,q3,q4⟩:=ih _ (Nat.lt_of_lt_of_le l1 hn) (Nat.le_refl _) M B;refine⟨s,C.add c3 u,q1,q2,q3.trans (G.uP _ (Nat.le_refl _) M S z),?_⟩;rw[<-C.add_assoc,q4,e]
  by_cases L:c=g.bV a b
  .by_cases T:g.aF a b
   .exact⟨b,C.zero,S,T,.nil _,by rw[C.add_zero,L]⟩
   .have F:g.dz a b:=by unfold G.dz;rw[<-L];exact h.1
    have:∃k,g.ak k/\k≠a/\k≠b/\g.Mid a b k:=by
     apply Classical.byContradiction;intro P;exact T ⟨F,λk B z I U=>P ⟨k,B,z,I,U⟩⟩
    obtain⟨k,Z,ab,O,p,q,B,z,I⟩:=this;rw[<-L]at I;refine split Z ⟨B,λd Q=>?_⟩ ⟨z,λd Q=>?_⟩ I (λe=>O (nV z e).symm)
    .have:=h.2 _ (Q.trans z);rw[<-I]at this;exact(C.add_le_right _).1 this
    .have:=h.2 _ (B.trans Q);rw[<-I]at this;exact(C.add_le_left _).1 this
  .obtain⟨q,J,u,M,B,z,e,z1,R⟩:=G.mg h L
   exact split M B z e R
theorem KH{a b:Nat}{c:C}(h:bP g.E a b c):bP g.E b a c:=
 ⟨Walk.rev (E:=g.E) (λ_ _ _ k=>G.kN k) h.1,λd u=>h.2 _ (Walk.rev (E:=g.E) (λ_ _ _ k=>G.kN k) u)⟩
theorem uH{a b:Nat}{c:C}(h:bP g.E a b c)(Z:¬g.dz a b):∃s t k,g.ak s/\g.ak t/\g.aF a s/\g.aF b t/\Walk g.GE s t k/\C.add (C.add (g.bV a s) k) (g.bV b t)=c:=by
 have T:c≠g.bV a b:=λe=>Z (by unfold G.dz;rw[<-e];exact h.1);obtain⟨q,c1,k,z,R,S,e,_,_⟩:=G.mg h T;obtain⟨s,Q,B,F,I,J⟩:=qj _ (Nat.le_refl _) z R;obtain⟨t,u,L,M,O,P⟩:=qj _ (Nat.le_refl _) z (KH S);refine⟨s,t,C.add Q u,B,L,F,M,I.trans (Walk.rev (E:=g.GE) (λ_ _ _ U=>G.yR U) O),?_⟩;rw[<-C.add_assoc,J,C.add_assoc,C.add_comm u,P,e]
end G2
variable {c:C}{g:G}{x y:Nat}
noncomputable abbrev tO(g:G)(x:Nat):List Ed:=FD g x true (aA g).length
theorem y9{x s:Nat}:jZ g (tO g x) s c↔g.ak s/\g.aF x s/\c=g.bV x s:=by
 constructor
 .rintro⟨k,i,e,_,B,F,I⟩
  obtain⟨y,L,_,J,rfl⟩:=lu.1 (List.mem_of_getElem? B);obtain rfl:y=s:=Int.ofNat_inj.1 F;exact⟨k,J,I.symm⟩
 .rintro⟨k,z,rfl⟩
  obtain⟨i,u⟩:=List.getElem?_of_mem (lu.2 ⟨s,k,.inl rfl,z,rfl⟩:(⟨(s:Nat),g.bV x s,-1⟩:Ed)∈tO g x);exact⟨k,i,_,(List.getElem?_eq_some_iff.1 u).1,u,rfl,rfl⟩
theorem KN(k:g.ok)(z:x<g.n):uD (tO g x):=λe u=>by
 obtain⟨y,B,_,_,rfl⟩:=lu.1 u;have:=G.yj k B.1 z;simp only;omega
theorem ze:GN g (tO g x) (tO g y) c↔∃s t k,g.ak s/\g.ak t/\g.aF x s/\g.aF y t/\Walk g.GE s t k/\C.add (C.add (g.bV x s) k) (g.bV y t)=c:=by
 constructor
 .rintro⟨t,R,e,⟨s,Q,d,u,B,rfl⟩,F,I,rfl⟩
  obtain⟨L,M,rfl⟩:=y9.1 u;obtain⟨z,O,_,P,rfl⟩:=lu.1 F;obtain rfl:z=t:=Int.ofNat_inj.1 I;exact⟨s,z,d,L,O,M,P,B,rfl⟩
 .rintro⟨s,t,k,u,B,J,F,I,rfl⟩
  exact⟨t,_,⟨(t:Nat),g.bV y t,-1⟩,⟨s,_,k,y9.2 ⟨u,J,rfl⟩,I,rfl⟩,lu.2 ⟨t,B,.inl rfl,F,rfl⟩,rfl,rfl⟩
theorem M4(h:GN g (tO g x) (tO g y) c):Walk g.E x y c:=by
 obtain⟨s,t,J,L,M,k,u,z,rfl⟩:=ze.1 h;have F:Walk g.E x s (g.bV x s):=k.1;have I:Walk g.E y t (g.bV y t):=u.1;exact(F.trans (G.yS z)).trans (Walk.rev (E:=g.E) (λ_ _ _ B=>G.kN B) I)
theorem Oh:∀e∈tO g y,∀t:Nat,e.to_=t->C.le (g.bV t y) e.c:=λe k t u=>by
 obtain⟨z,_,_,_,rfl⟩:=lu.1 k;obtain rfl:z=t:=Int.ofNat_inj.1 u;rw[G.dW];exact C.le_refl _
end Go.Proofs.YtokhnobcincfjaaGreatDoor
