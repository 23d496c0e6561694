/- Lemmas of this claim: Bld, TxPrint. -/
import Derived.Test.YtnifggkjieemeaaGreatDoorTxLine
set_option linter.unusedVariables false
set_option linter.unusedSimpArgs false
set_option maxHeartbeats 2000000
set_option maxRecDepth 100000
open Go.Proofs.Tryz
namespace Go.Proofs.YtnifggkjieemeaaGreatDoor
open Go.Lib (hid)
open Go.RowKit Go.Sort
theorem Om:(prog.info? 188).map (·.size)=some 2:=kr
theorem Oj:liesAt prog prog.depth 188 (2/prog.cellsOf 188) 0 188 1=true:=kr
theorem Al:(prog.info? 5).map (λi=>(i.zero,i.size,i.bytes))=some (some (.int .u8 0),1,1):=kr
theorem DU(B b:Nat)(bs:List Value)(w:World)(h:Lib.IsBuilder 188 5 B b bs w):Calls prog 154 #[vP b] w λe u=>e=.returned (.tuple #[])/\Lib.BuilderAt 188 5 B b (vP b) bs u/\Below B w u:=by
 obtain⟨j,k,m⟩:=Option.map_eq_some_iff.1 Om;rcases h with h|h
 .have z:=h.cell0
  have g:=h.shape;have I:=h.frozen0;have J:=h.used (vP b);have F:=h.1;clear h;go_enter func154,ntmps154;go_wp2_with fail;rw[Lib.run_to_unsafe w ⟨b,0,none⟩ underlying185 underlying284 k (by rw[m];decide) g (Nat.zero_lt_succ 1)];simp only[Result.andThen];rw[Oper.upon_value];go_wp2_with fail;rw[run_callFunc_extern func196 kr kr kr (e:=Extern.AbiNoEscape.same) kr];rw[Lib.run_noEscape];simp only[Result.andThen];rw[Oper.upon_value];go_wp2_with fail;rw[Lib.run_from_unsafe w ⟨b,0,none⟩ underlying284 underlying185 k g Oj];simp only[Result.andThen];rw[Oper.upon_value];go_wp2_with fail;go_end0;exact⟨rfl,J,(Below.refl B w).setCell (p:=⟨b,0,none⟩) F _⟩
 .have z:=h.cell0
  go_enter func154,ntmps154;go_wp2_with fail;rw[Lib.run_neq_ptr_same w _ underlying185 k];go_wp2_with fail;go_end0;exact⟨rfl,h,Below.refl B _⟩
theorem Ol:188≠5:=rD
theorem Ci(B b:Nat)(bs:List Value)(c:Int)(w:World)(h:Lib.IsBuilder 188 5 B b bs w)(ac:bs.length+1<=140737488355328)(ag:B<=w.heap.size):Calls prog 104 #[vP b,.int .u8 c] w λe w'=>e=.returned .nilIface/\Lib.BuilderAt 188 5 B b (vP b) (bs++[.int .u8 c]) w'/\Below B w w':=by
 obtain⟨i0,hi,Z,aa,ab⟩:=info_parts Al;go_enter func104,ntmps104;go_wp2_with fail;refine(DU B b bs _ h).mono ?_;rintro e O ⟨rfl,h1,I⟩;obtain⟨hB,v,L,M,U⟩:=h1
 have c0:O.cell? ⟨b,0,none⟩=some (vP b):=by rw[Lib.cell_of_heap L];rfl
 have c1:O.cell? ⟨b,1,none⟩=some v:=by rw[Lib.cell_of_heap L];rfl
 go_wp2_with (at_builtin;refine wpList_append_own _ rfl _ _ 186 rfl B 5 i0 (.int .u8 0) 1 1 underlying186 hi Z aa ab rfl rD _ _ _ rfl (M.alloc _) ⟨O.heap.size,0,none⟩ 1 1 [.int .u8 c] rfl rfl ?c1 ?c2 ?c3 ?c4 ?c5 ?_)
 case c1=>
  intro j u P
  match j,P with
  |0,P=>simp at P;subst P;simp[Addr.add]
 case c2=>intro u hu;simp at hu;subst hu;rfl
 case c3=>unfold maxLen;omega
 case c4=>omega
 case c5=>have:=I.size;simp;omega
 intro v' Q z m _
 have S:b<O.heap.size:=by
  rcases Nat.lt_or_ge b O.heap.size with R|R
  .exact R
  .simp[Array.getElem?_eq_none R]at L
 have J:Q.heap[b]? =some (.cells #[vP b,v] 188 (0,0)):=by
  rw[m.block b so (λe=>U e.symm),Lib.alloc_old O _ b S];exact L
 have d0:Q.cell? ⟨b,0,none⟩=some (vP b):=by rw[Lib.cell_of_heap J];rfl
 have d1:Q.cell? ⟨b,1,none⟩=some v:=by rw[Lib.cell_of_heap J];rfl
 have f1:Q.frozen? ⟨b,1,none⟩=false:=Lib.frozen_of_heap J 1
 obtain⟨g,F,rfl⟩:∃g F,v'=.slice (some ⟨g,0,none⟩) (bs.length+1) F:=by
  rcases z.2 with⟨_,h0⟩|⟨g,F,ad,hv,_⟩
  .omega
  .exact⟨g,F,hv⟩
 go_wp2_with fail;go_ret;refine⟨rfl,?_,?_⟩
 .exact Lib.BuilderAt.put (T:=188) (e:=5) hB J (bs':=bs++[.int .u8 c]) (by simpa using z) Ol
 .exact((I.alloc (by have:=I.size;omega) _).grown m (by have:=I.size;simp;omega) (λk hk=>(M.lt k hk).1)).setCell (p:=⟨b,1,none⟩) hB _
theorem K5(B b:Nat)(bs:List Value)(s:ByteArray)(w:World)(h:Lib.IsBuilder 188 5 B b bs w)(aa:bs.length+s.size<=140737488355328)(ag:0<s.size)(ac:B<=w.heap.size):Calls prog 102 #[vP b,.string s] w λe w'=>e=.returned (.tuple #[rI s.size,.nilIface])/\Lib.BuilderAt 188 5 B b (vP b) (bs++Lib.strCells s) w'/\Below B w w':=by
 obtain⟨i0,hi,R,S,U⟩:=info_parts Al;go_enter func102,ntmps102;go_wp2_with fail;refine(DU B b bs _ h).mono ?_;rintro e M ⟨rfl,h1,L⟩;obtain⟨Z,v,I,J,Q⟩:=h1
 have c0:M.cell? ⟨b,0,none⟩=some (vP b):=by rw[Lib.cell_of_heap I];rfl
 have c1:M.cell? ⟨b,1,none⟩=some v:=by rw[Lib.cell_of_heap I];rfl
 go_wp2_with (at_builtin;refine Lib.wpList_append_own_string _ rfl _ _ 186 9 rfl B 5 i0 underlying186 underlying9 hi R S U _ _ _ rfl J s rfl ?c3 ?c4 ?c5 ?_)
 case c3=>unfold maxLen;omega
 case c4=>omega
 case c5=>have:=L.size;omega
 intro v' O u m _
 have ad:b<M.heap.size:=by
  rcases Nat.lt_or_ge b M.heap.size with P|P
  .exact P
  .simp[Array.getElem?_eq_none P]at I
 have F:O.heap[b]? =some (.cells #[vP b,v] 188 (0,0)):=by
  rw[m.block b om (λe=>Q e.symm)];exact I
 have d0:O.cell? ⟨b,0,none⟩=some (vP b):=by rw[Lib.cell_of_heap F];rfl
 have d1:O.cell? ⟨b,1,none⟩=some v:=by rw[Lib.cell_of_heap F];rfl
 have f1:O.frozen? ⟨b,1,none⟩=false:=Lib.frozen_of_heap F 1
 obtain⟨g,z,rfl⟩:∃g z,v'=.slice (some ⟨g,0,none⟩) (bs.length+s.size) z:=by
  rcases u.2 with⟨_,h0⟩|⟨g,z,ab,hv,_⟩
  .omega
  .exact⟨g,z,hv⟩
 go_wp2_with fail;go_ret2;refine⟨rfl,?_,?_⟩
 .exact Lib.BuilderAt.put (T:=188) (e:=5) Z F (bs':=bs++Lib.strCells s) (by simpa[Lib.strCells_length]using u) Ol
 .exact(L.grown m (by have:=L.size;omega) (λk hk=>(J.lt k hk).1)).setCell (p:=⟨b,1,none⟩) Z _
open FR
def hdr(g:G):List UInt8:=xy++[10]++jL++Lib.decDigits g.h++[10]++nQ++Lib.decDigits g.w++[10]++xx++[10]
theorem FT(l:List UInt8):Lib.strCells (bs l)=Lib.byteCells l:=by simp[Lib.strCells,Lib.byteCells]
theorem byteCells_snoc(l:List UInt8)(c:UInt8):Lib.byteCells l++[.int .u8 c.toNat]=Lib.byteCells (l++[c]):=by simp[Lib.byteCells]
theorem Cx(g:G):bs [116,121,112,101,32,111,99,116,105,108,101,10,104,101,105,103,104,116,32]++bs (Lib.decDigits g.h)++bs [10,119,105,100,116,104,32]++bs (Lib.decDigits g.w)++bs [10,109,97,112,10]=bs (hdr g):=by
 simp only[qK];exact congrArg bs (by simp[hdr,xy,jL,nQ,xx])
theorem JM(g:G)(h:g.ok):0<(hdr g).length/\(hdr g).length<=100:=by
 obtain⟨u,z,B,F⟩:=h;have k:=jm g.h om;have m:=jm g.w om;simp[hdr,xy,jL,nQ,xx];omega
theorem Xf(g:G)(x y:Nat)(k:x<g.w)(m:y<g.h):g.op x y=!g.b (y*g.w+x):=by
 unfold G.op;have:(0:Int)<=(x:Int)/\(x:Int)<g.w/\(0:Int)<=(y:Int)/\(y:Int)<g.h:=om;simp[this]
abbrev Xu(B:Nat)(l:List UInt8)(w:World):Prop:=Lib.IsBuilder 188 5 B B (Lib.byteCells l) w
theorem Nf(w:World)(p:Nat)(g:G)(v:Int)(h:aC w p g v):Calls prog 49 #[vP p] w (Rt w (.string (bs (zq g)))):=by
 obtain⟨o1,o2,o3,o4⟩:=h.1;have l1:(Lib.decDigits g.h).length<=19:=jm g.h om;have l2:(Lib.decDigits g.w).length<=19:=jm g.w om;obtain⟨m1,m2⟩:=JM g h.1;go_enter func49,ntmps49;go_wp2_with fail;refine(O0 w p g v h).mono ?_;rintro e R ⟨rfl,J⟩;go_wp2_with fail;refine(Tryz.strconv_Itoa_small g.h om _).mono ?_;rintro e w2 ⟨rfl,rfl⟩;go_wp2_with fail;refine(Tryz.strconv_Itoa_small g.w om _).mono ?_;rintro e w2 ⟨rfl,rfl⟩;go_wp2_with fail;refine(K5 R.heap.size R.heap.size [] _ _ (Lib.fresh_isBuilder _ _ R) (by rw[Cx,fw];simp;omega) (by rw[Cx,fw];omega) rS).mono ?_;rw[Cx,FT,List.nil_append];rintro e w3 ⟨rfl,U,Q⟩;have T:=(ah J).trans (Q.mono J.size);have F:R.heap.size<=w3.heap.size:=by have:=Q.size;simp at this;omega
 have P:Xu R.heap.size (hdr g) w3:=.inr U;clear U Q;obtain⟨B,hB⟩:=rX R.heap.size;rw[hB]at P F⊢;have I:w.heap.size<=B:=by rw[<-hB];exact J.size
 clear hB J R;have M:∀wr,Below w.heap.size w wr->aC wr p g v:=λwr S=>h.below S h.lt;have M:=hid M;clear h;go_wp2_with fail;go_loopw [23] (λi wr=>∃y:Nat,y<=g.h/\i=rI (y:Nat)/\Xu B (hdr g++cellsS g (y*g.w)) wr/\Below w.heap.size w wr/\B<=wr.heap.size) (λi _=>g.h-(intOf i).toNat)
 case atStart=>exact⟨0,om,rfl,by simpa[cellsS]using P,T,F⟩
 case round=>
  clear P T F;obtain⟨y,hy,rfl,O,L,m⟩:=hrel;by_cases aa:y<g.h
  .have q:(y:Int)<g.h:=om
   go_wp2_with fail;obtain⟨wo,rfl⟩:∃wo:World,wo=wr:=⟨_,rfl⟩
   go_loopw [27] (λi wr=>∃x:Nat,x<=g.w/\i=rI (x:Nat)/\Xu B (hdr g++cellsS g (y*g.w)++l8 g y x) wr/\Below w.heap.size w wr/\B<=wr.heap.size) (λi _=>g.w-(intOf i).toNat)
   case atStart=>exact⟨0,om,rfl,by simpa[l8]using O,L,m⟩
   case round=>
    clear O L m;obtain⟨x,hx,rfl,O,L,m⟩:=hrel;by_cases ab:x<g.w
    .have qx:(x:Int)<g.w:=om
     have Z:=Xf g x y ab aa;have hG:=M.out _ L
     have u:(Lib.byteCells (hdr g++cellsS g (y*g.w)++l8 g y x)).length+1<=140737488355328:=by
      have e1:=mJ g (y*g.w);have e2:y*g.w<=16*16:=Nat.mul_le_mul om o2;have e3:(l8 g y x).length=x:=by simp[l8]
      rw[Lib.byteCells_length,Zp,Zp];omega
     go_wp2_with fail;refine(yO _ p g v x y hG).mono ?_;rw[Z];clear Z hG;rintro e w4 ⟨rfl,rfl⟩
     cases S:g.b (y*g.w+x)with
     |false=>
      have hr:=hid (show hdr g++cellsS g (y*g.w)++l8 g y (x+1)=hdr g++cellsS g (y*g.w)++l8 g y x++[46]by rw[pU,S];simp[Ou]);clear S;go_wp2_with fail;refine(Ci B B _ 46 _ O u m).mono ?_
      rw[show(Value.int .u8 46)=Value.int .u8 ((46:UInt8).toNat:Int)from rfl,byteCells_snoc];rintro e w5 ⟨rfl,z,k⟩;go_wp2_with fail;go_roundw
      case rel=>exact⟨x+1,om,by go_num,by rw[hr.out];exact .inr z,L.trans (k.mono I),Zg m k.size⟩
      case measure=>exact rM
     |true=>
      have hr:=hid (show hdr g++cellsS g (y*g.w)++l8 g y (x+1)=hdr g++cellsS g (y*g.w)++l8 g y x++[64]by rw[pU,S];simp[Ou]);clear S;go_wp2_with fail;refine(Ci B B _ 64 _ O u m).mono ?_
      rw[show(Value.int .u8 64)=Value.int .u8 ((64:UInt8).toNat:Int)from rfl,byteCells_snoc];rintro e w5 ⟨rfl,z,k⟩;go_wp2_with fail;go_roundw
      case rel=>exact⟨x+1,om,by go_num,by rw[hr.out];exact .inr z,L.trans (k.mono I),Zg m k.size⟩
      case measure=>exact rM
    .obtain rfl:x=g.w:=om
     have hr:=hid (D6 g y om)
     have u:(Lib.byteCells (hdr g++cellsS g (y*g.w)++l8 g y g.w)).length+1<=140737488355328:=by
      have e1:=mJ g (y*g.w);have e2:y*g.w<=16*16:=Nat.mul_le_mul om o2;have e3:(l8 g y g.w).length=g.w:=by simp[l8]
      rw[Lib.byteCells_length,Zp,Zp];omega
     go_wp2_with fail;refine(Ci B B _ 10 _ O u m).mono ?_
     rw[show(Value.int .u8 10)=Value.int .u8 ((10:UInt8).toNat:Int)from rfl,byteCells_snoc];rintro e w5 ⟨rfl,z,k⟩;go_wp2_with fail;go_roundw
     case rel=>exact⟨y+1,om,by go_num,by rw[hr.out,<-List.append_assoc,<-List.append_assoc];exact .inr z,L.trans (k.mono I),Zg m k.size⟩
     case measure=>exact rM
  .obtain rfl:y=g.h:=om
   go_wp2_with fail;refine(Tryz.Builder_String_any B B _ _ O m).mono ?_;rintro e w5 ⟨rfl,k⟩;go_wp2_with fail;go_ret;exact⟨rfl,L.trans (k.mono I)⟩
