/- Lemmas of this claim: Bld. -/
import Derived.Test.YtokhnobcincfjaaGreatDoorKNEd4
import Derived.Shelf.Strings.BuilderX
set_option linter.unusedVariables false
set_option linter.unusedSimpArgs false
set_option maxHeartbeats 2000000
set_option maxRecDepth 100000
namespace Go.Proofs.YtokhnobcincfjaaGreatDoor
open Go.RowKit Go.Sort
theorem Ko:(Tryz.prog.info? 192).map (·.size)=some 2:=by kernel_rfl
theorem Km:liesAt Tryz.prog Tryz.prog.depth 192 (2/Tryz.prog.cellsOf 192) 0 192 1=true:=by kernel_rfl
theorem xJ:(Tryz.prog.info? 5).map (λi=>(i.zero,i.size,i.bytes))=some (some (.int .u8 0),1,1):=by kernel_rfl
theorem AR(B b:Nat)(bs:List Value)(w:World)(h:Lib.IsBuilder 192 5 B b bs w):Calls Tryz.prog 157 #[.pointer (some ⟨b,0,none⟩)] w λe z=>e=.returned (.tuple #[])/\Lib.BuilderAt 192 5 B b (.pointer (some ⟨b,0,none⟩)) bs z/\Below B w z:=by
 obtain⟨j,k,u⟩:=Option.map_eq_some_iff.1 Ko;rcases h with h|h
 .have F:=h.cell0
  have g:=h.shape;have J:=h.frozen0;have L:=h.used (.pointer (some ⟨b,0,none⟩));have I:=h.1;clear h;go_enter Tryz.func157,Tryz.ntmps157;go_wp2_with fail;rw[Lib.run_to_unsafe w ⟨b,0,none⟩ Tryz.underlying190 Tryz.underlying302 k (by rw[u];decide) g (Nat.zero_lt_succ 1)];simp only[Result.andThen];rw[Oper.upon_value];go_wp2_with fail;rw[run_callFunc_extern Tryz.func213 (by kernel_rfl) (by kernel_rfl) (by kernel_rfl) (e:=Extern.AbiNoEscape.same) (by kernel_rfl)];rw[Lib.run_noEscape];simp only[Result.andThen];rw[Oper.upon_value];go_wp2_with fail;rw[Lib.run_from_unsafe w ⟨b,0,none⟩ Tryz.underlying302 Tryz.underlying190 k g Km];simp only[Result.andThen];rw[Oper.upon_value];go_wp2_with fail;go_end0;exact⟨rfl,L,(Below.refl B w).setCell (p:=⟨b,0,none⟩) I _⟩
 .have F:=h.cell0
  go_enter Tryz.func157,Tryz.ntmps157;go_wp2_with fail;rw[Lib.run_neq_ptr_same w _ Tryz.underlying190 k];go_wp2_with fail;go_end0;exact⟨rfl,h,Below.refl B _⟩
theorem Kn:192≠5:=by decide
theorem yZ(B b:Nat)(bs:List Value)(c:Int)(w:World)(h:Lib.IsBuilder 192 5 B b bs w)(ag:bs.length+1<=140737488355328)(al:B<=w.heap.size):Calls Tryz.prog 102 #[.pointer (some ⟨b,0,none⟩),.int .u8 c] w λe w'=>e=.returned .nilIface/\Lib.BuilderAt 192 5 B b (.pointer (some ⟨b,0,none⟩)) (bs++[.int .u8 c]) w'/\Below B w w':=by
 obtain⟨i0,hi,ab,ac,ad⟩:=info_parts xJ;go_enter Tryz.func102,Tryz.ntmps102;go_wp2_with fail;refine(AR B b bs _ h).mono ?_;rintro e P ⟨rfl,h1,J⟩;obtain⟨hB,v,M,O,Z⟩:=h1
 have c0:P.cell? ⟨b,0,none⟩=some (.pointer (some ⟨b,0,none⟩)):=by rw[Lib.cell_of_heap M];rfl
 have c1:P.cell? ⟨b,1,none⟩=some v:=by rw[Lib.cell_of_heap M];rfl
 go_wp2_with (at_builtin;refine wpList_append_own _ rfl _ _ 162 rfl B 5 i0 (.int .u8 0) 1 1 Tryz.underlying162 hi ab ac ad rfl (by decide) _ _ _ rfl (O.alloc _) ⟨P.heap.size,0,none⟩ 1 1 [.int .u8 c] rfl rfl ?c1 ?c2 ?c3 ?c4 ?c5 ?_)
 case c1=>
  intro j u Q
  match j,Q with
  |0,Q=>simp at Q;subst Q;simp[Addr.add]
 case c2=>intro u hu;simp at hu;subst hu;rfl
 case c3=>unfold maxLen;omega
 case c4=>omega
 case c5=>have:=J.size;simp;omega
 intro v' R F z _
 have U:b<P.heap.size:=by
  rcases Nat.lt_or_ge b P.heap.size with S|S
  .exact S
  .simp[Array.getElem?_eq_none S]at M
 have L:R.heap[b]? =some (.cells #[.pointer (some ⟨b,0,none⟩),v] 192 (0,0)):=by
  rw[z.block b (by simp;omega) (λe=>Z e.symm),Lib.alloc_old P _ b U];exact M
 have d0:R.cell? ⟨b,0,none⟩=some (.pointer (some ⟨b,0,none⟩)):=by rw[Lib.cell_of_heap L];rfl
 have d1:R.cell? ⟨b,1,none⟩=some v:=by rw[Lib.cell_of_heap L];rfl
 have f1:R.frozen? ⟨b,1,none⟩=false:=Lib.frozen_of_heap L 1
 obtain⟨g,I,rfl⟩:∃g I,v'=.slice (some ⟨g,0,none⟩) (bs.length+1) I:=by
  rcases F.2 with⟨_,h0⟩|⟨g,I,ai,hv,_⟩
  .omega
  .exact⟨g,I,hv⟩
 go_wp2_with fail;go_ret;refine⟨rfl,?_,?_⟩
 .exact Lib.BuilderAt.put (T:=192) (e:=5) hB L (bs':=bs++[.int .u8 c]) (by simpa using F) Kn
 .exact((J.alloc (by have:=J.size;omega) _).grown z (by have:=J.size;simp;omega) (λk hk=>(O.lt k hk).1)).setCell (p:=⟨b,1,none⟩) hB _
theorem G7(B b:Nat)(bs:List Value)(s:ByteArray)(w:World)(h:Lib.IsBuilder 192 5 B b bs w)(ab:bs.length+s.size<=140737488355328)(ai:0<s.size)(ad:B<=w.heap.size):Calls Tryz.prog 100 #[.pointer (some ⟨b,0,none⟩),.string s] w λe w'=>e=.returned (.tuple #[.int .i64 s.size,.nilIface])/\Lib.BuilderAt 192 5 B b (.pointer (some ⟨b,0,none⟩)) (bs++Lib.strCells s) w'/\Below B w w':=by
 obtain⟨i0,hi,S,U,Z⟩:=info_parts xJ;go_enter Tryz.func100,Tryz.ntmps100;go_wp2_with fail;refine(AR B b bs _ h).mono ?_;rintro e O ⟨rfl,h1,M⟩;obtain⟨hB,v,J,L,R⟩:=h1
 have c0:O.cell? ⟨b,0,none⟩=some (.pointer (some ⟨b,0,none⟩)):=by rw[Lib.cell_of_heap J];rfl
 have c1:O.cell? ⟨b,1,none⟩=some v:=by rw[Lib.cell_of_heap J];rfl
 go_wp2_with (at_builtin;refine Lib.wpList_append_own_string _ rfl _ _ 162 9 rfl B 5 i0 Tryz.underlying162 Tryz.underlying9 hi S U Z _ _ _ rfl L s rfl ?c3 ?c4 ?c5 ?_)
 case c3=>unfold maxLen;omega
 case c4=>omega
 case c5=>have:=M.size;omega
 intro v' P z u _
 have ag:b<O.heap.size:=by
  rcases Nat.lt_or_ge b O.heap.size with Q|Q
  .exact Q
  .simp[Array.getElem?_eq_none Q]at J
 have I:P.heap[b]? =some (.cells #[.pointer (some ⟨b,0,none⟩),v] 192 (0,0)):=by
  rw[u.block b (by omega) (λe=>R e.symm)];exact J
 have d0:P.cell? ⟨b,0,none⟩=some (.pointer (some ⟨b,0,none⟩)):=by rw[Lib.cell_of_heap I];rfl
 have d1:P.cell? ⟨b,1,none⟩=some v:=by rw[Lib.cell_of_heap I];rfl
 have f1:P.frozen? ⟨b,1,none⟩=false:=Lib.frozen_of_heap I 1
 obtain⟨g,F,rfl⟩:∃g F,v'=.slice (some ⟨g,0,none⟩) (bs.length+s.size) F:=by
  rcases z.2 with⟨_,h0⟩|⟨g,F,ac,hv,_⟩
  .omega
  .exact⟨g,F,hv⟩
 go_wp2_with fail;go_ret2;refine⟨rfl,?_,?_⟩
 .exact Lib.BuilderAt.put (T:=192) (e:=5) hB I (bs':=bs++Lib.strCells s) (by simpa[Lib.strCells_length]using z) Kn
 .exact(M.grown u (by have:=M.size;omega) (λk hk=>(L.lt k hk).1)).setCell (p:=⟨b,1,none⟩) hB _
