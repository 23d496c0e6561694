/- Lemmas of this claim: NavSaysP. -/
import Derived.Test.YtnifggkjieemeaaGreatDoorNavSays
import Derived.Test.YtnifggkjieemeaaGreatDoorCards
import Derived.Test.YtnifggkjieemeaaGreatDoorTie
import Derived.Lay
import Derived.LaidMore
import Derived.Test.YtnifggkjieemeaaGreatDoorShared
set_option linter.unusedVariables false
set_option linter.unusedSimpArgs false
set_option maxRecDepth 100000
namespace Go.Proofs.YtnifggkjieemeaaGreatDoor.navSaysDone
open Go.ChangeShapes Go.WideShapes Go.ChangeAt Go.RowKit Go.Joins
open Go.ChangeMaps (open_string shut_string)
theorem own:ownKnob Tryz.prog.godebug=none:=kr
theorem laidOut:laidOutB Tryz.prog=true:=kr
theorem Wm:Tryz.prog.cellsOf 53=2:=kr
theorem lifted(os:Os)(started:os.Started)(H:Type)(enc:TypeId×Value->H):ReturnsInHanded {} Tryz.checked os 3 .any (λw args=>(Rows.navSaysSpec.pre enc Tryz.prog Tryz.f3 Rows.navSaysRow.domain false w args/\laidMetH Tryz.prog Rows.navSaysRow.laid w)/\sizedMet enc Tryz.prog Tryz.f3 (OpenSpec.ofChange Rows.navSaysSpec) false w args) (Rows.navSaysSpec.post enc Tryz.prog Tryz.f3 false true false false):=by
 refine Db (C:=Tryz.checked) (X:=λw _=>laidMetH Tryz.prog Rows.navSaysRow.laid w) (λ_ _ _ hh h=>h.of_heap hh) own started kr Tryz.func3
  (ChangeSpec.witness_at (enc:=enc) (C:=Tryz.checked) (os:=os) (X:=λw _=>laidMetH Tryz.prog Rows.navSaysRow.laid w) false (World.laidAll Tryz.prog os Rows.navSaysRow.laid) #[.int .i64 0,.int .i64 0,.int .i64 0,.string ⟨#[]⟩,.slice none 0 0] 8 (World.laidAll_os _ _ _) kr kr kr kr kr
   (by rw[MakeChecks.laidMetH_plain _ _ _ kr];exact laidMet_laidAll _ kr kr)) ?_
 intro W base args ds gs before hval0 hW hsh hL0;have hL:laidMet Tryz.prog Rows.navSaysRow.laid W:=by rw[MakeChecks.laidMetH_plain _ _ _ kr]at hL0;exact hL0
 clear hL0;have hV0:xu W:=SC hL hsh;have hval:∀(j:Nat)t v,Tryz.f3.params[j]? =some t->args[j]? =some v->Value.okWide Tryz.prog W .any base t v:=hval0;have hW':=hW;obtain⟨p,q,hA0,hV,rfl,hfz,hnd⟩:=hW;have hA:DataW.TrodAll enc Tryz.prog W 0 (λ_=>true) true Tryz.f3.params.toList args.toList ds p:=hA0;rw[Tryz.params3]at hA hval;obtain⟨v0,vs0,d0,ds0,p0,q0,hargs,rfl,rfl,h0,r0⟩:=trodAll_cons hA;obtain⟨v1,vs1,d1,ds1,p1,q1,rfl,rfl,rfl,h1,r1⟩:=trodAll_cons r0;obtain⟨v2,vs2,d2,ds2,p2,q2,rfl,rfl,rfl,h2,r2⟩:=trodAll_cons r1;obtain⟨v3,vs3,d3,ds3,p3,q3,rfl,rfl,rfl,h3,r3⟩:=trodAll_cons r2;obtain⟨v4,vs4,d4,ds4,p4,q4,rfl,rfl,rfl,h4,r4⟩:=trodAll_cons r3;obtain⟨rfl,rfl,rfl⟩:=trodAll_nil r4;obtain rfl:args=#[v0,v1,v2,v3,v4]:=by cases args;simp_all
 obtain⟨rfl,rfl⟩:=trodVars_none hV;have k0:=h0;have lt0:∀x∈p0,x.block<W.heap.size:=by obtain⟨m,hm⟩:=k0;exact DataW.trod_lt m _ _ _ hm
 have k1:=h1;have lt1:∀x∈p1,x.block<W.heap.size:=by obtain⟨m,hm⟩:=k1;exact DataW.trod_lt m _ _ _ hm
 have k2:=h2;have lt2:∀x∈p2,x.block<W.heap.size:=by obtain⟨m,hm⟩:=k2;exact DataW.trod_lt m _ _ _ hm
 have k3:=h3;have lt3:∀x∈p3,x.block<W.heap.size:=by obtain⟨m,hm⟩:=k3;exact DataW.trod_lt m _ _ _ hm
 have k4:=h4;have lt4:∀x∈p4,x.block<W.heap.size:=by obtain⟨m,hm⟩:=k4;exact DataW.trod_lt m _ _ _ hm
 obtain⟨x0,rfl,rfl,rfl,w0⟩:=open_int Tryz.underlying3 (hval 0 3 v0 rfl rfl) h0;obtain⟨x1,rfl,rfl,rfl,w1⟩:=open_int Tryz.underlying3 (hval 1 3 v1 rfl rfl) h1;obtain⟨x2,rfl,rfl,rfl,w2⟩:=open_int Tryz.underlying3 (hval 2 3 v2 rfl rfl) h2;obtain⟨s3,rfl,rfl,rfl,w3⟩:=open_string Tryz.underlying9 (hval 3 9 v3 rfl rfl) h3;obtain⟨sA4,sn4,sm4,sf4,rfl,hs4⟩:=MC (hval 4 22 v4 rfl rfl) h4;clear hA0 hval0;refine(navSays W hV0 x0 (Q7 w0) x1 (Q7 w1) x2 (Q7 w2) s3 sA4 sn4 sm4 sf4 hs4).mono λe W'⟨he,bel⟩=>?_;subst he;exact⟨_,rfl,_,_,_,[],_,[],hW',trodAll_mk1 (shut_bool Tryz.underlying4 _),(trodAll_cons_mk (Below.trod laidOut kr (of_decide_eq_true kr) k0 bel lt0) (trodAll_cons_mk (Below.trod laidOut kr (of_decide_eq_true kr) k1 bel lt1) (trodAll_cons_mk (Below.trod laidOut kr (of_decide_eq_true kr) k2 bel lt2) (trodAll_cons_mk (Below.trod laidOut kr (of_decide_eq_true kr) k3 bel lt3) (trodAll_cons_mk (Below.trod laidOut kr (of_decide_eq_true kr) k4 bel lt4) trodAll_mk0))))),rfl,bel.frame _,λh=>by cases h⟩
theorem Jq:Tryz.pinned.checked.prog.funcNamed Rows.navSaysRow.func=some 3:=kr
def Yi(P:Program)(f:FuncId)(fn:Func)(s:ChangeSpec)(c:OpenClaim):Bool:=c.wf (OpenSpec.ofChange s)&&laidOutB P&&mapsRowed P&&fn.params.all (P.readableRec ·)&&namedTie P c.named s.vars&&(c.stops==[])&&(P.stops==[])&&(c.knobs==[])&&(P.stopKnobs==[])&&(c.inPlace==P.inPlace f)&&(c.unfollowed==P.unfollowed f)&&(c.recurses==P.recurses f)&&(c.named==P.varsNamed f)&&(c.maps==(fn.params.toList++s.plain.varTypes P).any (P.mapsRec ·))&&(c.ifaces==(fn.params.toList++s.plain.varTypes P).any (P.ifacesRec ·))&&(c.mapsOut==P.mapsAmong fn.resultTypes.toList)&&(c.loops==(fn.params.toList++s.plain.varTypes P).any (P.loopsFrom ·))&&(c.wideKeys==(fn.params.toList++s.plain.varTypes P++fn.resultTypes.toList).any (P.wideKeysFrom ·))&&s.vars.all (P.varReadable ·)&&fn.resultTypes.all (λt=>P.readableRec t&&decide (t<P.types.size))&&(c.ifacesOut==fn.resultTypes.toList.any (P.ifacesRec ·))&&(c.loopsOut==fn.resultTypes.toList.any (P.loopsFrom ·))&&(c.plainKeys==P.plainKeys)&&c.shortTexts.isNone&&P.stopsHeard
def Yj(P:Program)(f:FuncId)(fn:Func)(s:ChangeSpec)(c:OpenClaim):Bool:=P.mayEnter
def Yk(P:Program)(f:FuncId)(fn:Func)(s:ChangeSpec)(c:OpenClaim):Bool:=(c.lifted==P.liftsFinal)
def Yl(P:Program)(f:FuncId)(fn:Func)(s:ChangeSpec)(c:OpenClaim):Bool:=(P.make==some c.make)
def Ym(P:Program)(f:FuncId)(fn:Func)(s:ChangeSpec)(c:OpenClaim):Bool:=(c.kinds==(if c.domain.isEmpty then[]else fn.params.toList.map λt=>match P.underlying t with|some (.int k)=>some k|_=>none))
def Yn(P:Program)(f:FuncId)(fn:Func)(s:ChangeSpec)(c:OpenClaim):Bool:=(c.pinned==c.pinnedBy)
def Yo(P:Program)(f:FuncId)(fn:Func)(s:ChangeSpec)(c:OpenClaim):Bool:=(c.veiled==(fn.params.toList++s.plain.varTypes P++fn.resultTypes.toList).any (P.veiledRec ·))
def Yp(P:Program)(f:FuncId)(fn:Func)(s:ChangeSpec)(c:OpenClaim):Bool:=c.veiledFits P fn.params.toList (fn.params.toList++s.plain.varTypes P++fn.resultTypes.toList)
theorem Yw:Yi Tryz.pinned.checked.prog 3 Tryz.f3 Rows.navSaysSpec Rows.navSaysRow=true:=kr
theorem Yx:Yj Tryz.pinned.checked.prog 3 Tryz.f3 Rows.navSaysSpec Rows.navSaysRow=true:=IM
theorem Yy:Yk Tryz.pinned.checked.prog 3 Tryz.f3 Rows.navSaysSpec Rows.navSaysRow=true:=TF
theorem Yz:Yl Tryz.pinned.checked.prog 3 Tryz.f3 Rows.navSaysSpec Rows.navSaysRow=true:=kr
theorem YA:Ym Tryz.pinned.checked.prog 3 Tryz.f3 Rows.navSaysSpec Rows.navSaysRow=true:=kr
theorem YB:Yn Tryz.pinned.checked.prog 3 Tryz.f3 Rows.navSaysSpec Rows.navSaysRow=true:=kr
theorem Uo:Yo Tryz.pinned.checked.prog 3 Tryz.f3 Rows.navSaysSpec Rows.navSaysRow=true:=kr
theorem YC:Yp Tryz.pinned.checked.prog 3 Tryz.f3 Rows.navSaysSpec Rows.navSaysRow=true:=kr
theorem WR(P:Program)(f:FuncId)(fn:Func)(s:ChangeSpec)(c:OpenClaim):joinedFacts P f fn s c=(Yi P f fn s c&&Yj P f fn s c&&Yk P f fn s c&&Yl P f fn s c&&Ym P f fn s c&&Yn P f fn s c&&Yo P f fn s c&&Yp P f fn s c):=rfl
theorem closed2:joinedFacts Tryz.pinned.checked.prog 3 Tryz.f3 Rows.navSaysSpec Rows.navSaysRow=true:=by
 rw[WR,Yw,Yx,Yy,Yz,YA,YB,Uo,YC];rfl
theorem RO:Tryz.f3.isInstance Tryz.pinned.checked.prog Rows.navSaysRow.origin Rows.navSaysRow.targs:=of_decide_eq_true kr
theorem RP:Tryz.f3.isWrapper Tryz.pinned.checked.prog Rows.navSaysRow.wrapper Rows.navSaysRow.mainSum:=by
 unfold Func.isWrapper;first
 |(rw[if_pos (by decide+kernel)];kernel_rfl)
 |(rw[if_neg (by decide+kernel)];exact⟨rfl,rfl⟩)
theorem over:Rows.navSaysRow.holds Tryz.pinned (OpenSpec.ofChange Rows.navSaysSpec):=
 OpenClaim.holds_of_wide 3 Tryz.f3 rfl rfl rfl rfl rfl rfl rfl ⟨rfl,rfl,rfl,rfl,rfl⟩ rfl rfl rfl rfl rfl Jq Tryz.func3 closed2 RO RP
  (λos started H enc _=>lifted os started H enc)
theorem proved:Rows.NavSaysCardSaid:=
 Claim7.holds_tied_plain_at .later [] [.data,.data,.data,.sentinel,.sentinel] true _ true over (λ_ h=>by cases h) kr (λ_ h=>by cases h) navSays_row_tie rfl ⟨rfl,rfl⟩ kr rfl
  (λf fn hf hfn=>by
   obtain rfl:f=3:=Option.some.inj (Jq.symm.trans hf) |>.symm;obtain rfl:fn=Tryz.f3:=(Option.some.inj (Tryz.func3.symm.trans hfn)).symm
   exact⟨kr,λj t ht=>by
    rw[Tryz.params3]at ht;have hm:t∈[3,3,3,9,22]:=by simpa using Array.mem_of_getElem? ht
    have hall:([3,3,3,9,22].all λu=>!Tryz.prog.wantsStandIn u)=true:=kr;exact(show Tryz.prog.wantsStandIn t=false by simpa using List.all_eq_true.1 hall t hm)⟩)
  kr
