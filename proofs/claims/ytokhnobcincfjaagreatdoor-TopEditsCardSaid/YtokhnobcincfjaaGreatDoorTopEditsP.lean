/- Lemmas of this claim: TopEditsP. -/
import Derived.Test.YtokhnobcincfjaaGreatDoorKNEd54
import Derived.Test.YtokhnobcincfjaaGreatDoorCards
import Derived.Test.YtokhnobcincfjaaGreatDoorTie
import Derived.Lay
import Derived.LaidMore
import Derived.Test.YtokhnobcincfjaaGreatDoorShared
set_option linter.unusedVariables false
set_option linter.unusedSimpArgs false
set_option maxRecDepth 100000
namespace Go.Proofs.YtokhnobcincfjaaGreatDoor.topEditsDone
open Go.ChangeShapes Go.WideShapes Go.ChangeAt Go.RowKit Go.Joins
open Go.ChangeMaps (open_string shut_string)
theorem own:ownKnob Tryz.prog.godebug=none:=by kernel_rfl
theorem laidOut:laidOutB Tryz.prog=true:=by kernel_rfl
theorem RZ:Tryz.prog.cellsOf 44=2:=by kernel_rfl
theorem lifted(os:Os)(started:os.Started)(H:Type)(enc:TypeId×Value->H):ReturnsInHanded {} Tryz.checked os 8 .any (λw args=>(Rows.topEditsSpec.pre enc Tryz.prog Tryz.f8 Rows.topEditsRow.domain false w args/\laidMetH Tryz.prog Rows.topEditsRow.laid w)/\sizedMet enc Tryz.prog Tryz.f8 (OpenSpec.ofChange Rows.topEditsSpec) false w args) (Rows.topEditsSpec.post enc Tryz.prog Tryz.f8 false true false false):=by
 refine zV (C:=Tryz.checked) (X:=λw _=>laidMetH Tryz.prog Rows.topEditsRow.laid w) (λ_ _ _ hh h=>h.of_heap hh) own started (by kernel_rfl) Tryz.func8
  (ChangeSpec.witness_at (enc:=enc) (C:=Tryz.checked) (os:=os) (X:=λw _=>laidMetH Tryz.prog Rows.topEditsRow.laid w) false (World.laidAll Tryz.prog os Rows.topEditsRow.laid) #[.agg #[.int .i64 0,.int .i64 0,.slice none 0 0],.int .i64 0,.slice none 0 0,.slice none 0 0] 8 (World.laidAll_os _ _ _) (by kernel_rfl) (by kernel_rfl) (by kernel_rfl) (by kernel_rfl) (by kernel_rfl)
   (by rw[MakeChecks.laidMetH_plain _ _ _ (by kernel_rfl)];exact laidMet_laidAll _ (by kernel_rfl) (by kernel_rfl))) ?_
 intro W base args ds gs before hval0 hW hsh hL0;have hL:laidMet Tryz.prog Rows.topEditsRow.laid W:=by rw[MakeChecks.laidMetH_plain _ _ _ (by kernel_rfl)]at hL0;exact hL0
 clear hL0;have hV0:pQ W:=OI hL hsh;have hval:∀(j:Nat)t v,Tryz.f8.params[j]? =some t->args[j]? =some v->Value.okWide Tryz.prog W .any base t v:=hval0;have hW':=hW;obtain⟨p,q,hA0,hV,rfl,hfz,hnd⟩:=hW;have hA:DataW.TrodAll enc Tryz.prog W 0 (λ_=>true) true Tryz.f8.params.toList args.toList ds p:=hA0;rw[Tryz.params8]at hA hval;obtain⟨v0,vs0,d0,ds0,p0,q0,hargs,rfl,rfl,h0,r0⟩:=trodAll_cons hA;obtain⟨v1,vs1,d1,ds1,p1,q1,rfl,rfl,rfl,h1,r1⟩:=trodAll_cons r0;obtain⟨v2,vs2,d2,ds2,p2,q2,rfl,rfl,rfl,h2,r2⟩:=trodAll_cons r1;obtain⟨v3,vs3,d3,ds3,p3,q3,rfl,rfl,rfl,h3,r3⟩:=trodAll_cons r2;obtain⟨rfl,rfl,rfl⟩:=trodAll_nil r3;obtain rfl:args=#[v0,v1,v2,v3]:=by cases args;simp_all
 obtain⟨rfl,rfl⟩:=trodVars_none hV;have k0:=h0;have lt0:∀x∈p0,x.block<W.heap.size:=by obtain⟨m,hm⟩:=k0;exact DataW.trod_lt m _ _ _ hm
 have k1:=h1;have lt1:∀x∈p1,x.block<W.heap.size:=by obtain⟨m,hm⟩:=k1;exact DataW.trod_lt m _ _ _ hm
 have k2:=h2;have lt2:∀x∈p2,x.block<W.heap.size:=by obtain⟨m,hm⟩:=k2;exact DataW.trod_lt m _ _ _ hm
 have k3:=h3;have lt3:∀x∈p3,x.block<W.heap.size:=by obtain⟨m,hm⟩:=k3;exact DataW.trod_lt m _ _ _ hm
 obtain⟨pa0,pb0,pA0,pn0,pm0,pf0,rfl,hs0⟩:=Jc (hval 0 24 v0 rfl rfl) h0;obtain⟨x1,rfl,rfl,rfl,w1⟩:=open_int Tryz.underlying3 (hval 1 3 v1 rfl rfl) h1;obtain⟨sA2,sn2,sm2,sf2,rfl,hs2⟩:=Es (hval 2 62 v2 rfl rfl) h2;obtain⟨sA3,sn3,sm3,sf3,rfl,hs3⟩:=Jb (hval 3 54 v3 rfl rfl) h3;clear hA0 hval0;refine(topEdits W hV0 pa0 pb0 pA0 pn0 pm0 pf0 hs0 x1 (Qx w1) sA2 sn2 sm2 sf2 hs2 sA3 sn3 sm3 sf3 hs3).mono λe W'⟨he,bel⟩=>?_;subst he;exact⟨_,rfl,_,_,_,[],_,[],hW',trodAll_mk1 (shut_bool Tryz.underlying4 _),(trodAll_cons_mk (Below.trod laidOut (by kernel_rfl) (of_decide_eq_true (by kernel_rfl)) k0 bel lt0) (trodAll_cons_mk (Below.trod laidOut (by kernel_rfl) (of_decide_eq_true (by kernel_rfl)) k1 bel lt1) (trodAll_cons_mk (Below.trod laidOut (by kernel_rfl) (of_decide_eq_true (by kernel_rfl)) k2 bel lt2) (trodAll_cons_mk (Below.trod laidOut (by kernel_rfl) (of_decide_eq_true (by kernel_rfl)) k3 bel lt3) trodAll_mk0)))),rfl,bel.frame _,λh=>by cases h⟩
theorem Fs:Tryz.pinned.checked.prog.funcNamed Rows.topEditsRow.func=some 8:=by kernel_rfl
def Uo(P:Program)(f:FuncId)(fn:Func)(s:ChangeSpec)(c:OpenClaim):Bool:=c.wf (OpenSpec.ofChange s)&&laidOutB P&&mapsRowed P&&fn.params.all (P.readableRec ·)&&namedTie P c.named s.vars&&(c.stops==[])&&(P.stops==[])&&(c.knobs==[])&&(P.stopKnobs==[])&&(c.inPlace==P.inPlace f)&&(c.unfollowed==P.unfollowed f)&&(c.recurses==P.recurses f)&&(c.named==P.varsNamed f)&&(c.maps==(fn.params.toList++s.plain.varTypes P).any (P.mapsRec ·))&&(c.ifaces==(fn.params.toList++s.plain.varTypes P).any (P.ifacesRec ·))&&(c.mapsOut==P.mapsAmong fn.resultTypes.toList)&&(c.loops==(fn.params.toList++s.plain.varTypes P).any (P.loopsFrom ·))&&(c.wideKeys==(fn.params.toList++s.plain.varTypes P++fn.resultTypes.toList).any (P.wideKeysFrom ·))&&s.vars.all (P.varReadable ·)&&fn.resultTypes.all (λt=>P.readableRec t&&decide (t<P.types.size))&&(c.ifacesOut==fn.resultTypes.toList.any (P.ifacesRec ·))&&(c.loopsOut==fn.resultTypes.toList.any (P.loopsFrom ·))&&(c.plainKeys==P.plainKeys)&&c.shortTexts.isNone&&P.stopsHeard
def Uq(P:Program)(f:FuncId)(fn:Func)(s:ChangeSpec)(c:OpenClaim):Bool:=P.mayEnter
def Ur(P:Program)(f:FuncId)(fn:Func)(s:ChangeSpec)(c:OpenClaim):Bool:=(c.lifted==P.liftsFinal)
def Us(P:Program)(f:FuncId)(fn:Func)(s:ChangeSpec)(c:OpenClaim):Bool:=(P.make==some c.make)
def Ut(P:Program)(f:FuncId)(fn:Func)(s:ChangeSpec)(c:OpenClaim):Bool:=(c.kinds==(if c.domain.isEmpty then[]else fn.params.toList.map λt=>match P.underlying t with|some (.int k)=>some k|_=>none))
def Uu(P:Program)(f:FuncId)(fn:Func)(s:ChangeSpec)(c:OpenClaim):Bool:=(c.pinned==c.pinnedBy)
def Uv(P:Program)(f:FuncId)(fn:Func)(s:ChangeSpec)(c:OpenClaim):Bool:=(c.veiled==(fn.params.toList++s.plain.varTypes P++fn.resultTypes.toList).any (P.veiledRec ·))
def Uw(P:Program)(f:FuncId)(fn:Func)(s:ChangeSpec)(c:OpenClaim):Bool:=c.veiledFits P fn.params.toList (fn.params.toList++s.plain.varTypes P++fn.resultTypes.toList)
theorem Uz:Uo Tryz.pinned.checked.prog 8 Tryz.f8 Rows.topEditsSpec Rows.topEditsRow=true:=by kernel_rfl
theorem UA:Uq Tryz.pinned.checked.prog 8 Tryz.f8 Rows.topEditsSpec Rows.topEditsRow=true:=EI
theorem UB:Ur Tryz.pinned.checked.prog 8 Tryz.f8 Rows.topEditsSpec Rows.topEditsRow=true:=Px
theorem UC:Us Tryz.pinned.checked.prog 8 Tryz.f8 Rows.topEditsSpec Rows.topEditsRow=true:=by kernel_rfl
theorem UE:Ut Tryz.pinned.checked.prog 8 Tryz.f8 Rows.topEditsSpec Rows.topEditsRow=true:=by kernel_rfl
theorem UF:Uu Tryz.pinned.checked.prog 8 Tryz.f8 Rows.topEditsSpec Rows.topEditsRow=true:=by kernel_rfl
theorem Qb:Uv Tryz.pinned.checked.prog 8 Tryz.f8 Rows.topEditsSpec Rows.topEditsRow=true:=by kernel_rfl
theorem UG:Uw Tryz.pinned.checked.prog 8 Tryz.f8 Rows.topEditsSpec Rows.topEditsRow=true:=by kernel_rfl
theorem SK(P:Program)(f:FuncId)(fn:Func)(s:ChangeSpec)(c:OpenClaim):joinedFacts P f fn s c=(Uo P f fn s c&&Uq P f fn s c&&Ur P f fn s c&&Us P f fn s c&&Ut P f fn s c&&Uu P f fn s c&&Uv P f fn s c&&Uw P f fn s c):=rfl
theorem closed2:joinedFacts Tryz.pinned.checked.prog 8 Tryz.f8 Rows.topEditsSpec Rows.topEditsRow=true:=by
 rw[SK,Uz,UA,UB,UC,UE,UF,Qb,UG];rfl
theorem NV:Tryz.f8.isInstance Tryz.pinned.checked.prog Rows.topEditsRow.origin Rows.topEditsRow.targs:=of_decide_eq_true (by kernel_rfl)
theorem NW:Tryz.f8.isWrapper Tryz.pinned.checked.prog Rows.topEditsRow.wrapper Rows.topEditsRow.mainSum:=by
 unfold Func.isWrapper;first
 |(rw[if_pos (by decide+kernel)];kernel_rfl)
 |(rw[if_neg (by decide+kernel)];exact⟨rfl,rfl⟩)
theorem over:Rows.topEditsRow.holds Tryz.pinned (OpenSpec.ofChange Rows.topEditsSpec):=
 OpenClaim.holds_of_wide 8 Tryz.f8 rfl rfl rfl rfl rfl rfl rfl ⟨rfl,rfl,rfl,rfl,rfl⟩ rfl rfl rfl rfl rfl Fs Tryz.func8 closed2 NV NW
  (λos started H enc _=>lifted os started H enc)
theorem proved:Rows.TopEditsCardSaid:=
 Claim7.holds_tied_plain_at .later [] [.data,.data,.data,.sentinel,.sentinel] true _ true over (λ_ h=>by cases h) (by kernel_rfl) (λ_ h=>by cases h) topEdits_row_tie rfl ⟨rfl,rfl⟩ (by kernel_rfl) rfl
  (λf fn hf hfn=>by
   obtain rfl:f=8:=Option.some.inj (Fs.symm.trans hf) |>.symm;obtain rfl:fn=Tryz.f8:=(Option.some.inj (Tryz.func8.symm.trans hfn)).symm
   exact⟨by kernel_rfl,λj t ht=>by
    rw[Tryz.params8]at ht;have hm:t∈[24,3,62,54]:=by simpa using Array.mem_of_getElem? ht
    have hall:([24,3,62,54].all λu=>!Tryz.prog.wantsStandIn u)=true:=by kernel_rfl
    exact(show Tryz.prog.wantsStandIn t=false by simpa using List.all_eq_true.1 hall t hm)⟩)
  (by kernel_rfl)
