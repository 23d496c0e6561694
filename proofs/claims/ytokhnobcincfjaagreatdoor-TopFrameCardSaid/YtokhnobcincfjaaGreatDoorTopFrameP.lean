/- Lemmas of this claim: TopFrameP. -/
import Derived.Test.YtokhnobcincfjaaGreatDoorTopFrame
import Derived.Test.YtokhnobcincfjaaGreatDoorLibV
import Derived.Test.YtokhnobcincfjaaGreatDoorRows
import Derived.Test.YtokhnobcincfjaaGreatDoorCards
import Derived.Test.YtokhnobcincfjaaGreatDoorTie
import Derived.Lay
import Derived.LaidOnce
import Derived.LaidMore
import Derived.MakeChecks
import Derived.SevenTiedAt
import Derived.WalkKit
import Derived.ProofKit
import Derived.OpenShut
import Derived.ShutString
import Derived.ChangeOld
import Derived.Below
import Derived.Lib.SmallJoins
import Derived.Test.YtokhnobcincfjaaGreatDoorKNFr6
import Derived.Test.YtokhnobcincfjaaGreatDoorShared
set_option linter.unusedVariables false
set_option linter.unusedSimpArgs false
set_option maxRecDepth 100000
namespace Go.Proofs.YtokhnobcincfjaaGreatDoor.topFrameDone
open Go.ChangeShapes Go.WideShapes Go.ChangeAt Go.RowKit Go.Joins
open Go.ChangeMaps (open_string shut_string)
theorem own:ownKnob Tryz.prog.godebug=none:=by kernel_rfl
theorem laidOut:laidOutB Tryz.prog=true:=by kernel_rfl
theorem cellsCost:Tryz.prog.cellsOf 44=2:=by kernel_rfl
theorem lifted (os : Os) (started : os.Started) (H : Type) (enc : TypeId × Value → H) :
    ReturnsInHanded {} Tryz.checked os 4 .any (fun w args=>(Rows.topFrameSpec.pre enc Tryz.prog Tryz.f4 Rows.topFrameRow.domain false w args∧laidMetH Tryz.prog Rows.topFrameRow.laid w)∧sizedMet enc Tryz.prog Tryz.f4 (OpenSpec.ofChange Rows.topFrameSpec) false w args) (Rows.topFrameSpec.post enc Tryz.prog Tryz.f4 false true false false):=by
 refine returns_laid (C:=Tryz.checked) (X:=fun w _=>laidMetH Tryz.prog Rows.topFrameRow.laid w) (fun _ _ _ hh h=>h.of_heap hh) own started (by kernel_rfl) Tryz.func4
  (ChangeSpec.witness_at (enc:=enc) (C:=Tryz.checked) (os:=os) (X:=fun w _=>laidMetH Tryz.prog Rows.topFrameRow.laid w) false (World.laidAll Tryz.prog os Rows.topFrameRow.laid) #[.agg #[.int .i64 0,.int .i64 0,.slice none 0 0],.int .i64 0,.int .i64 0,.int .i64 0] 8 (World.laidAll_os _ _ _) (by kernel_rfl) (by kernel_rfl) (by kernel_rfl) (by kernel_rfl) (by kernel_rfl)
   (by rw [MakeChecks.laidMetH_plain _ _ _ (by kernel_rfl)];exact laidMet_laidAll _ (by kernel_rfl) (by kernel_rfl))) ?_
 intro W base args ds gs before hval0 hW hsh hL0
 have hL:laidMet Tryz.prog Rows.topFrameRow.laid W:=by rw [MakeChecks.laidMetH_plain _ _ _ (by kernel_rfl)] at hL0;exact hL0
 clear hL0;have hV0:LibS W:=libS_of hL hsh;have hval:∀(j:Nat) t v,Tryz.f4.params[j]? = some t→args[j]? = some v→Value.okWide Tryz.prog W .any base t v:=hval0;have hW':=hW;obtain ⟨p,q,hA0,hV,rfl,hfz,hnd⟩:=hW
 have hA:DataW.TrodAll enc Tryz.prog W 0 (fun _=>true) true Tryz.f4.params.toList args.toList ds p:=hA0
 rw [Tryz.params4] at hA hval;obtain ⟨v0,vs0,d0,ds0,p0,q0,hargs,rfl,rfl,h0,r0⟩:=trodAll_cons hA;obtain ⟨v1,vs1,d1,ds1,p1,q1,rfl,rfl,rfl,h1,r1⟩:=trodAll_cons r0;obtain ⟨v2,vs2,d2,ds2,p2,q2,rfl,rfl,rfl,h2,r2⟩:=trodAll_cons r1;obtain ⟨v3,vs3,d3,ds3,p3,q3,rfl,rfl,rfl,h3,r3⟩:=trodAll_cons r2;obtain ⟨rfl,rfl,rfl⟩:=trodAll_nil r3
 obtain rfl:args = #[v0,v1,v2,v3]:=by cases args;simp_all
 obtain ⟨rfl,rfl⟩:=trodVars_none hV;have k0:=h0
 have lt0:∀x∈p0,x.block<W.heap.size:=by obtain ⟨m,hm⟩:=k0;exact DataW.trod_lt m _ _ _ hm
 have k1:=h1
 have lt1:∀x∈p1,x.block<W.heap.size:=by obtain ⟨m,hm⟩:=k1;exact DataW.trod_lt m _ _ _ hm
 have k2:=h2
 have lt2:∀x∈p2,x.block<W.heap.size:=by obtain ⟨m,hm⟩:=k2;exact DataW.trod_lt m _ _ _ hm
 have k3:=h3
 have lt3:∀x∈p3,x.block<W.heap.size:=by obtain ⟨m,hm⟩:=k3;exact DataW.trod_lt m _ _ _ hm
 obtain ⟨pa0,pb0,pA0,pn0,pm0,pf0,rfl,hs0⟩:=open_plot (hval 0 24 v0 rfl rfl) h0;obtain ⟨x1,rfl,rfl,rfl,w1⟩:=open_int Tryz.underlying3 (hval 1 3 v1 rfl rfl) h1;obtain ⟨x2,rfl,rfl,rfl,w2⟩:=open_int Tryz.underlying3 (hval 2 3 v2 rfl rfl) h2;obtain ⟨x3,rfl,rfl,rfl,w3⟩:=open_int Tryz.underlying3 (hval 3 3 v3 rfl rfl) h3;clear hA0 hval0
 refine (topFrame W hV0 pa0 pb0 pA0 pn0 pm0 pf0 hs0 x1 (wf_bd w1) x2 (wf_bd w2) x3 (wf_bd w3)).mono fun e W' ⟨he,bel⟩=>?_
 subst he
 exact ⟨_,rfl,_,_,_,[],_,[],hW',trodAll_mk1 (shut_bool Tryz.underlying4 _),(trodAll_cons_mk (Below.trod laidOut (by kernel_rfl) (of_decide_eq_true (by kernel_rfl)) k0 bel lt0) (trodAll_cons_mk (Below.trod laidOut (by kernel_rfl) (of_decide_eq_true (by kernel_rfl)) k1 bel lt1) (trodAll_cons_mk (Below.trod laidOut (by kernel_rfl) (of_decide_eq_true (by kernel_rfl)) k2 bel lt2) (trodAll_cons_mk (Below.trod laidOut (by kernel_rfl) (of_decide_eq_true (by kernel_rfl)) k3 bel lt3) trodAll_mk0)))),rfl,bel.frame _,fun h=>by cases h⟩
theorem closed1:Tryz.pinned.checked.prog.funcNamed Rows.topFrameRow.func=some 4:=by kernel_rfl
def cf0 (P:Program) (f:FuncId) (fn:Func) (s:ChangeSpec) (c:OpenClaim):Bool:=c.wf (OpenSpec.ofChange s) && laidOutB P && mapsRowed P && fn.params.all (P.readableRec ·) && namedTie P c.named s.vars && (c.stops == []) && (P.stops == []) && (c.knobs == []) && (P.stopKnobs == []) && (c.inPlace == P.inPlace f) && (c.unfollowed == P.unfollowed f) && (c.recurses == P.recurses f) && (c.named == P.varsNamed f) && (c.maps == (fn.params.toList ++ s.plain.varTypes P).any (P.mapsRec ·)) && (c.ifaces == (fn.params.toList ++ s.plain.varTypes P).any (P.ifacesRec ·)) && (c.mapsOut == P.mapsAmong fn.resultTypes.toList) && (c.loops == (fn.params.toList ++ s.plain.varTypes P).any (P.loopsFrom ·)) && (c.wideKeys == (fn.params.toList ++ s.plain.varTypes P ++ fn.resultTypes.toList).any (P.wideKeysFrom ·)) && s.vars.all (P.varReadable ·) && fn.resultTypes.all (fun t=>P.readableRec t && decide (t<P.types.size)) && (c.ifacesOut == fn.resultTypes.toList.any (P.ifacesRec ·)) && (c.loopsOut == fn.resultTypes.toList.any (P.loopsFrom ·)) && (c.plainKeys == P.plainKeys) && c.shortTexts.isNone && P.stopsHeard
def cf1 (P:Program) (f:FuncId) (fn:Func) (s:ChangeSpec) (c:OpenClaim):Bool:=P.mayEnter
def cf2 (P:Program) (f:FuncId) (fn:Func) (s:ChangeSpec) (c:OpenClaim):Bool:=(c.lifted == P.liftsFinal)
def cf3 (P:Program) (f:FuncId) (fn:Func) (s:ChangeSpec) (c:OpenClaim):Bool:=(P.make == some c.make)
def cf4 (P:Program) (f:FuncId) (fn:Func) (s:ChangeSpec) (c:OpenClaim):Bool:=(c.kinds == (if c.domain.isEmpty then [] else fn.params.toList.map fun t=>match P.underlying t with | some (.int k)=>some k | _=>none))
def cf5 (P:Program) (f:FuncId) (fn:Func) (s:ChangeSpec) (c:OpenClaim):Bool:=(c.pinned == c.pinnedBy)
def cf6 (P:Program) (f:FuncId) (fn:Func) (s:ChangeSpec) (c:OpenClaim):Bool:=(c.veiled == (fn.params.toList ++ s.plain.varTypes P ++ fn.resultTypes.toList).any (P.veiledRec ·))
def cf7 (P:Program) (f:FuncId) (fn:Func) (s:ChangeSpec) (c:OpenClaim):Bool:=c.veiledFits P fn.params.toList (fn.params.toList ++ s.plain.varTypes P ++ fn.resultTypes.toList)
theorem cl0:cf0 Tryz.pinned.checked.prog 4 Tryz.f4 Rows.topFrameSpec Rows.topFrameRow=true:=by kernel_rfl
theorem cl1:cf1 Tryz.pinned.checked.prog 4 Tryz.f4 Rows.topFrameSpec Rows.topFrameRow=true:=shMayEnter
theorem cl2:cf2 Tryz.pinned.checked.prog 4 Tryz.f4 Rows.topFrameSpec Rows.topFrameRow=true:=shLifts
theorem cl3:cf3 Tryz.pinned.checked.prog 4 Tryz.f4 Rows.topFrameSpec Rows.topFrameRow=true:=by kernel_rfl
theorem cl4:cf4 Tryz.pinned.checked.prog 4 Tryz.f4 Rows.topFrameSpec Rows.topFrameRow=true:=by kernel_rfl
theorem cl5:cf5 Tryz.pinned.checked.prog 4 Tryz.f4 Rows.topFrameSpec Rows.topFrameRow=true:=by kernel_rfl
theorem cl6:cf6 Tryz.pinned.checked.prog 4 Tryz.f4 Rows.topFrameSpec Rows.topFrameRow=true:=by kernel_rfl
theorem cl7:cf7 Tryz.pinned.checked.prog 4 Tryz.f4 Rows.topFrameSpec Rows.topFrameRow=true:=by kernel_rfl
theorem cfAll (P:Program) (f:FuncId) (fn:Func) (s:ChangeSpec) (c:OpenClaim):joinedFacts P f fn s c=(cf0 P f fn s c && cf1 P f fn s c && cf2 P f fn s c && cf3 P f fn s c && cf4 P f fn s c && cf5 P f fn s c && cf6 P f fn s c && cf7 P f fn s c):=rfl
theorem closed2:joinedFacts Tryz.pinned.checked.prog 4 Tryz.f4 Rows.topFrameSpec Rows.topFrameRow=true:=by
 rw [cfAll,cl0,cl1,cl2,cl3,cl4,cl5,cl6,cl7]
 rfl
theorem closed3:Tryz.f4.isInstance Tryz.pinned.checked.prog Rows.topFrameRow.origin Rows.topFrameRow.targs:=of_decide_eq_true (by kernel_rfl)
theorem closed4:Tryz.f4.isWrapper Tryz.pinned.checked.prog Rows.topFrameRow.wrapper Rows.topFrameRow.mainSum:=by
 unfold Func.isWrapper
 first
 | (rw [if_pos (by decide +kernel)];kernel_rfl)
 | (rw [if_neg (by decide +kernel)];exact ⟨rfl,rfl⟩)
theorem over:Rows.topFrameRow.holds Tryz.pinned (OpenSpec.ofChange Rows.topFrameSpec):=
 OpenClaim.holds_of_wide 4 Tryz.f4 rfl rfl rfl rfl rfl rfl rfl ⟨rfl,rfl,rfl,rfl,rfl⟩ rfl rfl rfl rfl rfl closed1 Tryz.func4 closed2 closed3 closed4
  (fun os started H enc _=>lifted os started H enc)
theorem proved:Rows.TopFrameCardSaid:=
 Claim7.holds_tied_plain_at .later [] [.data,.data,.data,.sentinel,.sentinel] true _ true over (fun _ h=>by cases h) (by kernel_rfl) (fun _ h=>by cases h) topFrame_row_tie rfl ⟨rfl,rfl⟩ (by kernel_rfl) rfl
  (fun f fn hf hfn=>by
   obtain rfl:f=4:=Option.some.inj (closed1.symm.trans hf) |>.symm
   obtain rfl:fn=Tryz.f4:=(Option.some.inj (Tryz.func4.symm.trans hfn)).symm
   exact ⟨by kernel_rfl,fun j t ht=>by
    rw [Tryz.params4] at ht
    have hm:t∈[24,3,3,3]:=by simpa using Array.mem_of_getElem? ht
    have hall:([24,3,3,3].all fun u=>!Tryz.prog.wantsStandIn u)=true:=by kernel_rfl
    exact (show Tryz.prog.wantsStandIn t=false by simpa using List.all_eq_true.1 hall t hm)⟩)
  (by kernel_rfl)
end Go.Proofs.YtokhnobcincfjaaGreatDoor.topFrameDone
