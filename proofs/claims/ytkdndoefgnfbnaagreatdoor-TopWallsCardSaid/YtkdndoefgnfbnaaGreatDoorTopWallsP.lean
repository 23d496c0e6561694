/- Lemmas of this claim: TopWallsP. -/
import Derived.Test.YtkdndoefgnfbnaaGreatDoorTopWalls
import Derived.Test.YtkdndoefgnfbnaaGreatDoorLibV
import Derived.Test.YtkdndoefgnfbnaaGreatDoorRows
import Derived.Test.YtkdndoefgnfbnaaGreatDoorCards
import Derived.Test.YtkdndoefgnfbnaaGreatDoorTie
import Derived.Lay
import Derived.LaidOnce
import Derived.LaidMore
import Derived.MakeChecks
import Derived.SevenTiedAt
import Derived.WalkKit
import Derived.ProofKit
import Derived.OpenShut
import Derived.ShutString
import Derived.ChangeOld
import Derived.Below
import Derived.Lib.SmallJoins
import Derived.Test.YtkdndoefgnfbnaaGreatDoorKNavC5
import Derived.Test.YtkdndoefgnfbnaaGreatDoorShared
set_option linter.unusedVariables false
set_option linter.unusedSimpArgs false
set_option maxRecDepth 100000
namespace Go.Proofs.YtkdndoefgnfbnaaGreatDoor.topWallsDone
open Go.ChangeShapes Go.WideShapes Go.ChangeAt Go.RowKit Go.Joins
open Go.ChangeMaps (open_string shut_string)
theorem own:ownKnob Tryz.prog.godebug=none:=by kernel_rfl
theorem laidOut:laidOutB Tryz.prog=true:=by kernel_rfl
theorem cellsCost:Tryz.prog.cellsOf 38=2:=by kernel_rfl
theorem lifted (os : Os) (started : os.Started) (H : Type) (enc : TypeId × Value → H) :
    ReturnsInHanded {} Tryz.checked os 12 .any (fun w args=>(Rows.topWallsSpec.pre enc Tryz.prog Tryz.f12 Rows.topWallsRow.domain false w args∧laidMetH Tryz.prog Rows.topWallsRow.laid w)∧sizedMet enc Tryz.prog Tryz.f12 (OpenSpec.ofChange Rows.topWallsSpec) false w args) (Rows.topWallsSpec.post enc Tryz.prog Tryz.f12 false true false false):=by
 refine returns_laid (C:=Tryz.checked) (X:=fun w _=>laidMetH Tryz.prog Rows.topWallsRow.laid w) (fun _ _ _ hh h=>h.of_heap hh) own started (by kernel_rfl) Tryz.func12
  (ChangeSpec.witness_at (enc:=enc) (C:=Tryz.checked) (os:=os) (X:=fun w _=>laidMetH Tryz.prog Rows.topWallsRow.laid w) false (World.laidAll Tryz.prog os Rows.topWallsRow.laid) #[.agg #[.int .i64 0,.int .i64 0,.slice none 0 0],.int .i64 0,.slice none 0 0,.int .i64 0,.int .i64 0] 8 (World.laidAll_os _ _ _) (by kernel_rfl) (by kernel_rfl) (by kernel_rfl) (by kernel_rfl) (by kernel_rfl)
   (by rw [MakeChecks.laidMetH_plain _ _ _ (by kernel_rfl)];exact laidMet_laidAll _ (by kernel_rfl) (by kernel_rfl))) ?_
 intro W base args ds gs before hval0 hW hsh hL0
 have hL:laidMet Tryz.prog Rows.topWallsRow.laid W:=by rw [MakeChecks.laidMetH_plain _ _ _ (by kernel_rfl)] at hL0;exact hL0
 clear hL0;have hV0:LibS W:=libS_of hL hsh;have hval:∀(j:Nat) t v,Tryz.f12.params[j]? = some t→args[j]? = some v→Value.okWide Tryz.prog W .any base t v:=hval0;have hW':=hW;obtain ⟨p,q,hA0,hV,rfl,hfz,hnd⟩:=hW
 have hA:DataW.TrodAll enc Tryz.prog W 0 (fun _=>true) true Tryz.f12.params.toList args.toList ds p:=hA0
 rw [Tryz.params12] at hA hval;obtain ⟨v0,vs0,d0,ds0,p0,q0,hargs,rfl,rfl,h0,r0⟩:=trodAll_cons hA;obtain ⟨v1,vs1,d1,ds1,p1,q1,rfl,rfl,rfl,h1,r1⟩:=trodAll_cons r0;obtain ⟨v2,vs2,d2,ds2,p2,q2,rfl,rfl,rfl,h2,r2⟩:=trodAll_cons r1;obtain ⟨v3,vs3,d3,ds3,p3,q3,rfl,rfl,rfl,h3,r3⟩:=trodAll_cons r2;obtain ⟨v4,vs4,d4,ds4,p4,q4,rfl,rfl,rfl,h4,r4⟩:=trodAll_cons r3;obtain ⟨rfl,rfl,rfl⟩:=trodAll_nil r4
 obtain rfl:args = #[v0,v1,v2,v3,v4]:=by cases args;simp_all
 obtain ⟨rfl,rfl⟩:=trodVars_none hV;have k0:=h0
 have lt0:∀x∈p0,x.block<W.heap.size:=by obtain ⟨m,hm⟩:=k0;exact DataW.trod_lt m _ _ _ hm
 have k1:=h1
 have lt1:∀x∈p1,x.block<W.heap.size:=by obtain ⟨m,hm⟩:=k1;exact DataW.trod_lt m _ _ _ hm
 have k2:=h2
 have lt2:∀x∈p2,x.block<W.heap.size:=by obtain ⟨m,hm⟩:=k2;exact DataW.trod_lt m _ _ _ hm
 have k3:=h3
 have lt3:∀x∈p3,x.block<W.heap.size:=by obtain ⟨m,hm⟩:=k3;exact DataW.trod_lt m _ _ _ hm
 have k4:=h4
 have lt4:∀x∈p4,x.block<W.heap.size:=by obtain ⟨m,hm⟩:=k4;exact DataW.trod_lt m _ _ _ hm
 obtain ⟨pa0,pb0,pA0,pn0,pm0,pf0,rfl,hs0⟩:=open_plot (hval 0 24 v0 rfl rfl) h0;obtain ⟨x1,rfl,rfl,rfl,w1⟩:=open_int Tryz.underlying3 (hval 1 3 v1 rfl rfl) h1;obtain ⟨sA2,sn2,sm2,sf2,rfl,hs2⟩:=open_ints' (hval 2 22 v2 rfl rfl) h2;obtain ⟨x3,rfl,rfl,rfl,w3⟩:=open_int Tryz.underlying3 (hval 3 3 v3 rfl rfl) h3;obtain ⟨x4,rfl,rfl,rfl,w4⟩:=open_int Tryz.underlying3 (hval 4 3 v4 rfl rfl) h4;clear hA0 hval0
 refine (topWalls W hV0 pa0 pb0 pA0 pn0 pm0 pf0 hs0 x1 (wf_bd w1) sA2 sn2 sm2 sf2 hs2 x3 (wf_bd w3) x4 (wf_bd w4)).mono fun e W' ⟨he,bel⟩=>?_
 subst he
 exact ⟨_,rfl,_,_,_,[],_,[],hW',trodAll_mk1 (shut_bool Tryz.underlying4 _),(trodAll_cons_mk (Below.trod laidOut (by kernel_rfl) (of_decide_eq_true (by kernel_rfl)) k0 bel lt0) (trodAll_cons_mk (Below.trod laidOut (by kernel_rfl) (of_decide_eq_true (by kernel_rfl)) k1 bel lt1) (trodAll_cons_mk (Below.trod laidOut (by kernel_rfl) (of_decide_eq_true (by kernel_rfl)) k2 bel lt2) (trodAll_cons_mk (Below.trod laidOut (by kernel_rfl) (of_decide_eq_true (by kernel_rfl)) k3 bel lt3) (trodAll_cons_mk (Below.trod laidOut (by kernel_rfl) (of_decide_eq_true (by kernel_rfl)) k4 bel lt4) trodAll_mk0))))),rfl,bel.frame _,fun h=>by cases h⟩
theorem closed1:Tryz.pinned.checked.prog.funcNamed Rows.topWallsRow.func=some 12:=by kernel_rfl
def cf0 (P:Program) (f:FuncId) (fn:Func) (s:ChangeSpec) (c:OpenClaim):Bool:=c.wf (OpenSpec.ofChange s)
def cf1 (P:Program) (f:FuncId) (fn:Func) (s:ChangeSpec) (c:OpenClaim):Bool:=laidOutB P
def cf2 (P:Program) (f:FuncId) (fn:Func) (s:ChangeSpec) (c:OpenClaim):Bool:=mapsRowed P
def cf3 (P:Program) (f:FuncId) (fn:Func) (s:ChangeSpec) (c:OpenClaim):Bool:=fn.params.all (P.readableRec ·)
def cf4 (P:Program) (f:FuncId) (fn:Func) (s:ChangeSpec) (c:OpenClaim):Bool:=namedTie P c.named s.vars
def cf5 (P:Program) (f:FuncId) (fn:Func) (s:ChangeSpec) (c:OpenClaim):Bool:=(c.stops == [])
def cf6 (P:Program) (f:FuncId) (fn:Func) (s:ChangeSpec) (c:OpenClaim):Bool:=(P.stops == [])
def cf7 (P:Program) (f:FuncId) (fn:Func) (s:ChangeSpec) (c:OpenClaim):Bool:=(c.knobs == [])
def cf8 (P:Program) (f:FuncId) (fn:Func) (s:ChangeSpec) (c:OpenClaim):Bool:=(P.stopKnobs == [])
def cf9 (P:Program) (f:FuncId) (fn:Func) (s:ChangeSpec) (c:OpenClaim):Bool:=(c.inPlace == P.inPlace f)
def cf10 (P:Program) (f:FuncId) (fn:Func) (s:ChangeSpec) (c:OpenClaim):Bool:=(c.unfollowed == P.unfollowed f)
def cf11 (P:Program) (f:FuncId) (fn:Func) (s:ChangeSpec) (c:OpenClaim):Bool:=(c.recurses == P.recurses f)
def cf12 (P:Program) (f:FuncId) (fn:Func) (s:ChangeSpec) (c:OpenClaim):Bool:=(c.named == P.varsNamed f)
def cf13 (P:Program) (f:FuncId) (fn:Func) (s:ChangeSpec) (c:OpenClaim):Bool:=(c.maps == (fn.params.toList ++ s.plain.varTypes P).any (P.mapsRec ·))
def cf14 (P:Program) (f:FuncId) (fn:Func) (s:ChangeSpec) (c:OpenClaim):Bool:=(c.ifaces == (fn.params.toList ++ s.plain.varTypes P).any (P.ifacesRec ·))
def cf15 (P:Program) (f:FuncId) (fn:Func) (s:ChangeSpec) (c:OpenClaim):Bool:=(c.mapsOut == P.mapsAmong fn.resultTypes.toList)
def cf16 (P:Program) (f:FuncId) (fn:Func) (s:ChangeSpec) (c:OpenClaim):Bool:=(c.loops == (fn.params.toList ++ s.plain.varTypes P).any (P.loopsFrom ·))
def cf17 (P:Program) (f:FuncId) (fn:Func) (s:ChangeSpec) (c:OpenClaim):Bool:=(c.wideKeys == (fn.params.toList ++ s.plain.varTypes P ++ fn.resultTypes.toList).any (P.wideKeysFrom ·))
def cf18 (P:Program) (f:FuncId) (fn:Func) (s:ChangeSpec) (c:OpenClaim):Bool:=s.vars.all (P.varReadable ·)
def cf19 (P:Program) (f:FuncId) (fn:Func) (s:ChangeSpec) (c:OpenClaim):Bool:=fn.resultTypes.all (fun t=>P.readableRec t && decide (t<P.types.size))
def cf20 (P:Program) (f:FuncId) (fn:Func) (s:ChangeSpec) (c:OpenClaim):Bool:=(c.ifacesOut == fn.resultTypes.toList.any (P.ifacesRec ·))
def cf21 (P:Program) (f:FuncId) (fn:Func) (s:ChangeSpec) (c:OpenClaim):Bool:=(c.loopsOut == fn.resultTypes.toList.any (P.loopsFrom ·))
def cf22 (P:Program) (f:FuncId) (fn:Func) (s:ChangeSpec) (c:OpenClaim):Bool:=(c.plainKeys == P.plainKeys)
def cf23 (P:Program) (f:FuncId) (fn:Func) (s:ChangeSpec) (c:OpenClaim):Bool:=c.shortTexts.isNone
def cf24 (P:Program) (f:FuncId) (fn:Func) (s:ChangeSpec) (c:OpenClaim):Bool:=P.stopsHeard
def cf25 (P:Program) (f:FuncId) (fn:Func) (s:ChangeSpec) (c:OpenClaim):Bool:=P.mayEnter
def cf26 (P:Program) (f:FuncId) (fn:Func) (s:ChangeSpec) (c:OpenClaim):Bool:=(c.lifted == P.liftsFinal)
def cf27 (P:Program) (f:FuncId) (fn:Func) (s:ChangeSpec) (c:OpenClaim):Bool:=(P.make == some c.make)
def cf28 (P:Program) (f:FuncId) (fn:Func) (s:ChangeSpec) (c:OpenClaim):Bool:=(c.kinds == (if c.domain.isEmpty then [] else fn.params.toList.map fun t=>match P.underlying t with | some (.int k)=>some k | _=>none))
def cf29 (P:Program) (f:FuncId) (fn:Func) (s:ChangeSpec) (c:OpenClaim):Bool:=(c.pinned == c.pinnedBy)
def cf30 (P:Program) (f:FuncId) (fn:Func) (s:ChangeSpec) (c:OpenClaim):Bool:=(c.veiled == (fn.params.toList ++ s.plain.varTypes P ++ fn.resultTypes.toList).any (P.veiledRec ·))
def cf31 (P:Program) (f:FuncId) (fn:Func) (s:ChangeSpec) (c:OpenClaim):Bool:=c.veiledFits P fn.params.toList (fn.params.toList ++ s.plain.varTypes P ++ fn.resultTypes.toList)
theorem cl0:cf0 Tryz.pinned.checked.prog 12 Tryz.f12 Rows.topWallsSpec Rows.topWallsRow=true:=by kernel_rfl
theorem cl1:cf1 Tryz.pinned.checked.prog 12 Tryz.f12 Rows.topWallsSpec Rows.topWallsRow=true:=by kernel_rfl
theorem cl2:cf2 Tryz.pinned.checked.prog 12 Tryz.f12 Rows.topWallsSpec Rows.topWallsRow=true:=by kernel_rfl
theorem cl3:cf3 Tryz.pinned.checked.prog 12 Tryz.f12 Rows.topWallsSpec Rows.topWallsRow=true:=by kernel_rfl
theorem cl4:cf4 Tryz.pinned.checked.prog 12 Tryz.f12 Rows.topWallsSpec Rows.topWallsRow=true:=by kernel_rfl
theorem cl5:cf5 Tryz.pinned.checked.prog 12 Tryz.f12 Rows.topWallsSpec Rows.topWallsRow=true:=by kernel_rfl
theorem cl6:cf6 Tryz.pinned.checked.prog 12 Tryz.f12 Rows.topWallsSpec Rows.topWallsRow=true:=by kernel_rfl
theorem cl7:cf7 Tryz.pinned.checked.prog 12 Tryz.f12 Rows.topWallsSpec Rows.topWallsRow=true:=by kernel_rfl
theorem cl8:cf8 Tryz.pinned.checked.prog 12 Tryz.f12 Rows.topWallsSpec Rows.topWallsRow=true:=by kernel_rfl
theorem cl9:cf9 Tryz.pinned.checked.prog 12 Tryz.f12 Rows.topWallsSpec Rows.topWallsRow=true:=by kernel_rfl
theorem cl10:cf10 Tryz.pinned.checked.prog 12 Tryz.f12 Rows.topWallsSpec Rows.topWallsRow=true:=by kernel_rfl
theorem cl11:cf11 Tryz.pinned.checked.prog 12 Tryz.f12 Rows.topWallsSpec Rows.topWallsRow=true:=by kernel_rfl
theorem cl12:cf12 Tryz.pinned.checked.prog 12 Tryz.f12 Rows.topWallsSpec Rows.topWallsRow=true:=by kernel_rfl
theorem cl13:cf13 Tryz.pinned.checked.prog 12 Tryz.f12 Rows.topWallsSpec Rows.topWallsRow=true:=by kernel_rfl
theorem cl14:cf14 Tryz.pinned.checked.prog 12 Tryz.f12 Rows.topWallsSpec Rows.topWallsRow=true:=by kernel_rfl
theorem cl15:cf15 Tryz.pinned.checked.prog 12 Tryz.f12 Rows.topWallsSpec Rows.topWallsRow=true:=by kernel_rfl
theorem cl16:cf16 Tryz.pinned.checked.prog 12 Tryz.f12 Rows.topWallsSpec Rows.topWallsRow=true:=by kernel_rfl
theorem cl17:cf17 Tryz.pinned.checked.prog 12 Tryz.f12 Rows.topWallsSpec Rows.topWallsRow=true:=by kernel_rfl
theorem cl18:cf18 Tryz.pinned.checked.prog 12 Tryz.f12 Rows.topWallsSpec Rows.topWallsRow=true:=by kernel_rfl
theorem cl19:cf19 Tryz.pinned.checked.prog 12 Tryz.f12 Rows.topWallsSpec Rows.topWallsRow=true:=by kernel_rfl
theorem cl20:cf20 Tryz.pinned.checked.prog 12 Tryz.f12 Rows.topWallsSpec Rows.topWallsRow=true:=by kernel_rfl
theorem cl21:cf21 Tryz.pinned.checked.prog 12 Tryz.f12 Rows.topWallsSpec Rows.topWallsRow=true:=by kernel_rfl
theorem cl22:cf22 Tryz.pinned.checked.prog 12 Tryz.f12 Rows.topWallsSpec Rows.topWallsRow=true:=by kernel_rfl
theorem cl23:cf23 Tryz.pinned.checked.prog 12 Tryz.f12 Rows.topWallsSpec Rows.topWallsRow=true:=by kernel_rfl
theorem cl24:cf24 Tryz.pinned.checked.prog 12 Tryz.f12 Rows.topWallsSpec Rows.topWallsRow=true:=by kernel_rfl
theorem cl25:cf25 Tryz.pinned.checked.prog 12 Tryz.f12 Rows.topWallsSpec Rows.topWallsRow=true:=shMayEnter
theorem cl26:cf26 Tryz.pinned.checked.prog 12 Tryz.f12 Rows.topWallsSpec Rows.topWallsRow=true:=shLifts
theorem cl27:cf27 Tryz.pinned.checked.prog 12 Tryz.f12 Rows.topWallsSpec Rows.topWallsRow=true:=by kernel_rfl
theorem cl28:cf28 Tryz.pinned.checked.prog 12 Tryz.f12 Rows.topWallsSpec Rows.topWallsRow=true:=by kernel_rfl
theorem cl29:cf29 Tryz.pinned.checked.prog 12 Tryz.f12 Rows.topWallsSpec Rows.topWallsRow=true:=by kernel_rfl
theorem cl30:cf30 Tryz.pinned.checked.prog 12 Tryz.f12 Rows.topWallsSpec Rows.topWallsRow=true:=by kernel_rfl
theorem cl31:cf31 Tryz.pinned.checked.prog 12 Tryz.f12 Rows.topWallsSpec Rows.topWallsRow=true:=by kernel_rfl
theorem cfAll (P:Program) (f:FuncId) (fn:Func) (s:ChangeSpec) (c:OpenClaim):joinedFacts P f fn s c=(cf0 P f fn s c && cf1 P f fn s c && cf2 P f fn s c && cf3 P f fn s c && cf4 P f fn s c && cf5 P f fn s c && cf6 P f fn s c && cf7 P f fn s c && cf8 P f fn s c && cf9 P f fn s c && cf10 P f fn s c && cf11 P f fn s c && cf12 P f fn s c && cf13 P f fn s c && cf14 P f fn s c && cf15 P f fn s c && cf16 P f fn s c && cf17 P f fn s c && cf18 P f fn s c && cf19 P f fn s c && cf20 P f fn s c && cf21 P f fn s c && cf22 P f fn s c && cf23 P f fn s c && cf24 P f fn s c && cf25 P f fn s c && cf26 P f fn s c && cf27 P f fn s c && cf28 P f fn s c && cf29 P f fn s c && cf30 P f fn s c && cf31 P f fn s c):=rfl
theorem closed2:joinedFacts Tryz.pinned.checked.prog 12 Tryz.f12 Rows.topWallsSpec Rows.topWallsRow=true:=by
 rw [cfAll,cl0,cl1,cl2,cl3,cl4,cl5,cl6,cl7,cl8,cl9,cl10,cl11,cl12,cl13,cl14,cl15,cl16,cl17,cl18,cl19,cl20,cl21,cl22,cl23,cl24,cl25,cl26,cl27,cl28,cl29,cl30,cl31]
 rfl
theorem closed3:Tryz.f12.isInstance Tryz.pinned.checked.prog Rows.topWallsRow.origin Rows.topWallsRow.targs:=of_decide_eq_true (by kernel_rfl)
theorem closed4:Tryz.f12.isWrapper Tryz.pinned.checked.prog Rows.topWallsRow.wrapper Rows.topWallsRow.mainSum:=by
 unfold Func.isWrapper
 first
 | (rw [if_pos (by decide +kernel)];kernel_rfl)
 | (rw [if_neg (by decide +kernel)];exact ⟨rfl,rfl⟩)
theorem over:Rows.topWallsRow.holds Tryz.pinned (OpenSpec.ofChange Rows.topWallsSpec):=
 OpenClaim.holds_of_wide 12 Tryz.f12 rfl rfl rfl rfl rfl rfl rfl ⟨rfl,rfl,rfl,rfl,rfl⟩ rfl rfl rfl rfl rfl closed1 Tryz.func12 closed2 closed3 closed4
  (fun os started H enc _=>lifted os started H enc)
theorem proved:Rows.TopWallsCardSaid:=
 Claim7.holds_tied_plain_at .later [] [.data,.data,.data,.sentinel,.sentinel] true _ true over (fun _ h=>by cases h) (by kernel_rfl) (fun _ h=>by cases h) topWalls_row_tie rfl ⟨rfl,rfl⟩ (by kernel_rfl) rfl
  (fun f fn hf hfn=>by
   obtain rfl:f=12:=Option.some.inj (closed1.symm.trans hf) |>.symm
   obtain rfl:fn=Tryz.f12:=(Option.some.inj (Tryz.func12.symm.trans hfn)).symm
   exact ⟨by kernel_rfl,fun j t ht=>by
    rw [Tryz.params12] at ht
    have hm:t∈[24,3,22,3,3]:=by simpa using Array.mem_of_getElem? ht
    have hall:([24,3,22,3,3].all fun u=>!Tryz.prog.wantsStandIn u)=true:=by kernel_rfl
    exact (show Tryz.prog.wantsStandIn t=false by simpa using List.all_eq_true.1 hall t hm)⟩)
  (by kernel_rfl)
end Go.Proofs.YtkdndoefgnfbnaaGreatDoor.topWallsDone
