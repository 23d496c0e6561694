/- Lemmas of this claim: RLv7a. -/
import Derived.Test.YtjejkadaafmdcaaGreatKLevelsSays29
import Derived.Deep.CutBlock
set_option linter.unusedVariables false
set_option linter.unusedSimpArgs false
/- The document's round: two of its loops. (Written by rl7gen.py.) -/
namespace Go.Proofs.YtjejkadaafmdcaaGreat
open Go.RowKit Go.Sort FR Go.Lib
theorem pairsL_len : ∀ l : List Nat, (LS.pairsL l).length ≤ l.length * l.length
  | [] => by simp [LS.pairsL]
  | a :: l => by
    have := pairsL_len l
    unfold LS.pairsL
    rw [List.length_append, List.length_map, List.length_cons, Nat.add_mul, Nat.mul_add]
    omega
/-- two rows of one's own, and labels beside them -/
def BlI (W w : World) (mc mi : Nat) (L : Nat → Option C) (F : List Int) (M : List Ed) (v11 v12 : Value) : Prop :=
  OwnI w W.heap.size v11 F ∧ OwnE w W.heap.size v12 M ∧ Apart v11 v12 ∧ LabP w w mc mi L ∧ (∀ q, v11.ownBlock = some q → q ≠ mc ∧ q ≠ mi) ∧ (∀ q, v12.ownBlock = some q → q ≠ mc ∧ q ≠ mi) ∧ Below W.heap.size W w
theorem LabP.self {W w w' : World} {mc mi : Nat} {L : Nat → Option C} {T : List Nat} (h : LabP W w mc mi L) (hk : Kept T w w') (hT : mc ∉ T ∧ mi ∉ T) : LabP w' w' mc mi L := by
  obtain ⟨⟨n1, h1⟩, ⟨n2, h2⟩, _⟩ := h
  exact ⟨⟨n1, h1.kept hk hT.1⟩, ⟨n2, h2.kept hk hT.2⟩, Kept.refl _ _⟩
theorem grown_kept {w w' : World} {v : Value} (h : w.grownBy w' v.ownBlock) : Kept v.ownBlock.toList w w' := ⟨h.os, h.tape, h.output, h.size, fun q hq hn => h.block q hq (fun e => hn (by rw [← e]; simp))⟩
theorem BlI.below {W w w' : World} {mc mi : Nat} {L : Nat → Option C} {F : List Int} {M : List Ed} {v11 v12 : Value} (h : BlI W w mc mi L F M v11 v12) (hb : Below w.heap.size w w') : BlI W w' mc mi L F M v11 v12 := by
  obtain ⟨h1, h2, h3, h4, h5, h6, h7⟩ := h
  exact ⟨OwnI.below (B' := W.heap.size) h1 hb, h2.kept (T := []) (.of_below hb) (fun _ _ => by simp), h3, h4.self (T := []) (.of_below hb) (by simp), h5, h6, bel_trans h7 hb⟩
theorem BlI.int {W w w' : World} {mc mi : Nat} {L : Nat → Option C} {F F' : List Int} {M : List Ed} {v11 v12 v' : Value} (h : BlI W w mc mi L F M v11 v12) (ho : OwnI w' W.heap.size v' F') (hg : w.grownBy w' v11.ownBlock) (hat : v'.ownBlock = v11.ownBlock ∨ v'.ownBlock = some w.heap.size) : BlI W w' mc mi L F' M v' v12 := by
  obtain ⟨h1, h2, h3, h4, h5, h6, h7⟩ := h
  have hk := grown_kept hg
  have hl := h4.lt
  refine ⟨ho, h2.kept hk (fun q hq hm => ?_), h3.grown (w' := w) hat (fun q hq => h2.lt hq), h4.self hk ⟨fun hm => ?_, fun hm => ?_⟩, fun q hq => ?_, h6, below_grown h7 h7.size h1 hg⟩
  · rw [Option.mem_toList] at hm
    exact h3 q hm hq
  · rw [Option.mem_toList] at hm
    exact (h5 _ hm).1 rfl
  · rw [Option.mem_toList] at hm
    exact (h5 _ hm).2 rfl
  · rcases hat with e | e
    · exact h5 q (by rw [← e]; exact hq)
    · rw [e] at hq; injection hq with hq; omega
theorem BlI.edge {W w w' : World} {mc mi : Nat} {L : Nat → Option C} {F : List Int} {M M' : List Ed} {v11 v12 v' : Value} (h : BlI W w mc mi L F M v11 v12) (ho : OwnE w' W.heap.size v' M') (hg : w.grownBy w' v12.ownBlock) (hat : v'.ownBlock = v12.ownBlock ∨ v'.ownBlock = some w.heap.size) : BlI W w' mc mi L F M' v11 v' := by
  obtain ⟨h1, h2, h3, h4, h5, h6, h7⟩ := h
  have hk := grown_kept hg
  have hl := h4.lt
  refine ⟨World.ownsRow.kept (row := v12.ownBlock) h1 hg ?_, ho, (h3.symm.grown (w' := w) hat (fun q hq => (World.ownsRow.lt h1 q hq).2)).symm, h4.self hk ⟨fun hm => ?_, fun hm => ?_⟩, h5, fun q hq => ?_, h7.grown hg h7.size (fun k hk => (World.ownsRow.lt h2 k hk).1)⟩
  · cases hv : v11.ownBlock with
    | none => exact .inl rfl
    | some q => exact .inr (fun e => h3 q hv e.symm)
  · rw [Option.mem_toList] at hm
    exact (h6 _ hm).1 rfl
  · rw [Option.mem_toList] at hm
    exact (h6 _ hm).2 rfl
  · rcases hat with e | e
    · exact h6 q (by rw [← e]; exact hq)
    · rw [e] at hq; injection hq with hq; omega
/-- the document's round at work -/
def RdR (W w : World) (b ml me mn : Nat) (tp : Nat) (g : G) (R : RS) : Prop :=
  ∃ Sb c nl, LvR w b ml me Sb (tp : Nat) (levR g R.S) nl (egE g R.S) ∧ MapAt iK w mn (nearV R.near) c ∧ mn ∉ Sb ∧ Kept [mn, ml, me] W w
theorem RdR.below {W w w' : World} {b ml me mn : Nat} {tp : Nat} {g : G} {R : RS} (h : RdR W w b ml me mn tp g R) (hb : Below w.heap.size w w') : RdR W w' b ml me mn tp g R := by
  obtain ⟨Sb, c, nl, h1, h2, h3, h4⟩ := h
  exact ⟨Sb, c, nl, h1.below hb, h2.below hb, h3, h4.trans (.of_below hb)⟩
/-- what round hands back -/
def RRoundD (w : World) (b ml me : Nat) (tp : Nat) (g : G) (S : LS) (e : Ending) (w' : World) : Prop :=
  e = .returned (.bool (RS.run g.n tp (cornersN g) S).some_) ∧ ∃ Sb nl, LvR w' b ml me Sb (tp : Nat) (levR g (RS.run g.n tp (cornersN g) S).S) nl (egE g (RS.run g.n tp (cornersN g) S).S) ∧ Kept [ml, me] w w'
theorem RdR.fin {W0 W w : World} {b ml me mn : Nat} {tp : Nat} {g : G} {S : LS} {i : Nat} (h : RdR W w b ml me mn tp g (rnAt g S tp i)) (hi : (cornersI g).length ≤ i) (hb : Below W0.heap.size W0 W) (hm : W0.heap.size ≤ mn) : RRoundD W0 b ml me tp g S (.returned (.bool (rnAt g S tp i).some_)) w := by
  obtain ⟨Sb, c, nl, h1, h2, _, h4⟩ := h
  rw [rn_all hi] at *
  refine ⟨rfl, Sb, nl, h1, ⟨h4.os.trans hb.os, h4.tape.trans hb.tape, h4.output.trans hb.output, Nat.le_trans hb.size h4.size, fun k hk hn => ?_⟩⟩
  refine (h4.block k (Nat.lt_of_lt_of_le hk hb.size) ?_).trans (hb.block k hk)
  intro hm2
  rcases List.mem_cons.1 hm2 with e | e
  · omega
  · exact hn e
def findBlk (k : Nat) : Code → Option Code
  | .block j c => if j = k then some (.block j c) else findBlk k c
  | .seq a b => match findBlk k a with
    | some c => some c
    | none => findBlk k b
  | .loop c => findBlk k c
  | .scope c => findBlk k c
  | .cond _ a b => match findBlk k a with
    | some c => some c
    | none => findBlk k b
  | _ => none
noncomputable def rBlk (k : Nat) : Code := ((Tryz.f63.body.bind (findBlk k)).getD .skip)
set_option maxRecDepth 1000000 in
set_option maxHeartbeats 6400000 in
theorem rRoundB (w0 : World) (b ml me nl : Nat) (Sb : List Nat) (tp : Nat) (g : G) (R : RS) (hok : g.ok) (hcor : Cor g R.S) (hsml : Sml R.S) (hLv : LvR w0 b ml me Sb (tp : Nat) (levR g R.S) nl (egE g R.S)) (A : Option Addr) (n0 m0 : Nat) (hIr2 : Ints w0 A n0 (fun k => (cornersI g).getD k 0)) (hn0 : (cornersI g).length = n0) (n : Nat) (A1 : Option Addr) (nE m1 : Nat) (hEd : EdsAt w0 A1 (frL R.S g.n n)) (hnE : (frL R.S g.n n).length = nE)
    {s2 s3 s4 s5 s6 s7 s10 s14 s15 s16 s17 s18 s19 s20 s21 s22 s23 s24 s25 s26 s27 s28 s29 s30 s31 s32 s33 s34 s35 s36 s37 s38 s39 s40 s41 s42 s43 s44 s45 s46 s47 s48 s49 s50 s51 s52 s53 s54 s55 s56 s57 s58 s59 s60 s61 s62 s63 s64 s65 s66 s67 s68 s69 s70 s71 s72 s73 s74 s75 s76 s77 s78 s79 s80 s81 s82 s83 s84 s85 s86 s87 s88 s89 s90 s91 s92 s93 s94 s95 s96 s97 s98 s99 s100 s101 s102 s103 s104 s105 s106 s107 s108 s109 s110 s111 s112 s113 s114 s115 s116 s117 s118 s119 s120 s121 s122 s123 s124 s125 s126 s127 s128 s129 s130 s131 s132 s133 s134 s135 s136 s137 s138 s139 s140 s141 s142 s143 s144 s145 s146 s147 s148 s149 s150 s151 s152 s153 s154 s155 s156 s157 s158 s159 s160 s161 s162 s163 s164 s165 s166 s167 s168 s169 s170 s171 s172 s173 s174 s175 s176 s177 s178 s179 s180 s181 s182 s183 s184 s185 s186 s187 s188 s189 s190 s191 s192 s193 s194 s195 s196 s197 s198 s199 s200 s201 s202 s203 s204 s205 s206 s207 s208 s209 s210 s211 s212 s213 s214 s215 s216 s217 s218 s219 s220 s221 s222 s223 s224 s225 s226 s227 s228 s229 s230 : Value} {Q : Exit → Act → World → Prop} (hQ : ∀ (u11 u12 u13 u14 u15 u16 u17 u18 u84 u85 u86 u87 u88 u89 u90 u91 u92 u93 u94 u95 u96 u97 u98 u99 u100 u101 u102 u103 u104 u105 u106 u107 u108 u109 u110 u111 u112 u113 u114 u115 u116 u117 u118 u119 u120 u121 u122 u123 u124 u125 u126 u127 u128 u129 u130 u131 u132 u133 u134 u135 u136 u137 u138 u139 u140 u141 u142 u143 u144 u145 u146 u147 u148 u149 u150 u151 u152 : Value) (w' : World), OwnI w' w0.heap.size u11 ((R.S.more g.n n).map fun p => ((p.1 : Nat) : Int)) ∧ OwnE w' w0.heap.size u12 ((R.S.more g.n n).map (mkE R.S n)) ∧ Below w0.heap.size w0 w' → Q .normal ⟨#[.pointer (some ⟨b, 0, none⟩), .slice A n0 m0, s2, s3, s4, s5, s6, s7, .int .i64 (n : Nat), .slice A1 nE m1, s10, u11, u12, u13, u14, u15, u16, u17, u18, s19, s20, s21, s22, s23, s24, s25, s26, s27, s28, s29, s30, s31, s32, s33, s34, s35, s36, s37, s38, s39, s40, s41, s42, s43, s44, s45, s46, s47, s48, s49, s50, s51, s52, s53, s54, s55, s56, s57, s58, s59, s60, s61, s62, s63, s64, s65, s66, s67, s68, s69, s70, s71, s72, s73, s74, s75, s76, s77, s78, s79, s80, s81, s82, s83, u84, u85, u86, u87, u88, u89, u90, u91, u92, u93, u94, u95, u96, u97, u98, u99, u100, u101, u102, u103, u104, u105, u106, u107, u108, u109, u110, u111, u112, u113, u114, u115, u116, u117, u118, u119, u120, u121, u122, u123, u124, u125, u126, u127, u128, u129, u130, u131, u132, u133, u134, u135, u136, u137, u138, u139, u140, u141, u142, u143, u144, u145, u146, u147, u148, u149, u150, u151, u152, s153, s154, s155, s156, s157, s158, s159, s160, s161, s162, s163, s164, s165, s166, s167, s168, s169, s170, s171, s172, s173, s174, s175, s176, s177, s178, s179, s180, s181, s182, s183, s184, s185, s186, s187, s188, s189, s190, s191, s192, s193, s194, s195, s196, s197, s198, s199, s200, s201, s202, s203, s204, s205, s206, s207, s208, s209, s210, s211, s212, s213, s214, s215, s216, s217, s218, s219, s220, s221, s222, s223, s224, s225, s226, s227, s228, s229, s230], []⟩ w') :
    Code.wp Tryz.prog (rBlk 4) Q ⟨#[.pointer (some ⟨b, 0, none⟩), .slice A n0 m0, s2, s3, s4, s5, s6, s7, .int .i64 (n : Nat), .slice A1 nE m1, s10, .slice none 0 0, .slice none 0 0, .int .i64 0, s14, s15, s16, s17, s18, s19, s20, s21, s22, s23, s24, s25, s26, s27, s28, s29, s30, s31, s32, s33, s34, s35, s36, s37, s38, s39, s40, s41, s42, s43, s44, s45, s46, s47, s48, s49, s50, s51, s52, s53, s54, s55, s56, s57, s58, s59, s60, s61, s62, s63, s64, s65, s66, s67, s68, s69, s70, s71, s72, s73, s74, s75, s76, s77, s78, s79, s80, s81, s82, s83, s84, s85, s86, s87, s88, s89, s90, s91, s92, s93, s94, s95, s96, s97, s98, s99, s100, s101, s102, s103, s104, s105, s106, s107, s108, s109, s110, s111, s112, s113, s114, s115, s116, s117, s118, s119, s120, s121, s122, s123, s124, s125, s126, s127, s128, s129, s130, s131, s132, s133, s134, s135, s136, s137, s138, s139, s140, s141, s142, s143, s144, s145, s146, s147, s148, s149, s150, s151, s152, s153, s154, s155, s156, s157, s158, s159, s160, s161, s162, s163, s164, s165, s166, s167, s168, s169, s170, s171, s172, s173, s174, s175, s176, s177, s178, s179, s180, s181, s182, s183, s184, s185, s186, s187, s188, s189, s190, s191, s192, s193, s194, s195, s196, s197, s198, s199, s200, s201, s202, s203, s204, s205, s206, s207, s208, s209, s210, s211, s212, s213, s214, s215, s216, s217, s218, s219, s220, s221, s222, s223, s224, s225, s226, s227, s228, s229, s230], []⟩ w0 := by
  conv => arg 2; whnf
  have hn := G.n_le hok
  have hn256 : n0 ≤ 256 := by rw [← hn0]; exact corners_le hok
  have hnE256 : nE ≤ 256 := by rw [← hnE]; exact Nat.le_trans (len_frL R.S g.n n) hn
  have hnb : (R.S.nb g.n n).length = nE := by rw [← hnE, frL_len]
  have hsort := LS.nb_sorted R.S g.n n
  obtain ⟨nb, hnb0⟩ : ∃ l, R.S.nb g.n n = l := ⟨_, rfl⟩
  rw [hnb0] at hnb hsort
  have HEd := Lib.hid hEd
  have HnE := Lib.hid (And.intro hnE (And.intro hnb0 (And.intro hnb (And.intro hsort (And.intro hcor hsml)))))
  have HL := Lib.hid (And.intro hLv trivial)
  have hB9 : Below w0.heap.size w0 w0 := Below.refl _ _
  have Hok := Lib.hid hok
  have Hn := Lib.hid (And.intro hn hn0)
  have HQ := Lib.hid hQ
  clear hEd hnE hnb0 hnb hsort hcor hsml hok hn hn0 hLv hQ
  go_wp2_with fail
  obtain ⟨wy, rfl⟩ : ∃ wy : World, wy = w0 := ⟨_, rfl⟩
  go_loopw [11, 12, 13] (fun v11 v12 kv wr => ∃ (a : Nat) (P : List (Nat × Nat)), kv = .int .i64 a ∧ a ≤ nE ∧ LS.pairsL nb = P ++ LS.pairsL (nb.drop a) ∧ OwnI wr wy.heap.size v11 ((nPairs R.S n P).map fun p => ((p.1 : Nat) : Int)) ∧ OwnE wr wy.heap.size v12 ((nPairs R.S n P).map (mkE R.S n)) ∧ Apart v11 v12 ∧ Below wy.heap.size wy wr) (fun _ _ kv _ => nE - (intOf kv).toNat)
  case atStart => exact ⟨0, [], rfl, by omega, rfl, OwnI.nil _ _, OwnE.nil _ _, fun q hq => (nomatch hq), Below.refl _ _⟩
  case round =>
    obtain ⟨a, P, rfl, ha, hP, hO1, hO2, hap, hB⟩ := hrel
    have HP := Lib.hid hP
    have HO := Lib.hid (And.intro hO1 (And.intro hO2 hap))
    clear hP hO1 hO2 hap
    by_cases hlta : a < nE
    · obtain ⟨x, hx⟩ : ∃ x, (frL R.S g.n n)[a]? = some x := ⟨_, List.getElem?_eq_getElem (by rw [HnE.out.1]; exact hlta)⟩
      obtain ⟨t, ht1, ht2, ht3, ht4, ht5, ht6⟩ := frL_at hx
      obtain ⟨gb, hA, _⟩ := HEd.out.get hx
      have hcx : ∀ w', Below wy.heap.size wy w' → w'.cell? ⟨gb, a * 4, none⟩ = some (.int .i64 x.to_) ∧ w'.cell? ⟨gb, a * 4 + 1, none⟩ = some (.int .i64 x.c.s) ∧ w'.cell? ⟨gb, a * 4 + 2, none⟩ = some (.int .i64 x.c.d) := fun w' hb => by
        obtain ⟨gb', hA', q1, q2, q3, _⟩ := (HEd.out.below hb).get hx
        rw [hA] at hA'; injection hA' with hA'; injection hA' with hA'
        subst hA'
        exact ⟨q1, q2, q3⟩
      have hix := fun wx => idxE (m := m1) hA hlta wx
      have hsx := HnE.out.2.2.2.2.2 _ _ _ _ ht3
      have htc := HnE.out.2.2.2.2.1 n t (by rw [ht3]; simp)
      obtain ⟨xt, ⟨xs, xd⟩, xm⟩ := x
      simp only at ht2 hsx ht6 hcx
      subst ht2
      rw [HnE.out.2.1] at ht5
      obtain ⟨a1, a2, a3⟩ := hcx wr hB
      have HA := Lib.hid hA
      have Hcx := Lib.hid hcx
      have Ht := Lib.hid (And.intro ht5 (And.intro ht6 (And.intro hsx (And.intro htc ht4))))
      have hBo := bel_trans hB9 hB
      have cP := Lib.hid (rApart wr b ml me nl Sb (tp : Nat) g R.S Hok.out HnE.out.2.2.2.2.1 HnE.out.2.2.2.2.2 (HL.out.1.below hBo) A n0 m0 (hIr2.below hBo) Hn.out.2 t n htc.2.1 ht4 (Ne.symm htc.2.2))
      clear hx ht3 ht4 ht5 ht6 hsx htc hcx hA
      go_wp2_with fail
      (with_reducible refine cP.out.mono ?_)
      rintro e w5 ⟨mc, mi, L, rfl, hLab, hd1, hd2, hd3, hmc, hmi, hne, hb5⟩
      have HO5 := Lib.hid (And.intro (OwnI.below (B' := wy.heap.size) HO.out.1 hb5) (And.intro (HO.out.2.1.kept (T := []) (.of_below hb5) (fun _ _ => by simp)) HO.out.2.2))
      have hB5 := bel_trans hB hb5
      have hbl : (∀ q, u11.ownBlock = some q → q < wr.heap.size) ∧ (∀ q, u12.ownBlock = some q → q < wr.heap.size) := ⟨fun q hq => (World.ownsRow.lt HO.out.1 q hq).2, fun q hq => HO.out.2.1.lt hq⟩
      have HLab := Lib.hid (And.intro hLab (And.intro hd1 (And.intro hd2 hd3)))
      have hP0 := prs_start HP.out Ht.out.1
      have hwa : IntKind.i64.wrap ((a : Int) + 1) = ((a + 1 : Nat) : Int) := by rw [IntWalk.i64_in _ (by omega)]; omega
      clear hLab hd1 hd2 hd3 HP HO a1 a2 a3 hb5 cP hBo
      go_wp2_with fail
      obtain ⟨wv, rfl⟩ : ∃ wv : World, wv = w5 := ⟨_, rfl⟩
      have hst : BlI wy wv mc mi L ((nPairs R.S n P).map fun p => ((p.1 : Nat) : Int)) ((nPairs R.S n P).map (mkE R.S n)) u11 u12 := by
        refine ⟨HO5.out.1, HO5.out.2.1, HO5.out.2.2, HLab.out.1, fun q hq => ?_, fun q hq => ?_, hB5⟩
        · have := hbl.1 q hq; omega
        · have := hbl.2 q hq; omega
      clear HO5
      go_loopw [11, 12, 16] (fun v11 v12 kv wr => ∃ (j : Nat) (P : List (Nat × Nat)), kv = .int .i64 ((a + 1 + j : Nat) : Int) ∧ a + 1 + j ≤ nE ∧ LS.pairsL nb = P ++ ((((nb.drop (a + 1)).drop j).map fun b => (t, b)) ++ LS.pairsL (nb.drop (a + 1))) ∧ BlI wy wr mc mi L ((nPairs R.S n P).map fun p => ((p.1 : Nat) : Int)) ((nPairs R.S n P).map (mkE R.S n)) v11 v12) (fun _ _ kv _ => nE - (intOf kv).toNat)
      case atStart => exact ⟨0, P, rfl, by omega, hP0, hst⟩
      case round =>
        obtain ⟨j, P, rfl, hj, hP, hS⟩ := hrel
        clear hP0 hst
        have HP := Lib.hid hP
        have HS := Lib.hid hS
        clear hP hS
        obtain ⟨bb, hbb⟩ : ∃ z, a + 1 + j = z := ⟨_, rfl⟩
        rw [hbb] at hj ⊢
        have Hbb := Lib.hid hbb
        clear hbb
        by_cases hltb : bb < nE
        · obtain ⟨y, hy⟩ : ∃ y, (frL R.S g.n n)[bb]? = some y := ⟨_, List.getElem?_eq_getElem (by rw [HnE.out.1]; exact hltb)⟩
          obtain ⟨t2, r1, r2, r3, r4, r5, r6⟩ := frL_at hy
          have hBr := HS.out.2.2.2.2.2.2
          obtain ⟨gb', hA', b1, b2, b3, b4⟩ := (HEd.out.below hBr).get hy
          have hix2 := fun wx => idxE (m := m1) hA' hltb wx
          rw [HA.out] at hA'; injection hA' with hA'; injection hA' with hA'
          subst hA'
          have hsy := HnE.out.2.2.2.2.2 _ _ _ _ r3
          obtain ⟨yt, ⟨ys, yd⟩, ym⟩ := y
          simp only at b1 b2 b3 b4 r2 hsy r6
          subst r2
          rw [HnE.out.2.1, ← Hbb.out] at r5
          have Hq := Lib.hid (And.intro r5 r6)
          obtain ⟨a1, a2, a3⟩ := Hcx.out wr hBr
          have hsx := Ht.out.2.2.1
          have Hsy := Lib.hid (And.intro hsx hsy)
          have cA := Lib.hid (fun w => refPlus xs xd ys yd w (by unfold inC; omega) (by unfold inC; omega) (by unfold inC; omega) (by unfold inC; omega))
          have lgb : gb < wr.heap.size := World.block_lt_of_cell? _ _ a1
          have k1a := fun o => alloc_some (o := o) a2
          have k2a := fun o => alloc_some (o := o) a3
          have k3a := fun o => alloc_some (o := o) b2
          have k4a := fun o => alloc_some (o := o) b3
          have n1 := World.new_ne wr _ a2
          clear hy r3 r4 r5 r6 hsx hsy hBr b4
          go_upto_region 23 with (fail)
          go_cut [17] from 104 to 152 (fun s wx => ∃ D, s = .pointer (some ⟨D, 0, none⟩) ∧ wr.heap.size ≤ D ∧ wx.cell? ⟨D, 0, none⟩ = some (.int .i64 (xs + ys)) ∧ wx.cell? ⟨D, 1, none⟩ = some (.int .i64 (xd + yd)) ∧ Below wr.heap.size wr wx)
          case first =>
            go_region_held3 (fun w' => w'.cell? ⟨gb, a * 4 + 1, none⟩ = some (.int .i64 xs) ∧ w'.cell? ⟨gb, a * 4 + 2, none⟩ = some (.int .i64 xd) ∧ w'.cell? ⟨gb, bb * 4 + 1, none⟩ = some (.int .i64 ys) ∧ w'.cell? ⟨gb, bb * 4 + 2, none⟩ = some (.int .i64 yd))
              (first
                | (go_keep; done)
                | (go_split_ands
                   exact ⟨bel_cell hbP (by assumption), bel_cell hbP (by assumption), bel_cell hbP (by assumption), bel_cell hbP (by assumption)⟩)
                | (go_split_ands
                   exact ⟨alloc_swap (by have := hbP.size; simp; simp at this; omega) (by assumption), alloc_swap (by have := hbP.size; simp; simp at this; omega) (by assumption), alloc_swap (by have := hbP.size; simp; simp at this; omega) (by assumption), alloc_swap (by have := hbP.size; simp; simp at this; omega) (by assumption)⟩)
                | (go_split_ands
                   refine ⟨?_, ?_, ?_, ?_⟩ <;> (go_keep; done)))
              (first
                | (go_at_call 69
                   refine (cA.out _).mono ?_
                   rintro e wP ⟨rfl, hbP⟩
                   obtain ⟨hcP, hfP⟩ := bcell hbP))
            · have HbP := Lib.hid hbP
              clear hcP hfP hbP k1a k2a k3a k4a
              go_wp2
              go_meet
              case rel => exact ⟨_, rfl, HbP.out.size, by go_simp, by go_simp, bel_alloc (bel_trans (bel_drew (Below.refl _ _)) HbP.out)⟩
            · have HbP := Lib.hid hbP
              have q1 : wP.cell? ⟨wr.heap.size, 0, none⟩ = some (.int .i64 0) := bel_cell hbP (by go_simp)
              have q2 : wP.cell? ⟨wr.heap.size, 1, none⟩ = some (.int .i64 0) := bel_cell hbP (by go_simp)
              have Q := Lib.hid (two_set (x := .int .i64 (xs + ys)) (y := .int .i64 (xd + yd)) q1 q2)
              clear hcP hfP hbP q1 q2 k1a k2a k3a k4a
              go_wp2
              go_meet
              case rel => exact ⟨_, rfl, Nat.le_refl _, Q.out.1, Q.out.2, ((bel_trans (bel_drew (bel_alloc (Below.refl _ _))) HbP.out).setCell (by simp) _).setCell (by simp) _⟩
          case rest =>
            obtain ⟨D, rfl, hDw, hD0, hD1, hbc⟩ := hcut
            obtain ⟨wd, rfl⟩ : ∃ z : World, z = wc := ⟨_, rfl⟩
            have HSc := Lib.hid (HS.out.below hbc)
            have a1 := bel_cell hbc a1
            have b1 := bel_cell hbc b1
            have lD : D < wd.heap.size := World.block_lt_of_cell? _ _ hD0
            have his0 := HSc.out.2.2.2.1.is t2 wd (Below.refl _ _)
            obtain ⟨vs, vd, hwd, hw0, hlc⟩ := HSc.out.2.2.2.1.cost t2
            have hlc0 := hlc wd (Below.refl _ _)
            obtain ⟨tb, htb⟩ : ∃ z, (L t2).isSome = z := ⟨_, rfl⟩
            rw [htb] at his0
            have hwin : inC vs ∧ inC vd := by
              cases hL : L t2 with
              | none => obtain ⟨rfl, rfl⟩ := hw0 hL; exact ⟨by unfold inC; omega, by unfold inC; omega⟩
              | some c =>
                have h := HLab.out.2.2.2 t2 c hL
                rw [hwd c hL] at h
                simp only at h
                unfold inC; omega
            have hdin : inC (xs + ys) ∧ inC (xd + yd) := by have := Hsy.out; unfold inC; omega
            obtain ⟨tt, htt⟩ : ∃ z, (!tb || decide (C.cmp ⟨xs + ys, xd + yd⟩ ⟨vs, vd⟩ < 0)) = z := ⟨_, rfl⟩
            have hneed := LS.need_iff (S := R.S) (n := n) (a := t) (b := t2) (done := L) (fun c hc => HLab.out.2.1 t2 c hc) (fun hn c => HLab.out.2.2.1 t2 hn c)
            rw [Ht.out.2.1, Hq.out.2] at hneed
            have hnt : (tt = true → R.S.Need n t t2) ∧ (tt = false → ¬ R.S.Need n t t2) := by
              rw [hneed, ← htt]
              cases hL : L t2 with
              | none => rw [hL] at htb; subst htb; simp
              | some d =>
                rw [hL] at htb; subst htb
                rw [hwd d hL]
                simp only [Option.isSome_some, Bool.not_true, Bool.false_or, decide_eq_true_eq, decide_eq_false_iff_not]
                exact ⟨fun h d' hd' => by injection hd' with hd'; rw [← hd']; exact C.cmp_neg.1 h, fun h h2 => h (C.cmp_neg.2 (h2 _ rfl))⟩
            have Hnt := Lib.hid hnt
            have Htt := Lib.hid htt
            have hDq : ∀ q, u11.ownBlock = some q → q ≠ D := fun q hq => by have := (World.ownsRow.lt HS.out.1 q hq).2; omega
            have hst2 := prs_step HP.out Hq.out.1
            have Hst2 := Lib.hid hst2
            have hpl : (nPairs R.S n P).length ≤ 70000 := by
              have h1 := List.length_filter_le (fun p : Nat × Nat => @decide (R.S.Need n p.1 p.2) (Classical.propDecidable _)) P
              have h2 := pairsL_len nb
              rw [HP.out, List.length_append, HnE.out.2.2.1] at h2
              have h3 : nE * nE ≤ 256 * 256 := Nat.mul_le_mul hnE256 hnE256
              have h4 : (nPairs R.S n P).length ≤ P.length := h1
              omega
            have hwbb : IntKind.i64.wrap ((bb : Int) + 1) = ((a + 1 + (j + 1) : Nat) : Int) := by rw [IntWalk.i64_in _ (by omega)]; have := Hbb.out; omega
            clear hbc hlc hw0 hwd htb htt hneed hnt hst2 HS HP a2 a3 b2 b3 cA k1a k2a k3a k4a n1
            go_upto_region 25 with (fail)
            go_cut [137] from 104 to 152 (fun s wx => s = .bool tt ∧ Below wd.heap.size wd wx)
            case first =>
              cases tb with
              | false =>
                have ht : tt = true := by rw [← Htt.out]; rfl
                subst ht
                go_wp2
                go_meet
                case rel => exact ⟨rfl, by (repeat' (first | exact Below.refl _ _ | assumption | apply bel_drewN | apply bel_drew | apply bel_alloc | (refine bel_trans ?_ (by assumption))))⟩
              | true =>
                have cC := refCompare (xs + ys) (xd + yd) vs vd
                obtain ⟨cv, hcv⟩ : ∃ cv, C.cmp ⟨xs + ys, xd + yd⟩ ⟨vs, vd⟩ = cv := ⟨_, rfl⟩
                have ht : tt = decide (cv < 0) := by rw [← Htt.out, hcv]; rfl
                rw [hcv] at cC
                have cC := Lib.hid (fun w => cC w hdin.1 hdin.2 hwin.1 hwin.2)
                have Ht2 := Lib.hid ht
                clear hcv ht hdin hwin
                go_wp2_with fail
                (with_reducible refine (cC.out _).mono ?_)
                rintro e w8 ⟨rfl, hb8⟩
                go_wp2
                go_meet
                case rel => exact ⟨by rw [Ht2.out], hb8⟩
            case rest =>
              obtain ⟨rfl, hbe⟩ := hcut
              obtain ⟨we, rfl⟩ : ∃ z : World, z = wc := ⟨_, rfl⟩
              have HSe := Lib.hid (HSc.out.below hbe)
              have a1 := bel_cell hbe a1
              have b1 := bel_cell hbe b1
              have hD0 := bel_cell hbe hD0
              have hD1 := bel_cell hbe hD1
              have lD2 : D < we.heap.size := World.block_lt_of_cell? _ _ hD0
              clear HSc his0 hlc0 hwin hdin hbe lD
              cases tt with
              | false =>
                have e1 : nPairs R.S n (P ++ [(t, t2)]) = nPairs R.S n P := by unfold nPairs; rw [List.filter_append]; simp [Hnt.out.2 rfl]
                have hF := HSe.out
                rw [← e1] at hF
                have HF := Lib.hid hF
                clear hF e1 Hnt HSe a1 b1 hD0 hD1
                go_wp2
                go_roundw
                case rel => first | exact ⟨j + 1, _, by simp [hwbb], by have := Hbb.out; omega, Hst2.out, HF.out⟩ | ((repeat apply Exists.intro); exact ⟨⟨j + 1, _, by simp [hwbb], by have := Hbb.out; omega, Hst2.out, HF.out⟩, rfl⟩)
                case measure => simp [intOf]; have := Hbb.out; omega
              | true =>
                have e1 : nPairs R.S n (P ++ [(t, t2)]) = nPairs R.S n P ++ [(t, t2)] := by unfold nPairs; rw [List.filter_append]; simp [Hnt.out.1 rfl]
                have He1 := Lib.hid e1
                clear e1 Hnt
                go_wp2_with (first
                  | (at_builtin
                     refine wpList_append_int2 _ rfl _ _ rfl wy.heap.size u11 ((nPairs R.S n P).map fun p => ((p.1 : Nat) : Int)) ((t : Nat) : Int) rfl (HSe.out.1.alloc _) ⟨we.heap.size, 0, none⟩ rfl (cell1_new _ _ _) (by rw [List.length_map]; omega) (by have := HSe.out.2.2.2.2.2.2.size; simp; omega) ?_
                     intro v11 wf hownf hgrowf hatf
                     have HSf := Lib.hid ((HSe.out.below (bel_alloc (Below.refl _ _))).int hownf hgrowf hatf)
                     have hD0 := keptc (grown_kept hgrowf) (by rw [Option.mem_toList]; exact fun e => hDq D e rfl) (alloc_some hD0)
                     have hD1 := keptc (grown_kept hgrowf) (by rw [Option.mem_toList]; exact fun e => hDq D e rfl) (alloc_some hD1))
                  | (at_builtin
                     refine wpList_append_E2 _ rfl _ _ rfl wy.heap.size u12 ((nPairs R.S n P).map (mkE R.S n)) ⟨(t2 : Nat), ⟨xs + ys, xd + yd⟩, (n : Nat)⟩ rfl (HSf.out.2.1.kept (T := []) (.of_below (bel_alloc (Below.refl _ _))) (fun _ _ => by simp)) ⟨wf.heap.size, 0, none⟩ rfl (fun j u hu => by rw [Addr.add_lit, Nat.zero_add]; exact new_edge (alloc_at wf _ rfl) j u hu) (by rw [List.length_map]; omega) (by have := HSf.out.2.2.2.2.2.2.size; simp; omega) ?_
                     intro v12 wg howng hgrowg hatg))
                have hF := HSf.out.below (bel_alloc (o := Obj.cells #[.int .i64 (t2 : Nat), .int .i64 (xs + ys), .int .i64 (xd + yd), .int .i64 (n : Nat)] 70 (0, 0)) (Below.refl _ _))
                have hF := hF.edge howng hgrowg hatg
                have e2 : (⟨(t2 : Nat), ⟨xs + ys, xd + yd⟩, (n : Nat)⟩ : Ed) = mkE R.S n (t, t2) := by unfold mkE; simp only; rw [Ht.out.2.1, Hq.out.2]; rfl
                rw [e2, ← List.map_singleton (f := mkE R.S n), ← List.map_append, ← He1.out] at hF
                rw [show ((nPairs R.S n P).map fun p => ((p.1 : Nat) : Int)) ++ [((t : Nat) : Int)] = (nPairs R.S n (P ++ [(t, t2)])).map fun p => ((p.1 : Nat) : Int) by rw [He1.out, List.map_append]; rfl] at hF
                have HF := Lib.hid hF
                clear hF e2 HSf HSe howng hgrowg hatg hownf hgrowf hatf hD0 hD1 a1 b1
                go_wp2
                go_roundw
                case rel => first | exact ⟨j + 1, _, by simp [hwbb], by have := Hbb.out; omega, Hst2.out, HF.out⟩ | ((repeat apply Exists.intro); exact ⟨⟨j + 1, _, by simp [hwbb], by have := Hbb.out; omega, Hst2.out, HF.out⟩, rfl⟩)
                case measure => simp [intOf]; have := Hbb.out; omega
        · have hP2 := prs_end HP.out (by rw [HnE.out.2.2.1]; have := Hbb.out; omega)
          have hF : OwnI wr wy.heap.size u11 ((nPairs R.S n P).map fun p => ((p.1 : Nat) : Int)) ∧ OwnE wr wy.heap.size u12 ((nPairs R.S n P).map (mkE R.S n)) ∧ Apart u11 u12 ∧ Below wy.heap.size wy wr := ⟨HS.out.1, HS.out.2.1, HS.out.2.2.1, HS.out.2.2.2.2.2.2⟩
          have HF := Lib.hid (And.intro hP2 hF)
          clear hP2 hF HS HP
          go_wp2
          go_roundw
          case rel => first | exact ⟨a + 1, _, by go_num, by omega, HF.out⟩ | ((repeat apply Exists.intro); exact ⟨⟨a + 1, _, by go_num, by omega, HF.out⟩, rfl⟩)
          case measure => simp [intOf]; omega
    · obtain rfl : a = nE := by omega
      have hPe := prs_all HP.out (by rw [HnE.out.2.2.1]; exact Nat.le_refl _)
      have hF : OwnI wr wy.heap.size u11 ((R.S.more g.n n).map fun p => ((p.1 : Nat) : Int)) ∧ OwnE wr wy.heap.size u12 ((R.S.more g.n n).map (mkE R.S n)) ∧ Below wy.heap.size wy wr := by
        have e : nPairs R.S n P = R.S.more g.n n := by rw [hPe, ← HnE.out.2.1, nPairs_more]
        rw [← e]
        exact ⟨HO.out.1, HO.out.2.1, hB⟩
      have HF := Lib.hid hF
      clear hF HO HP hB
      go_wp2
      apply HQ.out
      exact HF.out

end Go.Proofs.YtjejkadaafmdcaaGreat
