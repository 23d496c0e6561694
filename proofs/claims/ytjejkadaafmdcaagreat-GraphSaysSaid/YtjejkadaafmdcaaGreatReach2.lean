/- The field between two cells: which steps lead on, and what they make known. -/
import Derived.Test.YtjejkadaafmdcaaGreatReach1
import Derived.Test.YtjejkadaafmdcaaGreatGC
import Derived.Maps.Own
set_option linter.unusedVariables false
set_option linter.unusedSimpArgs false
namespace Go.Proofs.YtjejkadaafmdcaaGreat
open Go.RowKit Go.Sort FR
def dB (g : G) (ca cb i j : Nat) : Bool := decide (i < g.fI ca cb) && g.may (g.fx ca cb i j) (g.fy ca cb i j) (g.fdg ca cb)
def sB (g : G) (ca cb i j : Nat) : Bool := decide (j < g.fJ ca cb) && g.may (g.fx ca cb i j) (g.fy ca cb i j) (g.fst_ ca cb)
theorem dB_iff {g : G} {ca cb i j : Nat} : dB g ca cb i j = true ↔ g.dOk ca cb i j := by unfold dB G.dOk; simp
theorem sB_iff {g : G} {ca cb i j : Nat} : sB g ca cb i j = true ↔ g.sOk ca cb i j := by unfold sB G.sOk; simp
set_option maxRecDepth 100000 in
set_option maxHeartbeats 1600000 in
theorem fieldNext (w : World) (b gp mo mk : Nat) (g : G) (v : Int) (ca cb : Nat) (S T : Int × Int → Prop) (i j : Nat) (td ts : Bool) (h : FieldIn w b gp mo mk g v ca cb S T) (hi : i ≤ g.fI ca cb) (hj : j ≤ g.fJ ca cb) (htd : dB g ca cb i j = td) (hts : sB g ca cb i j = ts) :
    Calls Tryz.prog 139 #[.pointer (some ⟨b, 0, none⟩), .int .i64 (i : Nat), .int .i64 (j : Nat)] w fun e w' => e = .returned (.tuple #[.bool td, .bool ts]) ∧ Below w.heap.size w w' := by
  have hok := h.ok
  obtain ⟨f1, f2, f3, f4⟩ := G.f_in hok h.cells.2 h.cells.1 hi hj
  obtain ⟨o1, o2, o3, o4⟩ := hok
  have cP := fieldPlace w b gp mo mk g v ca cb S T i j h hi hj
  obtain ⟨k0, k1, k2, k3, k4, k5, k6, k7, k8⟩ := h.cell
  have hbl := h.lt
  have HG := Lib.hid h.grid
  have hpl := h.grid.lt
  unfold dB at htd
  unfold sB at hts
  obtain ⟨x, hx⟩ : ∃ z, g.fx ca cb i j = z := ⟨_, rfl⟩
  obtain ⟨y, hy⟩ : ∃ z, g.fy ca cb i j = z := ⟨_, rfl⟩
  rw [hx, hy] at cP htd hts
  rw [hx] at f1 f2
  rw [hy] at f3 f4
  obtain ⟨d, hd⟩ : ∃ z, g.fdg ca cb = z := ⟨_, rfl⟩
  obtain ⟨s, hs⟩ : ∃ z, g.fst_ ca cb = z := ⟨_, rfl⟩
  have hd8 : d < 8 := by rw [← hd]; exact dirN_lt _ _
  have hs8 : s < 8 := by rw [← hs]; exact dirN_lt _ _
  rw [hd] at k3 htd
  rw [hs] at k4 hts
  obtain ⟨I, hI⟩ : ∃ z, g.fI ca cb = z := ⟨_, rfl⟩
  obtain ⟨J, hJ⟩ : ∃ z, g.fJ ca cb = z := ⟨_, rfl⟩
  rw [hI] at k5 hi htd
  rw [hJ] at k6 hj hts
  obtain ⟨m1, hm1⟩ : ∃ z, g.may x y d = z := ⟨_, rfl⟩
  obtain ⟨m2, hm2⟩ : ∃ z, g.may x y s = z := ⟨_, rfl⟩
  rw [hm1] at htd
  rw [hm2] at hts
  have cM1 := Lib.hid (fun w' (hg : GridAt w' gp g v) => May_eq w' gp g v x y d m1 hg hd8 (by unfold inP; omega) (by unfold inP; omega) hm1)
  have cM2 := Lib.hid (fun w' (hg : GridAt w' gp g v) => May_eq w' gp g v x y s m2 hg hs8 (by unfold inP; omega) (by unfold inP; omega) hm2)
  have cP := Lib.hid cP
  clear hx hy hd hs hI hJ hm1 hm2 h k1 k2 k7 k8
  go_enter Tryz.func139, Tryz.ntmps139
  go_wp2_with fail
  (with_reducible refine cP.out.mono ?_)
  rintro e w1 ⟨rfl, hb1⟩
  have k0 := bel_cell hb1 k0
  have k3 := bel_cell hb1 k3
  have k4 := bel_cell hb1 k4
  have k5 := bel_cell hb1 k5
  have k6 := bel_cell hb1 k6
  have l1 := hb1.size
  have k0q := cell_regrown k0
  have k3q := cell_regrown k3
  have k4q := cell_regrown k4
  have k5q := cell_regrown k5
  have k6q := cell_regrown k6
  have HG1 := Lib.hid (HG.out.below hb1 hpl)
  have hpl1 := HG1.out.lt
  have HB := Below.refl w1.heap.size w1
  by_cases c1 : i < I <;> by_cases c2 : j < J
  · have e1 : td = m1 := by rw [← htd]; simp [c1]
    have e2 : ts = m2 := by rw [← hts]; simp [c2]
    subst e1
    subst e2
    clear htd hts
    have q1 : (i : Int) < (I : Int) := by omega
    have q2 : (j : Int) < (J : Int) := by omega
    go_upto_region 2 with (fail)
    refine wp_region_quiet_below (by kernel_rfl) (by kernel_rfl) ?_
    repeat (first | go_big_quiet_step ((with_reducible first | exact Calls.regrown_of (cM1.out _ (HG1.out.below (HB.trans ((below_regrown w1 _ _).mono HB.size)) hpl1)) | exact Calls.regrown_of (cM2.out _ (HG1.out.below (HB.trans ((below_regrown w1 _ _).mono HB.size)) hpl1)))) | quiet_step ((with_reducible first | exact Calls.regrown_of (cM1.out _ (HG1.out.below (HB.trans ((below_regrown w1 _ _).mono HB.size)) hpl1)) | exact Calls.regrown_of (cM2.out _ (HG1.out.below (HB.trans ((below_regrown w1 _ _).mono HB.size)) hpl1)))))
    refine wpQuiet_nil ?_
    intro _ hw'
    obtain ⟨⟨dq, osq⟩, hw''⟩ := hw'
    have HB2 := bel_trans HB (below_regrown w1 dq osq)
    have hb2 := below_regrown w1 dq osq
    subst hw''
    generalize grow (redrawn w1 dq) osq = w2 at HB2 hb2 ⊢
    go_wp2
    go_ret2
    exact ⟨rfl, bel_trans hb1 HB2⟩
  · have e1 : td = m1 := by rw [← htd]; simp [c1]
    have e2 : ts = false := by rw [← hts]; simp [c2]
    subst e1
    subst e2
    clear htd hts
    have q1 : (i : Int) < (I : Int) := by omega
    have q2 : ¬ (j : Int) < (J : Int) := by omega
    go_upto_region 2 with (fail)
    refine wp_region_quiet_below (by kernel_rfl) (by kernel_rfl) ?_
    repeat (first | go_big_quiet_step ((with_reducible exact Calls.regrown_of (cM1.out _ (HG1.out.below (HB.trans ((below_regrown w1 _ _).mono HB.size)) hpl1)))) | quiet_step ((with_reducible exact Calls.regrown_of (cM1.out _ (HG1.out.below (HB.trans ((below_regrown w1 _ _).mono HB.size)) hpl1)))))
    refine wpQuiet_nil ?_
    intro _ hw'
    obtain ⟨⟨dq, osq⟩, hw''⟩ := hw'
    have HB2 := bel_trans HB (below_regrown w1 dq osq)
    have hb2 := below_regrown w1 dq osq
    subst hw''
    generalize grow (redrawn w1 dq) osq = w2 at HB2 hb2 ⊢
    go_wp2
    go_ret2
    exact ⟨rfl, bel_trans hb1 HB2⟩
  · have e1 : td = false := by rw [← htd]; simp [c1]
    have e2 : ts = m2 := by rw [← hts]; simp [c2]
    subst e1
    subst e2
    clear htd hts
    have q1 : ¬ (i : Int) < (I : Int) := by omega
    have q2 : (j : Int) < (J : Int) := by omega
    go_upto_region 2 with (fail)
    refine wp_region_quiet_below (by kernel_rfl) (by kernel_rfl) ?_
    repeat (first | go_big_quiet_step ((with_reducible exact Calls.regrown_of (cM2.out _ (HG1.out.below (HB.trans ((below_regrown w1 _ _).mono HB.size)) hpl1)))) | quiet_step ((with_reducible exact Calls.regrown_of (cM2.out _ (HG1.out.below (HB.trans ((below_regrown w1 _ _).mono HB.size)) hpl1)))))
    refine wpQuiet_nil ?_
    intro _ hw'
    obtain ⟨⟨dq, osq⟩, hw''⟩ := hw'
    have HB2 := bel_trans HB (below_regrown w1 dq osq)
    have hb2 := below_regrown w1 dq osq
    subst hw''
    generalize grow (redrawn w1 dq) osq = w2 at HB2 hb2 ⊢
    go_wp2
    go_ret2
    exact ⟨rfl, bel_trans hb1 HB2⟩
  · have e1 : td = false := by rw [← htd]; simp [c1]
    have e2 : ts = false := by rw [← hts]; simp [c2]
    subst e1
    subst e2
    clear htd hts
    have q1 : ¬ (i : Int) < (I : Int) := by omega
    have q2 : ¬ (j : Int) < (J : Int) := by omega
    go_upto_region 2 with (fail)
    refine wp_region_quiet_below (by kernel_rfl) (by kernel_rfl) ?_
    repeat (first | go_big_quiet_step (fail) | quiet_step (fail))
    refine wpQuiet_nil ?_
    intro _ hw'
    obtain ⟨⟨dq, osq⟩, hw''⟩ := hw'
    have HB2 := bel_trans HB (below_regrown w1 dq osq)
    have hb2 := below_regrown w1 dq osq
    subst hw''
    generalize grow (redrawn w1 dq) osq = w2 at HB2 hb2 ⊢
    go_wp2
    go_ret2
    exact ⟨rfl, bel_trans hb1 HB2⟩
theorem wp_mapUpdate_run {P : Program} {o : Oper} {a : Act} {w w' : World} {K : Act → World → Prop} {Q : Exit → Act → World → Prop} {mt : TypeId} (mo ko vo : Operand) (hop : o.op = .mapUpdate mt mo ko vo) (hd : o.dst = none)
    (hrun : (Instr.mapUpdate mt (a.eval mo) (a.eval ko) (a.eval vo)).run P w = .ok () w') (h : K a w') : o.wp P a w K Q := by
  unfold Oper.wp
  simp [execOp, hop, hrun, Result.andThen]
  show K (a.put o.dst undef) w'
  rw [hd]
  exact h
theorem wpList_mapUpdate_run {P : Program} {ops : Array Oper} {rest : List Oper} {o : Oper} {a : Act} {w w' : World} {Q : Exit → Act → World → Prop} {mt : TypeId} (hg : o.guard = none) (mo ko vo : Operand) (hop : o.op = .mapUpdate mt mo ko vo) (hd : o.dst = none)
    (hrun : (Instr.mapUpdate mt (a.eval mo) (a.eval ko) (a.eval vo)).run P w = .ok () w') (h : wpList P ops Q rest a w') : wpList P ops Q (o :: rest) a w := by
  refine wpList_plain hg fun K' hK' => ?_
  exact wp_mapUpdate_run mo ko vo hop hd hrun (hK' _ _ h)
/-- behind spread: the set is another one -/
def SpreadD (w : World) (b gp mo mk : Nat) (g : G) (v : Int) (ca cb : Nat) (S T : Int × Int → Prop) (e : Ending) (w' : World) : Prop := e = .returned (.tuple #[]) ∧ FieldIn w' b gp mo mk g v ca cb S T ∧ Kept [mo, mk] w w'
set_option maxRecDepth 100000 in
set_option maxHeartbeats 1600000 in
theorem fieldSpread (w : World) (b gp mo mk : Nat) (g : G) (v : Int) (ca cb : Nat) (S T : Int × Int → Prop) (i j : Nat) (h : FieldIn w b gp mo mk g v ca cb S T) (hi : i ≤ g.fI ca cb) (hj : j ≤ g.fJ ca cb) :
    Calls Tryz.prog 125 #[.pointer (some ⟨b, 0, none⟩), .map (some mo), .int .i64 (i : Nat), .int .i64 (j : Nat)] w
      (SpreadD w b gp mo mk g v ca cb (fun k => S k ∨ (g.dOk ca cb i j ∧ k = (((i + 1 : Nat) : Int), (j : Int))) ∨ (g.sOk ca cb i j ∧ k = ((i : Int), ((j + 1 : Nat) : Int)))) T) := by
  obtain ⟨l1, l2⟩ := G.fI_le h.ok h.cells.2 h.cells.1
  obtain ⟨td, htd⟩ : ∃ t, dB g ca cb i j = t := ⟨_, rfl⟩
  obtain ⟨ts, hts⟩ : ∃ t, sB g ca cb i j = t := ⟨_, rfl⟩
  have cN := fieldNext w b gp mo mk g v ca cb S T i j td ts h hi hj htd hts
  have CN := Lib.hid cN
  have H := Lib.hid h
  have Htd := Lib.hid htd
  have Hts := Lib.hid hts
  obtain ⟨n1, n2, n3, n4, n5⟩ := h.ne
  have hi15 : i ≤ 15 := by omega
  have hj15 : j ≤ 15 := by omega
  clear h hi hj l1 l2 htd hts cN
  go_enter Tryz.func125, Tryz.ntmps125
  go_wp2_with fail
  (with_reducible refine CN.out.mono ?_)
  rintro e w1 ⟨rfl, hb1⟩
  have h1 := H.out.below hb1
  obtain ⟨w2, hrun1, hS2, hK2⟩ := h1.on.put ((i + 1 : Nat) : Int) (j : Int)
  have ei : (((i + 1 : Nat) : Int)) = (i : Int) + 1 := by omega
  have ej : (((j + 1 : Nat) : Int)) = (j : Int) + 1 := by omega
  -- what holds behind the first store, or without it
  have hmid : ∃ w3 : World, (w3 = if td = true then w2 else w1) ∧ FieldIn w3 b gp mo mk g v ca cb (fun k => S k ∨ (g.dOk ca cb i j ∧ k = (((i + 1 : Nat) : Int), (j : Int)))) T ∧ Kept [mo, mk] w w3 := by
    cases td with
    | true =>
      refine ⟨w2, rfl, ⟨(hK2.block b h1.lt (by simpa using n1)).trans h1.hb, h1.grid.keptS hK2 (by simpa using n3), hS2.iff (fun k => ?_), h1.bk.kept hK2 (by simpa using Ne.symm n5), h1.ne, h1.cells⟩, (Kept.of_below hb1).trans (hK2.wid (by simp))⟩
      have := dB_iff.1 Htd.out
      constructor
      · rintro (x | x)
        · exact .inl x
        · exact .inr ⟨this, x⟩
      · rintro (x | x)
        · exact .inl x
        · exact .inr x.2
    | false =>
      refine ⟨w1, rfl, ⟨h1.hb, h1.grid, h1.on.iff (fun k => ?_), h1.bk, h1.ne, h1.cells⟩, Kept.of_below hb1⟩
      constructor
      · exact .inl
      · rintro (x | x)
        · exact x
        · exact absurd (dB_iff.2 x.1) (by rw [Htd.out]; simp)
  obtain ⟨w3, hw3, h3, hK3⟩ := hmid
  obtain ⟨w4, hrun2, hS4, hK4⟩ := h3.on.put (i : Int) ((j + 1 : Nat) : Int)
  rw [ei] at hrun1
  rw [ej] at hrun2
  have hfin : ∀ wE, (wE = if ts = true then w4 else w3) → SpreadD w b gp mo mk g v ca cb (fun k => S k ∨ (g.dOk ca cb i j ∧ k = (((i + 1 : Nat) : Int), (j : Int))) ∨ (g.sOk ca cb i j ∧ k = ((i : Int), ((j + 1 : Nat) : Int)))) T (.returned (.tuple #[])) wE := by
    intro wE hE
    cases ts with
    | true =>
      have hE : wE = w4 := hE
      subst hE
      refine ⟨rfl, ⟨(hK4.block b h3.lt (by simpa using n1)).trans h3.hb, h3.grid.keptS hK4 (by simpa using n3), hS4.iff (fun k => ?_), h3.bk.kept hK4 (by simpa using Ne.symm n5), h3.ne, h3.cells⟩, hK3.trans (hK4.wid (by simp))⟩
      have := sB_iff.1 Hts.out
      constructor
      · rintro ((x | x) | x)
        · exact .inl x
        · exact .inr (.inl x)
        · exact .inr (.inr ⟨this, x⟩)
      · rintro (x | x | x)
        · exact .inl (.inl x)
        · exact .inl (.inr x)
        · exact .inr x.2
    | false =>
      have hE : wE = w3 := hE
      subst hE
      refine ⟨rfl, ⟨h3.hb, h3.grid, h3.on.iff (fun k => ?_), h3.bk, h3.ne, h3.cells⟩, hK3⟩
      constructor
      · rintro (x | x)
        · exact .inl x
        · exact .inr (.inl x)
      · rintro (x | x | x)
        · exact .inl x
        · exact .inr x
        · exact absurd (sB_iff.2 x.1) (by rw [Hts.out]; simp)
  have Hfin := Lib.hid hfin
  clear hfin hS2 hK2 hS4 hK4 h3 hK3 h1 hb1 ei ej
  cases td with
  | true =>
    have hwe : w3 = w2 := hw3
    clear hw3
    subst hwe
    cases ts with
    | true =>
      go_wp2_with (at_mapUpdate; first | refine wpList_mapUpdate_run rfl _ _ _ rfl rfl hrun1 ?_ | refine wpList_mapUpdate_run rfl _ _ _ rfl rfl hrun2 ?_)
      go_end0
      exact Hfin.out _ rfl
    | false =>
      clear hrun2
      go_wp2_with (at_mapUpdate; refine wpList_mapUpdate_run rfl _ _ _ rfl rfl hrun1 ?_)
      go_end0
      exact Hfin.out _ rfl
  | false =>
    have hwe : w3 = w1 := hw3
    clear hw3
    have hrun2' := hrun2
    rw [hwe] at hrun2'
    have hF2 := Hfin.out
    rw [hwe] at hF2
    have HF2 := Lib.hid hF2
    clear hrun1 hwe hrun2 Hfin hF2
    cases ts with
    | true =>
      go_wp2_with (at_mapUpdate; refine wpList_mapUpdate_run rfl _ _ _ rfl rfl hrun2' ?_)
      go_end0
      exact HF2.out _ rfl
    | false =>
      clear hrun2'
      go_wp2
      go_end0
      exact HF2.out _ rfl
end Go.Proofs.YtjejkadaafmdcaaGreat
