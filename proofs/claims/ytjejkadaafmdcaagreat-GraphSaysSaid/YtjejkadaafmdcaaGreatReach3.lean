/- The field between two cells: which places lead to the end; whether it is reached. -/
import Derived.Test.YtjejkadaafmdcaaGreatReach2
set_option linter.unusedVariables false
set_option linter.unusedSimpArgs false
namespace Go.Proofs.YtjejkadaafmdcaaGreat
open Go.RowKit Go.Sort FR
/-- behind lead: the set of those that lead on is another one -/
def LeadD (w : World) (b gp mo mk : Nat) (g : G) (v : Int) (ca cb : Nat) (S T : Int × Int → Prop) (e : Ending) (w' : World) : Prop := e = .returned (.tuple #[]) ∧ FieldIn w' b gp mo mk g v ca cb S T ∧ Kept [mk] w w'
set_option maxRecDepth 100000 in
set_option maxHeartbeats 1600000 in
theorem fieldLead (w : World) (b gp mo mk : Nat) (g : G) (v : Int) (ca cb : Nat) (S T : Int × Int → Prop) (i j : Nat) (h : FieldIn w b gp mo mk g v ca cb S T) (hi : i ≤ g.fI ca cb) (hj : j ≤ g.fJ ca cb) :
    Calls Tryz.prog 126 #[.pointer (some ⟨b, 0, none⟩), .int .i64 (i : Nat), .int .i64 (j : Nat)] w
      (LeadD w b gp mo mk g v ca cb S (fun k => T k ∨ (((g.dOk ca cb i j ∧ T (((i + 1 : Nat) : Int), (j : Int))) ∨ (g.sOk ca cb i j ∧ T ((i : Int), ((j + 1 : Nat) : Int)))) ∧ k = ((i : Int), (j : Int))))) := by
  obtain ⟨l1, l2⟩ := G.fI_le h.ok h.cells.2 h.cells.1
  obtain ⟨td, htd⟩ : ∃ t, dB g ca cb i j = t := ⟨_, rfl⟩
  obtain ⟨ts, hts⟩ : ∃ t, sB g ca cb i j = t := ⟨_, rfl⟩
  have cN := fieldNext w b gp mo mk g v ca cb S T i j td ts h hi hj htd hts
  have CN := Lib.hid cN
  have H := Lib.hid h
  have Htd := Lib.hid htd
  have Hts := Lib.hid hts
  obtain ⟨n1, n2, n3, n4, n5⟩ := h.ne
  have hi15 : i ≤ 15 := by omega
  have hj15 : j ≤ 15 := by omega
  clear h hi hj l1 l2 htd hts cN
  go_enter Tryz.func126, Tryz.ntmps126
  go_wp2_with fail
  (with_reducible refine CN.out.mono ?_)
  rintro e w1 ⟨rfl, hb1⟩
  have h1 := H.out.below hb1
  obtain ⟨t1, ht1, hl1⟩ := h1.bk.look ((i + 1 : Nat) : Int) (j : Int)
  obtain ⟨t2, ht2, hl2⟩ := h1.bk.look (i : Int) ((j + 1 : Nat) : Int)
  have hl1 := hl1 w1 (Below.refl _ _)
  have hl2 := hl2 w1 (Below.refl _ _)
  obtain ⟨w2, hrun, hT2, hK2⟩ := h1.bk.put (i : Int) (j : Int)
  have ei : (((i + 1 : Nat) : Int)) = (i : Int) + 1 := by omega
  have ej : (((j + 1 : Nat) : Int)) = (j : Int) + 1 := by omega
  have hfin : ∀ wE (r : Bool), r = (td && t1 || ts && t2) → (wE = if r = true then w2 else w1) → LeadD w b gp mo mk g v ca cb S (fun k => T k ∨ (((g.dOk ca cb i j ∧ T (((i + 1 : Nat) : Int), (j : Int))) ∨ (g.sOk ca cb i j ∧ T ((i : Int), ((j + 1 : Nat) : Int)))) ∧ k = ((i : Int), (j : Int)))) (.returned (.tuple #[])) wE := by
    intro wE r hr hE
    have hiff : r = true ↔ ((g.dOk ca cb i j ∧ T (((i + 1 : Nat) : Int), (j : Int))) ∨ (g.sOk ca cb i j ∧ T ((i : Int), ((j + 1 : Nat) : Int)))) := by
      rw [hr, ← dB_iff, ← sB_iff, Htd.out, Hts.out, ← ht1, ← ht2]
      simp
    cases r with
    | true =>
      have hE : wE = w2 := hE
      subst hE
      refine ⟨rfl, ⟨(hK2.block b h1.lt (by simpa using n2)).trans h1.hb, h1.grid.keptS hK2 (by simpa using n4), h1.on.kept hK2 (by simpa using n5), hT2.iff (fun k => ?_), h1.ne, h1.cells⟩, (Kept.of_below hb1).trans hK2⟩
      have := hiff.1 rfl
      constructor
      · rintro (x | x)
        · exact .inl x
        · exact .inr ⟨this, x⟩
      · rintro (x | x)
        · exact .inl x
        · exact .inr x.2
    | false =>
      have hE : wE = w1 := hE
      subst hE
      refine ⟨rfl, ⟨h1.hb, h1.grid, h1.on, h1.bk.iff (fun k => ?_), h1.ne, h1.cells⟩, Kept.of_below hb1⟩
      constructor
      · exact .inl
      · rintro (x | x)
        · exact x
        · exact absurd (hiff.2 x.1) (by simp)
  have Hfin := Lib.hid hfin
  obtain ⟨_, _, _, _, _, _, _, _, k8⟩ := h1.cell
  rw [ei] at hl1
  rw [ej] at hl2
  clear hfin hT2 hK2 h1 hb1 ei ej ht1 ht2
  cases td with
  | true =>
    cases t1 with
    | true =>
      clear hl2
      go_wp2_with (at_mapUpdate; refine wpList_mapUpdate_run rfl _ _ _ rfl rfl hrun ?_)
      go_end0
      exact Hfin.out _ true (by simp) rfl
    | false =>
      cases ts with
      | true =>
        cases t2 with
        | true =>
          go_wp2_with (at_mapUpdate; refine wpList_mapUpdate_run rfl _ _ _ rfl rfl hrun ?_)
          go_end0
          exact Hfin.out _ true (by simp) rfl
        | false =>
          clear hrun
          go_wp2
          go_end0
          exact Hfin.out _ false (by simp) rfl
      | false =>
        clear hrun hl2
        go_wp2
        go_end0
        exact Hfin.out _ false (by simp) rfl
  | false =>
    clear hl1
    cases ts with
    | true =>
      cases t2 with
      | true =>
        go_wp2_with (at_mapUpdate; refine wpList_mapUpdate_run rfl _ _ _ rfl rfl hrun ?_)
        go_end0
        exact Hfin.out _ true (by simp) rfl
      | false =>
        clear hrun
        go_wp2
        go_end0
        exact Hfin.out _ false (by simp) rfl
    | false =>
      clear hrun hl2
      go_wp2
      go_end0
      exact Hfin.out _ false (by simp) rfl
set_option maxRecDepth 100000 in
set_option maxHeartbeats 800000 in
theorem fieldReached (w : World) (b gp mo mk : Nat) (g : G) (v : Int) (ca cb : Nat) (S T : Int × Int → Prop) (t : Bool) (h : FieldIn w b gp mo mk g v ca cb S T) (ht : t = true ↔ S ((g.fI ca cb : Nat), (g.fJ ca cb : Nat))) :
    Calls Tryz.prog 85 #[.pointer (some ⟨b, 0, none⟩)] w fun e w' => e = .returned (.bool t) ∧ Below w.heap.size w w' := by
  obtain ⟨k0, k1, k2, k3, k4, k5, k6, k7, k8⟩ := h.cell
  have hbl := h.lt
  obtain ⟨t', ht', hl⟩ := h.on.look (g.fI ca cb : Nat) (g.fJ ca cb : Nat)
  obtain rfl : t' = t := by
    cases t' <;> cases t <;> simp_all
  have hl := fun p os => hl _ (below_regrown w p os)
  obtain ⟨I, hI⟩ : ∃ z, g.fI ca cb = z := ⟨_, rfl⟩
  obtain ⟨J, hJ⟩ : ∃ z, g.fJ ca cb = z := ⟨_, rfl⟩
  rw [hI] at k5 hl
  rw [hJ] at k6 hl
  clear hI hJ ht ht' h k0 k1 k2 k3 k4 k8
  have k5q := cell_regrown k5
  have k6q := cell_regrown k6
  have k7q := cell_regrown k7
  have HB := Below.refl w.heap.size w
  go_enter Tryz.func85, Tryz.ntmps85
  go_upto_region 1 with (fail)
  refine wp_region_quiet_below (by kernel_rfl) (by kernel_rfl) ?_
  repeat (first | go_big_quiet_step (fail) | quiet_step (fail))
  refine wpQuiet_nil ?_
  intro _ hw'
  obtain ⟨⟨dq, osq⟩, hw''⟩ := hw'
  have HB2 := bel_trans HB (below_regrown w dq osq)
  have hb2 := below_regrown w dq osq
  subst hw''
  generalize grow (redrawn w dq) osq = w2 at HB2 hb2 ⊢
  go_wp2
  go_ret
  exact ⟨rfl, HB2⟩
/-- what is wrong with one of two cells -/
def fault2 (g : G) (x y : Int) : Nat := if g.fault x ≠ 0 then g.fault x else g.fault y
end Go.Proofs.YtjejkadaafmdcaaGreat
