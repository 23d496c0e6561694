/- The document's way between two cells that are near. -/
import Derived.Test.YtkiogciokngjfaaRRay6
import Derived.Test.YtkiogciokngjfaaReach7
set_option linter.unusedVariables false
set_option linter.unusedSimpArgs false
namespace Go.Proofs.Ytkiogciokngjfaa
open Go.RowKit Go.Sort FR
theorem one_bools (w : World) (Z : Array Value) (zs : Z.size = 256) (zo : Z.all (·.oneCell') = true) :
    ∃ W, (storeCells ⟨w.heap.size, 0, none⟩ Z.toList).run Try.prog (w.alloc (.cells Try.zeroCells66 66)) = .ok () W ∧ W.heap[w.heap.size]? = some (.cells Z 66 (0, 0)) ∧ Below w.heap.size w W := by
  have h2 := alloc_at w (.cells Try.zeroCells66 66) rfl
  have hr := run_storeCells_row (P := Try.prog) (w.alloc (.cells Try.zeroCells66 66)) w.heap.size _ 66 _ Z h2 (by rw [zs]; kernel_rfl) (by rw [zero_bools, rowOf_size, zs]) zo
  exact ⟨_, hr, setRow_heap _ _ _ _ _ _ h2, below_setRow (bel_alloc (Below.refl _ _)) (Nat.le_refl _) _⟩
/-- what holds at a round's head -/
def RWayI (W : World) (g : G) (ca cb : Nat) (P : Nat → Nat × Nat) (n gk : Nat) (sl av : Value) (wr : World) : Prop :=
  ∃ k, k ≤ n ∧ gk = n - k ∧ av = .int .i64 (g.fcell ca cb (P k).1 (P k).2 : Nat) ∧ OwnI wr W.heap.size sl (wayL g ca cb P (k + 1)) ∧ Below W.heap.size W wr
/-- .. at a round's head within -/
def RSelI (W : World) (g : G) (ca cb i j nl : Nat) (zv kv : Value) (wr : World) : Prop :=
  ∃ (kk : Nat) (z : Int), kk ≤ nl ∧ zv = .int .i64 z ∧ kv = .int .i64 kk ∧ G.Sel (g.DAt ca cb i j) (g.SAt ca cb i j) (g.fcell ca cb (i + 1) j) (g.fcell ca cb i (j + 1)) kk z ∧ Below W.heap.size W wr
set_option maxRecDepth 100000 in
set_option maxHeartbeats 6400000 in
theorem rWay (w : World) (p : Nat) (g : G) (v : Int) (ca cb : Nat) (P : Nat → Nat × Nat) (h : RGridAt w p g v) (hca : ca < g.n) (hcb : cb < g.n) (hn : g.Near ca cb) (hP : g.WayP ca cb P) :
    Calls Try.prog 70 #[.pointer (some ⟨p, 0, none⟩), .int .i64 (ca : Nat), .int .i64 (cb : Nat)] w (RetInts w (wayL g ca cb P (g.fI ca cb + g.fJ ca cb + 1))) := by
  have hok := h.1
  have hNn := G.n_le hok
  obtain ⟨q1, q2⟩ := G.fI_le hok hcb hca
  have HW := Lib.hid (G.wayP_ok hok hcb hca hn hP)
  have HP := Lib.hid hP
  have Hok := Lib.hid hok
  clear hn hP hok
  go_enter Try.func70, Try.ntmps70
  go_wp2_with fail
  (with_reducible refine (rOn _ p g v ca cb h hca hcb).mono ?_)
  rintro e w1 ⟨on, rfl, hOn, hb1⟩
  obtain ⟨Z, hZ⟩ : ∃ Z, Z = rowOf (icell on) 256 := ⟨_, rfl⟩
  have zs : Z.size = 256 := by rw [hZ, rowOf_size]
  have zo : Z.all (·.oneCell') = true := by rw [hZ]; exact Array.all_eq_true_iff_forall_mem.2 (fun v hv => row_one (f := icell on) (fun k => rfl) 256 v (by simpa using hv))
  rw [← hZ]
  have HZ := Lib.hid hZ
  clear hZ
  obtain ⟨W1, r1, hA, hbW⟩ := one_bools w1 Z zs zo
  rw [HZ.out] at hA
  have HB1 := bel_trans hb1 hbW
  have HR1 := Lib.hid (h.below HB1 h.lt)
  have HOn := Lib.hid hOn
  go_upto_region 2 with (fail)
  obtain ⟨b7, hb7⟩ : ∃ b, w1.heap.size = b := ⟨_, rfl⟩
  rw [hb7] at hA ⊢
  have HA := Lib.hid hA
  have hpl := HR1.out.lt
  clear r1 zo zs HZ hb7 hbW hb1 hOn hA h
  go_upto_region 4 with (fail)
  refine wp_name ?_
  intro W2 hW2
  have HB2 : Below W1.heap.size W1 W2 := by rw [hW2]; (repeat' (first | exact Below.refl _ _ | assumption | apply bel_drewN | apply bel_drew | apply bel_alloc | (refine bel_trans ?_ (by assumption))))
  obtain ⟨I, hI⟩ : ∃ z, g.fI ca cb = z := ⟨_, rfl⟩
  obtain ⟨J, hJ⟩ : ∃ z, g.fJ ca cb = z := ⟨_, rfl⟩
  rw [hI] at q1
  rw [hJ] at q2
  have HIJ := Lib.hid (And.intro hI hJ)
  have hO : OwnI W2 W1.heap.size (.slice (some ⟨W1.heap.size, 0, none⟩) 1 1) (wayL g ca cb P 1) := by
    have e : wayL g ca cb P 1 = [((ca : Nat) : Int)] := by
      unfold wayL
      simp only [List.range_one, List.map_cons, List.map_nil]
      rw [HP.out.1, G.fcell_zero]
    rw [e, hW2]
    refine ⟨rfl, .inr ⟨W1.heap.size, 1, #[.int .i64 (ca : Nat)], rfl, Nat.le_refl _, ?_, by simp, by decide, rfl, rfl⟩⟩
    exact heap_alloc_new W1 (.cells #[.int .i64 (ca : Nat)] 3 (0, 0))
  have hstart : RWayI W1 g ca cb P (I + J) (I + J) (.slice (some ⟨W1.heap.size, 0, none⟩) 1 1) (.int .i64 (ca : Nat)) W2 := ⟨0, Nat.zero_le _, rfl, by rw [HP.out.1, G.fcell_zero], hO, HB2⟩
  clear hW2 hO HB2 hI hJ
  go_wp2_with fail
  go_loopg [8, 9] (I + J) (fun gk sl av wr => RWayI W1 g ca cb P (I + J) gk sl av wr)
  case atStart => exact hstart
  case round =>
    obtain ⟨k, hk, hgk, rfl, hO, hB⟩ := hrel
    clear hstart
    have hw := HW.out k (by rw [HIJ.out.1, HIJ.out.2]; exact hk)
    rw [HIJ.out.1, HIJ.out.2] at hw
    have hnx := HP.out.2 k
    obtain ⟨⟨i, j⟩, hPk⟩ : ∃ z, P k = z := ⟨_, rfl⟩
    rw [hPk] at hw hnx ⊢
    simp only at hw ⊢
    obtain ⟨w1', w2', w3', w4', w5'⟩ := hw
    have Hnx := Lib.hid hnx
    have HPk := Lib.hid hPk
    have HOB := Lib.hid (And.intro w4' w5')
    obtain ⟨c, hc⟩ : ∃ c, g.fcell ca cb i j = c := ⟨_, rfl⟩
    have hcn : c < g.n := by rw [← hc]; exact (G.fcell_XY Hok.out hcb hca (by rw [HIJ.out.1]; exact w1') (by rw [HIJ.out.2]; exact w2')).1
    have Hc := Lib.hid hc
    rw [hc]
    obtain ⟨A, mm, rfl, hI0⟩ := hO.ints
    have hll := wayL_length g ca cb P (k + 1)
    rw [hll] at hO hI0 ⊢
    have Hll := Lib.hid hll
    have HO := Lib.hid hO
    clear hnx hPk w4' w5' hO hI0 hll hc
    by_cases hend : k < I + J
    · have hcc : c ≠ cb := by
        intro e
        have := G.fcell_ne Hok.out hcb hca (i := i) (j := j) (by rw [HIJ.out.1]; exact w1') (by rw [HIJ.out.2]; exact w2') (by rw [Hc.out, e])
        rw [HIJ.out.1, HIJ.out.2] at this
        omega
      have hg1 : ((c : Int) != (cb : Int)) = true := by rw [bne_iff_ne]; omega
      have HRr := HR1.out.below hB hpl
      go_wp2_with fail
      (with_reducible refine (rMoves _ p g v c HRr hcn).mono ?_)
      rintro e w3 ⟨A1, m1, rfl, hI1, hb3⟩
      obtain ⟨nl, hnl⟩ : ∃ nl, (movesI g c).length = nl := ⟨_, rfl⟩
      rw [hnl] at hI1 ⊢
      have Hnl := Lib.hid hnl
      have hnl8 : nl ≤ 8 := by rw [← hnl]; exact upTo_len _ _
      obtain ⟨⟨ls, ld⟩, hl⟩ : ∃ z, g.oct c cb = z := ⟨_, rfl⟩
      have HR3 := HRr.below hb3 HRr.lt
      have hB3 := bel_trans hB hb3
      have HO3 := HO.out.below (B' := 0) hb3
      clear hnl HRr hB hb3 HO
      go_wp2_with fail
      (with_reducible refine (rOct _ p g v c cb ⟨ls, ld⟩ HR3 hcn hcb hl).mono ?_)
      rintro e w4 ⟨rfl, hb4⟩
      go_upto_region 8 with (fail)
      refine wp_name ?_
      intro W4 hW4
      have HW4 : Below w4.heap.size w4 W4 := by rw [hW4]; (repeat' (first | exact Below.refl _ _ | assumption | apply bel_drewN | apply bel_drew | apply bel_alloc | (refine bel_trans ?_ (by assumption))))
      have o0 : W4.cell? ⟨w4.heap.size, 0, none⟩ = some (.int .i64 ls) := by rw [hW4]; go_simp
      have o1 : W4.cell? ⟨w4.heap.size, 1, none⟩ = some (.int .i64 ld) := by rw [hW4]; go_simp
      obtain ⟨b12, hb12⟩ : ∃ z, w4.heap.size = z := ⟨_, rfl⟩
      rw [hb12] at o0 o1 ⊢
      have hb4 := bel_trans hb4 HW4
      have HR4 := HR3.below hb4 HR3.lt
      have hB4 := bel_trans hB3 hb4
      have HO4 := Lib.hid (HO3.below (B' := 0) hb4)
      have hI4 := Lib.hid (hI1.below hb4)
      have hp4 := HR4.lt
      have HR4 := Lib.hid HR4
      have Hl := Lib.hid hl
      have HO0 := Lib.hid (And.intro o0 o1)
      clear hW4 HW4 hb12 hb4 HR3 hB3 HO3 hI1 hl o0 o1
      have hstart : RSelI W4 g ca cb i j nl (.int .i64 (-1)) (.int .i64 (0 : Nat)) W4 := ⟨0, -1, by omega, rfl, rfl, G.sel_start, Below.refl _ _⟩
      go_wp2_with fail
      obtain ⟨wo, rfl⟩ : ∃ wo : World, wo = wr := ⟨_, rfl⟩
      go_loopw [10, 13] (fun zv kv wr => RSelI W4 g ca cb i j nl zv kv wr) (fun _ kv _ => nl - (intOf kv).toNat)
      case atStart => exact hstart
      case round =>
        obtain ⟨kk, z, hkk, rfl, rfl, hS, hBr⟩ := hrel
        clear hstart
        have hS := Lib.hid hS
        by_cases hlk : kk < nl
        · have hIr := hI4.out.below hBr
          obtain ⟨ad1, hA1⟩ := hIr.addr (by omega)
          rw [hA1] at hIr
          have hix1 := fun wx => idx_run (m := m1) hA1 hlk wx
          have hE1 := hIr.cell (Below.refl _ _) hlk
          have hb1 := hIr.blk' (by omega)
          obtain ⟨d, hd8, hmay, hgd, hnth⟩ := moves_at (g := g) (k := c) (j := kk) (by rw [Hnl.out]; exact hlk)
          rw [hgd] at hE1
          obtain ⟨ht1, ht2⟩ := to_eq hmay
          obtain ⟨tt, hto⟩ : ∃ tt, g.to c d = tt := ⟨_, rfl⟩
          rw [hto] at ht1 ht2
          have cT := Lib.hid (fun w' h' => rTo_eq w' p g v c d (tt : Nat) h' hcn hd8 ht1)
          have Hd := Lib.hid (And.intro hmay (And.intro hto hnth))
          have HRr := HR4.out.below hBr hp4
          have jq0 : (0 : Int) ≤ (kk : Int) := by omega
          have jq1 : (kk : Int) < (nl : Int) := by omega
          have d0 : (0 : Int) ≤ (d : Int) := by omega
          clear hA1 hIr hgd ht1 hmay hto hnth
          go_wp2_with fail
          (with_reducible refine (cT.out _ HRr).mono ?_)
          rintro e w5 ⟨rfl, hb5⟩
          have hB5 := bel_trans hBr hb5
          have hE1 := bel_cell hb5 hE1
          obtain ⟨es, ed, hst, hr1, hr2, hr3, hr4⟩ := step_parts d
          have hodd : d % 2 = 1 ↔ ed = 1 := by
            rw [Int.tmod_eq_emod_of_nonneg (by omega)] at hr1
            omega
          have Hodd := Lib.hid hodd
          have hwr : IntKind.i64.wrap (1 - ed) = es := by rw [← hr2]; exact IntWalk.i64_in _ (by omega)
          have Hst := Lib.hid hst
          have n2 := World.new_ne w5 _ hE1
          have hE1a := fun o => alloc_some (o := o) hE1
          obtain ⟨⟨os, od⟩, ho⟩ : ∃ z, g.oct tt cb = z := ⟨_, rfl⟩
          have hsm := G.oct_small Hok.out hcb ht2
          rw [ho] at hsm
          obtain ⟨m1', m2', m3', m4'⟩ := hsm
          simp only at m1' m2' m3' m4'
          have cP := Lib.hid (fun w => refPlus es ed os od w (by unfold inC; omega) (by unfold inC; omega) (by unfold inC; omega) (by unfold inC; omega))
          have cO := Lib.hid (fun w' h' => rOct w' p g v tt cb ⟨os, od⟩ h' ht2 hcb ho)
          have Ho := Lib.hid ho
          have hB5 := Lib.hid hB5
          clear hodd hr2 hr3 hr4 hst ho hb5 HRr hBr cT hb1 m1' m2' m3' m4'
          go_upto_region 12 with (fail)
          go_cut [15] (fun s wx => ∃ D, s = .pointer (some ⟨D, 0, none⟩) ∧ wx.cell? ⟨D, 0, none⟩ = some (.int .i64 es) ∧ wx.cell? ⟨D, 1, none⟩ = some (.int .i64 ed) ∧ Below w5.heap.size w5 wx)
          case first =>
            go_region_held3 (fun w' => w'.cell? (ad1.add kk) = some (.int .i64 (d : Nat)))
              (first
                | (go_keep; done)
                | exact alloc_swap (by rw [add_block]; have := World.block_lt_of_cell? _ _ hE1; rw [add_block] at this; simp; omega) (by assumption))
              (fail)
            all_goals
              go_wp2
              go_meet
              case rel => exact ⟨_, rfl, by go_simp, by go_simp, by first | (repeat' (first | exact Below.refl _ _ | assumption | apply bel_drewN | apply bel_drew | apply bel_alloc | (refine bel_trans ?_ (by assumption)))) | exact ((bel_drew (bel_alloc (Below.refl _ _))).setCell (by simp) _).setCell (by simp) _⟩
          case rest =>
          obtain ⟨D, rfl, s0, s1, hdr⟩ := hcut
          have hB6 := bel_trans hB5.out hdr
          obtain ⟨WX, hWX⟩ : ∃ z : World, wc = z := ⟨_, rfl⟩
          rw [hWX] at s0 s1 hB6 ⊢
          clear hdr hE1 n2 hE1a hix1 hWX hB5
          have o0 := bel_cell hB6 HO0.out.1
          have o1 := bel_cell hB6 HO0.out.2
          have x3 := (row_cell HA.out (bel_trans hB4 hB6) (t := tt) (by omega)).1
          unfold icell at x3
          have HRX := HR4.out.below hB6 hp4
          have hpX := HRX.lt
          have HRX := Lib.hid HRX
          have t0 : (0 : Int) ≤ (tt : Int) := by omega
          have t1 : (tt : Int) < 256 := by omega
          obtain ⟨r, hr⟩ := boolP (g.Cand ca cb c d ∧ (z < 0 ∨ d % 2 = 1))
          have Hr := Lib.hid hr
          have hon := HOn.out tt ht2
          obtain ⟨ot, hot⟩ : ∃ b, on tt = b := ⟨_, rfl⟩
          rw [hot] at x3 hon
          have hcd : g.Cand ca cb c d ↔ ot = true ∧ es + os = ls ∧ ed + od = ld := by
            unfold G.Cand
            rw [Hd.out.2.1, hon, Ho.out, Hl.out, Hst.out]
            refine and_congr_right fun _ => ?_
            unfold C.add
            simp only [C.mk.injEq]
          rw [hcd, Hodd.out] at hr
          have Hr2 := Lib.hid hr
          clear hr hon hot hcd
          go_upto_region 13 with (fail)
          have o0q := cell_regrown o0
          have o1q := cell_regrown o1
          have s0q := cell_regrown s0
          have s1q := cell_regrown s1
          have x3q := cell_regrown x3
          have HBX := Below.refl WX.heap.size WX
          go_cut [79] (fun s wx => s = .bool r ∧ Below WX.heap.size WX wx)
          case first =>
            cases ot with
            | false =>
              have er : r = false := bool_no Hr2.out (by simp)
              subst er
              clear Hr Hr2
              refine wp_region_quiet_below (by kernel_rfl) (by kernel_rfl) ?_
              repeat (first | go_big_quiet_step (fail) | quiet_step (fail))
              refine wpQuiet_nil ?_
              intro _ hw'
              obtain ⟨⟨dq, osq⟩, hw''⟩ := hw'
              have HBY := bel_trans HBX (below_regrown WX dq osq)
              have hb2 := below_regrown WX dq osq
              subst hw''
              generalize grow (redrawn WX dq) osq = wY at HBY hb2 ⊢
              go_wp2
              go_meet
              case rel => exact ⟨rfl, HBY⟩
            | true =>
              by_cases e1 : es + os = ls
              · by_cases e2 : ed + od = ld
                · by_cases hz : z < 0
                  · have er : r = true := Hr2.out.2 ⟨⟨rfl, e1, e2⟩, .inl hz⟩
                    subst er
                    subst e1
                    subst e2
                    clear Hr Hr2
                    refine wp_region_quiet_below (by kernel_rfl) (by kernel_rfl) ?_
                    repeat (first | go_big_quiet_step (first | (with_reducible exact Calls.regrown_of (cO.out _ (HRX.out.below (below_regrown WX _ _) hpX))) | (with_reducible exact Calls.regrown_of (cP.out _))) | quiet_step (first | (with_reducible exact Calls.regrown_of (cO.out _ (HRX.out.below (below_regrown WX _ _) hpX))) | (with_reducible exact Calls.regrown_of (cP.out _))))
                    refine wpQuiet_nil ?_
                    intro _ hw'
                    obtain ⟨⟨dq, osq⟩, hw''⟩ := hw'
                    have HBY := bel_trans HBX (below_regrown WX dq osq)
                    have hb2 := below_regrown WX dq osq
                    subst hw''
                    generalize grow (redrawn WX dq) osq = wY at HBY hb2 ⊢
                    go_wp2
                    go_meet
                    case rel => exact ⟨rfl, HBY⟩
                  · have hzd : decide (z < 0) = false := by simp; omega
                    by_cases h1 : ed = 1
                    · have er : r = true := Hr2.out.2 ⟨⟨rfl, e1, e2⟩, .inr h1⟩
                      subst er
                      subst e1
                      subst e2
                      subst h1
                      clear Hr Hr2
                      refine wp_region_quiet_below (by kernel_rfl) (by kernel_rfl) ?_
                      repeat (first | go_big_quiet_step (first | (with_reducible exact Calls.regrown_of (cO.out _ (HRX.out.below (below_regrown WX _ _) hpX))) | (with_reducible exact Calls.regrown_of (cP.out _))) | quiet_step (first | (with_reducible exact Calls.regrown_of (cO.out _ (HRX.out.below (below_regrown WX _ _) hpX))) | (with_reducible exact Calls.regrown_of (cP.out _))))
                      refine wpQuiet_nil ?_
                      intro _ hw'
                      obtain ⟨⟨dq, osq⟩, hw''⟩ := hw'
                      have HBY := bel_trans HBX (below_regrown WX dq osq)
                      have hb2 := below_regrown WX dq osq
                      subst hw''
                      generalize grow (redrawn WX dq) osq = wY at HBY hb2 ⊢
                      go_wp2
                      go_meet
                      case rel => exact ⟨rfl, HBY⟩
                    · have er : r = false := bool_no Hr2.out (by rintro ⟨_, h | h⟩; exact hz h; exact h1 h)
                      have h1' : (ed == 1) = false := by rw [beq_eq_false_iff_ne]; exact h1
                      subst er
                      subst e1
                      subst e2
                      clear Hr Hr2 h1
                      refine wp_region_quiet_below (by kernel_rfl) (by kernel_rfl) ?_
                      repeat (first | go_big_quiet_step (first | (with_reducible exact Calls.regrown_of (cO.out _ (HRX.out.below (below_regrown WX _ _) hpX))) | (with_reducible exact Calls.regrown_of (cP.out _))) | quiet_step (first | (with_reducible exact Calls.regrown_of (cO.out _ (HRX.out.below (below_regrown WX _ _) hpX))) | (with_reducible exact Calls.regrown_of (cP.out _))))
                      refine wpQuiet_nil ?_
                      intro _ hw'
                      obtain ⟨⟨dq, osq⟩, hw''⟩ := hw'
                      have HBY := bel_trans HBX (below_regrown WX dq osq)
                      have hb2 := below_regrown WX dq osq
                      subst hw''
                      generalize grow (redrawn WX dq) osq = wY at HBY hb2 ⊢
                      go_wp2
                      go_meet
                      case rel => exact ⟨rfl, HBY⟩
                · have er : r = false := bool_no Hr2.out (by rintro ⟨⟨_, _, h⟩, _⟩; exact e2 h)
                  have e2' : (ed + od == ld) = false := by rw [beq_eq_false_iff_ne]; exact e2
                  subst er
                  subst e1
                  clear Hr Hr2 e2
                  refine wp_region_quiet_below (by kernel_rfl) (by kernel_rfl) ?_
                  repeat (first | go_big_quiet_step (first | (with_reducible exact Calls.regrown_of (cO.out _ (HRX.out.below (below_regrown WX _ _) hpX))) | (with_reducible exact Calls.regrown_of (cP.out _))) | quiet_step (first | (with_reducible exact Calls.regrown_of (cO.out _ (HRX.out.below (below_regrown WX _ _) hpX))) | (with_reducible exact Calls.regrown_of (cP.out _))))
                  refine wpQuiet_nil ?_
                  intro _ hw'
                  obtain ⟨⟨dq, osq⟩, hw''⟩ := hw'
                  have HBY := bel_trans HBX (below_regrown WX dq osq)
                  have hb2 := below_regrown WX dq osq
                  subst hw''
                  generalize grow (redrawn WX dq) osq = wY at HBY hb2 ⊢
                  go_wp2
                  go_meet
                  case rel => exact ⟨rfl, HBY⟩
              · have er : r = false := bool_no Hr2.out (by rintro ⟨⟨_, h, _⟩, _⟩; exact e1 h)
                have e1' : (es + os == ls) = false := by rw [beq_eq_false_iff_ne]; exact e1
                subst er
                clear Hr Hr2 e1
                refine wp_region_quiet_below (by kernel_rfl) (by kernel_rfl) ?_
                repeat (first | go_big_quiet_step (first | (with_reducible exact Calls.regrown_of (cO.out _ (HRX.out.below (below_regrown WX _ _) hpX))) | (with_reducible exact Calls.regrown_of (cP.out _))) | quiet_step (first | (with_reducible exact Calls.regrown_of (cO.out _ (HRX.out.below (below_regrown WX _ _) hpX))) | (with_reducible exact Calls.regrown_of (cP.out _))))
                refine wpQuiet_nil ?_
                intro _ hw'
                obtain ⟨⟨dq, osq⟩, hw''⟩ := hw'
                have HBY := bel_trans HBX (below_regrown WX dq osq)
                have hb2 := below_regrown WX dq osq
                subst hw''
                generalize grow (redrawn WX dq) osq = wY at HBY hb2 ⊢
                go_wp2
                go_meet
                case rel => exact ⟨rfl, HBY⟩
          case rest =>
          obtain ⟨rfl, hbc⟩ := hcut
          have hB7 := bel_trans hB6 hbc
          have ho' : g.On ca cb i j := HOB.out.1
          have hsel : ∀ t : Bool, r = t → G.Sel (g.DAt ca cb i j) (g.SAt ca cb i j) (g.fcell ca cb (i + 1) j) (g.fcell ca cb i (j + 1)) (kk + 1) (if t = true then ((tt : Nat) : Int) else z) := by
            intro t et
            have hr := Hr.out
            have hm := Hd.out
            rw [← Hc.out] at hr hm
            cases t with
            | true =>
              rw [if_pos rfl, ← hm.2.1]
              exact G.sel_take Hok.out hcb hca (by rw [HIJ.out.1]; exact w1') (by rw [HIJ.out.2]; exact w2') ho' hm.2.2 hd8 hm.1 (hr.1 et) hS.out
            | false =>
              rw [if_neg (by simp)]
              exact G.sel_pass Hok.out hcb hca (by rw [HIJ.out.1]; exact w1') (by rw [HIJ.out.2]; exact w2') ho' hm.2.2 hd8 hm.1 (fun h => by rw [hr.2 h] at et; cases et) hS.out
          have Hsel := Lib.hid hsel
          clear hsel hbc Hr Hr2 s0 s1 o0 o1 x3 s0q s1q o0q o1q x3q HBX hB6 cO cP
          cases r with
          | true =>
            have hfin : RSelI W4 g ca cb i j nl (.int .i64 (tt : Nat)) (.int .i64 ((kk + 1 : Nat) : Int)) wc := ⟨kk + 1, _, by omega, rfl, rfl, Hsel.out true rfl, hB7⟩
            have hfin := Lib.hid hfin
            clear Hsel
            go_wp2
            go_roundw
            case rel => first | exact hfin.out | ((repeat apply Exists.intro); exact ⟨hfin.out, rfl⟩)
            case measure => simp [intOf]; omega
          | false =>
            have hfin : RSelI W4 g ca cb i j nl (.int .i64 z) (.int .i64 ((kk + 1 : Nat) : Int)) wc := ⟨kk + 1, _, by omega, rfl, rfl, Hsel.out false rfl, hB7⟩
            have hfin := Lib.hid hfin
            clear Hsel
            go_wp2
            go_roundw
            case rel => first | exact hfin.out | ((repeat apply Exists.intro); exact ⟨hfin.out, rfl⟩)
            case measure => simp [intOf]; omega
        · obtain rfl : kk = nl := by omega
          have hlm : (g.moves c).length = kk := by rw [← Hnl.out, movesI_eq, List.length_map]
          have hz : z = (g.fcell ca cb (P (k + 1)).1 (P (k + 1)).2 : Nat) := by
            refine G.sel_end Hok.out hcb hca Hnx.out (by rw [HIJ.out.1]; exact w1') (by rw [HIJ.out.2]; exact w2') HOB.out.1 HOB.out.2 (by rw [HIJ.out.1, HIJ.out.2]; omega) ?_
            rw [Hc.out, hlm]; exact hS.out
          obtain ⟨c', hc'⟩ : ∃ c', g.fcell ca cb (P (k + 1)).1 (P (k + 1)).2 = c' := ⟨_, rfl⟩
          rw [hc'] at hz
          have Hc' := Lib.hid hc'
          subst hz
          have HOr := Lib.hid (HO4.out.below (B' := 0) hBr)
          have hBw := bel_trans hB4 hBr
          have hml : (wayL g ca cb P (k + 1)).length < 1099511627776 := by rw [Hll.out]; omega
          have hsB := hBw.size
          have hnew : wayL g ca cb P (k + 1 + 1) = wayL g ca cb P (k + 1) ++ [((c' : Nat) : Int)] := by rw [wayL_succ, hc']
          have Hnew := Lib.hid hnew
          clear hnew hc' hlm hS hBr
          obtain ⟨w7, hw7⟩ : ∃ z : World, wr = z := ⟨_, rfl⟩
          rw [hw7] at HOr hBw hsB ⊢
          clear hw7
          go_wp2_with (at_builtin; (refine wpList_append_int _ rfl _ _ rfl W1.heap.size _ _ _ rfl (HOr.out.alloc _) ⟨w7.heap.size, 0, none⟩ rfl (cell1_new _ _ _) hml (by simp; omega) ?_); intro v' w9 hown9 hgrow)
          have hB9 := below_grown (hBw.alloc (by omega) _) (by simp; omega) (HOr.out.alloc _) hgrow
          have hown9' : OwnI w9 W1.heap.size v' (wayL g ca cb P (k + 1 + 1)) := by rw [Hnew.out]; exact hown9
          have hin : RWayI W1 g ca cb P (I + J) (I + J - (k + 1)) v' (.int .i64 (c' : Nat)) w9 := ⟨k + 1, by omega, rfl, by rw [Hc'.out], hown9', hB9⟩
          have hin := Lib.hid hin
          clear hown9 hown9' hgrow HOr hml hB9
          go_wp2
          go_roundg (I + J - (k + 1))
          case measure => omega
          case rel => exact hin.out
    · have hek : k = I + J := by omega
      have hij : i = I ∧ j = J := by omega
      have hcc : c = cb := by
        rw [← Hc.out, hij.1, hij.2, ← HIJ.out.1, ← HIJ.out.2]
        exact G.fcell_end Hok.out hcb hca
      subst hcc
      have hfin : RetInts w (wayL g ca c P (g.fI ca c + g.fJ ca c + 1)) (.returned (.slice A (k + 1) mm)) wr := by
        rw [HIJ.out.1, HIJ.out.2]
        have hO := HO.out
        rw [hek] at hO ⊢
        exact ret_ints hO (bel_trans HB1 hB)
      have hfin := Lib.hid hfin
      clear HO
      go_wp2
      go_ret
      exact hfin.out
end Go.Proofs.Ytkiogciokngjfaa
