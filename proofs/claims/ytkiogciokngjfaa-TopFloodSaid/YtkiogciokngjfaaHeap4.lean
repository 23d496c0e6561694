/- Down. -/
import Derived.Test.YtkiogciokngjfaaHeap3
set_option linter.unusedVariables false
set_option linter.unusedSimpArgs false
namespace Go.Proofs.Ytkiogciokngjfaa
open Go.RowKit Go.Sort FR
set_option maxRecDepth 100000 in
set_option maxHeartbeats 1600000 in
theorem heapDown (w : World) (b rb cap n mb N : Nat) (c : Nat → It) (m : Int → Option Value) (i : Nat) (h : HeapIn w b rb cap n mb c) (hm : MapAt (fun z : Int => Value.int .i64 z) w mb m N) (hi : i < n) (hn : n ≤ 1099511627776) (h1 : b ≠ rb) (h2 : b ≠ mb) (h3 : rb ≠ mb)
    (hC : ∀ k, k < n → inCC (c k).c) (hU : HeapDn n c i) (hD : Dst n c) (hP : PosBut n c m (c i).id) :
    Calls Try.prog 111 #[.pointer (some ⟨b, 0, none⟩), .int .i64 i] w fun e w' => e = .returned (.tuple #[]) ∧ Filled w w' b rb cap n mb c := by
  have hS := HoleAt.start hi h hm hC hD hP
  obtain ⟨hb, hR⟩ := h
  have hcap := hR.1
  have kl2 : b < w.heap.size := (Array.getElem?_eq_some_iff.1 hb).1
  have kl1 := hm.lt
  have kl0 := hR.lt
  have kb0 : w.cell? ⟨b, 0, none⟩ = some (.slice (some ⟨rb, 0, none⟩) n cap) := by simp [World.cell?, hb]
  obtain ⟨⟨⟨xs, xd⟩, xi⟩, hx⟩ : ∃ x, c i = x := ⟨_, rfl⟩
  obtain ⟨c1, c2, c3⟩ := hR.cells hi
  have hU' : HeapDn n (upd c i (c i)) i := by rw [upd_self]; exact hU
  rw [hx] at c1 c2 c3 hS hU'
  simp only at c1 c2 c3
  have hS := Lib.hid hS
  have hU' := Lib.hid hU'
  clear hx hb hR hC hU hD hP hm
  go_enter Try.func111, Try.ntmps111
  go_upto_region 1 with (fail)
  refine wp_name ?_
  intro W hW
  have HW : Below w.heap.size w W := by rw [hW]; (repeat' (first | exact Below.refl _ _ | assumption | apply bel_drewN | apply bel_drew | apply bel_alloc | (refine bel_trans ?_ (by assumption))))
  have hbox : W.heap[w.heap.size]? = some (.cells #[.int .i64 xs, .int .i64 xd, .int .i64 xi] 159 (0, 0)) := by rw [hW]; exact heap_alloc_new _ _
  clear hW c1 c2 c3 kb0
  go_loopw [1, 5] (fun iv kv wr => ∃ (j : Nat) (c' : Nat → It) (m' : Int → Option Value) (N' : Nat), iv = .int .i64 j ∧ HoleAt w wr b rb cap n mb ⟨⟨xs, xd⟩, xi⟩ j c c' m' N' ∧ HeapDn n (upd c' j ⟨⟨xs, xd⟩, xi⟩) j ∧ wr.heap[w.heap.size]? = some (.cells #[.int .i64 xs, .int .i64 xd, .int .i64 xi] 159 (0, 0))) (fun iv _ _ => n - (intOf iv).toNat)
  case atStart => exact ⟨i, c, m, N, rfl, hS.out.on HW, hU'.out, hbox⟩
  case round =>
    obtain ⟨j, c', m', N', rfl, hH, hUp, hbx⟩ := hrel
    have hbr := hH.here.1
    have kb0 : wr.cell? ⟨b, 0, none⟩ = some (.slice (some ⟨rb, 0, none⟩) n cap) := by simp [World.cell?, hbr]
    have x1 : wr.cell? ⟨w.heap.size, 0, none⟩ = some (.int .i64 xs) := by simp [World.cell?, hbx]
    have x2 : wr.cell? ⟨w.heap.size, 1, none⟩ = some (.int .i64 xd) := by simp [World.cell?, hbx]
    have x3 : wr.cell? ⟨w.heap.size, 2, none⟩ = some (.int .i64 xi) := by simp [World.cell?, hbx]
    have hjn := hH.lt
    have HB := Below.refl wr.heap.size wr
    have hH' := Lib.hid hH
    have hUp' := Lib.hid hUp
    clear hH hUp hbr
    by_cases hlt : 2 * j + 1 < n
    · obtain ⟨k1, hk1⟩ : ∃ k1, 2 * j + 1 = k1 := ⟨_, rfl⟩
      have hk1n : k1 < n := by omega
      have hz : 2 * (j : Int) + 1 = (k1 : Nat) := by omega
      by_cases hs : k1 + 1 < n
      · obtain ⟨k2, hk2⟩ : ∃ k2, k1 + 1 = k2 := ⟨_, rfl⟩
        have hk2n : k2 < n := by omega
        have hz2 : (k1 : Int) + 1 = (k2 : Nat) := by omega
        have hd' : decide ((k2 : Int) < (n : Int)) = true := by simp; omega
        have hd2 : (k2 : Int) < (n : Int) := by omega
        obtain ⟨a1, a2, a3⟩ := hH'.out.here.2.cells hk1n
        obtain ⟨b1, b2, b3⟩ := hH'.out.here.2.cells hk2n
        obtain ⟨⟨⟨us, ud⟩, ui⟩, hu⟩ : ∃ y, c' k1 = y := ⟨_, rfl⟩
        obtain ⟨⟨⟨vs, vd⟩, vi⟩, hv⟩ : ∃ y, c' k2 = y := ⟨_, rfl⟩
        rw [hu] at a1 a2 a3
        rw [hv] at b1 b2 b3
        simp only at a1 a2 a3 b1 b2 b3
        have icc := hH'.out.cc k1 hk1n
        have jcc := hH'.out.cc k2 hk2n
        have e1 : upd c' j ⟨⟨xs, xd⟩, xi⟩ k1 = ⟨⟨us, ud⟩, ui⟩ := by unfold upd; rw [if_neg (by omega), hu]
        have e2 : upd c' j ⟨⟨xs, xd⟩, xi⟩ k2 = ⟨⟨vs, vd⟩, vi⟩ := by unfold upd; rw [if_neg (by omega), hv]
        rw [e1] at icc
        rw [e2] at jcc
        obtain ⟨s, hs2⟩ : ∃ s, decide (It.lt ⟨⟨vs, vd⟩, vi⟩ ⟨⟨us, ud⟩, ui⟩) = s := ⟨_, rfl⟩
        have cM := Lib.hid (heapLess ⟨⟨vs, vd⟩, vi⟩ ⟨⟨us, ud⟩, ui⟩ s hs2 jcc icc)
        have Hs := Lib.hid hs2
        have hE := Lib.hid (And.intro e1 e2)
        have a1q := cell_regrown a1
        have a2q := cell_regrown a2
        have a3q := cell_regrown a3
        have b1q := cell_regrown b1
        have b2q := cell_regrown b2
        have b3q := cell_regrown b3
        have kb0q := cell_regrown kb0
        clear hs2 e1 e2 hu hv icc jcc
        go_upto_region 3 with (fail)
        refine wp_region_quiet_below (by kernel_rfl) (by kernel_rfl) ?_
        repeat (first | go_big_quiet_step (with_reducible exact Calls.regrown_of (cM.out _)) | quiet_step (with_reducible exact Calls.regrown_of (cM.out _)))
        refine wpQuiet_nil ?_
        intro _ hw'
        obtain ⟨⟨dq, osq⟩, hw''⟩ := hw'
        have HB2 := bel_trans HB (below_regrown wr dq osq)
        have hb2 := below_regrown wr dq osq
        subst hw''
        generalize grow (redrawn wr dq) osq = w2 at HB2 hb2 ⊢
        clear a1 a2 a3 b1 b2 b3 a1q a2q a3q b1q b2q b3q kb0q
        cases s with
        | true =>
          have hkj : par k2 = j := by unfold par; omega
          have hmin : ∀ k, k < n → 0 < k → par k = j → It.le (upd c' j ⟨⟨xs, xd⟩, xi⟩ k2) (upd c' j ⟨⟨xs, xd⟩, xi⟩ k) := by
            intro k hk _ hp
            rcases (show k = k1 ∨ k = k2 by unfold par at hp; omega) with rfl | rfl
            · rw [hE.out.1, hE.out.2]; exact It.le_of_lt (of_decide_eq_true Hs.out)
            · exact It.le_refl _
          obtain ⟨⟨⟨ys, yd⟩, yi⟩, hy⟩ : ∃ y, c' k2 = y := ⟨_, rfl⟩
          have Hkj := Lib.hid hkj
          have hjk : j < k2 := by have := hkj; unfold par at this; omega
          have l1 : w.heap.size < wr.heap.size := (Array.getElem?_eq_some_iff.1 hbx).1
          have l2 : b < wr.heap.size := (Array.getElem?_eq_some_iff.1 hH'.out.here.1).1
          have hH2 := Lib.hid (hH'.out.on HB2)
          obtain ⟨r1, r2, r3⟩ := hH2.out.here.2.cells hk2n
          rw [hy] at r1 r2 r3
          simp only at r1 r2 r3
          have icc := hH'.out.cc k2 hk2n
          have jcc := hH'.out.cc j hjn
          have e1 : upd c' j ⟨⟨xs, xd⟩, xi⟩ k2 = ⟨⟨ys, yd⟩, yi⟩ := by unfold upd; rw [if_neg (by omega), hy]
          have e2 : upd c' j ⟨⟨xs, xd⟩, xi⟩ j = ⟨⟨xs, xd⟩, xi⟩ := by unfold upd; rw [if_pos rfl]
          rw [e1] at icc
          rw [e2] at jcc
          have Hmin := Lib.hid hmin
          obtain ⟨t, ht⟩ : ∃ t, decide (It.lt ⟨⟨ys, yd⟩, yi⟩ ⟨⟨xs, xd⟩, xi⟩) = t := ⟨_, rfl⟩
          have cL := Lib.hid (heapLess ⟨⟨ys, yd⟩, yi⟩ ⟨⟨xs, xd⟩, xi⟩ t ht icc jcc)
          have Ht := Lib.hid ht
          have He := Lib.hid (And.intro e1 e2)
          have Hy := Lib.hid hy
          have y1 := (HB2.cell (by exact l1)).trans x1
          have y2 := (HB2.cell (by exact l1)).trans x2
          have y3 := (HB2.cell (by exact l1)).trans x3
          have yb := (HB2.cell (by exact l2)).trans kb0
          have hbx2 := (HB2.block _ l1).trans hbx
          have y1q := cell_regrown y1
          have y2q := cell_regrown y2
          have y3q := cell_regrown y3
          have ybq := cell_regrown yb
          have r1q := cell_regrown r1
          have r2q := cell_regrown r2
          have r3q := cell_regrown r3
          have HC := Below.refl w2.heap.size w2
          clear ht e1 e2 hy icc jcc hmin x1 x2 x3 kb0 hbx hb2
          go_upto_region 5 with (fail)
          refine wp_region_quiet_below (by kernel_rfl) (by kernel_rfl) ?_
          repeat (first | go_big_quiet_step (with_reducible exact Calls.regrown_of (cL.out _)) | quiet_step (with_reducible exact Calls.regrown_of (cL.out _)))
          refine wpQuiet_nil ?_
          intro _ hw'
          obtain ⟨⟨dq, osq⟩, hw''⟩ := hw'
          have HC4 := bel_trans HC (below_regrown w2 dq osq)
          have hb2 := below_regrown w2 dq osq
          subst hw''
          generalize grow (redrawn w2 dq) osq = w4 at HC4 hb2 ⊢
          have hH4 := Lib.hid (hH2.out.on HC4)
          have l1 : w.heap.size < w2.heap.size := (Array.getElem?_eq_some_iff.1 hbx2).1
          have l2 : b < w2.heap.size := (Array.getElem?_eq_some_iff.1 hH2.out.here.1).1
          have l3 : rb < w2.heap.size := hH2.out.here.2.lt
          have z1 := (HC4.cell (by exact l1)).trans y1
          have z2 := (HC4.cell (by exact l1)).trans y2
          have z3 := (HC4.cell (by exact l1)).trans y3
          have zb := (HC4.cell (by exact l2)).trans yb
          have q1 := (HC4.cell (by exact l3)).trans r1
          have q2 := (HC4.cell (by exact l3)).trans r2
          have q3 := (HC4.cell (by exact l3)).trans r3
          have hbx4 := (HC4.block _ l1).trans hbx2
          clear y1 y2 y3 yb r1 r2 r3 y1q y2q y3q ybq r1q r2q r3q hbx2 hb2 l1 l2 l3
          cases t with
          | false =>
            have hfin := Lib.hid (dn_end hUp'.out (fun k' a1 a2 a3 => It.le_trans (by rw [He.out.1, He.out.2]; exact of_decide_eq_false Ht.out) (Hmin.out k' a1 a2 a3)))
            go_wp2_with fail
            refine (heapPut w4 b rb cap n mb N' c' m' j ⟨⟨xs, xd⟩, xi⟩ hH4.out.here hH4.out.map hjn h1 h2 h3).mono ?_
            rintro e w3 ⟨rfl, hI, ⟨N2, hM⟩, hK⟩
            have hF := hH4.out.fill hfin.out hI hM hK
            clear hI hM hK
            go_wp2
            go_end0
            exact ⟨rfl, hF⟩
          | true =>
            go_wp2_with fail
            refine (heapPut w4 b rb cap n mb N' c' m' j ⟨⟨ys, yd⟩, yi⟩ hH4.out.here hH4.out.map hjn h1 h2 h3).mono ?_
            rintro e w3 ⟨rfl, hI, ⟨N2, hM⟩, hK⟩
            have hI' : HeapIn w3 b rb cap n mb (upd c' j (c' k2)) := by rw [Hy.out]; exact hI
            have hM' : MapAt (fun z : Int => Value.int .i64 z) w3 mb (updK m' (c' k2).id (some (.int .i64 (j : Nat)))) N2 := by rw [Hy.out]; exact hM
            have hN := Lib.hid (hH4.out.move hk2n (by omega) hI' hM' hK)
            have hV : HeapDn n (upd (upd c' j (c' k2)) k2 ⟨⟨xs, xd⟩, xi⟩) k2 := by
              rw [move_row (by omega)]
              exact dn_step hk2n (by omega) Hkj.out hUp'.out (by rw [He.out.1, He.out.2]; exact of_decide_eq_true Ht.out) Hmin.out
            have hV := Lib.hid hV
            have hbx3 := (hK.block w.heap.size (Array.getElem?_eq_some_iff.1 hbx4).1 (by simp; omega)).trans hbx4
            clear hI hM hK hI' hM' z1 z2 z3 zb q1 q2 q3 hbx4
            go_wp2
            go_roundw
            case rel => exact ⟨k2, _, _, _, rfl, hN.out, hV.out, hbx3⟩
            case measure => simp [intOf]; omega
        | false =>
          have hkj : par k1 = j := by unfold par; omega
          have hmin : ∀ k, k < n → 0 < k → par k = j → It.le (upd c' j ⟨⟨xs, xd⟩, xi⟩ k1) (upd c' j ⟨⟨xs, xd⟩, xi⟩ k) := by
            intro k hk _ hp
            rcases (show k = k1 ∨ k = k2 by unfold par at hp; omega) with rfl | rfl
            · exact It.le_refl _
            · rw [hE.out.1, hE.out.2]; exact of_decide_eq_false Hs.out
          obtain ⟨⟨⟨ys, yd⟩, yi⟩, hy⟩ : ∃ y, c' k1 = y := ⟨_, rfl⟩
          have Hkj := Lib.hid hkj
          have hjk : j < k1 := by have := hkj; unfold par at this; omega
          have l1 : w.heap.size < wr.heap.size := (Array.getElem?_eq_some_iff.1 hbx).1
          have l2 : b < wr.heap.size := (Array.getElem?_eq_some_iff.1 hH'.out.here.1).1
          have hH2 := Lib.hid (hH'.out.on HB2)
          obtain ⟨r1, r2, r3⟩ := hH2.out.here.2.cells hk1n
          rw [hy] at r1 r2 r3
          simp only at r1 r2 r3
          have icc := hH'.out.cc k1 hk1n
          have jcc := hH'.out.cc j hjn
          have e1 : upd c' j ⟨⟨xs, xd⟩, xi⟩ k1 = ⟨⟨ys, yd⟩, yi⟩ := by unfold upd; rw [if_neg (by omega), hy]
          have e2 : upd c' j ⟨⟨xs, xd⟩, xi⟩ j = ⟨⟨xs, xd⟩, xi⟩ := by unfold upd; rw [if_pos rfl]
          rw [e1] at icc
          rw [e2] at jcc
          have Hmin := Lib.hid hmin
          obtain ⟨t, ht⟩ : ∃ t, decide (It.lt ⟨⟨ys, yd⟩, yi⟩ ⟨⟨xs, xd⟩, xi⟩) = t := ⟨_, rfl⟩
          have cL := Lib.hid (heapLess ⟨⟨ys, yd⟩, yi⟩ ⟨⟨xs, xd⟩, xi⟩ t ht icc jcc)
          have Ht := Lib.hid ht
          have He := Lib.hid (And.intro e1 e2)
          have Hy := Lib.hid hy
          have y1 := (HB2.cell (by exact l1)).trans x1
          have y2 := (HB2.cell (by exact l1)).trans x2
          have y3 := (HB2.cell (by exact l1)).trans x3
          have yb := (HB2.cell (by exact l2)).trans kb0
          have hbx2 := (HB2.block _ l1).trans hbx
          have y1q := cell_regrown y1
          have y2q := cell_regrown y2
          have y3q := cell_regrown y3
          have ybq := cell_regrown yb
          have r1q := cell_regrown r1
          have r2q := cell_regrown r2
          have r3q := cell_regrown r3
          have HC := Below.refl w2.heap.size w2
          clear ht e1 e2 hy icc jcc hmin x1 x2 x3 kb0 hbx hb2
          go_upto_region 5 with (fail)
          refine wp_region_quiet_below (by kernel_rfl) (by kernel_rfl) ?_
          repeat (first | go_big_quiet_step (with_reducible exact Calls.regrown_of (cL.out _)) | quiet_step (with_reducible exact Calls.regrown_of (cL.out _)))
          refine wpQuiet_nil ?_
          intro _ hw'
          obtain ⟨⟨dq, osq⟩, hw''⟩ := hw'
          have HC4 := bel_trans HC (below_regrown w2 dq osq)
          have hb2 := below_regrown w2 dq osq
          subst hw''
          generalize grow (redrawn w2 dq) osq = w4 at HC4 hb2 ⊢
          have hH4 := Lib.hid (hH2.out.on HC4)
          have l1 : w.heap.size < w2.heap.size := (Array.getElem?_eq_some_iff.1 hbx2).1
          have l2 : b < w2.heap.size := (Array.getElem?_eq_some_iff.1 hH2.out.here.1).1
          have l3 : rb < w2.heap.size := hH2.out.here.2.lt
          have z1 := (HC4.cell (by exact l1)).trans y1
          have z2 := (HC4.cell (by exact l1)).trans y2
          have z3 := (HC4.cell (by exact l1)).trans y3
          have zb := (HC4.cell (by exact l2)).trans yb
          have q1 := (HC4.cell (by exact l3)).trans r1
          have q2 := (HC4.cell (by exact l3)).trans r2
          have q3 := (HC4.cell (by exact l3)).trans r3
          have hbx4 := (HC4.block _ l1).trans hbx2
          clear y1 y2 y3 yb r1 r2 r3 y1q y2q y3q ybq r1q r2q r3q hbx2 hb2 l1 l2 l3
          cases t with
          | false =>
            have hfin := Lib.hid (dn_end hUp'.out (fun k' a1 a2 a3 => It.le_trans (by rw [He.out.1, He.out.2]; exact of_decide_eq_false Ht.out) (Hmin.out k' a1 a2 a3)))
            go_wp2_with fail
            refine (heapPut w4 b rb cap n mb N' c' m' j ⟨⟨xs, xd⟩, xi⟩ hH4.out.here hH4.out.map hjn h1 h2 h3).mono ?_
            rintro e w3 ⟨rfl, hI, ⟨N2, hM⟩, hK⟩
            have hF := hH4.out.fill hfin.out hI hM hK
            clear hI hM hK
            go_wp2
            go_end0
            exact ⟨rfl, hF⟩
          | true =>
            go_wp2_with fail
            refine (heapPut w4 b rb cap n mb N' c' m' j ⟨⟨ys, yd⟩, yi⟩ hH4.out.here hH4.out.map hjn h1 h2 h3).mono ?_
            rintro e w3 ⟨rfl, hI, ⟨N2, hM⟩, hK⟩
            have hI' : HeapIn w3 b rb cap n mb (upd c' j (c' k1)) := by rw [Hy.out]; exact hI
            have hM' : MapAt (fun z : Int => Value.int .i64 z) w3 mb (updK m' (c' k1).id (some (.int .i64 (j : Nat)))) N2 := by rw [Hy.out]; exact hM
            have hN := Lib.hid (hH4.out.move hk1n (by omega) hI' hM' hK)
            have hV : HeapDn n (upd (upd c' j (c' k1)) k1 ⟨⟨xs, xd⟩, xi⟩) k1 := by
              rw [move_row (by omega)]
              exact dn_step hk1n (by omega) Hkj.out hUp'.out (by rw [He.out.1, He.out.2]; exact of_decide_eq_true Ht.out) Hmin.out
            have hV := Lib.hid hV
            have hbx3 := (hK.block w.heap.size (Array.getElem?_eq_some_iff.1 hbx4).1 (by simp; omega)).trans hbx4
            clear hI hM hK hI' hM' z1 z2 z3 zb q1 q2 q3 hbx4
            go_wp2
            go_roundw
            case rel => exact ⟨k1, _, _, _, rfl, hN.out, hV.out, hbx3⟩
            case measure => simp [intOf]; omega
      · go_upto_region 3 with (fail)
        have hs' : ¬ ((k1 : Int) + 1 < (n : Int)) := by omega
        have hd' : decide ((k1 : Int) + 1 < (n : Int)) = false := decide_eq_false hs'
        have kb0q := cell_regrown kb0
        refine wp_region_quiet_below (by kernel_rfl) (by kernel_rfl) ?_
        repeat (first | go_big_quiet_step (fail) | quiet_step (fail))
        refine wpQuiet_nil ?_
        intro _ hw'
        obtain ⟨⟨dq, osq⟩, hw''⟩ := hw'
        have HB2 := bel_trans HB (below_regrown wr dq osq)
        have hb2 := below_regrown wr dq osq
        subst hw''
        generalize grow (redrawn wr dq) osq = w2 at HB2 hb2 ⊢
        have hkj : par k1 = j := by unfold par; omega
        have hmin : ∀ k, k < n → 0 < k → par k = j → It.le (upd c' j ⟨⟨xs, xd⟩, xi⟩ k1) (upd c' j ⟨⟨xs, xd⟩, xi⟩ k) := by
          intro k hk _ hp
          obtain rfl : k = k1 := by unfold par at hp; omega
          exact It.le_refl _
        clear kb0q
        obtain ⟨⟨⟨ys, yd⟩, yi⟩, hy⟩ : ∃ y, c' k1 = y := ⟨_, rfl⟩
        have Hkj := Lib.hid hkj
        have hjk : j < k1 := by have := hkj; unfold par at this; omega
        have l1 : w.heap.size < wr.heap.size := (Array.getElem?_eq_some_iff.1 hbx).1
        have l2 : b < wr.heap.size := (Array.getElem?_eq_some_iff.1 hH'.out.here.1).1
        have hH2 := Lib.hid (hH'.out.on HB2)
        obtain ⟨r1, r2, r3⟩ := hH2.out.here.2.cells hk1n
        rw [hy] at r1 r2 r3
        simp only at r1 r2 r3
        have icc := hH'.out.cc k1 hk1n
        have jcc := hH'.out.cc j hjn
        have e1 : upd c' j ⟨⟨xs, xd⟩, xi⟩ k1 = ⟨⟨ys, yd⟩, yi⟩ := by unfold upd; rw [if_neg (by omega), hy]
        have e2 : upd c' j ⟨⟨xs, xd⟩, xi⟩ j = ⟨⟨xs, xd⟩, xi⟩ := by unfold upd; rw [if_pos rfl]
        rw [e1] at icc
        rw [e2] at jcc
        have Hmin := Lib.hid hmin
        obtain ⟨t, ht⟩ : ∃ t, decide (It.lt ⟨⟨ys, yd⟩, yi⟩ ⟨⟨xs, xd⟩, xi⟩) = t := ⟨_, rfl⟩
        have cL := Lib.hid (heapLess ⟨⟨ys, yd⟩, yi⟩ ⟨⟨xs, xd⟩, xi⟩ t ht icc jcc)
        have Ht := Lib.hid ht
        have He := Lib.hid (And.intro e1 e2)
        have Hy := Lib.hid hy
        have y1 := (HB2.cell (by exact l1)).trans x1
        have y2 := (HB2.cell (by exact l1)).trans x2
        have y3 := (HB2.cell (by exact l1)).trans x3
        have yb := (HB2.cell (by exact l2)).trans kb0
        have hbx2 := (HB2.block _ l1).trans hbx
        have y1q := cell_regrown y1
        have y2q := cell_regrown y2
        have y3q := cell_regrown y3
        have ybq := cell_regrown yb
        have r1q := cell_regrown r1
        have r2q := cell_regrown r2
        have r3q := cell_regrown r3
        have HC := Below.refl w2.heap.size w2
        clear ht e1 e2 hy icc jcc hmin x1 x2 x3 kb0 hbx hb2
        go_upto_region 5 with (fail)
        refine wp_region_quiet_below (by kernel_rfl) (by kernel_rfl) ?_
        repeat (first | go_big_quiet_step (with_reducible exact Calls.regrown_of (cL.out _)) | quiet_step (with_reducible exact Calls.regrown_of (cL.out _)))
        refine wpQuiet_nil ?_
        intro _ hw'
        obtain ⟨⟨dq, osq⟩, hw''⟩ := hw'
        have HC4 := bel_trans HC (below_regrown w2 dq osq)
        have hb2 := below_regrown w2 dq osq
        subst hw''
        generalize grow (redrawn w2 dq) osq = w4 at HC4 hb2 ⊢
        have hH4 := Lib.hid (hH2.out.on HC4)
        have l1 : w.heap.size < w2.heap.size := (Array.getElem?_eq_some_iff.1 hbx2).1
        have l2 : b < w2.heap.size := (Array.getElem?_eq_some_iff.1 hH2.out.here.1).1
        have l3 : rb < w2.heap.size := hH2.out.here.2.lt
        have z1 := (HC4.cell (by exact l1)).trans y1
        have z2 := (HC4.cell (by exact l1)).trans y2
        have z3 := (HC4.cell (by exact l1)).trans y3
        have zb := (HC4.cell (by exact l2)).trans yb
        have q1 := (HC4.cell (by exact l3)).trans r1
        have q2 := (HC4.cell (by exact l3)).trans r2
        have q3 := (HC4.cell (by exact l3)).trans r3
        have hbx4 := (HC4.block _ l1).trans hbx2
        clear y1 y2 y3 yb r1 r2 r3 y1q y2q y3q ybq r1q r2q r3q hbx2 hb2 l1 l2 l3
        cases t with
        | false =>
          have hfin := Lib.hid (dn_end hUp'.out (fun k' a1 a2 a3 => It.le_trans (by rw [He.out.1, He.out.2]; exact of_decide_eq_false Ht.out) (Hmin.out k' a1 a2 a3)))
          go_wp2_with fail
          refine (heapPut w4 b rb cap n mb N' c' m' j ⟨⟨xs, xd⟩, xi⟩ hH4.out.here hH4.out.map hjn h1 h2 h3).mono ?_
          rintro e w3 ⟨rfl, hI, ⟨N2, hM⟩, hK⟩
          have hF := hH4.out.fill hfin.out hI hM hK
          clear hI hM hK
          go_wp2
          go_end0
          exact ⟨rfl, hF⟩
        | true =>
          go_wp2_with fail
          refine (heapPut w4 b rb cap n mb N' c' m' j ⟨⟨ys, yd⟩, yi⟩ hH4.out.here hH4.out.map hjn h1 h2 h3).mono ?_
          rintro e w3 ⟨rfl, hI, ⟨N2, hM⟩, hK⟩
          have hI' : HeapIn w3 b rb cap n mb (upd c' j (c' k1)) := by rw [Hy.out]; exact hI
          have hM' : MapAt (fun z : Int => Value.int .i64 z) w3 mb (updK m' (c' k1).id (some (.int .i64 (j : Nat)))) N2 := by rw [Hy.out]; exact hM
          have hN := Lib.hid (hH4.out.move hk1n (by omega) hI' hM' hK)
          have hV : HeapDn n (upd (upd c' j (c' k1)) k1 ⟨⟨xs, xd⟩, xi⟩) k1 := by
            rw [move_row (by omega)]
            exact dn_step hk1n (by omega) Hkj.out hUp'.out (by rw [He.out.1, He.out.2]; exact of_decide_eq_true Ht.out) Hmin.out
          have hV := Lib.hid hV
          have hbx3 := (hK.block w.heap.size (Array.getElem?_eq_some_iff.1 hbx4).1 (by simp; omega)).trans hbx4
          clear hI hM hK hI' hM' z1 z2 z3 zb q1 q2 q3 hbx4
          go_wp2
          go_roundw
          case rel => exact ⟨k1, _, _, _, rfl, hN.out, hV.out, hbx3⟩
          case measure => simp [intOf]; omega
    · have hlt' : ¬ (2 * (j : Int) + 1 < (n : Int)) := by omega
      have hvac : ∀ k, k < n → 0 < k → par k = j → It.le (upd c' j ⟨⟨xs, xd⟩, xi⟩ j) (upd c' j ⟨⟨xs, xd⟩, xi⟩ k) := by intro k hk _ hp; unfold par at hp; omega
      have hfin := Lib.hid (dn_end hUp'.out hvac)
      clear hvac
      go_wp2_with fail
      refine (heapPut wr b rb cap n mb N' c' m' j ⟨⟨xs, xd⟩, xi⟩ hH'.out.here hH'.out.map hjn h1 h2 h3).mono ?_
      rintro e w3 ⟨rfl, hI, ⟨N2, hM⟩, hK⟩
      have hF := hH'.out.fill hfin.out hI hM hK
      clear hI hM hK
      go_wp2
      go_end0
      exact ⟨rfl, hF⟩
end Go.Proofs.Ytkiogciokngjfaa
