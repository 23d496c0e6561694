/- Up and down. -/
import Derived.Test.YtkiogciokngjfaaHeap2
set_option linter.unusedVariables false
set_option linter.unusedSimpArgs false
namespace Go.Proofs.Ytkiogciokngjfaa
open Go.RowKit Go.Sort FR
theorem HeapIn.below {w w' : World} {b rb cap n mb : Nat} {c : Nat → It} (h : HeapIn w b rb cap n mb c) (hb : Below w.heap.size w w') : HeapIn w' b rb cap n mb c :=
  ⟨(hb.block b (Array.getElem?_eq_some_iff.1 h.1).1).trans h.1, h.2.below hb⟩
theorem HoleAt.on {w0 w w' : World} {b rb cap n mb : Nat} {x : It} {j : Nat} {c0 c : Nat → It} {m : Int → Option Value} {N : Nat} (h : HoleAt w0 w b rb cap n mb x j c0 c m N) (hb : Below w.heap.size w w') : HoleAt w0 w' b rb cap n mb x j c0 c m N :=
  ⟨h.lt, h.here.below hb, h.map.below hb, h.cc, h.dst, h.pos, h.same, h.kept.trans (Kept.of_below hb)⟩
theorem par_int (j : Nat) (h : 0 < j) : ((j : Int) - 1).tdiv 2 = (par j : Nat) := by
  rw [Int.tdiv_eq_ediv_of_nonneg (by omega)]; unfold par; omega
theorem heapLess_at (a b : It) (t : Bool) (ht : decide (It.lt a b) = t) (h1 : inCC a.c) (h2 : inCC b.c) (x1 x2 x3 y1 y2 y3 : Int) (e1 : a = ⟨⟨x1, x2⟩, x3⟩) (e2 : b = ⟨⟨y1, y2⟩, y3⟩) (w : World) :
    Calls Try.prog 139 #[.agg #[.int .i64 x1, .int .i64 x2, .int .i64 x3], .agg #[.int .i64 y1, .int .i64 y2, .int .i64 y3]] w fun e w' => e = .returned (.bool t) ∧ Below w.heap.size w w' := by
  subst e1 e2; exact heapLess _ _ t ht h1 h2 w
set_option maxRecDepth 100000 in
set_option maxHeartbeats 1600000 in
theorem heapUp (w : World) (b rb cap n mb N : Nat) (c : Nat → It) (m : Int → Option Value) (i : Nat) (h : HeapIn w b rb cap n mb c) (hm : MapAt (fun z : Int => Value.int .i64 z) w mb m N) (hi : i < n) (h1 : b ≠ rb) (h2 : b ≠ mb) (h3 : rb ≠ mb)
    (hC : ∀ k, k < n → inCC (c k).c) (hU : HeapUp n c i) (hD : Dst n c) (hP : PosBut n c m (c i).id) :
    Calls Try.prog 112 #[.pointer (some ⟨b, 0, none⟩), .int .i64 i] w fun e w' => e = .returned (.tuple #[]) ∧ Filled w w' b rb cap n mb c := by
  have hS := HoleAt.start hi h hm hC hD hP
  obtain ⟨hb, hR⟩ := h
  have hcap := hR.1
  have kl2 : b < w.heap.size := (Array.getElem?_eq_some_iff.1 hb).1
  have kl1 := hm.lt
  have kl0 := hR.lt
  have kb0 : w.cell? ⟨b, 0, none⟩ = some (.slice (some ⟨rb, 0, none⟩) n cap) := by simp [World.cell?, hb]
  obtain ⟨⟨⟨xs, xd⟩, xi⟩, hx⟩ : ∃ x, c i = x := ⟨_, rfl⟩
  obtain ⟨c1, c2, c3⟩ := hR.cells hi
  have hU' : HeapUp n (upd c i (c i)) i := by rw [upd_self]; exact hU
  rw [hx] at c1 c2 c3 hS hU'
  simp only at c1 c2 c3
  have hS := Lib.hid hS
  have hU' := Lib.hid hU'
  clear hx hb hR hC hU hD hP hm
  go_enter Try.func112, Try.ntmps112
  go_upto_region 1 with (fail)
  refine wp_name ?_
  intro W hW
  have HW : Below w.heap.size w W := by rw [hW]; (repeat' (first | exact Below.refl _ _ | assumption | apply bel_drewN | apply bel_drew | apply bel_alloc | (refine bel_trans ?_ (by assumption))))
  have hbox : W.heap[w.heap.size]? = some (.cells #[.int .i64 xs, .int .i64 xd, .int .i64 xi] 159 (0, 0)) := by rw [hW]; exact heap_alloc_new _ _
  clear hW c1 c2 c3 kb0
  go_loopw [1] (fun iv wr => ∃ (j : Nat) (c' : Nat → It) (m' : Int → Option Value) (N' : Nat), iv = .int .i64 j ∧ HoleAt w wr b rb cap n mb ⟨⟨xs, xd⟩, xi⟩ j c c' m' N' ∧ HeapUp n (upd c' j ⟨⟨xs, xd⟩, xi⟩) j ∧ wr.heap[w.heap.size]? = some (.cells #[.int .i64 xs, .int .i64 xd, .int .i64 xi] 159 (0, 0))) (fun iv _ => (intOf iv).toNat)
  case atStart => exact ⟨i, c, m, N, rfl, hS.out.on HW, hU'.out, hbox⟩
  case round =>
    obtain ⟨j, c', m', N', rfl, hH, hUp, hbx⟩ := hrel
    have hbr := hH.here.1
    have kb0 : wr.cell? ⟨b, 0, none⟩ = some (.slice (some ⟨rb, 0, none⟩) n cap) := by simp [World.cell?, hbr]
    have x1 : wr.cell? ⟨w.heap.size, 0, none⟩ = some (.int .i64 xs) := by simp [World.cell?, hbx]
    have x2 : wr.cell? ⟨w.heap.size, 1, none⟩ = some (.int .i64 xd) := by simp [World.cell?, hbx]
    have x3 : wr.cell? ⟨w.heap.size, 2, none⟩ = some (.int .i64 xi) := by simp [World.cell?, hbx]
    have hjn := hH.lt
    have HB := Below.refl wr.heap.size wr
    have hH' := Lib.hid hH
    have hUp' := Lib.hid hUp
    clear hH hUp hbr
    by_cases hj0 : j = 0
    · subst hj0
      go_upto_region 1 with (fail)
      refine wp_region_quiet_below (by kernel_rfl) (by kernel_rfl) ?_
      repeat (first | go_big_quiet_step (fail) | quiet_step (fail))
      refine wpQuiet_nil ?_
      intro _ hw'
      obtain ⟨⟨dq, osq⟩, hw''⟩ := hw'
      have HB2 := bel_trans HB (below_regrown wr dq osq)
      have hb2 := below_regrown wr dq osq
      subst hw''
      generalize grow (redrawn wr dq) osq = w2 at HB2 hb2 ⊢
      have kx1 := (HB2.cell (by exact (Array.getElem?_eq_some_iff.1 hbx).1)).trans x1
      have kx2 := (HB2.cell (by exact (Array.getElem?_eq_some_iff.1 hbx).1)).trans x2
      have kx3 := (HB2.cell (by exact (Array.getElem?_eq_some_iff.1 hbx).1)).trans x3
      go_wp2_with fail
      refine (heapPut w2 b rb cap n mb N' c' m' 0 ⟨⟨xs, xd⟩, xi⟩ (hH'.out.here.below HB2) (hH'.out.map.below HB2) hjn h1 h2 h3).mono ?_
      rintro e w3 ⟨rfl, hI, ⟨N2, hM⟩, hK⟩
      have hF := (hH'.out.on HB2).fill (up_end hUp'.out (.inl rfl)) hI hM hK
      clear hI hM hK
      go_wp2
      go_end0
      exact ⟨rfl, hF⟩
    · obtain ⟨p, hp⟩ : ∃ p, par j = p := ⟨_, rfl⟩
      have hpj : p < j := by rw [← hp]; exact par_lt (by omega)
      have hq : ((j : Int) - 1).tdiv 2 = (p : Nat) := by rw [← hp]; exact par_int j (by omega)
      have hpn : p < n := by omega
      obtain ⟨r1, r2, r3⟩ := hH'.out.here.2.cells hpn
      obtain ⟨⟨⟨ys, yd⟩, yi⟩, hy⟩ : ∃ y, c' p = y := ⟨_, rfl⟩
      have icc := hH'.out.cc p hpn
      have jcc := hH'.out.cc j hjn
      have e1 : upd c' j ⟨⟨xs, xd⟩, xi⟩ p = ⟨⟨ys, yd⟩, yi⟩ := by unfold upd; rw [if_neg (by omega), hy]
      have e2 : upd c' j ⟨⟨xs, xd⟩, xi⟩ j = ⟨⟨xs, xd⟩, xi⟩ := by unfold upd; rw [if_pos rfl]
      rw [e1] at icc
      rw [e2] at jcc
      rw [hy] at r1 r2 r3
      simp only at r1 r2 r3
      obtain ⟨t, ht⟩ : ∃ t, decide (It.lt ⟨⟨xs, xd⟩, xi⟩ ⟨⟨ys, yd⟩, yi⟩) = t := ⟨_, rfl⟩
      have cL := Lib.hid (heapLess ⟨⟨xs, xd⟩, xi⟩ ⟨⟨ys, yd⟩, yi⟩ t ht jcc icc)
      have Ht := Lib.hid ht
      have He := Lib.hid (And.intro e1 e2)
      have Hy := Lib.hid hy
      have Hp := Lib.hid hp
      have hj1 : decide ((0 : Int) < (j : Int)) = true := by simp; omega
      have hj2 : decide (0 < j) = true := by simp; omega
      have hj3 : 0 < j := by omega
      have hjb : (j : Int) ≤ 9223372036854775807 := by have := hcap; have hm := hH'.out.here.2.2.1; unfold maxLen at hm; omega
      clear ht e1 e2 hy icc jcc hp
      have x1q := cell_regrown x1
      have x2q := cell_regrown x2
      have x3q := cell_regrown x3
      have kb0q := cell_regrown kb0
      have r1q := cell_regrown r1
      have r2q := cell_regrown r2
      have r3q := cell_regrown r3
      go_upto_region 1 with (fail)
      refine wp_region_quiet_below (by kernel_rfl) (by kernel_rfl) ?_
      repeat (first | go_big_quiet_step (with_reducible exact Calls.regrown_of (cL.out _)) | quiet_step (with_reducible exact Calls.regrown_of (cL.out _)))
      refine wpQuiet_nil ?_
      intro _ hw'
      obtain ⟨⟨dq, osq⟩, hw''⟩ := hw'
      have HB2 := bel_trans HB (below_regrown wr dq osq)
      have hb2 := below_regrown wr dq osq
      subst hw''
      generalize grow (redrawn wr dq) osq = w2 at HB2 hb2 ⊢
      have l1 : w.heap.size < wr.heap.size := (Array.getElem?_eq_some_iff.1 hbx).1
      have l2 : b < wr.heap.size := (Array.getElem?_eq_some_iff.1 hH'.out.here.1).1
      have l3 : rb < wr.heap.size := hH'.out.here.2.lt
      have kx1 := (HB2.cell (by exact l1)).trans x1
      have kx2 := (HB2.cell (by exact l1)).trans x2
      have kx3 := (HB2.cell (by exact l1)).trans x3
      have kbb := (HB2.cell (by exact l2)).trans kb0
      have kr1 := (HB2.cell (by exact l3)).trans r1
      have kr2 := (HB2.cell (by exact l3)).trans r2
      have kr3 := (HB2.cell (by exact l3)).trans r3
      have hH2 := Lib.hid (hH'.out.on HB2)
      have hbx2 := (HB2.block _ l1).trans hbx
      clear x1 x2 x3 kb0 r1 r2 r3 x1q x2q x3q kb0q r1q r2q r3q hb2 hbx
      cases t with
      | false =>
        go_wp2_with fail
        refine (heapPut w2 b rb cap n mb N' c' m' j ⟨⟨xs, xd⟩, xi⟩ hH2.out.here hH2.out.map hjn h1 h2 h3).mono ?_
        rintro e w3 ⟨rfl, hI, ⟨N2, hM⟩, hK⟩
        have hF := hH2.out.fill (up_end hUp'.out (.inr (by rw [Hp.out, He.out.1, He.out.2]; exact of_decide_eq_false Ht.out))) hI hM hK
        clear hI hM hK
        go_wp2
        go_end0
        exact ⟨rfl, hF⟩
      | true =>
        go_wp2_with fail
        refine (heapPut w2 b rb cap n mb N' c' m' j ⟨⟨ys, yd⟩, yi⟩ hH2.out.here hH2.out.map hjn h1 h2 h3).mono ?_
        rintro e w3 ⟨rfl, hI, ⟨N2, hM⟩, hK⟩
        have hI' : HeapIn w3 b rb cap n mb (upd c' j (c' p)) := by rw [Hy.out]; exact hI
        have hM' : MapAt (fun z : Int => Value.int .i64 z) w3 mb (updK m' (c' p).id (some (.int .i64 (j : Nat)))) N2 := by rw [Hy.out]; exact hM
        have hN := Lib.hid (hH2.out.move hpn (by omega) hI' hM' hK)
        have hV : HeapUp n (upd (upd c' j (c' p)) p ⟨⟨xs, xd⟩, xi⟩) p := by
          rw [move_row (by omega)]
          have := up_step hjn (by omega) hUp'.out (by rw [Hp.out, He.out.1, He.out.2]; exact of_decide_eq_true Ht.out)
          rw [Hp.out] at this; exact this
        have hV := Lib.hid hV
        have hbx3 := (hK.block w.heap.size (by have := HB2.size; omega) (by simp; omega)).trans hbx2
        clear hI hM hK hI' hM' kx1 kx2 kx3 kbb kr1 kr2 kr3 hbx2
        go_wp2
        go_roundw
        case rel => exact ⟨p, _, _, _, rfl, hN.out, hV.out, hbx3⟩
        case measure => simp [intOf]; omega
end Go.Proofs.Ytkiogciokngjfaa
