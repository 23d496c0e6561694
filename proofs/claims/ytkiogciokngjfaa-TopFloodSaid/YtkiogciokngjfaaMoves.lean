/- What both functions To, and the reference's Moves, hand back. -/
import Derived.Test.YtkiogciokngjfaaCorner
set_option linter.unusedVariables false
set_option linter.unusedSimpArgs false
namespace Go.Proofs.Ytkiogciokngjfaa
open Go.RowKit Go.Sort FR
theorem dyw_bd {g : G} (h : g.ok) (d : Nat) : -16 ≤ dyN d * g.w ∧ dyN d * g.w ≤ 16 := by
  obtain ⟨h1, h2, _, _⟩ := h
  obtain ⟨_, _, b3, b4⟩ := dN_abs d
  rcases (show dyN d = -1 ∨ dyN d = 0 ∨ dyN d = 1 by omega) with e | e | e <;> rw [e] <;> omega
theorem gridTo (w : World) (p : Nat) (g : G) (v : Int) (c d : Nat) (h : GridAt w p g v) (hc : c < g.n) (hd : d < 8) :
    Calls Try.prog 82 #[.pointer (some ⟨p, 0, none⟩), .int .i64 (c : Nat), .int .i64 (d : Nat)] w fun e w' => e = .returned (.int .i64 (g.toI c d)) ∧ Below w.heap.size w w' := by
  obtain ⟨m1, m2⟩ := dyw_bd h.1 d
  obtain ⟨b1, b2, b3, b4⟩ := dN_abs d
  obtain ⟨o1, o2, o3, o4⟩ := h.1
  have hn := G.n_le h.1
  have e : g.toI c d = (c : Int) + dyN d * g.w + dxN d := by unfold G.toI; omega
  rw [e]
  clear e
  have hst := Lib.hid (step_one d hd)
  have hk := h.size.1
  have hlt := h.lt
  clear h
  generalize dxN d = dx at *
  generalize dyN d = dy at *
  go_enter Try.func82, Try.ntmps82
  go_wp2_with fail
  (with_reducible refine (hst.out _).mono ?_)
  rintro e w1 ⟨rfl, hb1⟩
  have hk1 := (hb1.cell (p := ⟨p, 0, none⟩) hlt).trans hk
  clear hk
  go_wp2
  go_ret
  exact ⟨rfl, hb1⟩
theorem rTo (w : World) (p : Nat) (g : G) (v : Int) (c d : Nat) (h : RGridAt w p g v) (hc : c < g.n) (hd : d < 8) :
    Calls Try.prog 84 #[.pointer (some ⟨p, 0, none⟩), .int .i64 (c : Nat), .int .i64 (d : Nat)] w fun e w' => e = .returned (.int .i64 (g.toI c d)) ∧ Below w.heap.size w w' := by
  obtain ⟨m1, m2⟩ := dyw_bd h.1 d
  obtain ⟨b1, b2, b3, b4⟩ := dN_abs d
  obtain ⟨o1, o2, o3, o4⟩ := h.1
  have hn := G.n_le h.1
  have e : g.toI c d = (c : Int) + dxN d + dyN d * g.w := rfl
  rw [e]
  clear e
  have hst := Lib.hid (rstep_one d hd)
  have hk := h.size.1
  have hlt := h.lt
  clear h
  generalize dxN d = dx at *
  generalize dyN d = dy at *
  go_enter Try.func84, Try.ntmps84
  go_wp2_with fail
  (with_reducible refine (hst.out _).mono ?_)
  rintro e w1 ⟨rfl, hb1⟩
  have hk1 := (hb1.cell (p := ⟨p, 0, none⟩) hlt).trans hk
  clear hk
  go_wp2
  go_ret
  exact ⟨rfl, hb1⟩
theorem rMay_eq (w : World) (p : Nat) (g : G) (v : Int) (c d : Nat) (x y : Int) (h : RGridAt w p g v) (hd : d < 8) (hin : InPG g c) (ex : x = (g.X c : Nat)) (ey : y = (g.Y c : Nat)) :
    Calls Try.prog 83 #[.pointer (some ⟨p, 0, none⟩), .int .i64 x, .int .i64 y, .int .i64 (d : Nat)] w fun e w' => e = .returned (.bool (g.mayC c d)) ∧ Below w.heap.size w w' := by
  subst ex; subst ey; exact rMay w p g v _ _ d h hd hin.1 hin.2
set_option maxHeartbeats 800000 in
theorem rMoves (w : World) (p : Nat) (g : G) (v : Int) (c : Nat) (h : RGridAt w p g v) (hc : c < g.n) :
    Calls Try.prog 85 #[.pointer (some ⟨p, 0, none⟩), .int .i64 (c : Nat)] w (RetInts w (movesI g c)) := by
  have hin := inPG h.1 hc
  have hp := Lib.hid h.lt
  obtain ⟨o1, o2, o3, o4⟩ := h.1
  have hn := G.n_le h.1
  have eX : (c : Int) % g.w = (g.X c : Nat) := by unfold G.X; simp
  have eY : (c : Int) / g.w = (g.Y c : Nat) := by unfold G.Y; simp
  have hY := G.Y_lt hc
  have q1 : 0 ≤ (c : Int) / g.w := by omega
  have q2 : (c : Int) / g.w ≤ 256 := by omega
  have hf := Lib.hid (And.intro eX eY)
  clear eX eY
  go_enter Try.func85, Try.ntmps85
  go_wp2_with fail
  go_loopw [5, 6] (fun l i wr => ∃ k : Nat, k ≤ 8 ∧ i = .int .i64 k ∧ OwnI wr w.heap.size l (upTo (g.mayC c) k) ∧ Below w.heap.size w wr) (fun _ i _ => 8 - (intOf i).toNat)
  case atStart => exact ⟨0, by omega, rfl, OwnI.nil _ _, Below.refl _ _⟩
  case round =>
    obtain ⟨k, hk, rfl, hown, HB⟩ := hrel
    have hl := upTo_len (g.mayC c) k
    by_cases hlt : k < 8
    · have hR := h.below HB hp.out
      have s1 := hR.size.1
      have s2 := cell_regrown s1
      go_wp2_with fail
      refine wp_region_quiet_below (by kernel_rfl) (by kernel_rfl) ?_
      repeat (first | go_big_quiet_step ((with_reducible exact Calls.regrown_of (rMay_eq _ p g v c k _ _ (h.below (HB.trans ((below_regrown wr _ _).mono HB.size)) hp.out) hlt hin hf.out.1 hf.out.2))) | quiet_step ((with_reducible exact Calls.regrown_of (rMay_eq _ p g v c k _ _ (h.below (HB.trans ((below_regrown wr _ _).mono HB.size)) hp.out) hlt hin hf.out.1 hf.out.2))))
      refine wpQuiet_nil ?_
      intro _ hw'
      obtain ⟨⟨dq, osq⟩, hw''⟩ := hw'
      have HB2 := bel_trans HB (below_regrown wr dq osq)
      have hb2 := below_regrown wr dq osq
      subst hw''
      generalize grow (redrawn wr dq) osq = w2 at HB2 hb2 ⊢
      clear s1 s2
      have hown2 : OwnI w2 w.heap.size _ _ := hown.below (B' := 0) hb2
      have hz2 := HB2.size
      cases hm : g.mayC c k with
      | false =>
        have e := Lib.hid (upTo_no (p := g.mayC c) hm)
        clear hm
        go_wp2
        go_roundw
        case rel => exact ⟨k + 1, by omega, by go_num, by rw [e.out]; exact hown2, HB2⟩
        case measure => simp [intOf]; omega
      | true =>
        have e := Lib.hid (upTo_yes (p := g.mayC c) hm)
        clear hm
        go_wp2_with (at_builtin; refine wpList_append_int _ rfl _ _ rfl w.heap.size _ _ _ rfl (hown2.alloc _) ⟨w2.heap.size, 0, none⟩ rfl (cell1_new _ _ _) (by omega) (by simp; omega) ?_; intro v' w3 hown3 hgrow)
        have HB3 := below_grown (HB2.alloc (by omega) _) (by simp; omega) (hown2.alloc _) hgrow
        go_wp2
        go_roundw
        case rel => exact ⟨k + 1, by omega, by go_num, by rw [e.out]; exact hown3, HB3⟩
        case measure => simp [intOf]; omega
    · obtain rfl : k = 8 := by omega
      go_wp2
      go_ret
      exact ret_ints hown HB
end Go.Proofs.Ytkiogciokngjfaa
