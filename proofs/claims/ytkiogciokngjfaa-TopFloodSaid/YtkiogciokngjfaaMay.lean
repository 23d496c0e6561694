/- What the two functions May hand back. -/
import Derived.Test.YtkiogciokngjfaaGrid2
import Derived.Test.YtkiogciokngjfaaRGrid
set_option linter.unusedVariables false
set_option linter.unusedSimpArgs false
namespace Go.Proofs.Ytkiogciokngjfaa
open Go.RowKit Go.Sort FR
theorem gridOpen_at (w : World) (p : Nat) (g : G) (v x y : Int) (t : Bool) (h : GridAt w p g v) (ht : g.op x y = t) :
    Calls Try.prog 103 #[.pointer (some ⟨p, 0, none⟩), .int .i64 x, .int .i64 y] w fun e w' => e = .returned (.bool t) ∧ w = w' := by
  rw [← ht]; exact gridOpen w p g v x y h
theorem rOpen_at (w : World) (p : Nat) (g : G) (v x y : Int) (t : Bool) (h : RGridAt w p g v) (ht : g.op x y = t) :
    Calls Try.prog 104 #[.pointer (some ⟨p, 0, none⟩), .int .i64 x, .int .i64 y] w fun e w' => e = .returned (.bool t) ∧ Below w.heap.size w w' := by
  rw [← ht]; exact rOpen w p g v x y h
theorem may_even {g : G} {x y : Int} {d : Nat} (hd : d < 8) (he : d % 2 = 0) (h1 : g.op x y = true) (h2 : g.op (x + dxN d) (y + dyN d) = true) : g.op (x + dxN d) y = true ∧ g.op x (y + dyN d) = true := by
  rcases (show d = 0 ∨ d = 2 ∨ d = 4 ∨ d = 6 by omega) with rfl | rfl | rfl | rfl <;> simp [dxN, dyN] at * <;> simp [h1, h2]
theorem may_val {g : G} {x y : Int} {d : Nat} {t1 t2 t3 t4 : Bool} (h1 : g.op x y = t1) (h2 : g.op (x + dxN d) (y + dyN d) = t2) (h3 : g.op (x + dxN d) y = t3) (h4 : g.op x (y + dyN d) = t4) : g.may x y d = (t1 && t2 && t3 && t4) := by
  unfold G.may; rw [h1, h2, h3, h4]
theorem and1_odd (d : Nat) (h : d < 8) : (bits BinOp.and IntKind.i64 (d : Int) 1 == 0) = (d % 2 == 0) := by
  rcases (show d = 0 ∨ d = 1 ∨ d = 2 ∨ d = 3 ∨ d = 4 ∨ d = 5 ∨ d = 6 ∨ d = 7 by omega) with rfl | rfl | rfl | rfl | rfl | rfl | rfl | rfl <;> decide
set_option maxHeartbeats 1600000 in
theorem gridMay (w : World) (p : Nat) (g : G) (v x y : Int) (d : Nat) (h : GridAt w p g v) (hd : d < 8) (hx : inP x) (hy : inP y) :
    Calls Try.prog 79 #[.pointer (some ⟨p, 0, none⟩), .int .i64 x, .int .i64 y, .int .i64 (d : Nat)] w fun e w' => e = .returned (.bool (g.may x y d)) ∧ Below w.heap.size w w' := by
  unfold inP at hx hy
  obtain ⟨b1, b2, b3, b4⟩ := dN_abs d
  have hb := and1_odd d hd
  obtain ⟨t1, h1⟩ : ∃ t, g.op x y = t := ⟨_, rfl⟩
  obtain ⟨t2, h2⟩ : ∃ t, g.op (x + dxN d) (y + dyN d) = t := ⟨_, rfl⟩
  obtain ⟨t3, h3⟩ : ∃ t, g.op (x + dxN d) y = t := ⟨_, rfl⟩
  obtain ⟨t4, h4⟩ : ∃ t, g.op x (y + dyN d) = t := ⟨_, rfl⟩
  have he := Lib.hid (may_even (g := g) (x := x) (y := y) hd)
  rw [may_val h1 h2 h3 h4]
  have c1 := fun w' h' => gridOpen_at w' p g v _ _ _ h' h1
  have c2 := fun w' h' => gridOpen_at w' p g v _ _ _ h' h2
  have c3 := fun w' h' => gridOpen_at w' p g v _ _ _ h' h3
  have c4 := fun w' h' => gridOpen_at w' p g v _ _ _ h' h4
  have H1 := Lib.hid h1
  have H2 := Lib.hid h2
  have H3 := Lib.hid h3
  have H4 := Lib.hid h4
  clear h1 h2 h3 h4
  have c1 := Lib.hid c1
  have c2 := Lib.hid c2
  have c3 := Lib.hid c3
  have c4 := Lib.hid c4
  obtain ⟨par, hpar⟩ : ∃ t, (d % 2 == 0) = t := ⟨_, rfl⟩
  rw [hpar] at hb
  have Hp := Lib.hid hpar
  clear hpar
  generalize hdx : dxN d = dx at *
  generalize hdy : dyN d = dy at *
  have hst := fun w' => step_one d hd w'
  rw [hdx, hdy] at hst
  have hst := Lib.hid hst
  have Hdx := Lib.hid hdx
  have Hdy := Lib.hid hdy
  clear hdx hdy
  go_enter Try.func79, Try.ntmps79
  go_wp2_with fail
  refine (hst.out _).mono ?_
  rintro e w1 ⟨rfl, hb1⟩
  have h' := h.below hb1 h.lt
  go_wp2_with fail
  refine (c1.out _ h').mono ?_
  rintro e w' ⟨rfl, rfl⟩
  cases t1
  · go_wp2
    go_ret
    exact ⟨rfl, by (repeat' (first | exact Below.refl _ _ | assumption | apply bel_drewN | apply bel_drew | apply bel_alloc | (refine bel_trans ?_ (by assumption))))⟩
  · go_wp2_with fail
    refine (c2.out _ h').mono ?_
    rintro e w' ⟨rfl, rfl⟩
    cases t2
    · go_wp2
      go_ret
      exact ⟨rfl, by (repeat' (first | exact Below.refl _ _ | assumption | apply bel_drewN | apply bel_drew | apply bel_alloc | (refine bel_trans ?_ (by assumption))))⟩
    · cases par
      · go_wp2_with fail
        refine (c3.out _ h').mono ?_
        rintro e w' ⟨rfl, rfl⟩
        cases t3
        · go_wp2
          go_ret
          exact ⟨rfl, by (repeat' (first | exact Below.refl _ _ | assumption | apply bel_drewN | apply bel_drew | apply bel_alloc | (refine bel_trans ?_ (by assumption))))⟩
        · go_wp2_with fail
          refine (c4.out _ h').mono ?_
          rintro e w' ⟨rfl, rfl⟩
          go_wp2
          go_ret
          exact ⟨by simp, by (repeat' (first | exact Below.refl _ _ | assumption | apply bel_drewN | apply bel_drew | apply bel_alloc | (refine bel_trans ?_ (by assumption))))⟩
      · have he' := he.out (by have := Hp.out; simpa using this) H1.out H2.out
        rw [H3.out, H4.out] at he'
        obtain ⟨e3, e4⟩ := he'
        subst e3; subst e4
        go_wp2
        go_ret
        exact ⟨rfl, by (repeat' (first | exact Below.refl _ _ | assumption | apply bel_drewN | apply bel_drew | apply bel_alloc | (refine bel_trans ?_ (by assumption))))⟩
end Go.Proofs.Ytkiogciokngjfaa
