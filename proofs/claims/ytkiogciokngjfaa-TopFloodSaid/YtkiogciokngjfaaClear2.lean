/- What New, Steps, line and Set of package clear do, and the reference's Clear. -/
import Derived.Test.YtkiogciokngjfaaClear
import Derived.Test.YtkiogciokngjfaaGridSays
set_option linter.unusedVariables false
set_option linter.unusedSimpArgs false
namespace Go.Proofs.Ytkiogciokngjfaa
open Go.RowKit Go.Sort FR
/-- so far so many have been counted -/
def TabNew (W0 : World) (t p : Nat) (g : G) (v : Int) (P : Nat → Nat → Prop) (w : World) : Prop := ∃ f, TabAt w t p f ∧ GridAt w p g v ∧ (∀ c d, P c d → f c d = clrC g c d) ∧ Below W0.heap.size W0 w
theorem zero_row (p : Nat) : (Try.zeroCells151.setIfInBounds 0 (.pointer (some ⟨p, 0, none⟩))) = rowOf (tcell p (fun _ _ => 0)) 2049 := by kernel_rfl
set_option maxRecDepth 100000 in
theorem tabSteps_in (w : World) (t p : Nat) (f : Nat → Nat → Int) (g : G) (v : Int) (c d : Nat) (hT : TabAt w t p f) (hG : GridAt w p g v) (hc : c < g.n) (hd : d < 8) :
    Calls Try.prog 53 #[.pointer (some ⟨t, 0, none⟩), .int .i64 (c : Nat), .int .i64 (d : Nat)] w fun e w' => e = .returned (.tuple #[.int .i64 (f c d), .nilIface]) ∧ Below w.heap.size w w' := by
  have hn := G.n_le hG.1
  have htl := Lib.hid hT.lt
  have k0 := hT.ptr
  go_enter Try.func53, Try.ntmps53
  go_wp2_with fail
  (with_reducible refine (gridPlace_in _ p g v c hG hc).mono ?_)
  rintro e w1 ⟨rfl, hb1⟩
  have kv := (hT.below hb1 htl.out).val (c := c) (d := d) (by omega) hd
  have q1 : (c : Int) < 256 := by omega
  have q2 : (d : Int) < 8 := by omega
  clear k0
  go_wp2
  go_ret2
  exact ⟨rfl, hb1⟩
theorem tabSteps_cell (w : World) (t p : Nat) (f : Nat → Nat → Int) (g : G) (v c d : Int) (hT : TabAt w t p f) (hG : GridAt w p g v) (hc : c < 0 ∨ g.n ≤ c) :
    Calls Try.prog 53 #[.pointer (some ⟨t, 0, none⟩), .int .i64 c, .int .i64 d] w fun e w' => e = .returned (.tuple #[.int .i64 0, .iface 137 (.int .i64 1)]) ∧ Below w.heap.size w w' := by
  have k0 := hT.ptr
  go_enter Try.func53, Try.ntmps53
  go_wp2_with fail
  (with_reducible refine (gridPlace_out _ p g v c hG hc).mono ?_)
  rintro e w1 ⟨rfl, hb1⟩
  clear k0
  go_wp2
  go_ret2
  exact ⟨rfl, hb1⟩
theorem tabSteps_dir (w : World) (t p : Nat) (f : Nat → Nat → Int) (g : G) (v : Int) (c : Nat) (d : Int) (hT : TabAt w t p f) (hG : GridAt w p g v) (hc : c < g.n) (hd : d < 0 ∨ 8 ≤ d) :
    Calls Try.prog 53 #[.pointer (some ⟨t, 0, none⟩), .int .i64 (c : Nat), .int .i64 d] w fun e w' => e = .returned (.tuple #[.int .i64 0, .iface 137 (.int .i64 1)]) ∧ Below w.heap.size w w' := by
  have k0 := hT.ptr
  rcases (show d < 0 ∨ (0 ≤ d ∧ 8 ≤ d) by omega) with hd | ⟨hd1, hd2⟩
  all_goals
    go_enter Try.func53, Try.ntmps53
    go_wp2_with fail
    (with_reducible refine (gridPlace_in _ p g v c hG hc).mono ?_)
    rintro e w1 ⟨rfl, hb1⟩
    clear k0
    go_wp2
    go_ret2
    exact ⟨rfl, hb1⟩
/-- a new table, all counted -/
def TabMade (w : World) (g : G) (v : Int) (e : Ending) (w' : World) : Prop := ∃ t p, e = .returned (.pointer (some ⟨t, 0, none⟩)) ∧ w.heap.size ≤ p ∧ p < t ∧ TabNew w t p g v (fun c d => c < g.n ∧ d < 8) w'
set_option maxHeartbeats 1600000 in
theorem tabNew (w : World) (p0 : Nat) (g : G) (v : Int) (hG : GridAt w p0 g v) :
    Calls Try.prog 51 #[.pointer (some ⟨p0, 0, none⟩)] w (TabMade w g v) := by
  have hp0 := Lib.hid hG.lt
  have hn := G.n_le hG.1
  go_enter Try.func51, Try.ntmps51
  go_wp2_with fail
  (with_reducible refine (gridCopy _ p0 g v hG).mono ?_)
  rintro e w1 ⟨rfl, hC, hb1, hz1⟩
  obtain ⟨p, hpw⟩ : ∃ p, w.heap.size = p := ⟨_, rfl⟩
  rw [hpw] at hC ⊢
  have Hz1 := Lib.hid hz1
  have Hpw := Lib.hid hpw
  clear hz1 hpw
  go_upto_region 2 with (fail)
  obtain ⟨t, ht⟩ : ∃ t, w1.heap.size = t := ⟨_, rfl⟩
  rw [ht]
  have hpw := Hpw.out
  have htz : t = p + 1 := by have := Hz1.out; omega
  have hP := Lib.hid (show w.heap.size ≤ p by omega)
  refine wp_name ?_
  intro W2 hW2
  have hT2 : TabAt W2 t p (fun _ _ => 0) := by rw [hW2, ← ht]; unfold TabAt; rw [heap_alloc_new, zero_row]
  have hC2 : GridAt W2 p g v := by rw [hW2]; exact hC.below (Below.alloc (Below.refl _ _) (Nat.le_refl _) _) hC.lt
  have HB2 : Below w.heap.size w W2 := by rw [hW2]; exact bel_alloc hb1
  have hstart : TabNew w t p g v (fun c d => c < g.n ∧ d < 0) W2 := ⟨_, hT2, hC2, fun c d h => by omega, HB2⟩
  have Htz := Lib.hid htz
  clear hW2 hT2 hC2 HB2 hC hb1 ht hpw htz
  go_wp2_with fail
  go_loopw [10] (fun i wr => ∃ d : Nat, d ≤ 8 ∧ i = .int .i64 d ∧ TabNew w t p g v (fun c' d' => c' < g.n ∧ d' < d) wr) (fun i _ => 8 - (intOf i).toNat)
  case atStart => exact ⟨0, by omega, rfl, hstart⟩
  case round =>
    obtain ⟨d, hd, rfl, f, hT, hC, hf, HB⟩ := hrel
    clear hstart
    by_cases hlt : d < 8
    · go_wp2_with fail
      (with_reducible refine (gridCellsN _ p0 g v (hG.below HB hp0.out)).mono ?_)
      rintro e w3 ⟨rfl, hb3⟩
      have hin : TabNew w t p g v (fun c' d' => c' < g.n ∧ d' < d ∨ c' < 0 ∧ d' = d) w3 := ⟨f, hT.below hb3 hT.lt, hC.below hb3 hC.lt, fun c' d' h => hf c' d' (by omega), bel_trans HB hb3⟩
      clear hT hC hf HB hb3
      go_wp2_with fail
      obtain ⟨wo, rfl⟩ : ∃ wo : World, wo = wr := ⟨_, rfl⟩
      go_loopw [15] (fun i wr => ∃ c : Nat, c ≤ g.n ∧ i = .int .i64 c ∧ TabNew w t p g v (fun c' d' => c' < g.n ∧ d' < d ∨ c' < c ∧ d' = d) wr) (fun i _ => g.n - (intOf i).toNat)
      case atStart => exact ⟨0, by omega, rfl, hin⟩
      case round =>
        obtain ⟨c, hc, rfl, f, hT, hC, hf, HB⟩ := hrel
        clear hin
        by_cases hlc : c < g.n
        · have htp : t ≠ p := by have := Htz.out; omega
          go_wp2_with fail
          (with_reducible refine (tabCount _ t p f g v c d hT hC htp hlc hlt).mono ?_)
          rintro e w4 ⟨rfl, hT4, hC4, hk4⟩
          have HB4 := Kept.below HB hk4 HB.size (by simp; have := Htz.out; have := hP.out; omega)
          clear htp hT hC hk4
          go_wp2
          go_roundw
          case rel => exact ⟨c + 1, by omega, by go_num, _, hT4, hC4, fun c' d' h => by
            unfold fset
            by_cases e : c' = c ∧ d' = d
            · obtain ⟨rfl, rfl⟩ := e; rw [if_pos ⟨rfl, rfl⟩]
            · rw [if_neg e]; exact hf c' d' (by omega), HB4⟩
          case measure => simp [intOf]; omega
        · obtain rfl : c = g.n := by omega
          go_wp2
          go_roundw
          case rel => exact ⟨d + 1, by omega, by go_num, f, hT, hC, fun c' d' h => hf c' d' (by omega), HB⟩
          case measure => simp [intOf]; omega
    · obtain rfl : d = 8 := by omega
      go_wp2
      go_ret
      exact ⟨t, p, rfl, hP.out, by have := Htz.out; omega, f, hT, hC, hf, HB⟩
/-- what a line of counting leaves: some are counted, others are as they were -/
def Recount (g : G) (f f' : Nat → Nat → Int) : Prop := ∀ c d, f' c d = f c d ∨ f' c d = clrC g c d
theorem Recount.refl (g : G) (f : Nat → Nat → Int) : Recount g f f := fun _ _ => .inl rfl
theorem Recount.set {g : G} {f f' : Nat → Nat → Int} (h : Recount g f f') (c d : Nat) : Recount g f (fset f' c d (clrC g c d)) := by
  intro c' d'
  unfold fset
  by_cases e : c' = c ∧ d' = d
  · obtain ⟨rfl, rfl⟩ := e; rw [if_pos ⟨rfl, rfl⟩]; exact .inr rfl
  · rw [if_neg e]; exact h c' d'
theorem Recount.trans {g : G} {f f' f'' : Nat → Nat → Int} (h : Recount g f f') (k : Recount g f' f'') : Recount g f f'' := by
  intro c d
  rcases k c d with e | e
  · rw [e]; exact h c d
  · exact .inr e
/-- what is counted stays so -/
theorem Recount.keep {g : G} {f f' : Nat → Nat → Int} (h : Recount g f f') {c d : Nat} (e : f c d = clrC g c d) : f' c d = clrC g c d := by
  rcases h c d with h | h
  · rw [h, e]
  · exact h
/-- a cell lies k steps against direction d behind a place -/
def Behind (g : G) (x y : Int) (d c k : Nat) : Prop := c < g.n ∧ (g.X c : Int) = x - k * dxN d ∧ (g.Y c : Int) = y - k * dyN d
def inG (g : G) (x y : Int) : Prop := 0 ≤ x ∧ x < g.w ∧ 0 ≤ y ∧ y < g.h
/-- behind a line from a place: whatever lies behind that, in the grid all the way, is counted -/
def Lined (g : G) (f' : Nat → Nat → Int) (x y : Int) (d m : Nat) : Prop := ∀ c k : Nat, k < m → Behind g x y d c k → f' c d = clrC g c d
def LineR (W0 : World) (t p : Nat) (g : G) (v : Int) (f : Nat → Nat → Int) (x y : Int) (d m : Nat) (w : World) : Prop :=
  ∃ f', TabAt w t p f' ∧ GridAt w p g v ∧ Recount g f f' ∧ Lined g f' x y d m ∧ Kept [t] W0 w
/-- the whole line -/
def LineD (W0 : World) (t p : Nat) (g : G) (v : Int) (f : Nat → Nat → Int) (x y : Int) (d : Nat) (e : Ending) (w : World) : Prop :=
  e = .returned (.tuple #[]) ∧ ∃ f', TabAt w t p f' ∧ GridAt w p g v ∧ Recount g f f' ∧ (inG g x y → ∀ c k : Nat, Behind g x y d c k → f' c d = clrC g c d) ∧ Kept [t] W0 w
/-- in a grid, whatever lies between two places of it on a line lies in it -/
theorem inG_between {g : G} {x y : Int} {d k m : Nat} (h0 : inG g x y) (hk : inG g (x - k * dxN d) (y - k * dyN d)) (hm : m ≤ k) : inG g (x - m * dxN d) (y - m * dyN d) := by
  obtain ⟨b1, b2, b3, b4⟩ := dN_abs d
  unfold inG at *
  generalize dxN d = a at *
  generalize dyN d = b at *
  rcases (show a = -1 ∨ a = 0 ∨ a = 1 by omega) with rfl | rfl | rfl <;> rcases (show b = -1 ∨ b = 0 ∨ b = 1 by omega) with rfl | rfl | rfl <;> omega
theorem behind_in {g : G} (hg : g.ok) {x y : Int} {d c k : Nat} (h : Behind g x y d c k) : inG g (x - k * dxN d) (y - k * dyN d) := by
  obtain ⟨h1, h2, h3⟩ := h
  have := G.X_lt hg c
  have := G.Y_lt h1
  unfold inG; omega
theorem lined_succ {g : G} {f' : Nat → Nat → Int} {x y : Int} {d m c : Nat} (hL : Lined g f' x y d m) (hb : Behind g x y d c m) : Lined g (fset f' c d (clrC g c d)) x y d (m + 1) := by
  intro c' k hk h
  unfold fset
  by_cases e : c' = c ∧ d = d
  · rw [if_pos e, e.1]
  · rw [if_neg e]
    have hne : c' ≠ c := fun e' => e ⟨e', rfl⟩
    refine hL c' k ?_ h
    have : k ≠ m := by
      rintro rfl
      apply hne
      obtain ⟨_, h2, h3⟩ := h
      obtain ⟨_, b2, b3⟩ := hb
      rw [← G.cell_XY g c', ← G.cell_XY g c]
      rw [show g.X c' = g.X c by omega, show g.Y c' = g.Y c by omega]
    omega
theorem behind_at {g : G} (hg : g.ok) {x y : Int} {d m : Nat} (h : inG g (x - m * dxN d) (y - m * dyN d)) : ∃ c : Nat, (y - m * dyN d) * (g.w : Int) + (x - m * dxN d) = (c : Nat) ∧ Behind g x y d c m := by
  obtain ⟨h1, h2, h3, h4⟩ := h
  obtain ⟨i, hi⟩ := Int.eq_ofNat_of_zero_le h1
  obtain ⟨j, hj⟩ := Int.eq_ofNat_of_zero_le h3
  refine ⟨g.cell i j, ?_, G.cell_lt (by omega) (by omega), ?_, ?_⟩
  · rw [hi, hj]; unfold G.cell; simp
  · rw [G.X_cell (by omega)]; exact hi.symm
  · rw [G.Y_cell (by omega)]; exact hj.symm
theorem lined_end {g : G} (hg : g.ok) {f' : Nat → Nat → Int} {x y : Int} {d m : Nat} (hL : Lined g f' x y d m) (ho : ¬ inG g (x - m * dxN d) (y - m * dyN d)) : inG g x y → ∀ c k : Nat, Behind g x y d c k → f' c d = clrC g c d := by
  intro h0 c k h
  refine hL c k ?_ h
  rcases Nat.lt_or_ge k m with hlt | hge
  · exact hlt
  · exact absurd (inG_between h0 (behind_in hg h) hge) ho
theorem in_line_bd {g : G} (hg : g.ok) {x y : Int} {d m : Nat} (h0 : inG g x y) (h : inG g (x - m * dxN d) (y - m * dyN d)) : m ≤ 15 := by
  obtain ⟨_, o2, _, o4⟩ := hg
  unfold inG at *
  rcases G.dN_ne d with e | e | ⟨e, e' | e'⟩
  · rw [e] at h; omega
  · rw [e] at h; omega
  · rw [e, e'] at h; omega
  · rw [e, e'] at h; omega
set_option maxHeartbeats 1600000 in
theorem tabLine (w : World) (t p : Nat) (f : Nat → Nat → Int) (g : G) (v x y : Int) (d : Nat) (hT : TabAt w t p f) (hG : GridAt w p g v) (htp : t ≠ p) (hd : d < 8) (hx : -1 ≤ x ∧ x ≤ 16) (hy : -1 ≤ y ∧ y ≤ 16) :
    Calls Try.prog 109 #[.pointer (some ⟨t, 0, none⟩), .int .i64 x, .int .i64 y, .int .i64 (d : Nat)] w (LineD w t p g v f x y d) := by
  have hok := hG.1
  have htl := Lib.hid hT.lt
  have hpl := Lib.hid hG.lt
  have hne := Lib.hid htp
  obtain ⟨x1, x2⟩ := hx
  obtain ⟨y1, y2⟩ := hy
  clear htp
  obtain ⟨b1, b2, b3, b4⟩ := dN_abs d
  have hst := step_one d hd
  obtain ⟨dx, hdx⟩ : ∃ z, dxN d = z := ⟨_, rfl⟩
  obtain ⟨dy, hdy⟩ : ∃ z, dyN d = z := ⟨_, rfl⟩
  rw [hdx] at b1 b2 hst
  rw [hdy] at b3 b4 hst
  have hst := Lib.hid hst
  have Hdx := Lib.hid hdx
  have Hdy := Lib.hid hdy
  clear hdx hdy
  go_enter Try.func109, Try.ntmps109
  go_wp2_with fail
  (with_reducible refine (hst.out _).mono ?_)
  rintro e w1 ⟨rfl, hb1⟩
  have hstart : LineR w t p g v f x y d 0 w1 := ⟨f, hT.below hb1 htl.out, hG.below hb1 hpl.out, Recount.refl _ _, fun c k hk => by omega, .of_below hb1⟩
  clear hb1
  go_wp2_with fail
  go_loopg [1, 2] 20 (fun gk a b wr => ∃ (m : Nat) (u z : Int), gk + m = 20 ∧ m ≤ 16 ∧ a = .int .i64 u ∧ b = .int .i64 z ∧ u = x - m * dx ∧ z = y - m * dy ∧ (0 < m → inG g x y) ∧ LineR w t p g v f x y d m wr)
  case atStart => exact ⟨0, x, y, by omega, by omega, rfl, rfl, by simp, by simp, fun h => by omega, hstart⟩
  case round =>
    obtain ⟨m, u, z, hgm, hm16, rfl, rfl, hu, hz, hin, f', hT', hG', hrc, hL, hk⟩ := hrel
    clear hstart
    have hu1 : -40 ≤ u ∧ u ≤ 40 := by
      rcases (show dx = -1 ∨ dx = 0 ∨ dx = 1 by omega) with e | e | e <;> rw [e] at hu <;> omega
    have hz1 : -40 ≤ z ∧ z ≤ 40 := by
      rcases (show dy = -1 ∨ dy = 0 ∨ dy = 1 by omega) with e | e | e <;> rw [e] at hz <;> omega
    obtain ⟨u1, u2⟩ := hu1
    obtain ⟨z1, z2⟩ := hz1
    have k0 := hT'.ptr
    have Hu := Lib.hid hu
    have Hz := Lib.hid hz
    have Hgm := Lib.hid hgm
    have Hin := Lib.hid hin
    clear hu hz hgm hin
    by_cases hg : inG g u z
    · have hg' : inG g (x - m * dxN d) (y - m * dyN d) := by rw [Hdx.out, Hdy.out, ← Hu.out, ← Hz.out]; exact hg
      have hxy : inG g x y := by
        rcases Nat.eq_zero_or_pos m with h0 | h0
        · have e1 := Hu.out; have e2 := Hz.out
          rw [h0] at e1 e2
          simp at e1 e2
          rw [← e1, ← e2]; exact hg
        · exact Hin.out h0
      have hm15 := in_line_bd hok hxy hg'
      obtain ⟨c, hc, hbe⟩ := behind_at hok hg'
      rw [Hdx.out, Hdy.out, ← Hu.out, ← Hz.out] at hc
      have cC := gridCell_in wr p g v u z hG' hg.1 hg.2.1 hg.2.2.1 hg.2.2.2
      rw [hc] at cC
      have cC := Lib.hid cC
      have Hbe := Lib.hid hbe
      have hcn := hbe.1
      clear hc hbe hg hg'
      have Hxy := Lib.hid hxy
      clear hxy
      go_wp2_with fail
      (with_reducible refine (cC.out).mono ?_)
      rintro e w' ⟨rfl, rfl⟩
      go_wp2_with fail
      (with_reducible refine (tabCount _ t p f' g v c d hT' hG' hne.out hcn hd).mono ?_)
      rintro e w4 ⟨rfl, hT4, hG4, hk4⟩
      clear k0
      go_wp2
      go_roundg (gk - 1)
      case measure => have := Hgm.out; omega
      case rel => exact ⟨m + 1, _, _, by have := Hgm.out; omega, by omega, rfl, rfl, by have := Hu.out; rw [Int.natCast_add, Int.add_mul]; omega, by have := Hz.out; rw [Int.natCast_add, Int.add_mul]; omega, fun _ => Hxy.out, _, hT4, hG4, hrc.set c d, lined_succ hL Hbe.out, hk.trans hk4⟩
    · have ho : ¬ inG g (x - m * dxN d) (y - m * dyN d) := by rw [Hdx.out, Hdy.out, ← Hu.out, ← Hz.out]; exact hg
      have cC := Lib.hid (gridCell_out wr p g v u z hG' (fun h => hg h))
      have Ho := Lib.hid ho
      clear ho hg
      go_wp2_with fail
      (with_reducible refine (cC.out).mono ?_)
      rintro e w' ⟨rfl, rfl⟩
      clear k0
      go_wp2
      go_end0
      exact ⟨rfl, f', hT', hG', hrc, lined_end hok hL Ho.out, hk⟩
end Go.Proofs.Ytkiogciokngjfaa
