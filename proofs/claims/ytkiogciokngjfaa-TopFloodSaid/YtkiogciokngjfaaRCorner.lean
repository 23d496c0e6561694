/- What the reference's Corner, Corners, SameNumbers hand back. -/
import Derived.Test.YtkiogciokngjfaaCorner
set_option linter.unusedVariables false
set_option linter.unusedSimpArgs false
namespace Go.Proofs.Ytkiogciokngjfaa
open Go.RowKit Go.Sort FR
def noR (g : G) (x y : Int) (a b : Nat) : Prop := ∀ i j : Nat, i < 2 → j < 2 → (i < a ∨ (i = a ∧ j < b)) → kd g x y (2 * (i : Int) - 1) (2 * (j : Int) - 1) = false
theorem noR_zero (g : G) (x y : Int) : noR g x y 0 0 := fun i j _ _ h => by omega
theorem noR_succ {g : G} {x y : Int} {a b : Nat} (h : noR g x y a b) (h' : kd g x y (2 * (a : Int) - 1) (2 * (b : Int) - 1) = false) : noR g x y a (b + 1) := by
  intro i j hi hj hh
  by_cases e : i = a ∧ j = b
  · obtain ⟨rfl, rfl⟩ := e; exact h'
  · exact h i j hi hj (by omega)
theorem noR_row {g : G} {x y : Int} {a : Nat} (h : noR g x y a 2) : noR g x y (a + 1) 0 := fun i j hi hj hh => h i j hi hj (by omega)
theorem corner_noR {g : G} {c : Nat} (h : noR g (g.X c : Nat) (g.Y c : Nat) 2 0) : cornerB g c = false := by
  have h0 := h 0 0 (by omega) (by omega) (by omega)
  have h1 := h 0 1 (by omega) (by omega) (by omega)
  have h2 := h 1 0 (by omega) (by omega) (by omega)
  have h3 := h 1 1 (by omega) (by omega) (by omega)
  simp at h0 h1 h2 h3
  unfold cornerB; simp [h0, h1, h2, h3]
theorem corner_yesR {g : G} {c a b : Nat} (ha : a < 2) (hb : b < 2) (ho : g.op (g.X c : Nat) (g.Y c : Nat) = true) (h : kd g (g.X c : Nat) (g.Y c : Nat) (2 * (a : Int) - 1) (2 * (b : Int) - 1) = true) : cornerB g c = true := by
  unfold cornerB
  rcases (show a = 0 ∨ a = 1 by omega) with rfl | rfl <;> rcases (show b = 0 ∨ b = 1 by omega) with rfl | rfl <;> simp at h <;> simp [ho, h]
set_option maxRecDepth 100000 in
set_option maxHeartbeats 1600000 in
theorem rCorner (w : World) (p : Nat) (g : G) (v : Int) (c : Nat) (h : RGridAt w p g v) (hc : c < g.n) :
    Calls Try.prog 36 #[.pointer (some ⟨p, 0, none⟩), .int .i64 (c : Nat)] w fun e w' => e = .returned (.bool (cornerB g c)) ∧ Below w.heap.size w w' := by
  have hin := inPG h.1 hc
  have hp := Lib.hid h.lt
  have hn := G.n_le h.1
  obtain ⟨hx, hy⟩ := hin
  unfold inP at hx hy
  obtain ⟨o1, o2, o3, o4⟩ := h.1
  have k1 := h.size.1
  have eX : (c : Int) % g.w = (g.X c : Nat) := by unfold G.X; simp
  have eY : (c : Int) / g.w = (g.Y c : Nat) := by unfold G.Y; simp
  obtain ⟨cb, hcb⟩ : ∃ t, cornerB g c = t := ⟨_, rfl⟩
  rw [hcb]
  have Hcb := Lib.hid hcb
  clear hcb
  go_enter Try.func36, Try.ntmps36
  go_wp2_with fail
  rw [eX]
  clear eX eY k1
  cases ho : g.op (g.X c : Nat) (g.Y c : Nat) with
  | false =>
    refine (rOpen_at _ p g v _ _ _ h ho).mono ?_
    rintro e w1 ⟨rfl, hb1⟩
    have Hc0 : cornerB g c = false := by unfold cornerB; rw [ho]; rfl
    obtain rfl : false = cb := Hc0.symm.trans Hcb.out
    clear Hc0 ho
    go_wp2
    go_ret
    exact ⟨rfl, hb1⟩
  | true =>
    refine (rOpen_at _ p g v _ _ _ h ho).mono ?_
    rintro e w1 ⟨rfl, hb1⟩
    have Ho := Lib.hid ho
    clear ho
    go_wp2_with fail
    go_loopw [7] (fun i wr => ∃ (a : Nat) (dx : Int), a ≤ 2 ∧ i = .int .i64 dx ∧ dx = 2 * (a : Int) - 1 ∧ noR g (g.X c : Nat) (g.Y c : Nat) a 0 ∧ Below w.heap.size w wr) (fun i _ => (3 - intOf i).toNat)
    case atStart => exact ⟨0, -1, by omega, rfl, by omega, noR_zero _ _ _, hb1⟩
    case round =>
      obtain ⟨a, dx, ha, rfl, hdx, hno, HB⟩ := hrel
      by_cases hlt : a < 2
      · have d1 : -1 ≤ dx := by omega
        have d2 : dx < 2 := by omega
        have Hdx := Lib.hid hdx
        have Hno := Lib.hid hno
        clear hno hdx
        go_wp2_with fail
        obtain ⟨wo, rfl⟩ : ∃ wo : World, wo = wr := ⟨_, rfl⟩
        go_loopw [8] (fun i wr => ∃ (b : Nat) (dy : Int), b ≤ 2 ∧ i = .int .i64 dy ∧ dy = 2 * (b : Int) - 1 ∧ noR g (g.X c : Nat) (g.Y c : Nat) a b ∧ Below w.heap.size w wr) (fun i _ => (3 - intOf i).toNat)
        case atStart => exact ⟨0, -1, by omega, rfl, by omega, Hno.out, HB⟩
        case round =>
          obtain ⟨b, dy, hb, rfl, hdy, hno, HB⟩ := hrel
          have Hno := Lib.hid hno
          clear hno
          by_cases hlt2 : b < 2
          · have f1 : -1 ≤ dy := by omega
            have f2 : dy < 2 := by omega
            have Hdy := Lib.hid hdy
            clear hdy
            have Hs := Lib.hid (fun (h' : kd g (g.X c : Nat) (g.Y c : Nat) dx dy = false) => noR_succ Hno.out (by rw [← Hdx.out, ← Hdy.out]; exact h'))
            have Hy := Lib.hid (fun (h' : kd g (g.X c : Nat) (g.Y c : Nat) dx dy = true) => corner_yesR (g := g) (c := c) hlt hlt2 Ho.out (by rw [← Hdx.out, ← Hdy.out]; exact h'))
            obtain ⟨t1, h1⟩ : ∃ t, g.op ((g.X c : Nat) + dx) ((g.Y c : Nat) + dy) = t := ⟨_, rfl⟩
            obtain ⟨t2, h2⟩ : ∃ t, g.op ((g.X c : Nat) + dx) (g.Y c : Nat) = t := ⟨_, rfl⟩
            obtain ⟨t3, h3⟩ : ∃ t, g.op (g.X c : Nat) ((g.Y c : Nat) + dy) = t := ⟨_, rfl⟩
            have Hv := Lib.hid (kd_val h1 h2 h3)
            have c1 := Lib.hid (fun w' h' => rOpen_at w' p g v _ _ _ h' h1)
            have c2 := Lib.hid (fun w' h' => rOpen_at w' p g v _ _ _ h' h2)
            have c3 := Lib.hid (fun w' h' => rOpen_at w' p g v _ _ _ h' h3)
            clear h1 h2 h3
            go_wp2_with fail
            (with_reducible refine (c1.out _ (h.below HB hp.out)).mono ?_)
            rintro e w2 ⟨rfl, hb2⟩
            have HB2 := bel_trans HB hb2
            clear hb2
            go_wp2_with fail
            (with_reducible refine (c2.out _ (h.below HB2 hp.out)).mono ?_)
            rintro e w3 ⟨rfl, hb3⟩
            have HB3 := bel_trans HB2 hb3
            clear hb3
            cases t2
            · cases t1
              all_goals
                go_wp2
                go_roundw
                case rel => exact ⟨b + 1, _, by omega, rfl, by have := Hdy.out; omega, Hs.out (Hv.out.trans (by rfl)), HB3⟩
                case measure => simp [intOf]; omega
            · go_wp2_with fail
              (with_reducible refine (c3.out _ (h.below HB3 hp.out)).mono ?_)
              rintro e w4 ⟨rfl, hb4⟩
              have HB4 := bel_trans HB3 hb4
              clear hb4
              cases t1 <;> cases t3
              all_goals first
                | (go_wp2; go_roundw; (case rel => exact ⟨b + 1, _, by omega, rfl, by have := Hdy.out; omega, Hs.out (Hv.out.trans (by rfl)), HB4⟩); (case measure => simp [intOf]; omega))
                | (go_wp2; go_ret; exact ⟨ret_b (Hcb.out.symm.trans (Hy.out Hv.out)).symm, HB4⟩)
          · obtain rfl : b = 2 := by omega
            subst hdy
            go_wp2
            go_roundw
            case rel => exact ⟨a + 1, _, by omega, rfl, by have := Hdx.out; omega, noR_row Hno.out, HB⟩
            case measure => simp [intOf]; omega
      · obtain rfl : a = 2 := by omega
        subst hdx
        go_wp2
        go_ret
        exact ⟨ret_b ((corner_noR hno).symm.trans Hcb.out), HB⟩
end Go.Proofs.Ytkiogciokngjfaa
