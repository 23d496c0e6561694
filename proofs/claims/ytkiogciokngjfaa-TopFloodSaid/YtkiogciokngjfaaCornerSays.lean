/- The law CornerSays: for any plot and any cell it returns true. -/
import Derived.Test.YtkiogciokngjfaaRCorner
import Derived.Test.YtkiogciokngjfaaOpen
import Derived.Test.YtkiogciokngjfaaCostSays
import Derived.Deep.Cut
set_option linter.unusedVariables false
set_option linter.unusedSimpArgs false
namespace Go.Proofs.Ytkiogciokngjfaa
open Go.RowKit Go.Sort FR
theorem sameNumbers (w : World) (A A' : Option Addr) (n m m' : Nat) (f : Nat → Int) (h : Ints w A n f) (h' : Ints w A' n f) (hn : n < 1099511627776) :
    Calls Try.prog 37 #[.slice A n m, .slice A' n m'] w fun e w' => e = .returned (.bool true) ∧ Below w.heap.size w w' := by
  rcases Nat.eq_zero_or_pos n with hn0 | hnp
  · subst hn0
    go_enter Try.func37, Try.ntmps37
    go_wp2_with fail
    go_loopw [5] (fun i wr => i = .int .i64 0 ∧ Below w.heap.size w wr) (fun i _ => 0 - (intOf i).toNat)
    case atStart => exact ⟨rfl, by (repeat' (first | exact Below.refl _ _ | assumption | apply bel_drewN | apply bel_drew | apply bel_alloc | (refine bel_trans ?_ (by assumption))))⟩
    case round =>
      obtain ⟨rfl, HB⟩ := hrel
      go_wp2
      go_ret
      exact ⟨rfl, HB⟩
  · obtain ⟨ad, rfl, a1, a2⟩ := h hnp
    obtain ⟨ad', rfl, b1, b2⟩ := h' hnp
    have a2 := Lib.hid a2
    have b2 := Lib.hid b2
    clear h h'
    go_enter Try.func37, Try.ntmps37
    go_wp2_with fail
    go_loopw [5] (fun i wr => ∃ k : Nat, k ≤ n ∧ i = .int .i64 k ∧ Below w.heap.size w wr) (fun i _ => n - (intOf i).toNat)
    case atStart => exact ⟨0, by omega, rfl, by (repeat' (first | exact Below.refl _ _ | assumption | apply bel_drewN | apply bel_drew | apply bel_alloc | (refine bel_trans ?_ (by assumption))))⟩
    case round =>
      obtain ⟨k, hk, rfl, HB⟩ := hrel
      by_cases hlt : k < n
      · have e1 := (HB.cell (p := ad.add k) (by rw [add_block]; exact a1)).trans (a2.out k hlt)
        have e2 := (HB.cell (p := ad'.add k) (by rw [add_block]; exact b1)).trans (b2.out k hlt)
        have q1 : (k : Int) < (n : Int) := by omega
        go_wp2_with fail
        go_quiet (fail)
        go_wp2
        go_roundw
        case rel => exact ⟨k + 1, by omega, by go_num, bel_drewN HB⟩
        case measure => simp [intOf]; omega
      · obtain rfl : k = n := by omega
        go_wp2
        go_ret
        exact ⟨rfl, HB⟩
set_option maxHeartbeats 800000 in
theorem rCorners (w : World) (p : Nat) (g : G) (v : Int) (h : RGridAt w p g v) :
    Calls Try.prog 39 #[.pointer (some ⟨p, 0, none⟩)] w (RetInts w (cornersI g)) := by
  have hp := Lib.hid h.lt
  have hn := G.n_le h.1
  have en : ((g.n : Nat) : Int) = (g.w : Int) * g.h := by unfold G.n; simp
  have m1 : 0 ≤ (g.w : Int) * g.h := by omega
  have m2 : (g.w : Int) * g.h ≤ 256 := by omega
  have en := Lib.hid en
  go_enter Try.func39, Try.ntmps39
  go_wp2_with fail
  go_loopw [3, 4] (fun l i wr => ∃ k : Nat, k ≤ g.n ∧ i = .int .i64 k ∧ OwnI wr w.heap.size l (upTo (cornerB g) k) ∧ Below w.heap.size w wr) (fun _ i _ => g.n - (intOf i).toNat)
  case atStart => exact ⟨0, by omega, rfl, OwnI.nil _ _, Below.refl _ _⟩
  case round =>
    obtain ⟨k, hk, rfl, hown, HB⟩ := hrel
    have hl := upTo_len (cornerB g) k
    have hR := h.below HB hp.out
    obtain ⟨s1, s2⟩ := hR.size
    have hz := HB.size
    by_cases hlt : k < g.n
    · have hw : IntKind.i64.wrap ((g.w : Int) * g.h) = (g.w : Int) * g.h := IntWalk.i64_in _ (by omega)
      have hd : decide ((k : Int) < (g.w : Int) * g.h) = true := by have := en.out; simp; omega
      go_wp2_with fail
      go_quiet (fail)
      clear hw hd s1 s2
      go_wp2_with fail
      (with_reducible refine (rCorner _ p g v k (h.below (bel_drewN HB) hp.out) hlt).mono ?_)
      rintro e w2 ⟨rfl, hb2⟩
      have HB2 := bel_trans (bel_drewN HB) hb2
      have hown2 : OwnI w2 w.heap.size _ _ := OwnI.below (w := wr.drewN nq) (B' := 0) hown hb2
      have hz2 := HB2.size
      cases hm : cornerB g k with
      | false =>
        have e := Lib.hid (upTo_no (p := cornerB g) hm)
        clear hm
        go_wp2
        go_roundw
        case rel => exact ⟨k + 1, by omega, by go_num, by rw [e.out]; exact hown2, HB2⟩
        case measure => simp [intOf]; omega
      | true =>
        have e := Lib.hid (upTo_yes (p := cornerB g) hm)
        clear hm
        go_wp2_with (at_builtin; refine wpList_append_int _ rfl _ _ rfl w.heap.size _ _ _ rfl (hown2.alloc _) ⟨w2.heap.size, 0, none⟩ rfl (cell1_new _ _ _) (by omega) (by simp; omega) ?_; intro v' w3 hown3 hgrow)
        have HB3 := below_grown (HB2.alloc (by omega) _) (by simp; omega) (hown2.alloc _) hgrow
        go_wp2
        go_roundw
        case rel => exact ⟨k + 1, by omega, by go_num, by rw [e.out]; exact hown3, HB3⟩
        case measure => simp [intOf]; omega
    · obtain rfl : k = g.n := by omega
      have hw : IntKind.i64.wrap ((g.w : Int) * g.h) = (g.w : Int) * g.h := IntWalk.i64_in _ (by omega)
      have hd : decide (((g.n : Nat) : Int) < (g.w : Int) * g.h) = false := by have := en.out; simp; omega
      go_wp2_with fail
      go_quiet (fail)
      clear hw hd s1 s2
      go_wp2
      go_ret
      exact ret_ints (B := w.heap.size) (w' := wr.drewN nq) hown (bel_drewN HB)
theorem lit4 (w : World) (a b c d : Int) : Ints (w.alloc (.cells #[.int .i64 a, .int .i64 b, .int .i64 c, .int .i64 d] 3)) (some ⟨w.heap.size, 0, none⟩) 4 (fun k => [a, b, c, d].getD k 0) := by
  intro _
  refine ⟨_, rfl, by simp, fun k hk => ?_⟩
  rcases (show k = 0 ∨ k = 1 ∨ k = 2 ∨ k = 3 by omega) with rfl | rfl | rfl | rfl <;> go_simp <;> rfl
def g33 : G := gset ⟨(3 : Int).toNat, (3 : Int).toNat, fun _ => false⟩ 4 true
theorem corners33 : cornersI g33 = [0, 2, 6, 8] := by decide +kernel
theorem corner33 : cornerB g33 0 = true := by decide +kernel
theorem turns_true (w : World) : Calls Try.prog 32 #[] w fun e w' => e = .returned (.bool true) ∧ Below w.heap.size w w' := by
  go_enter Try.func32, Try.ntmps32
  go_wp2_with fail
  refine (gridNew_ex 3 3 _ (by decide)).mono ?_
  rintro e w1 ⟨p, rfl, hp, hG, hb1⟩
  go_wp2_with fail
  refine (gridSet_new _ p _ _ 4 true hG (by decide) (by decide) (by decide)).mono ?_
  rintro e w2 ⟨rfl, hG2, hk2⟩
  have HB2 := Kept.below hb1 hk2 hb1.size (by simp; omega)
  have hG2 : GridAt w2 p g33 (0 + 1) := hG2
  go_wp2_with fail
  refine (cornerIs_in _ p _ _ 0 hG2 (by decide)).mono ?_
  rw [corner33]
  rintro e w3 ⟨rfl, hb3⟩
  have hG3 := hG2.below hb3 hG2.lt
  have HB3 := bel_trans HB2 hb3
  go_wp2_with fail
  refine (same_ok _).mono ?_
  rintro e w' ⟨rfl, rfl⟩
  go_wp2_with fail
  refine (same_ok _).mono ?_
  rintro e w' ⟨rfl, rfl⟩
  go_wp2_with fail
  refine (cornerAll _ p _ _ hG3).mono ?_
  rw [corners33]
  rintro e w4 ⟨A, m, rfl, hI, hb4⟩
  have HB4 := bel_trans HB3 hb4
  go_wp2_with fail
  refine (sameNumbers _ A _ 4 m 4 _ (hI.below (Below.alloc (Below.refl _ _) (Nat.le_refl _) _)) (lit4 w4 0 2 6 8) (by decide)).mono ?_
  rintro e w5 ⟨rfl, hb5⟩
  have HB5 := bel_trans (bel_alloc HB4) hb5
  go_wp2
  go_ret
  exact ⟨rfl, HB5⟩
set_option maxHeartbeats 1600000 in
theorem cornerSays (W0 : World) (a b : Int) (A : Option Addr) (n m : Nat) (f : Nat → Int) (h : SlI W0 A n f) (c : Int) (hc : -9223372036854775808 ≤ c ∧ c ≤ 9223372036854775807) :
    Calls Try.prog 4 #[.agg #[.int .i64 a, .int .i64 b, .slice A n m], .int .i64 c] W0 fun e w' => e = .returned (.bool true) ∧ Below W0.heap.size W0 w' := by
  obtain ⟨hI, hl, _⟩ := h
  have hl := Lib.hid hl
  clear hc
  go_enter Try.func4, Try.ntmps4
  go_upto_region 1 with (fail)
  refine wp_name ?_
  intro W hW
  have HW : Below W0.heap.size W0 W := by rw [hW]; (repeat' (first | exact Below.refl _ _ | assumption | apply bel_drewN | apply bel_drew | apply bel_alloc | (refine bel_trans ?_ (by assumption))))
  have k0 : ∀ w', Below W.heap.size W w' → w'.cell? ⟨W0.heap.size, 0, none⟩ = some (.int .i64 a : Value) := fun w' hbw => (hbw.cell (p := ⟨W0.heap.size, 0, none⟩) (by rw [hW]; simp <;> omega)).trans (by rw [hW]; go_simp)
  have k1 : ∀ w', Below W.heap.size W w' → w'.cell? ⟨W0.heap.size, 1, none⟩ = some (.int .i64 b : Value) := fun w' hbw => (hbw.cell (p := ⟨W0.heap.size, 1, none⟩) (by rw [hW]; simp <;> omega)).trans (by rw [hW]; go_simp)
  have k2 : ∀ w', Below W.heap.size W w' → w'.cell? ⟨W0.heap.size, 2, none⟩ = some (.slice A n m : Value) := fun w' hbw => (hbw.cell (p := ⟨W0.heap.size, 2, none⟩) (by rw [hW]; simp <;> omega)).trans (by rw [hW]; go_simp)
  clear hW
  go_wp2_with fail
  refine (turns_true _).mono ?_
  rintro e w1 ⟨rfl, HB⟩
  go_wp2_with fail
  refine (laid_any a b A n m f _ ((hI.below HW).below HB) hl.out).mono ?_
  rintro e w2 (⟨rfl, hb2⟩ | ⟨p, q, g, v, rfl, hp, hpq, hG, hR, hv0, hv1, hb2⟩)
  · have HB2 := bel_trans (bel_trans HW HB) hb2
    go_wp2
    go_ret
    exact ⟨rfl, HB2⟩
  · have HB2 := bel_trans (bel_trans HW HB) hb2
    clear k0 k1 k2 hb2 HB HW
    by_cases hin : 0 ≤ c ∧ c < g.n
    · obtain ⟨c0, c1⟩ := hin
      obtain ⟨k, rfl⟩ := Int.eq_ofNat_of_zero_le c0
      have hkn : k < g.n := by omega
      go_wp2_with fail
      (with_reducible refine (cornerIs_in _ p g v k hG hkn).mono ?_)
      rintro e w3 ⟨rfl, hb3⟩
      have hG3 := hG.below hb3 hG.lt
      have hR3 := hR.below hb3 hR.lt
      have HB3 := bel_trans HB2 hb3
      go_wp2_with fail
      (with_reducible refine (rIs_in _ q g v k hR3 hkn).mono ?_)
      rintro e w4 ⟨rfl, hb4⟩
      have hG4 := hG3.below hb4 hG3.lt
      have hR4 := hR3.below hb4 hR3.lt
      have HB4 := bel_trans HB3 hb4
      go_wp2_with fail
      (with_reducible refine (same_ok _).mono ?_)
      rintro e w' ⟨rfl, rfl⟩
      go_wp2_with fail
      (with_reducible refine (rCorner _ q g v k hR4 hkn).mono ?_)
      rintro e w5 ⟨rfl, hb5⟩
      have hG5 := hG4.below hb5 hG4.lt
      have hR5 := hR4.below hb5 hR4.lt
      have HB5 := bel_trans HB4 hb5
      go_wp2_with fail
      (with_reducible refine (cornerAll _ p g v hG5).mono ?_)
      rintro e w6 ⟨A1, m1, rfl, hI1, hb6⟩
      have HB6 := bel_trans HB5 hb6
      go_wp2_with fail
      (with_reducible refine (rCorners _ q g v (hR5.below hb6 hR5.lt)).mono ?_)
      rintro e w7 ⟨A2, m2, rfl, hI2, hb7⟩
      have HB7 := bel_trans HB6 hb7
      have hlen : (cornersI g).length < 1099511627776 := by have := upTo_len (cornerB g) g.n; have := G.n_le hG.1; unfold cornersI; omega
      go_wp2_with fail
      (with_reducible refine (sameNumbers _ A1 A2 _ m1 m2 _ (hI1.below hb7) hI2 hlen).mono ?_)
      rintro e w8 ⟨rfl, hb8⟩
      go_wp2
      go_ret
      exact ⟨rfl, bel_trans HB7 hb8⟩
    · have hout : c < 0 ∨ g.n ≤ c := by omega
      go_wp2_with fail
      (with_reducible refine (cornerIs_out _ p g v c hG hout).mono ?_)
      rintro e w3 ⟨rfl, hb3⟩
      have hG3 := hG.below hb3 hG.lt
      have hR3 := hR.below hb3 hR.lt
      have HB3 := bel_trans HB2 hb3
      go_wp2_with fail
      (with_reducible refine (rIs_out _ q g v c hR3 hout).mono ?_)
      rintro e w4 ⟨rfl, hb4⟩
      have hG4 := hG3.below hb4 hG3.lt
      have hR4 := hR3.below hb4 hR3.lt
      have HB4 := bel_trans HB3 hb4
      go_wp2_with fail
      (with_reducible refine (same_bad 1 _ (by decide)).mono ?_)
      rintro e w' ⟨rfl, rfl⟩
      go_wp2_with fail
      (with_reducible refine (cornerAll _ p g v hG4).mono ?_)
      rintro e w6 ⟨A1, m1, rfl, hI1, hb6⟩
      have HB6 := bel_trans HB4 hb6
      go_wp2_with fail
      (with_reducible refine (rCorners _ q g v (hR4.below hb6 hR4.lt)).mono ?_)
      rintro e w7 ⟨A2, m2, rfl, hI2, hb7⟩
      have HB7 := bel_trans HB6 hb7
      have hlen : (cornersI g).length < 1099511627776 := by have := upTo_len (cornerB g) g.n; have := G.n_le hG.1; unfold cornersI; omega
      go_wp2_with fail
      (with_reducible refine (sameNumbers _ A1 A2 _ m1 m2 _ (hI1.below hb7) hI2 hlen).mono ?_)
      rintro e w8 ⟨rfl, hb8⟩
      go_wp2
      go_ret
      exact ⟨rfl, bel_trans HB7 hb8⟩
end Go.Proofs.Ytkiogciokngjfaa
