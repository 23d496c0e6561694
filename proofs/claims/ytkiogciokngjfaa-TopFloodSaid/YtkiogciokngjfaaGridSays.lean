/- The law GridSays: for any size, and whatever cells are set, it returns true. -/
import Derived.Test.YtkiogciokngjfaaAsGrid
import Derived.Deep.RegionWith
import Derived.BigRegion
set_option linter.unusedVariables false
set_option linter.unusedSimpArgs false
namespace Go.Proofs.Ytkiogciokngjfaa
open Go.RowKit Go.Sort FR
theorem lit2 (w : World) (a b : Int) : Ints (w.alloc (.cells #[.int .i64 a, .int .i64 b] 3)) (some ⟨w.heap.size, 0, none⟩) 2 (fun k => [a, b].getD k 0) := by
  intro _
  refine ⟨_, rfl, by simp, fun k hk => ?_⟩
  rcases (show k = 0 ∨ k = 1 by omega) with rfl | rfl <;> go_simp <;> rfl
def g32 : G := gset ⟨(3 : Int).toNat, (2 : Int).toNat, fun _ => false⟩ 4 true
theorem moves32 : movesI g32 0 = [2, 4] := by decide +kernel
theorem grounds_true (w : World) : Calls Try.prog 40 #[] w fun e w' => e = .returned (.bool true) ∧ Below w.heap.size w w' := by
  go_enter Try.func40, Try.ntmps40
  go_wp2_with fail
  (with_reducible refine (gridNew_ex 3 2 _ (by decide)).mono ?_)
  rintro e w1 ⟨p, rfl, hp, hG, hb1⟩
  go_wp2_with fail
  refine (gridSet_new _ p _ _ 4 true hG (by decide) (by decide) (by decide)).mono ?_
  rintro e w2 ⟨rfl, hG2, hk2⟩
  have HB2 := Kept.below hb1 hk2 hb1.size (by simp; omega)
  have hG2 : GridAt w2 p g32 (0 + 1) := hG2
  go_wp2_with fail
  refine (gridMoves _ p _ _ 0 hG2 (by decide)).mono ?_
  rw [moves32]
  rintro e w3 ⟨A, m, rfl, hI, hb3⟩
  have hG3 := hG2.below hb3 hG2.lt
  have HB3 := bel_trans HB2 hb3
  go_wp2_with fail
  (with_reducible refine (same_ok _).mono ?_)
  rintro e w' ⟨rfl, rfl⟩
  go_wp2_with fail
  (with_reducible refine (same_ok _).mono ?_)
  rintro e w' ⟨rfl, rfl⟩
  go_wp2_with fail
  refine (sameNumbers _ A _ 2 m 2 _ (hI.below (Below.alloc (Below.refl _ _) (Nat.le_refl _) _)) (lit2 w3 2 4) (by decide)).mono ?_
  rintro e w5 ⟨rfl, hb5⟩
  have HB5 := bel_trans (bel_alloc HB3) hb5
  have hG5 : GridAt w5 p g32 (0 + 1) := (hG3.below (Below.alloc (Below.refl _ _) (Nat.le_refl _) (.cells #[.int .i64 2, .int .i64 4] 3)) hG3.lt).below hb5 (by have := hG3.lt; simp; omega)
  go_wp2_with fail
  (with_reducible refine (gridVersion _ p g32 _ hG5).mono ?_)
  rintro e w' ⟨rfl, rfl⟩
  go_wp2
  go_ret
  exact ⟨rfl, HB5⟩
/-- what both Sets hand back at a cell and a bool, and what they leave: the same grid -/
theorem set_both (w : World) (p q : Nat) (g : G) (v c : Int) (t : Bool) (hG : GridAt w p g v) (hR : RGridAt w q g v) (hpq : p ≠ q) (hv : 0 ≤ v ∧ v ≤ 1099511627000) :
    ∃ (did : Bool) (ev : Value) (f : Int) (g' : G) (v' : Int), v ≤ v' ∧ v' ≤ v + 1 ∧ g'.w = g.w ∧ g'.h = g.h ∧
      Calls Try.prog 45 #[.pointer (some ⟨p, 0, none⟩), .int .i64 c, .bool t] w (fun e w' => e = .returned (.tuple #[.bool did, ev]) ∧ GridAt w' p g' v' ∧ RGridAt w' q g v ∧ Kept [p] w w') ∧
      (∀ w1, RGridAt w1 q g v → Calls Try.prog 46 #[.pointer (some ⟨q, 0, none⟩), .int .i64 c, .bool t] w1 (fun e w' => e = .returned (.tuple #[.bool did, .int .i64 f]) ∧ RGridAt w' q g' v' ∧ Kept [q] w1 w')) ∧
      (∀ w1, Calls Try.prog 22 #[ev, .int .i64 f] w1 (fun e w' => e = .returned (.bool true) ∧ w1 = w')) := by
  by_cases hin : 0 ≤ c ∧ c < g.n
  · obtain ⟨i0, i1⟩ := hin
    obtain ⟨k, rfl⟩ := Int.eq_ofNat_of_zero_le i0
    have hk : k < g.n := by omega
    by_cases hs : g.b k = t
    · subst hs
      refine ⟨false, .nilIface, 0, g, v, by omega, by omega, rfl, rfl, (gridSet_same w p g v k hG hk).mono fun _ _ ⟨h1, h2⟩ => ⟨h1, hG.below h2 hG.lt, hR.below h2 hR.lt, .of_below h2⟩,
        fun w1 h => (rSet_same w1 q g v k h hk).mono fun _ _ ⟨h1, h2⟩ => ⟨h1, h.below h2 h.lt, .of_below h2⟩, fun w1 => same_ok w1⟩
    · have ht : g.b k = !t := by cases h : g.b k <;> cases t <;> simp_all
      refine ⟨true, .nilIface, 0, gset g k t, v + 1, by omega, by omega, rfl, rfl, (gridSet_new w p g v k t hG hk ht (by omega)).mono fun _ _ ⟨h1, h2, h3⟩ => ⟨h1, h2, hR.kept h3 (by simp; omega), h3⟩,
        fun w1 h => rSet_new w1 q g v k t h hk ht (by omega), fun w1 => same_ok w1⟩
  · have hout : c < 0 ∨ g.n ≤ c := by omega
    refine ⟨false, .iface 137 (.int .i64 1), 1, g, v, by omega, by omega, rfl, rfl, (gridSet_out w p g v c t hG hout).mono fun _ _ ⟨h1, h2⟩ => ⟨h1, hG.below h2 hG.lt, hR.below h2 hR.lt, .of_below h2⟩,
      fun w1 h => (rSet_out w1 q g v c t h hout).mono fun _ _ ⟨h1, h2⟩ => ⟨h1, h.below h2 h.lt, .of_below h2⟩, fun w1 => same_bad 1 w1 (by decide)⟩
theorem bidx_run {A : Option Addr} {ad : Addr} {n m k : Nat} (h : A = some ad) (hk : k < n) (wx : World) : (Instr.indexAt 50 (.slice A n m) (.int .i64 (k : Nat))).run Try.prog wx = .ok (.pointer (some (ad.add k))) wx := by
  subst h
  have q : (k : Int) < (n : Int) := by omega
  go_simp
theorem Bools.cell {w w' : World} {ad : Addr} {n : Nat} {f : Nat → Bool} (h : Bools w (some ad) n f) (hb : Below w.heap.size w w') {k : Nat} (hk : k < n) : w'.cell? (ad.add k) = some (.bool (f k)) := by
  obtain ⟨ad', e, h2, h3⟩ := h (by omega)
  cases e
  exact (hb.cell (p := ad.add k) (by rw [add_block]; exact h2)).trans (h3 k hk)
theorem Bools.addr {w : World} {A : Option Addr} {n : Nat} {f : Nat → Bool} (h : Bools w A n f) (hn : 0 < n) : ∃ ad, A = some ad := by
  obtain ⟨ad, e, _⟩ := h hn
  exact ⟨ad, e⟩
def GSR (W0 : World) (p q k : Nat) (wr : World) : Prop := ∃ g v, GridAt wr p g v ∧ RGridAt wr q g v ∧ 0 ≤ v ∧ v ≤ k ∧ Below W0.heap.size W0 wr
set_option maxRecDepth 100000 in
set_option maxHeartbeats 6400000 in
theorem gridSays (W0 : World) (a : Int) (ha : -9223372036854775808 ≤ a ∧ a ≤ 9223372036854775807) (b : Int) (hb : -9223372036854775808 ≤ b ∧ b ≤ 9223372036854775807)
    (A : Option Addr) (n m : Nat) (f : Nat → Int) (h : SlI W0 A n f) (A2 : Option Addr) (n2 m2 : Nat) (f2 : Nat → Bool) (h2 : SlB W0 A2 n2 f2) :
    Calls Try.prog 5 #[.int .i64 a, .int .i64 b, .slice A n m, .slice A2 n2 m2] W0 fun e w' => e = .returned (.bool true) ∧ Below W0.heap.size W0 w' := by
  obtain ⟨hI, hl, _⟩ := h
  obtain ⟨hJ, hl2⟩ := h2
  clear ha hb
  go_enter Try.func5, Try.ntmps5
  go_wp2_with fail
  (with_reducible refine (grounds_true _).mono ?_)
  rintro e w1 ⟨rfl, HB⟩
  by_cases hn : 200 < n
  · go_wp2
    go_ret
    exact ⟨rfl, HB⟩
  by_cases hn2 : 200 < n2
  · go_wp2
    go_ret
    exact ⟨rfl, HB⟩
  clear hl hl2
  go_wp2_with fail
  go_loopw [10] (fun i wr => ∃ k : Nat, k ≤ 8 ∧ i = .int .i64 k ∧ Below W0.heap.size W0 wr) (fun i _ => 8 - (intOf i).toNat)
  case atStart => exact ⟨0, by omega, rfl, HB⟩
  case round =>
    obtain ⟨k, hk, rfl, HBk⟩ := hrel
    by_cases hlt : k < 8
    · have c1 := Lib.hid (step_one k hlt)
      have c2 := Lib.hid (rstep_one k hlt)
      generalize dxN k = dx at c1 c2
      generalize dyN k = dy at c1 c2
      go_wp2_with fail
      (with_reducible refine (c1.out _).mono ?_)
      rintro e w2 ⟨rfl, hb2⟩
      go_wp2_with fail
      (with_reducible refine (c2.out _).mono ?_)
      rintro e w3 ⟨rfl, hb3⟩
      have HB3 := bel_trans (bel_trans HBk hb2) hb3
      clear hb2 hb3 c1 c2
      go_wp2
      go_roundw
      case rel => exact ⟨k + 1, by omega, by go_num, HB3⟩
      case measure => simp [intOf]; omega
    · obtain rfl : k = 8 := by omega
      by_cases hs : 1 ≤ a ∧ a ≤ 16 ∧ 1 ≤ b ∧ b ≤ 16
      · have cN := Lib.hid (fun w => gridNew_ex a b w hs)
        have cR := Lib.hid (fun w => rNew_ex a b w hs)
        clear hs
        go_wp2_with fail
        (with_reducible refine (cN.out _).mono ?_)
        rintro e w2 ⟨p, rfl, hp, hG, hb2⟩
        go_wp2_with fail
        (with_reducible refine (cR.out _).mono ?_)
        rintro e w3 ⟨q, rfl, hq, hR, hb3⟩
        have hpq : p < q := Nat.lt_of_lt_of_le hG.lt hq
        have hG3 := hG.below hb3 hG.lt
        have hwp : W0.heap.size ≤ p := Nat.le_trans HBk.size hp
        have HB3 := bel_trans (bel_trans HBk hb2) hb3
        have hstart : GSR W0 p q 0 w3 := ⟨_, 0, hG3, hR, by omega, by omega, HB3⟩
        clear hG hG3 hR hb2 hb3 HBk HB cN cR
        go_wp2_with fail
        go_loopw [19] (fun i wr => ∃ k : Nat, k ≤ n ∧ k ≤ n2 ∧ i = .int .i64 k ∧ GSR W0 p q k wr) (fun i _ => n - (intOf i).toNat)
        case atStart => exact ⟨0, by omega, by omega, rfl, hstart⟩
        case round =>
          obtain ⟨k, hk1, hk2, rfl, g, v, hG, hR, hv0, hv, HBk⟩ := hrel
          clear hstart
          by_cases hlt : k < n ∧ k < n2
          · obtain ⟨hl1, hl2⟩ := hlt
            obtain ⟨ad, hA⟩ := hI.addr (by omega)
            obtain ⟨ad2, hA2⟩ := hJ.addr (by omega)
            have hI' := hI
            rw [hA] at hI'
            have hJ' := hJ
            rw [hA2] at hJ'
            have hix := fun wx => idx_run (m := m) hA hl1 wx
            have hix2 := fun wx => bidx_run (m := m2) hA2 hl2 wx
            clear hA hA2
            have hE := hI'.cell HBk hl1
            have hE2 := hJ'.cell HBk hl2
            have q1 : (k : Int) < (n : Int) := by omega
            have q2 : (k : Int) < (n2 : Int) := by omega
            obtain ⟨did, ev, fe, g', v', v1, v2, _, _, cS, cRS, cE⟩ := set_both wr.drew p q g v (f k) (f2 k) hG hR (by omega) (by omega)
            have cS := Lib.hid cS
            have cRS := Lib.hid cRS
            have cE := Lib.hid cE
            go_upto_region 20 with (fail)
            go_cut [20, 21] (fun x y wx => x = .bool did ∧ y = ev ∧ GridAt wx p g' v' ∧ RGridAt wx q g v ∧ Below W0.heap.size W0 wx)
            case first =>
              go_region_with (go_at_call 45; refine (cS.out).mono ?_; rintro e w4 ⟨rfl, hG4, hR4, hk4⟩)
              all_goals
                go_wp2
                go_meet
                case rel => exact ⟨rfl, rfl, hG4, hR4, Kept.below (HBk.drew) hk4 HBk.size (by simp; omega)⟩
            case rest =>
              obtain ⟨rfl, rfl, hG4, hR4, HB4⟩ := hcut
              have hE := hI'.cell HB4 hl1
              have hE2 := hJ'.cell HB4 hl2
              go_upto_region 21 with (fail)
              go_cut [22, 23] (fun x y wx => x = .bool did ∧ y = .int .i64 fe ∧ GridAt wx p g' v' ∧ RGridAt wx q g' v' ∧ Below W0.heap.size W0 wx)
              case first =>
                go_region_with (go_at_call 46; refine (cRS.out wc.drew hR4).mono ?_; rintro e w5 ⟨rfl, hR5, hk5⟩)
                all_goals
                  go_wp2
                  go_meet
                  case rel => exact ⟨rfl, rfl, hG4.kept (w := wc.drew) hk5 (by simp; omega), hR5, Kept.below (HB4.drew) hk5 HB4.size (by simp; omega)⟩
              case rest =>
                obtain ⟨rfl, rfl, hG5, hR5, HB5⟩ := hcut
                cases did
                all_goals
                  go_wp2_with fail
                  (with_reducible refine (cE.out _).mono ?_)
                  rintro e w' ⟨rfl, rfl⟩
                  go_wp2
                  go_roundw
                  case rel => exact ⟨k + 1, by omega, by omega, by go_num, _, _, hG5, hR5, by omega, by omega, HB5⟩
                  case measure => simp [intOf]; omega
          · have hge : n ≤ k ∨ (k < n ∧ n2 ≤ k) := by omega
            clear hlt
            have hg0 : 0 < g.n := by
              obtain ⟨z1, z2, z3, z4⟩ := hG.1
              exact Nat.mul_pos z1 z3
            have hw0 := HBk.size
            rcases hge with hge | ⟨hge0, hge⟩
            all_goals
              go_wp2_with fail
              (with_reducible refine (gridCopy _ p g v hG).mono ?_)
              rintro e w4 ⟨rfl, hC, hb4, hz4⟩
              have hG4 := hG.below hb4 hG.lt
              have hR4 := hR.below hb4 hR.lt
              have HB4 := bel_trans HBk hb4
              have hpc : p < wr.heap.size := hG.lt
              have hqc : q < wr.heap.size := hR.lt
              generalize wr.heap.size = pc at *
              clear hG hR
              go_wp2_with fail
              (with_reducible refine (asGrid _ p q g v hG4 hR4).mono ?_)
              rintro e w5 ⟨rfl, hb5⟩
              have hG5 := hG4.below hb5 hG4.lt
              have hR5 := hR4.below hb5 hR4.lt
              have hC5 := hC.below hb5 hC.lt
              have HB5 := bel_trans HB4 hb5
              go_wp2_with fail
              (with_reducible refine (asGrid _ pc q g v hC5 hR5).mono ?_)
              rintro e w6 ⟨rfl, hb6⟩
              have hG6 := hG5.below hb6 hG5.lt
              have hR6 := hR5.below hb6 hR5.lt
              have hC6 := hC5.below hb6 hC5.lt
              have HB6 := bel_trans HB5 hb6
              clear hG4 hR4 hC hG5 hR5 hC5 HB4 HB5 hb4 hb5 hb6
              go_wp2_with fail
              refine (gridFree_in _ pc g v 0 hC6 hg0).mono ?_
              rintro e w7 ⟨rfl, hb7⟩
              have hG7 := hG6.below hb7 hG6.lt
              have hR7 := hR6.below hb7 hR6.lt
              have hC7 := hC6.below hb7 hC6.lt
              have HB7 := bel_trans HB6 hb7
              clear hb7 hG6 hR6 hC6 HB6
              go_wp2_with fail
              refine (gridSet_new _ pc g v 0 (!g.b 0) hC7 hg0 (by simp) (by omega)).mono ?_
              rintro e w8 ⟨rfl, hC8, hk8⟩
              have hG8 := hG7.kept hk8 (by simp; omega)
              have hR8 := hR7.kept hk8 (by simp; omega)
              have HB8 := Kept.below HB7 hk8 HB7.size (by simp; omega)
              clear hG7 hR7 hC7 HB7 hk8 hC8
              go_wp2_with fail
              (with_reducible refine (asGrid _ p q g v hG8 hR8).mono ?_)
              rintro e w9 ⟨rfl, hb9⟩
              have HB9 := bel_trans HB8 hb9
              go_wp2
              go_ret
              exact ⟨rfl, HB9⟩
      · have cN := Lib.hid (fun w => gridNew_bad a b w hs)
        have cR := Lib.hid (fun w => rNew_bad a b w hs)
        clear hs
        go_wp2_with fail
        (with_reducible refine (cN.out _).mono ?_)
        rintro e w' ⟨rfl, rfl⟩
        go_wp2_with fail
        (with_reducible refine (cR.out _).mono ?_)
        rintro e w' ⟨rfl, rfl⟩
        go_wp2_with fail
        (with_reducible refine (same_bad 1 _ (by decide)).mono ?_)
        rintro e w' ⟨rfl, rfl⟩
        go_wp2
        go_ret
        exact ⟨rfl, HBk⟩
end Go.Proofs.Ytkiogciokngjfaa
