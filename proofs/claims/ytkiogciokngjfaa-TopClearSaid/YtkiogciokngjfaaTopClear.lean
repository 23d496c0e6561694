/- The law TopClear: for any plot, and whatever cells are turned, it returns true. -/
import Derived.Test.YtkiogciokngjfaaClearSays
set_option linter.unusedVariables false
set_option linter.unusedSimpArgs false
namespace Go.Proofs.Ytkiogciokngjfaa
open Go.RowKit Go.Sort FR
theorem clr21 : clrC ⟨(2 : Int).toNat, (1 : Int).toNat, fun _ => false⟩ 0 2 = 1 := by decide +kernel
theorem mayC_iff_clr {g : G} (hg : g.ok) {c d : Nat} : (g.mayC c d = true ↔ 0 < clrC g c d) := by
  unfold clrC
  obtain ⟨r, m⟩ := G.clr_spec hg d (g.X c : Nat) (g.Y c : Nat)
  generalize g.clr d (g.X c : Nat) (g.Y c : Nat) = k at r m ⊢
  constructor
  · intro h
    rcases Nat.eq_zero_or_pos k with rfl | hk
    · simp at m; rw [may_mayC, h] at m; cases m
    · omega
  · intro h
    have := r 0 (by omega)
    simp at this; rwa [may_mayC] at this
theorem clrC_to {g : G} (hg : g.ok) {c d : Nat} (h : g.mayC c d = true) : clrC g (g.to c d) d = clrC g c d - 1 := by
  obtain ⟨_, hx, hy⟩ := G.mayC_to h
  have hp := (mayC_iff_clr hg).1 h
  unfold clrC at *
  obtain ⟨r, m⟩ := G.clr_spec hg d (g.X c : Nat) (g.Y c : Nat)
  generalize g.clr d (g.X c : Nat) (g.Y c : Nat) = k at r m hp ⊢
  obtain ⟨j, rfl⟩ : ∃ j, k = j + 1 := ⟨k - 1, by omega⟩
  have e : g.clr d (g.X (g.to c d) : Nat) (g.Y (g.to c d) : Nat) = j := by
    refine G.clr_eq hg ?_ ?_
    · rw [hx, hy]; exact G.run_tail r
    · rw [hx, hy]
      rwa [show (g.X c : Int) + ((j+1 : Nat) : Int) * dxN d = (g.X c : Int) + dxN d + j * dxN d by rw [Int.natCast_add, Int.add_mul]; omega, show (g.Y c : Int) + ((j+1 : Nat) : Int) * dyN d = (g.Y c : Int) + dyN d + j * dyN d by rw [Int.natCast_add, Int.add_mul]; omega] at m
  rw [e]; omega
def TCR (W0 : World) (t p q k : Nat) (wr : World) : Prop := ∃ g v, TabFull wr t p g v ∧ RGridAt wr q g v ∧ 0 ≤ v ∧ v ≤ 300 + k ∧ Below W0.heap.size W0 wr
set_option maxRecDepth 100000 in
set_option maxHeartbeats 6400000 in
theorem topClear (W0 : World) (a b : Int) (A0 : Option Addr) (n0 m0 : Nat) (f0 : Nat → Int) (h0 : SlI W0 A0 n0 f0)
    (A : Option Addr) (n m : Nat) (f : Nat → Int) (h : SlI W0 A n f) :
    Calls Try.prog 14 #[.agg #[.int .i64 a, .int .i64 b, .slice A0 n0 m0], .slice A n m] W0 fun e w' => e = .returned (.bool true) ∧ Below W0.heap.size W0 w' := by
  obtain ⟨hI0, hl0, _⟩ := h0
  obtain ⟨hI, hl, _⟩ := h
  have hl0 := Lib.hid hl0
  go_enter Try.func14, Try.ntmps14
  go_upto_region 1 with (fail)
  refine wp_name ?_
  intro W hW
  have HW : Below W0.heap.size W0 W := by rw [hW]; (repeat' (first | exact Below.refl _ _ | assumption | apply bel_drewN | apply bel_drew | apply bel_alloc | (refine bel_trans ?_ (by assumption))))
  have k0 : ∀ w', Below W.heap.size W w' → w'.cell? ⟨W0.heap.size, 0, none⟩ = some (.int .i64 a : Value) := fun w' hbw => (hbw.cell (p := ⟨W0.heap.size, 0, none⟩) (by rw [hW]; simp <;> omega)).trans (by rw [hW]; go_simp)
  have k1 : ∀ w', Below W.heap.size W w' → w'.cell? ⟨W0.heap.size, 1, none⟩ = some (.int .i64 b : Value) := fun w' hbw => (hbw.cell (p := ⟨W0.heap.size, 1, none⟩) (by rw [hW]; simp <;> omega)).trans (by rw [hW]; go_simp)
  have k2 : ∀ w', Below W.heap.size W w' → w'.cell? ⟨W0.heap.size, 2, none⟩ = some (.slice A0 n0 m0 : Value) := fun w' hbw => (hbw.cell (p := ⟨W0.heap.size, 2, none⟩) (by rw [hW]; simp <;> omega)).trans (by rw [hW]; go_simp)
  clear hW
  go_wp2_with fail
  (with_reducible refine (gridNew_ex 2 1 _ (by decide)).mono ?_)
  rintro e w1 ⟨p1, rfl, hp1, hG1, hb1⟩
  go_wp2_with fail
  (with_reducible refine (tabNew_full _ p1 _ _ hG1).mono ?_)
  rintro e w2 ⟨t1, p2, rfl, _, _, hT1, hb2⟩
  have HB := bel_trans hb1 hb2
  go_wp2_with fail
  refine (full_steps _ t1 p2 _ _ 0 2 1 hT1 (by decide) (by decide) clr21).mono ?_
  rintro e w3 ⟨rfl, hb3⟩
  have HB := bel_trans HB hb3
  clear hb1 hb2 hb3 hG1 hT1
  go_wp2_with fail
  (with_reducible refine (laid_any a b A0 n0 m0 f0 _ ((hI0.below HW).below HB) hl0.out).mono ?_)
  rintro e w4 (⟨rfl, hb4⟩ | ⟨p0, q, g, v, rfl, hp0, hpq0, hG, hR, hv0, hv1, hb4⟩)
  · have HB4 := bel_trans (bel_trans HW HB) hb4
    go_wp2
    go_ret
    exact ⟨rfl, HB4⟩
  have HB4 := bel_trans (bel_trans HW HB) hb4
  have hwq : W0.heap.size ≤ q := by have := (bel_trans HW HB).size; omega
  clear k0 k1 k2 hb4 HB HW
  by_cases hn : 40 < n
  · go_wp2
    go_ret
    exact ⟨rfl, HB4⟩
  clear hl
  go_wp2_with fail
  (with_reducible refine (tabNew_full _ p0 g v hG).mono ?_)
  rintro e w5 ⟨t, p, rfl, hp, hpt, hT, hb5⟩
  have hqp : q < p := Nat.lt_of_lt_of_le hR.lt hp
  have HB5 := bel_trans HB4 hb5
  have hstart : TCR W0 t p q 0 w5 := ⟨g, v, hT, hR.below hb5 hR.lt, by omega, by omega, HB5⟩
  clear hT hR hG hb5 HB4 HB5
  go_wp2_with fail
  go_loopw [13] (fun i wr => ∃ k : Nat, k ≤ n ∧ i = .int .i64 k ∧ TCR W0 t p q k wr) (fun i _ => n - (intOf i).toNat)
  case atStart => exact ⟨0, by omega, rfl, hstart⟩
  case round =>
    obtain ⟨k, hk, rfl, g, v, hT, hR, hv0, hv, HBk⟩ := hrel
    clear hstart
    by_cases hlt : k < n
    · obtain ⟨ad, hA⟩ := hI.addr (by omega)
      have hI' := hI
      rw [hA] at hI'
      have hix := fun wx => idx_run (m := m) hA hlt wx
      clear hA
      have hE := hI'.cell HBk hlt
      have q1 : (k : Int) < (n : Int) := by omega
      by_cases hin : 0 ≤ f k ∧ f k < g.n
      · obtain ⟨i0, i1⟩ := hin
        obtain ⟨c, hc⟩ := Int.eq_ofNat_of_zero_le i0
        have hcn : c < g.n := by omega
        have hn256 := G.n_le hR.1
        rw [hc] at hE
        clear i0 i1
        go_wp2_with fail
        (with_reducible refine (rIs_in _ q g v c hR hcn).mono ?_)
        rintro e w6 ⟨rfl, hb6⟩
        have hT6 := hT.below hb6
        have hR6 := hR.below hb6 hR.lt
        have HB6 := bel_trans HBk hb6
        clear hb6 hT hR HBk hE
        have hE := hI'.cell HB6 hlt
        rw [hc] at hE
        have hbit := hR6.bit c (by omega)
        have q3 : (c : Int) < 256 := by omega
        go_wp2_with fail
        go_quiet (fail)
        have hT7 : TabFull (w6.drewN nq) t p g v := hT6
        have hR7 : RGridAt (w6.drewN nq) q g v := hR6
        have HB7 : Below W0.heap.size W0 (w6.drewN nq) := bel_drewN HB6
        clear hT6 hR6 HB6 hE hbit
        generalize w6.drewN nq = w7 at hT7 hR7 HB7 ⊢
        have hE := hI'.cell HB7 hlt
        rw [hc] at hE
        obtain ⟨ft, hft1, hft2, hft3⟩ := hT7
        have cS := Lib.hid (tabSet_new w7 t p ft g v c (!g.b c) hft1 hft2 (by omega) hft3 hcn (by simp) (by omega))
        have cR := Lib.hid (fun w' h' => rSet_new w' q g v c (!g.b c) h' hcn (by simp) (by omega))
        have Hc := Lib.hid hc
        clear hc
        obtain ⟨nb, hnb⟩ : ∃ nb, (!g.b c) = nb := ⟨_, rfl⟩
        rw [hnb] at cS cR ⊢
        clear hnb
        go_wp2_with fail
        (with_reducible refine (cS.out).mono ?_)
        rintro e w8 ⟨rfl, f8, t8, g8, u8, hk8⟩
        have hT8 : TabFull w8 t p (gset g c nb) (v + 1) := ⟨f8, t8, g8, u8⟩
        have hR8 := hR7.kept hk8 (by simp; omega)
        have HB8 := Kept.below HB7 hk8 HB7.size (by simp; omega)
        clear hE t8 g8 u8 hk8 hft1 hft2 hft3
        have hE := hI'.cell HB8 hlt
        rw [Hc.out] at hE
        go_wp2_with fail
        (with_reducible refine (cR.out _ hR8).mono ?_)
        rintro e w9 ⟨rfl, hR9, hk9⟩
        have hT9 := hT8.kept hk9 (by simp; omega) (by simp; omega)
        have HB9 := Kept.below HB8 hk9 HB8.size (by simp; omega)
        clear hE
        go_wp2
        go_roundw
        case rel => exact ⟨k + 1, by omega, by go_num, _, _, hT9, hR9, by omega, by omega, HB9⟩
        case measure => simp [intOf]; omega
      · have hout : f k < 0 ∨ g.n ≤ f k := by omega
        clear hin
        go_wp2_with fail
        (with_reducible refine (rIs_out _ q g v (f k) hR hout).mono ?_)
        rintro e w6 ⟨rfl, hb6⟩
        have hT6 := hT.below hb6
        have hR6 := hR.below hb6 hR.lt
        have HB6 := bel_trans HBk hb6
        clear hb6 hT hR HBk hE
        go_wp2
        go_roundw
        case rel => exact ⟨k + 1, by omega, by go_num, _, _, hT6, hR6, by omega, by omega, HB6⟩
        case measure => simp [intOf]; omega
    · obtain rfl : k = n := by omega
      clear hI
      have hql := Lib.hid hR.lt
      have hgn := G.n_le hR.1
      have hok := hR.1
      obtain ⟨o1, o2, o3, o4⟩ := hR.1
      have en : ((g.n : Nat) : Int) = (g.w : Int) * g.h := by unfold G.n; simp
      have e1 : (g.w : Int) * g.h ≤ (g.n : Nat) := by omega
      have e2 : ((g.n : Nat) : Int) ≤ (g.w : Int) * g.h := by omega
      have m1 : 0 ≤ (g.w : Int) * g.h := by omega
      clear en
      go_wp2_with fail
      obtain ⟨w0, rfl⟩ : ∃ w0 : World, w0 = wr := ⟨_, rfl⟩
      go_loopw [15] (fun i wr => ∃ c : Nat, c ≤ g.n ∧ i = .int .i64 c ∧ TabFull wr t p g v ∧ RGridAt wr q g v ∧ Below W0.heap.size W0 wr) (fun i _ => g.n - (intOf i).toNat)
      case atStart => exact ⟨0, by omega, rfl, hT, hR, HBk⟩
      case round =>
        obtain ⟨c, hc, rfl, hT, hR, HBc⟩ := hrel
        obtain ⟨s1, s2⟩ := hR.size
        have hw : IntKind.i64.wrap ((g.w : Int) * g.h) = (g.w : Int) * g.h := IntWalk.i64_in _ (by omega)
        by_cases hcn : c < g.n
        · have hd : decide ((c : Int) < (g.w : Int) * g.h) = true := by simp; omega
          go_wp2_with fail
          go_quiet (fail)
          clear s1 s2 hw hd
          go_wp2_with fail
          have hT1 : TabFull (wr.drewN nq) t p g v := hT
          have hR1 : RGridAt (wr.drewN nq) q g v := hR
          have HB1 : Below W0.heap.size W0 (wr.drewN nq) := bel_drewN HBc
          clear hT hR HBc
          generalize wr.drewN nq = w7 at hT1 hR1 HB1 ⊢
          obtain ⟨wp, rfl⟩ : ∃ wp : World, wp = wr := ⟨_, rfl⟩
          go_loopw [16] (fun i wr => ∃ d : Nat, d ≤ 8 ∧ i = .int .i64 d ∧ TabFull wr t p g v ∧ RGridAt wr q g v ∧ Below W0.heap.size W0 wr) (fun i _ => 8 - (intOf i).toNat)
          case atStart => exact ⟨0, by omega, rfl, hT1, hR1, HB1⟩
          case round =>
            obtain ⟨d, hd, rfl, hT, hR, HBd⟩ := hrel
            by_cases hd8 : d < 8
            · have hin := inPG hok hcn
              have eX : (c : Int) % g.w = (g.X c : Nat) := by unfold G.X; simp
              have eY : (c : Int) / g.w = (g.Y c : Nat) := by unfold G.Y; simp
              have hY16 := G.Y_lt hcn
              have y1 : 0 ≤ (c : Int) / g.w := by omega
              have y2 : (c : Int) / g.w ≤ 256 := by omega
              have hf := Lib.hid (And.intro eX eY)
              clear eX eY
              obtain ⟨z, hz⟩ : ∃ z, clrC g c d = z := ⟨_, rfl⟩
              have hmz := mayC_iff_clr hok (c := c) (d := d)
              have z0 : 0 ≤ z := by rw [← hz]; unfold clrC; omega
              have z1 : z ≤ 17 := by
                rw [← hz]; unfold clrC
                have := G.run_bd hok (G.clr_spec hok d (g.X c : Nat) (g.Y c : Nat)).1
                omega
              have cS := Lib.hid (fun w' h' => full_steps w' t p g v c d z h' hcn hd8 hz)
              rw [hz] at hmz
              have hz := Lib.hid hz
              have hmz := Lib.hid hmz
              go_wp2_with fail
              (with_reducible refine (cS.out _ hT).mono ?_)
              rintro e w8 ⟨rfl, hb8⟩
              have hT8 := hT.below hb8
              have hR8 := hR.below hb8 hR.lt
              have HB8 := bel_trans HBd hb8
              clear hb8 hT hR HBd
              have s1 := hR8.size.1
              have s2 := cell_regrown s1
              go_wp2_with fail
              refine wp_region_quiet_below (by kernel_rfl) (by kernel_rfl) ?_
              repeat (first | go_big_quiet_step ((with_reducible exact Calls.regrown_of (rMay_eq _ q g v c d _ _ (hR8.below (below_regrown w8 _ _) hR8.lt) hd8 hin hf.out.1 hf.out.2))) | quiet_step ((with_reducible exact Calls.regrown_of (rMay_eq _ q g v c d _ _ (hR8.below (below_regrown w8 _ _) hR8.lt) hd8 hin hf.out.1 hf.out.2))))
              refine wpQuiet_nil ?_
              intro _ hw'
              obtain ⟨⟨dq, osq⟩, hw''⟩ := hw'
              have HB9 := bel_trans HB8 (below_regrown w8 dq osq)
              have hb2 := below_regrown w8 dq osq
              subst hw''
              generalize grow (redrawn w8 dq) osq = w9 at HB9 hb2 ⊢
              clear s1 s2 y1 y2
              have hT9 := hT8.below hb2
              have hR9 := hR8.below hb2 hR8.lt
              clear hb2 hT8 hR8
              cases hm : g.mayC c d with
              | false =>
                have e : z = 0 := by
                  have : ¬ 0 < z := fun h => by rw [hmz.out.2 h] at hm; cases hm
                  omega
                subst e
                clear hm
                go_wp2
                go_roundw
                case rel => exact ⟨d + 1, by omega, by go_num, hT9, hR9, HB9⟩
                case measure => simp [intOf]; omega
              | true =>
                have z2 : 0 < z := hmz.out.1 hm
                have z3 : (z == 0) = false := by rw [beq_eq_false_iff_ne]; omega
                obtain ⟨ht1, ht2⟩ := to_eq hm
                have hs1 := clrC_to hok hm
                rw [hz.out] at hs1
                obtain ⟨c', hc'⟩ : ∃ c', g.to c d = c' := ⟨_, rfl⟩
                rw [hc'] at ht1 ht2 hs1
                have cT := Lib.hid (fun w' h' => rTo_eq w' q g v c d (c' : Nat) h' hcn hd8 ht1)
                have cS2 := Lib.hid (fun w' h' => full_steps w' t p g v c' d (z - 1) h' ht2 hd8 hs1)
                clear hm ht1 hs1 hc'
                go_wp2_with fail
                (with_reducible refine (cT.out _ hR9).mono ?_)
                rintro e w10 ⟨rfl, hb10⟩
                have hT10 := hT9.below hb10
                have hR10 := hR9.below hb10 hR9.lt
                have HB10 := bel_trans HB9 hb10
                go_wp2_with fail
                (with_reducible refine (cS2.out _ hT10).mono ?_)
                rintro e w11 ⟨rfl, hb11⟩
                have hT11 := hT10.below hb11
                have hR11 := hR10.below hb11 hR10.lt
                have HB11 := bel_trans HB10 hb11
                clear hb10 hb11 hT9 hR9 HB9 hT10 hR10 HB10
                go_wp2
                go_roundw
                case rel => exact ⟨d + 1, by omega, by go_num, hT11, hR11, HB11⟩
                case measure => simp [intOf]; omega
            · obtain rfl : d = 8 := by omega
              go_wp2
              go_roundw
              case rel => exact ⟨c + 1, by omega, by go_num, hT, hR, HBd⟩
              case measure => simp [intOf]; omega
        · obtain rfl : c = g.n := by omega
          have hd : decide (((g.n : Nat) : Int) < (g.w : Int) * g.h) = false := by simp; omega
          go_wp2_with fail
          go_quiet (fail)
          clear s1 s2 hw hd
          go_wp2
          go_ret
          exact ⟨rfl, bel_drewN HBc⟩
end Go.Proofs.Ytkiogciokngjfaa
