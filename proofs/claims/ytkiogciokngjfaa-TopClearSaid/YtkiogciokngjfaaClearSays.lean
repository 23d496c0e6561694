/- The law ClearSays: for any plot, and whatever cells are set, it returns true. -/
import Derived.Test.YtkiogciokngjfaaClear3
import Derived.Deep.RegionWith
import Derived.BigRegion
set_option linter.unusedVariables false
set_option linter.unusedSimpArgs false
namespace Go.Proofs.Ytkiogciokngjfaa
open Go.RowKit Go.Sort FR
def TabFull (w : World) (t p : Nat) (g : G) (v : Int) : Prop := ∃ f, TabAt w t p f ∧ GridAt w p g v ∧ Full g f
theorem TabFull.kept {S : List Nat} {w w' : World} {t p : Nat} {g : G} {v : Int} (h : TabFull w t p g v) (hk : Kept S w w') (ht : t ∉ S) (hp : p ∉ S) : TabFull w' t p g v := by
  obtain ⟨f, h1, h2, h3⟩ := h
  exact ⟨f, h1.kept hk ht, h2.kept hk hp, h3⟩
theorem TabFull.below {w w' : World} {t p : Nat} {g : G} {v : Int} (h : TabFull w t p g v) (hb : Below w.heap.size w w') : TabFull w' t p g v := h.kept (S := []) (.of_below hb) (by simp) (by simp)
theorem tabNew_full (w : World) (p0 : Nat) (g : G) (v : Int) (hG : GridAt w p0 g v) :
    Calls Try.prog 51 #[.pointer (some ⟨p0, 0, none⟩)] w fun e w' => ∃ t p, e = .returned (.pointer (some ⟨t, 0, none⟩)) ∧ w.heap.size ≤ p ∧ p < t ∧ TabFull w' t p g v ∧ Below w.heap.size w w' :=
  (tabNew w p0 g v hG).mono fun _ _ ⟨t, p, h1, h2, h3, f, h4, h5, h6, h7⟩ => ⟨t, p, h1, h2, h3, ⟨f, h4, h5, fun c d hc hd => h6 c d ⟨hc, hd⟩⟩, h7⟩
theorem tabset_both (w : World) (t p q : Nat) (g : G) (v c : Int) (b : Bool) (hT : TabFull w t p g v) (hR : RGridAt w q g v) (htp : t ≠ p) (hv : 0 ≤ v ∧ v ≤ 1099511627000) :
    ∃ (did : Bool) (ev : Value) (fe : Int) (g' : G) (v' : Int), v ≤ v' ∧ v' ≤ v + 1 ∧
      Calls Try.prog 52 #[.pointer (some ⟨t, 0, none⟩), .int .i64 c, .bool b] w (fun e w' => e = .returned (.tuple #[.bool did, ev]) ∧ TabFull w' t p g' v' ∧ Kept [t, p] w w') ∧
      (∀ w1, RGridAt w1 q g v → Calls Try.prog 46 #[.pointer (some ⟨q, 0, none⟩), .int .i64 c, .bool b] w1 (fun e w' => e = .returned (.tuple #[.bool did, .int .i64 fe]) ∧ RGridAt w' q g' v' ∧ Kept [q] w1 w')) ∧
      (∀ w1, Calls Try.prog 22 #[ev, .int .i64 fe] w1 (fun e w' => e = .returned (.bool true) ∧ w1 = w')) := by
  obtain ⟨f, h1, h2, h3⟩ := hT
  by_cases hin : 0 ≤ c ∧ c < g.n
  · obtain ⟨i0, i1⟩ := hin
    obtain ⟨k, rfl⟩ := Int.eq_ofNat_of_zero_le i0
    have hk : k < g.n := by omega
    by_cases hs : g.b k = b
    · subst hs
      exact ⟨false, .nilIface, 0, g, v, by omega, by omega, (tabSet_same w t p f g v k h1 h2 hk).mono fun _ _ ⟨a1, a2⟩ => ⟨a1, ⟨f, h1.below a2 h1.lt, h2.below a2 h2.lt, h3⟩, .of_below a2⟩,
        fun w1 h => (rSet_same w1 q g v k h hk).mono fun _ _ ⟨a1, a2⟩ => ⟨a1, h.below a2 h.lt, .of_below a2⟩, fun w1 => same_ok w1⟩
    · have ht : g.b k = !b := by cases h : g.b k <;> cases b <;> simp_all
      exact ⟨true, .nilIface, 0, gset g k b, v + 1, by omega, by omega, (tabSet_new w t p f g v k b h1 h2 htp h3 hk ht (by omega)).mono fun _ _ ⟨a1, f', a2, a3, a4, a5⟩ => ⟨a1, ⟨f', a2, a3, a4⟩, a5⟩,
        fun w1 h => rSet_new w1 q g v k b h hk ht (by omega), fun w1 => same_ok w1⟩
  · have hout : c < 0 ∨ g.n ≤ c := by omega
    exact ⟨false, .iface 137 (.int .i64 1), 1, g, v, by omega, by omega, (tabSet_out w t p f g v c b h1 h2 hout).mono fun _ _ ⟨a1, a2⟩ => ⟨a1, ⟨f, h1.below a2 h1.lt, h2.below a2 h2.lt, h3⟩, .of_below a2⟩,
      fun w1 h => (rSet_out w1 q g v c b h hout).mono fun _ _ ⟨a1, a2⟩ => ⟨a1, h.below a2 h.lt, .of_below a2⟩, fun w1 => same_bad 1 w1 (by decide)⟩
theorem clr31 : clrC ⟨(3 : Int).toNat, (1 : Int).toNat, fun _ => false⟩ 0 2 = 2 := by decide +kernel
theorem full_steps (w : World) (t p : Nat) (g : G) (v : Int) (c d : Nat) (z : Int) (h : TabFull w t p g v) (hc : c < g.n) (hd : d < 8) (e : clrC g c d = z) :
    Calls Try.prog 53 #[.pointer (some ⟨t, 0, none⟩), .int .i64 (c : Nat), .int .i64 (d : Nat)] w fun e w' => e = .returned (.tuple #[.int .i64 z, .nilIface]) ∧ Below w.heap.size w w' := by
  obtain ⟨f, h1, h2, h3⟩ := h
  have := tabSteps_in w t p f g v c d h1 h2 hc hd
  rwa [h3 c d hc hd, e] at this
theorem full_out (w : World) (t p : Nat) (g : G) (v : Int) (c d : Int) (h : TabFull w t p g v) (hcd : (c < 0 ∨ g.n ≤ c) ∨ (d < 0 ∨ 8 ≤ d)) :
    Calls Try.prog 53 #[.pointer (some ⟨t, 0, none⟩), .int .i64 c, .int .i64 d] w fun e w' => e = .returned (.tuple #[.int .i64 0, .iface 137 (.int .i64 1)]) ∧ Below w.heap.size w w' := by
  obtain ⟨f, h1, h2, h3⟩ := h
  by_cases hc : c < 0 ∨ g.n ≤ c
  · exact tabSteps_cell w t p f g v c d h1 h2 hc
  · obtain ⟨k, rfl⟩ := Int.eq_ofNat_of_zero_le (show 0 ≤ c by omega)
    exact tabSteps_dir w t p f g v k d h1 h2 (by omega) (by omega)
theorem clears_true (w : World) : Calls Try.prog 50 #[] w fun e w' => e = .returned (.bool true) ∧ Below w.heap.size w w' := by
  go_enter Try.func50, Try.ntmps50
  go_wp2_with fail
  (with_reducible refine (gridNew_ex 3 1 _ (by decide)).mono ?_)
  rintro e w1 ⟨p0, rfl, hp0, hG, hb1⟩
  go_wp2_with fail
  (with_reducible refine (tabNew_full _ p0 _ _ hG).mono ?_)
  rintro e w2 ⟨t, p, rfl, hp, hpt, hT, hb2⟩
  have HB2 := bel_trans hb1 hb2
  go_wp2_with fail
  refine (full_steps _ t p _ _ 0 2 2 hT (by decide) (by decide) clr31).mono ?_
  rintro e w3 ⟨rfl, hb3⟩
  have HB3 := bel_trans HB2 hb3
  go_wp2_with fail
  (with_reducible refine (same_ok _).mono ?_)
  rintro e w' ⟨rfl, rfl⟩
  go_wp2
  go_ret
  exact ⟨rfl, HB3⟩
def CSR (W0 : World) (t p q k : Nat) (wr : World) : Prop := ∃ g v, TabFull wr t p g v ∧ RGridAt wr q g v ∧ 0 ≤ v ∧ v ≤ 300 + k ∧ Below W0.heap.size W0 wr
theorem rClear_eq (w : World) (p : Nat) (g : G) (v : Int) (c d : Nat) (z : Int) (h : RGridAt w p g v) (hc : c < g.n) (hd : d < 8) (e : clrC g c d = z) :
    Calls Try.prog 54 #[.pointer (some ⟨p, 0, none⟩), .int .i64 (c : Nat), .int .i64 (d : Nat)] w fun e w' => e = .returned (.int .i64 z) ∧ Below w.heap.size w w' := by
  rw [← e]; exact rClear w p g v c d h hc hd
set_option maxRecDepth 100000 in
set_option maxHeartbeats 6400000 in
theorem clearSays (W0 : World) (a b : Int) (A0 : Option Addr) (n0 m0 : Nat) (f0 : Nat → Int) (h0 : SlI W0 A0 n0 f0)
    (A : Option Addr) (n m : Nat) (f : Nat → Int) (h : SlI W0 A n f) (A2 : Option Addr) (n2 m2 : Nat) (f2 : Nat → Bool) (h2 : SlB W0 A2 n2 f2) :
    Calls Try.prog 6 #[.agg #[.int .i64 a, .int .i64 b, .slice A0 n0 m0], .slice A n m, .slice A2 n2 m2] W0 fun e w' => e = .returned (.bool true) ∧ Below W0.heap.size W0 w' := by
  obtain ⟨hI0, hl0, _⟩ := h0
  obtain ⟨hI, hl, _⟩ := h
  obtain ⟨hJ, hl2⟩ := h2
  have hl0 := Lib.hid hl0
  go_enter Try.func6, Try.ntmps6
  go_upto_region 1 with (fail)
  refine wp_name ?_
  intro W hW
  have HW : Below W0.heap.size W0 W := by rw [hW]; (repeat' (first | exact Below.refl _ _ | assumption | apply bel_drewN | apply bel_drew | apply bel_alloc | (refine bel_trans ?_ (by assumption))))
  have k0 : ∀ w', Below W.heap.size W w' → w'.cell? ⟨W0.heap.size, 0, none⟩ = some (.int .i64 a : Value) := fun w' hbw => (hbw.cell (p := ⟨W0.heap.size, 0, none⟩) (by rw [hW]; simp <;> omega)).trans (by rw [hW]; go_simp)
  have k1 : ∀ w', Below W.heap.size W w' → w'.cell? ⟨W0.heap.size, 1, none⟩ = some (.int .i64 b : Value) := fun w' hbw => (hbw.cell (p := ⟨W0.heap.size, 1, none⟩) (by rw [hW]; simp <;> omega)).trans (by rw [hW]; go_simp)
  have k2 : ∀ w', Below W.heap.size W w' → w'.cell? ⟨W0.heap.size, 2, none⟩ = some (.slice A0 n0 m0 : Value) := fun w' hbw => (hbw.cell (p := ⟨W0.heap.size, 2, none⟩) (by rw [hW]; simp <;> omega)).trans (by rw [hW]; go_simp)
  clear hW
  go_wp2_with fail
  (with_reducible refine (clears_true _).mono ?_)
  rintro e w1 ⟨rfl, HB⟩
  by_cases hn : 40 < n
  · go_wp2
    go_ret
    exact ⟨rfl, bel_trans HW HB⟩
  by_cases hn2 : 40 < n2
  · go_wp2
    go_ret
    exact ⟨rfl, bel_trans HW HB⟩
  clear hl hl2
  go_wp2_with fail
  (with_reducible refine (laid_any a b A0 n0 m0 f0 _ ((hI0.below HW).below HB) hl0.out).mono ?_)
  rintro e w2 (⟨rfl, hb2⟩ | ⟨p0, q, g, v, rfl, hp0, hpq0, hG, hR, hv0, hv1, hb2⟩)
  · have HB2 := bel_trans (bel_trans HW HB) hb2
    go_wp2
    go_ret
    exact ⟨rfl, HB2⟩
  have HB2 := bel_trans (bel_trans HW HB) hb2
  have hwq : W0.heap.size ≤ q := by have := (bel_trans HW HB).size; omega
  clear k0 k1 k2 hb2 HB HW
  go_wp2_with fail
  (with_reducible refine (tabNew_full _ p0 g v hG).mono ?_)
  rintro e w3 ⟨t, p, rfl, hp, hpt, hT, hb3⟩
  have hqp : q < p := Nat.lt_of_lt_of_le hR.lt hp
  have HB3 := bel_trans HB2 hb3
  have hstart : CSR W0 t p q 0 w3 := ⟨g, v, hT, hR.below hb3 hR.lt, by omega, by omega, HB3⟩
  clear hT hR hG hb3 HB2 HB3
  go_wp2_with fail
  go_loopw [12] (fun i wr => ∃ k : Nat, k ≤ n ∧ k ≤ n2 ∧ i = .int .i64 k ∧ CSR W0 t p q k wr) (fun i _ => n - (intOf i).toNat)
  case atStart => exact ⟨0, by omega, by omega, rfl, hstart⟩
  case round =>
    obtain ⟨k, hk1, hk2, rfl, g, v, hT, hR, hv0, hv, HBk⟩ := hrel
    clear hstart
    by_cases hlt : k < n ∧ k < n2
    · obtain ⟨hl1, hl2⟩ := hlt
      obtain ⟨ad, hA⟩ := hI.addr (by omega)
      obtain ⟨ad2, hA2⟩ := hJ.addr (by omega)
      have hI' := hI
      rw [hA] at hI'
      have hJ' := hJ
      rw [hA2] at hJ'
      have hix := fun wx => idx_run (m := m) hA hl1 wx
      have hix2 := fun wx => bidx_run (m := m2) hA2 hl2 wx
      clear hA hA2
      have hE := hI'.cell HBk hl1
      have hE2 := hJ'.cell HBk hl2
      have q1 : (k : Int) < (n : Int) := by omega
      have q2 : (k : Int) < (n2 : Int) := by omega
      obtain ⟨did, ev, fe, g', v', v1, v2, cS, cRS, cE⟩ := tabset_both wr.drew t p q g v (f k) (f2 k) hT hR (by omega) (by omega)
      have cS := Lib.hid cS
      have cRS := Lib.hid cRS
      have cE := Lib.hid cE
      go_upto_region 13 with (fail)
      go_cut [13, 14] (fun x y wx => x = .bool did ∧ y = ev ∧ TabFull wx t p g' v' ∧ RGridAt wx q g v ∧ Below W0.heap.size W0 wx)
      case first =>
        go_region_with (go_at_call 52; refine (cS.out).mono ?_; rintro e w4 ⟨rfl, hT4, hk4⟩)
        all_goals
          go_wp2
          go_meet
          case rel => exact ⟨rfl, rfl, hT4, hR.kept (w := wr.drew) hk4 (by simp; omega), Kept.below (HBk.drew) hk4 HBk.size (by simp; omega)⟩
      case rest =>
        obtain ⟨rfl, rfl, hT4, hR4, HB4⟩ := hcut
        have hE := hI'.cell HB4 hl1
        have hE2 := hJ'.cell HB4 hl2
        go_upto_region 14 with (fail)
        go_cut [15, 16] (fun x y wx => x = .bool did ∧ y = .int .i64 fe ∧ TabFull wx t p g' v' ∧ RGridAt wx q g' v' ∧ Below W0.heap.size W0 wx)
        case first =>
          go_region_with (go_at_call 46; refine (cRS.out wc.drew hR4).mono ?_; rintro e w5 ⟨rfl, hR5, hk5⟩)
          all_goals
            go_wp2
            go_meet
            case rel => exact ⟨rfl, rfl, hT4.kept (w := wc.drew) hk5 (by simp; omega) (by simp; omega), hR5, Kept.below (HB4.drew) hk5 HB4.size (by simp; omega)⟩
        case rest =>
          obtain ⟨rfl, rfl, hT5, hR5, HB5⟩ := hcut
          cases did
          all_goals
            go_wp2_with fail
            (with_reducible refine (cE.out _).mono ?_)
            rintro e w' ⟨rfl, rfl⟩
            go_wp2
            go_roundw
            case rel => exact ⟨k + 1, by omega, by omega, by go_num, _, _, hT5, hR5, by omega, by omega, HB5⟩
            case measure => simp [intOf]; omega
    · have hge : n ≤ k ∨ (k < n ∧ n2 ≤ k) := by omega
      clear hlt
      have hql := Lib.hid hR.lt
      have hgn := G.n_le hR.1
      obtain ⟨o1, o2, o3, o4⟩ := hR.1
      have en : ((g.n : Nat) : Int) = (g.w : Int) * g.h := by unfold G.n; simp
      have e1 : (g.w : Int) * g.h ≤ (g.n : Nat) := by omega
      have e2 : ((g.n : Nat) : Int) ≤ (g.w : Int) * g.h := by omega
      have m1 : 0 ≤ (g.w : Int) * g.h := by omega
      clear en
      go_upto_region 11 with (fail)
      go_cut [56] (fun s wx => s = .bool false ∧ wx = wr)
      case first =>
        rcases hge with hge | ⟨hge0, hge⟩
        all_goals
          go_wp2
          go_meet
          case rel => first | exact ⟨rfl, rfl⟩ | exact ⟨by simp; omega, rfl⟩
      case rest =>
        obtain ⟨rfl, hwc⟩ := hcut
        rw [hwc]
        clear hwc
        go_wp2_with fail
        obtain ⟨w0, rfl⟩ : ∃ w0 : World, w0 = wr := ⟨_, rfl⟩
        go_loopw [17] (fun i wr => ∃ (j : Nat) (ci : Int), j ≤ g.n + 2 ∧ i = .int .i64 ci ∧ ci = (j : Int) - 1 ∧ TabFull wr t p g v ∧ RGridAt wr q g v ∧ Below W0.heap.size W0 wr) (fun i _ => (g.n + 2 - intOf i).toNat)
        case atStart => exact ⟨0, -1, by omega, rfl, by omega, hT, hR, HBk⟩
        case round =>
          obtain ⟨j, ci, hj, rfl, hci, hT, hR, HBj⟩ := hrel
          have c1 : -1 ≤ ci := by omega
          have c2 : ci ≤ 300 := by omega
          have Hci := Lib.hid hci
          obtain ⟨s1, s2⟩ := hR.size
          have hw : IntKind.i64.wrap ((g.w : Int) * g.h) = (g.w : Int) * g.h := IntWalk.i64_in _ (by omega)
          by_cases hlt : ci ≤ g.n
          · have hd : decide (ci ≤ (g.w : Int) * g.h) = true := by simp; omega
            clear hci
            go_wp2_with fail
            go_quiet (fail)
            clear s1 s2 hw hd
            go_wp2_with fail
            have hT1 : TabFull (wr.drewN nq) t p g v := hT
            have hR1 : RGridAt (wr.drewN nq) q g v := hR
            have HB1 : Below W0.heap.size W0 (wr.drewN nq) := bel_drewN HBj
            clear hT hR HBj
            generalize wr.drewN nq = w7 at hT1 hR1 HB1 ⊢
            obtain ⟨wp, rfl⟩ : ∃ wp : World, wp = wr := ⟨_, rfl⟩
            go_loopw [18] (fun i wr => ∃ (l : Nat) (di : Int), l ≤ 10 ∧ i = .int .i64 di ∧ di = (l : Int) - 1 ∧ TabFull wr t p g v ∧ RGridAt wr q g v ∧ Below W0.heap.size W0 wr) (fun i _ => (20 - intOf i).toNat)
            case atStart => exact ⟨0, -1, by omega, rfl, by omega, hT1, hR1, HB1⟩
            case round =>
              obtain ⟨l, di, hl, rfl, hdi, hT, hR, HBl⟩ := hrel
              have d1 : -1 ≤ di := by omega
              have d2 : di ≤ 20 := by omega
              have Hdi := Lib.hid hdi
              by_cases hltd : l < 10
              · have d3 : di < 9 := by omega
                clear hdi
                by_cases hin : 0 ≤ ci ∧ ci < g.n
                · by_cases hdin : 0 ≤ di ∧ di < 8
                  · obtain ⟨c, hc⟩ := Int.eq_ofNat_of_zero_le hin.1
                    obtain ⟨d, hd⟩ := Int.eq_ofNat_of_zero_le hdin.1
                    have hcn : c < g.n := by omega
                    have hd8 : d < 8 := by omega
                    obtain ⟨z, hz⟩ : ∃ z, clrC g c d = z := ⟨_, rfl⟩
                    have cS := Lib.hid (fun w' h' => full_steps w' t p g v c d z h' hcn hd8 hz)
                    have cR := Lib.hid (fun w' h' => rClear_eq w' q g v c d z h' hcn hd8 hz)
                    have cI := Lib.hid (fun w' h' => rIs_in w' q g v c h' hcn)
                    rw [← hc, ← hd] at cS cR
                    rw [← hc] at cI
                    obtain ⟨x1, x2⟩ := hin
                    obtain ⟨x3, x4⟩ := hdin
                    clear hc hd hz
                    go_wp2_with fail
                    (with_reducible refine (cS.out _ hT).mono ?_)
                    rintro e w8 ⟨rfl, hb8⟩
                    have hT8 := hT.below hb8
                    have hR8 := hR.below hb8 hR.lt
                    have HB8 := bel_trans HBl hb8
                    go_wp2_with fail
                    (with_reducible refine (cI.out _ hR8).mono ?_)
                    rintro e w9 ⟨rfl, hb9⟩
                    have hT9 := hT8.below hb9
                    have hR9 := hR8.below hb9 hR8.lt
                    have HB9 := bel_trans HB8 hb9
                    go_wp2_with fail
                    (with_reducible refine (cR.out _ hR9).mono ?_)
                    rintro e w10 ⟨rfl, hb10⟩
                    have hT10 := hT9.below hb10
                    have hR10 := hR9.below hb10 hR9.lt
                    have HB10 := bel_trans HB9 hb10
                    clear hb8 hb9 hb10 hT hR HBl hT8 hR8 HB8 hT9 hR9 HB9
                    go_wp2
                    go_roundw
                    case rel => exact ⟨l + 1, _, by omega, rfl, by have := Hdi.out; omega, hT10, hR10, HB10⟩
                    case measure => simp [intOf]; omega
                  · obtain ⟨c, hc⟩ := Int.eq_ofNat_of_zero_le hin.1
                    have hcn : c < g.n := by omega
                    have cS := Lib.hid (fun w' h' => full_out w' t p g v ci di h' (.inr (by omega)))
                    have cI := Lib.hid (fun w' h' => rIs_in w' q g v c h' hcn)
                    rw [← hc] at cI
                    have hdo : di < 0 ∨ (0 ≤ di ∧ 7 < di) := by omega
                    clear hc hdin hin
                    rcases hdo with x3 | ⟨x3, x4⟩
                    all_goals
                      go_wp2_with fail
                      (with_reducible refine (cS.out _ hT).mono ?_)
                      rintro e w8 ⟨rfl, hb8⟩
                      have hT8 := hT.below hb8
                      have hR8 := hR.below hb8 hR.lt
                      have HB8 := bel_trans HBl hb8
                      go_wp2_with fail
                      (with_reducible refine (cI.out _ hR8).mono ?_)
                      rintro e w9 ⟨rfl, hb9⟩
                      have hT9 := hT8.below hb9
                      have hR9 := hR8.below hb9 hR8.lt
                      have HB9 := bel_trans HB8 hb9
                      go_wp2_with fail
                      (with_reducible refine (same_bad 1 _ (by decide)).mono ?_)
                      rintro e w' ⟨rfl, rfl⟩
                      clear hb8 hb9 hT hR HBl hT8 hR8 HB8
                      go_wp2
                      go_roundw
                      case rel => exact ⟨l + 1, _, by omega, rfl, by have := Hdi.out; omega, hT9, hR9, HB9⟩
                      case measure => simp [intOf]; omega
                · have hout : ci < 0 ∨ g.n ≤ ci := by omega
                  have cS := Lib.hid (fun w' h' => full_out w' t p g v ci di h' (.inl hout))
                  have cI := Lib.hid (fun w' h' => rIs_out w' q g v ci h' hout)
                  clear hin hout
                  go_wp2_with fail
                  (with_reducible refine (cS.out _ hT).mono ?_)
                  rintro e w8 ⟨rfl, hb8⟩
                  have hT8 := hT.below hb8
                  have hR8 := hR.below hb8 hR.lt
                  have HB8 := bel_trans HBl hb8
                  go_wp2_with fail
                  (with_reducible refine (cI.out _ hR8).mono ?_)
                  rintro e w9 ⟨rfl, hb9⟩
                  have hT9 := hT8.below hb9
                  have hR9 := hR8.below hb9 hR8.lt
                  have HB9 := bel_trans HB8 hb9
                  go_wp2_with fail
                  (with_reducible refine (same_bad 1 _ (by decide)).mono ?_)
                  rintro e w' ⟨rfl, rfl⟩
                  clear hb8 hb9 hT hR HBl hT8 hR8 HB8
                  go_wp2
                  go_roundw
                  case rel => exact ⟨l + 1, _, by omega, rfl, by have := Hdi.out; omega, hT9, hR9, HB9⟩
                  case measure => simp [intOf]; omega
              · have d3 : 9 ≤ di := by omega
                clear hdi
                go_wp2
                go_roundw
                case rel => first | exact ⟨j + 1, _, by have := Hci.out; omega, rfl, by have := Hci.out; omega, hT, hR, HBl⟩ | ((repeat apply Exists.intro); exact ⟨⟨j + 1, _, by have := Hci.out; omega, rfl, by have := Hci.out; omega, hT, hR, HBl⟩, rfl⟩)
                case measure => simp [intOf]; omega
          · have hd : decide (ci ≤ (g.w : Int) * g.h) = false := by simp; omega
            clear hci
            go_wp2_with fail
            go_quiet (fail)
            clear s1 s2 hw hd
            go_wp2
            go_ret
            exact ⟨rfl, bel_drewN HBj⟩
end Go.Proofs.Ytkiogciokngjfaa
