/- What Set of package clear does, and the reference's Clear hands back. -/
import Derived.Test.YtkiogciokngjfaaClear2
set_option linter.unusedVariables false
set_option linter.unusedSimpArgs false
namespace Go.Proofs.Ytkiogciokngjfaa
open Go.RowKit Go.Sort FR
def Full (g : G) (f : Nat → Nat → Int) : Prop := ∀ c d, c < g.n → d < 8 → f c d = clrC g c d
theorem gset_op {g : G} (hg : g.ok) {c : Nat} {t : Bool} (hc : c < g.n) (u v : Int) (h : ¬ (u = (g.X c : Nat) ∧ v = (g.Y c : Nat))) : (gset g c t).op u v = g.op u v := by
  by_cases hin : 0 ≤ u ∧ u < g.w ∧ 0 ≤ v ∧ v < g.h
  · obtain ⟨h1, h2, h3, h4⟩ := hin
    obtain ⟨i, rfl⟩ := Int.eq_ofNat_of_zero_le h1
    obtain ⟨j, rfl⟩ := Int.eq_ofNat_of_zero_le h3
    unfold G.op gset
    simp only [Int.toNat_natCast]
    rw [upd_ne]
    intro e
    apply h
    have ei : g.X c = i := by rw [← e]; exact G.X_cell (by omega)
    have ej : g.Y c = j := by rw [← e]; exact G.Y_cell (by omega)
    rw [ei, ej]; exact ⟨rfl, rfl⟩
  · have e1 : (gset g c t).op u v = false := by unfold G.op gset; simp only; rw [decide_eq_false hin]; rfl
    have e2 : g.op u v = false := by unfold G.op; rw [decide_eq_false hin]; rfl
    rw [e1, e2]
/-- lines that have been counted: before (i, j, k) -/
def Vis (i j k i' j' k' : Nat) : Prop := i' < 3 ∧ j' < 3 ∧ k' < 8 ∧ (i' < i ∨ (i' = i ∧ (j' < j ∨ (j' = j ∧ k' < k))))
def SetR (W0 : World) (t p : Nat) (g' : G) (v' : Int) (f : Nat → Nat → Int) (x y : Int) (i j k : Nat) (w : World) : Prop :=
  ∃ f', TabAt w t p f' ∧ GridAt w p g' v' ∧ Recount g' f f' ∧ (∀ i' j' k', Vis i j k i' j' k' → inG g' (x - 1 + j') (y - 1 + i') → ∀ c m : Nat, Behind g' (x - 1 + j') (y - 1 + i') k' c m → f' c k' = clrC g' c k') ∧ Kept [t, p] W0 w
theorem SetR.mono {W0 : World} {t p : Nat} {g' : G} {v' : Int} {f : Nat → Nat → Int} {x y : Int} {i j k i2 j2 k2 : Nat} {w : World} (h : SetR W0 t p g' v' f x y i j k w) (hv : ∀ i' j' k', Vis i2 j2 k2 i' j' k' → Vis i j k i' j' k') : SetR W0 t p g' v' f x y i2 j2 k2 w := by
  obtain ⟨f', h1, h2, h3, h4, h5⟩ := h
  exact ⟨f', h1, h2, h3, fun i' j' k' hvv => h4 i' j' k' (hv _ _ _ hvv), h5⟩
theorem full_end {W0 w : World} {t p : Nat} {g : G} {v' : Int} {f : Nat → Nat → Int} {c0 : Nat} {b : Bool} (hg : g.ok) (hc0 : c0 < g.n) (hf : Full g f) (h : SetR W0 t p (gset g c0 b) v' f (g.X c0 : Nat) (g.Y c0 : Nat) 3 0 0 w) :
    ∃ f', TabAt w t p f' ∧ GridAt w p (gset g c0 b) v' ∧ Full (gset g c0 b) f' ∧ Kept [t, p] W0 w := by
  obtain ⟨f', h1, h2, h3, h4, h5⟩ := h
  refine ⟨f', h1, h2, fun c d hc hd => ?_, h5⟩
  rcases h3 c d with e | e
  · by_cases hq : clrC (gset g c0 b) c d = clrC g c d
    · rw [e, hf c d hc hd, hq]
    · have hne : (gset g c0 b).clr d (g.X c : Nat) (g.Y c : Nat) ≠ g.clr d (g.X c : Nat) (g.Y c : Nat) := by
        intro e'
        apply hq
        unfold clrC
        show (((gset g c0 b).clr d (g.X c : Nat) (g.Y c : Nat) : Nat) : Int) = _
        rw [e']
      obtain ⟨m, hm, hin, a1, a2, a3, a4⟩ := G.clr_differ hg (g' := gset g c0 b) rfl rfl (zx := (g.X c0 : Nat)) (zy := (g.Y c0 : Nat)) (gset_op hg hc0) hne
      obtain ⟨j', hj⟩ := Int.eq_ofNat_of_zero_le (show 0 ≤ (g.X c : Int) + m * dxN d - ((g.X c0 : Int) - 1) by omega)
      obtain ⟨i', hi⟩ := Int.eq_ofNat_of_zero_le (show 0 ≤ (g.Y c : Int) + m * dyN d - ((g.Y c0 : Int) - 1) by omega)
      have ej : (g.X c0 : Int) - 1 + j' = (g.X c : Int) + m * dxN d := by omega
      have ei : (g.Y c0 : Int) - 1 + i' = (g.Y c : Int) + m * dyN d := by omega
      refine h4 i' j' d ⟨by omega, by omega, hd, .inl (by omega)⟩ ?_ c m ⟨hc, ?_, ?_⟩
      · rw [ej, ei]; exact hin
      · rw [ej]; show (g.X c : Int) = _; omega
      · rw [ei]; show (g.Y c : Int) = _; omega
  · exact e
theorem Recount.lined {g : G} {f' f'' : Nat → Nat → Int} {x y : Int} {d : Nat} (k : Recount g f' f'') (h : inG g x y → ∀ c m : Nat, Behind g x y d c m → f' c d = clrC g c d) : inG g x y → ∀ c m : Nat, Behind g x y d c m → f'' c d = clrC g c d :=
  fun h0 c m hb => k.keep (h h0 c m hb)
theorem setR_step {W0 w1 w2 : World} {t p : Nat} {g' : G} {v' : Int} {f : Nat → Nat → Int} {x y : Int} {i j k : Nat} {f1 : Nat → Nat → Int}
    (h4 : ∀ i' j' k', Vis i j k i' j' k' → inG g' (x - 1 + j') (y - 1 + i') → ∀ c m : Nat, Behind g' (x - 1 + j') (y - 1 + i') k' c m → f1 c k' = clrC g' c k') (h3 : Recount g' f f1) (h5 : Kept [t, p] W0 w1)
    {e : Ending} (hl : LineD w1 t p g' v' f1 (x - 1 + j) (y - 1 + i) k e w2) : SetR W0 t p g' v' f x y i j (k + 1) w2 := by
  obtain ⟨_, f2, l1, l2, l3, l4, l5⟩ := hl
  refine ⟨f2, l1, l2, h3.trans l3, ?_, h5.trans (l5.more (by simp))⟩
  intro i' j' k' hv
  by_cases e : i' = i ∧ j' = j ∧ k' = k
  · obtain ⟨rfl, rfl, rfl⟩ := e; exact l4
  · refine l3.lined (h4 i' j' k' ?_)
    obtain ⟨v1, v2, v3, v4⟩ := hv
    exact ⟨v1, v2, v3, by omega⟩
/-- a cell is set, all is counted -/
def SetD (W0 : World) (t p : Nat) (g' : G) (v' : Int) (e : Ending) (w : World) : Prop := e = .returned (.tuple #[.bool true, .nilIface]) ∧ ∃ f', TabAt w t p f' ∧ GridAt w p g' v' ∧ Full g' f' ∧ Kept [t, p] W0 w
set_option maxHeartbeats 3200000 in
theorem tabSet_new (w : World) (t p : Nat) (f : Nat → Nat → Int) (g : G) (v : Int) (c : Nat) (b : Bool) (hT : TabAt w t p f) (hG : GridAt w p g v) (htp : t ≠ p) (hf : Full g f) (hc : c < g.n) (hb : g.b c = !b) (hv : 0 ≤ v ∧ v ≤ 1099511627776) :
    Calls Try.prog 52 #[.pointer (some ⟨t, 0, none⟩), .int .i64 (c : Nat), .bool b] w (SetD w t p (gset g c b) (v + 1)) := by
  have hok := hG.1
  have hX : g.X c < 16 := by have := G.X_lt hG.1 c; have := hG.1.2.1; omega
  have hY : g.Y c < 16 := by have := G.Y_lt hc; have := hG.1.2.2.2; omega
  have hc' : c < (gset g c b).n := hc
  have hne := Lib.hid htp
  have hf := Lib.hid hf
  have hb := Lib.hid hb
  clear htp
  have k0 := hT.ptr
  go_enter Try.func52, Try.ntmps52
  go_wp2_with fail
  (with_reducible refine (gridSet_new _ p g v c b hG hc hb.out hv).mono ?_)
  rintro e w1 ⟨rfl, hG1, hk1⟩
  have hT1 := hT.kept hk1 (by simp; exact hne.out)
  have hk1' : Kept [t, p] w w1 := hk1.more (by simp)
  clear k0
  have k0 := hT1.ptr
  go_wp2_with fail
  (with_reducible refine (gridPlace_in _ p (gset g c b) (v + 1) c hG1 hc').mono ?_)
  rintro e w2 ⟨rfl, hb2⟩
  have hstart : SetR w t p (gset g c b) (v + 1) f (g.X c : Nat) (g.Y c : Nat) 0 0 0 w2 := ⟨f, hT1.below hb2 hT1.lt, hG1.below hb2 hG1.lt, Recount.refl _ _, fun i' j' k' hv => by obtain ⟨_, _, _, h⟩ := hv; omega, hk1'.trans (.of_below hb2)⟩
  have eX : (gset g c b).X c = g.X c := rfl
  have eY : (gset g c b).Y c = g.Y c := rfl
  rw [eX, eY]
  clear k0 hT1 hG1 hk1 hk1' hb2 eX eY hT hG
  go_wp2_with fail
  go_loopw [13] (fun a wr => ∃ (i : Nat) (u : Int), i ≤ 3 ∧ a = .int .i64 u ∧ u = (g.Y c : Nat) - 1 + i ∧ SetR w t p (gset g c b) (v + 1) f (g.X c : Nat) (g.Y c : Nat) i 0 0 wr) (fun a _ => (30 - intOf a).toNat)
  case atStart => exact ⟨0, _, by omega, rfl, by omega, hstart⟩
  case round =>
    obtain ⟨i, u, hi, rfl, hu, hS⟩ := hrel
    clear hstart
    have u1 : -1 ≤ u := by omega
    have u2 : u ≤ 20 := by omega
    have Hu := Lib.hid hu
    by_cases hlt : i < 3
    · have u3 : u ≤ (g.Y c : Nat) + 1 := by omega
      clear hu
      go_wp2_with fail
      obtain ⟨wo, rfl⟩ : ∃ wo : World, wo = wr := ⟨_, rfl⟩
      go_loopw [14] (fun a wr => ∃ (j : Nat) (z : Int), j ≤ 3 ∧ a = .int .i64 z ∧ z = (g.X c : Nat) - 1 + j ∧ SetR w t p (gset g c b) (v + 1) f (g.X c : Nat) (g.Y c : Nat) i j 0 wr) (fun a _ => (30 - intOf a).toNat)
      case atStart => exact ⟨0, _, by omega, rfl, by omega, hS⟩
      case round =>
        obtain ⟨j, z, hj, rfl, hz, hS⟩ := hrel
        have z1 : -1 ≤ z := by omega
        have z2 : z ≤ 20 := by omega
        have Hz := Lib.hid hz
        by_cases hltj : j < 3
        · have z3 : z ≤ (g.X c : Nat) + 1 := by omega
          clear hz
          go_wp2_with fail
          obtain ⟨wp, rfl⟩ : ∃ wp : World, wp = wr := ⟨_, rfl⟩
          go_loopw [59] (fun a wr => ∃ k : Nat, k ≤ 8 ∧ a = .int .i64 k ∧ SetR w t p (gset g c b) (v + 1) f (g.X c : Nat) (g.Y c : Nat) i j k wr) (fun a _ => 8 - (intOf a).toNat)
          case atStart => exact ⟨0, by omega, rfl, hS⟩
          case round =>
            obtain ⟨k, hk, rfl, f1, s1, s2, s3, s4, s5⟩ := hrel
            by_cases hltk : k < 8
            · go_wp2_with fail
              (with_reducible refine (tabLine _ t p f1 (gset g c b) (v + 1) z u k s1 s2 hne.out hltk (by omega) (by omega)).mono ?_)
              rintro e w4 hL
              obtain ⟨rfl, hL'⟩ := hL
              have hL2 : SetR w t p (gset g c b) (v + 1) f (g.X c : Nat) (g.Y c : Nat) i j (k + 1) w4 := setR_step s4 s3 s5 (e := .returned (.tuple #[])) (by rw [← Hu.out, ← Hz.out]; exact ⟨rfl, hL'⟩)
              clear hL' s1 s2 s3 s4 s5
              go_wp2
              go_roundw
              case rel => exact ⟨k + 1, by omega, by go_num, hL2⟩
              case measure => simp [intOf]; omega
            · obtain rfl : k = 8 := by omega
              have hN : SetR w t p (gset g c b) (v + 1) f (g.X c : Nat) (g.Y c : Nat) i (j + 1) 0 wr := SetR.mono ⟨f1, s1, s2, s3, s4, s5⟩ (fun i' j' k' ⟨v1, v2, v3, v4⟩ => ⟨v1, v2, v3, by omega⟩)
              go_wp2
              go_roundw
              case rel => exact ⟨j + 1, _, by omega, rfl, by have := Hz.out; omega, hN⟩
              case measure => simp [intOf]; omega
        · obtain rfl : j = 3 := by omega
          have z3 : (g.X c : Nat) + 1 < z := by omega
          have hN : SetR w t p (gset g c b) (v + 1) f (g.X c : Nat) (g.Y c : Nat) (i + 1) 0 0 wr := hS.mono (fun i' j' k' ⟨v1, v2, v3, v4⟩ => ⟨v1, v2, v3, by omega⟩)
          clear hz
          go_wp2
          go_roundw
          case rel => exact ⟨i + 1, _, by omega, rfl, by have := Hu.out; omega, hN⟩
          case measure => simp [intOf]; omega
    · obtain rfl : i = 3 := by omega
      have u3 : (g.Y c : Nat) + 1 < u := by omega
      clear hu
      go_wp2
      go_ret2
      exact ⟨rfl, full_end hok hc hf.out hS⟩
theorem tabSet_same (w : World) (t p : Nat) (f : Nat → Nat → Int) (g : G) (v : Int) (c : Nat) (hT : TabAt w t p f) (hG : GridAt w p g v) (hc : c < g.n) :
    Calls Try.prog 52 #[.pointer (some ⟨t, 0, none⟩), .int .i64 (c : Nat), .bool (g.b c)] w fun e w' => e = .returned (.tuple #[.bool false, .nilIface]) ∧ Below w.heap.size w w' := by
  have k0 := hT.ptr
  have cS := gridSet_same w p g v c hG hc
  generalize g.b c = b at cS ⊢
  go_enter Try.func52, Try.ntmps52
  go_wp2_with fail
  (with_reducible refine (cS).mono ?_)
  rintro e w1 ⟨rfl, hb1⟩
  go_wp2
  go_ret2
  exact ⟨rfl, hb1⟩
theorem tabSet_out (w : World) (t p : Nat) (f : Nat → Nat → Int) (g : G) (v c : Int) (b : Bool) (hT : TabAt w t p f) (hG : GridAt w p g v) (hc : c < 0 ∨ g.n ≤ c) :
    Calls Try.prog 52 #[.pointer (some ⟨t, 0, none⟩), .int .i64 c, .bool b] w fun e w' => e = .returned (.tuple #[.bool false, .iface 137 (.int .i64 1)]) ∧ Below w.heap.size w w' := by
  have k0 := hT.ptr
  go_enter Try.func52, Try.ntmps52
  go_wp2_with fail
  (with_reducible refine (gridSet_out w p g v c b hG hc).mono ?_)
  rintro e w1 ⟨rfl, hb1⟩
  go_wp2
  go_ret2
  exact ⟨rfl, hb1⟩
theorem may_mayC (g : G) (c d : Nat) : g.may (g.X c : Nat) (g.Y c : Nat) d = g.mayC c d := rfl
set_option maxHeartbeats 1600000 in
theorem rClear (w : World) (p : Nat) (g : G) (v : Int) (c0 d : Nat) (h : RGridAt w p g v) (hc0 : c0 < g.n) (hd : d < 8) :
    Calls Try.prog 54 #[.pointer (some ⟨p, 0, none⟩), .int .i64 (c0 : Nat), .int .i64 (d : Nat)] w fun e w' => e = .returned (.int .i64 (clrC g c0 d)) ∧ Below w.heap.size w w' := by
  have hp := Lib.hid h.lt
  have hok := h.1
  obtain ⟨o1, o2, o3, o4⟩ := h.1
  have hn := G.n_le h.1
  obtain ⟨r, hr⟩ : ∃ r, clrC g c0 d = r := ⟨_, rfl⟩
  rw [hr]
  have Hr := Lib.hid hr
  clear hr
  go_enter Try.func54, Try.ntmps54
  go_wp2_with fail
  go_loopw [1, 7] (fun a i wr => ∃ k c : Nat, k ≤ 15 ∧ i = .int .i64 k ∧ a = .int .i64 c ∧ c < g.n ∧ (g.X c : Int) = g.X c0 + k * dxN d ∧ (g.Y c : Int) = g.Y c0 + k * dyN d ∧ G.run g d (g.X c0 : Nat) (g.Y c0 : Nat) k ∧ Below w.heap.size w wr) (fun _ i _ => 20 - (intOf i).toNat)
  case atStart => exact ⟨0, c0, by omega, rfl, rfl, hc0, by simp, by simp, G.run_zero _ _ _ _, Below.refl _ _⟩
  case round =>
    obtain ⟨k, c, hk, rfl, rfl, hc, hX, hY, hrun, HB⟩ := hrel
    have hin := inPG hok hc
    have eX : (c : Int) % g.w = (g.X c : Nat) := by unfold G.X; simp
    have eY : (c : Int) / g.w = (g.Y c : Nat) := by unfold G.Y; simp
    have hY16 := G.Y_lt hc
    have q1 : 0 ≤ (c : Int) / g.w := by omega
    have q2 : (c : Int) / g.w ≤ 256 := by omega
    have hf := Lib.hid (And.intro eX eY)
    have hXY := Lib.hid (And.intro hX hY)
    have Hrun := Lib.hid hrun
    have s1 := (h.below HB hp.out).size.1
    have s2 := cell_regrown s1
    clear eX eY hX hY hrun
    go_wp2_with fail
    refine wp_region_quiet_below (by kernel_rfl) (by kernel_rfl) ?_
    repeat (first | go_big_quiet_step ((with_reducible exact Calls.regrown_of (rMay_eq _ p g v c d _ _ (h.below (HB.trans ((below_regrown wr _ _).mono HB.size)) hp.out) hd hin hf.out.1 hf.out.2))) | quiet_step ((with_reducible exact Calls.regrown_of (rMay_eq _ p g v c d _ _ (h.below (HB.trans ((below_regrown wr _ _).mono HB.size)) hp.out) hd hin hf.out.1 hf.out.2))))
    refine wpQuiet_nil ?_
    intro _ hw'
    obtain ⟨⟨dq, osq⟩, hw''⟩ := hw'
    have HB2 := bel_trans HB (below_regrown wr dq osq)
    have hb2 := below_regrown wr dq osq
    subst hw''
    generalize grow (redrawn wr dq) osq = w2 at HB2 hb2 ⊢
    clear s1 s2 q1 q2
    cases hm : g.mayC c d with
    | false =>
      have e : r = (k : Int) := by
        rw [← Hr.out]
        unfold clrC
        rw [G.clr_eq hok Hrun.out (by rw [← hXY.out.1, ← hXY.out.2]; exact hm)]
      subst e
      clear hm
      go_wp2
      go_ret
      exact ⟨rfl, HB2⟩
    | true =>
      obtain ⟨ht1, ht2⟩ := to_eq hm
      obtain ⟨_, hx2, hy2⟩ := G.mayC_to hm
      have hr2 := G.run_succ Hrun.out (by rw [← hXY.out.1, ← hXY.out.2]; exact hm)
      have hk2 := G.run_bd hok hr2
      obtain ⟨c', hc'⟩ : ∃ c', g.to c d = c' := ⟨_, rfl⟩
      rw [hc'] at ht1 ht2 hx2 hy2
      have hX2 : (g.X c' : Int) = g.X c0 + ((k + 1 : Nat) : Int) * dxN d := by rw [hx2, hXY.out.1, Int.natCast_add, Int.add_mul]; omega
      have hY2 : (g.Y c' : Int) = g.Y c0 + ((k + 1 : Nat) : Int) * dyN d := by rw [hy2, hXY.out.2, Int.natCast_add, Int.add_mul]; omega
      have HXY2 := Lib.hid (And.intro hX2 hY2)
      have cT := Lib.hid (fun w' h' => rTo_eq w' p g v c d (c' : Nat) h' hc hd ht1)
      have Hr2 := Lib.hid hr2
      clear hc' hx2 hy2 hX2 hY2 ht1 hm hr2
      go_wp2_with fail
      (with_reducible refine (cT.out _ (h.below HB2 hp.out)).mono ?_)
      rintro e w3 ⟨rfl, hb3⟩
      go_wp2
      go_roundw
      case rel => exact ⟨k + 1, c', by omega, by go_num, rfl, ht2, HXY2.out.1, HXY2.out.2, Hr2.out, bel_trans HB2 hb3⟩
      case measure => simp [intOf]; omega
end Go.Proofs.Ytkiogciokngjfaa
